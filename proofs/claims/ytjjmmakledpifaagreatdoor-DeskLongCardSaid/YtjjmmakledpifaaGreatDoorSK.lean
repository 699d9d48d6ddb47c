/-
  Functions without a body.
-/
import Derived.Lib.Bytealg
import Derived.Lib.Index
import Derived.Test.YtjjmmakledpifaaGreatDoorSI
set_option linter.unusedVariables false
set_option linter.unusedSimpArgs false
namespace Go.Ra
variable {P : Program} {m : Mp} {h : TB} {nx : Nat} {w : World} {nt : Nat} {a : Act} {z : TV} {ft : TF} {ex : Exec}

theorem callFunc_ext {f : Nat} {fn : Func} (hf : P.funcs[f]? = some fn) (hno : fn.name ≠ "runtime.NumGoroutine") (hb : fn.body = none) (hnx : Extern.findNext fn = none) {row : Array Value → Sem Value} (hx : Extern.find fn = some row) {l : Array Value} {v' : Value} {w' : World} (hr : (row l).run P w = .ok v' w') :
    (callFunc f l).run P w = .ok (.value v') w' := by
  have h1 : (fn.name == "runtime.NumGoroutine") = false := by simpa using hno
  unfold callFunc
  simp only [Sem.run_bind, run_program, Result.andThen_ok, hf, h1, hb, Option.isNone_none, hnx, hx, Bool.false_eq_true, if_false, if_true]
  rw [show Sem.run P (mark (.extern f)) w = .ok () w from rfl]
  simp only [Result.andThen_ok, hr, Sem.run_pure]
theorem find_same {fn : Func} (hn : fn.name = "internal/abi.NoEscape") (ho : fn.origin = "") : Extern.findNext fn = none ∧ Extern.find fn = some Extern.AbiNoEscape.same := by
  unfold Extern.findNext Extern.find
  rw [hn, ho]
  exact ⟨rfl, rfl⟩
theorem find_index {fn : Func} (hn : fn.name = "internal/bytealg.IndexByteString") (ho : fn.origin = "") : Extern.findNext fn = none ∧ Extern.find fn = some Extern.BytealgIndexByte.indexByte := by
  unfold Extern.findNext Extern.find
  rw [hn, ho]
  exact ⟨rfl, rfl⟩
theorem find_count {fn : Func} (hn : fn.name = "internal/bytealg.CountString") (ho : fn.origin = "") : Extern.findNext fn = none ∧ Extern.find fn = some Extern.BytealgCount.count := by
  unfold Extern.findNext Extern.find
  rw [hn, ho]
  exact ⟨rfl, rfl⟩
theorem find_make {fn : Func} (hn : fn.name = "internal/bytealg.MakeNoZero") (ho : fn.origin = "") : Extern.findNext fn = none ∧ Extern.find fn = some (Extern.BytealgMakeNoZero.makeNoZero fn.params fn.resultTypes) := by
  unfold Extern.findNext Extern.find
  rw [hn, ho]
  exact ⟨rfl, rfl⟩

theorem beq_byte (b : UInt8) (c : Nat) (hc : c ≤ 255) : (b == UInt8.ofNat c) = Nat.beq b.toNat c := by
  rw [Bool.eq_iff_iff, nbeq_iff, beq_iff_eq]
  constructor
  · rintro rfl; exact UInt8.toNat_ofNat_of_lt' (by show c < 256; omega)
  · rintro rfl; simp
theorem find_drop (l : List UInt8) (c : Nat) (hc : c ≤ 255) : ∀ (f i : Nat), i + f = l.length →
    (∃ j, findB (packL l) c f i = some j ∧ i ≤ j ∧ Lib.indexByte (l.drop i) (UInt8.ofNat c) = ((j - i : Nat) : Int)) ∨ (findB (packL l) c f i = none ∧ Lib.indexByte (l.drop i) (UInt8.ofNat c) = -1) := by
  intro f
  induction f with
  | zero =>
    intro i hi
    rw [List.drop_of_length_le (by omega)]
    exact .inr ⟨rfl, rfl⟩
  | succ f ih =>
    intro i hi
    have hlt : i < l.length := by omega
    rw [List.drop_eq_getElem_cons hlt]
    have e : findB (packL l) c (f + 1) i = Bool.rec (findB (packL l) c f (i + 1)) (some i) (Nat.beq (byteAt (packL l) i) c) := rfl
    rw [e, byteAt_lt hlt]
    unfold Lib.indexByte
    rw [beq_byte _ c hc]
    cases hb : Nat.beq l[i].toNat c with
    | true => exact .inl ⟨i, rfl, Nat.le_refl _, by simp⟩
    | false =>
      simp only [Bool.false_eq_true, if_false]
      rcases ih (i + 1) (by omega) with ⟨j, h1, h2, h3⟩ | ⟨h1, h2⟩
      · refine .inl ⟨j, h1, by omega, ?_⟩
        rw [h3]
        rw [if_neg (by simp)]
        omega
      · exact .inr ⟨h1, by rw [h2]; simp⟩
theorem count_drop (l : List UInt8) (c : Nat) (hc : c ≤ 255) : ∀ (f i acc : Nat), i + f = l.length → countB (packL l) c f i acc = acc + (l.drop i).count (UInt8.ofNat c) := by
  intro f
  induction f with
  | zero =>
    intro i acc hi
    rw [List.drop_of_length_le (by omega)]
    rfl
  | succ f ih =>
    intro i acc hi
    have hlt : i < l.length := by omega
    rw [List.drop_eq_getElem_cons hlt]
    have e : countB (packL l) c (f + 1) i acc = Bool.rec (countB (packL l) c f (i + 1) acc) (countB (packL l) c f (i + 1) (acc + 1)) (Nat.beq (byteAt (packL l) i) c) := rfl
    rw [e, byteAt_lt hlt, List.count_cons, beq_byte _ c hc]
    cases hb : Nat.beq l[i].toNat c with
    | true => simp only [if_true]; rw [ih (i + 1) (acc + 1) (by omega)]; omega
    | false => simp only [Bool.false_eq_true, if_false]; rw [ih (i + 1) acc (by omega)]; omega
theorem digits_all : ∀ (n t : Nat) (acc : Array Value), (∀ v ∈ acc, v.oneCell' = true) → (∀ v ∈ Extern.BytealgMakeNoZero.digits n t acc, v.oneCell' = true) ∧ (Extern.BytealgMakeNoZero.digits n t acc).size = n + acc.size := by
  intro n
  induction n with
  | zero => intro t acc h; exact ⟨h, by simp [Extern.BytealgMakeNoZero.digits]⟩
  | succ n ih =>
    intro t acc h
    obtain ⟨h1, h2⟩ := ih (t / 256) (acc.push (.int .u8 (Int.ofNat (t % 256)))) (fun v hv => by
      rcases Array.mem_push.1 hv with hv | rfl
      · exact h v hv
      · rfl)
    refine ⟨h1, ?_⟩
    show (Extern.BytealgMakeNoZero.digits n (t / 256) (acc.push (.int .u8 (Int.ofNat (t % 256))))).size = _
    rw [h2, Array.size_push]
    omega
theorem make_run {t e : TypeId} (ht : P.underlying t = some (.slice e)) {ps rs : Array TypeId} (hr : rs[0]? = some t) {n : Nat} (hn : n ≤ 281474976710656) (w : World) :
    ∃ cap bytes d, n ≤ cap ∧ cap ≤ maxInt ∧ (Extern.BytealgMakeNoZero.makeNoZero ps rs #[.int .i64 (.ofNat n)]).run P w = .ok (.slice (some ⟨w.heap.size, 0, none⟩) n cap) (w.more (.cells (Extern.BytealgMakeNoZero.digits cap bytes #[]) e) d) := by
  obtain ⟨q1, q2⟩ := cut_cap n 0 e (w.tape w.drawn (.appendCap n 0 e)) (by omega)
  have c1 : ((Int.ofNat n < 0 || Int.ofNat n > 2 ^ 48) : Bool) = false := by
    simp; omega
  generalize hcap : Question.cut (.appendCap n 0 e) (w.tape w.drawn (.appendCap n 0 e)) = cap at q1 q2
  refine ⟨cap, Question.cut (.extern "internal/bytealg.MakeNoZero.bytes" 0) (w.tape (w.drawn + 1) (.extern "internal/bytealg.MakeNoZero.bytes" 0)), w.drawn + 1 + 1, q1, q2, ?_⟩
  have c2 : (Int.ofNat n).toNat = n := rfl
  change Sem.run P (do
    let some t := rs[0]? | stuck "bytealg.MakeNoZero: no result type"
    let .slice elem ← underlying t | stuck "bytealg.MakeNoZero: slice type expected"
    if Int.ofNat n < 0 || Int.ofNat n > 2 ^ 48 then runtimePanic (.error "makeslice: len out of range")
    let cap ← choose (.appendCap (Int.ofNat n).toNat 0 elem)
    askRoom cap
    let bytes ← choose (.extern "internal/bytealg.MakeNoZero.bytes" 0)
    let a ← newRow elem (Extern.BytealgMakeNoZero.digits cap bytes #[])
    pure (Value.slice (some a) (Int.ofNat n).toNat cap) : Sem Value) w = _
  simp only [hr, Sem.run_bind, run_underlying ht, Result.andThen_ok, c1, c2, Bool.false_eq_true, if_false, run_choose, Question.forced, hcap, run_askRoom, newRow_run, Sem.run_pure]
  rfl
theorem acted_pure (I : Inv P m h nx w) {v : AV} {v' : Value} (hv : VRel m v v') : Acted P m h nx w v h nx v' w := ⟨m, hv, I, Fr.refl _ _ _ _⟩
theorem ext_sound (I : Inv P m h nx w) {fn : Func} {f : Nat} (hf : P.funcs[f]? = some fn) (hno : fn.name ≠ "runtime.NumGoroutine") (hb : fn.body = none) {e : Ext} (he : cExt P fn = some (.ext e)) {args : AV} {l : List Value} (ha : VRels m args l) {v : AV} {h' : TB} {nx' : Nat} (hx : extA e args h nx = .ok v h' nx') :
    ∃ v' w', (callFunc f ⟨l⟩).run P w = .ok (.value v') w' ∧ Acted P m h nx w v h' nx' v' w' := by
  unfold cExt at he
  split at he
  · cases he
  rename_i ho
  have ho : fn.origin = "" := by simpa using ho
  split at he
  · rename_i hn
    have hn : fn.name = "internal/abi.NoEscape" := by simpa using hn
    obtain rfl := AFn.ext.inj (Option.some.inj he)
    obtain ⟨q1, q2⟩ := find_same hn ho
    unfold extA at hx
    split at hx
    · rename_i x
      cases ha with | cons _ _ v1 _ hv ht =>
      cases ht
      cases hx
      exact ⟨v1, w, callFunc_ext hf hno hb q1 q2 rfl, acted_pure I hv⟩
    all_goals first | (rename_i hq _; cases hq; done) | (rename_i hq; cases hq; done) | cases hx | skip
  split at he
  · rename_i hn
    have hn : fn.name = "internal/bytealg.IndexByteString" := by simpa using hn
    obtain rfl := AFn.ext.inj (Option.some.inj he)
    obtain ⟨q1, q2⟩ := find_index hn ho
    unfold extA at hx
    split at hx
    case h_2 =>
      rename_i len n c hq
      cases hc : Nat.ble c 255 with
      | false => rw [hc] at hx; cases hx
      | true =>
      rw [hc] at hx
      have hc' := nble_iff.1 hc
      cases ha with | cons _ _ v1 _ hv ht =>
      cases ht with | cons _ _ v2 _ hv2 ht =>
      cases ht
      cases hv with | str s =>
      cases hv2
      have hr := Lib.run_indexByteString (P := P) s (Int.ofNat c) w
      have e2 : (Int.ofNat c).toNat.toUInt8 = UInt8.ofNat c := rfl
      rw [e2] at hr
      have hd := find_drop s.data.toList c hc' s.data.toList.length 0 (by omega)
      rw [List.drop_zero] at hd
      replace hx : (match findB (packL s.data.toList) c s.data.toList.length 0 with
        | some i => CR.ok (.int .i64 (.ofNat i)) h nx
        | none => .ok (.int .i64 (.negSucc 0)) h nx) = .ok v h' nx' := hx
      rcases hd with ⟨j, g1, _, g2⟩ | ⟨g1, g2⟩
      · rw [g1] at hx
        cases hx
        rw [g2, Nat.sub_zero] at hr
        exact ⟨_, w, callFunc_ext hf hno hb q1 q2 hr, acted_pure I (.int _ _)⟩
      · rw [g1] at hx
        cases hx
        rw [g2] at hr
        exact ⟨_, w, callFunc_ext hf hno hb q1 q2 hr, acted_pure I (.int _ _)⟩
    all_goals first | (rename_i hq _; cases hq; done) | (rename_i hq; cases hq; done) | cases hx | skip
  split at he
  · rename_i hn
    have hn : fn.name = "internal/bytealg.CountString" := by simpa using hn
    obtain rfl := AFn.ext.inj (Option.some.inj he)
    obtain ⟨q1, q2⟩ := find_count hn ho
    unfold extA at hx
    split at hx
    case h_3 =>
      rename_i len n c hq
      cases hc : Nat.ble c 255 with
      | false => rw [hc] at hx; cases hx
      | true =>
      rw [hc] at hx
      have hc' := nble_iff.1 hc
      cases ha with | cons _ _ v1 _ hv ht =>
      cases ht with | cons _ _ v2 _ hv2 ht =>
      cases ht
      cases hv with | str s =>
      cases hv2
      have hr := Lib.run_countString (P := P) s (Int.ofNat c) w
      have e2 : (Int.ofNat c).toNat.toUInt8 = UInt8.ofNat c := rfl
      rw [e2] at hr
      have hd := count_drop s.data.toList c hc' s.data.toList.length 0 0 (by omega)
      rw [List.drop_zero, Nat.zero_add] at hd
      replace hx : CR.ok (.int .i64 (.ofNat (countB (packL s.data.toList) c s.data.toList.length 0 0))) h nx = .ok v h' nx' := hx
      rw [hd] at hx
      cases hx
      exact ⟨_, w, callFunc_ext hf hno hb q1 q2 hr, acted_pure I (.int _ _)⟩
    all_goals first | (rename_i hq _; cases hq; done) | (rename_i hq; cases hq; done) | cases hx | skip
  split at he
  · rename_i hn
    have hn : fn.name = "internal/bytealg.MakeNoZero" := by simpa using hn
    simp only [Option.bind_eq_bind, Option.bind_eq_some_iff] at he
    obtain ⟨t, ht, el, hel, he⟩ := he
    obtain rfl := AFn.ext.inj (Option.some.inj he)
    obtain ⟨q1, q2⟩ := find_make hn ho
    unfold extA at hx
    split at hx
    case h_4 =>
      rename_i n hq
      cases hq
      cases hc : (Nat.ble n 281474976710656 && Nat.ble nx 32767) with
      | false => rw [hc] at hx; cases hx
      | true =>
      rw [hc] at hx
      rw [Bool.and_eq_true] at hc
      have hn1 := nble_iff.1 hc.1
      have hn2 := nble_iff.1 hc.2
      cases ha with | cons _ _ v1 _ hv ht =>
      cases ht
      cases hv
      obtain ⟨cap, bytes, d, h1, h2, h3⟩ := make_run (P := P) (isSliceOf_some hel) (ps := fn.params) ht hn1 w
      obtain ⟨d1, d2⟩ := digits_all cap bytes #[] (by simp)
      cases hx
      have hrow : Row (m.ext nx ⟨w.heap.size, 0, cap, false⟩) ⟨w.heap.size, 0, cap, false⟩ 1 el 0 n .leaf (Extern.BytealgMakeNoZero.digits cap bytes #[]) (0, 0) :=
        ⟨by rw [d2]; simp, Nat.le_refl _, by simpa using h1, one_all d1, fun o _ ho => ⟨(Extern.BytealgMakeNoZero.digits cap bytes #[])[o]'(by rw [d2]; simp; omega), by simp, by rw [show Tr.get .leaf o = .undef from rfl]; exact .undef _⟩, fun o _ _ _ => by simp, fun _ h => absurd rfl h⟩
      obtain ⟨i1, i2⟩ := I.more hn2 (e := ⟨w.heap.size, 0, cap, false⟩) rfl rfl (b := .cells 1 el 0 n .leaf) (o := .cells (Extern.BytealgMakeNoZero.digits cap bytes #[]) el) (d := d) ⟨_, _, rfl, hrow⟩
      refine ⟨_, _, callFunc_ext hf hno hb q1 q2 h3, _, ?_, i1, i2⟩
      exact .slice (bid nx) 0 n n false 1 _ _ cap (Mp.ext_self m nx _) (Nat.le_refl _) h1 h1 h2 (fun h => by cases h) (by show 0 - 0 + cap * 1 ≤ cap; omega) fun _ => rfl
    all_goals first | (rename_i hq _; cases hq; done) | (rename_i hq; cases hq; done) | cases hx | skip
  · cases he

/-! A text in a text -/
theorem find_sub (l sub : List UInt8) (hne : 1 ≤ sub.length) : ∀ (f i : Nat), i + f = l.length →
    (∃ j, findS (packL l) (packL sub) sub.length l.length (Nat.pow 2 (Nat.mul 8 sub.length)) f i = some j ∧ i ≤ j ∧ Lib.index (l.drop i) sub = ((j - i : Nat) : Int)) ∨
    (findS (packL l) (packL sub) sub.length l.length (Nat.pow 2 (Nat.mul 8 sub.length)) f i = none ∧ Lib.index (l.drop i) sub = -1) := by
  have hse : sub.isEmpty = false := by cases sub with
    | nil => simp at hne
    | cons a b => rfl
  intro f
  induction f with
  | zero =>
    intro i hi
    rw [List.drop_of_length_le (by omega)]
    exact .inr ⟨rfl, by simp [Lib.index, hse]⟩
  | succ f ih =>
    intro i hi
    have hlt : i < l.length := by omega
    have e : findS (packL l) (packL sub) sub.length l.length (Nat.pow 2 (Nat.mul 8 sub.length)) (f + 1) i =
      Bool.rec (findS (packL l) (packL sub) sub.length l.length (Nat.pow 2 (Nat.mul 8 sub.length)) f (i + 1)) (some i) (Bool.rec false (Nat.beq (packL l / 2 ^ (8 * i) % 2 ^ (8 * sub.length)) (packL sub)) (Nat.ble (i + sub.length) l.length) : Bool) := rfl
    have ht : (Bool.rec false (Nat.beq (packL l / 2 ^ (8 * i) % 2 ^ (8 * sub.length)) (packL sub)) (Nat.ble (i + sub.length) l.length) : Bool) = sub.isPrefixOf (l.drop i) := by
      rw [← packL_drop, ← packL_take, Bool.eq_iff_iff, List.isPrefixOf_iff_prefix, List.prefix_iff_eq_take]
      cases hb : Nat.ble (i + sub.length) l.length with
      | true =>
        have hb' := nble_iff.1 hb
        show Nat.beq _ _ = true ↔ _
        rw [nbeq_iff]
        have hlen : ((l.drop i).take sub.length).length = sub.length := by simp; omega
        exact ⟨fun h => (packL_inj hlen h).symm, fun h => by rw [← h]⟩
      | false =>
        refine ⟨fun h => (by cases h), fun h => ?_⟩
        have := congrArg List.length h
        simp at this
        have h2 : ¬ (i + sub.length ≤ l.length) := fun h' => by rw [nble_iff.2 h'] at hb; cases hb
        omega
    rw [e, ht, List.drop_eq_getElem_cons hlt]
    unfold Lib.index
    cases hb : sub.isPrefixOf (l[i] :: l.drop (i + 1)) with
    | true => exact .inl ⟨i, rfl, Nat.le_refl _, by simp⟩
    | false =>
      simp only [Bool.false_eq_true, if_false]
      rcases ih (i + 1) (by omega) with ⟨j, h1, h2, h3⟩ | ⟨h1, h2⟩
      · refine .inl ⟨j, h1, by omega, ?_⟩
        rw [h3, if_neg (by simp)]
        omega
      · exact .inr ⟨h1, by rw [h2]; simp⟩
/-- A function that tells where a text begins in another one, whatever global g holds. -/
def IndexOk (P : Program) (f g : Nat) : Prop := g < 8 ∧ (∀ l w, (callFunc f l).run P w = .ok (.enter f l) w) ∧ ∀ (s sub : ByteArray) (k : Int) (w : World), s.size < 4294967281 → w.cell? ⟨g, 0, none⟩ = some (.int .i64 k) →
  Calls P f #[.string s, .string sub] w fun e w' => e = .returned (.int .i64 (Lib.index s.data.toList sub.data.toList)) ∧ w' = w
theorem index_sound (I : Inv P m h nx w) {f g : Nat} (hok : IndexOk P f g) {args : AV} {l : List Value} (ha : VRels m args l) {v : AV} {h' : TB} {nx' : Nat} (hx : extA (.index g) args h nx = .ok v h' nx') :
    Calls P f ⟨l⟩ w fun e w' => ∃ v', e = .returned v' ∧ Acted P m h nx w v h' nx' v' w' := by
  unfold extA at hx
  split at hx
  case h_5 =>
    rename_i g' len n ls q hq
    cases hq
    cases hc : (Nat.ble 1 ls && Nat.ble len 4294967280) with
    | false => rw [hc] at hx; cases hx
    | true =>
    rw [hc] at hx
    rw [Bool.and_eq_true] at hc
    have c1 := nble_iff.1 hc.1
    have c2 := nble_iff.1 hc.2
    rw [cond_true] at hx
    split at hx
    case h_2 => cases hx
    rename_i fz el lo hi t hg
    cases hc2 : (Nat.beq lo 0 && Nat.ble 1 hi) with
    | false => rw [hc2] at hx; cases hx
    | true =>
    rw [hc2] at hx
    rw [Bool.and_eq_true] at hc2
    have c3 := nbeq_iff.1 hc2.1
    have c4 := nble_iff.1 hc2.2
    subst c3
    rw [cond_true] at hx
    split at hx
    case h_2 => cases hx
    rename_i ht
    cases ha with | cons _ _ v1 _ hv ht1 =>
    cases ht1 with | cons _ _ v2 _ hv2 ht2 =>
    cases ht2
    cases hv with | str s =>
    cases hv2 with | str sub =>
    obtain ⟨e, g1, g2, g3, _⟩ := I.glob g hok.1
    have hB := I.blk _ e g1
    rw [hg, g2] at hB
    obtain ⟨cs, fr, b1, b2⟩ := hB
    obtain ⟨u, u1, u2⟩ := b2.cell 0 (Nat.le_refl _) c4
    rw [ht] at u2
    rw [g3] at u1
    cases u2 with | aint k =>
    have hcell : w.cell? ⟨g, 0, none⟩ = some (.int .i64 k) := by
      unfold World.cell?
      simp only [b1]
      exact u1
    refine (hok.2.2 s sub k w (by have : s.size = s.data.toList.length := (Array.length_toList ..).symm
                                  omega) hcell).mono fun e' w' he => ?_
    obtain ⟨rfl, rfl⟩ := he
    refine ⟨_, rfl, ?_⟩
    rcases find_sub s.data.toList sub.data.toList c1 s.data.toList.length 0 (by omega) with ⟨j, k1, _, k2⟩ | ⟨k1, k2⟩
    · rw [k1] at hx
      cases hx
      rw [List.drop_zero, Nat.sub_zero] at k2
      rw [k2]
      exact acted_pure I (.int _ _)
    · rw [k1] at hx
      cases hx
      rw [List.drop_zero] at k2
      rw [k2]
      exact acted_pure I (.int _ _)
  all_goals first | (rename_i hq _; cases hq; done) | (rename_i hq; cases hq; done) | cases hx | skip
end Go.Ra
