/-
  Requests: the law's gets: the requests that a parser has are those.
  Requests: the walk over RequestReads.
-/
import Derived.Test.YtpncfeaaffgkfaaGreatDoorP43
namespace Go.Proofs.YtpncfeaaffgkfaaGreatDoor
open Go.RowKit
attribute [local go_sem] Oper.semAt_some

/-- Next, as long as bytes have requests. -/
theorem stands_got {s : List UInt8} {r : Rq} {n : Nat} {p : Ps} (h : Stands p s) (ho : oneQ s = .got r n) : nextQ p = ({ ps0 with inp := s.drop n }, some r) := by
  have h := h.next
  unfold NextOk at h
  rw [ho] at h
  exact Prod.ext h.2 h.1
theorem stands_more {s : List UInt8} {p : Ps} (h : Stands p s) (ho : oneQ s = .more) : ∃ p', nextQ p = (p', none) ∧ p'.bad = 0 ∧ Stands p' s := by
  obtain ⟨x, hx⟩ : ∃ x, nextQ p = x := ⟨_, rfl⟩
  have h := h.next
  rw [hx] at h
  unfold NextOk at h
  rw [ho] at h
  exact ⟨x.1, by rw [hx]; exact Prod.ext rfl h.1, h.2.1, h.2.2⟩
theorem stands_bad {s : List UInt8} {p : Ps} {c : Nat} (h : Stands p s) (ho : oneQ s = .bad c) : ∃ p', nextQ p = (p', none) ∧ p'.bad = c ∧ Stands p' s := by
  obtain ⟨x, hx⟩ : ∃ x, nextQ p = x := ⟨_, rfl⟩
  have h := h.next
  rw [hx] at h
  unfold NextOk at h
  rw [ho] at h
  exact ⟨x.1, by rw [hx]; exact Prod.ext rfl h.1, h.2.1, h.2.2⟩
/-- A parser's bytes, all of them. -/
theorem Stands.len {p : Ps} {s : List UInt8} (h : Stands p s) (h0 : p.bad = 0) : p.inp.length + p.und.length = s.length := by
  have := congrArg List.length (h.all h0)
  rw [List.length_append] at this
  omega
theorem alls_next {s : List UInt8} {r : Rq} {l : List Rq} {c : Nat} {t : List UInt8} (h : Alls s (r :: l) c t) : ∃ n, oneQ s = .got r n ∧ Alls (s.drop n) l c t := by
  cases h with
  | got h k => exact ⟨_, h, k⟩
theorem alls_end {s : List UInt8} {c : Nat} {t : List UInt8} (h : Alls s [] c t) : (oneQ s = .more ∧ c = 0 ∧ t = s) ∨ (oneQ s = .bad c ∧ t = []) := by
  cases h with
  | more h => exact .inl ⟨h, rfl, rfl⟩
  | bad h => exact .inr ⟨h, rfl⟩
theorem fieldsL_len : ∀ (ls : List (List UInt8)) (fs : List Fl), fieldsL ls = some fs → fs.length = ls.length
  | [], fs, h => by injection h with h; subst h; rfl
  | l :: t, fs, h => by
    have e : fieldsL (l :: t) = if (parseB l).2.2 then (fieldsL t).map fun fs => ((parseB l).1, (parseB l).2.1) :: fs else none := rfl
    rw [e] at h
    split at h
    · cases ht : fieldsL t with
      | none => rw [ht] at h; cases h
      | some x =>
        rw [ht] at h
        injection h with h
        subst h
        rw [List.length_cons, List.length_cons, fieldsL_len t x ht]
    · cases h
theorem headQ_fs {ls : List (List UInt8)} {r : Rq} {n : Nat} {ch : Bool} (h : headQ ls = .good r n ch) : r.fs.length ≤ 33 := by
  unfold headQ at h
  split at h
  · cases h
  · rename_i hl
    cases hf : fieldsL ls.tail with
    | none => rw [hf] at h; cases h
    | some fs =>
      rw [hf] at h
      have := fieldsL_len _ _ hf
      rw [List.length_tail] at this
      dsimp only at h
      repeat' split at h
      all_goals (first | (injection h with h1 h2 h3; subst h1; dsimp only; omega) | cases h)
theorem one_fs {s : List UInt8} {r : Rq} {n : Nat} (h : oneQ s = .got r n) : r.fs.length ≤ 33 := by
  unfold oneQ at h
  split at h
  · split at h
    · cases h
    · rename_i hq
      have := headQ_fs hq
      repeat' split at h
      all_goals (first | (injection h with h1 h2; subst h1; exact this) | cases h)
  · split at h <;> cases h
/-- Where gets stands: k requests were had; the parser stands as the bytes that are left; the row of the requests lies apart. -/
def GetRel (w : World) (B : Nat) (S : Nat → Prop) (lv : Value) (l : List Rq) (c : Nat) (t : List UInt8) (i : Value) (W : World) : Prop :=
  ∃ (k : Nat) (T : Nat → Prop) (p : Ps) (s : List UInt8), k ≤ l.length ∧ i = .int .i64 k ∧ PsL w B T p W ∧ Stands p s ∧ p.bad = 0 ∧ Alls s (l.drop k) c t ∧ s.length ≤ 90000 ∧ ReqsIn S W lv l ∧ ∀ j, S j → ¬ T j ∧ j < W.heap.size
/-- What gets leaves. -/
def GetsPost (w : World) (B : Nat) (c : Nat) (t : List UInt8) (e : Ending) (W : World) : Prop :=
  e = .returned (.bool true) ∧ ∃ T p s, PsL w B T p W ∧ Stands p s ∧ p.bad = c ∧ p.inp.length + p.und.length ≤ 90000 ∧ (c = 0 → s = t)
theorem bodyQ_sum (p : Ps) : (bodyQ p).1.inp.length + (bodyQ p).1.und.length ≤ p.inp.length + p.und.length := by
  unfold bodyQ
  split
  · split
    · exact Nat.le_refl _
    · dsimp only
      rw [List.length_drop]; omega
  · dsimp only [takesQ]
    rw [List.length_drop, List.length_append, List.length_take]; omega
theorem nextQ_sum (p : Ps) : (nextQ p).1.inp.length + (nextQ p).1.und.length ≤ p.inp.length + p.und.length := by
  have hh : (if p.head then p else headsQ p).inp.length + (if p.head then p else headsQ p).und.length = p.inp.length + p.und.length := by
    split
    · rfl
    · exact headsQ_len p
  unfold nextQ
  split
  · exact Nat.le_refl _
  · dsimp only
    generalize (if p.head then p else headsQ p) = x at hh ⊢
    have hb := bodyQ_sum x
    split
    · exact Nat.le_of_eq hh
    · split
      · dsimp only [ps0]
        rw [List.length_nil]; omega
      · dsimp only; omega
theorem alls_len {s : List UInt8} {l : List Rq} {c : Nat} {t : List UInt8} (h : Alls s l c t) : l.length ≤ s.length := by
  induction h with
  | more h => exact Nat.zero_le _
  | bad h => exact Nat.zero_le _
  | got h k ih =>
    have := one_got h
    rw [List.length_drop] at ih
    rw [List.length_cons]; omega
theorem apart_next {S T T' : Nat → Prop} {W W' : World} (h : ∀ j, S j → ¬ T j ∧ j < W.heap.size) (ht : ∀ k, T' k → T k ∨ W.heap.size ≤ k) (hs : W.heap.size ≤ W'.heap.size) : ∀ j, S j → ¬ T' j ∧ j < W'.heap.size := fun j hj =>
  ⟨fun e => (ht j e).elim (h j hj).1 (fun e => by have := (h j hj).2; omega), by have := (h j hj).2; omega⟩
set_option maxHeartbeats 8000000 in
set_option maxRecDepth 100000 in
theorem gets_any (w : World) (B : Nat) (T : Nat → Prop) (p : Ps) (s : List UInt8) (S : Nat → Prop) (lv : Value) (l : List Rq) (c : Nat) (t : List UInt8) (W : World) (hG : G w) (hP : PsL w B T p W) (hs : Stands p s) (h0 : p.bad = 0) (hA : Alls s l c t) (hl : s.length ≤ 90000) (hR : ReqsIn S W lv l) (hS : ∀ j, S j → ¬ T j ∧ j < W.heap.size) :
    Calls Tryz.prog 16 #[.pointer (some ⟨B, 0, none⟩), lv] W (GetsPost w B c t) := by
  have hG' := Lib.hid hG
  have hll : l.length ≤ 90000 := Nat.le_trans (alls_len hA) hl
  have hst := Lib.hid (show GetRel w B S lv l c t (.int .i64 0) W from ⟨0, T, p, s, Nat.zero_le _, rfl, hP, hs, h0, by rw [List.drop_zero]; exact hA, hl, hR, hS⟩)
  obtain ⟨pl, capl, rfl, _⟩ := hR
  clear hG hP hs h0 hA hl hS
  go_enter Tryz.func16, Tryz.ntmps16
  go_wp2
  go_loopw [5] (fun i wr => GetRel w B S (.slice pl l.length capl) l c t i wr) (fun i _ => l.length - (intOf i).toNat)
  case atStart => exact hst.out
  case round =>
    obtain ⟨k, T1, p1, s1, hk, rfl, hP, hs, h0, hA, hsl, hR, hSa⟩ := hrel
    have hP' := Lib.hid hP
    have hS' := Lib.hid hSa
    have hlen := hs.len h0
    clear hst hSa
    by_cases hlt : k < l.length
    · rw [List.drop_eq_getElem_cons hlt] at hA
      obtain ⟨n, ho, hA'⟩ := alls_next hA
      have hn := Lib.hid (stands_got hs ho)
      have hA2 := Lib.hid hA'
      have hfs := one_fs ho
      have hone := one_got ho
      have hs1 := Lib.hid (show (s1.drop n).length ≤ 90000 by rw [List.length_drop]; omega)
      obtain ⟨pl', capl', e', hcs⟩ := hR
      injection e' with e1 _ e3
      subst e1 e3
      obtain ⟨bl, offl, fl, rfl, hSb, hF, hfl, x0, x1, x2, x3, x4, x5, x6⟩ := hcs k hlt
      have hR' := Lib.hid (show ReqsIn S wr (.slice (some ⟨bl, offl, none⟩) l.length capl) l from ⟨_, _, rfl, hcs⟩)
      obtain ⟨pfl, capfl, rfl, hjunk⟩ := hF
      have hFl := Lib.hid (show FieldsAt wr (.slice pfl (l[k].fs).length capfl) l[k].fs from ⟨pfl, capfl, rfl, hjunk⟩)
      have hSf := Lib.hid (show FOut T1 (.slice pfl (l[k].fs).length capfl) from fun a n c e => (hS'.out _ (hfl a n c e).1).1)
      have hSb' := Lib.hid (hS'.out _ hSb)
      obtain ⟨⟨m, pa, qu, v, rfs, rb, rc⟩, hr⟩ : ∃ r, l[k] = r := ⟨_, rfl⟩
      rw [hr] at hn hFl hSf x0 x1 x2 x3 x4 x5 x6 hfs
      dsimp only at hFl hSf x0 x1 x2 x3 x4 x5 x6 hfs
      have hkI : (0 : Int) ≤ k := by omega
      have hkA : (k : Int) < l.length := by omega
      clear hr hjunk hcs hfl hSb hA hA' hs ho hP
      go_wp2_with fail
      refine (hP'.out.next (hP'.out.G hG'.out) _ _ hn.out (by omega)).mono ?_
      rintro e w3 ⟨rv, T3, rfl, hF3, hO3, hlt3, h3, hC3, hT3⟩
      have hF3' := Lib.hid hF3
      obtain ⟨pf, capf, rfl, _⟩ := hF3
      rw [show (rqO (some ⟨m, pa, qu, v, rfs, rb, rc⟩)).V (.slice pf (rqO (some ⟨m, pa, qu, v, rfs, rb, rc⟩)).fs.length capf) = .agg #[.string ⟨m.toArray⟩, .string ⟨pa.toArray⟩, .string ⟨qu.toArray⟩, .int .i64 v, .slice pf rfs.length capf, .string ⟨rb.toArray⟩, .bool rc] from rfl, show (some (⟨m, pa, qu, v, rfs, rb, rc⟩ : Rq)).isSome = true from rfl]
      replace x0 := (hC3.cell (cell_lt x0) hSb'.out.1).trans x0
      replace x1 := (hC3.cell (cell_lt x1) hSb'.out.1).trans x1
      replace x2 := (hC3.cell (cell_lt x2) hSb'.out.1).trans x2
      replace x3 := (hC3.cell (cell_lt x3) hSb'.out.1).trans x3
      replace x4 := (hC3.cell (cell_lt x4) hSb'.out.1).trans x4
      replace x5 := (hC3.cell (cell_lt x5) hSb'.out.1).trans x5
      replace x6 := (hC3.cell (cell_lt x6) hSb'.out.1).trans x6
      have gA := Gr.alloc w3 (.cells #[.string ⟨m.toArray⟩, .string ⟨pa.toArray⟩, .string ⟨qu.toArray⟩, .int .i64 v, .slice pf rfs.length capf, .string ⟨rb.toArray⟩, .bool rc] 27)
      have y0 := cell_new7 w3 [.string ⟨m.toArray⟩, .string ⟨pa.toArray⟩, .string ⟨qu.toArray⟩, .int .i64 v, .slice pf rfs.length capf, .string ⟨rb.toArray⟩, .bool rc] 27 0 _ rfl
      have y1 := cell_new7 w3 [.string ⟨m.toArray⟩, .string ⟨pa.toArray⟩, .string ⟨qu.toArray⟩, .int .i64 v, .slice pf rfs.length capf, .string ⟨rb.toArray⟩, .bool rc] 27 1 _ rfl
      have y2 := cell_new7 w3 [.string ⟨m.toArray⟩, .string ⟨pa.toArray⟩, .string ⟨qu.toArray⟩, .int .i64 v, .slice pf rfs.length capf, .string ⟨rb.toArray⟩, .bool rc] 27 2 _ rfl
      have y3 := cell_new7 w3 [.string ⟨m.toArray⟩, .string ⟨pa.toArray⟩, .string ⟨qu.toArray⟩, .int .i64 v, .slice pf rfs.length capf, .string ⟨rb.toArray⟩, .bool rc] 27 3 _ rfl
      have y4 := cell_new7 w3 [.string ⟨m.toArray⟩, .string ⟨pa.toArray⟩, .string ⟨qu.toArray⟩, .int .i64 v, .slice pf rfs.length capf, .string ⟨rb.toArray⟩, .bool rc] 27 4 _ rfl
      have y5 := cell_new7 w3 [.string ⟨m.toArray⟩, .string ⟨pa.toArray⟩, .string ⟨qu.toArray⟩, .int .i64 v, .slice pf rfs.length capf, .string ⟨rb.toArray⟩, .bool rc] 27 5 _ rfl
      have y6 := cell_new7 w3 [.string ⟨m.toArray⟩, .string ⟨pa.toArray⟩, .string ⟨qu.toArray⟩, .int .i64 v, .slice pf rfs.length capf, .string ⟨rb.toArray⟩, .bool rc] 27 6 _ rfl
      replace x0 := gA.cell x0
      replace x1 := gA.cell x1
      replace x2 := gA.cell x2
      replace x3 := gA.cell x3
      replace x4 := gA.cell x4
      replace x5 := gA.cell x5
      replace x6 := gA.cell x6
      have hFl4 := Lib.hid ((hFl.out.ch hC3 hSf.out).gr gA)
      have hF4 := Lib.hid (hF3'.out.gr gA)
      have hP4 := Lib.hid (h3.gr gA)
      have hR4 := Lib.hid ((hR'.out.ch hC3 (fun j hj => (hS'.out j hj).1)).gr gA)
      have hS4 := Lib.hid (apart_next (W' := (w3.alloc (.cells #[.string ⟨m.toArray⟩, .string ⟨pa.toArray⟩, .string ⟨qu.toArray⟩, .int .i64 v, .slice pf rfs.length capf, .string ⟨rb.toArray⟩, .bool rc] 27))) hS'.out hT3 (Nat.le_trans hC3.size (by simp)))
      clear hF3' hO3 hlt3 h3 hC3 hT3 hFl hSf hSb' hR' hS' hP' hn
      go_upto_region 5 with (fail)
      obtain ⟨R, hRe⟩ : ∃ x, w3.heap.size = x := ⟨_, rfl⟩
      rw [hRe] at y0 y1 y2 y3 y4 y5 y6 ⊢
      generalize (w3.alloc (.cells #[.string ⟨m.toArray⟩, .string ⟨pa.toArray⟩, .string ⟨qu.toArray⟩, .int .i64 v, .slice pf rfs.length capf, .string ⟨rb.toArray⟩, .bool rc] 27)) = w4 at x0 x1 x2 x3 x4 x5 x6 y0 y1 y2 y3 y4 y5 y6 hFl4 hF4 hP4 hR4 hS4 ⊢
      clear gA hRe
      haveI : Nonempty (Later (Gr w4)) := ⟨⟨w4, Gr.refl w4⟩⟩
      replace x0 := fun (x : Later (Gr w4)) => x.ok.cell x0
      replace y0 := fun (x : Later (Gr w4)) => x.ok.cell y0
      replace x1 := fun (x : Later (Gr w4)) => x.ok.cell x1
      replace y1 := fun (x : Later (Gr w4)) => x.ok.cell y1
      replace x2 := fun (x : Later (Gr w4)) => x.ok.cell x2
      replace y2 := fun (x : Later (Gr w4)) => x.ok.cell y2
      replace x3 := fun (x : Later (Gr w4)) => x.ok.cell x3
      replace y3 := fun (x : Later (Gr w4)) => x.ok.cell y3
      replace x4 := fun (x : Later (Gr w4)) => x.ok.cell x4
      replace y4 := fun (x : Later (Gr w4)) => x.ok.cell y4
      replace x5 := fun (x : Later (Gr w4)) => x.ok.cell x5
      replace y5 := fun (x : Later (Gr w4)) => x.ok.cell y5
      replace x6 := fun (x : Later (Gr w4)) => x.ok.cell x6
      replace y6 := fun (x : Later (Gr w4)) => x.ok.cell y6
      have hsame : ∀ x : Later (Gr w4), Calls Tryz.prog 18 #[.agg #[.string ⟨m.toArray⟩, .string ⟨pa.toArray⟩, .string ⟨qu.toArray⟩, .int .i64 v, .slice pf rfs.length capf, .string ⟨rb.toArray⟩, .bool rc], .agg #[.string ⟨m.toArray⟩, .string ⟨pa.toArray⟩, .string ⟨qu.toArray⟩, .int .i64 v, .slice pfl rfs.length capfl, .string ⟨rb.toArray⟩, .bool rc]] x.w fun e w'' => e = .returned (.bool true) ∧ ∃ y : Later (Gr w4), w'' = y.w := fun x =>
        Calls.later ((same9_any ⟨m, pa, qu, v, rfs, rb, rc⟩ _ _ x.w (hF4.out.gr x.ok) (hFl4.out.gr x.ok) (by show rfs.length ≤ _; omega)).mono fun _ _ ⟨he, hb⟩ => ⟨he, x.ok.trans hb⟩)
      refine wp_region_later (C := Gr w4) (by kernel_rfl) (by kernel_rfl) (Gr.drew' _) ?_
      repeat (go_big_quiet_step (first | with_reducible exact hsame _))
      refine wpQuiet_nil ?_
      intro w9 hg9
      have hrel9 := Lib.hid (show GetRel w B S (.slice (some ⟨bl, offl, none⟩) l.length capl) l c t (.int .i64 ((k : Int) + 1)) w9 from ⟨k + 1, T3, _, s1.drop n, hlt, by simp, hP4.out.gr hg9, .fresh rfl, rfl, hA2.out, hs1.out, hR4.out.gr hg9, fun j hj => ⟨(hS4.out j hj).1, Nat.lt_of_lt_of_le (hS4.out j hj).2 (Below.size hg9)⟩⟩)
      clear x0 x1 x2 x3 x4 x5 x6 y0 y1 y2 y3 y4 y5 y6 hsame
      go_wp2
      go_roundw
      case rel => exact hrel9.out
      case measure => simp [intOf]; omega
    · have hkA : ¬ (k : Int) < l.length := by omega
      rw [List.drop_eq_nil_of_le (by omega)] at hA
      have hx : ∃ p', nextQ p1 = (p', none) ∧ p'.bad = c ∧ Stands p' s1 ∧ (c = 0 → s1 = t) := by
        rcases alls_end hA with ⟨h1, h2, h3⟩ | ⟨h1, h2⟩
        · obtain ⟨p', a1, a2, a3⟩ := stands_more hs h1
          exact ⟨p', a1, by rw [a2, h2], a3, fun _ => h3.symm⟩
        · obtain ⟨p', a1, a2, a3⟩ := stands_bad hs h1
          have := oneQ_codes h1
          exact ⟨p', a1, a2, a3, fun e => by omega⟩
      obtain ⟨p', hn, hb, hs2, ht⟩ := hx
      have hsum := nextQ_sum p1
      rw [hn] at hsum
      dsimp only at hsum
      have hsum' : p'.inp.length + p'.und.length ≤ 90000 := by omega
      have hn' := Lib.hid hn
      have hfin := Lib.hid (fun T W' (h : PsL w B T p' W') => (show GetsPost w B c t (.returned (.bool true)) W' from ⟨rfl, T, p', s1, h, hs2, hb, hsum', ht⟩))
      clear hA hs hP hR hn hs2 ht hb
      go_wp2_with fail
      refine (hP'.out.next (hP'.out.G hG'.out) _ _ hn'.out (by omega)).mono ?_
      rintro e w3 ⟨rv, T3, rfl, hF3, hO3, hlt3, h3, hC3, hT3⟩
      have hF3' := Lib.hid hF3
      obtain ⟨p0, c0, rfl, _⟩ := hF3
      rw [show (rqO none).V (.slice p0 (rqO none).fs.length c0) = .agg #[.string ⟨#[]⟩, .string ⟨#[]⟩, .string ⟨#[]⟩, .int .i64 0, .slice p0 0 c0, .string ⟨#[]⟩, .bool false] from rfl, show (none : Option Rq).isSome = false from rfl]
      have gA := Gr.alloc w3 (.cells #[.string ⟨#[]⟩, .string ⟨#[]⟩, .string ⟨#[]⟩, .int .i64 0, .slice p0 0 c0, .string ⟨#[]⟩, .bool false] 27)
      have y0 := cell_new7 w3 [.string ⟨#[]⟩, .string ⟨#[]⟩, .string ⟨#[]⟩, .int .i64 0, .slice p0 0 c0, .string ⟨#[]⟩, .bool false] 27 0 _ rfl
      have y1 := cell_new7 w3 [.string ⟨#[]⟩, .string ⟨#[]⟩, .string ⟨#[]⟩, .int .i64 0, .slice p0 0 c0, .string ⟨#[]⟩, .bool false] 27 1 _ rfl
      have y2 := cell_new7 w3 [.string ⟨#[]⟩, .string ⟨#[]⟩, .string ⟨#[]⟩, .int .i64 0, .slice p0 0 c0, .string ⟨#[]⟩, .bool false] 27 2 _ rfl
      have y3 := cell_new7 w3 [.string ⟨#[]⟩, .string ⟨#[]⟩, .string ⟨#[]⟩, .int .i64 0, .slice p0 0 c0, .string ⟨#[]⟩, .bool false] 27 3 _ rfl
      have y4 := cell_new7 w3 [.string ⟨#[]⟩, .string ⟨#[]⟩, .string ⟨#[]⟩, .int .i64 0, .slice p0 0 c0, .string ⟨#[]⟩, .bool false] 27 4 _ rfl
      have y5 := cell_new7 w3 [.string ⟨#[]⟩, .string ⟨#[]⟩, .string ⟨#[]⟩, .int .i64 0, .slice p0 0 c0, .string ⟨#[]⟩, .bool false] 27 5 _ rfl
      have y6 := cell_new7 w3 [.string ⟨#[]⟩, .string ⟨#[]⟩, .string ⟨#[]⟩, .int .i64 0, .slice p0 0 c0, .string ⟨#[]⟩, .bool false] 27 6 _ rfl
      have hF4 := Lib.hid (hF3'.out.gr gA)
      have hP4 := Lib.hid (h3.gr gA)
      clear hF3' hO3 hlt3 h3 hC3 hT3 hS' hP' hn'
      go_upto_region 8 with (fail)
      obtain ⟨R, hRe⟩ : ∃ x, w3.heap.size = x := ⟨_, rfl⟩
      rw [hRe] at y0 y1 y2 y3 y4 y5 y6 ⊢
      generalize (w3.alloc (.cells #[.string ⟨#[]⟩, .string ⟨#[]⟩, .string ⟨#[]⟩, .int .i64 0, .slice p0 0 c0, .string ⟨#[]⟩, .bool false] 27)) = w4 at y0 y1 y2 y3 y4 y5 y6 hF4 hP4 ⊢
      clear gA hRe
      have hsm := Lib.hid (show Calls Tryz.prog 18 #[.agg #[.string ⟨#[]⟩, .string ⟨#[]⟩, .string ⟨#[]⟩, .int .i64 0, .slice p0 0 c0, .string ⟨#[]⟩, .bool false], .agg #[.string ⟨#[]⟩, .string ⟨#[]⟩, .string ⟨#[]⟩, .int .i64 0, .slice none 0 0, .string ⟨#[]⟩, .bool false]] w4 fun e w' => e = .returned (.bool true) ∧ Gr w4 w' from same9_any rq0 _ _ w4 hF4.out ⟨none, 0, rfl, fun i hi => absurd hi (Nat.not_lt_zero _)⟩ (by decide))
      go_wp2_with fail
      refine hsm.out.mono ?_
      rintro e w5 ⟨rfl, hb⟩
      have hfin2 := Lib.hid (hfin.out T3 w5 (hP4.out.gr hb))
      clear hb hsm hP4 hF4 y0 y1 y2 y3 y4 y5 y6
      go_wp2
      go_ret
      exact hfin2.out
end Go.Proofs.YtpncfeaaffgkfaaGreatDoor
namespace Go.Proofs.YtpncfeaaffgkfaaGreatDoor
open Go.RowKit
attribute [local go_sem] Oper.semAt_some

theorem get0_next : nextQ { ps0 with inp := get0 } = ({ ps0 with inp := [] }, some ⟨[71, 69, 84], [47], [], 10, [], [], true⟩) := by
  have h := (Stands.fresh (p := { ps0 with inp := get0 }) (s := get0) rfl).next
  unfold NextOk at h
  rw [get0_one] at h
  exact Prod.ext h.2 h.1
theorem bad_next {p : Ps} (h : p.bad ≠ 0) : nextQ p = (p, none) := by unfold nextQ; rw [if_pos h]
theorem bad_feed {p : Ps} (h : p.bad ≠ 0) (s : List UInt8) : feedQ p s = p := by unfold feedQ; rw [if_neg h]
theorem bad_rest {p : Ps} (h : p.bad ≠ 0) : restQ p = (p, []) := by unfold restQ; rw [if_pos h]
theorem bad_idle {p : Ps} (h : p.bad ≠ 0) : idleQ p = false := by unfold idleQ; rw [decide_eq_false h]; rfl
theorem fresh_idle (s : List UInt8) : idleQ { ps0 with inp := s } = s.isEmpty := by
  show (decide (0 = 0) && (s.isEmpty && true)) = _
  simp
set_option maxHeartbeats 16000000 in
set_option maxRecDepth 100000 in
theorem qreads_any (s : List UInt8) (w : World) (hG : G w) :
    Calls Tryz.prog 24 #[.string ⟨s.toArray⟩] w fun e w' => e = .returned (.bool true) ∧ Gr w w' := by
  have hG' := Lib.hid hG
  clear hG
  go_enter Tryz.func24, Tryz.ntmps24
  go_wp2_with fail
  refine (awake9_any w hG'.out).mono ?_
  rintro e w1 ⟨rfl, hb⟩
  have g1 := Lib.hid hb
  clear hb
  by_cases hlt : s.length ≤ 20000
  · have hltI : ¬ (20000 : Int) < s.length := by omega
    have hltN : ¬ 20000 < s.length := by omega
    go_wp2_with fail
    refine (rall_any s w1 (by omega)).mono ?_
    rintro e w2 ⟨l, c, t, lv, hA, rfl, hR, hll, hb⟩
    have g2 := Lib.hid (g1.out.trans hb)
    have hR2 := Lib.hid hR.here
    have hA' := Lib.hid hA
    have hcode := alls_bad hA
    have hlen : t.length ≤ 20000 ∨ True := .inr trivial
    clear g1 hb hR hA hll hlen
    go_wp2_with fail
    refine (PsL.new (w := w) (hG'.out.gr g2.out) g2.out).mono ?_
    rintro e w3 ⟨rfl, h3, hg3⟩
    have h3' := Lib.hid h3
    have hR3 := Lib.hid (hR2.out.gr hg3)
    have hS3 := Lib.hid (show ∀ j, (w1.heap.size ≤ j ∧ j < w2.heap.size) → ¬ (j = w2.heap.size) ∧ j < w3.heap.size from fun j hj => ⟨by omega, by have := Below.size hg3; omega⟩)
    clear h3 hg3 hR2
    obtain ⟨B, hB⟩ : ∃ x, w2.heap.size = x := ⟨_, rfl⟩
    rw [hB] at h3' hR3 hS3 ⊢
    clear hB g2
    go_wp2_with fail
    refine (h3'.out.feed s (by show 0 + s.length ≤ _; omega)).mono ?_
    rintro e w4 ⟨rfl, T4, h4, hC4, hT4⟩
    rw [feed0] at h4
    have h4' := Lib.hid h4
    have hR4 := Lib.hid (hR3.out.ch hC4 (fun j hj => (hS3.out j hj).1))
    have hS4 := Lib.hid (apart_next hS3.out hT4 hC4.size)
    clear h4 hC4 hT4 hR3 hS3 h3'
    go_wp2_with fail
    refine (h4'.out.idle s.isEmpty (fresh_idle s)).mono ?_
    rintro e w5 ⟨rfl, rfl⟩
    go_wp2_with fail
    refine (h4'.out.bad 0 rfl).mono ?_
    rintro e w5 ⟨rfl, rfl⟩
    go_wp2_with fail
    refine (gets_any w B T4 _ s _ lv l c t w4 hG'.out h4'.out (.fresh rfl) rfl hA'.out (by omega) hR4.out hS4.out).mono ?_
    rintro e w5 ⟨rfl, T5, p5, s5, h5, hs5, hb5, hl5, ht5⟩
    have h5' := Lib.hid h5
    have hb5' := Lib.hid hb5
    clear h5 h4' hR4 hS4 hA'
    go_wp2_with fail
    refine (h5'.out.bad c hb5'.out).mono ?_
    rintro e w6 ⟨rfl, rfl⟩
    by_cases h0 : c = 0
    · have hi5 := Lib.hid (show idleQ p5 = t.isEmpty by rw [hs5.idle, hb5'.out, h0, ht5 h0]; rfl)
      have hr5 := Lib.hid (show restQ p5 = (ps0, t) by rw [hs5.rest, hb5'.out, h0, ht5 h0]; rfl)
      have hl5' := Lib.hid hl5
      subst h0
      clear hs5 ht5 hcode hb5 hl5
      go_wp2_with fail
      refine (h5'.out.idle _ hi5.out).mono ?_
      rintro e w6 ⟨rfl, rfl⟩
      go_wp2_with fail
      refine (h5'.out.rest t ps0 hr5.out hl5'.out).mono ?_
      rintro e w6 ⟨rfl, T6, h6, _, _⟩
      have h6' := Lib.hid h6
      clear h6 h5' hi5 hr5 hl5' hb5'
      go_wp2_with fail
      refine (h6'.out.feed get0 (by decide)).mono ?_
      rintro e w7 ⟨rfl, T7, h7, _, _⟩
      rw [feed0] at h7
      have h7' := Lib.hid h7
      clear h7 h6'
      go_wp2_with fail
      refine (h7'.out.next (h7'.out.G hG'.out) _ _ get0_next (by decide)).mono ?_
      rintro e w8 ⟨rv, T8, rfl, hF, _, _, h8, _, _⟩
      obtain ⟨pf, capf, rfl, _⟩ := hF
      rw [show (rqO (some ⟨[71, 69, 84], [47], [], 10, [], [], true⟩)).V (.slice pf (rqO (some ⟨[71, 69, 84], [47], [], 10, [], [], true⟩)).fs.length capf) = .agg #[.string ⟨#[71, 69, 84]⟩, .string ⟨#[47]⟩, .string ⟨#[]⟩, .int .i64 10, .slice pf 0 capf, .string ⟨#[]⟩, .bool true] from rfl, show (some (⟨[71, 69, 84], [47], [], 10, [], [], true⟩ : Rq)).isSome = true from rfl]
      have h9' := Lib.hid (h8.gr (Gr.alloc w8 (.cells #[.string ⟨#[71, 69, 84]⟩, .string ⟨#[47]⟩, .string ⟨#[]⟩, .int .i64 10, .slice pf 0 capf, .string ⟨#[]⟩, .bool true] 27)))
      clear h8 h7'
      go_wp2_with fail
      refine (h9'.out.bad 0 rfl).mono ?_
      rintro e w9 ⟨rfl, rfl⟩
      have hg := Lib.hid h9'.out.g
      clear h9'
      go_wp2
      go_ret
      exact ⟨rfl, hg.out⟩
    · have hbp : p5.bad ≠ 0 := by rw [hb5'.out]; exact h0
      have hi5 := Lib.hid (bad_idle hbp)
      have hr5 := Lib.hid (bad_rest hbp)
      have hf5 := Lib.hid (bad_feed hbp get0)
      have hn5 := Lib.hid (bad_next hbp)
      have hl5' := Lib.hid hl5
      have hte := hcode.2 h0
      subst hte
      have hcI : ((c : Int) == 0) = false := by rw [beq_eq_false_iff_ne]; omega
      clear hs5 ht5 hcode hb5 hl5 hbp
      go_wp2_with fail
      refine (h5'.out.idle _ hi5.out).mono ?_
      rintro e w6 ⟨rfl, rfl⟩
      go_wp2_with fail
      refine (h5'.out.rest [] p5 hr5.out hl5'.out).mono ?_
      rintro e w6 ⟨rfl, T6, h6, _, _⟩
      have h6' := Lib.hid h6
      clear h6 h5' hi5 hr5
      go_wp2_with fail
      refine (h6'.out.feed get0 (by have := hl5'.out; show p5.inp.length + 18 ≤ _; omega)).mono ?_
      rintro e w7 ⟨rfl, T7, h7, _, _⟩
      rw [hf5.out] at h7
      have h7' := Lib.hid h7
      clear h7 h6' hf5
      go_wp2_with fail
      refine (h7'.out.next (h7'.out.G hG'.out) _ _ hn5.out hl5'.out).mono ?_
      rintro e w8 ⟨rv, T8, rfl, hF, _, _, h8, _, _⟩
      obtain ⟨pf, capf, rfl, _⟩ := hF
      rw [show (rqO none).V (.slice pf (rqO none).fs.length capf) = .agg #[.string ⟨#[]⟩, .string ⟨#[]⟩, .string ⟨#[]⟩, .int .i64 0, .slice pf 0 capf, .string ⟨#[]⟩, .bool false] from rfl, show (none : Option Rq).isSome = false from rfl]
      have h9' := Lib.hid (h8.gr (Gr.alloc w8 (.cells #[.string ⟨#[]⟩, .string ⟨#[]⟩, .string ⟨#[]⟩, .int .i64 0, .slice pf 0 capf, .string ⟨#[]⟩, .bool false] 27)))
      clear h8 h7' hn5 hl5'
      go_wp2_with fail
      refine (h9'.out.bad c hb5'.out).mono ?_
      rintro e w9 ⟨rfl, rfl⟩
      have hg := Lib.hid h9'.out.g
      clear h9'
      go_wp2
      go_ret
      exact ⟨rfl, hg.out⟩
  · have hltI : (20000 : Int) < s.length := by omega
    go_wp2
    go_ret
    exact ⟨rfl, g1.out⟩
end Go.Proofs.YtpncfeaaffgkfaaGreatDoor
