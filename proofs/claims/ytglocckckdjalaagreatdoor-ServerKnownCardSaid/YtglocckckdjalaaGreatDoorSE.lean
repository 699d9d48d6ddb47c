/-
  Operations that act: all of them.
-/
import Derived.Lib.UnsafeStr
import Derived.Test.YtglocckckdjalaaGreatDoorSD
set_option linter.unusedVariables false
set_option linter.unusedSimpArgs false
namespace Go.Ra
variable {P : Program} {m : Mp} {h : TB} {nx : Nat} {w : World} {nt : Nat} {a : Act} {z : TV}

theorem isSliceOf_some {t e : TypeId} (h : isSliceOf P t = some e) : P.underlying t = some (.slice e) := by
  unfold isSliceOf at h
  simp only [Option.bind_eq_bind, Option.bind_eq_some_iff] at h
  obtain ⟨d, hd, h⟩ := h
  split at h
  · obtain rfl := Option.some.inj h; exact hd
  · cases h
theorem elemZero_some {e : TypeId} {n : Nat} {zc : AV} (h : elemZero P e n = some zc) : ∃ v : Value, (∀ w : World, (zeroValue e).run P w = .ok v w) ∧ (∀ c ∈ v.cells.toList, c.oneCell' = true) ∧ v.cells.size = n := by
  unfold elemZero at h
  split at h
  · rename_i zv hz
    split at h
    · rename_i hl
      obtain ⟨v, h1, h2, h3⟩ := zeroCells_run hz
      refine ⟨v, h1, h3, ?_⟩
      have := (h2 (fun _ => none)).len
      rw [← Array.length_toList, ← this, hl]
    · cases h
  · cases h

/-! What is fed to an append -/
theorem feed_nil {size : Nat} {x : Value} (hx : (∃ b c, x = .slice b 0 c) ∨ ∃ s : ByteArray, s.data.toList = [] ∧ x = .string s) : Feed P m w size 0 x .nl [] := by
  rcases hx with ⟨b, c, rfl⟩ | ⟨s, hs, rfl⟩
  · refine ⟨fun w' => rfl, fun w' _ => ?_, by simp, by simp, .nil⟩
    cases b <;> simp [Builtin.firstCells, loadCells, loadCellsFrom]
  · have hz : s.size = 0 := by show s.data.size = 0; rw [← Array.length_toList, hs]; rfl
    refine ⟨fun w' => by simp [Builtin.lenOf, hz], fun w' _ => ?_, by simp, by simp, .nil⟩
    have : s.data = #[] := by apply Array.toList_inj.1; rw [hs]
    show Result.ok ((s.extract 0 0).data.map _) w' = _
    rw [ByteArray.data_extract, this]
    simp
theorem feed_str (s : ByteArray) : Feed P m w 1 s.data.toList.length (.string s) (bytesL (packL s.data.toList) s.data.toList.length 0) (s.data.toList.map fun b => Value.int .u8 (b.toNat : Int)) := by
  have hz : s.size = s.data.toList.length := by show s.data.size = _; rw [Array.length_toList]
  refine ⟨fun w' => by show Result.ok s.size w' = _; rw [hz], fun w' _ => ?_, by simp, ?_, ?_⟩
  · have : (s.extract 0 s.data.toList.length).data = s.data := by
      rw [ByteArray.data_extract]; simp
    simp only [Builtin.firstCells, this, Sem.run_pure]
    congr 1
    apply Array.toList_inj.1
    simp
  · intro v hv
    obtain ⟨b, _, rfl⟩ := List.mem_map.1 hv
    rfl
  · have := bytesL_rel (m := m) s.data.toList s.data.toList.length 0 (by omega)
    rwa [List.drop_zero, List.take_of_length_le (Nat.le_refl _)] at this
theorem feed_slice (I : Inv P m h nx w) {id : Pth} {off len lo k : Nat} {ex : Bool} {x' : Value} (hx : VRel m (.slice id off len lo ex k) x') (h0 : len ≠ 0) {c : AV} (hc : cellsAt h id off (len * k) = some c) :
    ∃ news, Feed P m w k len x' c news := by
  cases hx with | slice _ _ _ _ _ _ e a cc he hde hlen hlo hmax hex hsz haddr =>
  obtain ⟨vs, h1, h2, h3, h4, _⟩ := I.loads he hc
  refine ⟨vs, fun w' => rfl, fun w' hw' => ?_, h1, h3, h2⟩
  simp only [Builtin.firstCells, haddr (by omega)]
  have := loads_run (P := P) (w := w') (b := e.blk) (o := off - e.delta) (vs := vs) (fun j v hj => by
    have := h4 j v hj
    simpa only [World.cell?, hw'] using this)
  rwa [h1] at this
theorem eappend_sound (I : Inv P m h nx w) {ts : Array TypeId} {ty t u el : TypeId} {i : TypeInfo} {d : TypeDesc} {zv : Value} (ht0 : ts[0]? = some t) (ht : P.underlying t = some (.slice el)) (ht1 : ts[1]? = some u) (hu : P.underlying u = some d) (hd : ∀ k, d ≠ .int k)
    (hi : P.info? el = some i) (hz : ∀ w : World, (zeroValue el).run P w = .ok zv w) (hz1 : ∀ c ∈ zv.cells.toList, c.oneCell' = true) (hzs : zv.cells.size = i.size)
    {s x : AO} {s' x' : Value} (hs : VRel m (s.ev z) s') (hx : VRel m (x.ev z) x') {v : AV} {h' : TB} {nx' : Nat} (hv : eAppend el i.size i.bytes s x z h nx = .ok v h' nx') :
    ∃ v' w', (Builtin.append_ ts ty #[s', x']).run P w = .ok v' w' ∧ Acted P m h nx w v h' nx' v' w' := by
  unfold eAppend at hv
  split at hv
  · rename_i l n hxe
    rw [hxe] at hx
    cases hk : Nat.beq i.size 1 with
    | false => rw [hk] at hv; exact noC hv
    | true =>
      rw [hk] at hv
      rw [nbeq_iff] at hk
      cases hx with | str b =>
      exact append1_sound (ty := ty) I ht0 ht ht1 hu hi hz hz1 hzs hs (Feed.fed (by rw [hk]; exact feed_str b) hd) hv
  · rename_i hxe
    rw [hxe] at hx
    cases hx
    exact append1_sound (ty := ty) I ht0 ht ht1 hu hi hz hz1 hzs hs (Feed.fed (feed_nil (.inl ⟨_, _, rfl⟩)) hd) hv
  · rename_i id off len lo ex k' hxe
    rw [hxe] at hx
    cases hk : Nat.beq i.size k' with
    | false => rw [hk] at hv; exact noC hv
    | true =>
      rw [hk] at hv
      obtain rfl := nbeq_iff.1 hk
      simp only [cond_true] at hv
      cases hl : Nat.beq len 0 with
      | true =>
        rw [hl] at hv
        obtain rfl := nbeq_iff.1 hl
        cases hx with | slice _ _ _ _ _ _ e a cc =>
        exact append1_sound (ty := ty) I ht0 ht ht1 hu hi hz hz1 hzs hs (Feed.fed (feed_nil (.inl ⟨_, _, rfl⟩)) hd) hv
      | false =>
        rw [hl] at hv
        simp only [cond_false] at hv
        split at hv
        · rename_i c hc
          obtain ⟨news, hF⟩ := feed_slice I hx (fun e => by subst e; simp at hl) hc
          exact append1_sound (ty := ty) I ht0 ht ht1 hu hi hz hz1 hzs hs (hF.fed hd) hv
        · exact noC hv
  · exact noC hv

theorem elemZero_rel {e : TypeId} {n : Nat} {zc : AV} (h : elemZero P e n = some zc) : ∃ v : Value, (∀ w : World, (zeroValue e).run P w = .ok v w) ∧ (∀ c ∈ v.cells.toList, c.oneCell' = true) ∧ v.cells.size = n ∧ ∀ m : Mp, VRels m zc v.cells.toList := by
  unfold elemZero at h
  split at h
  · rename_i zv hz
    split at h
    · rename_i hl
      obtain rfl := Option.some.inj h
      obtain ⟨v, h1, h2, h3⟩ := zeroCells_run hz
      refine ⟨v, h1, h3, ?_, h2⟩
      have := (h2 (fun _ => none)).len
      rw [← Array.length_toList, ← this, hl]
    · cases h
  · cases h
theorem eappz_sound (I : Inv P m h nx w) {ts : Array TypeId} {ty t u el : TypeId} {i : TypeInfo} {k : IntKind} {zc : AV} (ht0 : ts[0]? = some t) (ht : P.underlying t = some (.slice el)) (ht1 : ts[1]? = some u) (hu : P.underlying u = some (.int k))
    (hi : P.info? el = some i) (hz : elemZero P el i.size = some zc)
    {s x : AO} {s' x' : Value} (hs : VRel m (s.ev z) s') (hx : VRel m (x.ev z) x') {v : AV} {h' : TB} {nx' : Nat} (hv : eAppz el i.size i.bytes zc s x z h nx = .ok v h' nx') :
    ∃ v' w', (Builtin.append_ ts ty #[s', x']).run P w = .ok v' w' ∧ Acted P m h nx w v h' nx' v' w' := by
  obtain ⟨zv, z1, z2, z3, z4⟩ := elemZero_rel hz
  unfold eAppz at hv
  split at hv
  · rename_i kk n hxe
    rw [hxe] at hx
    cases hx
    cases hcond : (Nat.ble n 9223372036854775807 && (Nat.ble (Nat.mul n i.bytes) 281474976710656 && Nat.beq zc.len i.size)) with
    | false => rw [hcond] at hv; exact noC hv
    | true =>
      rw [hcond] at hv
      simp only [Bool.and_eq_true, nble_iff, nbeq_iff] at hcond
      obtain ⟨k1, k2, k3⟩ := hcond
      have e1 : ((List.replicate n zv.cells.toList).flatten).toArray = Builtin.zeroCells zv.cells n := by
        have := zeros_get zv.cells.toList n
        rw [← this]
        unfold Builtin.zeroCells
        simp
      refine append1_sound (ty := ty) I ht0 ht ht1 hu hi z1 z2 z3 hs (n := n) (c := zc.reps n) (news := (List.replicate n zv.cells.toList).flatten) ⟨.inr ⟨⟨_, rfl⟩, ⟨_, rfl⟩, k1, k2, e1, z3⟩, ?_, ?_, (z4 m).reps n⟩ hv
      · simp [z3]
      · intro v hv
        obtain ⟨l', h1, h2⟩ := List.mem_flatten.1 hv
        rw [(List.mem_replicate.1 h1).2] at h2
        exact z2 v h2
  · exact noC hv

/-! Stores -/
theorem unit_rel : VRel m (.tuple .nl) (.tuple #[]) := .tuple _ _ .nil
theorem st_sound (I : Inv P m h nx w) {t : TypeId} {n : Nat} {agg : Bool} (ht : tyOf P t = some (n, agg)) {p x : AO} {p' x' : Value} (hp : VRel m (p.ev z) p') (hx : VRel m (x.ev z) x') {v : AV} {h' : TB} {nx' : Nat}
    (hv : eSt n p x z h nx = .ok v h' nx') : ∃ w', (Instr.storeAt t p' x').run P w = .ok () w' ∧ Acted P m h nx w v h' nx' (.tuple #[]) w' := by
  obtain ⟨id, off, hpe, hv⟩ := ptrC_ok hv
  rw [hpe] at hp
  cases hp with | ptr _ _ e he hd =>
  cases hc : (x.ev z).cells with
  | none => rw [hc] at hv; exact noC hv
  | some c =>
    rw [hc] at hv
    obtain ⟨hn, hv2⟩ := whenC_ok.1 (show whenC (Nat.beq c.len n) (put h id off c (.tuple .nl) nx) = .ok v h' nx' from hv)
    obtain rfl := nbeq_iff.1 hn
    obtain ⟨h1, h2⟩ := hx.cells hc
    obtain ⟨rfl, rfl, w', hrun, hI, hF⟩ := put_run I he h1 h2 hd hv2
    obtain ⟨t1, _, _⟩ := tyOf_some ht
    refine ⟨w', ?_, m, unit_rel, hI, hF⟩
    have hsz : x'.cells.size = c.len := by rw [h1.len, Array.length_toList]
    simp only [Instr.storeAt, Instr.sureAddr, storeVar, Sem.run_bind, Sem.run_pure, Result.andThen_ok, t1, hsz]
    simpa using hrun

/-! Maps -/
theorem sameBits_key {s : Nat} {t : TypeId} (ht : kdTy P t = some s) {x y : AV} {x' y' : Value} (hx : VRel m x x') (hy : VRel m y y') (kx : x.key s = true) (hb : sameC x y = some true) : Instr.sameBits 10000 y' x' = true := by
  have ky := sameC_kd hb kx
  rcases kdTy_some ht with ⟨rfl, k, hu⟩ | ⟨rfl, hu⟩ | ⟨rfl, hu⟩
  · obtain ⟨k1, n1, rfl⟩ := key0 kx
    obtain ⟨k2, n2, rfl⟩ := key0 ky
    cases hx; cases hy
    obtain ⟨rfl, hq⟩ := sameC_int hb
    have : n1 = n2 := by simpa using hq.symm
    subst this
    simp [Instr.sameBits]
  · obtain ⟨l1, n1, rfl⟩ := key1 kx
    obtain ⟨l2, n2, rfl⟩ := key1 ky
    cases hx with | str s1 =>
    cases hy with | str s2 =>
    have hq := sameC_str hb
    rw [Instr.sameBits, bytes_beq]
    simp at hq ⊢
    exact hq.symm
  · obtain ⟨b1, rfl⟩ := key2 kx
    obtain ⟨b2, rfl⟩ := key2 ky
    cases hx; cases hy
    have hq := sameC_bool hb
    have : b1 = b2 := by simpa using hq.symm
    subst this
    simp [Instr.sameBits]
theorem put_found {t : TypeId} {s : Nat} {d : TypeDesc} (ht : kdTy P t = some s) (hd : P.underlying t = some d) {k : AV} {k' : Value} (hk : VRel m k k') (kk : k.key s = true) {es : ME} {l : List MapEntry} (hes : MRel m es l) :
    ∀ (i b : Nat), es.has k = some (some b) → ∃ j e, Instr.findNow d k' l i = some (some (i + j, e.val)) ∧ l[j]? = some e ∧ Instr.sameBits 10000 e.key k' = true ∧
      ∀ (v : AV) (v' : Value) (c : Nat), VRel m v v' → MRel m (es.put k v c) (l.modify j fun e => { e with key := k', val := v' }) := by
  induction hes with
  | nil => intro i b hr; cases (show (some none : Option (Option Nat)) = some (some b) from hr)
  | cons k1 v1 b1 es k1' v1' l h1 h2 hm ih =>
    intro i b hr
    unfold ME.has at hr
    split at hr
    · rename_i he
      refine ⟨0, ⟨k1', v1', b1⟩, by simp [Instr.findNow, sameNow_eq ht hd hk h1 kk he], rfl, sameBits_key ht hk h1 kk he, fun v v' c hv => ?_⟩
      unfold ME.put
      rw [he]
      exact .cons _ _ _ _ _ _ _ hk hv hm
    · rename_i he
      obtain ⟨j, e, q1, q2, q3, q4⟩ := ih (i + 1) b hr
      refine ⟨j + 1, e, ?_, by simpa using q2, q3, fun v v' c hv => ?_⟩
      · rw [show i + (j + 1) = i + 1 + j by omega]
        simp [Instr.findNow, sameNow_eq ht hd hk h1 kk he, q1]
      · unfold ME.put
        rw [he]
        exact .cons _ _ _ _ _ _ _ h1 h2 (q4 v v' c hv)
    · cases hr
theorem put_new {t : TypeId} {s : Nat} {d : TypeDesc} (ht : kdTy P t = some s) (hd : P.underlying t = some d) {k : AV} {k' : Value} (hk : VRel m k k') (kk : k.key s = true) {es : ME} {l : List MapEntry} (hes : MRel m es l) :
    ∀ (i : Nat), es.has k = some none → Instr.findNow d k' l i = some none ∧ ∀ (v : AV) (v' : Value) (c : Nat), VRel m v v' → MRel m (es.put k v c) (l ++ [⟨k', v', c⟩]) := by
  induction hes with
  | nil => intro i _; exact ⟨rfl, fun v v' c hv => .cons _ _ _ _ _ _ _ hk hv .nil⟩
  | cons k1 v1 b1 es k1' v1' l h1 h2 hm ih =>
    intro i hr
    unfold ME.has at hr
    split at hr
    · cases hr
    · rename_i he
      obtain ⟨q1, q2⟩ := ih (i + 1) hr
      refine ⟨by simp [Instr.findNow, sameNow_eq ht hd hk h1 kk he, q1], fun v v' c hv => ?_⟩
      unfold ME.put
      rw [he]
      exact .cons _ _ _ _ _ _ _ h1 h2 (q2 v v' c hv)
    · cases hr

def notRow : Obj → Prop
  | .cells _ _ _ => False
  | _ => True
theorem setObj_run {r : Nat} {o o' : Obj} (hw : w.heap[r]? = some o) (ho : notRow o) : (setObj r o').run P w = .ok () (w.putObj r o') := by
  cases o <;> first | exact ho.elim | simp [setObj, Sem.run, hw, World.putObj]
theorem getObj_run {r : Nat} {o : Obj} (hw : w.heap[r]? = some o) (ho : notRow o) : (getObj r).run P w = .ok o w := by
  cases o <;> first | exact ho.elim | simp [getObj, Sem.run, hw]

theorem mapupd_sound (I : Inv P m h nx w) {t k e : TypeId} {s : Nat} (ht : P.underlying t = some (.map k e)) (hk : kdTy P k = some s) {p q x : AO} {p' q' x' : Value}
    (hp : VRel m (p.ev z) p') (hq : VRel m (q.ev z) q') (hx : VRel m (x.ev z) x') {v : AV} {h' : TB} {nx' : Nat} (hv : eMapupd s p q x z h nx = .ok v h' nx') :
    ∃ w', (Instr.mapUpdate t p' q' x').run P w = .ok () w' ∧ Acted P m h nx w v h' nx' (.tuple #[]) w' := by
  unfold eMapupd at hv
  split at hv
  · rename_i id hpe
    rw [hpe] at hp
    cases hp with | map _ e0 he0 =>
    cases hkey : (q.ev z).key s with
    | false => rw [hkey] at hv; exact noC hv
    | true =>
      rw [hkey] at hv
      simp only [cond_true] at hv
      split at hv
      · rename_i es clock hb
        have hB := I.blk id e0 he0
        rw [hb] at hB
        obtain ⟨l, hw, hM⟩ := hB
        obtain ⟨d, hd⟩ : ∃ d, P.underlying k = some d := by rcases kdTy_some hk with ⟨_, _, h⟩ | ⟨_, h⟩ | ⟨_, h⟩ <;> exact ⟨_, h⟩
        have hro : ∀ (o : Obj) (b' : AB), e0.ro = true → w.putObj e0.blk o = w ∧ b' = h.get id := fun o b' hr => by
          have := I.ro id e0 he0 hr
          rw [hb] at this
          exact this.elim
        split at hv
        · rename_i b hh
          cases hv
          obtain ⟨j, en, q1, q2, q3, q4⟩ := put_found hk hd hq hkey hM 0 b hh
          simp only [Nat.zero_add] at q1
          refine ⟨w.putObj e0.blk (.map (l.modify j fun e => { e with key := q', val := x' }) clock), ?_, m, unit_rel, ?_⟩
          · simp only [Instr.mapUpdate, Sem.run_bind, run_underlying ht, Result.andThen_ok, getObj_run hw trivial]
            rw [show (10000 : Nat) = 9999 + 1 from rfl, checkKey_run hk _ 9999 hq hkey w]
            have q2' : l[j]? = some en := by rw [← Array.getElem?_toList]; exact q2
            simp only [Result.andThen_ok, Instr.findKey, Sem.run_bind, run_underlying hd, q1, Sem.run_pure, q2', Option.map_some, Option.getD_some, Instr.keyThatStays, q3, if_true]
            exact setObj_run hw trivial
          · refine I.upd he0 (by rw [hb]; trivial) ⟨_, rfl, ?_⟩ (hro _ _) (fun l hlp => by rw [hw] at hlp; cases hlp)
            rw [Array.toList_modify]
            exact q4 _ _ _ hx
        · rename_i hh
          cases hv
          obtain ⟨q1, q2⟩ := put_new hk hd hq hkey hM 0 hh
          refine ⟨w.putObj e0.blk (.map (l.push ⟨q', x', clock⟩) (clock + 1)), ?_, m, unit_rel, ?_⟩
          · simp only [Instr.mapUpdate, Sem.run_bind, run_underlying ht, Result.andThen_ok, getObj_run hw trivial]
            rw [show (10000 : Nat) = 9999 + 1 from rfl, checkKey_run hk _ 9999 hq hkey w]
            simp only [Result.andThen_ok, Instr.findKey, Sem.run_bind, run_underlying hd, q1, Sem.run_pure]
            exact setObj_run hw trivial
          · refine I.upd he0 (by rw [hb]; trivial) ⟨_, rfl, ?_⟩ (hro _ _) (fun l hlp => by rw [hw] at hlp; cases hlp)
            rw [Array.toList_push]
            exact q2 _ _ _ hx
        · exact noC hv
      · exact noC hv
  · exact noC hv

theorem del_run {t : TypeId} {s : Nat} {d : TypeDesc} (ht : kdTy P t = some s) (hd : P.underlying t = some d) {k : AV} {k' : Value} (hk : VRel m k k') (kk : k.key s = true) {es : ME} {l : List MapEntry} (hes : MRel m es l) :
    ∀ (i : Nat) (es' : ME), es.del k = some es' → (Instr.findNow d k' l i = some none ∧ MRel m es' l) ∨ ∃ j u, Instr.findNow d k' l i = some (some (i + j, u)) ∧ MRel m es' (l.eraseIdx j) := by
  induction hes with
  | nil =>
    intro i es' hr
    obtain rfl := Option.some.inj (show some ME.nil = some es' from hr)
    exact .inl ⟨rfl, .nil⟩
  | cons k1 v1 b1 es k1' v1' l h1 h2 hm ih =>
    intro i es' hr
    unfold ME.del at hr
    split at hr
    · rename_i he
      obtain rfl := Option.some.inj hr
      exact .inr ⟨0, v1', by simp [Instr.findNow, sameNow_eq ht hd hk h1 kk he], hm⟩
    · rename_i he
      split at hr
      · rename_i es1 hes1
        obtain rfl := Option.some.inj hr
        rcases ih (i + 1) es1 hes1 with ⟨q1, q2⟩ | ⟨j, u, q1, q2⟩
        · exact .inl ⟨by simp [Instr.findNow, sameNow_eq ht hd hk h1 kk he, q1], .cons _ _ _ _ _ _ _ h1 h2 q2⟩
        · refine .inr ⟨j + 1, u, ?_, .cons _ _ _ _ _ _ _ h1 h2 q2⟩
          rw [show i + (j + 1) = i + 1 + j by omega]
          simp [Instr.findNow, sameNow_eq ht hd hk h1 kk he, q1]
      · cases hr
    · cases hr
theorem del_sound (I : Inv P m h nx w) {ts : Array TypeId} {ty t k e : TypeId} {s : Nat} (ht0 : ts[0]? = some t) (ht : P.underlying t = some (.map k e)) (hk : kdTy P k = some s) {p q : AO} {l : Array Value} {p' q' : Value} (hl0 : l[0]? = some p') (hl1 : l[1]? = some q')
    (hp : VRel m (p.ev z) p') (hq : VRel m (q.ev z) q') {v : AV} {h' : TB} {nx' : Nat} (hv : eDel s p q z h nx = .ok v h' nx') :
    ∃ v' w', (Builtin.delete_ ts ty l).run P w = .ok v' w' ∧ Acted P m h nx w v h' nx' v' w' := by
  unfold eDel at hv
  obtain ⟨d, hd⟩ : ∃ d, P.underlying k = some d := by rcases kdTy_some hk with ⟨_, _, h⟩ | ⟨_, h⟩ | ⟨_, h⟩ <;> exact ⟨_, h⟩
  split at hv
  · rename_i hpe
    rw [hpe] at hp
    cases hp
    cases hkey : (q.ev z).key s with
    | false => rw [hkey] at hv; exact noC hv
    | true =>
      rw [hkey] at hv
      cases hv
      refine ⟨.tuple #[], w, ?_, m, unit_rel, I, Fr.refl _ _ _ _⟩
      unfold Builtin.delete_
      rw [show (10000 : Nat) = 9999 + 1 from rfl]
      simp only [ht0, hl0, hl1, Sem.run_bind, run_underlying ht, Result.andThen_ok, checkKey_run hk _ 9999 hq hkey w, Sem.run_pure]
  · rename_i id hpe
    rw [hpe] at hp
    cases hp with | map _ e0 he0 =>
    cases hkey : (q.ev z).key s with
    | false => rw [hkey] at hv; exact noC hv
    | true =>
      rw [hkey] at hv
      simp only [cond_true] at hv
      split at hv
      · rename_i es clock hb
        have hB := I.blk id e0 he0
        rw [hb] at hB
        obtain ⟨es0, hw, hM⟩ := hB
        have hro : ∀ (o : Obj) (b' : AB), e0.ro = true → w.putObj e0.blk o = w ∧ b' = h.get id := fun o b' hr => by
          have := I.ro id e0 he0 hr
          rw [hb] at this
          exact this.elim
        split at hv
        · rename_i es' hes'
          cases hv
          rcases del_run hk hd hq hkey hM 0 es' hes' with ⟨q1, q2⟩ | ⟨j, u, q1, q2⟩
          · refine ⟨.tuple #[], w.putObj e0.blk (.map es0 clock), ?_, m, unit_rel, ?_⟩
            · unfold Builtin.delete_
              rw [show (10000 : Nat) = 9999 + 1 from rfl]
              simp only [ht0, hl0, hl1, Sem.run_bind, run_underlying ht, Result.andThen_ok, getObj_run hw trivial, checkKey_run hk _ 9999 hq hkey w, Instr.findKey, run_underlying hd, q1, Sem.run_pure, setObj_run hw trivial]
            · exact I.upd he0 (by rw [hb]; trivial) ⟨_, rfl, q2⟩ (hro _ _) (fun l hlp => by rw [hw] at hlp; cases hlp)
          · rw [Nat.zero_add] at q1
            refine ⟨.tuple #[], w.putObj e0.blk (.map (es0.eraseIdxIfInBounds j) clock), ?_, m, unit_rel, ?_⟩
            · unfold Builtin.delete_
              rw [show (10000 : Nat) = 9999 + 1 from rfl]
              simp only [ht0, hl0, hl1, Sem.run_bind, run_underlying ht, Result.andThen_ok, getObj_run hw trivial, checkKey_run hk _ 9999 hq hkey w, Instr.findKey, run_underlying hd, q1, Sem.run_pure, setObj_run hw trivial]
            · refine I.upd he0 (by rw [hb]; trivial) ⟨_, rfl, ?_⟩ (hro _ _) (fun l hlp => by rw [hw] at hlp; cases hlp)
              rw [show (es0.eraseIdxIfInBounds j).toList = es0.toList.eraseIdx j by
                rw [← Array.toList_eraseIdxIfInBounds]]
              exact q2
        · exact noC hv
      · exact noC hv
  · exact noC hv

/-! Steps through a text -/
theorem get_byte (s : ByteArray) (j : Nat) : (s.get! j).toNat = byteAt (packL s.data.toList) j := by
  rw [byteAt_packL]
  show (s.data[j]!).toNat = _
  rw [Array.getElem?_toList]
  by_cases hj : j < s.data.size
  · rw [getElem!_pos s.data j hj, getElem?_pos s.data j hj]; rfl
  · rw [getElem!_neg s.data j hj, getElem?_neg s.data j hj]; rfl
theorem decode_eq (s : ByteArray) (i : Nat) : Utf8.decode s i = if byteAt (packL s.data.toList) i < 0x80 then (byteAt (packL s.data.toList) i, 1) else decodeA s.data.toList.length (packL s.data.toList) i := by
  have hs : s.size = s.data.toList.length := (Array.length_toList).symm
  unfold Utf8.decode decodeA
  simp only [get_byte, hs, Nat.add_zero]
theorem next_sound (I : Inv P m h nx w) {x : AO} {x' : Value} (hx : VRel m (x.ev z) x') {ty : TypeId} {v : AV} {h' : TB} {nx' : Nat} (hv : eNext x z h nx = .ok v h' nx') :
    ∃ v' w', (Instr.next x' true ty).run P w = .ok v' w' ∧ Acted P m h nx w v h' nx' v' w' := by
  unfold eNext at hv
  split at hv
  · rename_i id off hxe
    rw [hxe] at hx
    cases hx with | ptr _ _ e he hd =>
    cases h0 : Nat.beq off 0 with
    | false => rw [h0] at hv; exact noC hv
    | true =>
      rw [h0] at hv
      obtain rfl := nbeq_iff.1 h0
      simp only [cond_true] at hv
      rw [Nat.zero_sub]
      split at hv
      · rename_i len n pos hb
        have hB := I.blk id e he
        rw [hb] at hB
        obtain ⟨s, hw, rfl, rfl⟩ := hB
        have hs : s.size = s.data.toList.length := (Array.length_toList).symm
        have hro : ∀ (o : Obj) (b' : AB), e.ro = true → w.putObj e.blk o = w ∧ b' = h.get id := fun o b' hr => by
          have := I.ro id e he hr
          rw [hb] at this
          exact this.elim
        cases hl : Nat.ble (Nat.succ pos) s.data.toList.length with
        | false =>
          rw [hl] at hv
          cases hv
          rw [nbleF] at hl
          refine ⟨.tuple #[.bool false], w, ?_, m, .tuple _ _ (.cons _ _ _ _ (.bool _) .nil), I, Fr.refl _ _ _ _⟩
          simp only [Instr.next, Sem.run_bind, getObj_run hw trivial, Result.andThen_ok]
          rw [if_neg (by omega)]
          rfl
        | true =>
          rw [hl] at hv
          rw [nble_iff] at hl
          simp only [cond_true] at hv
          have hlt : pos < s.size := by omega
          have hrun : (Instr.next (.pointer (some ⟨e.blk, 0, none⟩)) true ty).run P w = .ok (.tuple #[.bool true, goInt pos, .int .i32 (Utf8.decode s pos).1]) (w.putObj e.blk (.stringIter s (pos + (Utf8.decode s pos).2))) := by
            simp only [Instr.next, Sem.run_bind, getObj_run hw trivial, Result.andThen_ok]
            rw [if_pos hlt]
            simp only [Sem.run_bind, setObj_run hw trivial, Result.andThen_ok, Sem.run_pure]
          rw [decode_eq] at hrun
          cases hc : Nat.ble (byteAt (packL s.data.toList) pos) 127 with
          | true =>
            rw [hc] at hv
            cases hv
            rw [nble_iff] at hc
            rw [if_pos (by omega)] at hrun
            refine ⟨_, _, hrun, m, .tuple _ _ (.cons _ _ _ _ (.bool _) (.cons _ _ _ _ (.int _ _) (.cons _ _ _ _ (.int _ _) .nil))), ?_⟩
            exact I.upd he (by rw [hb]; trivial) ⟨_, rfl, rfl, rfl⟩ (hro _ _) (fun l hlp => by rw [hw] at hlp; cases hlp)
          | false =>
            rw [hc] at hv
            cases hv
            rw [nbleF] at hc
            rw [if_neg (by omega)] at hrun
            refine ⟨_, _, hrun, m, .tuple _ _ (.cons _ _ _ _ (.bool _) (.cons _ _ _ _ (.int _ _) (.cons _ _ _ _ (.int _ _) .nil))), ?_⟩
            exact I.upd he (by rw [hb]; trivial) ⟨_, rfl, rfl, rfl⟩ (hro _ _) (fun l hlp => by rw [hw] at hlp; cases hlp)
      · exact noC hv
  · exact noC hv

/-! Copies -/
theorem first_zero {k : Nat} {x : Value} (hx : (∃ b l c, x = .slice b l c) ∨ ∃ s, x = .string s) (w : World) : (Builtin.firstCells k 0 x).run P w = .ok #[] w := by
  rcases hx with ⟨b, l, c, rfl⟩ | ⟨s, rfl⟩
  · cases b <;> simp [Builtin.firstCells, loadCells, loadCellsFrom]
  · show Result.ok ((s.extract 0 0).data.map _) w = _
    rw [ByteArray.data_extract]
    simp
theorem store_none (b : Option Addr) (w : World) : (match b with | some a => storeCells a [] | none => pure ()).run P w = .ok () w := by cases b <;> rfl
theorem copy_zero {ts : Array TypeId} {ty t el : TypeId} {i : TypeInfo} (ht0 : ts[0]? = some t) (ht : P.underlying t = some (.slice el)) (hi : P.info? el = some i) {b : Option Addr} {l c L : Nat} {x : Value}
    (hx : (∃ b l c, x = .slice b l c) ∨ ∃ s, x = .string s) (hL : (Builtin.lenOf x).run P w = .ok L w) (h0 : min L l = 0) : (Builtin.copy_ ts ty #[.slice b l c, x]).run P w = .ok (.int .i64 (.ofNat 0)) w := by
  have a0 : (#[Value.slice b l c, x] : Array Value)[0]? = some (.slice b l c) := rfl
  have a1 : (#[Value.slice b l c, x] : Array Value)[1]? = some x := rfl
  have h0' : Nat.min L l = 0 := h0
  unfold Builtin.copy_
  simp only [ht0, a0, a1, Sem.run_bind, run_underlying ht, Result.andThen_ok, hL, size_run hi, h0', first_zero hx w]
  cases b <;> rfl
theorem copy_put (I : Inv P m h nx w) {ts : Array TypeId} {ty t el : TypeId} {i : TypeInfo} (ht0 : ts[0]? = some t) (ht : P.underlying t = some (.slice el)) (hi : P.info? el = some i) {id : Pth} {off len lo : Nat} {ex : Bool} {d' x : Value}
    (hd : VRel m (.slice id off len lo ex i.size) d') {L n : Nat} (hL : (Builtin.lenOf x).run P w = .ok L w) (hn : min L len = n) (h0 : n ≠ 0) {c : AV} {vs : List Value} (hf : (Builtin.firstCells i.size n x).run P w = .ok vs.toArray w) (hc : VRels m c vs)
    (ho : ∀ v ∈ vs, v.oneCell' = true) {v : AV} {h' : TB} {nx' : Nat} (hv : put h id off c (.int .i64 (.ofNat n)) nx = .ok v h' nx') : ∃ v' w', (Builtin.copy_ ts ty #[d', x]).run P w = .ok v' w' ∧ Acted P m h nx w v h' nx' v' w' := by
  cases hd with | slice _ _ _ _ _ _ e a cc he hde hlen hlo hmax hex hsz haddr =>
  obtain ⟨rfl, rfl, w', hrun, hI, hF⟩ := put_run I he hc ho hde hv
  rw [haddr (by omega)]
  refine ⟨.int .i64 n, w', ?_, m, .int _ _, hI, hF⟩
  have a0 : (#[Value.slice (some (⟨e.blk, off - e.delta, none⟩ : Addr)) len cc, x] : Array Value)[0]? = some (.slice (some ⟨e.blk, off - e.delta, none⟩) len cc) := rfl
  have a1 : (#[Value.slice (some (⟨e.blk, off - e.delta, none⟩ : Addr)) len cc, x] : Array Value)[1]? = some x := rfl
  have hn' : Nat.min L len = n := hn
  unfold Builtin.copy_
  simp only [ht0, a0, a1, Sem.run_bind, run_underlying ht, Result.andThen_ok, hL, size_run hi, hn', hf, hrun]
  rfl
theorem copy_sound (I : Inv P m h nx w) {ts : Array TypeId} {ty t el : TypeId} {i : TypeInfo} (ht0 : ts[0]? = some t) (ht : P.underlying t = some (.slice el)) (hi : P.info? el = some i)
    {d s : AO} {d' s' : Value} (hd : VRel m (d.ev z) d') (hs : VRel m (s.ev z) s') {v : AV} {h' : TB} {nx' : Nat} (hv : eCopy i.size d s z h nx = .ok v h' nx') :
    ∃ v' w', (Builtin.copy_ ts ty #[d', s']).run P w = .ok v' w' ∧ Acted P m h nx w v h' nx' v' w' := by
  have zero : ∀ {b : Option Addr} {l c L : Nat} {x : Value}, (∃ b l c, x = .slice b l c) ∨ (∃ s, x = .string s) → (Builtin.lenOf x).run P w = .ok L w → min L l = 0 → CR.ok (.int .i64 (.ofNat 0)) h nx = .ok v h' nx' →
      ∃ v' w', (Builtin.copy_ ts ty #[.slice b l c, x]).run P w = .ok v' w' ∧ Acted P m h nx w v h' nx' v' w' := by
    intro b l c L x hx hL h0 hv
    cases hv
    exact ⟨_, _, copy_zero ht0 ht hi hx hL h0, m, .int _ _, I, Fr.refl _ _ _ _⟩
  unfold eCopy at hv
  split at hv
  · rename_i hde
    rw [hde] at hd
    cases hd
    split at hv
    · rename_i hse
      rw [hse] at hs
      cases hs
      exact zero (.inl ⟨_, _, _, rfl⟩) rfl (by simp) hv
    · rename_i hse
      rw [hse] at hs
      cases hs
      exact zero (.inl ⟨_, _, _, rfl⟩) rfl (by simp) hv
    · rename_i hse
      rw [hse] at hs
      cases hs
      exact zero (.inr ⟨_, rfl⟩) rfl (by simp) hv
    · exact noC hv
  · rename_i id off len lo ex k' hde
    rw [hde] at hd
    cases hk : Nat.beq i.size k' with
    | false => rw [hk] at hv; exact noC hv
    | true =>
      rw [hk] at hv
      obtain rfl := nbeq_iff.1 hk
      simp only [cond_true] at hv
      split at hv
      · rename_i hse
        rw [hse] at hs
        cases hs
        cases hd with | slice _ _ _ _ _ _ e a cc =>
        exact zero (.inl ⟨_, _, _, rfl⟩) rfl (by simp) hv
      · rename_i l n hse
        rw [hse] at hs
        cases h1 : Nat.beq i.size 1 with
        | false => rw [h1] at hv; exact noC hv
        | true =>
          rw [h1] at hv
          rw [nbeq_iff] at h1
          simp only [cond_true, minN_eq] at hv
          cases hs with | str b =>
          have hz : b.size = b.data.toList.length := (Array.length_toList).symm
          have hL : (Builtin.lenOf (.string b)).run P w = .ok b.data.toList.length w := by show Result.ok b.size w = _; rw [hz]
          cases h0 : Nat.beq (min b.data.toList.length len) 0 with
          | true =>
            rw [h0] at hv
            rw [nbeq_iff] at h0
            cases hd with | slice _ _ _ _ _ _ e a cc =>
            exact zero (.inr ⟨_, rfl⟩) hL h0 hv
          | false =>
            rw [h0] at hv
            simp only [cond_false] at hv
            have hrel := bytesL_rel (m := m) b.data.toList (min b.data.toList.length len) 0 (by omega)
            refine copy_put I ht0 ht hi hd hL rfl (fun e => by rw [e] at h0; simp at h0) ?_ hrel ?_ hv
            · show Result.ok ((b.extract 0 _).data.map _) w = _
              congr 1
              apply Array.toList_inj.1
              rw [ByteArray.data_extract]
              simp [List.extract_eq_take_drop, List.map_take]
            · intro v hv
              obtain ⟨b, _, rfl⟩ := List.mem_map.1 hv
              rfl
      · rename_i id2 off2 len2 lo2 ex2 k2 hse
        rw [hse] at hs
        cases h1 : Nat.beq i.size k2 with
        | false => rw [h1] at hv; exact noC hv
        | true =>
          rw [h1] at hv
          obtain rfl := nbeq_iff.1 h1
          simp only [cond_true, minN_eq] at hv
          cases h0 : Nat.beq (min len2 len) 0 with
          | true =>
            rw [h0] at hv
            rw [nbeq_iff] at h0
            cases hd with | slice _ _ _ _ _ _ e a cc =>
            cases hs with | slice _ _ _ _ _ _ e2 a2 cc2 =>
            exact zero (.inl ⟨_, _, _, rfl⟩) rfl h0 hv
          | false =>
            rw [h0] at hv
            simp only [cond_false] at hv
            split at hv
            · rename_i c hc
              have hne : min len2 len ≠ 0 := fun e => by rw [e] at h0; simp at h0
              cases hs with | slice _ _ _ _ _ _ e2 a2 cc2 he2 hde2 hlen2 hlo2 hmax2 hex2 hsz2 haddr2 =>
              obtain ⟨vs, g1, g2, g3, g4, g5⟩ := I.loads he2 hc
              refine copy_put I ht0 ht hi hd (L := len2) rfl rfl hne ?_ g2 g3 hv
              simp only [Builtin.firstCells, haddr2 (by omega)]
              exact g5
            · exact noC hv
      · exact noC hv
  · exact noC hv

/-! Clearing -/
theorem clear_sound (I : Inv P m h nx w) {ts : Array TypeId} {ty t el : TypeId} (ht0 : ts[0]? = some t) (ht : P.underlying t = some (.slice el)) {zc : AV} (hz : zeroCells P el = some zc)
    {x : AO} {x' : Value} (hx : VRel m (x.ev z) x') {v : AV} {h' : TB} {nx' : Nat} (hv : eClear zc x z h nx = .ok v h' nx') :
    ∃ v' w', (Builtin.clear_ ts ty #[x']).run P w = .ok v' w' ∧ Acted P m h nx w v h' nx' v' w' := by
  have a0 : (#[x'] : Array Value)[0]? = some x' := rfl
  unfold eClear at hv
  split at hv
  · rename_i hxe
    rw [hxe] at hx
    cases hx
    cases hv
    refine ⟨.tuple #[], w, ?_, m, unit_rel, I, Fr.refl _ _ _ _⟩
    unfold Builtin.clear_
    simp only [ht0, a0, Sem.run_bind, run_underlying ht, Result.andThen_ok, Sem.run_pure]
  · rename_i hxe
    rw [hxe] at hx
    cases hx
    cases hv
    refine ⟨.tuple #[], w, ?_, m, unit_rel, I, Fr.refl _ _ _ _⟩
    unfold Builtin.clear_
    simp only [ht0, a0, Sem.run_bind, run_underlying ht, Result.andThen_ok, Sem.run_pure]
  · rename_i id off len lo ex k hxe
    rw [hxe] at hx
    cases h0 : Nat.beq len 0 with
    | true =>
      rw [h0] at hv
      obtain rfl := nbeq_iff.1 h0
      cases hx with | slice _ _ _ _ _ _ e a cc =>
      cases hv
      refine ⟨.tuple #[], w, ?_, m, unit_rel, I, Fr.refl _ _ _ _⟩
      unfold Builtin.clear_
      simp only [ht0, a0, Sem.run_bind, run_underlying ht, Result.andThen_ok, Sem.run_pure]
    | false =>
      rw [h0] at hv
      have hne : len ≠ 0 := fun e => by subst e; simp at h0
      simp only [cond_false] at hv
      cases hk : Nat.beq zc.len k with
      | false => rw [hk] at hv; exact noC hv
      | true =>
        rw [hk] at hv
        simp only [cond_true] at hv
        obtain ⟨zv, z1, z2, z3⟩ := zeroCells_run hz
        cases hx with | slice _ _ _ _ _ _ e a cc he hde hlen hlo hmax hex hsz haddr =>
        have hrep := zeros_get zv.cells.toList len
        have hzc : (Builtin.zeroCells zv.cells len).toList = (List.replicate len zv.cells.toList).flatten := by
          unfold Builtin.zeroCells
          rw [Array.length_toList] at hrep
          rw [hrep]
        obtain ⟨rfl, rfl, w', hrun, hI, hF⟩ := put_run I he ((z2 m).reps len) (fun v hv => by
          obtain ⟨l', h1, h2⟩ := List.mem_flatten.1 hv
          rw [(List.mem_replicate.1 h1).2] at h2
          exact z3 v h2) hde hv
        refine ⟨.tuple #[], w', ?_, m, unit_rel, hI, hF⟩
        obtain ⟨len, rfl⟩ : ∃ l, len = l + 1 := ⟨len - 1, by omega⟩
        rw [haddr (by omega)]
        unfold Builtin.clear_
        simp only [ht0, a0, Sem.run_bind, run_underlying ht, Result.andThen_ok, z1, hzc]
        rw [haddr (by omega)] at a0
        simp only [a0, Sem.run_bind, run_underlying ht, Result.andThen_ok, z1, hzc, hrun, Sem.run_pure]
  · rename_i id hxe
    rw [hxe] at hx
    cases hx with | map _ e he =>
    split at hv
    · rename_i es clock hb
      cases hv
      have hB := I.blk id e he
      rw [hb] at hB
      obtain ⟨l, hw, hM⟩ := hB
      refine ⟨.tuple #[], w.putObj e.blk (.map #[] clock), ?_, m, unit_rel, ?_⟩
      · unfold Builtin.clear_
        simp only [ht0, a0, Sem.run_bind, run_underlying ht, Result.andThen_ok, getObj_run hw trivial, setObj_run hw trivial, Sem.run_pure]
      · refine I.upd he (by rw [hb]; trivial) ⟨_, rfl, .nil⟩ (fun hr => ?_) (fun l hlp => by rw [hw] at hlp; cases hlp)
        have := I.ro id e he hr
        rw [hb] at this
        exact this.elim
    · exact noC hv
  · exact noC hv

/-! Bytes that become a text -/
theorem lies_bytes {e : TypeId} (hc : P.cellsOf e = 1) (count off n : Nat) (hn : off + n ≤ count) : liesAt P P.depth e count off e n = true := by
  have hd : P.depth = (2 * (P.types.size + Made.depth) + 1) + 1 := rfl
  rw [hd]
  simp only [liesAt, Bool.or_eq_true]
  left
  rw [hd]
  simp [rowAt, hc, hn, sameLayout, Nat.mod_one]
theorem freeze_put {w : World} {b o n : Nat} {cs : Array Value} {elem : TypeId} {fr : Nat × Nat} (hw : w.heap[b]? = some (.cells cs elem fr)) (hn : n ≠ 0) :
    w.freeze ⟨b, o, none⟩ n = w.putObj b (.cells cs elem (if fr.1 == fr.2 then (o, o + n) else (min fr.1 o, max fr.2 (o + n)))) := by
  have hb := (Array.getElem?_eq_some_iff.1 hw).1
  have he := (Array.getElem?_eq_some_iff.1 hw).2
  unfold World.freeze World.putObj
  rw [if_neg hn]
  simp only [World.mk.injEq, and_true]
  apply Array.ext_getElem?
  intro i
  by_cases hi : b = i
  · subst hi
    rw [Array.getElem?_modify]
    simp [hb, he]
  · rw [Array.getElem?_modify, if_neg hi, Array.getElem?_setIfInBounds_ne hi]
theorem ustr_sound (I : Inv P m h nx w) {ts : Array TypeId} {ty t el : TypeId} (ht0 : ts[0]? = some t) (ht : P.underlying t = some (.pointer el)) (hel : P.underlying el = some (.int .u8)) (hc1 : P.cellsOf el = 1)
    {p n : AO} {p' n' : Value} (hp : VRel m (p.ev z) p') (hn : VRel m (n.ev z) n') {v : AV} {h' : TB} {nx' : Nat} (hv : eUstr el p n z h nx = .ok v h' nx') :
    ∃ v' w', (Builtin.unsafeString_ ts ty #[p', n']).run P w = .ok v' w' ∧ Acted P m h nx w v h' nx' v' w' := by
  have hmax : IntKind.i64.max = 9223372036854775807 := rfl
  have none0 : ∀ (q : Option Addr) (k : IntKind), CR.ok (.str 0 0) h nx = .ok v h' nx' → ∃ v' w', (Builtin.unsafeString_ ts ty #[.pointer q, .int k 0]).run P w = .ok v' w' ∧ Acted P m h nx w v h' nx' v' w' := by
    intro q k hv
    cases hv
    refine ⟨.string .empty, w, ?_, m, .str' _ rfl rfl, I, Fr.refl _ _ _ _⟩
    change Sem.run P (asInt (.int k 0) >>= _) w = _
    cases q <;> simp [asInt, asIntOf, ht0, hmax]
  unfold eUstr at hv
  split at hv
  · rename_i n0 hpe hne
    obtain ⟨k, hk⟩ := natOf_some hne
    rw [hpe] at hp; rw [hk] at hn
    cases hp
    cases hn
    cases h0 : Nat.beq n0 0 with
    | false => rw [h0] at hv; exact noC hv
    | true =>
      rw [h0] at hv
      obtain rfl := nbeq_iff.1 h0
      exact none0 none k hv
  · rename_i id off n0 hpe hne
    obtain ⟨k, hk⟩ := natOf_some hne
    rw [hpe] at hp; rw [hk] at hn
    cases hp with | ptr _ _ e he hde =>
    cases hn
    cases h0 : Nat.beq n0 0 with
    | true =>
      rw [h0] at hv
      obtain rfl := nbeq_iff.1 h0
      exact none0 _ k hv
    | false =>
      rw [h0] at hv
      have hn0 : n0 ≠ 0 := fun e => by subst e; simp at h0
      simp only [cond_false] at hv
      split at hv
      · rename_i fz elem lo hi t hb
        cases hcnd : (Nat.beq el elem && (Nat.ble lo off && (Nat.ble (Nat.add off n0) hi && (Nat.ble 1 fz && (Nat.ble (Nat.succ fz) 18446744073709551616 && Nat.ble n0 9223372036854775807))))) with
        | false => rw [hcnd] at hv; exact noC hv
        | true =>
          rw [hcnd] at hv
          simp only [Bool.and_eq_true, nble_iff, nbeq_iff] at hcnd
          obtain ⟨rfl, k1, k2, k3, k4, k5⟩ := hcnd
          replace k2 : off + n0 ≤ hi := k2
          simp only [cond_true] at hv
          split at hv
          · rename_i q hq
            cases hv
            obtain ⟨cs, fr, hw, R⟩ := I.row he hb
            obtain ⟨vs, g1, g2, g3, g4⟩ := R.loads hw n0 k1 k2
            obtain ⟨bs, rfl, g5, g6⟩ := packA_some g2 hq
            have hlen : bs.length = n0 := by simpa using g1
            have hhigh := R.high
            have hlow := R.low
            have hsz := R.size
            have hro : e.ro = false := by
              cases hr : e.ro with
              | false => rfl
              | true =>
                have := I.ro id e he hr
                rw [hb] at this
                replace this : _ ∧ 18446744073709551616 ≤ fz := this
                omega
            have hld := Lib.run_loadBytes (P := P) w bs ⟨e.blk, off - e.delta, none⟩ .empty (fun j x hj => by
              rw [add_eq]
              exact g4 j _ (by rw [List.getElem?_map, hj]; rfl))
            rw [hlen] at hld
            have hva : (variablesAt ⟨e.blk, off - e.delta, none⟩ el n0).run P w = .ok true w := by
              simp only [variablesAt, Sem.run_bind, run_program, Result.andThen_ok, run_shape, shape_some w hw, Sem.run_pure]
              rw [hc1, Nat.div_one, lies_bytes hc1 _ _ _ (by omega)]
            refine ⟨.string ⟨bs.toArray⟩, w.putObj e.blk (.cells cs el (if fr.1 == fr.2 then (off - e.delta, off - e.delta + n0) else (min fr.1 (off - e.delta), max fr.2 (off - e.delta + n0)))), ?_, m, .str' _ g5 g6, ?_⟩
            · rw [← freeze_put hw hn0]
              have c1 : ¬ (Int.ofNat n0 < 0) := by simp
              have c2 : ¬ (Int.ofNat n0 > IntKind.i64.max) := by rw [hmax]; simp; omega
              have c3 : ¬ (Int.ofNat n0 = 0) := by simp; exact hn0
              have c4 : (Int.ofNat n0).toNat = n0 := rfl
              have hem : (⟨ByteArray.empty.data ++ bs.toArray⟩ : ByteArray) = ⟨bs.toArray⟩ := by simp
              rw [hem] at hld
              change Sem.run P (asInt (.int k (Int.ofNat n0)) >>= _) w = _
              simp only [asInt, asIntOf, Sem.run_bind, Sem.run_pure, Result.andThen_ok, ht0, c1, c2, c3, if_false, elemOf, run_underlying ht, c4, hva, if_true, hld, run_freeze]
            · refine I.upd he (by rw [hb]; trivial) ⟨_, _, rfl, ?_⟩ (fun hr => by rw [hro] at hr; cases hr) (fun l hlp => by rw [hw] at hlp; cases hlp)
              have hfz : ∀ o, (bif Nat.ble fz (Nat.succ (Nat.add off n0)) then Nat.succ (Nat.add off n0) else fz) ≤ o + 1 → fz ≤ o + 1 ∧ off + n0 ≤ o := by
                intro o
                have e1 : Nat.succ (Nat.add off n0) = off + n0 + 1 := rfl
                rw [e1]
                cases hq : Nat.ble fz (off + n0 + 1) with
                | true => rw [nble_iff] at hq; simp only [cond_true]; omega
                | false => rw [nbleF] at hq; simp only [cond_false]; omega
              refine ⟨hsz, hlow, hhigh, R.one, R.cell, fun o q1 q2 q3 => ?_, fun q1 q2 => ?_⟩
              · obtain ⟨q4, q5⟩ := hfz o q2
                have hfree := R.free o q1 q4 q3
                by_cases hfr : fr.1 = fr.2
                · rw [if_pos (by simpa using hfr)]; simp only; omega
                · rw [if_neg (by simpa using hfr)]
                  obtain ⟨m1, m2⟩ := R.mark k3 hfr
                  simp only
                  intro hc
                  have : o - e.delta < fr.1 := by omega
                  exact R.free (e.delta + fr.1) (by omega) (by omega) (by omega) (by omega)
              · by_cases hfr : fr.1 = fr.2
                · rw [if_pos (by simpa using hfr)]; simp only; omega
                · rw [if_neg (by simpa using hfr)]
                  obtain ⟨m1, m2⟩ := R.mark k3 hfr
                  simp only
                  omega
          · exact noC hv
      · exact noC hv
  · exact noC hv
end Go.Ra
