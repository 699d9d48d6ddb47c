/-
  Operations that act: a block's change; stores.
-/
import Derived.Test.YtjjmmakledpifaaGreatDoorSB
set_option linter.unusedVariables false
set_option linter.unusedSimpArgs false
namespace Go.Ra
variable {P : Program} {m : Mp} {h : TB} {nx : Nat} {w : World} {nt : Nat} {a : Act} {z : TV}

theorem put_heap {w : World} {b : Nat} {o : Obj} (hb : b < w.heap.size) : (w.putObj b o).heap[b]? = some o := World.putObj_heap_same hb
theorem put_other {w : World} {b r : Nat} {o : Obj} (hr : r ≠ b) : (w.putObj b o).heap[r]? = w.heap[r]? := World.putObj_heap_other hr
theorem put_self {w : World} {b : Nat} {o : Obj} (hw : w.heap[b]? = some o) : w.putObj b o = w := by
  have hb := (Array.getElem?_eq_some_iff.1 hw).1
  have he := (Array.getElem?_eq_some_iff.1 hw).2
  unfold World.putObj
  have : w.heap.setIfInBounds b o = w.heap := by
    apply Array.ext_getElem?
    intro i
    by_cases hi : b = i
    · subst hi; simp [Array.getElem?_setIfInBounds, hb, ← he]
    · simp [Array.getElem?_setIfInBounds_ne hi]
  rw [this]
theorem put_put {w : World} {b : Nat} {o o' : Obj} : (w.putObj b o).putObj b o' = w.putObj b o' := by
  unfold World.putObj
  simp only [World.mk.injEq, and_true]
  apply Array.ext_getElem?
  intro i
  by_cases hi : b = i
  · subst hi; by_cases hb : b < w.heap.size <;> simp [Array.getElem?_setIfInBounds, hb]
  · simp [Array.getElem?_setIfInBounds_ne hi]
theorem setCell_put {w : World} {b k : Nat} {cs : Array Value} {elem : TypeId} {fr : Nat × Nat} (hw : w.heap[b]? = some (.cells cs elem fr)) (v : Value) : w.setCell ⟨b, k, none⟩ v = w.putObj b (.cells (cs.setIfInBounds k v) elem fr) := by
  have hb := (Array.getElem?_eq_some_iff.1 hw).1
  have he := (Array.getElem?_eq_some_iff.1 hw).2
  unfold World.setCell World.putObj
  simp only [World.mk.injEq, and_true]
  apply Array.ext_getElem?
  intro i
  by_cases hi : b = i
  · subst hi
    rw [Array.getElem?_modify]
    simp [hb, he]
  · rw [Array.getElem?_modify, if_neg hi, Array.getElem?_setIfInBounds_ne hi]

theorem storeCells_run (b o : Nat) {elem : TypeId} {fr : Nat × Nat} : ∀ (vs A B C : List Value) (i : Nat) (w : World), w.heap[b]? = some (.cells (A ++ (B ++ C)).toArray elem fr) → A.length = o + i → B.length = vs.length →
    (∀ v ∈ vs, v.oneCell' = true) → (∀ j, j < vs.length → ¬ (fr.1 ≤ o + i + j ∧ o + i + j < fr.2)) →
    (storeCells ⟨b, o, none⟩ vs i).run P w = .ok () (w.putObj b (.cells (A ++ (vs ++ C)).toArray elem fr)) := by
  intro vs
  induction vs with
  | nil =>
    intro A B C i w hw hA hB _ _
    obtain rfl : B = [] := List.length_eq_zero_iff.1 hB
    rw [put_self hw]
    rfl
  | cons v vs ih =>
    intro A B C i w hw hA hB h1 hf
    cases B with
    | nil => simp at hB
    | cons u B =>
      have hb := (Array.getElem?_eq_some_iff.1 hw).1
      have hcell : w.cell? ⟨b, o + i, none⟩ = some u := by
        rw [cell_of hw, ← hA]
        simp
      have hfr : w.frozen? ⟨b, o + i, none⟩ = false := by
        have := hf 0 (by simp)
        simp only [World.frozen?, hw]
        simpa using this
      have hset : (A ++ (u :: B ++ C)).toArray.setIfInBounds (o + i) v = ((A ++ [v]) ++ (B ++ C)).toArray := by
        rw [← hA]
        apply Array.toList_inj.1
        simp
      have hst : (store ((⟨b, o, none⟩ : Addr).add i) v).run P w = .ok () (w.putObj b (.cells ((A ++ [v]) ++ (B ++ C)).toArray elem fr)) := by
        rw [add_eq, run_store P w _ v _ (h1 v List.mem_cons_self), hcell]
        simp only [hfr, Bool.false_eq_true, if_false]
        rw [setCell_put hw, hset]
      have := ih (A ++ [v]) B C (i + 1) (w.putObj b (.cells ((A ++ [v]) ++ (B ++ C)).toArray elem fr)) (put_heap hb) (by simp [hA]; omega) (by simpa using hB) (fun x hx => h1 x (List.mem_cons_of_mem _ hx)) (fun j hj => by
        have := hf (j + 1) (by simp; omega)
        rwa [show o + i + (j + 1) = o + (i + 1) + j by omega] at this)
      simp only [storeCells, Sem.run_bind, hst, Result.andThen_ok]
      rw [this, put_put]
      simp

/-- A block becomes another one. -/
theorem Inv.upd (I : Inv P m h nx w) {id : Pth} {e : E} (he : m id = some e) (hl : live (h.get id)) {b' : AB} {o : Obj} (hb : BRel P m e b' (some o))
    (hro : e.ro = true → w.putObj e.blk o = w ∧ b' = h.get id) (hloop : ∀ l : Loop, w.heap[e.blk]? = some (Obj.loop l) → ∃ l' : Loop, o = Obj.loop l') :
    Inv P m (TB.set id b' h) nx (w.putObj e.blk o) ∧ Fr m h nx w m (TB.set id b' h) nx (w.putObj e.blk o) := by
  have hlt := I.lt he hl
  have hg : ∀ id', id' ≠ id → id'.plen = D → (TB.set id b' h).get id' = h.get id' := fun id' h1 h2 => by rw [TB.get_set (by rw [h2, I.plen he]), if_neg h1]
  have hgs : (TB.set id b' h).get id = b' := by rw [TB.get_set rfl, if_pos rfl]
  have hlive : ∀ id' e', m id' = some e' → live ((TB.set id b' h).get id') → live (h.get id') := by
    intro id' e' h1 h2
    by_cases hi : id' = id
    · subst hi; exact hl
    · rwa [hg id' hi (I.plen h1)] at h2
  refine ⟨⟨fun id' e' h' => ?_, fun i1 i2 e1 e2 h1 h2 l1 l2 hb' => I.inj i1 i2 e1 e2 h1 h2 (hlive _ _ h1 l1) (hlive _ _ h2 l2) hb', I.dom, I.top, I.low, I.glob, fun id' e' h' hr => ?_, fun id' e' h' => by simpa using I.lim id' e' h'⟩, ?_⟩
  · by_cases hi : id' = id
    · subst hi
      rw [he] at h'; cases h'
      rw [hgs, put_heap hlt]; exact hb
    · rw [hg id' hi (I.plen h')]
      have hB := I.blk id' e' h'
      by_cases hl' : live (h.get id')
      · have hne : e'.blk ≠ e.blk := fun hbe => hi (I.inj id' id e' e h' he hl' hl hbe)
        rw [put_other hne]; exact hB
      · cases hx : h.get id' <;> rw [hx] at hl' <;> first | trivial | exact absurd trivial hl'
  · by_cases hi : id' = id
    · subst hi
      rw [he] at h'; cases h'
      rw [hgs, (hro hr).2]
      exact I.ro _ _ he hr
    · rw [hg id' hi (I.plen h')]; exact I.ro id' e' h' hr
  · refine ⟨Sub.refl m, Nat.le_refl _, fun n hn hm => ⟨hm, ?_⟩, rfl, rfl, rfl, by simp, fun r hr hk => ?_, fun r l hlp => ?_, fun id' e' h1 h2 => by rw [h1] at h2; cases h2⟩
    · exact hg _ (fun e' => by rw [e', he] at hm; cases hm) (plen_bid n)
    · by_cases hrb : r = e.blk
      · subst hrb
        rw [(hro (hk id e he rfl)).1]
      · exact put_other hrb
    · by_cases hrb : r = e.blk
      · subst hrb
        obtain ⟨l', rfl⟩ := hloop l hlp
        exact ⟨l', put_heap hlt⟩
      · exact ⟨l, by rw [put_other hrb]; exact hlp⟩

/-- Cells of a row are overwritten. -/
theorem Row.puts {e : E} {fz elem lo hi : Nat} {t : Tr} {cs : Array Value} {fr : Nat × Nat} (R : Row m e fz elem lo hi t cs fr) {l : AV} {vs : List Value} (hl : VRels m l vs) (ho : ∀ v ∈ vs, v.oneCell' = true) {off : Nat}
    (h1 : lo ≤ off) {hi' : Nat} (h2 : hi ≤ hi') (h2' : off + vs.length ≤ hi') (h4 : hi' ≤ e.delta + e.size) (h3 : hi' ≤ max hi (off + vs.length)) (h5 : off ≤ hi) :
    Row m e fz elem lo hi' (Tr.sets l off t) (cs.toList.take (off - e.delta) ++ (vs ++ cs.toList.drop (off - e.delta + vs.length))).toArray fr := by
  have hlow := R.low
  have hsz := R.size
  have hsz' : cs.toList.length = e.size := by rw [Array.length_toList]; exact hsz
  have hlt : (cs.toList.take (off - e.delta)).length = off - e.delta := by rw [List.length_take]; omega
  refine ⟨by simp; omega, hlow, h4, fun o k1 k2 v hv => ?_, fun o k1 k2 => ?_, R.free, R.mark⟩
  · rw [List.getElem?_toArray] at hv
    by_cases hin : off ≤ o ∧ o < off + vs.length
    · rw [List.getElem?_append_right (by omega), hlt, List.getElem?_append_left (by omega)] at hv
      exact ho v (List.mem_of_getElem? hv)
    · refine R.one o k1 (by omega) v ?_
      rw [← Array.getElem?_toList]
      by_cases ho' : o < off
      · rw [List.getElem?_append_left (by omega), List.getElem?_take_of_lt (by omega)] at hv; exact hv
      · rw [List.getElem?_append_right (by omega), hlt, List.getElem?_append_right (by omega), List.getElem?_drop] at hv
        rwa [show off - e.delta + vs.length + (o - e.delta - (off - e.delta) - vs.length) = o - e.delta by omega] at hv
  · by_cases hin : off ≤ o ∧ o < off + vs.length
    · obtain ⟨v, hv⟩ : ∃ v, vs[o - off]? = some v := ⟨_, List.getElem?_eq_getElem (by omega)⟩
      refine ⟨v, ?_, sets_rel hl off t o v (fun _ _ => hv) (fun hc => by omega)⟩
      rw [List.getElem?_toArray, List.getElem?_append_right (by omega), hlt, List.getElem?_append_left (by omega)]
      rw [show o - e.delta - (off - e.delta) = o - off by omega]
      exact hv
    · obtain ⟨v, hv, hr⟩ := R.cell o k1 (by omega)
      refine ⟨v, ?_, sets_rel hl off t o v (fun q1 q2 => by omega) (fun _ => hr)⟩
      rw [List.getElem?_toArray]
      rw [← Array.getElem?_toList] at hv
      by_cases ho' : o < off
      · rw [List.getElem?_append_left (by omega), List.getElem?_take_of_lt (by omega)]; exact hv
      · rw [List.getElem?_append_right (by omega), hlt, List.getElem?_append_right (by omega), List.getElem?_drop]
        rw [show off - e.delta + vs.length + (o - e.delta - (off - e.delta) - vs.length) = o - e.delta by omega]
        exact hv
theorem ptrC_ok {v : AV} {f : Pth → Nat → CR} {r : AV} {h' : TB} {n' : Nat} (h : v.ptrC f = .ok r h' n') : ∃ p o, v = .ptr p o ∧ f p o = .ok r h' n' := by
  cases v <;> first | exact ⟨_, _, rfl, h⟩ | (cases (show CR.fail = .ok r h' n' from h))
theorem cellsC_ok {b : AB} {f : Nat → TypeId → Nat → Nat → Tr → CR} {r : AV} {h' : TB} {n' : Nat} (h : b.cellsC f = .ok r h' n') : ∃ fz e lo hi t, b = .cells fz e lo hi t ∧ f fz e lo hi t = .ok r h' n' := by
  cases b <;> first | exact ⟨_, _, _, _, _, rfl, h⟩ | (cases (show CR.fail = .ok r h' n' from h))
theorem whenC_ok {b : Bool} {c : CR} {r : AV} {h' : TB} {n' : Nat} : whenC b c = .ok r h' n' ↔ b = true ∧ c = .ok r h' n' := by cases b <;> simp [whenC]
theorem noC {r : AV} {h' : TB} {n' : Nat} {p : Prop} (h : CR.fail = .ok r h' n') : p := by cases h

/-- Cells are stored into a block. -/
theorem put_run (I : Inv P m h nx w) {id : Pth} {e : E} (he : m id = some e) {off : Nat} {l : AV} {vs : List Value} (hl : VRels m l vs) (ho : ∀ v ∈ vs, v.oneCell' = true) (hd : e.delta ≤ off) {v r : AV} {h' : TB} {nx' : Nat} (hp : put h id off l v nx = .ok r h' nx') :
    r = v ∧ nx' = nx ∧ ∃ w', (storeCells ⟨e.blk, off - e.delta, none⟩ vs).run P w = .ok () w' ∧ Inv P m h' nx w' ∧ Fr m h nx w m h' nx w' := by
  obtain ⟨fz, elem, lo, hi, t, hb, hp⟩ := cellsC_ok hp
  obtain ⟨hk, hp⟩ := whenC_ok.1 hp
  rw [bits_and3, nble_iff, nble_iff, nble_iff] at hk
  obtain ⟨k1, k2, k3⟩ := hk
  replace k3 : off + l.len ≤ hi := k3
  cases hp
  obtain ⟨cs, fr, hw, R⟩ := I.row he hb
  have hlen := hl.len
  have hhigh := R.high
  have hsz : cs.toList.length = e.size := by rw [Array.length_toList]; exact R.size
  have hsplit : cs = (cs.toList.take (off - e.delta) ++ ((cs.toList.drop (off - e.delta)).take vs.length ++ cs.toList.drop (off - e.delta + vs.length))).toArray := by
    rw [← List.drop_drop, List.take_append_drop, List.take_append_drop]
  have hrun := storeCells_run (P := P) e.blk (off - e.delta) (elem := elem) (fr := fr) vs (cs.toList.take (off - e.delta)) ((cs.toList.drop (off - e.delta)).take vs.length) (cs.toList.drop (off - e.delta + vs.length)) 0 w
    (by rw [← hsplit]; exact hw) (by rw [List.length_take]; omega) (by rw [List.length_take, List.length_drop]; omega) ho (fun j hj => by
      have := R.free (off + j) (by omega) (by omega) (by omega)
      rwa [show off + j - e.delta = off - e.delta + 0 + j by omega] at this)
  refine ⟨rfl, rfl, _, hrun, ?_⟩
  have hrow := R.puts hl ho k1 (Nat.le_refl hi) (by omega) hhigh (by omega) (by omega)
  refine I.upd he (by rw [hb]; trivial) ⟨_, _, rfl, hrow⟩ (fun hr => ?_) (fun l hlp => by rw [hw] at hlp; cases hlp)
  have hz := I.ro id e he hr
  rw [hb] at hz
  replace hz : e.delta + e.size < fz ∧ _ := hz
  have hz := hz.1
  have hv0 : vs = [] := List.length_eq_zero_iff.1 (by omega)
  subst hv0
  cases hl
  refine ⟨?_, by rw [hb]; rfl⟩
  refine put_self ?_
  rw [hw]
  simp
end Go.Ra
