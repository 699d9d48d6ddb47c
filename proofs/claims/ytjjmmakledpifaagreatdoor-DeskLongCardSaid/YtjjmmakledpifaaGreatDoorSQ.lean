/-
  Drawn regions: one operation more.
-/
import Derived.Test.YtjjmmakledpifaaGreatDoorSP
set_option linter.unusedVariables false
set_option linter.unusedSimpArgs false
namespace Go.Ra
variable {P : Program} {m : Mp} {h : TB} {nx : Nat} {w : World} {nt : Nat} {a : Act} {z : TV} {ft : TF} {ex : Exec}
section run
variable {ops : Array Oper} {al : ADr} {pre : List Nat} {σ : Nat → Sn} {s : Start} {κ : Nat} {listed : Array Bool}

theorem on_set {i j : Nat} (hi : i < listed.size) : (listed.setIfInBounds i true).getD j false = true ↔ j = i ∨ listed.getD j false = true := by
  by_cases e : i = j
  · subst e
    simp [hi]
  · rw [getD_set_ne false e]
    exact ⟨.inr, fun h => h.resolve_left (Ne.symm e)⟩
theorem off_set {i j : Nat} (hi : i < listed.size) : (listed.setIfInBounds i true).getD j false = false ↔ j ≠ i ∧ listed.getD j false = false := by
  by_cases e : i = j
  · subst e
    simp [hi]
  · rw [getD_set_ne false e]
    exact ⟨fun h => ⟨Ne.symm e, h⟩, fun h => h.2⟩
theorem make_grows (R : DRun P ft ex nt ops al pre σ) {k : Nat} {x : It} (hx : al.list[k]? = some x) (hm : x.2.1 = .makes) (hw : wantA x.2.2.guard (σ k).1 = some true) :
    ∃ v b, fev x.2.2.aop (σ k).1 (bid (σ k).2.2) = some (v, b) ∧ (σ k).2.2 ≤ 32767 ∧ (σ (k + 1)).2.1 = TB.set (bid (σ k).2.2) b (σ k).2.1 ∧ (σ (k + 1)).2.2 = (σ k).2.2 + 1 ∧ (σ (k + 1)).1 = setD x.2.2.dst v (σ k).1 := by
  obtain ⟨v, h1, _, _, h2 | h2⟩ := calm_step (R.steps k x hx) (R.D.staged k x hx).2.1 (by rw [hm]; rfl)
  · rcases h2.2.2 with h3 | h3
    · rw [hw] at h3; cases h3.1
    · exact absurd hm h3.2.2
  · obtain ⟨_, _, h3, b, h4, h5, h6⟩ := h2
    exact ⟨v, b, h4, h3, h5, h6, h1⟩

/-- An operation that doesn't act has run. -/
theorem DW.calm_end (W : DW P s nt ops al σ κ listed m a w) (R : DRun P ft ex nt ops al pre σ) {k : Nat} {x : It} (hx : al.list[k]? = some x) (ha : x.2.1.isAct = false) {o : Oper} (ho : ops[x.1]? = some o) (hdst : cDst nt o = some x.2.2.dst)
    (hr : ∀ d ∈ dirs o, listed.getD d false = true) (hl : listed.getD x.1 false = false) {m' : Mp} {w' : World} {v' : Value} (hs : Sub m m') (I' : Inv P m' (σ κ).2.1 (σ κ).2.2 w') (F' : Fr s.m s.h s.nx s.w m' (σ κ).2.1 (σ κ).2.2 w') (K' : Marks s.w.heap.size m' w' s.ds a.defers)
    (hv : ∀ t, t < nt → o.dst = some t → VRel m' (TV.get (pth (lev nt) t) (σ al.list.length).1) v')
    (hun : ∀ (k1 : Nat) (x1 : It), al.list[k1]? = some x1 → x1.2.1 = .makes → wantA x1.2.2.guard (σ k1).1 = some true → k1 ≠ k → k1 < κ → m (bid (σ k1).2.2) = none → m' (bid (σ k1).2.2) = none) :
    DW P s nt ops al σ κ (listed.setIfInBounds x.1 true) m' (a.put o.dst v') w' := by
  have hi : x.1 < listed.size := by rw [W.sz]; exact (Array.getElem?_eq_some_iff.1 ho).1
  refine ⟨W.κle, W.κact, by simp [W.sz], fun j oj hoj hj d hd => ?_, fun k1 x1 h1 h2 => ?_, I', by rw [put_size]; exact W.nts, fun t ht hN => ?_, fun k1 x1 h1 h2 h3 t ht h4 => ?_, W.mono, W.base, fun k1 x1 v b h1 h2 h3 h4 h5 h6 => ?_, F', by rw [put_defers]; exact K'⟩
  · refine getD_set_true ?_
    rcases (on_set hi).1 hj with rfl | hj
    · rw [ho] at hoj; cases hoj
      exact hr d hd
    · exact W.closed j oj hoj hj d hd
  · rw [on_set hi]
    refine ⟨fun h => (W.acts k1 x1 h1 h2).1 (h.resolve_left fun e => ?_), fun h => .inr ((W.acts k1 x1 h1 h2).2 h)⟩
    have := R.D.own k1 k x1 x h1 hx e
    subst this
    rw [hx] at h1; cases h1
    rw [ha] at h2; cases h2
  · have hne : o.dst ≠ some t := fun e => hN (calmDsts_mem al k x _ hx ha ((dst_path R.hn hdst ht).2 e))
    have := W.nts
    rw [put_getD (by omega), if_neg hne]
    exact (W.old t ht hN).mono hs
  · have := W.nts
    rw [put_getD (by omega)]
    rcases (on_set hi).1 h3 with e | h3
    · have := R.D.own k1 k x1 x h1 hx e
      subst this
      rw [hx] at h1; cases h1
      have hd := (dst_path R.hn hdst ht).1 h4
      rw [if_pos hd]
      exact hv t ht hd
    · rw [if_neg]
      · exact (W.new k1 x1 h1 h2 h3 t ht h4).mono hs
      · intro e
        have hp := (dst_path R.hn hdst ht).2 e
        have hk : k1 ≠ k := by
          rintro rfl
          rw [hx] at h1; cases h1
          rw [hl] at h3; cases h3
        rcases Nat.lt_or_ge k1 k with h5 | h5
        · exact R.D.calmly.calm k1 x1 h1 h2 _ h4 k x h5 hx hp
        · exact R.D.calmly.calm k x hx ha _ hp k1 x1 (by omega) h1 h4
  · obtain ⟨g1, g2⟩ := (off_set hi).1 h3
    obtain ⟨u1, u2⟩ := W.unmade k1 x1 v b h1 h2 g2 h4 h5 h6
    refine ⟨hun k1 x1 h1 h2 h5 ?_ h4 u1, u2⟩
    rintro rfl
    rw [hx] at h1; cases h1
    exact g1 rfl

/-- The place of the next act. -/
theorem next_act (l : List It) (k : Nat) (hk : k ≤ l.length) : ∃ κ, k ≤ κ ∧ κ ≤ l.length ∧ (actAt l κ = true ∨ κ = l.length) ∧ ∀ j, k ≤ j → j < κ → actAt l j = false := by
  obtain ⟨n, hn⟩ : ∃ n, n = l.length - k := ⟨_, rfl⟩
  induction n generalizing k with
  | zero => exact ⟨k, Nat.le_refl _, hk, .inr (by omega), fun j h1 h2 => by omega⟩
  | succ n ih =>
    cases ha : actAt l k with
    | true => exact ⟨k, Nat.le_refl _, hk, .inl ha, fun j h1 h2 => by omega⟩
    | false =>
      obtain ⟨κ, h1, h2, h3, h4⟩ := ih (k + 1) (by omega) (by omega)
      refine ⟨κ, by omega, h2, h3, fun j h5 h6 => ?_⟩
      rcases Nat.lt_or_ge k j with h7 | h7
      · exact h4 j h7 h6
      · obtain rfl : j = k := by omega
        exact ha
/-- Blocks that have no name yet lie ahead. -/
theorem Inv.reserve (I : Inv P m h nx w) {h2 : TB} {nx2 : Nat} (hle : nx ≤ nx2) (ht : nx2 ≤ 32768) (hg : ∀ n, n < nx → h2.get (bid n) = h.get (bid n)) : Inv P m h2 nx2 w := by
  have hget : ∀ id e, m id = some e → h2.get id = h.get id := fun id e he => by
    obtain ⟨n, h1, rfl⟩ := I.dom id e he
    exact hg n h1
  refine ⟨fun id e he => ?_, fun id id' e e' h1 h2' l1 l2 hb => ?_, fun id e he => ?_, ht, by have := I.low; omega, I.glob, fun id e he hr => ?_, I.lim⟩
  · rw [hget id e he]; exact I.blk id e he
  · rw [hget id e h1] at l1
    rw [hget id' e' h2'] at l2
    exact I.inj id id' e e' h1 h2' l1 l2 hb
  · obtain ⟨n, h1, h2'⟩ := I.dom id e he
    exact ⟨n, by omega, h2'⟩
  · rw [hget id e he]; exact I.ro id e he hr
theorem Fr.reserve {m0 : Mp} {h0 : TB} {nx0 : Nat} {w0 : World} (F : Fr m0 h0 nx0 w0 m h nx w) {h2 : TB} {nx2 : Nat} (hle : nx ≤ nx2) (hg : ∀ n, n < nx → h2.get (bid n) = h.get (bid n)) : Fr m0 h0 nx0 w0 m h2 nx2 w := by
  refine ⟨F.sub, by have := F.le; omega, fun n hn hm => ?_, F.os, F.tape, F.output, F.size, F.keep, F.loops, F.fresh⟩
  obtain ⟨h1, h2'⟩ := F.old n hn hm
  exact ⟨h1, (hg n (by have := F.le; omega)).trans h2'⟩

/-- An act has run. -/
theorem DW.act_end (W : DW P s nt ops al σ κ listed m a w) (R : DRun P ft ex nt ops al pre σ) (htop : ∀ {j : Nat}, κ + 1 ≤ j → j ≤ al.list.length → (∀ i, κ + 1 ≤ i → i < j → actAt al.list i = false) → (σ j).2.2 ≤ 32768) {x : It} (hx : al.list[κ]? = some x) (ha : x.2.1.isAct = true) {o : Oper} (ho : ops[x.1]? = some o) (hdst : cDst nt o = some x.2.2.dst)
    (hr : ∀ d ∈ dirs o, listed.getD d false = true) (hl : listed.getD x.1 false = false) {v : AV} {v' : Value} {w' : World} (hz : (σ (κ + 1)).1 = setD x.2.2.dst v (σ κ).1) (hA : Acted P m (σ κ).2.1 (σ κ).2.2 w v (σ (κ + 1)).2.1 (σ (κ + 1)).2.2 v' w') :
    ∃ κ' m', DW P s nt ops al σ κ' (listed.setIfInBounds x.1 true) m' (a.put o.dst v') w' := by
  have hlt := (List.getElem?_eq_some_iff.1 hx).1
  have hi : x.1 < listed.size := by rw [W.sz]; exact (Array.getElem?_eq_some_iff.1 ho).1
  obtain ⟨κ', q1, q2, q3, q4⟩ := next_act al.list (κ + 1) (by omega)
  obtain ⟨m', hv, I1, F1⟩ := hA
  obtain ⟨g1, g2⟩ := R.seg q1 q2 q4
  have hs : Sub m m' := F1.sub
  have hmid : ∀ j j', κ + 1 ≤ j → j ≤ j' → j' ≤ κ' → (σ j).2.2 ≤ (σ j').2.2 := fun j j' h1 h2 h3 => (R.seg h2 (by omega) (fun i hi1 hi2 => q4 i (by omega) (by omega))).1
  refine ⟨κ', m', q2, q3, by simp [W.sz], fun j oj hoj hj d hd => ?_, fun k1 x1 h1 h2 => ?_, I1.reserve g1 (htop q1 q2 q4) g2, by rw [put_size]; exact W.nts, fun t ht hN => ?_, fun k1 x1 h1 h2 h3 t ht h4 => ?_, fun j j' h1 h2 => ?_, W.base, fun k1 x1 u b h1 h2 h3 h4 h5 h6 => ?_, (W.F.trans F1).reserve g1 g2, by rw [put_defers]; exact W.K.step F1⟩
  · refine getD_set_true ?_
    rcases (on_set hi).1 hj with rfl | hj
    · rw [ho] at hoj; cases hoj
      exact hr d hd
    · exact W.closed j oj hoj hj d hd
  · rw [on_set hi]
    constructor
    · rintro (e | h)
      · have := R.D.own k1 κ x1 x h1 hx e
        omega
      · have := (W.acts k1 x1 h1 h2).1 h
        omega
    · intro h
      rcases Nat.lt_or_ge k1 κ with h5 | h5
      · exact .inr ((W.acts k1 x1 h1 h2).2 h5)
      · rcases Nat.lt_or_ge κ k1 with h6 | h6
        · have := q4 k1 h6 h
          rw [actAt_some h1, h2] at this
          cases this
        · obtain rfl : k1 = κ := by omega
          rw [hx] at h1; cases h1
          exact .inl rfl
  · have := W.nts
    rw [put_getD (by omega)]
    have hst := R.stays q1 q2 ht (fun j x' hj1 hj2 hx' hm => hN (calmDsts_mem al j x' _ hx' (by
      have := q4 j hj1 hj2
      rwa [actAt_some hx'] at this) hm))
    rw [hst, hz, get_setD R.hn hdst ht]
    split
    · exact hv
    · exact (W.old t ht hN).mono hs
  · have := W.nts
    rw [put_getD (by omega)]
    rw [if_neg (fun e => R.D.calmly.act κ x hx ha _ ((dst_path R.hn hdst ht).2 e) (calmDsts_mem al k1 x1 _ h1 h2 h4))]
    refine (W.new k1 x1 h1 h2 ?_ t ht h4).mono hs
    refine ((on_set hi).1 h3).resolve_left fun e => ?_
    have := R.D.own k1 κ x1 x h1 hx e
    subst this
    rw [hx] at h1; cases h1
    rw [ha] at h2; cases h2
  · rcases Nat.lt_or_ge κ j' with h3 | h3
    · rcases Nat.lt_or_ge κ j with h4 | h4
      · exact hmid j j' h4 h1 h2
      · have e1 := W.mono j κ h4 (Nat.le_refl _)
        have e2 := F1.le
        have e3 := hmid (κ + 1) j' (Nat.le_refl _) h3 h2
        omega
    · exact W.mono j j' h1 h3
  · obtain ⟨u1, u2⟩ := (off_set hi).1 h3
    obtain ⟨v1, b1, k2, k3, k4, k5, k6⟩ := make_grows R h1 h2 h5
    rw [h6] at k2
    cases k2
    rcases Nat.lt_or_ge k1 κ with h7 | h7
    · obtain ⟨p1, p2⟩ := W.unmade k1 x1 u b h1 h2 u2 h7 h5 h6
      have hlt1 : (σ k1).2.2 < (σ κ).2.2 := by
        have := W.mono (k1 + 1) κ h7 (Nat.le_refl _)
        omega
      obtain ⟨r1, r2⟩ := F1.old _ hlt1 p1
      refine ⟨r1, ?_⟩
      rw [g2 _ (by have := F1.le; omega), r2, p2]
    · have hk1 : κ < k1 := by
        rcases Nat.lt_or_ge κ k1 with h8 | h8
        · exact h8
        · obtain rfl : k1 = κ := by omega
          rw [hx] at h1; cases h1
          exact absurd rfl u1
      have e1 := hmid (κ + 1) k1 (Nat.le_refl _) hk1 (by omega)
      refine ⟨I1.fresh e1 k3, ?_⟩
      obtain ⟨_, s2⟩ := R.seg (k := k1 + 1) (k' := κ') (by omega) q2 (fun j j1 j2 => q4 j (by omega) j2)
      rw [s2 _ (by omega), k4, TB.get_set rfl, if_pos rfl]
end run
end Go.Ra
