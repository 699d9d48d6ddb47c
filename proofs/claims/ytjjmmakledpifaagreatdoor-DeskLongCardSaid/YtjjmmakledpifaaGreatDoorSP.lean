/-
  Drawn regions: what holds on the way.
-/
import Derived.OrdersIn
import Derived.Test.YtjjmmakledpifaaGreatDoorSN
set_option linter.unusedVariables false
set_option linter.unusedSimpArgs false
namespace Go.Ra
variable {P : Program} {m : Mp} {h : TB} {nx : Nat} {w : World} {nt : Nat} {a : Act} {z : TV} {ft : TF} {ex : Exec}

theorem pev_calm {ao : AOp} (hl : ao.looks = false) (z : TV) (h h' : TB) : pev ao z h = pev ao z h' := by
  cases ao <;> first | rfl | (cases hl; done)
theorem pev_cls {ao : AOp} {z : TV} {h : TB} {v : AV} (hp : pev ao z h = some v) : ao.cls = 0 := by
  cases ao <;> first | rfl | (cases (show (none : OA) = some v from hp))

/-! Slots -/
theorem dst_path (hn : nt ≤ 4096) {o : Oper} {d : ADst} (hd : cDst nt o = some d) {t : Nat} (ht : t < nt) : pth (lev nt) t ∈ d.path ↔ o.dst = some t := by
  have hle := lev_le hn
  unfold cDst at hd
  cases ho : o.dst with
  | none =>
    rw [ho] at hd
    obtain rfl := Option.some.inj hd
    simp [ADst.path]
  | some u =>
    rw [ho] at hd
    obtain ⟨p, hp, rfl⟩ := Option.map_eq_some_iff.1 hd
    obtain ⟨hu, rfl⟩ := cT_some hp
    simp only [ADst.path, List.mem_singleton, Option.some.injEq]
    exact ⟨fun e => (pth_inj (by omega) (by omega) e).symm, fun e => by rw [e]⟩
theorem get_setD (hn : nt ≤ 4096) {o : Oper} {d : ADst} (hd : cDst nt o = some d) {t : Nat} (ht : t < nt) (v : AV) (z : TV) : TV.get (pth (lev nt) t) (setD d v z) = if o.dst = some t then v else TV.get (pth (lev nt) t) z := by
  have hle := lev_le hn
  unfold cDst at hd
  cases ho : o.dst with
  | none =>
    rw [ho] at hd
    obtain rfl := Option.some.inj hd
    rw [if_neg (by simp)]
    rfl
  | some u =>
    rw [ho] at hd
    obtain ⟨p, hp, rfl⟩ := Option.map_eq_some_iff.1 hd
    obtain ⟨hu, rfl⟩ := cT_some hp
    show TV.get (pth (lev nt) t) (TV.set (pth (lev nt) u) v z) = _
    rw [TV.get_set (by rw [plen_pth, plen_pth])]
    by_cases e : t = u
    · subst e; rw [if_pos rfl, if_pos rfl]
    · rw [if_neg (fun e' => e (pth_inj (by omega) (by omega) e')), if_neg (by simpa using Ne.symm e)]
theorem put_getD {o : Oper} {t : Nat} {v' : Value} (ht : t < a.tmps.size) : (a.put o.dst v').tmps.getD t undef = if o.dst = some t then v' else a.tmps.getD t undef := by
  cases ho : o.dst with
  | none => rw [if_neg (by simp)]; rfl
  | some u =>
    show (a.tmps.setIfInBounds u v').getD t undef = _
    simp only [Array.getD_eq_getD_getElem?]
    by_cases e : u = t
    · subst e
      rw [Array.getElem?_setIfInBounds_self_of_lt ht, if_pos rfl]
      rfl
    · rw [Array.getElem?_setIfInBounds_ne e, if_neg (by simpa using e)]
theorem put_size {dst : Option Tmp} {v' : Value} : (a.put dst v').tmps.size = a.tmps.size := by
  cases dst with
  | none => rfl
  | some t => show (a.tmps.setIfInBounds t v').size = _; simp
theorem put_defers {dst : Option Tmp} {v' : Value} : (a.put dst v').defers = a.defers := by
  cases dst <;> rfl

/-! What a step of the abstract run does -/
theorem calm_step {x : It} {s1 s2 : Sn} (hr : OperR ft ex x.2.2 s1.1 s1.2.1 s1.2.2 s2.1 s2.2.1 s2.2.2) (hf : x.2.1.fits x.2.2.aop = true) (ha : x.2.1.isAct = false) :
    ∃ v, s2.1 = setD x.2.2.dst v s1.1 ∧ s1.2.2 ≤ s2.2.2 ∧ (∀ n, n < s1.2.2 → s2.2.1.get (bid n) = s1.2.1.get (bid n)) ∧
      ((s2.2.1 = s1.2.1 ∧ s2.2.2 = s1.2.2 ∧ ((wantA x.2.2.guard s1.1 = some false ∧ v = .tuple .nl) ∨ (wantA x.2.2.guard s1.1 = some true ∧ pev x.2.2.aop s1.1 s1.2.1 = some v ∧ x.2.1 ≠ .makes))) ∨
       (wantA x.2.2.guard s1.1 = some true ∧ x.2.1 = .makes ∧ s1.2.2 ≤ 32767 ∧ ∃ b, fev x.2.2.aop s1.1 (bid s1.2.2) = some (v, b) ∧ s2.2.1 = TB.set (bid s1.2.2) b s1.2.1 ∧ s2.2.2 = s1.2.2 + 1)) := by
  obtain ⟨i, c, o⟩ := x
  obtain ⟨z1, h1, n1⟩ := s1
  obtain ⟨z2, h2, n2⟩ := s2
  simp only at hr hf ha ⊢
  cases hr with
  | skip hw => exact ⟨_, rfl, Nat.le_refl _, fun _ _ => rfl, .inl ⟨rfl, rfl, .inl ⟨hw, rfl⟩⟩⟩
  | run v _ _ hw hv =>
    have hcls : c = .makes → o.aop.cls = 1 := by
      rintro rfl; exact beq_iff_eq.1 hf
    have hcls0 : c ≠ .makes → o.aop.cls = 0 := by
      intro hne
      cases c with
      | calm => exact beq_iff_eq.1 ((Bool.and_eq_true _ _).mp hf).1
      | reads u v => exact beq_iff_eq.1 hf
      | makes => exact absurd rfl hne
      | acts => cases ha
    have h01 : o.aop.cls = 0 ∨ o.aop.cls = 1 := by
      by_cases hc : c = .makes
      · exact .inr (hcls hc)
      · exact .inl (hcls0 hc)
    cases hv with
    | pure =>
      rename_i hp
      refine ⟨v, rfl, Nat.le_refl _, fun _ _ => rfl, .inl ⟨rfl, rfl, .inr ⟨hw, hp, fun hc => ?_⟩⟩⟩
      have := pev_cls hp
      rw [hcls hc] at this
      cases this
    | make =>
      rename_i b hle hp
      refine ⟨v, rfl, Nat.le_succ _, fun n hn => ?_, .inr ⟨hw, ?_, hle, b, hp, rfl, rfl⟩⟩
      · rw [TB.get_set (by rw [plen_bid, plen_bid]), if_neg]
        intro e
        have := bid_inj (by omega) hle e
        omega
      · cases Classical.em (c = .makes) with
        | inl hc => exact hc
        | inr hc =>
          have h1 := hcls0 hc
          rw [fev_cls hp] at h1
          cases h1
    | act =>
      rename_i hp
      have := eev_cls hp
      omega
    | callf =>
      rename_i f l ho _
      rw [ho] at h01
      rcases h01 with h | h <;> cases h
    | callv =>
      rename_i f l ho _
      rw [ho] at h01
      rcases h01 with h | h <;> cases h

theorem operR_z {ao : AOper} {s1 s2 : Sn} (hr : OperR ft ex ao s1.1 s1.2.1 s1.2.2 s2.1 s2.2.1 s2.2.2) : ∃ v, s2.1 = setD ao.dst v s1.1 := by
  obtain ⟨z1, h1, n1⟩ := s1
  obtain ⟨z2, h2, n2⟩ := s2
  simp only at hr ⊢
  cases hr with
  | skip => exact ⟨_, rfl⟩
  | run v => exact ⟨v, rfl⟩
/-- An abstract run of a drawn region that was checked. -/
structure DRun (P : Program) (ft : TF) (ex : Exec) (nt : Nat) (ops : Array Oper) (al : ADr) (pre : List Nat) (σ : Nat → Sn) : Prop where
  hn : nt ≤ 4096
  D : DOk P nt ops al pre
  steps : ∀ (j : Nat) (x : It), al.list[j]? = some x → OperR ft ex x.2.2 (σ j).1 (σ j).2.1 (σ j).2.2 (σ (j + 1)).1 (σ (j + 1)).2.1 (σ (j + 1)).2.2
  preEq : pre = befores ops.toList []
section run
variable {ops : Array Oper} {al : ADr} {pre : List Nat} {σ : Nat → Sn}
theorem DRun.seg (R : DRun P ft ex nt ops al pre σ) {k k' : Nat} (hk : k ≤ k') (hk' : k' ≤ al.list.length) (hna : ∀ j, k ≤ j → j < k' → actAt al.list j = false) :
    (σ k).2.2 ≤ (σ k').2.2 ∧ ∀ n, n < (σ k).2.2 → (σ k').2.1.get (bid n) = (σ k).2.1.get (bid n) := by
  induction k' with
  | zero =>
    obtain rfl : k = 0 := by omega
    exact ⟨Nat.le_refl _, fun _ _ => rfl⟩
  | succ k' ih =>
    rcases Nat.lt_or_ge k (k' + 1) with h1 | h1
    · obtain ⟨i1, i2⟩ := ih (by omega) (by omega) (fun j h2 h3 => hna j h2 (by omega))
      have hx : al.list[k']? = some (al.list[k']'(by omega)) := by simp
      have ha := hna k' (by omega) (by omega)
      rw [actAt_some hx] at ha
      obtain ⟨v, _, g1, g2, _⟩ := calm_step (R.steps k' _ hx) (R.D.staged k' _ hx).2.1 ha
      exact ⟨by omega, fun n hn => (g2 n (by omega)).trans (i2 n hn)⟩
    · obtain rfl : k = k' + 1 := by omega
      exact ⟨Nat.le_refl _, fun _ _ => rfl⟩
theorem DRun.stays (R : DRun P ft ex nt ops al pre σ) {k k' : Nat} (hk : k ≤ k') (hk' : k' ≤ al.list.length) {t : Nat} (ht : t < nt) (hna : ∀ (j : Nat) (x : It), k ≤ j → j < k' → al.list[j]? = some x → pth (lev nt) t ∉ x.2.2.dst.path) :
    TV.get (pth (lev nt) t) (σ k').1 = TV.get (pth (lev nt) t) (σ k).1 := by
  induction k' with
  | zero =>
    obtain rfl : k = 0 := by omega
    rfl
  | succ k' ih =>
    rcases Nat.lt_or_ge k (k' + 1) with h1 | h1
    · have i1 := ih (by omega) (by omega) (fun j x h2 h3 => hna j x h2 (by omega))
      have hx : al.list[k']? = some (al.list[k']'(by omega)) := by simp
      have hd := hna k' _ (by omega) (by omega) hx
      obtain ⟨o, ho, hao⟩ := R.D.oper k' _ hx
      obtain ⟨v, hv⟩ := operR_z (R.steps k' _ hx)
      obtain ⟨hdst, _⟩ := cOper_parts hao
      rw [hv, get_setD R.hn hdst ht, if_neg (fun e => hd ((dst_path R.hn hdst ht).2 e)), i1]
    · obtain rfl : k = k' + 1 := by omega
      rfl
/-- What holds on the way: κ is the place of the act that is next. -/
structure DW (P : Program) (s : Start) (nt : Nat) (ops : Array Oper) (al : ADr) (σ : Nat → Sn) (κ : Nat) (listed : Array Bool) (m : Mp) (a : Act) (w : World) : Prop where
  κle : κ ≤ al.list.length
  κact : actAt al.list κ = true ∨ κ = al.list.length
  sz : listed.size = ops.size
  closed : ∀ (j : Nat) (o : Oper), ops[j]? = some o → listed.getD j false = true → ∀ d ∈ dirs o, listed.getD d false = true
  acts : ∀ (k : Nat) (x : It), al.list[k]? = some x → x.2.1.isAct = true → (listed.getD x.1 false = true ↔ k < κ)
  I : Inv P m (σ κ).2.1 (σ κ).2.2 w
  nts : nt ≤ a.tmps.size
  old : ∀ t, t < nt → pth (lev nt) t ∉ al.calmDsts → VRel m (TV.get (pth (lev nt) t) (σ κ).1) (a.tmps.getD t undef)
  new : ∀ (k : Nat) (x : It), al.list[k]? = some x → x.2.1.isAct = false → listed.getD x.1 false = true → ∀ t, t < nt → pth (lev nt) t ∈ x.2.2.dst.path → VRel m (TV.get (pth (lev nt) t) (σ al.list.length).1) (a.tmps.getD t undef)
  mono : ∀ j j', j ≤ j' → j' ≤ κ → (σ j).2.2 ≤ (σ j').2.2
  base : s.nx ≤ (σ 0).2.2
  unmade : ∀ (k : Nat) (x : It) (v : AV) (b : AB), al.list[k]? = some x → x.2.1 = .makes → listed.getD x.1 false = false → k < κ → wantA x.2.2.guard (σ k).1 = some true → fev x.2.2.aop (σ k).1 (bid (σ k).2.2) = some (v, b) → m (bid (σ k).2.2) = none ∧ (σ κ).2.1.get (bid (σ k).2.2) = b
  F : Fr s.m s.h s.nx s.w m (σ κ).2.1 (σ κ).2.2 w
  K : Marks s.w.heap.size m w s.ds a.defers

variable {s : Start} {κ : Nat} {listed : Array Bool}
theorem DW.onPre (W : DW P s nt ops al σ κ listed m a w) (R : DRun P ft ex nt ops al pre σ) {j : Nat} {o : Oper} (ho : ops[j]? = some o) (hr : ∀ d ∈ dirs o, listed.getD d false = true) {i : Nat} (hi : isPre pre i j = true) : listed.getD i false = true := by
  rw [R.preEq] at hi
  exact pre_listed R.D.dirs (On := fun j => listed.getD j false = true) W.closed j o ho hr i hi
theorem DW.onPre2 (W : DW P s nt ops al σ κ listed m a w) (R : DRun P ft ex nt ops al pre σ) {j : Nat} {o : Oper} (ho : ops[j]? = some o) (hr : listed.getD j false = true) {i : Nat} (hi : isPre pre i j = true) : listed.getD i false = true :=
  W.onPre R ho (W.closed j o ho hr) hi
/-- An operation that is ready: where it stands. -/
theorem DW.place (W : DW P s nt ops al σ κ listed m a w) (R : DRun P ft ex nt ops al pre σ) {k : Nat} {x : It} (hx : al.list[k]? = some x) {o : Oper} (ho : ops[x.1]? = some o) (hr : ∀ d ∈ dirs o, listed.getD d false = true) (hl : listed.getD x.1 false = false) :
    (x.2.1.isAct = true → k = κ) ∧ (x.2.1.isAct = false → k < κ) := by
  have hle : k ≤ κ := by
    rcases Nat.lt_or_ge κ k with h1 | h1
    · exfalso
      have hklt := (List.getElem?_eq_some_iff.1 hx).1
      have hκ : actAt al.list κ = true := W.κact.resolve_right (by omega)
      have hb := bN_lt al.list hκ h1
      rcases (R.D.staged k x hx).1 with h0 | ⟨j, h2, h3⟩
      · omega
      · obtain ⟨k1, x1, g1, g2, g3, g4⟩ := acts_of al _ j h2
        have hon := W.onPre R ho hr (i := j) h3
        rw [← g3] at hon
        have := (W.acts k1 x1 g1 g2).1 hon
        have hb1 := bN_lt al.list (k := k1) (by rw [actAt_some g1]; exact g2) this
        omega
    · exact h1
  refine ⟨fun ha => ?_, fun ha => ?_⟩
  · rcases Nat.lt_or_ge k κ with h1 | h1
    · have := (W.acts k x hx ha).2 h1
      rw [hl] at this
      cases this
    · omega
  · rcases Nat.lt_or_ge k κ with h1 | h1
    · exact h1
    · obtain rfl : k = κ := by omega
      rcases W.κact with h2 | h2
      · rw [actAt_some hx, ha] at h2
        cases h2
      · have := (List.getElem?_eq_some_iff.1 hx).1
        omega
theorem cT_of {t : Nat} (ht : t < nt) : cT nt t = some (pth (lev nt) t) := by
  rw [cT_eq, if_pos ht]
/-- What an operation that is ready reads. -/
theorem DW.reads (W : DW P s nt ops al σ κ listed m a w) (R : DRun P ft ex nt ops al pre σ) {k : Nat} {x : It} (hx : al.list[k]? = some x) {o : Oper} (ho : ops[x.1]? = some o) (hr : ∀ d ∈ dirs o, listed.getD d false = true) (hl : listed.getD x.1 false = false)
    {t : Nat} (ht : t < nt) (hlook : t ∈ o.looksAt ops) : VRel m (TV.get (pth (lev nt) t) (σ k).1) (a.tmps.getD t undef) ∧ TV.get (pth (lev nt) t) (σ κ).1 = TV.get (pth (lev nt) t) (σ k).1 := by
  have hpl := W.place R hx ho hr hl
  have hkle : k ≤ κ := by
    cases ha : x.2.1.isAct with
    | true => exact Nat.le_of_eq (hpl.1 ha)
    | false => exact Nat.le_of_lt (hpl.2 ha)
  have hrd : pth (lev nt) t ∈ readsOf nt ops x.1 := by
    unfold readsOf
    rw [ho]
    exact List.mem_filterMap.2 ⟨t, hlook, cT_of ht⟩
  by_cases hN : pth (lev nt) t ∈ al.calmDsts
  · have honce := fun k' x' => R.D.calmly.once k x hx _ hrd hN k' x'
    have h1 := R.stays (k := k) (k' := al.list.length) (Nat.le_trans hkle W.κle) (Nat.le_refl _) ht (fun j x' hj _ hx' => honce j x' hj hx')
    have h2 := R.stays (k := κ) (k' := al.list.length) W.κle (Nat.le_refl _) ht (fun j x' hj _ hx' => honce j x' (by omega) hx')
    refine ⟨?_, h2.symm.trans h1⟩
    rw [← h1]
    obtain ⟨k0, x0, g1, g2, g3⟩ := calmDsts_of al _ hN
    obtain ⟨o0, ho0, hao0⟩ := R.D.oper k0 x0 g1
    obtain ⟨hd0, _⟩ := cOper_parts hao0
    have hdst := (dst_path R.hn hd0 ht).1 g3
    refine W.new k0 x0 g1 g2 ?_ t ht g3
    rcases R.D.data x.1 o ho t hlook x0.1 o0 ho0 hdst with hact | hpre
    · exfalso
      obtain ⟨y, hy⟩ := List.getElem?_of_mem hact
      obtain ⟨k1, x1, q1, q2, q3, _⟩ := acts_of al y _ hy
      have := R.D.own k1 k0 x1 x0 q1 g1 q3
      subst this
      rw [q1] at g1
      cases g1
      rw [q2] at g2
      cases g2
    · exact W.onPre R ho hr hpre
  · have h1 := R.stays (k := k) (k' := κ) hkle W.κle ht (fun j x' hj hjκ hx' hmem => by
      cases ha' : x'.2.1.isAct with
      | false => exact hN (calmDsts_mem al j x' _ hx' ha' hmem)
      | true =>
        have hkj : k < j := by
          rcases Nat.lt_or_ge k j with h | h
          · exact h
          · exfalso
            obtain rfl : k = j := by omega
            rw [hx] at hx'
            cases hx'
            have := hpl.1 ha'
            omega
        have ha : x.2.1.isAct = false := by
          cases ha : x.2.1.isAct with
          | false => rfl
          | true => have := hpl.1 ha; omega
        rcases R.D.calmly.acts k x hx ha j x' hkj hx' ha' with hp | hp
        · obtain ⟨oj, hoj, _⟩ := R.D.oper j x' hx'
          have := W.onPre2 R hoj ((W.acts j x' hx' ha').2 hjκ) hp
          rw [hl] at this
          cases this
        · exact hp _ hmem hrd)
    exact ⟨by rw [← h1]; exact W.old t ht hN, h1⟩
end run
end Go.Ra
namespace Go.Ra
variable {P : Program} {m : Mp} {h : TB} {nx : Nat} {w : World} {nt : Nat} {a : Act} {z : TV} {ft : TF} {ex : Exec}
section run
variable {ops : Array Oper} {al : ADr} {pre : List Nat} {σ : Nat → Sn} {s : Start} {κ : Nat} {listed : Array Bool}

theorem on_set {i j : Nat} (hi : i < listed.size) : (listed.setIfInBounds i true).getD j false = true ↔ j = i ∨ listed.getD j false = true := by
  by_cases e : i = j
  · subst e
    simp [hi]
  · rw [getD_set_ne false e]
    exact ⟨.inr, fun h => h.resolve_left (Ne.symm e)⟩
theorem off_set {i j : Nat} (hi : i < listed.size) : (listed.setIfInBounds i true).getD j false = false ↔ j ≠ i ∧ listed.getD j false = false := by
  by_cases e : i = j
  · subst e
    simp [hi]
  · rw [getD_set_ne false e]
    exact ⟨fun h => ⟨Ne.symm e, h⟩, fun h => h.2⟩
theorem make_grows (R : DRun P ft ex nt ops al pre σ) {k : Nat} {x : It} (hx : al.list[k]? = some x) (hm : x.2.1 = .makes) (hw : wantA x.2.2.guard (σ k).1 = some true) :
    ∃ v b, fev x.2.2.aop (σ k).1 (bid (σ k).2.2) = some (v, b) ∧ (σ k).2.2 ≤ 32767 ∧ (σ (k + 1)).2.1 = TB.set (bid (σ k).2.2) b (σ k).2.1 ∧ (σ (k + 1)).2.2 = (σ k).2.2 + 1 ∧ (σ (k + 1)).1 = setD x.2.2.dst v (σ k).1 := by
  obtain ⟨v, h1, _, _, h2 | h2⟩ := calm_step (R.steps k x hx) (R.D.staged k x hx).2.1 (by rw [hm]; rfl)
  · rcases h2.2.2 with h3 | h3
    · rw [hw] at h3; cases h3.1
    · exact absurd hm h3.2.2
  · obtain ⟨_, _, h3, b, h4, h5, h6⟩ := h2
    exact ⟨v, b, h4, h3, h5, h6, h1⟩

/-- An operation that doesn't act has run. -/
theorem DW.calm_end (W : DW P s nt ops al σ κ listed m a w) (R : DRun P ft ex nt ops al pre σ) {k : Nat} {x : It} (hx : al.list[k]? = some x) (ha : x.2.1.isAct = false) {o : Oper} (ho : ops[x.1]? = some o) (hdst : cDst nt o = some x.2.2.dst)
    (hr : ∀ d ∈ dirs o, listed.getD d false = true) (hl : listed.getD x.1 false = false) {m' : Mp} {w' : World} {v' : Value} (hs : Sub m m') (I' : Inv P m' (σ κ).2.1 (σ κ).2.2 w') (F' : Fr s.m s.h s.nx s.w m' (σ κ).2.1 (σ κ).2.2 w') (K' : Marks s.w.heap.size m' w' s.ds a.defers)
    (hv : ∀ t, t < nt → o.dst = some t → VRel m' (TV.get (pth (lev nt) t) (σ al.list.length).1) v')
    (hun : ∀ (k1 : Nat) (x1 : It), al.list[k1]? = some x1 → x1.2.1 = .makes → wantA x1.2.2.guard (σ k1).1 = some true → k1 ≠ k → k1 < κ → m (bid (σ k1).2.2) = none → m' (bid (σ k1).2.2) = none) :
    DW P s nt ops al σ κ (listed.setIfInBounds x.1 true) m' (a.put o.dst v') w' := by
  have hi : x.1 < listed.size := by rw [W.sz]; exact (Array.getElem?_eq_some_iff.1 ho).1
  refine ⟨W.κle, W.κact, by simp [W.sz], fun j oj hoj hj d hd => ?_, fun k1 x1 h1 h2 => ?_, I', by rw [put_size]; exact W.nts, fun t ht hN => ?_, fun k1 x1 h1 h2 h3 t ht h4 => ?_, W.mono, W.base, fun k1 x1 v b h1 h2 h3 h4 h5 h6 => ?_, F', by rw [put_defers]; exact K'⟩
  · refine getD_set_true ?_
    rcases (on_set hi).1 hj with rfl | hj
    · rw [ho] at hoj; cases hoj
      exact hr d hd
    · exact W.closed j oj hoj hj d hd
  · rw [on_set hi]
    refine ⟨fun h => (W.acts k1 x1 h1 h2).1 (h.resolve_left fun e => ?_), fun h => .inr ((W.acts k1 x1 h1 h2).2 h)⟩
    have := R.D.own k1 k x1 x h1 hx e
    subst this
    rw [hx] at h1; cases h1
    rw [ha] at h2; cases h2
  · have hne : o.dst ≠ some t := fun e => hN (calmDsts_mem al k x _ hx ha ((dst_path R.hn hdst ht).2 e))
    have := W.nts
    rw [put_getD (by omega), if_neg hne]
    exact (W.old t ht hN).mono hs
  · have := W.nts
    rw [put_getD (by omega)]
    rcases (on_set hi).1 h3 with e | h3
    · have := R.D.own k1 k x1 x h1 hx e
      subst this
      rw [hx] at h1; cases h1
      have hd := (dst_path R.hn hdst ht).1 h4
      rw [if_pos hd]
      exact hv t ht hd
    · rw [if_neg]
      · exact (W.new k1 x1 h1 h2 h3 t ht h4).mono hs
      · intro e
        have hp := (dst_path R.hn hdst ht).2 e
        have hk : k1 ≠ k := by
          rintro rfl
          rw [hx] at h1; cases h1
          rw [hl] at h3; cases h3
        rcases Nat.lt_or_ge k1 k with h5 | h5
        · exact R.D.calmly.calm k1 x1 h1 h2 _ h4 k x h5 hx hp
        · exact R.D.calmly.calm k x hx ha _ hp k1 x1 (by omega) h1 h4
  · obtain ⟨g1, g2⟩ := (off_set hi).1 h3
    obtain ⟨u1, u2⟩ := W.unmade k1 x1 v b h1 h2 g2 h4 h5 h6
    refine ⟨hun k1 x1 h1 h2 h5 ?_ h4 u1, u2⟩
    rintro rfl
    rw [hx] at h1; cases h1
    exact g1 rfl

/-- The place of the next act. -/
theorem next_act (l : List It) (k : Nat) (hk : k ≤ l.length) : ∃ κ, k ≤ κ ∧ κ ≤ l.length ∧ (actAt l κ = true ∨ κ = l.length) ∧ ∀ j, k ≤ j → j < κ → actAt l j = false := by
  obtain ⟨n, hn⟩ : ∃ n, n = l.length - k := ⟨_, rfl⟩
  induction n generalizing k with
  | zero => exact ⟨k, Nat.le_refl _, hk, .inr (by omega), fun j h1 h2 => by omega⟩
  | succ n ih =>
    cases ha : actAt l k with
    | true => exact ⟨k, Nat.le_refl _, hk, .inl ha, fun j h1 h2 => by omega⟩
    | false =>
      obtain ⟨κ, h1, h2, h3, h4⟩ := ih (k + 1) (by omega) (by omega)
      refine ⟨κ, by omega, h2, h3, fun j h5 h6 => ?_⟩
      rcases Nat.lt_or_ge k j with h7 | h7
      · exact h4 j h7 h6
      · obtain rfl : j = k := by omega
        exact ha
/-- Blocks that have no name yet lie ahead. -/
theorem Inv.reserve (I : Inv P m h nx w) {h2 : TB} {nx2 : Nat} (hle : nx ≤ nx2) (ht : nx2 ≤ 32768) (hg : ∀ n, n < nx → h2.get (bid n) = h.get (bid n)) : Inv P m h2 nx2 w := by
  have hget : ∀ id e, m id = some e → h2.get id = h.get id := fun id e he => by
    obtain ⟨n, h1, rfl⟩ := I.dom id e he
    exact hg n h1
  refine ⟨fun id e he => ?_, fun id id' e e' h1 h2' l1 l2 hb => ?_, fun id e he => ?_, ht, by have := I.low; omega, I.glob, fun id e he hr => ?_, I.lim⟩
  · rw [hget id e he]; exact I.blk id e he
  · rw [hget id e h1] at l1
    rw [hget id' e' h2'] at l2
    exact I.inj id id' e e' h1 h2' l1 l2 hb
  · obtain ⟨n, h1, h2'⟩ := I.dom id e he
    exact ⟨n, by omega, h2'⟩
  · rw [hget id e he]; exact I.ro id e he hr
theorem Fr.reserve {m0 : Mp} {h0 : TB} {nx0 : Nat} {w0 : World} (F : Fr m0 h0 nx0 w0 m h nx w) {h2 : TB} {nx2 : Nat} (hle : nx ≤ nx2) (hg : ∀ n, n < nx → h2.get (bid n) = h.get (bid n)) : Fr m0 h0 nx0 w0 m h2 nx2 w := by
  refine ⟨F.sub, by have := F.le; omega, fun n hn hm => ?_, F.os, F.tape, F.output, F.size, F.keep, F.loops, F.fresh⟩
  obtain ⟨h1, h2'⟩ := F.old n hn hm
  exact ⟨h1, (hg n (by have := F.le; omega)).trans h2'⟩

/-- An act has run. -/
theorem DW.act_end (W : DW P s nt ops al σ κ listed m a w) (R : DRun P ft ex nt ops al pre σ) (htop : ∀ {j : Nat}, κ + 1 ≤ j → j ≤ al.list.length → (∀ i, κ + 1 ≤ i → i < j → actAt al.list i = false) → (σ j).2.2 ≤ 32768) {x : It} (hx : al.list[κ]? = some x) (ha : x.2.1.isAct = true) {o : Oper} (ho : ops[x.1]? = some o) (hdst : cDst nt o = some x.2.2.dst)
    (hr : ∀ d ∈ dirs o, listed.getD d false = true) (hl : listed.getD x.1 false = false) {v : AV} {v' : Value} {w' : World} (hz : (σ (κ + 1)).1 = setD x.2.2.dst v (σ κ).1) (hA : Acted P m (σ κ).2.1 (σ κ).2.2 w v (σ (κ + 1)).2.1 (σ (κ + 1)).2.2 v' w') :
    ∃ κ' m', DW P s nt ops al σ κ' (listed.setIfInBounds x.1 true) m' (a.put o.dst v') w' := by
  have hlt := (List.getElem?_eq_some_iff.1 hx).1
  have hi : x.1 < listed.size := by rw [W.sz]; exact (Array.getElem?_eq_some_iff.1 ho).1
  obtain ⟨κ', q1, q2, q3, q4⟩ := next_act al.list (κ + 1) (by omega)
  obtain ⟨m', hv, I1, F1⟩ := hA
  obtain ⟨g1, g2⟩ := R.seg q1 q2 q4
  have hs : Sub m m' := F1.sub
  have hmid : ∀ j j', κ + 1 ≤ j → j ≤ j' → j' ≤ κ' → (σ j).2.2 ≤ (σ j').2.2 := fun j j' h1 h2 h3 => (R.seg h2 (by omega) (fun i hi1 hi2 => q4 i (by omega) (by omega))).1
  refine ⟨κ', m', q2, q3, by simp [W.sz], fun j oj hoj hj d hd => ?_, fun k1 x1 h1 h2 => ?_, I1.reserve g1 (htop q1 q2 q4) g2, by rw [put_size]; exact W.nts, fun t ht hN => ?_, fun k1 x1 h1 h2 h3 t ht h4 => ?_, fun j j' h1 h2 => ?_, W.base, fun k1 x1 u b h1 h2 h3 h4 h5 h6 => ?_, (W.F.trans F1).reserve g1 g2, by rw [put_defers]; exact W.K.step F1⟩
  · refine getD_set_true ?_
    rcases (on_set hi).1 hj with rfl | hj
    · rw [ho] at hoj; cases hoj
      exact hr d hd
    · exact W.closed j oj hoj hj d hd
  · rw [on_set hi]
    constructor
    · rintro (e | h)
      · have := R.D.own k1 κ x1 x h1 hx e
        omega
      · have := (W.acts k1 x1 h1 h2).1 h
        omega
    · intro h
      rcases Nat.lt_or_ge k1 κ with h5 | h5
      · exact .inr ((W.acts k1 x1 h1 h2).2 h5)
      · rcases Nat.lt_or_ge κ k1 with h6 | h6
        · have := q4 k1 h6 h
          rw [actAt_some h1, h2] at this
          cases this
        · obtain rfl : k1 = κ := by omega
          rw [hx] at h1; cases h1
          exact .inl rfl
  · have := W.nts
    rw [put_getD (by omega)]
    have hst := R.stays q1 q2 ht (fun j x' hj1 hj2 hx' hm => hN (calmDsts_mem al j x' _ hx' (by
      have := q4 j hj1 hj2
      rwa [actAt_some hx'] at this) hm))
    rw [hst, hz, get_setD R.hn hdst ht]
    split
    · exact hv
    · exact (W.old t ht hN).mono hs
  · have := W.nts
    rw [put_getD (by omega)]
    rw [if_neg (fun e => R.D.calmly.act κ x hx ha _ ((dst_path R.hn hdst ht).2 e) (calmDsts_mem al k1 x1 _ h1 h2 h4))]
    refine (W.new k1 x1 h1 h2 ?_ t ht h4).mono hs
    refine ((on_set hi).1 h3).resolve_left fun e => ?_
    have := R.D.own k1 κ x1 x h1 hx e
    subst this
    rw [hx] at h1; cases h1
    rw [ha] at h2; cases h2
  · rcases Nat.lt_or_ge κ j' with h3 | h3
    · rcases Nat.lt_or_ge κ j with h4 | h4
      · exact hmid j j' h4 h1 h2
      · have e1 := W.mono j κ h4 (Nat.le_refl _)
        have e2 := F1.le
        have e3 := hmid (κ + 1) j' (Nat.le_refl _) h3 h2
        omega
    · exact W.mono j j' h1 h3
  · obtain ⟨u1, u2⟩ := (off_set hi).1 h3
    obtain ⟨v1, b1, k2, k3, k4, k5, k6⟩ := make_grows R h1 h2 h5
    rw [h6] at k2
    cases k2
    rcases Nat.lt_or_ge k1 κ with h7 | h7
    · obtain ⟨p1, p2⟩ := W.unmade k1 x1 u b h1 h2 u2 h7 h5 h6
      have hlt1 : (σ k1).2.2 < (σ κ).2.2 := by
        have := W.mono (k1 + 1) κ h7 (Nat.le_refl _)
        omega
      obtain ⟨r1, r2⟩ := F1.old _ hlt1 p1
      refine ⟨r1, ?_⟩
      rw [g2 _ (by have := F1.le; omega), r2, p2]
    · have hk1 : κ < k1 := by
        rcases Nat.lt_or_ge κ k1 with h8 | h8
        · exact h8
        · obtain rfl : k1 = κ := by omega
          rw [hx] at h1; cases h1
          exact absurd rfl u1
      have e1 := hmid (κ + 1) k1 (Nat.le_refl _) hk1 (by omega)
      refine ⟨I1.fresh e1 k3, ?_⟩
      obtain ⟨_, s2⟩ := R.seg (k := k1 + 1) (k' := κ') (by omega) q2 (fun j j1 j2 => q4 j (by omega) j2)
      rw [s2 _ (by omega), k4, TB.get_set rfl, if_pos rfl]
end run
end Go.Ra
