/-
  Drawn regions: any order.
-/
import Derived.Test.YtjjmmakledpifaaGreatDoorSP
set_option linter.unusedVariables false
set_option linter.unusedSimpArgs false
namespace Go.Ra
variable {P : Program} {m : Mp} {h : TB} {nx : Nat} {w : World} {nt : Nat} {a : Act} {z : TV} {ft : TF} {ex : Exec}
section run
variable {ops : Array Oper} {al : ADr} {pre : List Nat} {σ : Nat → Sn} {s : Start} {κ : Nat} {listed : Array Bool}

theorem DRun.top (R : DRun P ft ex nt ops al pre σ) {k k' : Nat} (hk : k ≤ k') (hk' : k' ≤ al.list.length) (hna : ∀ j, k ≤ j → j < k' → actAt al.list j = false) (h0 : (σ k).2.2 ≤ 32768) : (σ k').2.2 ≤ 32768 := by
  induction k' with
  | zero =>
    obtain rfl : k = 0 := by omega
    exact h0
  | succ k' ih =>
    rcases Nat.lt_or_ge k (k' + 1) with h1 | h1
    · have i1 := ih (by omega) (by omega) (fun j h2 h3 => hna j h2 (by omega))
      have hx : al.list[k']? = some (al.list[k']'(by omega)) := by simp
      have ha := hna k' (by omega) (by omega)
      rw [actAt_some hx] at ha
      obtain ⟨v, _, _, _, h2 | h2⟩ := calm_step (R.steps k' _ hx) (R.D.staged k' _ hx).2.1 ha
      · have := h2.2.1; omega
      · have := h2.2.2.1
        obtain ⟨b, _, _, h3⟩ := h2.2.2.2
        omega
    · obtain rfl : k = k' + 1 := by omega
      exact h0
theorem operR_inv {ao : AOper} {s1 s2 : Sn} (hr : OperR ft ex ao s1.1 s1.2.1 s1.2.2 s2.1 s2.2.1 s2.2.2) :
    ∃ v, s2.1 = setD ao.dst v s1.1 ∧ ((wantA ao.guard s1.1 = some true ∧ OpR ft ex ao.aop s1.1 s1.2.1 s1.2.2 v s2.2.1 s2.2.2) ∨ (wantA ao.guard s1.1 = some false ∧ v = .tuple .nl ∧ s2.2.1 = s1.2.1 ∧ s2.2.2 = s1.2.2)) := by
  obtain ⟨z1, h1, n1⟩ := s1
  obtain ⟨z2, h2, n2⟩ := s2
  simp only at hr ⊢
  cases hr with
  | skip hw => exact ⟨_, rfl, .inr ⟨hw, rfl, rfl, rfl⟩⟩
  | run v _ _ hw hv => exact ⟨v, rfl, .inl ⟨hw, hv⟩⟩

/-! A block gets a name that was kept for it -/
theorem ext_cases {n : Nat} {e : E} {id : Pth} {e' : E} (h : m.ext n e id = some e') : (id = bid n ∧ e' = e) ∨ (id ≠ bid n ∧ m id = some e') := by
  unfold Mp.ext at h
  split at h
  · rename_i hi; exact .inl ⟨hi, (Option.some.inj h).symm⟩
  · rename_i hi; exact .inr ⟨hi, h⟩
theorem Inv.named (I : Inv P m h nx w) {n : Nat} (hlt : n < nx) (hf : m (bid n) = none) {e : E} (he : e.blk = w.heap.size) (hro : e.ro = false) {b : AB} (hg : h.get (bid n) = b) {o : Obj} {d : Nat} (hb : BRel P (m.ext n e) e b (some o)) : Inv P (m.ext n e) h nx (w.more o d) := by
  have hs : Sub m (m.ext n e) := Mp.ext_sub hf
  refine ⟨fun id e' h' => ?_, fun id id' e1 e2 h1 h2 l1 l2 hb' => ?_, fun id e' h' => ?_, I.top, I.low, fun g hg' => ?_, fun id e' h' hr => ?_, fun id e' h' => ?_⟩
  · rcases ext_cases h' with ⟨rfl, rfl⟩ | ⟨h1, h2⟩
    · rw [hg, he, more_new]; exact hb
    · rw [more_old (I.lim id e' h2)]
      exact (I.blk id e' h2).mono P hs
  · rcases ext_cases h1 with ⟨rfl, rfl⟩ | ⟨k1, k2⟩ <;> rcases ext_cases h2 with ⟨rfl, rfl⟩ | ⟨k3, k4⟩
    · rfl
    · have := I.lim id' _ k4
      omega
    · have := I.lim id _ k2
      omega
    · exact I.inj id id' e1 e2 k2 k4 l1 l2 hb'
  · rcases ext_cases h' with ⟨rfl, rfl⟩ | ⟨h1, h2⟩
    · exact ⟨n, hlt, rfl⟩
    · exact I.dom id e' h2
  · obtain ⟨e', k1, k2⟩ := I.glob g hg'
    exact ⟨e', hs _ _ k1, k2⟩
  · rcases ext_cases h' with ⟨rfl, rfl⟩ | ⟨h1, h2⟩
    · rw [hro] at hr; cases hr
    · exact I.ro id e' h2 hr
  · have hsz : (w.more o d).heap.size = w.heap.size + 1 := by show (w.heap.push o).size = _; simp
    rcases ext_cases h' with ⟨rfl, rfl⟩ | ⟨h1, h2⟩
    · omega
    · have := I.lim id e' h2; omega
theorem Fr.named (F : Fr s.m s.h s.nx s.w m h nx w) {n : Nat} (hbase : s.nx ≤ n) (htop : n ≤ 32767) (hf : m (bid n) = none) {e : E} (he : e.blk = w.heap.size) {o : Obj} {d : Nat} : Fr s.m s.h s.nx s.w (m.ext n e) h nx (w.more o d) := by
  have hs : Sub m (m.ext n e) := Mp.ext_sub hf
  refine ⟨F.sub.trans hs, F.le, fun k hk hm => ?_, F.os, F.tape, F.output, ?_, fun r hr hk => ?_, fun r l hl => ?_, fun id e' h1 h2 => ?_⟩
  · obtain ⟨h1, h2⟩ := F.old k hk hm
    refine ⟨?_, h2⟩
    unfold Mp.ext
    rw [if_neg]
    · exact h1
    · intro e'
      have := bid_inj (by omega) htop e'
      omega
  · have := F.size
    show s.w.heap.size ≤ (w.heap.push o).size
    simp
    omega
  · rw [more_old (by have := F.size; omega)]
    exact F.keep r hr hk
  · obtain ⟨l', hl'⟩ := F.loops r l hl
    exact ⟨l', by rw [more_old (Array.getElem?_eq_some_iff.1 hl').1]; exact hl'⟩
  · rcases ext_cases h1 with ⟨rfl, rfl⟩ | ⟨k1, k2⟩
    · left
      have := F.size
      omega
    · exact F.fresh id e' k2 h2
theorem Marks0.named {base : Nat} {ds : List Deferred} (K : Marks0 base m w ds) {n : Nat} {e : E} (he : e.blk = w.heap.size) {o : Obj} {d : Nat} : Marks0 base (m.ext n e) (w.more o d) ds := by
  refine ⟨fun q hq => ?_, K.2⟩
  obtain ⟨D, h1, h2, h3, h4⟩ := K.1 q hq
  have hlt := (Array.getElem?_eq_some_iff.1 h3).1
  refine ⟨D, h1, h2, by rw [more_old hlt]; exact h3, fun id e' h' => ?_⟩
  rcases ext_cases h' with ⟨rfl, rfl⟩ | ⟨k1, k2⟩
  · omega
  · exact h4 id e' k2

/-! Operands, guards -/
theorem Marks.named {base : Nat} {ds0 ds : List Deferred} (K : Marks base m w ds0 ds) {n : Nat} {e : E} (he : e.blk = w.heap.size) {o : Obj} {d : Nat} : Marks base (m.ext n e) (w.more o d) ds0 ds := by
  obtain ⟨l, rfl, hl⟩ := K
  exact ⟨l, rfl, hl.named he⟩

theorem opsRel_of (hg : ∀ g, g < 8 → ∃ e, m (bid g) = some e ∧ e.blk = g ∧ e.delta = 0 ∧ e.ro = true) {o : Oper} {z : TV} (hT : ∀ t, t < nt → t ∈ o.looksAt ops → VRel m (TV.get (pth (lev nt) t) z) (a.tmps.getD t undef)) : OpsRel m nt z a o.op.operands := by
  intro y hy x hx
  refine cO_rel hg hx fun t ht => ?_
  subst ht
  obtain ⟨p, hp, _⟩ := Option.map_eq_some_iff.1 (show (cT nt t).map .t = some x from hx)
  refine hT t (cT_some hp).1 ?_
  unfold Oper.looksAt
  rw [List.mem_append]
  left
  rw [List.mem_filterMap]
  exact ⟨.tmp t, by simpa using hy, rfl⟩
theorem guard_reads {o : Oper} {g : AG} (hg : cGuard nt ops o = some g) {p : Pth} (hp : p ∈ g.path) : ∃ t, t < nt ∧ p = pth (lev nt) t ∧ t ∈ o.looksAt ops := by
  unfold cGuard at hg
  cases ho : o.guard with
  | none =>
    rw [ho] at hg
    obtain rfl := Option.some.inj hg
    cases hp
  | some jw =>
    obtain ⟨j, want⟩ := jw
    rw [ho] at hg
    simp only [Option.bind_eq_bind, Option.bind_eq_some_iff] at hg
    obtain ⟨t, ht, hg⟩ := hg
    obtain ⟨q, hq, rfl⟩ := Option.map_eq_some_iff.1 hg
    obtain ⟨hlt, rfl⟩ := cT_some hq
    obtain rfl := List.mem_singleton.1 hp
    refine ⟨t, hlt, rfl, ?_⟩
    unfold Oper.looksAt
    rw [List.mem_append]
    right
    rw [ho]
    have : (ops[j]?).bind (·.dst) = some t := by simpa [Option.bind_eq_some_iff] using ht
    simp only [this]
    simp
theorem wantA_congr {g : AG} {z z' : TV} (h : ∀ p ∈ g.path, TV.get p z = TV.get p z') : wantA g z = wantA g z' := by
  cases g with
  | no => rfl
  | yes t b =>
    have := h t (List.mem_singleton.2 rfl)
    simp only [wantA, this]
/-- An operation that yields a value. -/
theorem oper_value {o : Oper} {ao : AOp} (hc : cOp P nt o = some ao) {v' : Value} {w' : World} (hx : (execOp a.eval o).run P w = .ok (.value v') w') (ro : Option Nat) {next : Act → World → Prop} {Q : Exit → Act → World → Prop} (hnext : next (a.put o.dst v') w') : o.wpIn (fnc ro) 0 P a w next Q := by
  have hnd : ∀ c, o.op ≠ .defer c := fun c hd => by
    obtain ⟨dst, op, ty, pos, after, guard⟩ := o
    simp only at hd
    subst hd
    simp [cOp_eq, cOpS] at hc
  refine ⟨fun _ _ => trivial, ?_⟩
  rw [Oper.semAt_eq _ _ _ hnd, hx]
  exact hnext
theorem count_set : ∀ (l : List Bool) (i : Nat), l[i]? = some false → (l.set i true).count false + 1 = l.count false := by
  intro l
  induction l with
  | nil => intro i h; simp at h
  | cons b l ih =>
    intro i h
    cases i with
    | zero =>
      obtain rfl : b = false := by simpa using h
      simp
    | succ i =>
      have := ih i (by simpa using h)
      rw [List.set_cons_succ, List.count_cons, List.count_cons]
      omega

theorem count_none : ∀ (l : List Bool), l.count false = 0 → ∀ (i : Nat), l[i]? ≠ some false := by
  intro l h i hi
  have := List.count_eq_zero.1 h
  exact this (List.mem_of_getElem? hi)

theorem drawn_core (hcal : CallsTo P ft ex) (hrnd : RoundsTo P ex) (hR : DRun P ft ex nt ops al pre σ) (ro : Option Nat) {hs : SL} (hchk : drawChk (σ al.list.length).1 hs al = true) (hnth : ∀ j, actAt al.list j = true ∨ j = al.list.length → hs.nth (bN al.list j) = some ((σ j).1, (σ j).2.1))
    {r : R} (hr : r = .norm (σ al.list.length).1 (σ al.list.length).2.1 (σ al.list.length).2.2) :
    ∀ (fuel : Nat) (listed : Array Bool) (κ : Nat) (m : Mp) (a : Act) (w : World), DW P s nt ops al σ κ listed m a w → listed.toList.count false = fuel → wpAnyIn (fnc ro) 0 P .any ops (Post P s nt r) fuel listed a w := by
  have off : ∀ {listed : Array Bool} {i : Nat}, listed.size = ops.size → listed.getD i true = false → listed.toList[i]? = some false ∧ listed.getD i false = false := by
    intro listed i hsz h
    rw [Array.getD_eq_getD_getElem?] at h
    cases hi : listed[i]? with
    | none => rw [hi] at h; cases h
    | some b =>
      rw [hi] at h
      obtain rfl : b = false := h
      exact ⟨by simpa using hi, by rw [Array.getD_eq_getD_getElem?, hi]; rfl⟩
  have allOn : ∀ {listed : Array Bool}, listed.size = ops.size → Region.ready .any ops listed = [] → ∀ i, i < ops.size → listed.getD i false = true := by
    intro listed hsz hrd i
    induction i using Nat.strongRecOn with
    | ind i ih =>
      intro hi
      cases hb : listed.getD i false with
      | true => rfl
      | false =>
        exfalso
        have ho : ops[i]? = some (ops[i]'hi) := by simp
        have : i ∈ Region.ready .any ops listed := by
          rw [mem_ready]
          refine ⟨?_, _, ho, fun e he hbd => ?_⟩
          · rw [Array.getD_eq_getD_getElem?] at hb ⊢
            rw [Array.getElem?_eq_getElem (by omega)] at hb ⊢
            exact hb
          · have hd : e.on ∈ dirs (ops[i]'hi) := by
              unfold dirs
              rw [List.mem_filterMap]
              exact ⟨e, by simpa using he, by rw [if_pos hbd]⟩
            have := hR.D.dirs i _ ho e.on hd
            exact ih e.on this (by omega)
        rw [hrd] at this
        cases this
  have fin : ∀ {listed : Array Bool} {κ : Nat} {m : Mp} {a : Act} {w : World}, DW P s nt ops al σ κ listed m a w → Region.ready .any ops listed = [] → Post P s nt r .normal a w := by
    intro listed κ m a w W hrd
    have hall := allOn W.sz hrd
    have onp : ∀ (k : Nat) (x : It), al.list[k]? = some x → listed.getD x.1 false = true := fun k x hx => by
      obtain ⟨o, ho, _⟩ := hR.D.oper k x hx
      exact hall _ (Array.getElem?_eq_some_iff.1 ho).1
    have hκ : κ = al.list.length := by
      rcases W.κact with h | h
      · exfalso
        have hlt := actAt_lt h
        have hx : al.list[κ]? = some (al.list[κ]'hlt) := by simp
        rw [actAt_some hx] at h
        have := (W.acts κ _ hx h).1 (onp κ _ hx)
        omega
      · exact h
    subst hκ
    refine ⟨m, _, _, _, hr, ⟨W.nts, fun t ht => ?_⟩, W.I, W.F, W.K⟩
    by_cases hN : pth (lev nt) t ∈ al.calmDsts
    · obtain ⟨k0, x0, g1, g2, g3⟩ := calmDsts_of al _ hN
      exact W.new k0 x0 g1 g2 (onp k0 x0 g1) t ht g3
    · exact W.old t ht hN
  intro fuel
  induction fuel with
  | zero =>
    intro listed κ m a w W hc
    have hrd : Region.ready .any ops listed = [] := by
      cases hrd : Region.ready .any ops listed with
      | nil => rfl
      | cons i l =>
        exfalso
        have : i ∈ Region.ready .any ops listed := by rw [hrd]; exact List.mem_cons_self ..
        have := (mem_ready.1 this).1
        exact count_none _ hc i (off W.sz this).1
    exact ⟨hrd, fin W hrd⟩
  | succ fuel ih =>
    intro listed κ m a w W hc
    refine ⟨fin W, fun i hi => ?_⟩
    obtain ⟨hoff, o, ho, hedge⟩ := mem_ready.1 hi
    obtain ⟨hoff1, hl⟩ := off W.sz hoff
    have hr' : ∀ d ∈ dirs o, listed.getD d false = true := fun d hd => by
      unfold dirs at hd
      obtain ⟨e, he, hed⟩ := List.mem_filterMap.1 hd
      split at hed
      · rename_i hb
        cases hed
        exact hedge e (by simpa using he) hb
      · cases hed
    have hcnt : (listed.setIfInBounds i true).toList.count false = fuel := by
      have := count_set listed.toList i hoff1
      rw [Array.toList_setIfInBounds]
      omega
    obtain ⟨k, x, hx, rfl⟩ := hR.D.all i (Array.getElem?_eq_some_iff.1 ho).1
    obtain ⟨o', ho', hao⟩ := hR.D.oper k x hx
    rw [ho] at ho'
    cases ho'
    obtain ⟨hdst, hgd, hop⟩ := cOper_parts hao
    have hpl := W.place hR hx ho hr' hl
    have hrel := fun {t : Nat} (ht : t < nt) (hlook : t ∈ o.looksAt ops) => W.reads hR hx ho hr' hl ht hlook
    have hO1 : OpsRel m nt (σ k).1 a o.op.operands := opsRel_of (ops := ops) W.I.glob fun t ht hlook => (hrel ht hlook).1
    have hO2 : OpsRel m nt (σ κ).1 a o.op.operands := opsRel_of (ops := ops) W.I.glob fun t ht hlook => by rw [(hrel ht hlook).2]; exact (hrel ht hlook).1
    have hwant : ∀ b, wantA x.2.2.guard (σ k).1 = some b → Region.wanted o (yielded ops a.tmps) = b := fun b hb => wantA_wanted hgd (fun p hp t ht he => by
      obtain ⟨t', ht', he', hlook⟩ := guard_reads hgd hp
      have hle := lev_le hR.hn
      have := pth_inj (show t < 8 ^ lev nt by omega) (by omega) (he.symm.trans he')
      subst this
      have := W.nts
      rw [he]
      exact ⟨by omega, (hrel ht hlook).1⟩) hb
    have hwant2 : wantA x.2.2.guard (σ κ).1 = wantA x.2.2.guard (σ k).1 := wantA_congr fun p hp => by
      obtain ⟨t', ht', he', hlook⟩ := guard_reads hgd hp
      rw [he']
      exact (hrel ht' hlook).2
    unfold wpOpIn
    rw [ho]
    simp only
    cases ha : x.2.1.isAct with
    | true =>
      obtain rfl := hpl.1 ha
      obtain ⟨v, hz, ⟨hw, hv⟩ | ⟨hw, rfl, hh, hnx⟩⟩ := operR_inv (hR.steps k x hx)
      · rw [hwant true hw, if_pos rfl]
        rw [hop] at hv
        cases hco : cOp P nt o with
        | none => rw [hco] at hv; exact absurd hv dead_none
        | some q =>
          rw [hco] at hv
          refine op_sound hcal hrnd W.I hco hO1 hv ro fun v' w' hA => ?_
          have I1 := hA.choose_spec.2.1
          obtain ⟨κ', m', W'⟩ := W.act_end hR (fun hj1 hj2 hj3 => hR.top hj1 hj2 hj3 I1.top) hx ha ho hdst hr' hl hz hA
          exact ih _ κ' m' _ _ W' hcnt
      · rw [hwant false hw, if_neg (by simp)]
        refine ⟨fun _ _ => trivial, ?_⟩
        have hA : Acted P m (σ k).2.1 (σ k).2.2 w (.tuple .nl) (σ (k + 1)).2.1 (σ (k + 1)).2.2 undef w := by
          rw [hh, hnx]
          exact ⟨m, unit_rel, W.I, Fr.refl _ _ _ _⟩
        have I1 := hA.choose_spec.2.1
        obtain ⟨κ', m', W'⟩ := W.act_end hR (fun hj1 hj2 hj3 => hR.top hj1 hj2 hj3 I1.top) hx ha ho hdst hr' hl hz hA
        exact ih _ κ' m' _ _ W' hcnt
    | false =>
      have hkκ := hpl.2 ha
      obtain ⟨v, hz, _, _, hcase⟩ := calm_step (hR.steps k x hx) (hR.D.staged k x hx).2.1 ha
      have hklt := (List.getElem?_eq_some_iff.1 hx).1
      have final : ∀ t, t < nt → o.dst = some t → TV.get (pth (lev nt) t) (σ al.list.length).1 = v := fun t ht hd => by
        have hp := (dst_path hR.hn hdst ht).2 hd
        rw [hR.stays (k := k + 1) (k' := al.list.length) (by omega) (Nat.le_refl _) ht (fun j x' hj _ hx' => hR.D.calmly.calm k x hx ha _ hp j x' hj hx'), hz, get_setD hR.hn hdst ht, if_pos hd]
      have grown : ∀ (k1 : Nat) (x1 : It), al.list[k1]? = some x1 → x1.2.1 = .makes → wantA x1.2.2.guard (σ k1).1 = some true → k1 < κ → (σ k1).2.2 < (σ κ).2.2 := fun k1 x1 h1 h2 h3 h4 => by
        obtain ⟨_, _, _, _, _, h5, _⟩ := make_grows hR h1 h2 h3
        have := W.mono (k1 + 1) κ h4 (Nat.le_refl _)
        omega
      -- a pure operation
      have pure : ∀ (z' : TV) (u : AV), OpsRel m nt z' a o.op.operands → pev x.2.2.aop z' (σ κ).2.1 = some u → (∀ t, t < nt → o.dst = some t → TV.get (pth (lev nt) t) (σ al.list.length).1 = u) → o.wpIn (fnc ro) 0 P a w (wpAnyIn (fnc ro) 0 P .any ops (Post P s nt r) fuel (listed.setIfInBounds x.1 true)) (Post P s nt r) := by
        intro z' u hO hp hfin
        rw [hop] at hp
        cases hco : cOp P nt o with
        | none => rw [hco] at hp; cases hp
        | some q =>
          rw [hco] at hp
          refine op_sound hcal hrnd W.I hco hO (.pure u hp) ro fun v' w' hA => ?_
          obtain ⟨m', hv', I', F'⟩ := hA
          refine ih _ κ m' _ _ (W.calm_end hR hx ha ho hdst hr' hl F'.sub I' (W.F.trans F') (W.K.step F') (fun t ht hd => by rw [hfin t ht hd]; exact hv') fun k1 x1 h1 h2 h3 h4 h5 h6 => ?_) hcnt
          exact (F'.old _ (grown k1 x1 h1 h2 h3 h5) h6).1
      rcases hcase with ⟨_, _, ⟨hw, rfl⟩ | ⟨hw, hp, hnm⟩⟩ | ⟨hw, hm, hnx, b, hf, _, _⟩
      · rw [hwant false hw, if_neg (by simp)]
        refine ⟨fun _ _ => trivial, ?_⟩
        exact ih _ κ m _ _ (W.calm_end hR hx ha ho hdst hr' hl (Sub.refl m) W.I W.F W.K (fun t ht hd => by rw [final t ht hd]; exact unit_rel) fun _ _ _ _ _ _ _ h => h) hcnt
      · rw [hwant true hw, if_pos rfl]
        have hfit := (hR.D.staged k x hx).2.1
        obtain ⟨i0, c0, o0⟩ := x
        cases c0 with
        | calm =>
          have hlk : o0.aop.looks = false := by
            have := ((Bool.and_eq_true _ _).mp hfit).2
            simpa using this
          refine pure (σ k).1 v hO1 ?_ final
          rw [pev_calm hlk _ _ (σ k).2.1]
          exact hp
        | makes => exact absurd rfl hnm
        | acts => cases ha
        | reads u v0 =>
          obtain ⟨hb, hv0⟩ := (hR.D.staged k _ hx).2.2 u v0 rfl
          have h1 : u ≤ bN al.list κ := by
            rcases hb with rfl | ⟨j, hj1, hj2⟩
            · exact Nat.zero_le _
            · obtain ⟨k1, x1, g1, g2, g3, g4⟩ := acts_of al _ j hj1
              have hon := W.onPre hR ho hr' (i := j) hj2
              rw [← g3] at hon
              have := (W.acts k1 x1 g1 g2).1 hon
              have := bN_lt al.list (k := k1) (by rw [actAt_some g1]; exact g2) this
              omega
          have h2 : bN al.list κ ≤ v0 := by
            rcases Nat.lt_or_ge v0 (bN al.list κ) with h | h
            · exfalso
              have hA : v0 < al.acts.length := by
                rw [← bN_len]
                have := bN_mono al.list W.κle
                omega
              have hj1 : al.acts[v0]? = some (al.acts[v0]'hA) := by simp
              obtain ⟨k1, x1, g1, g2, g3, g4⟩ := acts_of al _ _ hj1
              have hlt : k1 < κ := by
                rcases Nat.lt_or_ge k1 κ with h' | h'
                · exact h'
                · have := bN_mono al.list h'
                  omega
              have hon := (W.acts k1 x1 g1 g2).2 hlt
              obtain ⟨o1, ho1, _⟩ := hR.D.oper k1 x1 g1
              have := W.onPre2 hR ho1 hon (i := i0) (by rw [g3]; exact hv0 _ hj1)
              rw [show listed.getD i0 false = false from hl] at this
              cases this
            · exact h
          have hsame := sameAt_spec hs (drawChk_spec al hchk k _ u v0 hx rfl) _ _ _ (hnth κ W.κact) h1 h2
          unfold sameOne at hsame
          split at hsame
          · rename_i p hpd
            rw [hwant2, hw] at hsame
            simp only at hsame
            split at hsame
            · rename_i u2 hu2
              refine pure (σ κ).1 u2 hO2 hu2 fun t ht hd => ?_
              have hp' := (dst_path hR.hn hdst ht).2 hd
              rw [hpd] at hp'
              rw [List.mem_singleton.1 hp']
              exact (AV.beq_eq _ _ hsame).symm
            · cases hsame
          · cases hsame
      · rw [hwant true hw, if_pos rfl]
        rw [hop] at hf
        cases hco : cOp P nt o with
        | none => rw [hco] at hf; cases hf
        | some q =>
          rw [hco] at hf
          obtain ⟨hnone, hget⟩ := W.unmade k x v b hx hm hl hkκ hw (by rw [hop, hco]; exact hf)
          obtain ⟨v', w', hrun, e, ob, d, he, hro, rfl, hv', hB⟩ := fev_make (w := w) hnone hco hO1 hf
          refine oper_value hco hrun ro ?_
          have hlt := grown k x hx hm hw hkκ
          have hbase : s.nx ≤ (σ k).2.2 := Nat.le_trans W.base (W.mono 0 k (Nat.zero_le _) (Nat.le_of_lt hkκ))
          refine ih _ κ (m.ext (σ k).2.2 e) _ _ (W.calm_end hR hx ha ho hdst hr' hl (Mp.ext_sub hnone) (W.I.named hlt hnone he hro hget hB) (W.F.named hbase hnx hnone he) (W.K.named he) (fun t ht hd => by rw [final t ht hd]; exact hv') fun k1 x1 h1 h2 h3 h4 h5 h6 => ?_) hcnt
          unfold Mp.ext
          rw [if_neg]
          · exact h6
          · intro heq
            obtain ⟨_, _, _, g1, _, g2, _⟩ := make_grows hR h1 h2 h3
            obtain ⟨_, _, _, g3, _, g4, _⟩ := make_grows hR hx hm hw
            have hne := bid_inj g1 g3 heq
            rcases Nat.lt_or_ge k1 k with h7 | h7
            · have := W.mono (k1 + 1) k h7 (Nat.le_of_lt hkκ)
              omega
            · have := W.mono (k + 1) k1 (by omega) (Nat.le_of_lt h5)
              omega
end run

theorem Inv.drew (I : Inv P m h nx w) : Inv P m h nx { w with drawn := w.drawn + 1 } := ⟨I.blk, I.inj, I.dom, I.top, I.low, I.glob, I.ro, I.lim⟩
theorem Fr.drew {m0 : Mp} {h0 : TB} {nx0 : Nat} {w0 : World} (F : Fr m0 h0 nx0 w0 m h nx w) : Fr m0 h0 nx0 w0 m h nx { w with drawn := w.drawn + 1 } := ⟨F.sub, F.le, F.old, F.os, F.tape, F.output, F.size, F.keep, F.loops, F.fresh⟩
theorem drawn_sound (hm : P.follows .mixedOrders = true) (hcal : CallsTo P ft ex) (hrnd : RoundsTo P ex) : DrawnTo P ft ex := by
  intro i ops nt al s ro m z h nx a w r hn hc S hr hrf
  have D := cDr_ok hc
  obtain ⟨σ, hs, h0, hst, _, hnth, hend⟩ := drawA_inv al z h nx .nil _ r hr hrf
  unfold drawEnd at hend
  cases hchk : drawChk (σ al.list.length).1 hs al with
  | false => rw [hchk] at hend; exact absurd hend.symm hrf
  | true =>
  rw [hchk] at hend
  have hR : DRun P ft ex nt ops al (befores ops.toList []) σ := ⟨hn, D, hst, rfl⟩
  refine wpIn_region_any hm ?_
  obtain ⟨κ, q1, q2, q3, q4⟩ := next_act al.list 0 (Nat.zero_le _)
  obtain ⟨g1, g2⟩ := hR.seg q1 q2 q4
  have I0 : Inv P m (σ 0).2.1 (σ 0).2.2 { w with drawn := w.drawn + 1 } := by rw [h0]; exact S.I.drew
  have F0 : Fr s.m s.h s.nx s.w m (σ 0).2.1 (σ 0).2.2 { w with drawn := w.drawn + 1 } := by rw [h0]; exact S.F.drew
  have hoff : ∀ j, (Array.replicate ops.size false).getD j false = false := fun j => by
    rw [Array.getD_eq_getD_getElem?, Array.getElem?_replicate]
    split <;> rfl
  have W : DW P s nt ops al σ κ (Array.replicate ops.size false) m a { w with drawn := w.drawn + 1 } := by
    refine ⟨q2, q3, by simp, fun j o _ hj => ?_, fun k x hx ha => ?_, I0.reserve g1 (hR.top q1 q2 q4 I0.top) g2, S.T.1, fun t ht hN => ?_, fun k x _ _ hl => ?_, fun j j' h1 h2 => ?_, ?_, fun k x v b hx hm' _ hk hw hf => ?_, F0.reserve g1 g2, S.K⟩
    · rw [hoff] at hj; cases hj
    · rw [hoff]
      refine ⟨fun h => (by cases h), fun h => ?_⟩
      have := q4 k (Nat.zero_le _) h
      rw [actAt_some hx, ha] at this
      cases this
    · rw [hR.stays q1 q2 ht (fun j x' hj1 hj2 hx' hmem => hN (calmDsts_mem al j x' _ hx' (by
        have := q4 j hj1 hj2
        rwa [actAt_some hx'] at this) hmem)), h0]
      exact S.T.2 t ht
    · rw [hoff] at hl; cases hl
    · exact (hR.seg h1 (by omega) (fun i hi1 hi2 => q4 i (by omega) (by omega))).1
    · rw [h0]; exact S.F.le
    · obtain ⟨v1, b1, k2, k3, k4, k5, k6⟩ := make_grows hR hx hm' hw
      rw [hf] at k2
      cases k2
      have e1 := (hR.seg (k := 0) (k' := k) (Nat.zero_le _) (by omega) (fun j _ j2 => q4 j (Nat.zero_le _) (by omega))).1
      refine ⟨I0.fresh e1 k3, ?_⟩
      obtain ⟨_, s2⟩ := hR.seg (k := k + 1) (k' := κ) hk q2 (fun j j1 j2 => q4 j (Nat.zero_le _) j2)
      rw [s2 _ (by omega), k4, TB.get_set rfl, if_pos rfl]
  refine drawn_core hcal hrnd hR ro hchk (fun j hj => ?_) hend.symm ops.size _ κ m a _ W (by simp)
  have := hnth j hj
  rwa [show SL.nil.len = 0 from rfl, Nat.zero_add] at this
/-- **What the abstract machine says of a call, holds of the program.** -/
theorem calls_run (hm : P.follows .mixedOrders = true) (hft : FtOk P ft) (n : Nat) : CallsTo P ft (exec ft n) :=
  have h := exec_sound hft (fun _ hc hr => drawn_sound hm hc hr) n
  calls_sound hft h.1 h.2
end Go.Ra
