/-
  A region that draws its order, calls, and makes one new variable: the new variable may be made at any time.
-/
import Derived.Test.YtpncfeaaffgkfaaGreatDoorRf
import Derived.BigQuiet
namespace Go
open Go.RowKit

/-- A caller that stands still as soon as it is given a value back. -/
def deadEnd : Frame := { fn := 0, tmps := #[], todo := [.extern "" #[], .code (.exit 0)], defers := [], mode := .run, kind := .normal }
theorem deadEnd_step (P : Program) (v : Value) (w : World) : ∃ o, step P (lone (deadEnd.finish v) [] w) = .ended o w :=
  ⟨_, step_lone_ended rfl⟩
theorem runN_det {P : Program} : ∀ (n1 n2 : Nat) (m x1 x2 : Machine), runN P n1 m = .next x1 → runN P n2 m = .next x2 → (∀ y, step P x1 ≠ .next y) → (∀ y, step P x2 ≠ .next y) → x1 = x2
  | 0, 0, _, _, _, h1, h2, _, _ => by
    simp only [runN, Stepped.next.injEq] at h1 h2
    exact h1.symm.trans h2
  | 0, k + 1, m, x1, x2, h1, h2, t1, _ => by
    simp only [runN, Stepped.next.injEq] at h1
    subst h1
    cases hs : step P m with
    | next y => exact absurd hs (t1 y)
    | ended o w => simp [runN, hs] at h2
  | k + 1, 0, m, x1, x2, h1, h2, _, t2 => by
    simp only [runN, Stepped.next.injEq] at h2
    subst h2
    cases hs : step P m with
    | next y => exact absurd hs (t2 y)
    | ended o w => simp [runN, hs] at h1
  | k + 1, j + 1, m, x1, x2, h1, h2, t1, t2 => by
    cases hs : step P m with
    | next y =>
      simp only [runN, hs] at h1 h2
      exact runN_det k j y x1 x2 h1 h2 t1 t2
    | ended o w => simp [runN, hs] at h1
/-- Two contracts of one call agree. -/
theorem Calls.agree {P : Program} {f : FuncId} {args : Array Value} {w : World} {v1 v2 : Value} {R1 R2 : World → Prop} (h1 : Calls P f args w fun e w' => e = .returned v1 ∧ R1 w')
    (h2 : Calls P f args w fun e w' => e = .returned v2 ∧ R2 w') : v1 = v2 := by
  obtain ⟨e1, w1, f1, ⟨rfl, _⟩, s1, _, l1⟩ := h1 [deadEnd]
  obtain ⟨e2, w2, f2, ⟨rfl, _⟩, s2, _, l2⟩ := h2 [deadEnd]
  have t1 := Steps.trans s1 (Steps.head (step_leave_returned l1) (Steps.refl _ _))
  have t2 := Steps.trans s2 (Steps.head (step_leave_returned l2) (Steps.refl _ _))
  obtain ⟨n1, r1⟩ := t1
  obtain ⟨n2, r2⟩ := t2
  obtain ⟨o1, e1⟩ := deadEnd_step P v1 w1
  obtain ⟨o2, e2⟩ := deadEnd_step P v2 w2
  have := runN_det n1 n2 _ _ _ r1 r2 (fun y hy => by rw [e1] at hy; cases hy) (fun y hy => by rw [e2] at hy; cases hy)
  have h := congrArg (fun m : Machine => m.gs.map (fun g => g.frame.tmps)) this
  simpa [lone, deadEnd, Frame.finish] using h

section
variable {P : Program} {ops : Array Oper} {md : Region.Mode}
theorem quietAt_agree {o : Oper} {a : Act} {C1 C2 : World → Prop} {W : World} {v1 v2 : Value} (h1 : o.quietAt P a C1 W v1) (h2 : o.quietAt P a C2 W v2) : v1 = v2 := by
  unfold Oper.quietAt at *
  generalize (execOp a.eval o).run P W = r at *
  cases r with
  | halt x w' => exact h1.elim
  | ok nx w' =>
    cases nx with
    | value u => exact h1.2.symm.trans h2.2
    | skip => exact h1.2.trans h2.2.symm
    | enter f args =>
      obtain ⟨rfl, c1⟩ := h1
      exact Calls.agree c1 h2.2
    | _ => exact h1.elim
theorem wp_of_at {o : Oper} {a : Act} {C : World → Prop} {W : World} {v : Value} {K : Act → World → Prop} {Q : Exit → Act → World → Prop} (h : o.quietAt P a C W v) (hW : C W)
    (hK : ∀ w', C w' → K (a.put o.dst v) w') : o.wp P a W K Q := by
  unfold Oper.quietAt at h
  unfold Oper.wp
  generalize (execOp a.eval o).run P W = r at *
  cases r with
  | halt x w' => exact h.elim
  | ok nx w' =>
    cases nx with
    | value u =>
      obtain ⟨rfl, rfl⟩ := h
      exact hK _ hW
    | skip =>
      obtain ⟨rfl, rfl⟩ := h
      exact hK _ hW
    | enter f args =>
      obtain ⟨rfl, c⟩ := h
      rw [Oper.upon_enter]
      refine c.mono ?_
      rintro e w'' ⟨rfl, hc⟩
      exact hK _ hc
    | _ => exact h.elim

/-- In every later world the operation yields v, and leads to a later one. -/
def RelIn (P : Program) (ops : Array Oper) (w0 : World) (o : Oper) (v : Value) (a : Act) : Prop :=
  (Region.wanted o (yielded ops a.tmps) = true ∧ ∀ W, Gr w0 W → o.quietAt P a (Gr W) W v) ∨ (Region.wanted o (yielded ops a.tmps) = false ∧ v = undef)
theorem RelIn.agree {w0 : World} {o : Oper} {v v' : Value} {a : Act} (h : RelIn P ops w0 o v a) (h' : RelIn P ops w0 o v' a) : v = v' := by
  rcases h with ⟨h1, h2⟩ | ⟨h1, h2⟩ <;> rcases h' with ⟨h3, h4⟩ | ⟨h3, h4⟩
  · exact quietAt_agree (h2 _ (Gr.refl _)) (h4 _ (Gr.refl _))
  · rw [h1] at h3; cases h3
  · rw [h1] at h3; cases h3
  · rw [h2, h4]
theorem RelIn.of_same {w0 : World} {o : Oper} {v : Value} {a a' : Act} (hy : RelIn P ops w0 o v a) (he : execOp a'.eval o = execOp a.eval o)
    (hw : Region.wanted o (yielded ops a'.tmps) = Region.wanted o (yielded ops a.tmps)) : RelIn P ops w0 o v a' := by
  unfold RelIn Oper.quietAt at *
  rw [he, hw]; exact hy

/-- The operation stores into block p: z lay there, z' lies there. -/
def StoreAt (P : Program) (w0 : World) (p : Nat) (z z' : Obj) (o : Oper) (a : Act) : Prop :=
  ∀ W, Gr w0 W → W.heap[p]? = some z → ∃ W', (execOp a.eval o).run P W = .ok .skip W' ∧ Gr w0 W' ∧ W'.heap[p]? = some z'
/-- Operation m is said to yield the pointer to block p; number s stores into it; each other one yields what it yields. -/
def Yv (P : Program) (ops : Array Oper) (w0 : World) (m p s : Nat) (z z' : Obj) (i : Nat) (v : Value) (a : Act) : Prop :=
  if i = m then v = .pointer (some ⟨p, 0, none⟩) else if i = s then ∃ o, ops[i]? = some o ∧ o.guard = none ∧ StoreAt P w0 p z z' o a ∧ v = undef else ∃ o, ops[i]? = some o ∧ RelIn P ops w0 o v a

def lexY (ops : Array Oper) (Y : Nat → Value → Act → Prop) (L : Act → Prop) : Nat → Nat → Act → Prop
  | 0, _, a => L a
  | f + 1, k, a => ∃ o v, ops[k]? = some o ∧ Y k v a ∧ lexY ops Y L f (k + 1) (a.put o.dst v)
def headY (md : Region.Mode) (ops : Array Oper) (Y : Nat → Value → Act → Prop) (n : Nat) (L : Array Bool → Act → Prop) : Nat → Array Bool → Act → Prop
  | 0, listed, a => L listed a
  | f + 1, listed, a => Region.ready md ops listed ≠ [] ∧ ∀ i ∈ Region.ready md ops listed, i < n ∧ ∃ o v, ops[i]? = some o ∧ Y i v a ∧ headY md ops Y n L f (listed.setIfInBounds i true) (a.put o.dst v)
/-- What is apart makes no difference. -/
def YComm (ops : Array Oper) (Y : Nat → Value → Act → Prop) : Prop := ∀ (i j : Nat) (oi oj : Oper), ops[i]? = some oi → ops[j]? = some oj → oi.apart ops oj = true →
  ∀ (u v : Value) (a : Act), (Y j v (a.put oi.dst u) → Y j v a) ∧ (Y i v a → Y i v (a.put oj.dst u))
theorem yv_comm {w0 : World} {m p s : Nat} {z z' : Obj} (hsel : Region.noSelect ops = true) : YComm ops (Yv P ops w0 m p s z z') := by
  intro i j oi oj hi hj hap u v a
  obtain ⟨h1, h2, h3⟩ := Oper.apart_spec hap
  have hsi := Region.noSelect_spec hsel
  refine ⟨fun h => ?_, fun h => ?_⟩
  · unfold Yv at *
    have he := execOp_put oj (fun cs b => hsi j oj cs b hj) a oi.dst u h1
    by_cases hm : j = m
    · simpa [hm] using h
    · simp only [hm, if_false] at h ⊢
      by_cases hsj : j = s
      · simp only [hsj, if_true] at h ⊢
        subst hsj
        obtain ⟨o, ho, hg, hst, hv⟩ := h
        obtain rfl : oj = o := Option.some.inj (hj.symm.trans ho)
        unfold StoreAt at hst
        rw [he] at hst
        exact ⟨oj, hj, hg, hst, hv⟩
      · simp only [hsj, if_false] at h ⊢
        obtain ⟨o, ho, hr⟩ := h
        obtain rfl : oj = o := Option.some.inj (hj.symm.trans ho)
        exact ⟨oj, hj, hr.of_same he.symm (wanted_put oj a oi.dst u h1).symm⟩
  · unfold Yv at *
    have he := execOp_put oi (fun cs b => hsi i oi cs b hi) a oj.dst u h3
    by_cases hm : i = m
    · simpa [hm] using h
    · simp only [hm, if_false] at h ⊢
      by_cases hsj : i = s
      · simp only [hsj, if_true] at h ⊢
        subst hsj
        obtain ⟨o, ho, hg, hst, hv⟩ := h
        obtain rfl : oi = o := Option.some.inj (hi.symm.trans ho)
        refine ⟨oi, hi, hg, ?_, hv⟩
        unfold StoreAt
        rw [he]; exact hst
      · simp only [hsj, if_false] at h ⊢
        obtain ⟨o, ho, hr⟩ := h
        obtain rfl : oi = o := Option.some.inj (hi.symm.trans ho)
        exact ⟨oi, hi, hr.of_same he (wanted_put oi a oj.dst u h3)⟩
theorem headY_first {Y : Nat → Value → Act → Prop} {n i : Nat} {oi : Oper} {v : Value} {L : Array Bool → Act → Prop} (hY : YComm ops Y) (hi : ops[i]? = some oi)
    (hs : Region.sinkB md ops n = true) (hc : Region.chainB md ops n = true) (hn : n < ops.size) (hin : i < n) (hdone : ∀ listed a, L listed a → ∀ j ∈ Region.ready md ops listed, n ≤ j) :
    ∀ (f : Nat) (listed : Array Bool) (a : Act), HeadInv md ops n listed →
      (∀ j oj, ops[j]? = some oj → j ≠ i → listed.getD j true = false → (∀ e ∈ oj.after, Region.binds md e = true → e.on ≠ i) → oi.apart ops oj = true) →
      i ∈ Region.ready md ops listed → Y i v a → headY md ops Y n L f (listed.setIfInBounds i true) (a.put oi.dst v) → headY md ops Y n L (f + 1) listed a := by
  intro f
  induction f with
  | zero =>
    intro listed a inv _ hr hy H
    have hun := (mem_ready.1 hr).1
    refine ⟨fun e => (by rw [e] at hr; cases hr), fun j hj => ?_⟩
    have hjn : j < n := Nat.lt_of_not_le fun hle => tail_waits hs hc hn inv _ i rfl hin hun j hle hj
    by_cases hji : j = i
    · subst hji; exact ⟨hjn, oi, v, hi, hy, H⟩
    · have := hdone _ _ H j (ready_mono hj hji); omega
  | succ f ih =>
    intro listed a inv hfree hr hy H
    have hun := (mem_ready.1 hr).1
    refine ⟨fun e => (by rw [e] at hr; cases hr), fun j hj => ?_⟩
    have hjn : j < n := Nat.lt_of_not_le fun hle => tail_waits hs hc hn inv _ i rfl hin hun j hle hj
    by_cases hji : j = i
    · subst hji; exact ⟨hjn, oi, v, hi, hy, H⟩
    · obtain ⟨hjun, oj, hoj, hall⟩ := mem_ready.1 hj
      have hnot : ∀ e ∈ oj.after, Region.binds md e = true → e.on ≠ i := fun e he hb heq => by
        have h1 := hall e he hb
        rw [heq, getD_both hun] at h1
        cases h1
      have hap := hfree j oj hoj hji hjun hnot
      obtain ⟨_, o2, u, ho2, hyj, hrest⟩ := H.2 j (ready_mono hj hji)
      obtain rfl : oj = o2 := Option.some.inj (hoj.symm.trans ho2)
      obtain ⟨_, h2, _⟩ := Oper.apart_spec hap
      refine ⟨hjn, oj, u, hoj, (hY i j oi oj hi hoj hap v u a).1 hyj, ih _ _ (inv.set hj hjn) (fun k ok hk hki hku hno => hfree k ok hk hki ?_ hno) (ready_mono hr (Ne.symm hji)) ((hY i j oi oj hi hoj hap u v a).2 hy) ?_⟩
      · by_cases hjk : j = k
        · subst hjk; exact hjun
        · rwa [getD_set_ne true hjk] at hku
      · rw [Array.setIfInBounds_comm _ _ hji, ← Act.put_comm a v u h2]; exact hrest
theorem headY_lex {Y : Nat → Value → Act → Prop} {n g : Nat} {Lq : Act → Prop} (hY : YComm ops Y) (hs : Region.sinkB md ops n = true) (hc : Region.chainB md ops n = true) (hn : n < ops.size) :
    ∀ (f k : Nat) (listed : Array Bool) (a : Act), k + f = n → HeadInv md ops n listed →
    Region.lexHead md ops g f k listed = true → lexY ops Y Lq f k a →
    headY md ops Y n (fun listed' a' => Region.seqB md ops g n listed' = true ∧ Lq a') f listed a
  | 0, k, listed, a, hk, _, hB, h => by
    obtain rfl : k = n := by simpa using hk
    exact ⟨by simpa [Region.lexHead] using hB, h⟩
  | f + 1, k, listed, a, hk, inv, hB, h => by
    obtain ⟨o, v, h0, hy, hK⟩ := h
    simp only [Region.lexHead, Bool.and_eq_true] at hB
    have hkn : k < n := by omega
    have hr' : k ∈ Region.ready md ops listed := by simpa using hB.1.1
    exact headY_first hY h0 hs hc hn hkn (fun _ _ hL => seqB_ready hL.1) f listed a inv (Region.free_spec h0 hB.1.2) hr' hy
      (headY_lex hY hs hc hn f (k + 1) _ _ (by omega) (inv.set hr' hkn) hB.2 hK)

/-- The new variable lies there. -/
theorem any_of_headY_made {Q : Exit → Act → World → Prop} {w0 : World} {m p s n g : Nat} {z z' : Obj} {Lq : Act → Prop} (hs : Region.sinkB md ops n = true) (hc : Region.chainB md ops n = true) (hn : n < ops.size) (hsn : s < n ∨ ops[s]? = none) (hg : 0 < g)
    (hL : ∀ listed a W, Gr w0 W → W.heap[p]? = some (if s < n then z' else z) → Region.seqB md ops g n listed = true → Lq a → wpAny P md ops Q g listed a W) :
    ∀ (f : Nat) (listed : Array Bool) (a : Act) (W : World), HeadInv md ops n listed → Gr w0 W → w0.heap.size ≤ p → W.heap[p]? = some (if listed.getD s false then z' else z) → listed.getD m false = true →
      headY md ops (Yv P ops w0 m p s z z') n (fun listed' a' => Region.seqB md ops g n listed' = true ∧ Lq a') f listed a → wpAny P md ops Q (f + g) listed a W
  | 0, listed, a, W, inv, hW, hp, hz, _, h => by
    rw [Nat.zero_add]
    refine hL _ _ _ hW ?_ h.1 h.2
    by_cases hsl : s < n
    · cases hls : listed.getD s true with
      | true =>
        have : listed.getD s false = true := by
          have hss : s < listed.size := by rw [inv.size]; omega
          simpa [hss] using hls
        rw [this] at hz
        simpa [hsl] using hz
      | false =>
        exfalso
        obtain ⟨g', rfl⟩ : ∃ g', g = g' + 1 := ⟨g - 1, by omega⟩
        have h1 := h.1
        simp only [Region.seqB, Bool.and_eq_true, decide_eq_true_eq] at h1
        exact tail_waits hs hc hn inv _ s rfl hsl hls n (Nat.le_refl _) (by rw [h1.1]; simp)
    · have hno : ops[s]? = none := by
        rcases hsn with h' | h'
        · exact absurd h' hsl
        · exact h'
      have hss : listed.getD s false = false := by
        have : ¬ s < listed.size := by
          rw [inv.size]; intro h'
          rw [Array.getElem?_eq_getElem h'] at hno; cases hno
        simp [this]
      rw [hss] at hz
      simpa [hsl] using hz
  | f + 1, listed, a, W, inv, hW, hp, hz, hm, h => by
    rw [show f + 1 + g = (f + g) + 1 by omega]
    refine ⟨fun e => absurd e h.1, fun i hi => ?_⟩
    obtain ⟨hin, o, v, ho, hy, hr⟩ := h.2 i hi
    have him : i ≠ m := fun e => by
      subst e
      have := (mem_ready.1 hi).1
      rw [getD_both this] at hm; cases hm
    have hm' : (listed.setIfInBounds i true).getD m false = true := by rw [getD_set_ne false him]; exact hm
    have inv' := inv.set hi hin
    unfold Yv at hy
    simp only [him, if_false] at hy
    unfold wpOp
    simp only [ho]
    by_cases his : i = s
    · subst his
      simp only [if_true] at hy
      obtain ⟨o2, ho2, hgu, hst, rfl⟩ := hy
      obtain rfl : o = o2 := Option.some.inj (ho.symm.trans ho2)
      have hun := (mem_ready.1 hi).1
      rw [getD_both hun] at hz
      obtain ⟨W', hrun, hW', hz'⟩ := hst W hW (by simpa using hz)
      have hw : Region.wanted o (yielded ops a.tmps) = true := by simp [Region.wanted, hgu]
      simp only [hw, if_true]
      refine .inl ?_
      unfold Oper.wp
      rw [hrun, Oper.upon_skip]
      refine any_of_headY_made hs hc hn hsn hg hL f _ _ _ inv' hW' hp ?_ hm' hr
      have hil : i < listed.size := by rw [inv.size]; omega
      simpa [hil] using hz'
    · simp only [his, if_false] at hy
      obtain ⟨o2, ho2, hrel⟩ := hy
      obtain rfl : o = o2 := Option.some.inj (ho.symm.trans ho2)
      have hzs : (listed.setIfInBounds i true).getD s false = listed.getD s false := getD_set_ne false his
      rcases hrel with ⟨hw, hq⟩ | ⟨hw, rfl⟩
      · simp only [hw, if_true]
        refine .inl (wp_of_at (hq W hW) (Gr.refl _) fun w' hw' => ?_)
        exact any_of_headY_made hs hc hn hsn hg hL f _ _ _ inv' (hW.trans hw') hp (by rw [hzs]; exact (Below.block hw' _ (Array.getElem?_eq_some_iff.1 hz).1).trans hz) hm' hr
      · simp only [hw]
        exact any_of_headY_made hs hc hn hsn hg hL f _ _ _ inv' hW hp (by rw [hzs]; exact hz) hm' hr
/-- It may be made yet. -/
theorem any_of_headY {Q : Exit → Act → World → Prop} {w0 : World} {m s n g : Nat} {z z' : Obj} {om : Oper} {Lq : Nat → Act → Prop} (hs : Region.sinkB md ops n = true) (hc : Region.chainB md ops n = true) (hn : n < ops.size) (hsn : s < n ∨ ops[s]? = none) (hg : 0 < g)
    (hwait : s < n → Region.waitsFor md ops s m = true) (hsm : s ≠ m)
    (hmn : m < n) (hom : ops[m]? = some om) (hgu : om.guard = none) (haf : om.after = #[])
    (hal : ∀ (a : Act) (W : World), (execOp a.eval om).run P W = .ok (.value (.pointer (some ⟨W.heap.size, 0, none⟩))) (W.alloc z))
    (hL : ∀ p listed a W, Gr w0 W → w0.heap.size ≤ p → W.heap[p]? = some (if s < n then z' else z) → Region.seqB md ops g n listed = true → Lq p a → wpAny P md ops Q g listed a W) :
    ∀ (f : Nat) (listed : Array Bool) (a : Act) (W : World), HeadInv md ops n listed → Gr w0 W → listed.getD m true = false →
      (∀ p, w0.heap.size ≤ p → headY md ops (Yv P ops w0 m p s z z') n (fun listed' a' => Region.seqB md ops g n listed' = true ∧ Lq p a') f listed a) → wpAny P md ops Q (f + g) listed a W
  | 0, listed, a, W, _, hW, hm, h => by
    have hs := (h _ (Nat.le_refl _)).1
    have hr : m ∈ Region.ready md ops listed := mem_ready.2 ⟨hm, om, hom, fun e he => by rw [haf] at he; simp at he⟩
    have := seqB_ready hs m hr
    omega
  | f + 1, listed, a, W, inv, hW, hm, h => by
    rw [show f + 1 + g = (f + g) + 1 by omega]
    have h0 := h _ (Nat.le_refl _)
    refine ⟨fun e => absurd e h0.1, fun i hi => ?_⟩
    have hms : m < listed.size := by
      rcases Nat.lt_or_ge m listed.size with h' | h'
      · exact h'
      · simp [Array.getElem?_eq_none h'] at hm
    -- what stores waits for what makes
    have hsl : listed.getD s false = false := by
      cases hls : listed.getD s false with
      | false => rfl
      | true =>
        exfalso
        have hss : s < ops.size := by
          rcases Nat.lt_or_ge s listed.size with h' | h'
          · rw [← inv.size]; exact h'
          · simp [Array.getElem?_eq_none h'] at hls
        have hsn' : s < n := by
          rcases hsn with h' | h'
          · exact h'
          · rw [Array.getElem?_eq_getElem hss] at h'; cases h'
        obtain ⟨os, hos, e, he, hb, heq⟩ := Region.waitsFor_spec (hwait hsn')
        have := inv.closed s os hos hls e he hb
        rw [heq, getD_both hm] at this; cases this
    have his : i ≠ s := fun e => by
      subst e
      obtain ⟨_, o, ho, hall⟩ := mem_ready.1 hi
      have hss : i < ops.size := (Array.getElem?_eq_some_iff.1 ho).1
      have hsn' : i < n := by
        rcases hsn with h' | h'
        · exact h'
        · rw [Array.getElem?_eq_getElem hss] at h'; cases h'
      obtain ⟨os, hos, e, he, hb, heq⟩ := Region.waitsFor_spec (hwait hsn')
      obtain rfl : o = os := Option.some.inj (ho.symm.trans hos)
      have := hall e he hb
      rw [heq, getD_both hm] at this; cases this
    by_cases him : i = m
    · subst him
      have hsz := Below.size hW
      obtain ⟨hin, o, v, ho, hy, hr⟩ := (h W.heap.size hsz).2 i hi
      obtain rfl : om = o := Option.some.inj (hom.symm.trans ho)
      unfold Yv at hy
      simp only [if_true] at hy
      subst hy
      unfold wpOp
      simp only [hom]
      have hw : Region.wanted om (yielded ops a.tmps) = true := by simp [Region.wanted, hgu]
      simp only [hw, if_true]
      refine .inl ?_
      unfold Oper.wp
      rw [hal]
      rw [Oper.upon_value]
      exact any_of_headY_made (Lq := Lq W.heap.size) hs hc hn hsn hg (fun listed a W' h1 h2 h3 h4 => hL _ listed a W' h1 hsz h2 h3 h4) f _ _ _ (inv.set hi hin) (hW.alloc1 _) hsz
        (by rw [getD_set_ne false his, hsl]; simp [World.alloc, -World.alloc_eq]) (by simp [hms]) hr
    · obtain ⟨hin, o, v, ho, hy, _⟩ := h0.2 i hi
      unfold Yv at hy
      simp only [him, his, if_false] at hy
      obtain ⟨o2, ho2, hrel⟩ := hy
      obtain rfl : o = o2 := Option.some.inj (ho.symm.trans ho2)
      have hrest : ∀ p, w0.heap.size ≤ p → headY md ops (Yv P ops w0 m p s z z') n (fun listed' a' => Region.seqB md ops g n listed' = true ∧ Lq p a') f (listed.setIfInBounds i true) (a.put o.dst v) := fun p hp => by
        obtain ⟨_, o3, v3, ho3, hy3, hr3⟩ := (h p hp).2 i hi
        obtain rfl : o = o3 := Option.some.inj (ho.symm.trans ho3)
        unfold Yv at hy3
        simp only [him, his, if_false] at hy3
        obtain ⟨o4, ho4, hrel4⟩ := hy3
        obtain rfl : o = o4 := Option.some.inj (ho.symm.trans ho4)
        obtain rfl := hrel.agree hrel4
        exact hr3
      have hm' : (listed.setIfInBounds i true).getD m true = false := by rw [getD_set_ne true him]; exact hm
      have inv' := inv.set hi hin
      unfold wpOp
      simp only [ho]
      rcases hrel with ⟨hw, hq⟩ | ⟨hw, rfl⟩
      · simp only [hw, if_true]
        refine .inl (wp_of_at (hq W hW) (Gr.refl _) fun w' hw' => ?_)
        exact any_of_headY hs hc hn hsn hg hwait hsm hmn hom hgu haf hal hL f _ _ _ inv' (hW.trans hw') hm' hrest
      · simp only [hw]
        exact any_of_headY hs hc hn hsn hg hwait hsm hmn hom hgu haf hal hL f _ _ _ inv' hW hm' hrest
end
/-- The operation that stands for one that makes a variable: it hands on the pointer to block p. -/
abbrev Oper.made (o : Oper) (p : Nat) : Oper := { dst := o.dst, op := .move (.const (.pointer (some ⟨p, 0, none⟩))), type := o.type, pos := o.pos, after := o.after, guard := none }
theorem lex_of_quiet {P : Program} {l : List Oper} {w0 : World} {m p s h0 : Nat} {z z' : Obj} {om : Oper} {L : Act → Prop} {Y : Act → Prop} (hom : l[m]? = some om) (hgu : om.guard = none) (hn : h0 ≤ l.length) (hs : h0 ≤ s) (g : Nat)
    (hY : ∀ a, Y a → lexY l.toArray (Yv P l.toArray w0 m p s z z') L g h0 a) :
    ∀ (f k : Nat) (a : Act), k + f = h0 → (∀ W, Gr w0 W → wpQuiet P (l.set m (om.made p)).toArray (Gr W) Y (((l.set m (om.made p)).take h0).drop k) a) → lexY l.toArray (Yv P l.toArray w0 m p s z z') L (f + g) k a
  | 0, k, a, hk, h => by
    have := h _ (Gr.refl _)
    rw [List.drop_eq_nil_of_le (by simp; omega)] at this
    rw [Nat.zero_add]
    obtain rfl : k = h0 := by omega
    exact hY _ this
  | f + 1, k, a, hk, h => by
    rw [show f + 1 + g = (f + g) + 1 by omega]
    have hkl : k < l.length := by omega
    have hks : k ≠ s := by omega
    have hyd : ∀ (t : Array Value), yielded (l.set m (om.made p)).toArray t = yielded l.toArray t := fun t => by
      funext j
      unfold yielded
      have : ((l.set m (om.made p)).toArray[j]?).bind (·.dst) = (l.toArray[j]?).bind (·.dst) := by
        simp only [List.getElem?_toArray, List.getElem?_set]
        by_cases hj : m = j
        · subst hj
          have hml : m < l.length := (List.getElem?_eq_some_iff.1 hom).1
          obtain rfl : l[m] = om := by simpa [hml] using hom
          simp [hml]
        · simp [hj]
      rw [this]
    have hd : ((l.set m (om.made p)).take h0).drop k = (l.set m (om.made p))[k]'(by simpa using hkl) :: ((l.set m (om.made p)).take h0).drop (k + 1) := by
      rw [List.drop_eq_getElem_cons (by simp; omega)]
      simp
    by_cases hkm : k = m
    · subst hkm
      obtain rfl : l[k] = om := by simpa [hkl] using hom
      refine ⟨l[k], .pointer (some ⟨p, 0, none⟩), by simp [hkl], by simp [Yv], ?_⟩
      refine lex_of_quiet hom hgu hn hs g hY f (k + 1) _ (by omega) fun W hW => ?_
      have := h W hW
      rw [hd] at this
      simp only [List.getElem_set_self] at this
      have hw : Region.wanted (l[k].made p) (yielded (l.set k (l[k].made p)).toArray a.tmps) = true := by simp [Region.wanted]
      unfold wpQuiet at this
      rw [if_pos hw] at this
      obtain ⟨v, h1, h2⟩ := this
      have h3 := h1 W (Gr.refl _)
      unfold Oper.quietAt at h3
      rw [BigFrame.run_move (.const (.pointer (some ⟨p, 0, none⟩))) rfl] at h3
      obtain ⟨_, rfl⟩ := h3
      exact h2
    · have hge : (l.set m (om.made p))[k]'(by simpa using hkl) = l[k] := by simp [List.getElem_set, Ne.symm hkm]
      rw [hge] at hd
      by_cases hw : Region.wanted l[k] (yielded l.toArray a.tmps) = true
      · have hat : ∀ W, Gr w0 W → ∃ v, (∀ w', Gr W w' → l[k].quietAt P a (Gr W) w' v) ∧ wpQuiet P (l.set m (om.made p)).toArray (Gr W) Y (((l.set m (om.made p)).take h0).drop (k + 1)) (a.put l[k].dst v) := fun W hW => by
          have := h W hW
          rw [hd] at this
          unfold wpQuiet at this
          rw [hyd, if_pos hw] at this
          exact this
        obtain ⟨v, h1, _⟩ := hat _ (Gr.refl _)
        have hv : ∀ W, Gr w0 W → l[k].quietAt P a (Gr W) W v ∧ wpQuiet P (l.set m (om.made p)).toArray (Gr W) Y (((l.set m (om.made p)).take h0).drop (k + 1)) (a.put l[k].dst v) := fun W hW => by
          obtain ⟨v2, h3, h4⟩ := hat W hW
          obtain rfl := quietAt_agree (h1 W hW) (h3 W (Gr.refl _))
          exact ⟨h3 W (Gr.refl _), h4⟩
        refine ⟨l[k], v, by simp [hkl], ?_, lex_of_quiet hom hgu hn hs g hY f (k + 1) _ (by omega) fun W hW => (hv W hW).2⟩
        unfold Yv
        simp only [hkm, hks, if_false]
        exact ⟨l[k], by simp [hkl], .inl ⟨hw, fun W hW => (hv W hW).1⟩⟩
      · have hw' : Region.wanted l[k] (yielded l.toArray a.tmps) = false := by simpa using hw
        refine ⟨l[k], undef, by simp [hkl], ?_, lex_of_quiet hom hgu hn hs g hY f (k + 1) _ (by omega) fun W hW => ?_⟩
        · unfold Yv
          simp only [hkm, hks, if_false]
          exact ⟨l[k], by simp [hkl], .inr ⟨hw', rfl⟩⟩
        · have := h W hW
          rw [hd] at this
          unfold wpQuiet at this
          rw [hyd, if_neg hw] at this
          exact this
theorem later_class (W : World) : (fun w' => ∃ x : Later (Gr W), w' = x.w) = Gr W := funext fun w' => propext ⟨fun ⟨x, hx⟩ => hx ▸ x.ok, fun h => ⟨⟨w', h⟩, rfl⟩⟩
/-- A region that draws its order: its first n operations yield one value in every later world, but that number m makes a new variable; behind them others, in one order. -/
theorem wp_region_later_alloc {P : Program} {id : Nat} {Q : Exit → Act → World → Prop} {a : Act} {w : World} {l : List Oper} (n m : Nat) {om : Oper} {z : Obj} (hom : l[m]? = some om) (hmn : m < n) (hgu : om.guard = none) (haf : om.after = #[])
    (hal : ∀ (a : Act) (W : World), (execOp a.eval om).run P W = .ok (.value (.pointer (some ⟨W.heap.size, 0, none⟩))) (W.alloc z))
    (hP : P.follows .mixedOrders = true) (hB : Region.lexTailB .any l.toArray n = true)
    (h : ∀ p W, Gr w W → w.heap.size ≤ p → wpQuiet P (l.set m (om.made p)).toArray (fun w' => ∃ x : Later (Gr W), w' = x.w) (fun a' => ∀ w', Gr w w' → w'.heap[p]? = some z → wpList P l.toArray Q (l.drop n) a' w') ((l.set m (om.made p)).take n) a) :
    (Code.region id l.toArray true).wp P Q a w := by
  simp only [later_class] at h
  simp only [Region.lexTailB, Bool.and_eq_true, decide_eq_true_eq] at hB
  obtain ⟨⟨⟨⟨hsel, hn⟩, hs⟩, hc⟩, hlex⟩ := hB
  have hn' : n < l.length := by simpa using hn
  have hdl : (l.drop n).length = l.toArray.size - n := by simp
  have inv0 : HeadInv .any l.toArray n (Array.replicate l.toArray.size false) :=
    ⟨by simp, fun j oj _ hl => (by rw [getD_replicate_false] at hl; cases hl), fun t _ ht => getD_in (by simpa using ht) (getD_replicate_false _ _)⟩
  have H : ∀ p, w.heap.size ≤ p → headY .any l.toArray (Yv P l.toArray w m p l.length z z) n (fun listed' a' => Region.seqB .any l.toArray (l.toArray.size - n) n listed' = true ∧ (∀ w', Gr w w' → w'.heap[p]? = some z → wpList P l.toArray Q (l.drop n) a' w')) n (Array.replicate l.toArray.size false) a := fun p hp =>
    headY_lex (yv_comm hsel) hs hc hn n 0 _ a (by omega) inv0 hlex (lex_of_quiet (h0 := n) (s := l.length) (z := z) (z' := z) (Y := fun a' => ∀ w', Gr w w' → w'.heap[p]? = some z → wpList P l.toArray Q (l.drop n) a' w') hom hgu (by omega) (by omega) 0 (fun a h => h) n 0 a (by omega) fun W hW => by simpa using h p W hW hp)
  refine wp_region_any hP ?_
  have := any_of_headY (P := P) (md := .any) (ops := l.toArray) (Q := Q) (g := l.toArray.size - n) (z := z) (z' := z) (s := l.length) (w0 := w) hs hc hn (.inr (by simp)) (by simp; omega) (fun h => by omega) (by omega) hmn (by simpa using hom) hgu haf hal (fun p listed a' W hW hp hz hB hq => by
    have := wpAny_of_seq (md := .any) (Q' := Q) (l.drop n) n listed a' W (fun j => by simp [List.getElem?_drop]) (by rw [hdl]; exact hB) (hq W hW (by simpa using hz))
    rwa [hdl] at this) n _ a w.drew inv0 (Gr.drew' w) (getD_in (by simp; omega) (getD_replicate_false _ _)) H
  rw [show n + (l.toArray.size - n) = l.toArray.size by omega] at this
  exact this
/-- .. its first s operations do, and number s stores into the new variable; behind it others, in one order. -/
theorem wp_region_later_store {P : Program} {id : Nat} {Q : Exit → Act → World → Prop} {a : Act} {w : World} {l : List Oper} (s m : Nat) {om os : Oper} {z : Obj} (z' : Obj) (hom : l[m]? = some om) (hos : l[s]? = some os) (hms : m < s) (hgu : om.guard = none) (haf : om.after = #[])
    (hgs : os.guard = none) (hds : os.dst = none)
    (hal : ∀ (a : Act) (W : World), (execOp a.eval om).run P W = .ok (.value (.pointer (some ⟨W.heap.size, 0, none⟩))) (W.alloc z))
    (hwait : Region.waitsFor .any l.toArray s m = true)
    (hP : P.follows .mixedOrders = true) (hB : Region.lexTailB .any l.toArray (s + 1) = true)
    (h : ∀ p W, Gr w W → w.heap.size ≤ p → wpQuiet P (l.set m (om.made p)).toArray (fun w' => ∃ x : Later (Gr W), w' = x.w) (fun a' => StoreAt P w p z z' os a' ∧ ∀ w', Gr w w' → w'.heap[p]? = some z' → wpList P l.toArray Q (l.drop (s + 1)) a' w') ((l.set m (om.made p)).take s) a) :
    (Code.region id l.toArray true).wp P Q a w := by
  simp only [later_class] at h
  simp only [Region.lexTailB, Bool.and_eq_true, decide_eq_true_eq] at hB
  obtain ⟨⟨⟨⟨hsel, hn⟩, hs⟩, hc⟩, hlex⟩ := hB
  have hn' : s + 1 < l.length := by simpa using hn
  have hdl : (l.drop (s + 1)).length = l.toArray.size - (s + 1) := by simp
  have inv0 : HeadInv .any l.toArray (s + 1) (Array.replicate l.toArray.size false) :=
    ⟨by simp, fun j oj _ hl => (by rw [getD_replicate_false] at hl; cases hl), fun t _ ht => getD_in (by simpa using ht) (getD_replicate_false _ _)⟩
  have H : ∀ p, w.heap.size ≤ p → headY .any l.toArray (Yv P l.toArray w m p s z z') (s + 1) (fun listed' a' => Region.seqB .any l.toArray (l.toArray.size - (s + 1)) (s + 1) listed' = true ∧ (∀ w', Gr w w' → w'.heap[p]? = some z' → wpList P l.toArray Q (l.drop (s + 1)) a' w')) (s + 1) (Array.replicate l.toArray.size false) a := fun p hp =>
    headY_lex (yv_comm hsel) hs hc hn (s + 1) 0 _ a (by omega) inv0 hlex (lex_of_quiet (h0 := s) (s := s) (z := z) (z' := z') (Y := fun a' => StoreAt P w p z z' os a' ∧ ∀ w', Gr w w' → w'.heap[p]? = some z' → wpList P l.toArray Q (l.drop (s + 1)) a' w') hom hgu (by omega) (by omega) 1 (fun a' hh =>
      ⟨os, undef, by simpa using hos, by
        unfold Yv
        rw [if_neg (show s ≠ m by omega), if_pos rfl]
        exact ⟨os, by simpa using hos, hgs, hh.1, rfl⟩, by rw [hds]; exact hh.2⟩) s 0 a (by omega) fun W hW => by simpa using h p W hW hp)
  refine wp_region_any hP ?_
  have := any_of_headY (P := P) (md := .any) (ops := l.toArray) (Q := Q) (g := l.toArray.size - (s + 1)) (z := z) (z' := z') (s := s) (w0 := w) hs hc hn (.inl (by omega)) (by simp; omega) (fun _ => hwait) (by omega) (by omega) (by simpa using hom) hgu haf hal (fun p listed a' W hW hp hz hB hq => by
    have := wpAny_of_seq (md := .any) (Q' := Q) (l.drop (s + 1)) (s + 1) listed a' W (fun j => by simp [List.getElem?_drop]) (by rw [hdl]; exact hB) (hq W hW (by simpa using hz))
    rwa [hdl] at this) (s + 1) _ a w.drew inv0 (Gr.drew' w) (getD_in (by simp; omega) (getD_replicate_false _ _)) H
  rw [show s + 1 + (l.toArray.size - (s + 1)) = l.toArray.size by omega] at this
  exact this
end Go
