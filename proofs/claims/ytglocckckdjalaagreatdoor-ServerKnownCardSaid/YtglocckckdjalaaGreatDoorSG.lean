/-
  Control: what an operation of the abstract machine comes to; calls.
-/
import Derived.RangeFuncNested
import Derived.Scope
import Derived.Test.YtglocckckdjalaaGreatDoorSF
set_option linter.unusedVariables false
set_option linter.unusedSimpArgs false
namespace Go.Ra
variable {P : Program} {m : Mp} {h : TB} {nx : Nat} {w : World} {nt : Nat} {a : Act} {z : TV} {ft : TF} {ex : Exec}

/-- What one operation comes to. -/
inductive OpR (ft : TF) (ex : Exec) (o : AOp) (z : TV) (h : TB) (nx : Nat) : AV → TB → Nat → Prop
  | pure (v : AV) : pev o z h = some v → OpR ft ex o z h nx v h nx
  | make (v : AV) (b : AB) : nx ≤ 32767 → fev o z (bid nx) = some (v, b) → OpR ft ex o z h nx v (TB.set (bid nx) b h) (Nat.succ nx)
  | act (v : AV) (h' : TB) (nx' : Nat) : eev o z h nx = .ok v h' nx' → OpR ft ex o z h nx v h' nx'
  | callf (f : Pth) (l : AOs) (v : AV) (h' : TB) (nx' : Nat) : o = .callf f l → callA ft ex f (l.ev z) h nx = .ok v h' nx' → OpR ft ex o z h nx v h' nx'
  | callv (x : AO) (l : AOs) (v : AV) (h' : TB) (nx' : Nat) : o = .callv x l → callV ft ex (x.ev z) (l.ev z) h nx = .ok v h' nx' → OpR ft ex o z h nx v h' nx'

theorem goC_inv {c : CR} {k : Kont} {r : R} (hk : goC c k = r) (hr : r ≠ .fail) : ∃ v h' nx', c = .ok v h' nx' ∧ k v h' nx' = r := by
  cases c with
  | fail => exact absurd hk.symm hr
  | ok v h' nx' => exact ⟨v, h', nx', rfl, hk⟩
theorem runP_inv {v : OA} {k : Kont} {r : R} (hk : runP v h nx k = r) (hr : r ≠ .fail) : ∃ u, v = some u ∧ k u h nx = r := by
  cases v with
  | none => exact absurd hk.symm hr
  | some u => exact ⟨u, rfl, hk⟩
theorem opP_inv {o : AOp} {v : OA} (hp : pev o z h = v) {k : Kont} {r : R} (hk : runP v h nx k = r) (hr : r ≠ .fail) : ∃ v h' nx', OpR ft ex o z h nx v h' nx' ∧ k v h' nx' = r := by
  obtain ⟨u, rfl, h1⟩ := runP_inv hk hr
  exact ⟨u, h, nx, .pure u hp, h1⟩
theorem opF_inv {o : AOp} {f : TV → Pth → Option (AV × AB)} (hp : fev o z (bid nx) = f z (bid nx)) {k : Kont} {r : R} (hk : liftF f ft ex z h nx k = r) (hr : r ≠ .fail) : ∃ v h' nx', OpR ft ex o z h nx v h' nx' ∧ k v h' nx' = r := by
  unfold liftF at hk
  cases hn : Nat.ble nx 32767 with
  | false => rw [hn] at hk; exact absurd hk.symm hr
  | true =>
    rw [hn] at hk
    cases hf : f z (bid nx) with
    | none => rw [hf] at hk; exact absurd hk.symm hr
    | some q =>
      rw [hf] at hk
      exact ⟨q.1, _, _, .make q.1 q.2 (nble_iff.1 hn) (by rw [hp, hf]), hk⟩
theorem opE_inv {o : AOp} {c : CR} (hp : eev o z h nx = c) {k : Kont} {r : R} (hk : goC c k = r) (hr : r ≠ .fail) : ∃ v h' nx', OpR ft ex o z h nx v h' nx' ∧ k v h' nx' = r := by
  obtain ⟨v, h', nx', rfl, h1⟩ := goC_inv hk hr
  exact ⟨v, h', nx', .act v h' nx' hp, h1⟩
theorem opA_inv {o : AOp} {k : Kont} {r : R} (hk : opA o ft ex z h nx k = r) (hr : r ≠ .fail) : ∃ v h' nx', OpR ft ex o z h nx v h' nx' ∧ k v h' nx' = r := by
  cases o with
  | mv x => exact ⟨_, _, _, .pure _ rfl, hk⟩
  | mkif t x => exact ⟨_, _, _, .pure _ rfl, hk⟩
  | mkfunc f x y => exact ⟨_, _, _, .pure _ rfl, hk⟩
  | lenc n => exact ⟨_, _, _, .pure _ rfl, hk⟩
  | alloc e n t => exact opF_inv (f := fun _ id => some (.ptr id 0, .cells 1 e 0 n t)) rfl hk hr
  | mkmap => exact opF_inv (f := fun _ id => some (.map id, .map .nil 0)) rfl hk hr
  | box | bslice | s2b | mkslice | rng => exact opF_inv rfl hk hr
  | st | mapupd | del | next | append | appz | copy | clear | ustr => exact opE_inv rfl hk hr
  | callf f l =>
    obtain ⟨v, h', nx', h1, h2⟩ := goC_inv hk hr
    exact ⟨v, h', nx', .callf f l v h' nx' rfl h1, h2⟩
  | callv x l =>
    obtain ⟨v, h', nx', h1, h2⟩ := goC_inv hk hr
    exact ⟨v, h', nx', .callv x l v h' nx' rfl h1, h2⟩
  | _ => exact opP_inv rfl hk hr

/-- What one guarded operation comes to. -/
inductive OperR (ft : TF) (ex : Exec) (o : AOper) (z : TV) (h : TB) (nx : Nat) : TV → TB → Nat → Prop
  | run (v : AV) (h' : TB) (nx' : Nat) : wantA o.guard z = some true → OpR ft ex o.aop z h nx v h' nx' → OperR ft ex o z h nx (setD o.dst v z) h' nx'
  | skip : wantA o.guard z = some false → OperR ft ex o z h nx (setD o.dst (.tuple .nl) z) h nx
theorem operA_inv {o : AOper} {k : TV → TB → Nat → R} {r : R} (hk : operA o ft ex z h nx k = r) (hr : r ≠ .fail) : ∃ z' h' nx', OperR ft ex o z h nx z' h' nx' ∧ k z' h' nx' = r := by
  cases o with
  | mv d x => exact ⟨_, _, _, .run (x.ev z) h nx rfl (.pure _ rfl), hk⟩
  | op d o =>
    obtain ⟨v, h', nx', h1, h2⟩ := opA_inv (show opA o ft ex z h nx (fun v h nx => k (TV.set d v z) h nx) = r from hk) hr
    exact ⟨_, _, _, .run v h' nx' rfl h1, h2⟩
  | mk g d o =>
    cases g with
    | no =>
      obtain ⟨v, h', nx', h1, h2⟩ := opA_inv (show opA o ft ex z h nx (fun v h nx => k (setD d v z) h nx) = r from hk) hr
      exact ⟨_, _, _, .run v h' nx' rfl h1, h2⟩
    | yes t b =>
      have hk' : wanted (wantA (.yes t b) z) d o ft ex z h nx k = r := hk
      cases hw : wantA (.yes t b) z with
      | none => rw [hw] at hk'; exact absurd hk'.symm hr
      | some q =>
        rw [hw] at hk'
        cases q with
        | false => exact ⟨_, _, _, .skip hw, hk'⟩
        | true =>
          obtain ⟨v, h', nx', h1, h2⟩ := opA_inv (show opA o ft ex z h nx (fun v h nx => k (setD d v z) h nx) = r from hk') hr
          exact ⟨_, _, _, .run v h' nx' hw h1, h2⟩

theorem mkOper_parts (g : AG) (d : ADst) (o : AOp) : (mkOper g d o).guard = g ∧ (mkOper g d o).dst = d ∧ (mkOper g d o).aop = o := by
  cases g <;> cases d <;> cases o <;> exact ⟨rfl, rfl, rfl⟩
theorem dead_none {v : AV} {h' : TB} {nx' : Nat} : ¬ OpR ft ex deadOp z h nx v h' nx' := by
  intro hd
  cases hd with
  | pure => rename_i hp; cases (show (none : OA) = _ from hp)
  | make => rename_i hp; cases (show (none : Option (AV × AB)) = _ from hp)
  | act => rename_i hp; cases (show CR.fail = _ from hp)
  | callf => rename_i ho _; cases ho
  | callv => rename_i ho _; cases ho

/-! ### What the abstract machine's state stands for, in a function that runs -/
/-- The marks of loops over functions among an activation's deferred calls: blocks behind the activation's start that nobody has a name for. -/
def Marks0 (base : Nat) (m : Mp) (w : World) (ds : List Deferred) : Prop :=
  (∀ d ∈ ds, ∃ D, d.target = .collected D ∧ base ≤ D ∧ w.heap[D]? = some (.deferred (some [])) ∧ ∀ id e, m id = some e → e.blk ≠ D) ∧ (ds.map fun d => d.target).Nodup
/-- .. ahead of calls that were deferred in the first place (ds0). -/
def Marks (base : Nat) (m : Mp) (w : World) (ds0 ds : List Deferred) : Prop := ∃ l, ds = l ++ ds0 ∧ Marks0 base m w l
theorem Marks.none {base : Nat} {m : Mp} {w : World} {ds0 : List Deferred} : Marks base m w ds0 ds0 := ⟨[], rfl, fun d hd => (by cases hd), by simp⟩
/-- Where an activation began. -/
structure Start where
  m : Mp
  h : TB
  nx : Nat
  w : World
  ds : List Deferred
structure St (P : Program) (s : Start) (nt : Nat) (m : Mp) (z : TV) (h : TB) (nx : Nat) (a : Act) (w : World) : Prop where
  T : TRel m nt z a.tmps
  I : Inv P m h nx w
  F : Fr s.m s.h s.nx s.w m h nx w
  K : Marks s.w.heap.size m w s.ds a.defers

theorem Marks0.step {base : Nat} {ds : List Deferred} (hk : Marks0 base m w ds) {m' : Mp} {h' : TB} {nx' : Nat} {w' : World} (hF : Fr m h nx w m' h' nx' w') : Marks0 base m' w' ds := by
  refine ⟨fun d hd => ?_, hk.2⟩
  obtain ⟨D, h1, h2, h3, h4⟩ := hk.1 d hd
  have hlt := (Array.getElem?_eq_some_iff.1 h3).1
  refine ⟨D, h1, h2, ?_, fun id e he hb => ?_⟩
  · rw [hF.keep D hlt fun id e he hb => absurd hb (h4 id e he), h3]
  · cases hm : m id with
    | some e0 =>
      have := hF.sub _ _ hm
      rw [this] at he; cases he
      exact h4 id _ hm hb
    | none =>
      rcases hF.fresh id e he hm with hx | ⟨id0, e0, k1, k2, k3⟩
      · omega
      · exact h4 id0 e0 k1 (k2.trans hb)

theorem Marks.step {base : Nat} {ds0 ds : List Deferred} (hk : Marks base m w ds0 ds) {m' : Mp} {h' : TB} {nx' : Nat} {w' : World} (hF : Fr m h nx w m' h' nx' w') : Marks base m' w' ds0 ds := by
  obtain ⟨l, rfl, hl⟩ := hk
  exact ⟨l, rfl, hl.step hF⟩

/-- A slot is written. -/
theorem cT_some {t : Nat} {p : Pth} (hp : cT nt t = some p) : t < nt ∧ p = pth (lev nt) t := by
  rw [cT_eq] at hp
  split at hp
  · rename_i hlt; exact ⟨hlt, (Option.some.inj hp).symm⟩
  · cases hp

/-! Laws of control that the kit lacks -/
section laws
variable {F : Fence} {Q : Exit → Act → World → Prop}
theorem wpIn_scope_through {n : Nat} {c : Code} (h : c.wpIn F n P (Exit.noGoto Q) a w) : (Code.scope c).wpIn F n P Q a w := by
  intro b k cs hro hb hr
  have s1 : StepsIn (Machine.fenced P F) P (lone (b.atR a (.code (.scope c) :: k)) cs w) (lone (b.atR a (.code c :: .inScope c :: k)) cs w) :=
    .one (fenced_calm hb hr rfl) (step_lone_go (by simp [stepG, stepG.exec, Frame.atR]))
  obtain ⟨e, a₁, w₁, hq, harr⟩ := h b (.inScope c :: k) cs hro hb hr
  cases e with
  | normal => exact ⟨.normal, a₁, w₁, hq, s1.trans (StepsIn.trans harr (.one (fenced_calm hb hr rfl) (step_lone_go (by simp [stepG, stepG.exec, Frame.atR]))))⟩
  | exit id => exact ⟨.exit id, a₁, w₁, hq, fun k' hk => s1.trans (harr.1 k' (by simpa [exitTo] using hk)), fun hr' hk => let ⟨k₁, h1, h2⟩ := harr.2 hr' (by simpa [exitTo] using hk); ⟨k₁, h1, s1.trans h2⟩⟩
  | goto l => exact hq.elim
  | ret => exact ⟨_, a₁, w₁, hq, .of_steps s1 harr⟩
  | panic ch => exact ⟨_, a₁, w₁, hq, .of_steps s1 harr⟩
  | outgrown => exact ⟨_, a₁, w₁, hq, .of_steps s1 harr⟩
/-- A loop's body, walked within its loop. -/
def LoopIn (F : Fence) (n : Nat) (P : Program) (c : Code) (Q : Exit → Act → World → Prop) (a : Act) (w : World) : Prop :=
  ∀ (b : Frame) (k : List Item) (cs : List Frame), b.roundOf = F.round → F.fn b.fn → F.room (cs.length + 1 + n) →
    ∃ e a' w', Q e a' w' ∧ ArrivesIn (Machine.fenced P F) P (lone (b.atR a (.code c :: .inLoop c :: k)) cs w) b k cs e a' w'
theorem LoopIn.wp {n : Nat} {c : Code} (h : LoopIn F n P c Q a w) : (Code.loop c).wpIn F n P Q a w := by
  intro b k cs hro hb hr
  obtain ⟨e, a', w', hq, harr⟩ := h b k cs hro hb hr
  exact ⟨e, a', w', hq, .of_steps (.one (fenced_calm hb hr rfl) stepR_loop) harr⟩
theorem LoopIn.step {n : Nat} {c : Code} (h : c.wpIn F n P (Exit.then (LoopIn F n P c Q) Q) a w) : LoopIn F n P c Q a w := by
  intro b k cs hro hb hr
  obtain ⟨e, a₁, w₁, hq, harr⟩ := h b (.inLoop c :: k) cs hro hb hr
  cases e with
  | normal =>
    obtain ⟨e₂, a₂, w₂, hq₂, harr₂⟩ := hq b k cs hro hb hr
    exact ⟨e₂, a₂, w₂, hq₂, .of_steps (StepsIn.trans harr (.one (fenced_calm hb hr rfl) stepR_inLoop)) harr₂⟩
  | exit id => exact ⟨_, a₁, w₁, hq, .pass (x := .inLoop c) rfl (fun _ _ => .inl (by simp)) harr⟩
  | goto l => exact ⟨_, a₁, w₁, hq, .pass (x := .inLoop c) rfl (fun _ _ => .inl (by simp)) harr⟩
  | ret => exact ⟨_, a₁, w₁, hq, .pass (x := .inLoop c) rfl (fun _ _ => .inl (by simp)) harr⟩
  | panic ch => exact ⟨_, a₁, w₁, hq, .pass (x := .inLoop c) rfl (fun _ _ => .inl (by simp)) harr⟩
  | outgrown => exact ⟨_, a₁, w₁, hq, .pass (x := .inLoop c) rfl (fun _ _ => .inl (by simp)) harr⟩
end laws

/-! Slots -/
theorem lev_le {n : Nat} (hn : n ≤ 4096) : n ≤ 8 ^ lev n := by
  unfold lev
  split
  · omega
  · split
    · omega
    · split <;> omega
theorem TRel.put {z : TV} {tmps : Array Value} (hT : TRel m nt z tmps) (hn : nt ≤ 4096) {t : Nat} (ht : t < nt) {v : AV} {v' : Value} (hv : VRel m v v') : TRel m nt (TV.set (pth (lev nt) t) v z) (tmps.setIfInBounds t v') := by
  have hle := lev_le hn
  refine ⟨by simpa using hT.1, fun i hi => ?_⟩
  rw [TV.get_set (by rw [plen_pth, plen_pth])]
  by_cases hit : pth (lev nt) i = pth (lev nt) t
  · have := pth_inj (by omega) (by omega) hit
    subst this
    rw [if_pos rfl]
    have h1 := hT.1
    simp only [Array.getD_eq_getD_getElem?]
    rw [Array.getElem?_setIfInBounds_self_of_lt (by omega)]
    exact hv
  · rw [if_neg hit]
    have hne : t ≠ i := fun e => hit (by rw [e])
    simp only [Array.getD_eq_getD_getElem?]
    rw [Array.getElem?_setIfInBounds_ne hne]
    have := hT.2 i hi
    simpa only [Array.getD_eq_getD_getElem?] using this
/-- An operand, by the slots and the globals. -/
theorem cO_rel (hg : ∀ g, g < 8 → ∃ e, m (bid g) = some e ∧ e.blk = g ∧ e.delta = 0 ∧ e.ro = true) {y : Operand} {x : AO} (hx : cO nt y = some x) (hT : ∀ t, y = .tmp t → VRel m (TV.get (pth (lev nt) t) z) (a.tmps.getD t undef)) : VRel m (x.ev z) (a.eval y) := by
  cases y with
  | tmp t =>
    obtain ⟨p, hp, rfl⟩ := Option.map_eq_some_iff.1 (show (cT nt t).map .t = some x from hx)
    obtain ⟨ht, rfl⟩ := cT_some hp
    exact hT t rfl
  | const v =>
    obtain ⟨p, hp, rfl⟩ := Option.map_eq_some_iff.1 (show (absV v).map .c = some x from hx)
    exact absV_rel m v p hp
  | global g =>
    simp only [cO] at hx
    split at hx
    · rename_i hlt
      obtain rfl := Option.some.inj hx
      obtain ⟨e, h1, h2, h3, _⟩ := hg g hlt
      have := VRel.ptr (m := m) (bid g) 0 e h1 (by omega)
      rw [h2, Nat.zero_sub] at this
      exact this
    · cases hx
  | func f =>
    simp only [cO] at hx
    split at hx
    · rename_i hlt
      obtain rfl := Option.some.inj hx
      exact .func f .nl .nl [] [] hlt .nil .nil
    · cases hx
theorem cO_all (hg : ∀ g, g < 8 → ∃ e, m (bid g) = some e ∧ e.blk = g ∧ e.delta = 0 ∧ e.ro = true) (hT : TRel m nt z a.tmps) {y : Operand} {x : AO} (hx : cO nt y = some x) : VRel m (x.ev z) (a.eval y) :=
  cO_rel hg hx fun t ht => by
    subst ht
    obtain ⟨p, hp, rfl⟩ := Option.map_eq_some_iff.1 (show (cT nt t).map .t = some x from hx)
    exact hT.2 t (cT_some hp).1

theorem wantA_wanted {ops : Array Oper} {o : Oper} {g : AG} (hg : cGuard nt ops o = some g) (hT : ∀ p, p ∈ g.path → ∀ t, t < nt → p = pth (lev nt) t → t < a.tmps.size ∧ VRel m (TV.get p z) (a.tmps.getD t undef)) {b : Bool} (hw : wantA g z = some b) : Region.wanted o (yielded ops a.tmps) = b := by
  unfold Region.wanted
  unfold cGuard at hg
  cases ho : o.guard with
  | none =>
    rw [ho] at hg
    obtain rfl := Option.some.inj hg
    obtain rfl := Option.some.inj hw
    rfl
  | some jw =>
    obtain ⟨j, want⟩ := jw
    rw [ho] at hg
    simp only [Option.bind_eq_bind, Option.bind_eq_some_iff] at hg
    obtain ⟨t, ht, hg⟩ := hg
    obtain ⟨p, hp, rfl⟩ := Option.map_eq_some_iff.1 hg
    obtain ⟨hlt, rfl⟩ := cT_some hp
    obtain ⟨hsz, hrel⟩ := hT _ (by simp [AG.path]) t hlt rfl
    have hd : (ops[j]?).bind (·.dst) = some t := by
      simpa [Option.bind_eq_some_iff] using ht
    have hget : a.tmps[t]? = some (a.tmps.getD t undef) := by
      rw [Array.getD_eq_getD_getElem?, Array.getElem?_eq_getElem hsz]; rfl
    simp only [yielded, hd, Option.bind_some, hget]
    replace hw : (match TV.get (pth (lev nt) t) z with | .bool b => some (b == want) | .tuple _ => some false | _ => none) = some b := hw
    generalize TV.get (pth (lev nt) t) z = gv at hrel hw
    generalize a.tmps.getD t undef = u at hrel
    cases gv <;> simp only [reduceCtorEq] at hw
    · cases hrel
      obtain rfl := Option.some.inj hw
      simp
    · cases hrel
      obtain rfl := Option.some.inj hw
      rfl
end Go.Ra
