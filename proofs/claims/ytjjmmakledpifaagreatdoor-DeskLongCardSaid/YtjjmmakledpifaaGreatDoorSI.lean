/-
  Control: regions in their own order; code; calls; rounds.
-/
import Derived.Test.YtjjmmakledpifaaGreatDoorSH
set_option linter.unusedVariables false
set_option linter.unusedSimpArgs false
namespace Go.Ra
variable {P : Program} {m : Mp} {h : TB} {nx : Nat} {w : World} {nt : Nat} {a : Act} {z : TV} {ft : TF} {ex : Exec}

/-- What a run of code comes to. -/
def Post (P : Program) (s : Start) (nt : Nat) (r : R) : Exit → Act → World → Prop
  | .normal, a, w => ∃ m z h nx, r = .norm z h nx ∧ St P s nt m z h nx a w
  | .exit id, a, w => ∃ m z h nx, r = .exit id z h nx ∧ St P s nt m z h nx a w
  | .ret, a, w => ∃ m z h nx, r = .ret z h nx ∧ St P s nt m z h nx a w
  | _, _, _ => False

theorem St.put {s : Start} (S : St P s nt m z h nx a w) (hn : nt ≤ 4096) {dst : Option Tmp} {d : ADst} (hd : (match dst with | none => some .no | some t => (cT nt t).map .to : Option ADst) = some d) {v : AV} {h' : TB} {nx' : Nat} {v' : Value} {w' : World} (hA : Acted P m h nx w v h' nx' v' w') :
    ∃ m', St P s nt m' (setD d v z) h' nx' (a.put dst v') w' := by
  obtain ⟨m', h1, h2, h3⟩ := hA
  refine ⟨m', ?_, h2, S.F.trans h3, ?_⟩
  · cases dst with
    | none =>
      obtain rfl := Option.some.inj hd
      exact S.T.mono h3.sub
    | some t =>
      obtain ⟨p, hp, rfl⟩ := Option.map_eq_some_iff.1 hd
      obtain ⟨ht, rfl⟩ := cT_some hp
      exact (S.T.mono h3.sub).put hn ht h1
  · cases dst with
    | none => exact S.K.step h3
    | some t => exact S.K.step h3

theorem cOper_parts {ops : Array Oper} {o : Oper} {ao : AOper} (hc : cOper P nt ops o = some ao) : cDst nt o = some ao.dst ∧ cGuard nt ops o = some ao.guard ∧ ao.aop = (cOp P nt o).getD deadOp := by
  simp only [cOper, Option.bind_eq_bind, Option.bind_eq_some_iff, Option.some.injEq] at hc
  obtain ⟨d, hd, g, hg, rfl⟩ := hc
  obtain ⟨h1, h2, h3⟩ := mkOper_parts g d ((cOp P nt o).getD deadOp)
  rw [h1, h2, h3]
  exact ⟨hd, hg, rfl⟩

/-- One operation of a region. -/
theorem oper_sound (hcal : CallsTo P ft ex) (hrnd : RoundsTo P ex) {s : Start} (S : St P s nt m z h nx a w) (hn : nt ≤ 4096) {ops : Array Oper} {o : Oper} {ao : AOper} (hc : cOper P nt ops o = some ao) {z' : TV} {h' : TB} {nx' : Nat} (hr : OperR ft ex ao z h nx z' h' nx')
    (ro : Option Nat) {next : Act → World → Prop} {Q : Exit → Act → World → Prop} (hnext : ∀ m' a' w', St P s nt m' z' h' nx' a' w' → next a' w') :
    if Region.wanted o (yielded ops a.tmps) then o.wpIn (fnc ro) 0 P a w next Q else (∀ f, o.about P w a.eval = some f → (fnc ro).fn f) ∧ next (a.put o.dst undef) w := by
  obtain ⟨hd, hg, hop⟩ := cOper_parts hc
  have hwant : ∀ b, wantA ao.guard z = some b → Region.wanted o (yielded ops a.tmps) = b := fun b hb => wantA_wanted hg (fun p _ t ht hp => by
    subst hp
    have := S.T.1
    exact ⟨by omega, S.T.2 t ht⟩) hb
  cases hr with
  | run v _ _ hw hv =>
    rw [hwant true hw, if_pos rfl]
    rw [hop] at hv
    cases hco : cOp P nt o with
    | none => rw [hco] at hv; exact absurd hv dead_none
    | some q =>
      rw [hco] at hv
      refine op_sound hcal hrnd S.I hco (fun y hy x hx => cO_all S.I.glob S.T hx) hv ro fun v' w' hA => ?_
      obtain ⟨m', S'⟩ := S.put hn hd hA
      exact hnext m' _ _ S'
  | skip hw =>
    rw [hwant false hw, if_neg (by simp)]
    refine ⟨fun _ _ => trivial, ?_⟩
    obtain ⟨m', S'⟩ := S.put hn hd (v := .tuple .nl) (v' := undef) ⟨m, unit_rel, S.I, Fr.refl _ _ _ _⟩
    exact hnext m' _ _ S'

theorem region_sound (hcal : CallsTo P ft ex) (hrnd : RoundsTo P ex) {s : Start} (hn : nt ≤ 4096) {ops : Array Oper} (ro : Option Nat) {r : R} (hr : r ≠ .fail) :
    ∀ (l l' : List Oper) (i : Nat) (al : ARg) (m : Mp) (z : TV) (h : TB) (nx : Nat) (a : Act) (w : World), ops.toList.drop i = l ++ l' → cRg P nt ops l = some al → regA al ft ex z h nx = r → St P s nt m z h nx a w →
      wpOpsIn (fnc ro) 0 P ops (Post P s nt r) (List.range' i l.length) a w := by
  intro l
  induction l with
  | nil =>
    intro l' i al m z h nx a w hdrop hc hk S
    obtain rfl := Option.some.inj (show some ARg.nil = some al from hc)
    exact ⟨m, z, h, nx, hk.symm, S⟩
  | cons o l ih =>
    intro l' i al m z h nx a w hdrop hc hk S
    simp only [cRg, Option.bind_eq_bind, Option.bind_eq_some_iff, Option.some.injEq] at hc
    obtain ⟨ao, hao, al, hal, rfl⟩ := hc
    obtain ⟨z', h', nx', h1, h2⟩ := operA_inv (show operA ao ft ex z h nx (tick (regA al) ft ex) = r from hk) hr
    have hi : ops[i]? = some o := by
      rw [← Array.getElem?_toList, ← List.head?_drop, hdrop]; rfl
    rw [List.length_cons, List.range'_succ]
    simp only [wpOpsIn, hi]
    have hd1 : ops.toList.drop (i + 1) = l ++ l' := by rw [← List.drop_drop, hdrop]; rfl
    exact oper_sound hcal hrnd S hn hao h1 ro fun m' a' w' S' => ih l' (i + 1) al m' z' h' nx' a' w' hd1 hal h2 S'
end Go.Ra
namespace Go.Ra
variable {P : Program} {m : Mp} {h : TB} {nx : Nat} {w : World} {nt : Nat} {a : Act} {z : TV} {ft : TF} {ex : Exec}

def resOne (tmps : Array Value) (r : ResultVar) : Sem Value :=
  match r with
  | .tmp t => pure (tmps.getD t undef)
  | .cell a t => do loadVar t (← asAddr (tmps.getD a undef))
theorem load_as {t : TypeId} {x : Value} {v : Value} (h : (Instr.loadAt t x).run P w = .ok v w) : (do loadVar t (← asAddr x) : Sem Value).run P w = .ok v w := by
  cases x with
  | pointer p =>
    cases p with
    | some a => exact h
    | none => cases h
  | _ => cases h
theorem resOne_run (I : Inv P m h nx w) {tmps : Array Value} (hT : TRel m nt z tmps) {r : ResultVar} {x : ARes} (hr : cRes P nt r = some x) {l : List ARes} {c : AV} (hc : resA (x :: l) z h = some c) :
    ∃ v v' c', c = .cs v c' ∧ resA l z h = some c' ∧ (resOne tmps r).run P w = .ok v' w ∧ VRel m v v' := by
  cases r with
  | tmp t =>
    obtain ⟨p, hp, rfl⟩ := Option.map_eq_some_iff.1 (show (cT nt t).map ARes.tmp = some x from hr)
    obtain ⟨ht, rfl⟩ := cT_some hp
    obtain ⟨c', h1, rfl⟩ := Option.map_eq_some_iff.1 (show (resA l z h).map (AV.cs (TV.get (pth (lev nt) t) z)) = some c from hc)
    exact ⟨_, _, c', rfl, h1, rfl, hT.2 t ht⟩
  | cell t ty =>
    simp only [cRes, Option.bind_eq_bind, Option.bind_eq_some_iff, Option.some.injEq] at hr
    obtain ⟨⟨n, agg⟩, hty, p, hp, rfl⟩ := hr
    obtain ⟨ht, rfl⟩ := cT_some hp
    have hx := hT.2 t ht
    cases agg with
    | true =>
      simp only [if_true, resA] at hc
      split at hc
      · rename_i v hv
        obtain ⟨c', h1, rfl⟩ := Option.map_eq_some_iff.1 hc
        obtain ⟨v', r1, r2⟩ := ldn_run (t := ty) I hty (x := TV.get (pth (lev nt) t) z) hx hv
        exact ⟨v, v', c', rfl, h1, load_as r1, r2⟩
      · cases hc
    | false =>
      obtain ⟨_, _, t3⟩ := tyOf_some hty
      have hn1 := t3 rfl
      subst hn1
      simp only [Bool.false_eq_true, if_false, resA] at hc
      split at hc
      · rename_i v hv
        obtain ⟨c', h1, rfl⟩ := Option.map_eq_some_iff.1 hc
        obtain ⟨v', r1, r2⟩ := ld1_run (t := ty) I hty (x := TV.get (pth (lev nt) t) z) hx hv
        exact ⟨v, v', c', rfl, h1, load_as r1, r2⟩
      · cases hc
theorem resL_run (I : Inv P m h nx w) {tmps : Array Value} (hT : TRel m nt z tmps) : ∀ (l : List ResultVar) (al : List ARes) (c : AV), l.mapM (cRes P nt) = some al → resA al z h = some c → ∃ vs : List Value, (l.mapM (resOne tmps)).run P w = .ok vs w ∧ VRels m c vs := by
  intro l
  induction l with
  | nil =>
    intro al c hl hc
    obtain rfl : [] = al := by simpa using hl
    obtain rfl := Option.some.inj (show some AV.nl = some c from hc)
    exact ⟨[], rfl, .nil⟩
  | cons r l ih =>
    intro al c hl hc
    rw [List.mapM_cons] at hl
    simp only [Option.bind_eq_bind, Option.bind_eq_some_iff, Option.pure_def, Option.some.injEq] at hl
    obtain ⟨x, hx, al, hal, rfl⟩ := hl
    obtain ⟨v, v', c', rfl, h1, h2, h3⟩ := resOne_run I hT hx hc
    obtain ⟨vs, h4, h5⟩ := ih al c' hal h1
    refine ⟨v' :: vs, ?_, .cons _ _ _ _ h3 h5⟩
    rw [List.mapM_cons]
    simp only [Sem.run_bind, h2, Result.andThen_ok, h4, Sem.run_pure]
theorem results_run (I : Inv P m h nx w) {tmps : Array Value} (hT : TRel m nt z tmps) {fn : Func} {al : List ARes} (hl : fn.results.toList.mapM (cRes P nt) = some al) {c : AV} (hc : resA al z h = some c) :
    ∃ v', (results fn tmps).run P w = .ok v' w ∧ VRel m (resV c) v' := by
  obtain ⟨vs, h1, h2⟩ := resL_run I hT _ al c hl hc
  have e : results fn tmps = (do
      let vs ← fn.results.mapM (resOne tmps)
      pure (if h : vs.size = 1 then vs[0] else .tuple vs)) := by
    unfold results
    congr 1
  rw [e, Array.mapM_eq_mapM_toList]
  simp only [map_eq_pure_bind, bind_assoc, pure_bind, Sem.run_bind, h1, Result.andThen_ok, Sem.run_pure]
  cases h2 with
  | nil => exact ⟨_, rfl, .tuple _ _ .nil⟩
  | cons v l v' vs hv ht =>
    cases ht with
    | nil => exact ⟨_, rfl, hv⟩
    | cons v2 l2 v2' vs2 hv2 ht2 =>
      refine ⟨_, rfl, ?_⟩
      rw [dif_neg (by simp)]
      exact .tuple _ _ (.cons _ _ _ _ hv (.cons _ _ _ _ hv2 ht2))
end Go.Ra
