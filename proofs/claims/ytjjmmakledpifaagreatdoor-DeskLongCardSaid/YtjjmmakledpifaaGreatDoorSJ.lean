/-
  Control: how functions end; calls.
-/
import Derived.Test.YtjjmmakledpifaaGreatDoorSI
set_option linter.unusedVariables false
set_option linter.unusedSimpArgs false
namespace Go.Ra
variable {P : Program} {m : Mp} {h : TB} {nx : Nat} {w : World} {nt : Nat} {a : Act} {z : TV} {ft : TF} {ex : Exec}

def resOne (tmps : Array Value) (r : ResultVar) : Sem Value :=
  match r with
  | .tmp t => pure (tmps.getD t undef)
  | .cell a t => do loadVar t (← asAddr (tmps.getD a undef))
theorem load_as {t : TypeId} {x : Value} {v : Value} (h : (Instr.loadAt t x).run P w = .ok v w) : (do loadVar t (← asAddr x) : Sem Value).run P w = .ok v w := by
  cases x with
  | pointer p =>
    cases p with
    | some a => exact h
    | none => cases h
  | _ => cases h
theorem resOne_run (I : Inv P m h nx w) {tmps : Array Value} (hT : TRel m nt z tmps) {r : ResultVar} {x : ARes} (hr : cRes P nt r = some x) {l : List ARes} {c : AV} (hc : resA (x :: l) z h = some c) :
    ∃ v v' c', c = .cs v c' ∧ resA l z h = some c' ∧ (resOne tmps r).run P w = .ok v' w ∧ VRel m v v' := by
  cases r with
  | tmp t =>
    obtain ⟨p, hp, rfl⟩ := Option.map_eq_some_iff.1 (show (cT nt t).map ARes.tmp = some x from hr)
    obtain ⟨ht, rfl⟩ := cT_some hp
    obtain ⟨c', h1, rfl⟩ := Option.map_eq_some_iff.1 (show (resA l z h).map (AV.cs (TV.get (pth (lev nt) t) z)) = some c from hc)
    exact ⟨_, _, c', rfl, h1, rfl, hT.2 t ht⟩
  | cell t ty =>
    simp only [cRes, Option.bind_eq_bind, Option.bind_eq_some_iff, Option.some.injEq] at hr
    obtain ⟨⟨n, agg⟩, hty, p, hp, rfl⟩ := hr
    obtain ⟨ht, rfl⟩ := cT_some hp
    have hx := hT.2 t ht
    cases agg with
    | true =>
      simp only [if_true, resA] at hc
      split at hc
      · rename_i v hv
        obtain ⟨c', h1, rfl⟩ := Option.map_eq_some_iff.1 hc
        obtain ⟨v', r1, r2⟩ := ldn_run (t := ty) I hty (x := TV.get (pth (lev nt) t) z) hx hv
        exact ⟨v, v', c', rfl, h1, load_as r1, r2⟩
      · cases hc
    | false =>
      obtain ⟨_, _, t3⟩ := tyOf_some hty
      have hn1 := t3 rfl
      subst hn1
      simp only [Bool.false_eq_true, if_false, resA] at hc
      split at hc
      · rename_i v hv
        obtain ⟨c', h1, rfl⟩ := Option.map_eq_some_iff.1 hc
        obtain ⟨v', r1, r2⟩ := ld1_run (t := ty) I hty (x := TV.get (pth (lev nt) t) z) hx hv
        exact ⟨v, v', c', rfl, h1, load_as r1, r2⟩
      · cases hc
theorem resL_run (I : Inv P m h nx w) {tmps : Array Value} (hT : TRel m nt z tmps) : ∀ (l : List ResultVar) (al : List ARes) (c : AV), l.mapM (cRes P nt) = some al → resA al z h = some c → ∃ vs : List Value, (l.mapM (resOne tmps)).run P w = .ok vs w ∧ VRels m c vs := by
  intro l
  induction l with
  | nil =>
    intro al c hl hc
    obtain rfl : [] = al := by simpa using hl
    obtain rfl := Option.some.inj (show some AV.nl = some c from hc)
    exact ⟨[], rfl, .nil⟩
  | cons r l ih =>
    intro al c hl hc
    rw [List.mapM_cons] at hl
    simp only [Option.bind_eq_bind, Option.bind_eq_some_iff, Option.pure_def, Option.some.injEq] at hl
    obtain ⟨x, hx, al, hal, rfl⟩ := hl
    obtain ⟨v, v', c', rfl, h1, h2, h3⟩ := resOne_run I hT hx hc
    obtain ⟨vs, h4, h5⟩ := ih al c' hal h1
    refine ⟨v' :: vs, ?_, .cons _ _ _ _ h3 h5⟩
    rw [List.mapM_cons]
    simp only [Sem.run_bind, h2, Result.andThen_ok, h4, Sem.run_pure]
theorem results_run (I : Inv P m h nx w) {tmps : Array Value} (hT : TRel m nt z tmps) {fn : Func} {al : List ARes} (hl : fn.results.toList.mapM (cRes P nt) = some al) {c : AV} (hc : resA al z h = some c) :
    ∃ v', (results fn tmps).run P w = .ok v' w ∧ VRel m (resV c) v' := by
  obtain ⟨vs, h1, h2⟩ := resL_run I hT _ al c hl hc
  have e : results fn tmps = (do
      let vs ← fn.results.mapM (resOne tmps)
      pure (if h : vs.size = 1 then vs[0] else .tuple vs)) := by
    unfold results
    congr 1
  rw [e, Array.mapM_eq_mapM_toList]
  simp only [map_eq_pure_bind, bind_assoc, pure_bind, Sem.run_bind, h1, Result.andThen_ok, Sem.run_pure]
  cases h2 with
  | nil => exact ⟨_, rfl, .tuple _ _ .nil⟩
  | cons v l v' vs hv ht =>
    cases ht with
    | nil => exact ⟨_, rfl, hv⟩
    | cons v2 l2 v2' vs2 hv2 ht2 =>
      refine ⟨_, rfl, ?_⟩
      rw [dif_neg (by simp)]
      exact .tuple _ _ (.cons _ _ _ _ hv (.cons _ _ _ _ hv2 ht2))
end Go.Ra
