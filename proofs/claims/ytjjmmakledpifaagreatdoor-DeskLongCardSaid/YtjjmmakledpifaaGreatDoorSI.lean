/-
  Control: regions in their own order; code; calls; rounds.
-/
import Derived.Test.YtjjmmakledpifaaGreatDoorSH
set_option linter.unusedVariables false
set_option linter.unusedSimpArgs false
namespace Go.Ra
variable {P : Program} {m : Mp} {h : TB} {nx : Nat} {w : World} {nt : Nat} {a : Act} {z : TV} {ft : TF} {ex : Exec}

/-- What a run of code comes to. -/
def Post (P : Program) (s : Start) (nt : Nat) (r : R) : Exit → Act → World → Prop
  | .normal, a, w => ∃ m z h nx, r = .norm z h nx ∧ St P s nt m z h nx a w
  | .exit id, a, w => ∃ m z h nx, r = .exit id z h nx ∧ St P s nt m z h nx a w
  | .ret, a, w => ∃ m z h nx, r = .ret z h nx ∧ St P s nt m z h nx a w
  | _, _, _ => False

theorem St.put {s : Start} (S : St P s nt m z h nx a w) (hn : nt ≤ 4096) {dst : Option Tmp} {d : ADst} (hd : (match dst with | none => some .no | some t => (cT nt t).map .to : Option ADst) = some d) {v : AV} {h' : TB} {nx' : Nat} {v' : Value} {w' : World} (hA : Acted P m h nx w v h' nx' v' w') :
    ∃ m', St P s nt m' (setD d v z) h' nx' (a.put dst v') w' := by
  obtain ⟨m', h1, h2, h3⟩ := hA
  refine ⟨m', ?_, h2, S.F.trans h3, ?_⟩
  · cases dst with
    | none =>
      obtain rfl := Option.some.inj hd
      exact S.T.mono h3.sub
    | some t =>
      obtain ⟨p, hp, rfl⟩ := Option.map_eq_some_iff.1 hd
      obtain ⟨ht, rfl⟩ := cT_some hp
      exact (S.T.mono h3.sub).put hn ht h1
  · cases dst with
    | none => exact S.K.step h3
    | some t => exact S.K.step h3

theorem cOper_parts {ops : Array Oper} {o : Oper} {ao : AOper} (hc : cOper P nt ops o = some ao) : cDst nt o = some ao.dst ∧ cGuard nt ops o = some ao.guard ∧ ao.aop = (cOp P nt o).getD deadOp := by
  simp only [cOper, Option.bind_eq_bind, Option.bind_eq_some_iff, Option.some.injEq] at hc
  obtain ⟨d, hd, g, hg, rfl⟩ := hc
  obtain ⟨h1, h2, h3⟩ := mkOper_parts g d ((cOp P nt o).getD deadOp)
  rw [h1, h2, h3]
  exact ⟨hd, hg, rfl⟩

/-- One operation of a region. -/
theorem oper_sound (hcal : CallsTo P ft ex) (hrnd : RoundsTo P ex) {s : Start} (S : St P s nt m z h nx a w) (hn : nt ≤ 4096) {ops : Array Oper} {o : Oper} {ao : AOper} (hc : cOper P nt ops o = some ao) {z' : TV} {h' : TB} {nx' : Nat} (hr : OperR ft ex ao z h nx z' h' nx')
    (ro : Option Nat) {next : Act → World → Prop} {Q : Exit → Act → World → Prop} (hnext : ∀ m' a' w', St P s nt m' z' h' nx' a' w' → next a' w') :
    if Region.wanted o (yielded ops a.tmps) then o.wpIn (fnc ro) 0 P a w next Q else (∀ f, o.about P w a.eval = some f → (fnc ro).fn f) ∧ next (a.put o.dst undef) w := by
  obtain ⟨hd, hg, hop⟩ := cOper_parts hc
  have hwant : ∀ b, wantA ao.guard z = some b → Region.wanted o (yielded ops a.tmps) = b := fun b hb => wantA_wanted hg (fun p _ t ht hp => by
    subst hp
    have := S.T.1
    exact ⟨by omega, S.T.2 t ht⟩) hb
  cases hr with
  | run v _ _ hw hv =>
    rw [hwant true hw, if_pos rfl]
    rw [hop] at hv
    cases hco : cOp P nt o with
    | none => rw [hco] at hv; exact absurd hv dead_none
    | some q =>
      rw [hco] at hv
      refine op_sound hcal hrnd S.I hco (fun y hy x hx => cO_all S.I.glob S.T hx) hv ro fun v' w' hA => ?_
      obtain ⟨m', S'⟩ := S.put hn hd hA
      exact hnext m' _ _ S'
  | skip hw =>
    rw [hwant false hw, if_neg (by simp)]
    refine ⟨fun _ _ => trivial, ?_⟩
    obtain ⟨m', S'⟩ := S.put hn hd (v := .tuple .nl) (v' := undef) ⟨m, unit_rel, S.I, Fr.refl _ _ _ _⟩
    exact hnext m' _ _ S'

theorem region_sound (hcal : CallsTo P ft ex) (hrnd : RoundsTo P ex) {s : Start} (hn : nt ≤ 4096) {ops : Array Oper} (ro : Option Nat) {r : R} (hr : r ≠ .fail) :
    ∀ (l l' : List Oper) (i : Nat) (al : ARg) (m : Mp) (z : TV) (h : TB) (nx : Nat) (a : Act) (w : World), ops.toList.drop i = l ++ l' → cRg P nt ops l = some al → regA al ft ex z h nx = r → St P s nt m z h nx a w →
      wpOpsIn (fnc ro) 0 P ops (Post P s nt r) (List.range' i l.length) a w := by
  intro l
  induction l with
  | nil =>
    intro l' i al m z h nx a w hdrop hc hk S
    obtain rfl := Option.some.inj (show some ARg.nil = some al from hc)
    exact ⟨m, z, h, nx, hk.symm, S⟩
  | cons o l ih =>
    intro l' i al m z h nx a w hdrop hc hk S
    simp only [cRg, Option.bind_eq_bind, Option.bind_eq_some_iff, Option.some.injEq] at hc
    obtain ⟨ao, hao, al, hal, rfl⟩ := hc
    obtain ⟨z', h', nx', h1, h2⟩ := operA_inv (show operA ao ft ex z h nx (tick (regA al) ft ex) = r from hk) hr
    have hi : ops[i]? = some o := by
      rw [← Array.getElem?_toList, ← List.head?_drop, hdrop]; rfl
    rw [List.length_cons, List.range'_succ]
    simp only [wpOpsIn, hi]
    have hd1 : ops.toList.drop (i + 1) = l ++ l' := by rw [← List.drop_drop, hdrop]; rfl
    exact oper_sound hcal hrnd S hn hao h1 ro fun m' a' w' S' => ih l' (i + 1) al m' z' h' nx' a' w' hd1 hal h2 S'
end Go.Ra
