/-
  The closed facts of the row.
-/
import Derived.Test.YtglocckckdjalaaGreatDoorCl
import GoSem.ClaimGoes
namespace Go.Proofs.YtglocckckdjalaaGreatDoor
set_option maxRecDepth 100000 in
set_option maxHeartbeats 4000000 in
theorem facts : joinedFacts Tryz.prog 3 Tryz.f3 (OpenSpec.ofChange Rows.serverKnownSpec).bare Rows.serverKnownRow = true := by
  unfold joinedFacts Program.inPlace Program.recurses Program.unfollowed Program.varsNamed
  rw [reached_is]
  simp only [Bool.and_eq_true]
  repeat' apply And.intro
  all_goals as_aux_lemma => kernel_rfl
set_option maxRecDepth 100000 in
set_option maxHeartbeats 4000000 in
theorem goes : false = Rows.serverKnownRow.goesBy Tryz.prog := by
  have e : Tryz.prog.funcNamed "crier/crierlaw29.ServerKnown" = some 3 := by as_aux_lemma => kernel_rfl
  have h : Tryz.prog.goes 3 = false := by
    unfold Program.goes Program.unfollowed
    rw [reached_is]
    as_aux_lemma => kernel_rfl
  show false = (((Tryz.prog.funcNamed "crier/crierlaw29.ServerKnown").any Tryz.prog.goes) || false)
  rw [e, Option.any_some, h]
  rfl
end Go.Proofs.YtglocckckdjalaaGreatDoor
