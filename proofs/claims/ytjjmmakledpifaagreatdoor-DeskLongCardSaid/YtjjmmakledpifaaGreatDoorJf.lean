/-
  The closed facts of the row.
-/
import Derived.Test.YtjjmmakledpifaaGreatDoorCl
import GoSem.ClaimGoes
namespace Go.Proofs.YtjjmmakledpifaaGreatDoor
set_option maxRecDepth 100000 in
set_option maxHeartbeats 4000000 in
theorem facts : joinedFacts Tryz.prog 3 Tryz.f3 (OpenSpec.ofChange Rows.deskLongSpec).bare Rows.deskLongRow = true := by
  unfold joinedFacts Program.inPlace Program.recurses Program.unfollowed Program.varsNamed
  rw [reached_is]
  simp only [Bool.and_eq_true]
  repeat' apply And.intro
  all_goals as_aux_lemma => kernel_rfl
set_option maxRecDepth 100000 in
set_option maxHeartbeats 4000000 in
theorem goes : false = Rows.deskLongRow.goesBy Tryz.prog := by
  have e : Tryz.prog.funcNamed "crier/crierlaw31.DeskLong" = some 3 := by as_aux_lemma => kernel_rfl
  have h : Tryz.prog.goes 3 = false := by
    unfold Program.goes Program.unfollowed
    rw [reached_is]
    as_aux_lemma => kernel_rfl
  show false = (((Tryz.prog.funcNamed "crier/crierlaw31.DeskLong").any Tryz.prog.goes) || false)
  rw [e, Option.any_some, h]
  rfl
end Go.Proofs.YtjjmmakledpifaaGreatDoor
