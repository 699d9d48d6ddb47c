/-
  Walks over single functions of package field and its reference: bytes and whole texts.
-/
import Derived.Test.YtheihlalgekojaaGreatDoorChecked
import Derived.Test.YtheihlalgekojaaGreatDoorShelf
import Derived.Test.YtheihlalgekojaaGreatDoorP0
import Derived.WalkKit
import Derived.OwnWalk
import Derived.Outline
import Derived.BigFrame
import Derived.Lib.Hide
import Derived.Deep.QuietTactic
import Derived.BigQuiet
import Derived.Deep.DeepFit
namespace Go.Proofs.YtheihlalgekojaaGreatDoor
open Go.RowKit

set_option maxHeartbeats 400000 in
theorem letter_any (c : UInt8) (w : World) : Calls Tryz.prog 41 #[.int .u8 c.toNat] w fun e w' => e = .returned (.bool (isLetter c)) ∧ w = w' := by
  go_enter Tryz.func41, Tryz.ntmps41
  go_wp2
  all_goals go_ret
  all_goals exact ⟨ret_bool (by rw [letter_eq, Bool.eq_iff_iff]; simp; omega), rfl⟩

end Go.Proofs.YtheihlalgekojaaGreatDoor
