/-
  Walks over single functions of package field and its reference: bytes and whole texts.
-/
import Derived.Test.YtheihlalgekojaaDoorChecked
import Derived.Test.YtheihlalgekojaaDoorShelf
import Derived.Test.YtheihlalgekojaaDoorP0
import Derived.WalkKit
import Derived.OwnWalk
import Derived.Outline
import Derived.BigFrame
import Derived.Lib.Hide
import Derived.Deep.QuietTactic
import Derived.BigQuiet
import Derived.Deep.DeepFit
namespace Go.Proofs.YtheihlalgekojaaDoor
open Go.RowKit

set_option maxHeartbeats 400000 in
theorem letter_any (c : UInt8) (w : World) : Calls Tryd.prog 58 #[.int .u8 c.toNat] w fun e w' => e = .returned (.bool (isLetter c)) ∧ w = w' := by
  go_enter Tryd.func58, Tryd.ntmps58
  go_wp2
  all_goals go_ret
  all_goals exact ⟨ret_bool (by rw [letter_eq, Bool.eq_iff_iff]; simp; omega), rfl⟩

end Go.Proofs.YtheihlalgekojaaDoor
