/-
  The checks of drawn regions of functions 425 to 505.
-/
import Derived.Test.YticjdabhldielaaGreatDoorT2
import Derived.Test.YticjdabhldielaaGreatDoorProg
namespace Go.Proofs.YticjdabhldielaaGreatDoor
set_option maxRecDepth 100000 in
theorem regions5 : Ra.okFrom Tryz.prog 81 425 = true := by decide +kernel
end Go.Proofs.YticjdabhldielaaGreatDoor
