/-
  The checks of drawn regions of functions 85 to 169.
-/
import Derived.Test.YticjdabhldielaaGreatDoorT2
import Derived.Test.YticjdabhldielaaGreatDoorProg
namespace Go.Proofs.YticjdabhldielaaGreatDoor
set_option maxRecDepth 100000 in
theorem regions1 : Ra.okFrom Tryz.prog 85 85 = true := by decide +kernel
end Go.Proofs.YticjdabhldielaaGreatDoor
