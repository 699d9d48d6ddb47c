/-
  The checks of drawn regions of functions 170 to 254.
-/
import Derived.Test.YticjdabhldielaaGreatDoorT2
import Derived.Test.YticjdabhldielaaGreatDoorProg
namespace Go.Proofs.YticjdabhldielaaGreatDoor
set_option maxRecDepth 100000 in
theorem regions2 : Ra.okFrom Tryz.prog 85 170 = true := by decide +kernel
end Go.Proofs.YticjdabhldielaaGreatDoor
