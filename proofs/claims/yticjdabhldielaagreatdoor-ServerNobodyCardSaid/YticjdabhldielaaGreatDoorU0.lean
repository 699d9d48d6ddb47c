/-
  The checks of drawn regions of functions 0 to 84.
-/
import Derived.Test.YticjdabhldielaaGreatDoorT2
import Derived.Test.YticjdabhldielaaGreatDoorProg
namespace Go.Proofs.YticjdabhldielaaGreatDoor
set_option maxRecDepth 100000 in
theorem regions0 : Ra.okFrom Tryz.prog 85 0 = true := by decide +kernel
end Go.Proofs.YticjdabhldielaaGreatDoor
