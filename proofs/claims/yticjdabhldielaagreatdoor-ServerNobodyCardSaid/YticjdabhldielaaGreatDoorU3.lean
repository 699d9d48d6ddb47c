/-
  The checks of drawn regions of functions 255 to 339.
-/
import Derived.Test.YticjdabhldielaaGreatDoorT2
import Derived.Test.YticjdabhldielaaGreatDoorProg
namespace Go.Proofs.YticjdabhldielaaGreatDoor
set_option maxRecDepth 100000 in
theorem regions3 : Ra.okFrom Tryz.prog 85 255 = true := by decide +kernel
end Go.Proofs.YticjdabhldielaaGreatDoor
