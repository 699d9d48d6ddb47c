/-
  The checks of drawn regions of functions 340 to 424.
-/
import Derived.Test.YticjdabhldielaaGreatDoorT2
import Derived.Test.YticjdabhldielaaGreatDoorProg
namespace Go.Proofs.YticjdabhldielaaGreatDoor
set_option maxRecDepth 100000 in
theorem regions4 : Ra.okFrom Tryz.prog 85 340 = true := by decide +kernel
end Go.Proofs.YticjdabhldielaaGreatDoor
