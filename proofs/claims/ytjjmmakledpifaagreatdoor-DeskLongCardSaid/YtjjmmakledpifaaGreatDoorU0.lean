/-
  The checks of drawn regions of functions 0 to 169.
-/
import Derived.Test.YtjjmmakledpifaaGreatDoorT2
import Derived.Test.YtjjmmakledpifaaGreatDoorProg
namespace Go.Proofs.YtjjmmakledpifaaGreatDoor
set_option maxRecDepth 100000 in
theorem regions0 : Ra.okFrom Tryz.prog 85 0 = true := by decide +kernel
set_option maxRecDepth 100000 in
theorem regions1 : Ra.okFrom Tryz.prog 85 85 = true := by decide +kernel
end Go.Proofs.YtjjmmakledpifaaGreatDoor
