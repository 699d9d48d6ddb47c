/-
  The checks of drawn regions of functions 425 to 568.
-/
import Derived.Test.YtjjmmakledpifaaGreatDoorT2
import Derived.Test.YtjjmmakledpifaaGreatDoorProg
namespace Go.Proofs.YtjjmmakledpifaaGreatDoor
set_option maxRecDepth 100000 in
theorem regions5 : Ra.okFrom Tryz.prog 85 425 = true := by decide +kernel
set_option maxRecDepth 100000 in
theorem regions6 : Ra.okFrom Tryz.prog 59 510 = true := by decide +kernel
end Go.Proofs.YtjjmmakledpifaaGreatDoor
