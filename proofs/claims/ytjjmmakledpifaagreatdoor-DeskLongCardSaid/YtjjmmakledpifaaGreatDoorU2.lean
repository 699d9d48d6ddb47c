/-
  The checks of drawn regions of functions 170 to 339.
-/
import Derived.Test.YtjjmmakledpifaaGreatDoorT2
import Derived.Test.YtjjmmakledpifaaGreatDoorProg
namespace Go.Proofs.YtjjmmakledpifaaGreatDoor
set_option maxRecDepth 100000 in
theorem regions2 : Ra.okFrom Tryz.prog 85 170 = true := by decide +kernel
set_option maxRecDepth 100000 in
theorem regions3 : Ra.okFrom Tryz.prog 85 255 = true := by decide +kernel
end Go.Proofs.YtjjmmakledpifaaGreatDoor
