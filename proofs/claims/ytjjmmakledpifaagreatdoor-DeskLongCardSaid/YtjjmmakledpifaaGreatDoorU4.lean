/-
  The checks of drawn regions of functions 340 to 424.
-/
import Derived.Test.YtjjmmakledpifaaGreatDoorT2
import Derived.Test.YtjjmmakledpifaaGreatDoorProg
namespace Go.Proofs.YtjjmmakledpifaaGreatDoor
set_option maxRecDepth 100000 in
theorem regions4 : Ra.okFrom Tryz.prog 85 340 = true := by decide +kernel
end Go.Proofs.YtjjmmakledpifaaGreatDoor
