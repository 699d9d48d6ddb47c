/-
  The checks of drawn regions of functions 0 to 169.
-/
import Derived.Test.YtglocckckdjalaaGreatDoorT2
import Derived.Test.YtglocckckdjalaaGreatDoorProg
namespace Go.Proofs.YtglocckckdjalaaGreatDoor
set_option maxRecDepth 100000 in
theorem regions0 : Ra.okFrom Tryz.prog 85 0 = true := by decide +kernel
set_option maxRecDepth 100000 in
theorem regions1 : Ra.okFrom Tryz.prog 85 85 = true := by decide +kernel
end Go.Proofs.YtglocckckdjalaaGreatDoor
