/-
  The checks of drawn regions of functions 170 to 339.
-/
import Derived.Test.YtglocckckdjalaaGreatDoorT2
import Derived.Test.YtglocckckdjalaaGreatDoorProg
namespace Go.Proofs.YtglocckckdjalaaGreatDoor
set_option maxRecDepth 100000 in
theorem regions2 : Ra.okFrom Tryz.prog 85 170 = true := by decide +kernel
set_option maxRecDepth 100000 in
theorem regions3 : Ra.okFrom Tryz.prog 85 255 = true := by decide +kernel
end Go.Proofs.YtglocckckdjalaaGreatDoor
