/-
  The checks of drawn regions of functions 340 to 521.
-/
import Derived.Test.YtglocckckdjalaaGreatDoorT2
import Derived.Test.YtglocckckdjalaaGreatDoorProg
namespace Go.Proofs.YtglocckckdjalaaGreatDoor
set_option maxRecDepth 100000 in
theorem regions4 : Ra.okFrom Tryz.prog 85 340 = true := by decide +kernel
set_option maxRecDepth 100000 in
theorem regions5 : Ra.okFrom Tryz.prog 97 425 = true := by decide +kernel
end Go.Proofs.YtglocckckdjalaaGreatDoor
