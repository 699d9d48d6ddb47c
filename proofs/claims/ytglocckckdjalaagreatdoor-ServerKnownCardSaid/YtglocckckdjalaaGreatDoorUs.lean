/-
  publishes, run: rounds in its middle.
-/
import Derived.Test.YtglocckckdjalaaGreatDoorUp
namespace Go.Proofs.YtglocckckdjalaaGreatDoor
open Go.Ra
set_option maxRecDepth 100000 in
theorem pub_run2 : cutAt (execs ft0 100000 (acs pub2) (zOf pubZ1) (hOf pubH1) 1151) pubZ2 pubH2 1883 = true := by decide +kernel
end Go.Proofs.YtglocckckdjalaaGreatDoor
