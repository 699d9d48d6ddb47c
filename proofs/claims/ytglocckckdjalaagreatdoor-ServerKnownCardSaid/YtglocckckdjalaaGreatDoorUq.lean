/-
  publishes, run: its beginning and its end.
-/
import Derived.Test.YtglocckckdjalaaGreatDoorUp
namespace Go.Proofs.YtglocckckdjalaaGreatDoor
open Go.Ra
set_option maxRecDepth 100000 in
theorem pub_run1 : cutAt (execs ft0 100000 (acs pub1) (.leaf .undef) (glH gl) 1000) pubZ1 pubH1 1151 = true := by decide +kernel
set_option maxRecDepth 100000 in
theorem pub_run3 : saysTrue (endA (exec ft0 100000 pubA (zOf pubZ2) (hOf pubH2) 1883) pubL) = true := by decide +kernel
end Go.Proofs.YtglocckckdjalaaGreatDoor
