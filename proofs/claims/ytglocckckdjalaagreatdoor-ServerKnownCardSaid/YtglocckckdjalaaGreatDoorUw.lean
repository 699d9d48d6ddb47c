/-
  Runs: wakes.
-/
import Derived.Test.YtglocckckdjalaaGreatDoorUa
namespace Go.Proofs.YtglocckckdjalaaGreatDoor
open Go.Ra
set_option maxRecDepth 100000 in
theorem wakes_run : saysTrue (callA ft0 (exec ft0 100000) (bid 21) .nl (glH gl) 1000) = true := by decide +kernel
end Go.Proofs.YtglocckckdjalaaGreatDoor
