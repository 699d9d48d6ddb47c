/-
  Runs: times that run out.
-/
import Derived.Test.YtglocckckdjalaaGreatDoorUa
namespace Go.Proofs.YtglocckckdjalaaGreatDoor
open Go.Ra
set_option maxRecDepth 100000 in
theorem idles_run : saysTrue (callA ft0 (exec ft0 100000) (bid 17) .nl (glH gl) 1000) = true := by decide +kernel
end Go.Proofs.YtglocckckdjalaaGreatDoor
