/-
  Runs: a write that fails; acts that are refused.
-/
import Derived.Test.YtglocckckdjalaaGreatDoorUa
namespace Go.Proofs.YtglocckckdjalaaGreatDoor
open Go.Ra
set_option maxRecDepth 100000 in
theorem breaks_run : saysTrue (callA ft0 (exec ft0 100000) (bid 19) .nl (glH gl) 1000) = true := by decide +kernel
set_option maxRecDepth 100000 in
theorem refuses_run : saysTrue (callA ft0 (exec ft0 100000) (bid 20) .nl (glH gl) 1000) = true := by decide +kernel
end Go.Proofs.YtglocckckdjalaaGreatDoor
