/-
  The law's function, run; small runs.
-/
import Derived.Test.YtglocckckdjalaaGreatDoorUa
namespace Go.Proofs.YtglocckckdjalaaGreatDoor
open Go.Ra
set_option maxRecDepth 100000 in
theorem known_run1 : saysTrue (callA ft1 (exec ft1 100000) (bid 3) .nl (glH gl) 1000) = true := by decide +kernel
set_option maxRecDepth 100000 in
theorem accept_run : saysV accA (callA ftN (exec ftN 100000) (bid 402) keyA (glH .nil) 1000) = true := by decide +kernel
theorem accept_fn : isFn (TF.get (bid 402) ftN) = true := by decide +kernel
theorem known_fn : isFn (TF.get (bid 3) ft1) = true := by decide +kernel
theorem idles_fn : isFn (TF.get (bid 17) ft0) = true := by decide +kernel
theorem breaks_fn : isFn (TF.get (bid 19) ft0) = true := by decide +kernel
theorem refuses_fn : isFn (TF.get (bid 20) ft0) = true := by decide +kernel
theorem wakes_fn : isFn (TF.get (bid 21) ft0) = true := by decide +kernel
end Go.Proofs.YtglocckckdjalaaGreatDoor
