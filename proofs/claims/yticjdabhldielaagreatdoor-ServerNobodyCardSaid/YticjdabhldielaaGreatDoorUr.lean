/-
  The law's function, run, in four ways.
-/
import Derived.Test.YticjdabhldielaaGreatDoorUa
namespace Go.Proofs.YticjdabhldielaaGreatDoor
open Go.Ra
set_option maxRecDepth 100000 in
theorem nobody_run0 : saysTrue (callA ft1 (exec ft1 100000) (bid 3) (argA (.text 0 1001) (.ilt 0)) (glH gl) 1000) = true := by decide +kernel
set_option maxRecDepth 100000 in
theorem nobody_run1 : saysTrue (callA ft1 (exec ft1 100000) (bid 3) (argA (.text 0 1001) (.icap 0)) (glH gl) 1000) = true := by decide +kernel
set_option maxRecDepth 100000 in
theorem nobody_run2 : saysTrue (callA ft1 (exec ft1 100000) (bid 3) (argA (.text 1001 9223372036854775808) (.ilt 0)) (glH gl) 1000) = true := by decide +kernel
set_option maxRecDepth 100000 in
theorem nobody_run3 : saysTrue (callA ft1 (exec ft1 100000) (bid 3) (argA (.text 1001 9223372036854775808) (.icap 0)) (glH gl) 1000) = true := by decide +kernel
theorem nobody_fn : isFn (TF.get (bid 3) ft1) = true := by decide +kernel
theorem wakes_fn : isFn (TF.get (bid 17) ft0) = true := by decide +kernel
end Go.Proofs.YticjdabhldielaaGreatDoor
