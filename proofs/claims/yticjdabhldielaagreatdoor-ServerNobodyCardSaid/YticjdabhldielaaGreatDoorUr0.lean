/-
  The law's function, run: way 0.
-/
import Derived.Test.YticjdabhldielaaGreatDoorUa
namespace Go.Proofs.YticjdabhldielaaGreatDoor
open Go.Ra
set_option maxRecDepth 100000 in
theorem nobody_run0 : saysTrue (callA ft (exec ft 100000) (bid 3) (argA (.text 0 1001) (.ilt 0)) h0 1000) = true := by decide +kernel
end Go.Proofs.YticjdabhldielaaGreatDoor
