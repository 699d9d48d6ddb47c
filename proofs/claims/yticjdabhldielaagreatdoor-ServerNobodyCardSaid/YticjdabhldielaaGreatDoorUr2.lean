/-
  The law's function, run: way 2.
-/
import Derived.Test.YticjdabhldielaaGreatDoorUa
namespace Go.Proofs.YticjdabhldielaaGreatDoor
open Go.Ra
set_option maxRecDepth 100000 in
theorem nobody_run2 : saysTrue (callA ft (exec ft 100000) (bid 3) (argA (.text 1001 9223372036854775808) (.ilt 0)) h0 1000) = true := by decide +kernel
end Go.Proofs.YticjdabhldielaaGreatDoor
