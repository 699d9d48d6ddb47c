/-
  The law's function, run: way 1.
-/
import Derived.Test.YticjdabhldielaaGreatDoorUa
namespace Go.Proofs.YticjdabhldielaaGreatDoor
open Go.Ra
set_option maxRecDepth 100000 in
theorem nobody_run1 : saysTrue (callA ft (exec ft 100000) (bid 3) (argA (.text 0 1001) (.icap 0)) h0 1000) = true := by decide +kernel
end Go.Proofs.YticjdabhldielaaGreatDoor
