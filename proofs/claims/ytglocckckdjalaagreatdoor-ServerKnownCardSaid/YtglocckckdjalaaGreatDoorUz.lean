/-
  ServerKnown: the law's function returns true and leaves what lay as it was.
-/
import Derived.Test.YtglocckckdjalaaGreatDoorGd
namespace Go.Proofs.YtglocckckdjalaaGreatDoor
open Go.Ra
theorem server29_any (W : World) (hG : G W) : Calls Tryz.prog 3 #[] W fun e W' => e = .returned (.bool true) ∧ Gr W W' :=
  server_ok.2.2 W hG.size hG.holds
end Go.Proofs.YtglocckckdjalaaGreatDoor
