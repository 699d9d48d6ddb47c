/-
  Where the closed runs start.
-/
import Derived.Test.YticjdabhldielaaGreatDoorUf
import Derived.Lib.ItoaNum
namespace Go.Proofs.YticjdabhldielaaGreatDoor
open Go.Ra
/-- A row of numbers. -/
def avs (k : IntKind) : List Int → AV
  | [] => .nl
  | z :: l => .cs (.int k z) (avs k l)
noncomputable def powA : AB := .cells 18446744073709551616 467 0 20 (Tr.sets (avs .u64 Lib.pow10Tab) 0 .leaf)
noncomputable def maxA : AB := .cells 18446744073709551616 3 0 1 (.node .aint .leaf .leaf)
noncomputable def h0 : TB := TB.set (bid 3) powA (TB.set (bid 0) maxA (.leaf .dead))
/-- An act, of whose text only bounds are known; a number. -/
def argA (t c : AV) : AV := .cs (.agg (.cs .undef (.cs .undef (.cs .undef (.cs t .nl))))) (.cs c .nl)
end Go.Proofs.YticjdabhldielaaGreatDoor
