/-
  Where the closed runs start, and the table of this program's functions.
-/
import Derived.Test.YticjdabhldielaaGreatDoorT0
import Derived.Lib.ItoaNum
import Derived.Test.YticjdabhldielaaGreatDoorProg
namespace Go.Proofs.YticjdabhldielaaGreatDoor
open Go.Ra
/-- A row of numbers. -/
def avs (k : IntKind) : List Int → AV
  | [] => .nl
  | z :: l => .cs (.int k z) (avs k l)
/-- What the runs ask of the globals: the powers of ten; a number. -/
noncomputable def gl : GL := .cons 3 467 20 (avs .u64 Lib.pow10Tab) (.cons 0 3 1 (.cs .aint .nl) .nil)
/-- The functions; in the second table wakes stands as a thing of its own. -/
noncomputable def ft0 : TF := tab Tryz.prog 318 0 [] .nil
noncomputable def ft1 : TF := tab Tryz.prog 318 0 [17] gl
/-- An act, of whose text only bounds are known; a number. -/
def argA (t c : AV) : AV := .cs (.agg (.cs .undef (.cs .undef (.cs .undef (.cs t .nl))))) (.cs c .nl)
end Go.Proofs.YticjdabhldielaaGreatDoor
