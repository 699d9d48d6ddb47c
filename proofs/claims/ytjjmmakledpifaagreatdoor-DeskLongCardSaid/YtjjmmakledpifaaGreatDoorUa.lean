/-
  Where the closed runs start, and the tables of this program's functions.
-/
import Derived.Test.YtjjmmakledpifaaGreatDoorT0
import Derived.Test.YtjjmmakledpifaaGreatDoorProg
namespace Go.Proofs.YtjjmmakledpifaaGreatDoor
open Go.Ra
/-- A row of numbers. -/
def avs (k : IntKind) : List Int → AV
  | [] => .nl
  | z :: l => .cs (.int k z) (avs k l)
def pows : List Int := [1, 10, 100, 1000, 10000, 100000, 1000000, 10000000, 100000000, 1000000000, 10000000000, 100000000000, 1000000000000, 10000000000000, 100000000000000, 1000000000000000, 10000000000000000, 100000000000000000, 1000000000000000000, 10000000000000000000]
/-- What the runs ask of the globals: the powers of ten; a number. -/
noncomputable def gl : GL := .cons 5 274 20 (avs .u64 pows) (.cons 0 3 1 (.cs .aint .nl) .nil)
/-- The function that catches: its parts; the same for the abstract machine. -/
noncomputable def doesT : TrapS := Option.rec ⟨0, #[], 0, default, default, 0, #[], 0, [], default, .skip, 0, 0, 0, 0, 0⟩ (fun T => T) (trapS Tryz.f11)
noncomputable def doesF : AFn := Option.rec .no (fun q => q) (cTrap Tryz.prog Tryz.f11 doesT (.str 9 888916308001605972581) gl)
/-- The functions; one that catches; in the third table wakes stands as a thing of its own. -/
noncomputable def ftN : TF := tab Tryz.prog 117 0 [] .nil 32768 .no
noncomputable def ft0 : TF := tab Tryz.prog 117 0 [] .nil 11 doesF
noncomputable def ft1 : TF := tab Tryz.prog 117 0 [5] gl 11 doesF
end Go.Proofs.YtjjmmakledpifaaGreatDoor
