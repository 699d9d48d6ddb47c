/-
  Where the closed runs start, and the tables of this program's functions.
-/
import Derived.Test.YtjjmmakledpifaaGreatDoorT0
import Derived.Test.YtjjmmakledpifaaGreatDoorProg
namespace Go.Proofs.YtjjmmakledpifaaGreatDoor
open Go.Ra
/-- A row of numbers. -/
def avs (k : IntKind) : List Int → AV
  | [] => .nl
  | z :: l => .cs (.int k z) (avs k l)
def pows : List Int := [1, 10, 100, 1000, 10000, 100000, 1000000, 10000000, 100000000, 1000000000, 10000000000, 100000000000, 1000000000000, 10000000000000, 100000000000000, 1000000000000000, 10000000000000000, 100000000000000000, 1000000000000000000, 10000000000000000000]
/-- What the runs ask of the globals: the powers of ten; a number. -/
noncomputable def gl : GL := .cons 5 274 20 (avs .u64 pows) (.cons 0 3 1 (.cs .aint .nl) .nil)
/-- The function that catches: its parts; the same for the abstract machine. -/
noncomputable def doesT : TrapS := Option.rec ⟨0, #[], 0, default, default, 0, #[], 0, [], default, .skip, 0, 0, 0, 0, 0⟩ (fun T => T) (trapS Tryz.f11)
noncomputable def doesF : AFn := Option.rec .no (fun q => q) (cTrap Tryz.prog Tryz.f11 doesT (.str 9 888916308001605972581) gl)
/-- A key, and what is answered to it. -/
def keyA : AV := .cs (.str 24 1501588724974097130735094123045256028748086830879006541668) .nl
def accA : AV := (.str 28 6469840245666933854352150682403401935820303882363147840412984554355)
noncomputable def ovN : List (Nat × AFn) := [(117, .ext (.index 0))]
noncomputable def ov0 : List (Nat × AFn) := [(117, .ext (.index 0)), (473, .ext (.known .nil keyA accA)), (11, doesF)]
noncomputable def ov1 : List (Nat × AFn) := (5, .ext (.truth gl)) :: ov0
/-- The functions; with some as things of their own. -/
noncomputable def ftN : TF := tab Tryz.prog ovN
noncomputable def ft0 : TF := tab Tryz.prog ov0
noncomputable def ft1 : TF := tab Tryz.prog ov1
end Go.Proofs.YtjjmmakledpifaaGreatDoor
