/-
  Where the closed runs start, and the tables of this program's functions.
-/
import Derived.Test.YtglocckckdjalaaGreatDoorT0
import Derived.Test.YtglocckckdjalaaGreatDoorProg
namespace Go.Proofs.YtglocckckdjalaaGreatDoor
open Go.Ra
/-- A row of numbers. -/
def avs (k : IntKind) : List Int → AV
  | [] => .nl
  | z :: l => .cs (.int k z) (avs k l)
def pows : List Int := [1, 10, 100, 1000, 10000, 100000, 1000000, 10000000, 100000000, 1000000000, 10000000000, 100000000000, 1000000000000, 10000000000000, 100000000000000, 1000000000000000, 10000000000000000, 100000000000000000, 1000000000000000000, 10000000000000000000]
/-- What the runs ask of the globals: the powers of ten; a number. -/
noncomputable def gl : GL := .cons 3 471 20 (avs .u64 pows) (.cons 0 3 1 (.cs .aint .nl) .nil)
/-- A key, and what is answered to it. -/
def keyA : AV := .cs (.str 24 1501588724974097130735094123045256028748086830879006541668) .nl
def accA : AV := (.str 28 6469840245666933854352150682403401935820303882363147840412984554355)
noncomputable def ovN : List (Nat × AFn) := [(304, .ext (.index 0))]
noncomputable def ov0 : List (Nat × AFn) := [(304, .ext (.index 0)), (104, .ext (.sorted (bid 171) 3)), (210, .ext .overlaps), (402, .ext (.known .nil keyA accA))]
noncomputable def ov1 : List (Nat × AFn) := (17, .ext (.truth gl)) :: (18, .ext (.truth gl)) :: (19, .ext (.truth gl)) :: (20, .ext (.truth gl)) :: (21, .ext (.truth gl)) :: ov0
/-- The functions; with some as things of their own. -/
noncomputable def ftN : TF := tab Tryz.prog ovN
noncomputable def ft0 : TF := tab Tryz.prog ov0
noncomputable def ft1 : TF := tab Tryz.prog ov1
end Go.Proofs.YtglocckckdjalaaGreatDoor
