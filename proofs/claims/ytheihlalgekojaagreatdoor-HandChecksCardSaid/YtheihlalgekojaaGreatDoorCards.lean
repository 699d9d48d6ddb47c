/-
  DERIVED. GIVEN WITH THE SEED: THE CARDS: each row of YtheihlalgekojaaGreatDoorRows.lean that lists a variable, with what it lists TIED to the program's text (the seventh form; the later family's looks); each row that meets fmt, with fmt's text TOLD by the authors' own Lean function (tested against real Go, not proved from fmt's source: count such statements apart). THE CARD IS WHAT COUNTS. Prove the row's statement (the work); the ties are given (YtheihlalgekojaaGreatDoorTie.lean); close each card by the builder's one call (the guide's Derived/Test/ToyasCard.lean, 'card_holds'). Laid BY PROGRAM, IN A SANDBOX (cutbox-door.mjs). By AI agents, Wed Nov 11 2026. No macro, syntax, notation, axiom, sorry.
-/
import Derived.Test.YtheihlalgekojaaGreatDoorRows
import GoSem.ClaimSeven
namespace Go.Proofs.YtheihlalgekojaaGreatDoor
namespace Rows

/-- THE TIED CARD OF 'crierlaw17.HandChecks'. -/
def handChecksCard : Claim7 := { stood := { row := handChecksRow, standIns := [], harness := (true, "7f48958dba590a6a15edeb579969948335b5cf9c5d08a9b5949f8ae10a74c5dd"), looks := false }, kinds := [], alts := [], laidByText := true, laidKinds := [.data, .pinned], laidTests := true, laidLooks := .later }
def HandChecksCardSaid : Prop := Claim7.holds Tryz.pinned (.plain (OpenSpec.ofChange handChecksSpec)) handChecksCard

/-- THE SECOND FORM's CARD OF 'crierlaw17.HandChecks'. -/
def handChecksUptoCard : Claim7 := { stood := { row := handChecksUptoRow, standIns := [], harness := (true, "7f48958dba590a6a15edeb579969948335b5cf9c5d08a9b5949f8ae10a74c5dd"), looks := false }, kinds := [], alts := [], laidByText := true, laidKinds := [.data, .pinned], laidTests := true, laidLooks := .later }
def HandChecksUptoCardSaid : Prop := Claim7.holds Tryz.pinned (.plain (OpenSpec.upto handChecksSpec)) handChecksUptoCard
end Rows
end Go.Proofs.YtheihlalgekojaaGreatDoor
