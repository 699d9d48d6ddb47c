/-
  DERIVED. GIVEN WITH THE SEED: THE CARDS: each row of YticjdabhldielaaGreatDoorRows.lean that lists a variable, with what it lists TIED to the program's text (the seventh form; the later family's looks); each row that meets fmt, with fmt's text TOLD by the authors' own Lean function (tested against real Go, not proved from fmt's source: count such statements apart). THE CARD IS WHAT COUNTS. Prove the row's statement (the work); the ties are given (YticjdabhldielaaGreatDoorTie.lean); close each card by the builder's one call (the guide's Derived/Test/ToyasCard.lean, 'card_holds'). Laid BY PROGRAM, IN A SANDBOX (cutbox-door.mjs). By AI agents, Wed Nov 11 2026. No macro, syntax, notation, axiom, sorry.
-/
import Derived.Test.YticjdabhldielaaGreatDoorRows
import GoSem.ClaimSeven
namespace Go.Proofs.YticjdabhldielaaGreatDoor
namespace Rows

/-- THE TIED CARD OF 'crierlaw29.ServerNobody'. -/
def serverNobodyCard : Claim7 := { stood := { row := serverNobodyRow, standIns := [], harness := (true, "d3d1586a131969b78f6bfcd0257b113ce2630f613ee38600c4e36a534a45487b"), looks := true }, kinds := [], alts := [], laidByText := true, laidKinds := [.data, .data, .data, .data, .sentinel, .sentinel, .pinned], laidTests := true, laidLooks := .later }
def ServerNobodyCardSaid : Prop := Claim7.holds Tryz.pinned (.plain (OpenSpec.ofChange serverNobodySpec)) serverNobodyCard

/-- THE SECOND FORM's CARD OF 'crierlaw29.ServerNobody'. -/
def serverNobodyUptoCard : Claim7 := { stood := { row := serverNobodyUptoRow, standIns := [], harness := (true, "d3d1586a131969b78f6bfcd0257b113ce2630f613ee38600c4e36a534a45487b"), looks := true }, kinds := [], alts := [], laidByText := true, laidKinds := [.data, .data, .data, .data, .sentinel, .sentinel, .pinned], laidTests := true, laidLooks := .later }
def ServerNobodyUptoCardSaid : Prop := Claim7.holds Tryz.pinned (.plain (OpenSpec.upto serverNobodySpec)) serverNobodyUptoCard
end Rows
end Go.Proofs.YticjdabhldielaaGreatDoor
