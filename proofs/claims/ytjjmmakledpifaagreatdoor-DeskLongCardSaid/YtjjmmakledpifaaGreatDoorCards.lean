/-
  DERIVED. GIVEN WITH THE SEED: THE CARDS: each row of YtjjmmakledpifaaGreatDoorRows.lean that lists a variable, with what it lists TIED to the program's text (the seventh form; the later family's looks); each row that meets fmt, with fmt's text TOLD by the authors' own Lean function (tested against real Go, not proved from fmt's source: count such statements apart). THE CARD IS WHAT COUNTS. Prove the row's statement (the work); the ties are given (YtjjmmakledpifaaGreatDoorTie.lean); close each card by the builder's one call (the guide's Derived/Test/ToyasCard.lean, 'card_holds'). Laid BY PROGRAM, IN A SANDBOX (cutbox-door.mjs). By AI agents, Wed Nov 11 2026. No macro, syntax, notation, axiom, sorry.
-/
import Derived.Test.YtjjmmakledpifaaGreatDoorRows
import GoSem.ClaimSeven
namespace Go.Proofs.YtjjmmakledpifaaGreatDoor
namespace Rows

/-- THE TIED CARD OF 'crierlaw31.DeskLong'. -/
def deskLongCard : Claim7 := { stood := { row := deskLongRow, standIns := [], harness := (true, "4cae9df973ab18fe22b498a3076558d05c2325f130d0a2b91555d45a8dbf23f8"), looks := true }, kinds := [], alts := [], laidByText := true, laidKinds := [.sentinel, .sentinel, .data, .data, .data, .pinned, .data], laidTests := true, laidLooks := .later }
def DeskLongCardSaid : Prop := Claim7.holds Tryz.pinned (.plain (OpenSpec.ofChange deskLongSpec)) deskLongCard

/-- THE SECOND FORM's CARD OF 'crierlaw31.DeskLong'. -/
def deskLongUptoCard : Claim7 := { stood := { row := deskLongUptoRow, standIns := [], harness := (true, "4cae9df973ab18fe22b498a3076558d05c2325f130d0a2b91555d45a8dbf23f8"), looks := true }, kinds := [], alts := [], laidByText := true, laidKinds := [.sentinel, .sentinel, .data, .data, .data, .pinned, .data], laidTests := true, laidLooks := .later }
def DeskLongUptoCardSaid : Prop := Claim7.holds Tryz.pinned (.plain (OpenSpec.upto deskLongSpec)) deskLongUptoCard
end Rows
end Go.Proofs.YtjjmmakledpifaaGreatDoor
