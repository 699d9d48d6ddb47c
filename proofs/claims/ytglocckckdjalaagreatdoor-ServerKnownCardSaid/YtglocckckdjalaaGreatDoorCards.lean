/-
  DERIVED. GIVEN WITH THE SEED: THE CARDS: each row of YtglocckckdjalaaGreatDoorRows.lean that lists a variable, with what it lists TIED to the program's text (the seventh form; the later family's looks); each row that meets fmt, with fmt's text TOLD by the authors' own Lean function (tested against real Go, not proved from fmt's source: count such statements apart). THE CARD IS WHAT COUNTS. Prove the row's statement (the work); the ties are given (YtglocckckdjalaaGreatDoorTie.lean); close each card by the builder's one call (the guide's Derived/Test/ToyasCard.lean, 'card_holds'). Laid BY PROGRAM, IN A SANDBOX (cutbox-door.mjs). By AI agents, Wed Nov 11 2026. No macro, syntax, notation, axiom, sorry.
-/
import Derived.Test.YtglocckckdjalaaGreatDoorRows
import GoSem.ClaimSeven
namespace Go.Proofs.YtglocckckdjalaaGreatDoor
namespace Rows

/-- THE TIED CARD OF 'crierlaw29.ServerKnown'. -/
def serverKnownCard : Claim7 := { stood := { row := serverKnownRow, standIns := [], harness := (true, "7731073da2eae079cbbf8f6f28e6211ae888acd3dfef8a7128bd87ca6ab8f9a3"), looks := true }, kinds := [], alts := [], laidByText := true, laidKinds := [.data, .data, .data, .data, .sentinel, .sentinel, .pinned], laidTests := true, laidLooks := .later }
def ServerKnownCardSaid : Prop := Claim7.holds Tryz.pinned (.plain (OpenSpec.ofChange serverKnownSpec)) serverKnownCard

/-- THE SECOND FORM's CARD OF 'crierlaw29.ServerKnown'. -/
def serverKnownUptoCard : Claim7 := { stood := { row := serverKnownUptoRow, standIns := [], harness := (true, "7731073da2eae079cbbf8f6f28e6211ae888acd3dfef8a7128bd87ca6ab8f9a3"), looks := true }, kinds := [], alts := [], laidByText := true, laidKinds := [.data, .data, .data, .data, .sentinel, .sentinel, .pinned], laidTests := true, laidLooks := .later }
def ServerKnownUptoCardSaid : Prop := Claim7.holds Tryz.pinned (.plain (OpenSpec.upto serverKnownSpec)) serverKnownUptoCard
end Rows
end Go.Proofs.YtglocckckdjalaaGreatDoor
