/-
  DERIVED. GIVEN WITH THE SEED: THE CARDS: each row of YtpncfeaaffgkfaaGreatDoorRows.lean that lists a variable, with what it lists TIED to the program's text (the seventh form; the later family's looks); each row that meets fmt, with fmt's text TOLD by the authors' own Lean function (tested against real Go, not proved from fmt's source: count such statements apart). THE CARD IS WHAT COUNTS. Prove the row's statement (the work); the ties are given (YtpncfeaaffgkfaaGreatDoorTie.lean); close each card by the builder's one call (the guide's Derived/Test/ToyasCard.lean, 'card_holds'). Laid BY PROGRAM, IN A SANDBOX (cutbox-door.mjs). By AI agents, Wed Nov 11 2026. No macro, syntax, notation, axiom, sorry.
-/
import Derived.Test.YtpncfeaaffgkfaaGreatDoorRows
import GoSem.ClaimSeven
namespace Go.Proofs.YtpncfeaaffgkfaaGreatDoor
namespace Rows

/-- THE TIED CARD OF 'crierlaw09.RequestNobody'. -/
def requestNobodyCard : Claim7 := { stood := { row := requestNobodyRow, standIns := [], harness := (true, "8bef69709c74dd5c6f036e319885f8730c947a58c033c735c183630b95f801fe"), looks := true }, kinds := [], alts := [], laidByText := true, laidKinds := [.data, .data, .data, .data, .sentinel, .sentinel, .pinned], laidTests := true, laidLooks := .later }
def RequestNobodyCardSaid : Prop := Claim7.holds Tryz.pinned (.plain (OpenSpec.ofChange requestNobodySpec)) requestNobodyCard

/-- THE TIED CARD OF 'crierlaw09.RequestPieces'. -/
def requestPiecesCard : Claim7 := { stood := { row := requestPiecesRow, standIns := [], harness := (true, "8bef69709c74dd5c6f036e319885f8730c947a58c033c735c183630b95f801fe"), looks := true }, kinds := [], alts := [], laidByText := true, laidKinds := [.data, .data, .data, .data, .sentinel, .sentinel, .pinned], laidTests := true, laidLooks := .later }
def RequestPiecesCardSaid : Prop := Claim7.holds Tryz.pinned (.plain (OpenSpec.ofChange requestPiecesSpec)) requestPiecesCard

/-- THE TIED CARD OF 'crierlaw09.RequestBack'. -/
def requestBackCard : Claim7 := { stood := { row := requestBackRow, standIns := [], harness := (true, "8bef69709c74dd5c6f036e319885f8730c947a58c033c735c183630b95f801fe"), looks := true }, kinds := [], alts := [], laidByText := true, laidKinds := [.data, .data, .data, .data, .sentinel, .sentinel, .pinned], laidTests := true, laidLooks := .later }
def RequestBackCardSaid : Prop := Claim7.holds Tryz.pinned (.plain (OpenSpec.ofChange requestBackSpec)) requestBackCard

/-- THE TIED CARD OF 'crierlaw09.RequestStops'. -/
def requestStopsCard : Claim7 := { stood := { row := requestStopsRow, standIns := [], harness := (true, "8bef69709c74dd5c6f036e319885f8730c947a58c033c735c183630b95f801fe"), looks := true }, kinds := [], alts := [], laidByText := true, laidKinds := [.data, .data, .data, .data, .sentinel, .sentinel, .pinned], laidTests := true, laidLooks := .later }
def RequestStopsCardSaid : Prop := Claim7.holds Tryz.pinned (.plain (OpenSpec.ofChange requestStopsSpec)) requestStopsCard

/-- THE TIED CARD OF 'crierlaw09.RequestKnown'. -/
def requestKnownCard : Claim7 := { stood := { row := requestKnownRow, standIns := [], harness := (true, "8bef69709c74dd5c6f036e319885f8730c947a58c033c735c183630b95f801fe"), looks := true }, kinds := [], alts := [], laidByText := true, laidKinds := [.data, .data, .data, .data, .sentinel, .sentinel, .pinned], laidTests := true, laidLooks := .later }
def RequestKnownCardSaid : Prop := Claim7.holds Tryz.pinned (.plain (OpenSpec.ofChange requestKnownSpec)) requestKnownCard

/-- THE TIED CARD OF 'crierlaw09.RequestFields'. -/
def requestFieldsCard : Claim7 := { stood := { row := requestFieldsRow, standIns := [], harness := (true, "8bef69709c74dd5c6f036e319885f8730c947a58c033c735c183630b95f801fe"), looks := true }, kinds := [], alts := [], laidByText := true, laidKinds := [.data, .data, .data, .data, .sentinel, .sentinel, .pinned], laidTests := true, laidLooks := .later }
def RequestFieldsCardSaid : Prop := Claim7.holds Tryz.pinned (.plain (OpenSpec.ofChange requestFieldsSpec)) requestFieldsCard

/-- THE SECOND FORM's CARD OF 'crierlaw09.RequestNobody'. -/
def requestNobodyUptoCard : Claim7 := { stood := { row := requestNobodyUptoRow, standIns := [], harness := (true, "8bef69709c74dd5c6f036e319885f8730c947a58c033c735c183630b95f801fe"), looks := true }, kinds := [], alts := [], laidByText := true, laidKinds := [.data, .data, .data, .data, .sentinel, .sentinel, .pinned], laidTests := true, laidLooks := .later }
def RequestNobodyUptoCardSaid : Prop := Claim7.holds Tryz.pinned (.plain (OpenSpec.upto requestNobodySpec)) requestNobodyUptoCard

/-- THE SECOND FORM's CARD OF 'crierlaw09.RequestPieces'. -/
def requestPiecesUptoCard : Claim7 := { stood := { row := requestPiecesUptoRow, standIns := [], harness := (true, "8bef69709c74dd5c6f036e319885f8730c947a58c033c735c183630b95f801fe"), looks := true }, kinds := [], alts := [], laidByText := true, laidKinds := [.data, .data, .data, .data, .sentinel, .sentinel, .pinned], laidTests := true, laidLooks := .later }
def RequestPiecesUptoCardSaid : Prop := Claim7.holds Tryz.pinned (.plain (OpenSpec.upto requestPiecesSpec)) requestPiecesUptoCard

/-- THE SECOND FORM's CARD OF 'crierlaw09.RequestBack'. -/
def requestBackUptoCard : Claim7 := { stood := { row := requestBackUptoRow, standIns := [], harness := (true, "8bef69709c74dd5c6f036e319885f8730c947a58c033c735c183630b95f801fe"), looks := true }, kinds := [], alts := [], laidByText := true, laidKinds := [.data, .data, .data, .data, .sentinel, .sentinel, .pinned], laidTests := true, laidLooks := .later }
def RequestBackUptoCardSaid : Prop := Claim7.holds Tryz.pinned (.plain (OpenSpec.upto requestBackSpec)) requestBackUptoCard

/-- THE SECOND FORM's CARD OF 'crierlaw09.RequestStops'. -/
def requestStopsUptoCard : Claim7 := { stood := { row := requestStopsUptoRow, standIns := [], harness := (true, "8bef69709c74dd5c6f036e319885f8730c947a58c033c735c183630b95f801fe"), looks := true }, kinds := [], alts := [], laidByText := true, laidKinds := [.data, .data, .data, .data, .sentinel, .sentinel, .pinned], laidTests := true, laidLooks := .later }
def RequestStopsUptoCardSaid : Prop := Claim7.holds Tryz.pinned (.plain (OpenSpec.upto requestStopsSpec)) requestStopsUptoCard

/-- THE SECOND FORM's CARD OF 'crierlaw09.RequestKnown'. -/
def requestKnownUptoCard : Claim7 := { stood := { row := requestKnownUptoRow, standIns := [], harness := (true, "8bef69709c74dd5c6f036e319885f8730c947a58c033c735c183630b95f801fe"), looks := true }, kinds := [], alts := [], laidByText := true, laidKinds := [.data, .data, .data, .data, .sentinel, .sentinel, .pinned], laidTests := true, laidLooks := .later }
def RequestKnownUptoCardSaid : Prop := Claim7.holds Tryz.pinned (.plain (OpenSpec.upto requestKnownSpec)) requestKnownUptoCard

/-- THE SECOND FORM's CARD OF 'crierlaw09.RequestFields'. -/
def requestFieldsUptoCard : Claim7 := { stood := { row := requestFieldsUptoRow, standIns := [], harness := (true, "8bef69709c74dd5c6f036e319885f8730c947a58c033c735c183630b95f801fe"), looks := true }, kinds := [], alts := [], laidByText := true, laidKinds := [.data, .data, .data, .data, .sentinel, .sentinel, .pinned], laidTests := true, laidLooks := .later }
def RequestFieldsUptoCardSaid : Prop := Claim7.holds Tryz.pinned (.plain (OpenSpec.upto requestFieldsSpec)) requestFieldsUptoCard
end Rows
end Go.Proofs.YtpncfeaaffgkfaaGreatDoor
