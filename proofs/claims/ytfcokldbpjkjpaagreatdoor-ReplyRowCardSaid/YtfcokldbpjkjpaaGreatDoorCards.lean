/-
  DERIVED. GIVEN WITH THE SEED: THE CARDS: each row of YtfcokldbpjkjpaaGreatDoorRows.lean that lists a variable, with what it lists TIED to the program's text (the seventh form; the later family's looks); each row that meets fmt, with fmt's text TOLD by the authors' own Lean function (tested against real Go, not proved from fmt's source: count such statements apart). THE CARD IS WHAT COUNTS. Prove the row's statement (the work); the ties are given (YtfcokldbpjkjpaaGreatDoorTie.lean); close each card by the builder's one call (the guide's Derived/Test/ToyasCard.lean, 'card_holds'). Laid BY PROGRAM, IN A SANDBOX (cutbox-door.mjs). By AI agents, Wed Nov 11 2026. No macro, syntax, notation, axiom, sorry.
-/
import Derived.Test.YtfcokldbpjkjpaaGreatDoorRows
import GoSem.ClaimSeven
namespace Go.Proofs.YtfcokldbpjkjpaaGreatDoor
namespace Rows

/-- THE TIED CARD OF 'crierlaw10.ReplyWrites'. -/
def replyWritesCard : Claim7 := { stood := { row := replyWritesRow, standIns := [], harness := (true, "f9ffbdd9d4a308fcf778c975eb0dd397e979fa0f079bdb4608f335a76d435314"), looks := true }, kinds := [], alts := [], laidByText := true, laidKinds := [.data, .data, .data, .data, .sentinel, .sentinel, .pinned], laidTests := true, laidLooks := .later }
def ReplyWritesCardSaid : Prop := Claim7.holds Tryz.pinned (.plain (OpenSpec.ofChange replyWritesSpec)) replyWritesCard

/-- THE TIED CARD OF 'crierlaw10.ReplyReads'. -/
def replyReadsCard : Claim7 := { stood := { row := replyReadsRow, standIns := [], harness := (true, "f9ffbdd9d4a308fcf778c975eb0dd397e979fa0f079bdb4608f335a76d435314"), looks := true }, kinds := [], alts := [], laidByText := true, laidKinds := [.data, .data, .data, .data, .sentinel, .sentinel, .pinned], laidTests := true, laidLooks := .later }
def ReplyReadsCardSaid : Prop := Claim7.holds Tryz.pinned (.plain (OpenSpec.ofChange replyReadsSpec)) replyReadsCard

/-- THE TIED CARD OF 'crierlaw10.ReplyCodes'. -/
def replyCodesCard : Claim7 := { stood := { row := replyCodesRow, standIns := [], harness := (true, "f9ffbdd9d4a308fcf778c975eb0dd397e979fa0f079bdb4608f335a76d435314"), looks := true }, kinds := [], alts := [], laidByText := true, laidKinds := [.data, .data, .data, .data, .sentinel, .sentinel, .pinned], laidTests := true, laidLooks := .later }
def ReplyCodesCardSaid : Prop := Claim7.holds Tryz.pinned (.plain (OpenSpec.ofChange replyCodesSpec)) replyCodesCard

/-- THE TIED CARD OF 'crierlaw10.ReplyBack'. -/
def replyBackCard : Claim7 := { stood := { row := replyBackRow, standIns := [], harness := (true, "f9ffbdd9d4a308fcf778c975eb0dd397e979fa0f079bdb4608f335a76d435314"), looks := true }, kinds := [], alts := [], laidByText := true, laidKinds := [.data, .data, .data, .data, .sentinel, .sentinel, .pinned], laidTests := true, laidLooks := .later }
def ReplyBackCardSaid : Prop := Claim7.holds Tryz.pinned (.plain (OpenSpec.ofChange replyBackSpec)) replyBackCard

/-- THE TIED CARD OF 'crierlaw10.ReplyRow'. -/
def replyRowCard : Claim7 := { stood := { row := replyRowRow, standIns := [], harness := (true, "f9ffbdd9d4a308fcf778c975eb0dd397e979fa0f079bdb4608f335a76d435314"), looks := true }, kinds := [], alts := [], laidByText := true, laidKinds := [.data, .data, .data, .data, .sentinel, .sentinel, .pinned], laidTests := true, laidLooks := .later }
def ReplyRowCardSaid : Prop := Claim7.holds Tryz.pinned (.plain (OpenSpec.ofChange replyRowSpec)) replyRowCard

/-- THE TIED CARD OF 'crierlaw10.ReplyOnce'. -/
def replyOnceCard : Claim7 := { stood := { row := replyOnceRow, standIns := [], harness := (true, "f9ffbdd9d4a308fcf778c975eb0dd397e979fa0f079bdb4608f335a76d435314"), looks := true }, kinds := [], alts := [], laidByText := true, laidKinds := [.data, .data, .data, .data, .sentinel, .sentinel, .pinned], laidTests := true, laidLooks := .later }
def ReplyOnceCardSaid : Prop := Claim7.holds Tryz.pinned (.plain (OpenSpec.ofChange replyOnceSpec)) replyOnceCard

/-- THE TIED CARD OF 'crierlaw10.ReplyKnown'. -/
def replyKnownCard : Claim7 := { stood := { row := replyKnownRow, standIns := [], harness := (true, "f9ffbdd9d4a308fcf778c975eb0dd397e979fa0f079bdb4608f335a76d435314"), looks := true }, kinds := [], alts := [], laidByText := true, laidKinds := [.data, .data, .data, .data, .sentinel, .sentinel, .pinned], laidTests := true, laidLooks := .later }
def ReplyKnownCardSaid : Prop := Claim7.holds Tryz.pinned (.plain (OpenSpec.ofChange replyKnownSpec)) replyKnownCard

/-- THE SECOND FORM's CARD OF 'crierlaw10.ReplyWrites'. -/
def replyWritesUptoCard : Claim7 := { stood := { row := replyWritesUptoRow, standIns := [], harness := (true, "f9ffbdd9d4a308fcf778c975eb0dd397e979fa0f079bdb4608f335a76d435314"), looks := true }, kinds := [], alts := [], laidByText := true, laidKinds := [.data, .data, .data, .data, .sentinel, .sentinel, .pinned], laidTests := true, laidLooks := .later }
def ReplyWritesUptoCardSaid : Prop := Claim7.holds Tryz.pinned (.plain (OpenSpec.upto replyWritesSpec)) replyWritesUptoCard

/-- THE SECOND FORM's CARD OF 'crierlaw10.ReplyReads'. -/
def replyReadsUptoCard : Claim7 := { stood := { row := replyReadsUptoRow, standIns := [], harness := (true, "f9ffbdd9d4a308fcf778c975eb0dd397e979fa0f079bdb4608f335a76d435314"), looks := true }, kinds := [], alts := [], laidByText := true, laidKinds := [.data, .data, .data, .data, .sentinel, .sentinel, .pinned], laidTests := true, laidLooks := .later }
def ReplyReadsUptoCardSaid : Prop := Claim7.holds Tryz.pinned (.plain (OpenSpec.upto replyReadsSpec)) replyReadsUptoCard

/-- THE SECOND FORM's CARD OF 'crierlaw10.ReplyCodes'. -/
def replyCodesUptoCard : Claim7 := { stood := { row := replyCodesUptoRow, standIns := [], harness := (true, "f9ffbdd9d4a308fcf778c975eb0dd397e979fa0f079bdb4608f335a76d435314"), looks := true }, kinds := [], alts := [], laidByText := true, laidKinds := [.data, .data, .data, .data, .sentinel, .sentinel, .pinned], laidTests := true, laidLooks := .later }
def ReplyCodesUptoCardSaid : Prop := Claim7.holds Tryz.pinned (.plain (OpenSpec.upto replyCodesSpec)) replyCodesUptoCard

/-- THE SECOND FORM's CARD OF 'crierlaw10.ReplyBack'. -/
def replyBackUptoCard : Claim7 := { stood := { row := replyBackUptoRow, standIns := [], harness := (true, "f9ffbdd9d4a308fcf778c975eb0dd397e979fa0f079bdb4608f335a76d435314"), looks := true }, kinds := [], alts := [], laidByText := true, laidKinds := [.data, .data, .data, .data, .sentinel, .sentinel, .pinned], laidTests := true, laidLooks := .later }
def ReplyBackUptoCardSaid : Prop := Claim7.holds Tryz.pinned (.plain (OpenSpec.upto replyBackSpec)) replyBackUptoCard

/-- THE SECOND FORM's CARD OF 'crierlaw10.ReplyRow'. -/
def replyRowUptoCard : Claim7 := { stood := { row := replyRowUptoRow, standIns := [], harness := (true, "f9ffbdd9d4a308fcf778c975eb0dd397e979fa0f079bdb4608f335a76d435314"), looks := true }, kinds := [], alts := [], laidByText := true, laidKinds := [.data, .data, .data, .data, .sentinel, .sentinel, .pinned], laidTests := true, laidLooks := .later }
def ReplyRowUptoCardSaid : Prop := Claim7.holds Tryz.pinned (.plain (OpenSpec.upto replyRowSpec)) replyRowUptoCard

/-- THE SECOND FORM's CARD OF 'crierlaw10.ReplyOnce'. -/
def replyOnceUptoCard : Claim7 := { stood := { row := replyOnceUptoRow, standIns := [], harness := (true, "f9ffbdd9d4a308fcf778c975eb0dd397e979fa0f079bdb4608f335a76d435314"), looks := true }, kinds := [], alts := [], laidByText := true, laidKinds := [.data, .data, .data, .data, .sentinel, .sentinel, .pinned], laidTests := true, laidLooks := .later }
def ReplyOnceUptoCardSaid : Prop := Claim7.holds Tryz.pinned (.plain (OpenSpec.upto replyOnceSpec)) replyOnceUptoCard

/-- THE SECOND FORM's CARD OF 'crierlaw10.ReplyKnown'. -/
def replyKnownUptoCard : Claim7 := { stood := { row := replyKnownUptoRow, standIns := [], harness := (true, "f9ffbdd9d4a308fcf778c975eb0dd397e979fa0f079bdb4608f335a76d435314"), looks := true }, kinds := [], alts := [], laidByText := true, laidKinds := [.data, .data, .data, .data, .sentinel, .sentinel, .pinned], laidTests := true, laidLooks := .later }
def ReplyKnownUptoCardSaid : Prop := Claim7.holds Tryz.pinned (.plain (OpenSpec.upto replyKnownSpec)) replyKnownUptoCard
end Rows
end Go.Proofs.YtfcokldbpjkjpaaGreatDoor
