/-
  DERIVED. GIVEN WITH THE SEED: THE CARDS: each row of YtadobobfjnmdlaaGreatDoorRows.lean that lists a variable, with what it lists TIED to the program's text (the seventh form; the later family's looks); each row that meets fmt, with fmt's text TOLD by the authors' own Lean function (tested against real Go, not proved from fmt's source: count such statements apart). THE CARD IS WHAT COUNTS. Prove the row's statement (the work); the ties are given (YtadobobfjnmdlaaGreatDoorTie.lean); close each card by the builder's one call (the guide's Derived/Test/ToyasCard.lean, 'card_holds'). Laid BY PROGRAM, IN A SANDBOX (cutbox-door.mjs). By AI agents, Wed Nov 11 2026. No macro, syntax, notation, axiom, sorry.
-/
import Derived.Test.YtadobobfjnmdlaaGreatDoorRows
import GoSem.ClaimSeven
namespace Go.Proofs.YtadobobfjnmdlaaGreatDoor
namespace Rows

/-- THE TIED CARD OF 'crierlaw28.SessionCuts'. -/
def sessionCutsCard : Claim7 := { stood := { row := sessionCutsRow, standIns := [], harness := (true, "270d4e08b241562fc1e280dc87e91f293125dc550611adc0a0c8a793b5a74a66"), looks := true }, kinds := [], alts := [], laidByText := true, laidKinds := [.data, .data, .data, .data, .sentinel, .sentinel, .pinned], laidTests := true, laidLooks := .later }
def SessionCutsCardSaid : Prop := Claim7.holds Tryz.pinned (.plain (OpenSpec.ofChange sessionCutsSpec)) sessionCutsCard

/-- THE TIED CARD OF 'crierlaw28.SessionEnds'. -/
def sessionEndsCard : Claim7 := { stood := { row := sessionEndsRow, standIns := [], harness := (true, "270d4e08b241562fc1e280dc87e91f293125dc550611adc0a0c8a793b5a74a66"), looks := true }, kinds := [], alts := [], laidByText := true, laidKinds := [.data, .data, .data, .data, .sentinel, .sentinel, .pinned], laidTests := true, laidLooks := .later }
def SessionEndsCardSaid : Prop := Claim7.holds Tryz.pinned (.plain (OpenSpec.ofChange sessionEndsSpec)) sessionEndsCard

/-- THE TIED CARD OF 'crierlaw28.SessionTells'. -/
def sessionTellsCard : Claim7 := { stood := { row := sessionTellsRow, standIns := [], harness := (true, "270d4e08b241562fc1e280dc87e91f293125dc550611adc0a0c8a793b5a74a66"), looks := true }, kinds := [], alts := [], laidByText := true, laidKinds := [.data, .data, .data, .data, .sentinel, .sentinel, .pinned], laidTests := true, laidLooks := .later }
def SessionTellsCardSaid : Prop := Claim7.holds Tryz.pinned (.plain (OpenSpec.ofChange sessionTellsSpec)) sessionTellsCard

/-- THE TIED CARD OF 'crierlaw28.SessionNobody'. -/
def sessionNobodyCard : Claim7 := { stood := { row := sessionNobodyRow, standIns := [], harness := (true, "270d4e08b241562fc1e280dc87e91f293125dc550611adc0a0c8a793b5a74a66"), looks := true }, kinds := [], alts := [], laidByText := true, laidKinds := [.data, .data, .data, .data, .sentinel, .sentinel, .pinned], laidTests := true, laidLooks := .later }
def SessionNobodyCardSaid : Prop := Claim7.holds Tryz.pinned (.plain (OpenSpec.ofChange sessionNobodySpec)) sessionNobodyCard

/-- THE SECOND FORM's CARD OF 'crierlaw28.SessionCuts'. -/
def sessionCutsUptoCard : Claim7 := { stood := { row := sessionCutsUptoRow, standIns := [], harness := (true, "270d4e08b241562fc1e280dc87e91f293125dc550611adc0a0c8a793b5a74a66"), looks := true }, kinds := [], alts := [], laidByText := true, laidKinds := [.data, .data, .data, .data, .sentinel, .sentinel, .pinned], laidTests := true, laidLooks := .later }
def SessionCutsUptoCardSaid : Prop := Claim7.holds Tryz.pinned (.plain (OpenSpec.upto sessionCutsSpec)) sessionCutsUptoCard

/-- THE SECOND FORM's CARD OF 'crierlaw28.SessionEnds'. -/
def sessionEndsUptoCard : Claim7 := { stood := { row := sessionEndsUptoRow, standIns := [], harness := (true, "270d4e08b241562fc1e280dc87e91f293125dc550611adc0a0c8a793b5a74a66"), looks := true }, kinds := [], alts := [], laidByText := true, laidKinds := [.data, .data, .data, .data, .sentinel, .sentinel, .pinned], laidTests := true, laidLooks := .later }
def SessionEndsUptoCardSaid : Prop := Claim7.holds Tryz.pinned (.plain (OpenSpec.upto sessionEndsSpec)) sessionEndsUptoCard

/-- THE SECOND FORM's CARD OF 'crierlaw28.SessionTells'. -/
def sessionTellsUptoCard : Claim7 := { stood := { row := sessionTellsUptoRow, standIns := [], harness := (true, "270d4e08b241562fc1e280dc87e91f293125dc550611adc0a0c8a793b5a74a66"), looks := true }, kinds := [], alts := [], laidByText := true, laidKinds := [.data, .data, .data, .data, .sentinel, .sentinel, .pinned], laidTests := true, laidLooks := .later }
def SessionTellsUptoCardSaid : Prop := Claim7.holds Tryz.pinned (.plain (OpenSpec.upto sessionTellsSpec)) sessionTellsUptoCard

/-- THE SECOND FORM's CARD OF 'crierlaw28.SessionNobody'. -/
def sessionNobodyUptoCard : Claim7 := { stood := { row := sessionNobodyUptoRow, standIns := [], harness := (true, "270d4e08b241562fc1e280dc87e91f293125dc550611adc0a0c8a793b5a74a66"), looks := true }, kinds := [], alts := [], laidByText := true, laidKinds := [.data, .data, .data, .data, .sentinel, .sentinel, .pinned], laidTests := true, laidLooks := .later }
def SessionNobodyUptoCardSaid : Prop := Claim7.holds Tryz.pinned (.plain (OpenSpec.upto sessionNobodySpec)) sessionNobodyUptoCard
end Rows
end Go.Proofs.YtadobobfjnmdlaaGreatDoor
