/-
  DERIVED. GIVEN WITH THE SEED: THE CARDS: each row of YtkflaifopbodfaaGreatDoorRows.lean that lists a variable, with what it lists TIED to the program's text (the seventh form; the later family's looks); each row that meets fmt, with fmt's text TOLD by the authors' own Lean function (tested against real Go, not proved from fmt's source: count such statements apart). THE CARD IS WHAT COUNTS. Prove the row's statement (the work); the ties are given (YtkflaifopbodfaaGreatDoorTie.lean); close each card by the builder's one call (the guide's Derived/Test/ToyasCard.lean, 'card_holds'). Laid BY PROGRAM, IN A SANDBOX (cutbox-door.mjs). By AI agents, Wed Nov 11 2026. No macro, syntax, notation, axiom, sorry.
-/
import Derived.Test.YtkflaifopbodfaaGreatDoorRows
import GoSem.ClaimSeven
namespace Go.Proofs.YtkflaifopbodfaaGreatDoor
namespace Rows

/-- THE TIED CARD OF 'concourselaw25.HistoryRows'. -/
def historyRowsCard : Claim7 := { stood := { row := historyRowsRow, standIns := [], harness := (true, "867e8ac505d234ca671cbf6096ed2459665f12ee5519c121a1af2a091c08df83"), looks := true }, kinds := [], alts := [], laidByText := true, laidKinds := [.data, .data, .data], laidTests := true, laidLooks := .later }
def HistoryRowsCardSaid : Prop := Claim7.holds Tryz.pinned (.plain (OpenSpec.ofChange historyRowsSpec)) historyRowsCard

/-- THE TIED CARD OF 'concourselaw25.HistoryStale'. -/
def historyStaleCard : Claim7 := { stood := { row := historyStaleRow, standIns := [], harness := (true, "867e8ac505d234ca671cbf6096ed2459665f12ee5519c121a1af2a091c08df83"), looks := true }, kinds := [], alts := [], laidByText := true, laidKinds := [.data, .data, .data], laidTests := true, laidLooks := .later }
def HistoryStaleCardSaid : Prop := Claim7.holds Tryz.pinned (.plain (OpenSpec.ofChange historyStaleSpec)) historyStaleCard

/-- THE TIED CARD OF 'concourselaw25.HistoryFds'. -/
def historyFdsCard : Claim7 := { stood := { row := historyFdsRow, standIns := [], harness := (true, "867e8ac505d234ca671cbf6096ed2459665f12ee5519c121a1af2a091c08df83"), looks := true }, kinds := [], alts := [], laidByText := true, laidKinds := [.data, .data, .data], laidTests := true, laidLooks := .later }
def HistoryFdsCardSaid : Prop := Claim7.holds Tryz.pinned (.plain (OpenSpec.ofChange historyFdsSpec)) historyFdsCard

/-- THE TIED CARD OF 'concourselaw25.HistoryNone'. -/
def historyNoneCard : Claim7 := { stood := { row := historyNoneRow, standIns := [], harness := (true, "867e8ac505d234ca671cbf6096ed2459665f12ee5519c121a1af2a091c08df83"), looks := true }, kinds := [], alts := [], laidByText := true, laidKinds := [.data, .data, .data], laidTests := true, laidLooks := .later }
def HistoryNoneCardSaid : Prop := Claim7.holds Tryz.pinned (.plain (OpenSpec.ofChange historyNoneSpec)) historyNoneCard

/-- THE SECOND FORM's CARD OF 'concourselaw25.HistoryRows'. -/
def historyRowsUptoCard : Claim7 := { stood := { row := historyRowsUptoRow, standIns := [], harness := (true, "867e8ac505d234ca671cbf6096ed2459665f12ee5519c121a1af2a091c08df83"), looks := true }, kinds := [], alts := [], laidByText := true, laidKinds := [.data, .data, .data], laidTests := true, laidLooks := .later }
def HistoryRowsUptoCardSaid : Prop := Claim7.holds Tryz.pinned (.plain (OpenSpec.upto historyRowsSpec)) historyRowsUptoCard

/-- THE SECOND FORM's CARD OF 'concourselaw25.HistoryStale'. -/
def historyStaleUptoCard : Claim7 := { stood := { row := historyStaleUptoRow, standIns := [], harness := (true, "867e8ac505d234ca671cbf6096ed2459665f12ee5519c121a1af2a091c08df83"), looks := true }, kinds := [], alts := [], laidByText := true, laidKinds := [.data, .data, .data], laidTests := true, laidLooks := .later }
def HistoryStaleUptoCardSaid : Prop := Claim7.holds Tryz.pinned (.plain (OpenSpec.upto historyStaleSpec)) historyStaleUptoCard

/-- THE SECOND FORM's CARD OF 'concourselaw25.HistoryFds'. -/
def historyFdsUptoCard : Claim7 := { stood := { row := historyFdsUptoRow, standIns := [], harness := (true, "867e8ac505d234ca671cbf6096ed2459665f12ee5519c121a1af2a091c08df83"), looks := true }, kinds := [], alts := [], laidByText := true, laidKinds := [.data, .data, .data], laidTests := true, laidLooks := .later }
def HistoryFdsUptoCardSaid : Prop := Claim7.holds Tryz.pinned (.plain (OpenSpec.upto historyFdsSpec)) historyFdsUptoCard

/-- THE SECOND FORM's CARD OF 'concourselaw25.HistoryNone'. -/
def historyNoneUptoCard : Claim7 := { stood := { row := historyNoneUptoRow, standIns := [], harness := (true, "867e8ac505d234ca671cbf6096ed2459665f12ee5519c121a1af2a091c08df83"), looks := true }, kinds := [], alts := [], laidByText := true, laidKinds := [.data, .data, .data], laidTests := true, laidLooks := .later }
def HistoryNoneUptoCardSaid : Prop := Claim7.holds Tryz.pinned (.plain (OpenSpec.upto historyNoneSpec)) historyNoneUptoCard
end Rows
end Go.Proofs.YtkflaifopbodfaaGreatDoor
