/-
  DERIVED. GIVEN WITH THE SEED: THE CARDS: each row of YtilkhmhgjbhfnaaGreatDoorRows.lean that lists a variable, with what it lists TIED to the program's text (the seventh form; the later family's looks); each row that meets fmt, with fmt's text TOLD by the authors' own Lean function (tested against real Go, not proved from fmt's source: count such statements apart). THE CARD IS WHAT COUNTS. Prove the row's statement (the work); the ties are given (YtilkhmhgjbhfnaaGreatDoorTie.lean); close each card by the builder's one call (the guide's Derived/Test/ToyasCard.lean, 'card_holds'). Laid BY PROGRAM, IN A SANDBOX (cutbox-door.mjs). By AI agents, Wed Nov 11 2026. No macro, syntax, notation, axiom, sorry.
-/
import Derived.Test.YtilkhmhgjbhfnaaGreatDoorRows
import GoSem.ClaimSeven
namespace Go.Proofs.YtilkhmhgjbhfnaaGreatDoor
namespace Rows

/-- THE TIED CARD OF 'concourselaw27.ConsoleRuns'. -/
def consoleRunsCard : Claim7 := { stood := { row := consoleRunsRow, standIns := [], harness := (true, "491ebac5efd6e54d8f16bbb3d3035543e801352bdf2f22c6393f08d809590bf0"), looks := true }, kinds := [], alts := [], laidByText := true, laidKinds := [.data, .data, .data, .data, .sentinel, .sentinel, .pinned], laidTests := true, laidLooks := .later }
def ConsoleRunsCardSaid : Prop := Claim7.holds Tryz.pinned (.plain (OpenSpec.ofChange consoleRunsSpec)) consoleRunsCard

/-- THE TIED CARD OF 'concourselaw27.ConsoleBegins'. -/
def consoleBeginsCard : Claim7 := { stood := { row := consoleBeginsRow, standIns := [], harness := (true, "491ebac5efd6e54d8f16bbb3d3035543e801352bdf2f22c6393f08d809590bf0"), looks := true }, kinds := [], alts := [], laidByText := true, laidKinds := [.data, .data, .data, .data, .sentinel, .sentinel, .pinned], laidTests := true, laidLooks := .later }
def ConsoleBeginsCardSaid : Prop := Claim7.holds Tryz.pinned (.plain (OpenSpec.ofChange consoleBeginsSpec)) consoleBeginsCard

/-- THE TIED CARD OF 'concourselaw27.ConsoleBytes'. -/
def consoleBytesCard : Claim7 := { stood := { row := consoleBytesRow, standIns := [], harness := (true, "491ebac5efd6e54d8f16bbb3d3035543e801352bdf2f22c6393f08d809590bf0"), looks := true }, kinds := [], alts := [], laidByText := true, laidKinds := [.data, .data, .data, .data, .sentinel, .sentinel, .pinned], laidTests := true, laidLooks := .later }
def ConsoleBytesCardSaid : Prop := Claim7.holds Tryz.pinned (.plain (OpenSpec.ofChange consoleBytesSpec)) consoleBytesCard

/-- THE TIED CARD OF 'concourselaw27.ConsoleBlanks'. -/
def consoleBlanksCard : Claim7 := { stood := { row := consoleBlanksRow, standIns := [], harness := (true, "491ebac5efd6e54d8f16bbb3d3035543e801352bdf2f22c6393f08d809590bf0"), looks := true }, kinds := [], alts := [], laidByText := true, laidKinds := [.data, .data, .data, .data, .sentinel, .sentinel, .pinned], laidTests := true, laidLooks := .later }
def ConsoleBlanksCardSaid : Prop := Claim7.holds Tryz.pinned (.plain (OpenSpec.ofChange consoleBlanksSpec)) consoleBlanksCard

/-- THE SECOND FORM's CARD OF 'concourselaw27.ConsoleRuns'. -/
def consoleRunsUptoCard : Claim7 := { stood := { row := consoleRunsUptoRow, standIns := [], harness := (true, "491ebac5efd6e54d8f16bbb3d3035543e801352bdf2f22c6393f08d809590bf0"), looks := true }, kinds := [], alts := [], laidByText := true, laidKinds := [.data, .data, .data, .data, .sentinel, .sentinel, .pinned], laidTests := true, laidLooks := .later }
def ConsoleRunsUptoCardSaid : Prop := Claim7.holds Tryz.pinned (.plain (OpenSpec.upto consoleRunsSpec)) consoleRunsUptoCard

/-- THE SECOND FORM's CARD OF 'concourselaw27.ConsoleBegins'. -/
def consoleBeginsUptoCard : Claim7 := { stood := { row := consoleBeginsUptoRow, standIns := [], harness := (true, "491ebac5efd6e54d8f16bbb3d3035543e801352bdf2f22c6393f08d809590bf0"), looks := true }, kinds := [], alts := [], laidByText := true, laidKinds := [.data, .data, .data, .data, .sentinel, .sentinel, .pinned], laidTests := true, laidLooks := .later }
def ConsoleBeginsUptoCardSaid : Prop := Claim7.holds Tryz.pinned (.plain (OpenSpec.upto consoleBeginsSpec)) consoleBeginsUptoCard

/-- THE SECOND FORM's CARD OF 'concourselaw27.ConsoleBytes'. -/
def consoleBytesUptoCard : Claim7 := { stood := { row := consoleBytesUptoRow, standIns := [], harness := (true, "491ebac5efd6e54d8f16bbb3d3035543e801352bdf2f22c6393f08d809590bf0"), looks := true }, kinds := [], alts := [], laidByText := true, laidKinds := [.data, .data, .data, .data, .sentinel, .sentinel, .pinned], laidTests := true, laidLooks := .later }
def ConsoleBytesUptoCardSaid : Prop := Claim7.holds Tryz.pinned (.plain (OpenSpec.upto consoleBytesSpec)) consoleBytesUptoCard

/-- THE SECOND FORM's CARD OF 'concourselaw27.ConsoleBlanks'. -/
def consoleBlanksUptoCard : Claim7 := { stood := { row := consoleBlanksUptoRow, standIns := [], harness := (true, "491ebac5efd6e54d8f16bbb3d3035543e801352bdf2f22c6393f08d809590bf0"), looks := true }, kinds := [], alts := [], laidByText := true, laidKinds := [.data, .data, .data, .data, .sentinel, .sentinel, .pinned], laidTests := true, laidLooks := .later }
def ConsoleBlanksUptoCardSaid : Prop := Claim7.holds Tryz.pinned (.plain (OpenSpec.upto consoleBlanksSpec)) consoleBlanksUptoCard
end Rows
end Go.Proofs.YtilkhmhgjbhfnaaGreatDoor
