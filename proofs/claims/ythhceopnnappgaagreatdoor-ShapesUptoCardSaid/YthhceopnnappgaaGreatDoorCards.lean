/-
  DERIVED. GIVEN WITH THE SEED: THE CARDS: each row of YthhceopnnappgaaGreatDoorRows.lean that lists a variable, with what it lists TIED to the program's text (the seventh form; the later family's looks); each row that meets fmt, with fmt's text TOLD by the authors' own Lean function (tested against real Go, not proved from fmt's source: count such statements apart). THE CARD IS WHAT COUNTS. Prove the row's statement (the work); the ties are given (YthhceopnnappgaaGreatDoorTie.lean); close each card by the builder's one call (the guide's Derived/Test/ToyasCard.lean, 'card_holds'). Laid BY PROGRAM, IN A SANDBOX (cutbox-door.mjs). By AI agents, Wed Nov 11 2026. No macro, syntax, notation, axiom, sorry.
-/
import Derived.Test.YthhceopnnappgaaGreatDoorRows
import GoSem.ClaimSeven
namespace Go.Proofs.YthhceopnnappgaaGreatDoor
namespace Rows

/-- THE TIED CARD OF 'concourselaw14.Shapes'. -/
def shapesCard : Claim7 := { stood := { row := shapesRow, standIns := [], harness := (true, "6ed6fe53e4dd7545e02980a187e1feb96235c27c76ec1b671fc171ca04e5923f"), looks := false }, kinds := [], alts := [], laidByText := true, laidKinds := [.data, .data, .data], laidTests := true, laidLooks := .later }
def ShapesCardSaid : Prop := Claim7.holds Tryz.pinned (.plain (OpenSpec.ofChange shapesSpec)) shapesCard

/-- THE TIED CARD OF 'concourselaw14.ShapeTells'. -/
def shapeTellsCard : Claim7 := { stood := { row := shapeTellsRow, standIns := [], harness := (true, "6ed6fe53e4dd7545e02980a187e1feb96235c27c76ec1b671fc171ca04e5923f"), looks := false }, kinds := [], alts := [], laidByText := true, laidKinds := [.data, .data, .data], laidTests := true, laidLooks := .later }
def ShapeTellsCardSaid : Prop := Claim7.holds Tryz.pinned (.plain (OpenSpec.ofChange shapeTellsSpec)) shapeTellsCard

/-- THE TIED CARD OF 'concourselaw14.ShapeGrows'. -/
def shapeGrowsCard : Claim7 := { stood := { row := shapeGrowsRow, standIns := [], harness := (true, "6ed6fe53e4dd7545e02980a187e1feb96235c27c76ec1b671fc171ca04e5923f"), looks := false }, kinds := [], alts := [], laidByText := true, laidKinds := [.data, .data, .data], laidTests := true, laidLooks := .later }
def ShapeGrowsCardSaid : Prop := Claim7.holds Tryz.pinned (.plain (OpenSpec.ofChange shapeGrowsSpec)) shapeGrowsCard

/-- THE SECOND FORM's CARD OF 'concourselaw14.Shapes'. -/
def shapesUptoCard : Claim7 := { stood := { row := shapesUptoRow, standIns := [], harness := (true, "6ed6fe53e4dd7545e02980a187e1feb96235c27c76ec1b671fc171ca04e5923f"), looks := false }, kinds := [], alts := [], laidByText := true, laidKinds := [.data, .data, .data], laidTests := true, laidLooks := .later }
def ShapesUptoCardSaid : Prop := Claim7.holds Tryz.pinned (.plain (OpenSpec.upto shapesSpec)) shapesUptoCard

/-- THE SECOND FORM's CARD OF 'concourselaw14.ShapeTells'. -/
def shapeTellsUptoCard : Claim7 := { stood := { row := shapeTellsUptoRow, standIns := [], harness := (true, "6ed6fe53e4dd7545e02980a187e1feb96235c27c76ec1b671fc171ca04e5923f"), looks := false }, kinds := [], alts := [], laidByText := true, laidKinds := [.data, .data, .data], laidTests := true, laidLooks := .later }
def ShapeTellsUptoCardSaid : Prop := Claim7.holds Tryz.pinned (.plain (OpenSpec.upto shapeTellsSpec)) shapeTellsUptoCard

/-- THE SECOND FORM's CARD OF 'concourselaw14.ShapeGrows'. -/
def shapeGrowsUptoCard : Claim7 := { stood := { row := shapeGrowsUptoRow, standIns := [], harness := (true, "6ed6fe53e4dd7545e02980a187e1feb96235c27c76ec1b671fc171ca04e5923f"), looks := false }, kinds := [], alts := [], laidByText := true, laidKinds := [.data, .data, .data], laidTests := true, laidLooks := .later }
def ShapeGrowsUptoCardSaid : Prop := Claim7.holds Tryz.pinned (.plain (OpenSpec.upto shapeGrowsSpec)) shapeGrowsUptoCard
end Rows
end Go.Proofs.YthhceopnnappgaaGreatDoor
