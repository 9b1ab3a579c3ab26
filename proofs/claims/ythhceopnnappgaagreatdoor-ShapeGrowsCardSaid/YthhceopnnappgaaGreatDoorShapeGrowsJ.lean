/- The law ShapeGrows: its walk, for both bools. -/
import Derived.Test.YthhceopnnappgaaGreatDoorShapeGrowsW
set_option linter.unusedVariables false
set_option linter.unusedSimpArgs false
namespace Go.Proofs.YthhceopnnappgaaGreatDoor
open Go.RowKit
theorem grows_join (W : World) (cores : Int) (O G : Bool) (hT : Tab W) :
  Calls Tryz.prog 5 #[.int .i64 cores, .bool O, .bool G] W fun e w' => e = .returned (.bool true) ∧ Below W.heap.size W w' := by
 cases O
 ·cases G
  ·exact shapeGrows_n cores W hT
  ·exact shapeGrows_g cores W hT
 ·cases G
  ·exact shapeGrows_o cores W hT
  ·exact shapeGrows_og cores W hT
end Go.Proofs.YthhceopnnappgaaGreatDoor
