/- A text of k bytes, each 0. -/
import Derived.Test.YtbflennacniacaaAwake21
import Derived.Deep.OwnRows
namespace Go.Proofs.Ytbflennacniacaa
open Go.RowKit
set_option linter.unusedVariables false
def zeros (k : Nat) : ByteArray := ⟨(List.replicate k 0).toArray⟩
theorem zeros_size (k : Nat) : (zeros k).size = k := by
  show (List.replicate k 0).toArray.size = k
  simp
/-- 'make([]byte, k)' and 'string(..)' of it. -/
theorem zeros_make (k : Nat) (hk : k ≤ 65536) (w : World) : ∃ w', (Instr.makeSlice 59 (.int .i64 (k : Int)) (.int .i64 (k : Int))).run Try.prog w = .ok (.slice (some ⟨w.heap.size, 0, .none⟩) k k) w' ∧ Below w.heap.size w w' ∧
    (convert 59 9 (.slice (some ⟨w.heap.size, 0, .none⟩) k k)).run Try.prog w' = .ok (.string (zeros k)) w' := by
  have hr := run_make_row' (P := Try.prog) 59 5 (.int .u8 0) 1 Try.underlying59 infoU8 rfl .i64 .i64 k (by omega) (by omega) w
  refine ⟨_, hr, (Below.refl _ _).alloc (Nat.le_refl _) _, ?_⟩
  have hb := heap_alloc_new w (.cells (madeCells #[.int .u8 0] k) 5)
  refine Cv.back_of (l := List.replicate k 0) ⟨by simp, fun i hi => ⟨?_, frozen_of_row _ _ i _ _ hb⟩⟩ k k (by simp)
  have hi' : i < k := by simpa using hi
  rw [cell_of_row _ _ i _ _ (0, 0) hb]
  simp [madeCells, hi', Nat.mod_one]
end Go.Proofs.Ytbflennacniacaa
