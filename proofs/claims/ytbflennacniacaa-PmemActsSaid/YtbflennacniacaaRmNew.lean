/- concourseref1.NewMem: the sizes that it takes. -/
import Derived.Test.YtbflennacniacaaRmNew0
namespace Go.Proofs.Ytbflennacniacaa
open Go.RowKit
set_option linter.unusedVariables false
theorem rfresh_mem (W : World) (a s l y g n : Nat) (R G : Array Value) (hR : ∀ j, j < n * 8 → R[j]? = some (.int .u64 0)) (hGo : ∀ j, j < n → G[j]? = some (.bool false)) (h1 : 1 ≤ n) (h2 : n ≤ 8192)
    (hA : W.heap[a]? = some (.cells #[.slice (some ⟨s, 0, .none⟩) (n * 8 : Nat) (n * 8 : Nat), .slice (some ⟨l, 0, .none⟩) (n * 8 : Nat) (n * 8 : Nat), .slice (some ⟨y, 0, .none⟩) (n * 8 : Nat) (n * 8 : Nat), .slice (some ⟨g, 0, .none⟩) n n, .bool false, .int .i64 0, .slice .none 0 0, .int .i64 0, .int .i64 0] 52 (0, 0)))
    (hS : W.heap[s]? = some (.cells R 29 (0, 0))) (hL : W.heap[l]? = some (.cells R 29 (0, 0))) (hY : W.heap[y]? = some (.cells R 29 (0, 0))) (hG : W.heap[g]? = some (.cells G 4 (0, 0))) (hd : s ≠ l ∧ s ≠ y ∧ l ≠ y) :
    RMem W ⟨a, s, l, y, g, a⟩ (RM.fresh n) :=
  ⟨⟨n * 8, n * 8, n * 8, n, n * 8, Nat.le_refl _, Nat.le_refl _, Nat.le_refl _, ⟨Nat.le_refl _, Nat.le_refl _⟩, hA⟩, ⟨R, hS, hR⟩, ⟨R, hL, hR⟩, ⟨R, hY, hR⟩, ⟨G, hG, hGo⟩, fun g hg => (by cases hg), hd, ⟨h1, h2⟩, fun _ => rfl⟩
theorem run_make_words (N : Nat) (h : N ≤ 65536) : ∃ R : Array Value, (∀ j, j < N → R[j]? = some (.int .u64 0)) ∧ ∀ w, (Instr.makeSlice 49 (.int .i64 (N : Int)) (.int .i64 (N : Int))).run Try.prog w = .ok (.slice (some ⟨w.heap.size, 0, .none⟩) N N) (w.alloc (.cells R 29)) := by
  refine ⟨madeCells #[.int .u64 0] N, fun j hj => ?_, fun w => run_make_row' (P := Try.prog) 49 29 (.int .u64 0) 8 Try.underlying49 infoWord rfl .i64 .i64 N (by omega) (by omega) w⟩
  simp [madeCells, hj, Nat.mod_one]
theorem run_make_flags (N : Nat) (h : N ≤ 65536) : ∃ R : Array Value, (∀ j, j < N → R[j]? = some (.bool false)) ∧ ∀ w, (Instr.makeSlice 50 (.int .i64 (N : Int)) (.int .i64 (N : Int))).run Try.prog w = .ok (.slice (some ⟨w.heap.size, 0, .none⟩) N N) (w.alloc (.cells R 4)) := by
  refine ⟨madeCells #[.bool false] N, fun j hj => ?_, fun w => run_make_row' (P := Try.prog) 50 4 (.bool false) 1 Try.underlying50 infoFlag rfl .i64 .i64 N (by omega) (by omega) w⟩
  simp [madeCells, hj, Nat.mod_one]
end Go.Proofs.Ytbflennacniacaa
