/- pmem.New, by its contract. -/
import Derived.Test.YtbflennacniacaaPmCrash
namespace Go.Proofs.Ytbflennacniacaa
open Go.RowKit
set_option linter.unusedVariables false
def PM.fresh (n : Nat) : PM := { n := n, seen := fun _ => 0, lasts := fun _ => 0, way := fun _ => none, fuse := -1, fin := none, steps := 0, stores := 0, cnt := 0 }
set_option maxHeartbeats 1000000 in
theorem new_low (x : Int) (w : World) (h : x < 8) :
    Calls Try.prog 16 #[.int .i64 x] w fun e w' => e = .returned (.tuple #[.pointer .none, .int .i64 100]) ∧ w = w' := by
  have q1 : decide (x < 8) = true := by simpa using h
  go_enter Try.func16, Try.ntmps16
  go_wp2_with fail
  go_ret2
  exact ⟨rfl, rfl⟩
set_option maxHeartbeats 1000000 in
theorem new_high (x : Int) (w : World) (h : 65536 < x) :
    Calls Try.prog 16 #[.int .i64 x] w fun e w' => e = .returned (.tuple #[.pointer .none, .int .i64 100]) ∧ w = w' := by
  have q1 : decide (x < 8) = false := by simp; omega
  have q2 : decide (65536 < x) = true := by simpa using h
  go_enter Try.func16, Try.ntmps16
  go_wp2_with fail
  go_ret2
  exact ⟨rfl, rfl⟩
set_option maxHeartbeats 1000000 in
theorem new_odd (x : Nat) (w : World) (h1 : 8 ≤ x) (h2 : x ≤ 65536) (h : x % 8 ≠ 0) :
    Calls Try.prog 16 #[.int .i64 x] w fun e w' => e = .returned (.tuple #[.pointer .none, .int .i64 100]) ∧ w = w' := by
  have q1 : decide ((x : Int) < 8) = false := by simp; omega
  have q2 : decide ((65536 : Int) < x) = false := by simp; omega
  obtain ⟨r, hr⟩ : ∃ r, x % 8 = r := ⟨_, rfl⟩
  have e1 : (x : Int).tmod 8 = (r : Int) := by rw [← hr]; rfl
  have q3 : ((r : Int) != 0) = true := by rw [bne_iff_ne]; omega
  clear hr h
  go_enter Try.func16, Try.ntmps16
  go_wp2_with fail
  go_ret2
  exact ⟨rfl, rfl⟩
theorem run_make_lines (n : Nat) (h : n ≤ 8192) : ∃ R : Array Value, (∀ j, j < n * 8 → R[j]? = some (.int .u64 0)) ∧ ∀ w, (Instr.makeSlice 72 (.int .i64 (n : Int)) (.int .i64 (n : Int))).run Try.prog w = .ok (.slice (some ⟨w.heap.size, 0, .none⟩) n n) (w.alloc (.cells R 78)) := by
  obtain ⟨i0, hi, hz0, hz1, hz2⟩ := info_parts infoLine
  refine ⟨madeCells zeroLine.cells (n * i0.size), fun j hj => ?_, fun w => ?_⟩
  · rw [hz1]
    have hsz : j < n * 8 := hj
    have : (madeCells zeroLine.cells (n * 8))[j]? = some (zeroLine.cells[j % zeroLine.cells.size]!) := by
      simp [madeCells, hsz]
    rw [this]
    have hc : zeroLine.cells = #[.int .u64 0, .int .u64 0, .int .u64 0, .int .u64 0, .int .u64 0, .int .u64 0, .int .u64 0, .int .u64 0] := rfl
    rw [hc]
    have h8 : j % 8 < 8 := Nat.mod_lt _ (by omega)
    have : j % 8 = 0 ∨ j % 8 = 1 ∨ j % 8 = 2 ∨ j % 8 = 3 ∨ j % 8 = 4 ∨ j % 8 = 5 ∨ j % 8 = 6 ∨ j % 8 = 7 := by omega
    rcases this with h | h | h | h | h | h | h | h <;> (show some (_[j % 8]!) = _; rw [h]; rfl)
  · have hr := run_make (P := Try.prog) w 72 78 i0 zeroLine Try.underlying72 hi hz0 .i64 .i64 n n (by omega) (Int.le_refl _) (by rw [hz2]; omega) (by omega)
    simp only [Int.toNat_natCast] at hr
    exact hr
theorem fresh_mem (W : World) (a s l y n : Nat) (R : Array Value) (hR : ∀ j, j < n * 8 → R[j]? = some (.int .u64 0)) (h1 : 1 ≤ n) (h2 : n ≤ 8192)
    (hA : W.heap[a]? = some (.cells #[.slice (some ⟨s, 0, .none⟩) n n, .slice (some ⟨l, 0, .none⟩) n n, .map (some y), .int .i64 (-1), .slice .none 0 0, .int .i64 0, .int .i64 0] 75 (0, 0)))
    (hS : W.heap[s]? = some (.cells R 78 (0, 0))) (hL : W.heap[l]? = some (.cells R 78 (0, 0))) (hY : W.heap[y]? = some (.map #[] 0)) (hsl : s ≠ l) :
    Mem W ⟨a, s, l, y, a⟩ (PM.fresh n) := by
  have hsa : s ≠ a := by
    intro e
    rw [← e, hS] at hA
    injection hA with hA
    injection hA with _ hA _
    exact absurd hA (by decide)
  have hla : l ≠ a := by
    intro e
    rw [← e, hL] at hA
    injection hA with hA
    injection hA with _ hA _
    exact absurd hA (by decide)
  exact ⟨⟨n, n, 0, Nat.le_refl _, Nat.le_refl _, hA⟩, ⟨R, hS, hR⟩, ⟨R, hL, hR⟩, fun g hg => (by cases hg), ⟨.map [], WayRel.empty n, #[], 0, hY, ⟨by simp, Go.MapKept.stamped_empty 0, by simp⟩, Nat.le_refl _, rfl⟩, ⟨hsl, hsa, hla⟩, ⟨h1, h2⟩, fun _ => rfl⟩
theorem heap_at {w : World} {o : Obj} {k : Nat} (e : k = w.heap.size) : (w.alloc o).heap[k]? = some o := by
  subst e
  exact (Go.MapKept.heap_alloc w o).1
theorem heap_old {w : World} {o o' : Obj} {k : Nat} (h : w.heap[k]? = some o') : (w.alloc o).heap[k]? = some o' :=
  (Below.heap_alloc w o k (Array.getElem?_eq_some_iff.1 h).1).trans h
/-- Three blocks in a row, then the struct. -/
theorem fresh_any (w : World) (x y z : Obj) (a s l m n : Nat) (R : Array Value) (hR : ∀ j, j < n * 8 → R[j]? = some (.int .u64 0)) (h1 : 1 ≤ n) (h2 : n ≤ 8192)
    (hs : (((w.alloc x).alloc y).alloc z).heap[s]? = some (.cells R 78 (0, 0))) (hl : (((w.alloc x).alloc y).alloc z).heap[l]? = some (.cells R 78 (0, 0))) (hm : (((w.alloc x).alloc y).alloc z).heap[m]? = some (.map #[] 0)) (hsl : s ≠ l)
    (hs2 : w.heap.size ≤ s) (hl2 : w.heap.size ≤ l) (hm2 : w.heap.size ≤ m) (ha : a = w.heap.size + 1 + 1 + 1) :
    let W := ((((w.alloc x).alloc y).alloc z).alloc (.cells #[.slice (some ⟨s, 0, .none⟩) n n, .slice (some ⟨l, 0, .none⟩) n n, .map (some m), .int .i64 (-1), .slice .none 0 0, .int .i64 0, .int .i64 0] 75)).drew
    Mem W ⟨a, s, l, m, a⟩ (PM.fresh n) ∧ Below w.heap.size w W ∧ ∀ k, (PF.mk a s l m a).has k → w.heap.size ≤ k := by
  refine ⟨Mem.drew (fresh_mem _ a s l m n R hR h1 h2 (heap_at (by rw [ha]; simp)) (heap_old hs) (heap_old hl) (heap_old hm) hsl), Cv.drewN_below (((((Below.refl _ _).alloc (Nat.le_refl _) _).alloc (by simp) _).alloc (by simp; omega) _).alloc (by simp; omega) _) 1, fun k hk => ?_⟩
  rcases hk with h | h | h | h | h
  · have : k = a := h
    omega
  · have : k = s := h
    omega
  · have : k = l := h
    omega
  · have : k = m := h
    omega
  · have : k = a := h
    omega
set_option maxRecDepth 100000 in
set_option maxHeartbeats 2000000 in
theorem new_any (n : Nat) (w : World) (h1 : 1 ≤ n) (h2 : n ≤ 8192) :
    Calls Try.prog 16 #[.int .i64 (n * 8 : Nat)] w fun e w' => ∃ F : PF, e = .returned (.tuple #[.pointer (some ⟨F.a, 0, .none⟩), .int .i64 0]) ∧ Mem w' F (PM.fresh n) ∧ Below w.heap.size w w' ∧ ∀ k, F.has k → w.heap.size ≤ k := by
  obtain ⟨R, hR, hmk⟩ := run_make_lines n h2
  have HR := Lib.hid hR
  obtain ⟨x, hx⟩ : ∃ x, n * 8 = x := ⟨_, rfl⟩
  have q1 : decide ((x : Int) < 8) = false := by simp; omega
  have q2 : decide ((65536 : Int) < x) = false := by simp; omega
  have e1 : (x : Int).tmod 8 = 0 := by
    rw [← hx]
    show ((n * 8 % 8 : Nat) : Int) = 0
    simp
  have e2 : (x : Int).tdiv 8 = (n : Int) := by
    rw [← hx]
    show ((n * 8 / 8 : Nat) : Int) = n
    simp
  have hmm := @run_makeMap Try.prog
  have hx1 : x ≤ 65536 := by omega
  rw [hx]
  clear hR hx
  go_enter Try.func16, Try.ntmps16
  go_wp2_with fail
  go_region
  all_goals
    go_wp2_with fail
    go_ret2
    first | (exact ⟨⟨w.heap.size + 1 + 1 + 1, w.heap.size, w.heap.size + 1, w.heap.size + 1 + 1, w.heap.size + 1 + 1 + 1⟩, rfl, fresh_any w _ _ _ _ _ _ _ n R HR.out h1 h2 (heap_old (heap_old (heap_at rfl))) (heap_old (heap_at (by simp))) (heap_at (by simp)) (by omega) (by omega) (by omega) (by omega) rfl⟩) | (exact ⟨⟨w.heap.size + 1 + 1 + 1, w.heap.size, w.heap.size + 1 + 1, w.heap.size + 1, w.heap.size + 1 + 1 + 1⟩, rfl, fresh_any w _ _ _ _ _ _ _ n R HR.out h1 h2 (heap_old (heap_old (heap_at rfl))) (heap_at (by simp)) (heap_old (heap_at (by simp))) (by omega) (by omega) (by omega) (by omega) rfl⟩) | (exact ⟨⟨w.heap.size + 1 + 1 + 1, w.heap.size + 1, w.heap.size, w.heap.size + 1 + 1, w.heap.size + 1 + 1 + 1⟩, rfl, fresh_any w _ _ _ _ _ _ _ n R HR.out h1 h2 (heap_old (heap_at (by simp))) (heap_old (heap_old (heap_at rfl))) (heap_at (by simp)) (by omega) (by omega) (by omega) (by omega) rfl⟩) | (exact ⟨⟨w.heap.size + 1 + 1 + 1, w.heap.size + 1, w.heap.size + 1 + 1, w.heap.size, w.heap.size + 1 + 1 + 1⟩, rfl, fresh_any w _ _ _ _ _ _ _ n R HR.out h1 h2 (heap_old (heap_at (by simp))) (heap_at (by simp)) (heap_old (heap_old (heap_at rfl))) (by omega) (by omega) (by omega) (by omega) rfl⟩) | (exact ⟨⟨w.heap.size + 1 + 1 + 1, w.heap.size + 1 + 1, w.heap.size, w.heap.size + 1, w.heap.size + 1 + 1 + 1⟩, rfl, fresh_any w _ _ _ _ _ _ _ n R HR.out h1 h2 (heap_at (by simp)) (heap_old (heap_old (heap_at rfl))) (heap_old (heap_at (by simp))) (by omega) (by omega) (by omega) (by omega) rfl⟩) | (exact ⟨⟨w.heap.size + 1 + 1 + 1, w.heap.size + 1 + 1, w.heap.size + 1, w.heap.size, w.heap.size + 1 + 1 + 1⟩, rfl, fresh_any w _ _ _ _ _ _ _ n R HR.out h1 h2 (heap_at (by simp)) (heap_old (heap_at (by simp))) (heap_old (heap_old (heap_at rfl))) (by omega) (by omega) (by omega) (by omega) rfl⟩)
end Go.Proofs.Ytbflennacniacaa
