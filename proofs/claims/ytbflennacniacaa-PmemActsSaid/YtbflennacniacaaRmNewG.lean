/- concourseref1.NewMem: the sizes that it takes: the walk. -/
import Derived.Test.YtbflennacniacaaRmNew
namespace Go.Proofs.Ytbflennacniacaa
open Go.RowKit
set_option linter.unusedVariables false
theorem RMem.drew {w : World} {F : RF} {M : RM} (h : RMem w F M) : RMem w.drew F M := h.same fun _ _ => rfl
set_option maxRecDepth 100000 in
set_option maxHeartbeats 4000000 in
theorem rnew_any (n : Nat) (w : World) (h1 : 1 ≤ n) (h2 : n ≤ 8192) :
    Calls Try.prog 27 #[.int .i64 (n * 8 : Nat)] w fun e w' => ∃ F : RF, e = .returned (.tuple #[.pointer (some ⟨F.a, 0, .none⟩), .int .i64 0]) ∧ RMem w' F (RM.fresh n) ∧ Below w.heap.size w w' ∧ ∀ k, F.has k → w.heap.size ≤ k := by
  obtain ⟨x, hx⟩ : ∃ x, n * 8 = x := ⟨_, rfl⟩
  obtain ⟨R, hR, hmk⟩ := run_make_words x (by omega)
  obtain ⟨G, hG, hmg⟩ := run_make_flags n (by omega)
  have HR := Lib.hid hR
  have HG := Lib.hid hG
  have q1 : decide ((x : Int) < 8) = false := by simp; omega
  have q2 : decide ((65536 : Int) < x) = false := by simp; omega
  have e1 : (x : Int).tmod 8 = 0 := by
    rw [← hx]
    show ((n * 8 % 8 : Nat) : Int) = 0
    simp
  have e2 : (x : Int).tdiv 8 = (n : Int) := by
    rw [← hx]
    show ((n * 8 / 8 : Nat) : Int) = n
    simp
  have hx1 : x ≤ 65536 := by omega
  rw [hx]
  have HX := Lib.hid hx
  clear hR hG hx
  go_enter Try.func27, Try.ntmps27
  go_wp2_with fail
  go_region
  all_goals
    go_wp2_with fail
    go_ret2
    have hx := HX.out
    subst hx
    refine ⟨⟨w.heap.size + 1 + 1 + 1 + 1, _, _, _, _, w.heap.size + 1 + 1 + 1 + 1⟩, rfl, RMem.drew (rfresh_mem _ _ _ _ _ _ n R G HR.out HG.out h1 h2 (heap_at (by simp)) ?_ ?_ ?_ ?_ ?_), Cv.drewN_below ((((((Below.refl _ _).alloc (Nat.le_refl _) _).alloc (by simp) _).alloc (by first | (simp; done) | (simp; omega)) _).alloc (by first | (simp; done) | (simp; omega)) _).alloc (by first | (simp; done) | (simp; omega)) _) 1, fun k hk => ?_⟩
    all_goals first | (refine heap_old (heap_at ?_); simp; done) | (refine heap_old (heap_old (heap_at ?_)); simp; done) | (refine heap_old (heap_old (heap_old (heap_at ?_))); simp; done) | (refine heap_old (heap_old (heap_old (heap_old (heap_at ?_)))); simp; done) | omega | (rcases hk with h | h | h | h | h | h <;> (dsimp only at h; omega))
end Go.Proofs.Ytbflennacniacaa
