/- slices.Clone of no lines, maps.Clone of the lines on their way. -/
import Derived.Test.YtbflennacniacaaPmNew
import Derived.Shelf.SlMaps.Clone
namespace Go.Proofs.Ytbflennacniacaa
open Go.RowKit
set_option linter.unusedVariables false
theorem clone_nil (w : World) : Calls Try.prog 47 #[.slice .none 0 0] w fun e w' => e = .returned (.slice .none 0 0) ∧ w = w' := by
  have heq := eql_slice_nil (P := Try.prog) 72 78 Try.underlying72
  go_enter Try.func47, Try.ntmps47
  go_wp2_with fail
  go_ret
  exact ⟨rfl, rfl⟩
set_option maxHeartbeats 2000000 in
theorem mapclone_lays (b : Nat) (es : Array MapEntry) (clock : Nat) (w : World) (hb : w.heap[b]? = some (.map es clock)) :
    Calls Try.prog 49 #[.map (some b)] w fun e w' => e = .returned (.map (some w.heap.size)) ∧ w' = w.alloc (.map es clock) := by
  have hq := fun w => run_eql_map_nil_sl (P := Try.prog) w 73 _ _ (some b) Try.underlying73
  have hrun := run_maps_clone_sl (P := Try.prog) w 73 hb
  have hta := fun w v => run_typeAssert_map_sl (P := Try.prog) w 73 20 _ _ v Try.underlying73
  go_enter Try.func49, Try.ntmps49
  go_wp2_with fail
  rw [run_callFunc_extern Try.func59 (by kernel_rfl) (by kernel_rfl) (by kernel_rfl) (e := Extern.MapsClone.clone) (by kernel_rfl), hrun]
  simp only [Result.andThen]
  rw [Oper.upon_value]
  go_wp2_with fail
  go_ret
  exact ⟨rfl, rfl⟩
theorem mapclone_any (b n : Nat) (D : DataW Value) (w : World) (h : w.ownsMap Try.prog 3 heldR b n D) :
    Calls Try.prog 49 #[.map (some b)] w fun e w' => ∃ y, e = .returned (.map (some y)) ∧ w.heap.size ≤ y ∧ w'.ownsMap Try.prog 3 heldR y n D ∧ Below w.heap.size w w' := by
  obtain ⟨es, clock, hb, F, hs, hD⟩ := h
  refine (mapclone_lays b es clock w hb).mono fun e w' ⟨he, hw⟩ => ?_
  subst hw
  exact ⟨_, he, Nat.le_refl _, ⟨es, clock, (Go.MapKept.heap_alloc w _).1, F, hs, hD⟩, (Below.refl _ w).alloc (Nat.le_refl _) _⟩
end Go.Proofs.Ytbflennacniacaa
