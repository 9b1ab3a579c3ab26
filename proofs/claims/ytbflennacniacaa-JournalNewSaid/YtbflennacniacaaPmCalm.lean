/- pmem.Mem without a fuse: what each operation makes of it, in plain words. -/
import Derived.Test.YtbflennacniacaaPmLive
namespace Go.Proofs.Ytbflennacniacaa
open Go.RowKit
set_option linter.unusedVariables false
/-- A memory without a fuse, whose power is on. -/
def PM.calm (M : PM) : Prop := M.fuse < 0 ∧ M.fin = none
theorem PM.calm.ticked {M : PM} (h : M.calm) : M.ticked = M := by
  unfold PM.ticked
  rw [if_neg (fun hh => by have := h.1; omega)]
theorem calm_fresh (n : Nat) : (PM.fresh n).calm := ⟨by show (-1 : Int) < 0; omega, rfl⟩
theorem store_calm {M : PM} (h : M.calm) (k : Nat) (v : Int) (hk : k < M.n * 8) : M.store k v = M.stepped.stored k v := by
  unfold PM.store
  have hp : placeV M.n (k : Int) = 0 := by unfold placeV; rw [if_neg (by omega)]
  rw [if_pos hp, Int.toNat_natCast]
  exact PM.calm.ticked ⟨h.1, h.2⟩
theorem flush_calm {M : PM} (h : M.calm) (q : Nat) (hq : q < M.n) : M.flush q = M.stepped.flushed q := by
  unfold PM.flush
  have hp : lineE M.n (q : Int) = 0 := by unfold lineE; rw [if_neg (by omega)]
  rw [if_pos hp, h.2, Int.toNat_natCast]
  exact PM.calm.ticked ⟨h.1, h.2⟩
theorem fence_calm {M : PM} (h : M.calm) : M.fence = M.stepped.lasted := by
  unfold PM.fence
  rw [h.2]
  exact PM.calm.ticked ⟨h.1, h.2⟩
theorem PM.calm.store {M : PM} (h : M.calm) (p v : Int) : (M.store p v).calm := by
  unfold PM.store
  split
  · rw [PM.calm.ticked (M := M.stepped.stored p.toNat v) ⟨h.1, h.2⟩]
    exact ⟨h.1, h.2⟩
  · exact h
theorem PM.calm.flush {M : PM} (h : M.calm) (q : Int) : (M.flush q).calm := by
  unfold PM.flush
  split
  · rw [h.2]
    rw [if_pos (show (none : Option (Nat → Int)).isNone = true from rfl), PM.calm.ticked (M := M.stepped.flushed q.toNat) ⟨h.1, h.2⟩]
    exact ⟨h.1, h.2⟩
  · exact h
theorem PM.calm.fence {M : PM} (h : M.calm) : M.fence.calm := by
  rw [fence_calm h]
  exact ⟨h.1, h.2⟩
theorem crashI_drop {was ls : Nat → Int} {keep : Int} (hk : keep < 0) (a : Nat) : (crashI was keep ls a).2 = ls := by
  induction a with
  | zero => rfl
  | succ a ih =>
    obtain ⟨S, hS⟩ : ∃ S, sameW (lineOf was a) (lineOf ls a) = S := ⟨_, rfl⟩
    have hkb : keptB keep (crashI was keep ls a).1 = false := by unfold keptB; rw [if_pos hk]
    cases S with
    | true => rw [crashI_same ih rfl hS]
    | false =>
      rw [crashI_other ih rfl hS, hkb]
      rfl
theorem crash_drop (M : PM) {keep : Int} (hk : keep < 0) : M.crash keep = { M with seen := M.lasts, way := fun _ => none, fuse := -1, fin := none } := by
  unfold PM.crash
  rw [crashI_drop hk]
end Go.Proofs.Ytbflennacniacaa
