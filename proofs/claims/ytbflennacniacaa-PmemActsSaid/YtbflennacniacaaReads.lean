/- A slice that reads as a list of values; a []int that came in. -/
import Derived.Test.YtbflennacniacaaConv
import Derived.ProofKit
import Derived.OpenShut
import Derived.ChangeSlices
namespace Go.Proofs.Ytbflennacniacaa
open Go.ChangeShapes Go.WideShapes Go.ChangeAt Go.RowKit
set_option linter.unusedVariables false
/-- A slice (its address, its length) that reads as a list of values. -/
def Reads (w : World) (A : Option Addr) (n : Nat) (vs : List Value) : Prop :=
  vs.length = n ∧ (0 < n → ∃ g off, A = some ⟨g, off, none⟩ ∧ g < w.heap.size ∧ ∀ j, j < n → w.cell? ⟨g, off + j, none⟩ = vs[j]?)
theorem Reads.below {w w' : World} {A : Option Addr} {n : Nat} {vs : List Value} (h : Reads w A n vs) (hb : Below w.heap.size w w') : Reads w' A n vs :=
  ⟨h.1, fun hn => by
    obtain ⟨g, off, hA, hg, hc⟩ := h.2 hn
    exact ⟨g, off, hA, Nat.lt_of_lt_of_le hg hb.size, fun j hj => (hb.cell (p := ⟨g, off + j, none⟩) hg).trans (hc j hj)⟩⟩
theorem Reads.drewN {w : World} {A : Option Addr} {n : Nat} {vs : List Value} (h : Reads w A n vs) (q : Nat) : Reads (w.drewN q) A n vs := h
theorem Reads.at {w : World} {A : Option Addr} {n : Nat} {vs : List Value} (h : Reads w A n vs) (j : Nat) (hj : j < n) (d : Value) : ∃ g off, A = some ⟨g, off, none⟩ ∧ w.cell? ⟨g, off + j, none⟩ = some (vs.getD j d) := by
  obtain ⟨g, off, hA, _, hc⟩ := h.2 (by omega)
  refine ⟨g, off, hA, ?_⟩
  rw [hc j hj]
  have hl : j < vs.length := by rw [h.1]; exact hj
  simp [hl]
theorem lt_of_cell3 {w : World} {p : Addr} {u : Value} (h : w.cell? p = some u) : p.block < w.heap.size := by
  rcases Nat.lt_or_ge p.block w.heap.size with hl | hl
  · exact hl
  · exfalso
    unfold World.cell? at h
    rw [Array.getElem?_eq_none hl] at h
    cases h
theorem addr_at {w : World} {a : Addr} {n : Nat} {V : Nat → Value} (hn : 0 < n) (hcell : ∀ i, i < n → w.cell? (a.add i) = some (V i)) :
    ∃ g off, a = ⟨g, off, .none⟩ ∧ g < w.heap.size ∧ ∀ j, j < n → w.cell? ⟨g, off + j, .none⟩ = some (V j) := by
  obtain ⟨b, off, spot⟩ := a
  have h0 := hcell 0 hn
  have hspot : spot = .none := by simpa [Addr.add] using World.cell?_spot h0
  subst hspot
  refine ⟨b, off, rfl, lt_of_cell3 (by simpa [Addr.add] using h0), fun j hj => ?_⟩
  have hj2 := hcell j hj
  have ha : (⟨b, off, .none⟩ : Addr).add j = ⟨b, off + j, .none⟩ := by unfold Addr.add; split <;> simp_all
  rwa [ha] at hj2
theorem isInts_of {H : Type} {enc : TypeId × Value → H} {W : World} {sp : Nat → Bool} {hd : Bool} {A : Option Addr} {n c : Nat} {d : DataW H} {p : List MemPlace}
    (h : DataW.Trod enc Try.prog W 0 sp hd 22 (.slice A n c) d p) :
    ∃ xs : List Int, Reads W A n (xs.map (Value.int .i64)) ∧ (∀ x ∈ xs, (Lit.int .i64 x).wf = true) ∧ n ≤ maxLen ∧ n ≤ c ∧ (A = .none → c = 0) ∧ ((d = .nil ∧ n = 0) ∨ ∃ el spr, d = .slice el spr ∧ el.length = n) := by
  obtain ⟨fuel, hf⟩ := h
  rcases open_ints Try.underlying22 Try.underlying3 (by kernel_rfl) hf with ⟨hcs, hx⟩ | ⟨a, len, cap, zs, hcs, _, hl, hm, hz, hx, hcell, hws⟩
  · simp [Value.cells] at hcs
    obtain ⟨rfl, rfl, rfl⟩ := hcs
    injection hx with hx1 _
    exact ⟨[], ⟨rfl, fun h => absurd h (by omega)⟩, fun x hx => (by cases hx), Nat.zero_le _, Nat.le_refl _, fun _ => rfl, Or.inl ⟨hx1, rfl⟩⟩
  · simp [Value.cells] at hcs
    obtain ⟨rfl, rfl, rfl⟩ := hcs
    injection hx with hx1 _
    have hnl : n ≤ zs.length := by rw [hz]; split <;> omega
    refine ⟨zs.take n, ⟨by simp; omega, fun hn => ?_⟩, fun x hx => hws x (List.mem_of_mem_take hx), by omega, hl, (fun e => by cases e), Or.inr ⟨_, _, hx1, by simp [lits]; omega⟩⟩
    obtain ⟨g, off, rfl, hg, hc⟩ := addr_at hn fun i hi => hcell i (by omega)
    refine ⟨g, off, rfl, hg, fun j hj => ?_⟩
    rw [hc j hj]
    have hjl : j < zs.length := by omega
    simp [hj, hjl]
end Go.Proofs.Ytbflennacniacaa
