/- A []string that came in. -/
import Derived.Test.YtbflennacniacaaConv
import Derived.ProofKit
import Derived.OpenShut
import Derived.Deep.Strs
namespace Go.Proofs.Ytbflennacniacaa
open Go.ChangeShapes Go.WideShapes Go.ChangeAt Go.RowKit
set_option linter.unusedVariables false
def strV (l : List UInt8) : Value := .string ⟨l.toArray⟩
/-- A slice (its address, its length) that reads as a list of texts. -/
def Texts (w : World) (A : Option Addr) (n : Nat) (ts : List (List UInt8)) : Prop :=
  ts.length = n ∧ (0 < n → ∃ g off, A = some ⟨g, off, none⟩ ∧ g < w.heap.size ∧ ∀ j, j < n → w.cell? ⟨g, off + j, none⟩ = some (strV (ts.getD j [])))
theorem Texts.below {w w' : World} {A : Option Addr} {n : Nat} {ts : List (List UInt8)} (h : Texts w A n ts) (hb : Below w.heap.size w w') : Texts w' A n ts :=
  ⟨h.1, fun hn => by
    obtain ⟨g, off, hA, hg, hc⟩ := h.2 hn
    exact ⟨g, off, hA, Nat.lt_of_lt_of_le hg hb.size, fun j hj => (hb.cell (p := ⟨g, off + j, none⟩) hg).trans (hc j hj)⟩⟩
theorem lt_of_cell {w : World} {p : Addr} {u : Value} (h : w.cell? p = some u) : p.block < w.heap.size := by
  rcases Nat.lt_or_ge p.block w.heap.size with hl | hl
  · exact hl
  · exfalso
    unfold World.cell? at h
    rw [Array.getElem?_eq_none hl] at h
    cases h
theorem isTexts_of {H : Type} {enc : TypeId × Value → H} {W : World} {sp : Nat → Bool} {hd : Bool} {A : Option Addr} {n c : Nat} {d : DataW H} {p : List MemPlace}
    (h : DataW.Trod enc Try.prog W 0 sp hd 61 (.slice A n c) d p) :
    ∃ ts : List (List UInt8), Texts W A n ts ∧ (∀ t ∈ ts, t.length ≤ maxLen) ∧ n ≤ maxLen ∧ n ≤ c ∧ (A = none → c = 0) ∧ ((d = .nil ∧ n = 0) ∨ ∃ el spr, d = .slice el spr ∧ el.length = n) := by
  obtain ⟨fuel, hf⟩ := h
  rcases open_strings Try.underlying61 Try.underlying9 (by kernel_rfl) hf with ⟨hcs, hx⟩ | ⟨a, len, cap, ss, hcs, _, hl, hm, hz, hx, hcell, hws⟩
  · simp [Value.cells] at hcs
    obtain ⟨rfl, rfl, rfl⟩ := hcs
    injection hx with hx1 _
    exact ⟨[], ⟨rfl, fun h => absurd h (by omega)⟩, fun t ht => (by cases ht), Nat.zero_le _, Nat.le_refl _, fun _ => rfl, Or.inl ⟨hx1, rfl⟩⟩
  · simp [Value.cells] at hcs
    obtain ⟨rfl, rfl, rfl⟩ := hcs
    injection hx with hx1 _
    have hnl : n ≤ ss.length := by rw [hz]; split <;> omega
    refine ⟨(ss.take n).map fun s => s.data.toList, ⟨by rw [List.length_map, List.length_take]; omega, fun hn => ?_⟩, ?_, by omega, hl, (fun e => by cases e), Or.inr ⟨_, _, hx1, by unfold strs; rw [List.length_map, List.length_take]; omega⟩⟩
    · obtain ⟨b, off, spot⟩ := a
      have h0 := hcell 0 (by omega)
      have hspot : spot = none := by simpa [Addr.add] using World.cell?_spot h0
      subst hspot
      refine ⟨b, off, rfl, lt_of_cell (by simpa [Addr.add] using h0), fun j hj => ?_⟩
      have hj2 := hcell j (by omega)
      have ha : (⟨b, off, none⟩ : Addr).add j = ⟨b, off + j, none⟩ := by unfold Addr.add; split <;> simp_all
      rw [ha] at hj2
      rw [hj2]
      have hg : ss.getD j ByteArray.empty = ss[j]'(by omega) := by simp [show j < ss.length by omega]
      rw [hg]
      simp [strV, hj, show j < ss.length by omega]
    · intro t ht
      obtain ⟨s, hs, rfl⟩ := List.mem_map.1 ht
      exact hws s (List.mem_of_mem_take hs)
end Go.Proofs.Ytbflennacniacaa
