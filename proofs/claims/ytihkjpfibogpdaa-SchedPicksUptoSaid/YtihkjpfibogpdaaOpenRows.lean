/- What the bound of an upto statement gives; a [][]bool that came in. -/
import Derived.Test.YtihkjpfibogpdaaRows
import Derived.Test.YtihkjpfibogpdaaOpenVals
import Derived.Test.YtihkjpfibogpdaaFairInv
namespace Go.Proofs.Ytihkjpfibogpdaa
open Go.ChangeShapes Go.WideShapes Go.ChangeAt Go.RowKit
set_option linter.unusedVariables false
theorem bulk_pos {H : Type} (d : DataW H) : 1 ≤ Rows.uptoBulk d := by
  cases d with
  | lit l => cases l <;> simp [Rows.uptoBulk]
  | nil => simp [Rows.uptoBulk]
  | ptr d => simp [Rows.uptoBulk]
  | slice elems spare => simp [Rows.uptoBulk]
  | agg parts => simp [Rows.uptoBulk]
  | iface t d => simp [Rows.uptoBulk]
  | map entries => simp [Rows.uptoBulk]
  | held h => simp [Rows.uptoBulk]
theorem bulk_part {H : Type} {d : DataW H} {l : List (DataW H)} (h : d ∈ l) : Rows.uptoBulk d ≤ Rows.uptoBulkAll l := by
  induction l with
  | nil => cases h
  | cons x r ih =>
    simp only [Rows.uptoBulkAll]
    cases List.mem_cons.1 h with
    | inl e => subst e; omega
    | inr e => have := ih e; omega
theorem bulk_len {H : Type} (l : List (DataW H)) : l.length ≤ Rows.uptoBulkAll l := by
  induction l with
  | nil => simp [Rows.uptoBulkAll]
  | cons x r ih => have := bulk_pos x; simp only [Rows.uptoBulkAll, List.length_cons]; omega
theorem bulk_slice {H : Type} (elems spare : List (DataW H)) : Rows.uptoBulkAll elems + 1 ≤ Rows.uptoBulk (.slice elems spare) := by
  simp only [Rows.uptoBulk]
  omega
/-- A slice's length by the bound. -/
theorem bulk_count {H : Type} {d : DataW H} {n b : Nat} (h : Rows.uptoBulk d ≤ b) (hd : (d = .nil ∧ n = 0) ∨ ∃ el spr, d = .slice el spr ∧ el.length = n) : n ≤ b := by
  rcases hd with ⟨_, h0⟩ | ⟨el, spr, rfl, hl⟩
  · omega
  · have h1 := bulk_slice el spr
    have h2 := bulk_len el
    omega
theorem isRows_of {H : Type} {enc : TypeId × Value → H} {W : World} {hd : Bool} {A : Option Addr} {n c b : Nat} {d : DataW H} {p : List MemPlace}
    (h : DataW.Trod enc Try.prog W 0 (fun _ => true) hd 52 (.slice A n c) d p) (hb : Rows.uptoBulk d ≤ b) (hbs : b ≤ 17592186043904) :
    ∃ rows : List (List Bool), Rows W A n rows ∧ n ≤ b := by
  obtain ⟨fuel, hf⟩ := h
  rcases Go.Deep.open_slice1 Try.underlying52 (by kernel_rfl) hf with ⟨hcs, hx⟩ | ⟨a, len, cap, m, f, V, D, Pl, hcs, _, hl, hm, hmm, hx, hcell⟩
  · simp [Value.cells] at hcs
    obtain ⟨rfl, rfl, rfl⟩ := hcs
    exact ⟨[], ⟨rfl, fun r hr => (by cases hr), fun h => absurd h (by omega)⟩, Nat.zero_le _⟩
  · simp [Value.cells] at hcs
    obtain ⟨rfl, rfl, rfl⟩ := hcs
    injection hx with hx1 _
    subst hx1
    have hbn : n ≤ b := bulk_count hb (.inr ⟨_, _, rfl, by simp⟩)
    have hnm : n ≤ m := by rw [hmm]; simpa using hl
    have each : ∀ j, j < n → ∃ (bs : List Bool) (B : Option Addr) (k q : Nat), V j = .slice B k q ∧ Reads W B k (bs.map Value.bool) ∧ bs.length ≤ b := by
      intro j hj
      obtain ⟨_, ht⟩ := hcell j (by omega)
      have hDj : Rows.uptoBulk (D j) ≤ b := by
        have h1 := bulk_slice ((List.range n).map D) ((List.range (m - n)).map fun j => D (n + j))
        have h2 : Rows.uptoBulk (D j) ≤ Rows.uptoBulkAll ((List.range n).map D) := bulk_part (List.mem_map.2 ⟨j, List.mem_range.2 hj, rfl⟩)
        omega
      have hsl : ∃ B k q, V j = .slice B k q := by
        rcases Go.Deep.open_slice Try.underlying38 ht with ⟨h1, _⟩ | ⟨a2, l2, c2, _, _, _, _, h1, _⟩
        · exact ⟨.none, 0, 0, by simpa using h1⟩
        · exact ⟨some a2, l2, c2, by simpa using h1⟩
      obtain ⟨B, k, q, hV⟩ := hsl
      rw [hV] at ht
      obtain ⟨bs, hr, _, _, _, hd⟩ := isBools_of (d := D j) (p := Pl j) (A := B) (n := k) (c := q) ⟨f, by simpa [Value.cells] using ht⟩
      have hk := bulk_count hDj hd
      have hbl : bs.length = k := by simpa using hr.1
      exact ⟨bs, B, k, q, hV, hr, by omega⟩
    have hV : ∃ F : Nat → List Bool, ∀ j, j < n → ∃ (B : Option Addr) (k q : Nat), V j = .slice B k q ∧ Reads W B k ((F j).map Value.bool) ∧ (F j).length ≤ b := by
      refine ⟨fun j => if h : j < n then (each j h).choose else [], fun j hj => ?_⟩
      simp only [hj, dif_pos]
      exact (each j hj).choose_spec
    obtain ⟨F, hF⟩ := hV
    refine ⟨(List.range n).map F, ⟨by simp, fun r hr => ?_, fun hn => ?_⟩, hbn⟩
    · obtain ⟨j, hj, rfl⟩ := List.mem_map.1 hr
      obtain ⟨_, _, _, _, _, h3⟩ := hF j (List.mem_range.1 hj)
      omega
    · obtain ⟨g, off, rfl, hg, hc⟩ := addr_at hn fun i hi => (hcell i (by omega)).1
      refine ⟨g, off, rfl, hg, fun j hj => ?_⟩
      obtain ⟨B, k, q, h1, h2, _⟩ := hF j hj
      refine ⟨B, k, q, (hc j hj).trans (by rw [h1]), ?_⟩
      have e : ((List.range n).map F).getD j [] = F j := by simp [List.getD_eq_getElem?_getD, hj]
      rw [e]
      exact h2
end Go.Proofs.Ytihkjpfibogpdaa
