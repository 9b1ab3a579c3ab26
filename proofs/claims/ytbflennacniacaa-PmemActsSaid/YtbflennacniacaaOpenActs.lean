/- A []concourselaw1.Act that came in: what its cells hold. -/
import Derived.Test.YtbflennacniacaaReads
import Derived.Test.YtbflennacniacaaPmStep
import Derived.Deep.SlicePairs
namespace Go.Proofs.Ytbflennacniacaa
open Go.ChangeShapes Go.WideShapes Go.ChangeAt Go.RowKit
set_option linter.unusedVariables false
/-- A slice of acts of three integers each. -/
def ActsAt (w : World) (A : Option Addr) (n : Nat) (K P V : Nat → Int) : Prop :=
  0 < n → ∃ g off, A = some ⟨g, off, none⟩ ∧ g < w.heap.size ∧ ∀ j, j < n → w.cell? ⟨g, off + j * 3, none⟩ = some (.int .i64 (K j)) ∧ w.cell? ⟨g, off + j * 3 + 1, none⟩ = some (.int .i64 (P j)) ∧ w.cell? ⟨g, off + j * 3 + 2, none⟩ = some (.int .i64 (V j)) ∧ wf64 (V j)
theorem ActsAt.below {w w' : World} {A : Option Addr} {n : Nat} {K P V : Nat → Int} (h : ActsAt w A n K P V) (hb : Below w.heap.size w w') : ActsAt w' A n K P V := fun hn => by
  obtain ⟨g, off, hA, hg, hc⟩ := h hn
  exact ⟨g, off, hA, Nat.lt_of_lt_of_le hg hb.size, fun j hj => ⟨(hb.cell (p := ⟨g, _, none⟩) hg).trans (hc j hj).1, (hb.cell (p := ⟨g, _, none⟩) hg).trans (hc j hj).2.1, (hb.cell (p := ⟨g, _, none⟩) hg).trans (hc j hj).2.2.1, (hc j hj).2.2.2⟩⟩
theorem lit_wf64 {z : Int} (h : (Lit.int .i64 z).wf = true) : wf64 z := by
  unfold wf64
  simpa [Lit.wf, IntKind.min, IntKind.max, IntKind.bits, IntKind.signed] using h
set_option maxRecDepth 100000 in
theorem isActs_of {H : Type} {enc : TypeId × Value → H} {W : World} {sp : Nat → Bool} {hd : Bool} {A : Option Addr} {n c : Nat} {d : DataW H} {p : List MemPlace}
    (h : DataW.Trod enc Try.prog W 0 sp hd 40 (.slice A n c) d p) : (∃ K P V : Nat → Int, ActsAt W A n K P V) ∧ n ≤ maxLen ∧ n ≤ c := by
  obtain ⟨fuel, hf⟩ := h
  rcases Go.Deep.open_slice Try.underlying40 hf with ⟨hcs, hx⟩ | ⟨a, len, cap, m, f, D, Pl, hcs, _, hl, hm, hmm, hx, hcell⟩
  · simp [Value.cells] at hcs
    obtain ⟨rfl, rfl, rfl⟩ := hcs
    exact ⟨⟨fun _ => 0, fun _ => 0, fun _ => 0, fun h => absurd h (by omega)⟩, Nat.zero_le _, Nat.le_refl _⟩
  · simp [Value.cells] at hcs
    obtain ⟨rfl, rfl, rfl⟩ := hcs
    have hnm : n ≤ m := by rw [hmm]; split <;> omega
    have ce : Try.prog.cellsOf 48 = 3 := by kernel_rfl
    have c1 : Try.prog.cellsOf 3 = 1 := by kernel_rfl
    have each : ∀ j, j < n → ∃ z : Int × Int × Int, W.cell? (a.add (j * 3)) = some (.int .i64 z.1) ∧ W.cell? (a.add (j * 3 + 1)) = some (.int .i64 z.2.1) ∧ W.cell? (a.add (j * 3 + 2)) = some (.int .i64 z.2.2) ∧ wf64 z.2.2 := by
      intro j hj
      obtain ⟨cs', h1, h2⟩ := hcell j (by omega)
      rw [ce] at h1
      obtain ⟨_, hlen, hc⟩ := World.cells?_some h1
      obtain ⟨xs, k, hk, hxy, _, hxl, hfs⟩ := DataW.trod_struct Try.underlying48 h2
      match xs, hxl, cs', hlen with
      | [y0, y1, y2], _, [v0, v1, v2], _ =>
        have g0 := hfs 0 _ rfl
        have g1 := hfs 1 _ rfl
        have g2 := hfs 2 _ rfl
        simp [c1] at g0 g1 g2
        have e0 := hc 0 (by omega)
        have e1 := hc 1 (by omega)
        have e2 := hc 2 (by omega)
        rw [Go.Deep.add_add] at e0 e1 e2
        obtain ⟨z0, hz0, _, _⟩ := DataW.trod_int Try.underlying3 g0
        obtain ⟨z1, hz1, _, _⟩ := DataW.trod_int Try.underlying3 g1
        obtain ⟨z2, hz2, _, hw2⟩ := DataW.trod_int Try.underlying3 g2
        simp at hz0 hz1 hz2
        subst hz0 hz1 hz2
        exact ⟨(z0, z1, z2), by simpa using e0, by simpa using e1, by simpa using e2, lit_wf64 hw2⟩
    refine ⟨?_, by omega, hl⟩
    by_cases hn : 0 < n
    · obtain ⟨b, off, spot⟩ := a
      obtain ⟨z, h0, _⟩ := each 0 hn
      have hspot : spot = .none := by simpa [Addr.add] using World.cell?_spot h0
      subst hspot
      obtain ⟨q, hq⟩ := Go.Deep.choose_lt each
      have ha : ∀ i, (⟨b, off, .none⟩ : Addr).add i = ⟨b, off + i, .none⟩ := fun i => by unfold Addr.add; split <;> simp_all
      refine ⟨fun j => (q j).1, fun j => (q j).2.1, fun j => (q j).2.2, fun _ => ⟨b, off, rfl, lt_of_cell3 (by simpa [Addr.add] using h0), fun j hj => ?_⟩⟩
      have hj2 := hq j hj
      simp only [ha, ← Nat.add_assoc] at hj2
      exact hj2
    · exact ⟨fun _ => 0, fun _ => 0, fun _ => 0, fun h => absurd h hn⟩
end Go.Proofs.Ytbflennacniacaa
