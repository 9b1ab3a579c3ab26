/- Fair in plain words: how long a core has been ready, when it was picked last. -/
namespace Go.Proofs.Ytihkjpfibogpdaa
set_option linter.unusedVariables false
/-- Is core c ready at step i? -/
def rdy (rows : List (List Bool)) (i c : Nat) : Bool := (rows.getD i []).getD c false
/-- How many steps behind one another core c was ready, ahead of step i. -/
def runs (rows : List (List Bool)) : Nat → Nat → Nat
  | 0, _ => 0
  | i + 1, c => if rdy rows i c then runs rows i c + 1 else 0
/-- The step (from 1 on) in which core c was picked last, ahead of step i. -/
def lastP (picked : List Int) : Nat → Nat → Nat
  | 0, _ => 0
  | i + 1, c => if picked.getD i 0 = (c : Int) then i + 1 else lastP picked i c
theorem runs_le (rows : List (List Bool)) (c : Nat) : ∀ i, runs rows i c ≤ i
  | 0 => Nat.le_refl _
  | i + 1 => by
    have := runs_le rows c i
    simp only [runs]
    split <;> omega
theorem lastP_le (picked : List Int) (c : Nat) : ∀ i, lastP picked i c ≤ i
  | 0 => Nat.le_refl _
  | i + 1 => by
    have := lastP_le picked c i
    simp only [lastP]
    split <;> omega
theorem runs_ge (rows : List (List Bool)) (c : Nat) : ∀ i W, W ≤ runs rows i c ↔ W ≤ i ∧ ∀ j, i - W ≤ j → j < i → rdy rows j c = true
  | 0, W => by
    simp only [runs]
    constructor
    · intro h; exact ⟨h, fun j _ h2 => absurd h2 (by omega)⟩
    · intro h; exact h.1
  | i + 1, W => by
    have ih := runs_ge rows c i (W - 1)
    simp only [runs]
    by_cases hr : rdy rows i c = true
    · rw [if_pos hr]
      constructor
      · intro h
        have h2 := ih.1 (by omega)
        refine ⟨by omega, fun j h3 h4 => ?_⟩
        by_cases e : j = i
        · rw [e]; exact hr
        · exact h2.2 j (by omega) (by omega)
      · intro h
        have h2 := ih.2 ⟨by omega, fun j h3 h4 => h.2 j (by omega) (by omega)⟩
        omega
    · rw [if_neg hr]
      constructor
      · intro h
        exact ⟨by omega, fun j h3 h4 => by omega⟩
      · intro h
        refine Nat.le_of_not_lt fun h2 => hr (h.2 i (by omega) (by omega))
theorem lastP_low (picked : List Int) (c : Nat) : ∀ i q, q ≤ i → (lastP picked i c ≤ q ↔ ∀ j, q ≤ j → j < i → picked.getD j 0 ≠ (c : Int))
  | 0, q, h => by
    simp only [lastP]
    exact ⟨fun _ j _ h2 => absurd h2 (by omega), fun _ => Nat.zero_le _⟩
  | i + 1, q, h => by
    simp only [lastP]
    by_cases hp : picked.getD i 0 = (c : Int)
    · rw [if_pos hp]
      constructor
      · intro h2 j h3 h4; omega
      · intro h2
        refine Nat.le_of_not_lt fun h3 => h2 i (by omega) (by omega) hp
    · rw [if_neg hp]
      by_cases hq : q ≤ i
      · have ih := lastP_low picked c i q hq
        rw [ih]
        constructor
        · intro h2 j h3 h4
          by_cases e : j = i
          · rw [e]; exact hp
          · exact h2 j h3 (by omega)
        · intro h2 j h3 h4
          exact h2 j h3 (by omega)
      · have := lastP_le picked c i
        constructor
        · intro _ j h3 h4; omega
        · intro _; omega
/-- A core that is ready through the window that ends behind step i, and picked nowhere in it. -/
def missed (rows : List (List Bool)) (picked : List Int) (W i c : Nat) : Prop := W ≤ runs rows (i + 1) c ∧ lastP picked (i + 1) c ≤ i + 1 - W
/-- No core is ready through a window and picked nowhere in it. -/
def Fairly (rows : List (List Bool)) (picked : List Int) (window : Int) : Prop :=
  1 ≤ window → window ≤ (min rows.length picked.length : Nat) → ∀ i, i < min rows.length picked.length → ∀ c, ¬ missed rows picked window.toNat i c
noncomputable def fairV (rows : List (List Bool)) (picked : List Int) (window : Int) : Bool := @decide (Fairly rows picked window) (Classical.propDecidable _)
theorem fairV_iff (rows : List (List Bool)) (picked : List Int) (window : Int) : fairV rows picked window = true ↔ Fairly rows picked window := by
  unfold fairV
  simp
/-- A window from step i on in which core c is ready, and is not picked. -/
def window (rows : List (List Bool)) (picked : List Int) (W i c : Nat) : Prop := ∀ j, i ≤ j → j < i + W → rdy rows j c = true ∧ picked.getD j 0 ≠ (c : Int)
theorem missed_iff (rows : List (List Bool)) (picked : List Int) (W i c : Nat) : missed rows picked W i c ↔ W ≤ i + 1 ∧ window rows picked W (i + 1 - W) c := by
  unfold missed window
  rw [runs_ge]
  constructor
  · rintro ⟨⟨h1, h2⟩, h3⟩
    have h4 := (lastP_low picked c (i + 1) (i + 1 - W) (by omega)).1 h3
    exact ⟨h1, fun j h5 h6 => ⟨h2 j h5 (by omega), h4 j h5 (by omega)⟩⟩
  · rintro ⟨h1, h2⟩
    exact ⟨⟨h1, fun j h3 h4 => (h2 j h3 (by omega)).1⟩, (lastP_low picked c (i + 1) (i + 1 - W) (by omega)).2 fun j h3 h4 => (h2 j h3 (by omega)).2⟩
theorem rdy_lt {rows : List (List Bool)} {i c : Nat} (h : rdy rows i c = true) : c < (rows.getD i []).length := by
  refine Nat.lt_of_not_le fun h2 => ?_
  unfold rdy at h
  rw [List.getD_eq_getElem?_getD, List.getElem?_eq_none h2] at h
  cases h
/-- Fairness as the document has it. -/
theorem fairly_iff (rows : List (List Bool)) (picked : List Int) (win : Int) (hw : 1 ≤ win) (hs : win ≤ (min rows.length picked.length : Nat)) :
    Fairly rows picked win ↔ ∀ i, i + win.toNat ≤ min rows.length picked.length → ∀ c, c < (rows.getD i []).length → ¬ window rows picked win.toNat i c := by
  constructor
  · intro h i hi c _ hc
    refine h hw hs (i + win.toNat - 1) (by omega) c ((missed_iff _ _ _ _ _).2 ⟨by omega, ?_⟩)
    have e : i + win.toNat - 1 + 1 - win.toNat = i := by omega
    rw [e]; exact hc
  · intro h _ _ i hi c hm
    obtain ⟨h1, h2⟩ := (missed_iff _ _ _ _ _).1 hm
    exact h (i + 1 - win.toNat) (by omega) c (rdy_lt (h2 _ (Nat.le_refl _) (by omega)).1) h2
theorem fairly_wide {rows : List (List Bool)} {picked : List Int} {w m : Int} (hw : 1 ≤ w) (hm : 0 ≤ m) (h : Fairly rows picked w) : Fairly rows picked (w + m) := by
  intro h1 h2 i hi c hc
  have hs : w ≤ (min rows.length picked.length : Nat) := by omega
  refine h hw hs i hi c ?_
  rw [missed_iff] at hc ⊢
  refine ⟨by omega, fun j h3 h4 => hc.2 j (by omega) (by omega)⟩
theorem fairly_zero (rows : List (List Bool)) (picked : List Int) {w : Int} (h : w < 1) : Fairly rows picked w := fun h1 => absurd h1 (by omega)
end Go.Proofs.Ytihkjpfibogpdaa
