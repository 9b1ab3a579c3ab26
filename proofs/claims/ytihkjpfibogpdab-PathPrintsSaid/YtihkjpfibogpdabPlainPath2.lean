/- Plain facts on a path that is walked rune by rune: no program in sight. -/
import Derived.Test.YtihkjpfibogpdabPlainPath
set_option linter.unusedVariables false
namespace Go.Proofs.Ytihkjpfibogpdab
open Go.Lib (decodeN)
theorem decodeN_slash (n b0 b1 b2 b3 : Nat) (h : b0 = 47) : decodeN n b0 b1 b2 b3 = (47, 1) := by
  unfold decodeN; rw [if_pos (by omega), h]
theorem decodeN_noslash (n b0 b1 b2 b3 : Nat) (h : ¬ b0 = 47) : ¬ (decodeN n b0 b1 b2 b3).1 = 47 ∧ (2 ≤ (decodeN n b0 b1 b2 b3).2 → b1 / 64 = 2) ∧ (3 ≤ (decodeN n b0 b1 b2 b3).2 → b2 / 64 = 2) ∧ (4 ≤ (decodeN n b0 b1 b2 b3).2 → b3 / 64 = 2) := by
  unfold decodeN
  repeat' split
  all_goals (simp only; omega)
theorem decodeL_slash (l : List UInt8) (h : l.getD 0 0 = 47) : decodeL l = (47, 1) := decodeN_slash _ _ _ _ _ (by rw [h]; rfl)
theorem toNat_47 {b : UInt8} (h : ¬ b = 47) : ¬ b.toNat = 47 := fun e => h (UInt8.toNat_inj.1 e)
theorem decodeL_noslash (l : List UInt8) (h : ¬ l.getD 0 0 = 47) : ¬ (decodeL l).1 = 47 ∧ ∀ b ∈ l.take (decodeL l).2, ¬ b = 47 := by
  have hn := decodeN_noslash l.length (l.getD 0 0).toNat (l.getD 1 0).toNat (l.getD 2 0).toNat (l.getD 3 0).toNat (toNat_47 h)
  have hw := decodeL_width l
  refine ⟨hn.1, fun b hb e => ?_⟩
  obtain ⟨j, hj, rfl⟩ := List.getElem_of_mem hb
  have hj1 : j < (decodeL l).2 ∧ j < l.length := by rw [List.length_take] at hj; omega
  rw [List.getElem_take] at e
  have hg : l.getD j 0 = 47 := by rw [List.getD_eq_getElem?_getD, List.getElem?_eq_getElem hj1.2]; exact e
  have hd : (decodeL l).2 = (decodeN l.length (l.getD 0 0).toNat (l.getD 1 0).toNat (l.getD 2 0).toNat (l.getD 3 0).toNat).2 := rfl
  rw [← hd] at hn
  match j, hg, hj1 with
  | 0, hg, _ => exact h hg
  | 1, hg, hj1 => have := hn.2.1 (by omega); rw [hg] at this; exact absurd this (by decide)
  | 2, hg, hj1 => have := hn.2.2.1 (by omega); rw [hg] at this; exact absurd this (by decide)
  | 3, hg, hj1 => have := hn.2.2.2 (by omega); rw [hg] at this; exact absurd this (by decide)
  | j + 4, _, hj1 => omega
theorem scanP_skip (bs : List UInt8) : ∀ (r cur : List UInt8) (out : List (List UInt8)), (∀ b ∈ bs, ¬ b = 47) → scanP (bs ++ r) cur out = scanP r (cur ++ bs) out := by
  induction bs with
  | nil => intro r cur out _; simp
  | cons b bs ih =>
    intro r cur out h
    show scanP (b :: (bs ++ r)) cur out = _
    rw [scanP_other _ _ _ _ (h b (by simp)), ih r _ out (fun c hc => h c (by simp [hc]))]
    simp
theorem piece_more (l : List UInt8) (i j k : Nat) (hij : i ≤ j) (hj : j + k ≤ l.length) : piece l i (j + k) = piece l i j ++ (l.drop j).take k := by
  unfold piece
  rw [List.take_add, List.drop_append_of_le_length (by rw [List.length_take]; omega)]
theorem piece_left (l t : List UInt8) (i j : Nat) (hj : j ≤ l.length) : piece (l ++ t) i j = piece l i j := by
  unfold piece; rw [List.take_append_of_le_length hj]
/-- A rune that is no stroke is gone by at once. -/
theorem scanP_rune (t : List UInt8) (p j : Nat) (out : List (List UInt8)) (hpj : p ≤ j) (hj : j < t.length) (h : ¬ t.getD j 0 = 47) :
    scanP (t.drop j) (piece t p j) out = scanP (t.drop (j + (decodeL (t.drop j)).2)) (piece t p (j + (decodeL (t.drop j)).2)) out := by
  have hne : t.drop j ≠ [] := by intro e; have := congrArg List.length e; rw [List.length_drop] at this; simp at this; omega
  have hf := decodeL_fits _ hne
  rw [List.length_drop] at hf
  have h0 : ¬ (t.drop j).getD 0 0 = 47 := by simpa [List.getD_eq_getElem?_getD, List.getElem?_drop] using h
  have hs := (decodeL_noslash _ h0).2
  rw [piece_more t p j _ hpj (by omega), ← scanP_skip _ _ _ _ hs, ← List.drop_drop, List.take_append_drop]
end Go.Proofs.Ytihkjpfibogpdab
