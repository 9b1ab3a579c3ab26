/- pmem.Mem: place, Load, each by its contract. -/
import Derived.Test.YtbflennacniacaaPm
namespace Go.Proofs.Ytbflennacniacaa
open Go.RowKit
set_option linter.unusedVariables false
/-- The cells of the struct. -/
theorem Mem.cells {w : World} {F : PF} {M : PM} (h : Mem w F M) : ∃ cs cl ce : Nat, M.n ≤ cs ∧ M.n ≤ cl ∧
    w.cell? ⟨F.a, 0, .none⟩ = some (.slice (some ⟨F.s, 0, .none⟩) M.n cs) ∧ w.cell? ⟨F.a, 1, .none⟩ = some (.slice (some ⟨F.l, 0, .none⟩) M.n cl) ∧ w.cell? ⟨F.a, 2, .none⟩ = some (.map (some F.y)) ∧
    w.cell? ⟨F.a, 3, .none⟩ = some (.int .i64 M.fuse) ∧ w.cell? ⟨F.a, 4, .none⟩ = some (endV M.fin F.e M.n ce) ∧
    w.cell? ⟨F.a, 5, .none⟩ = some (.int .i64 (M.steps : Nat)) ∧ w.cell? ⟨F.a, 6, .none⟩ = some (.int .i64 (M.stores : Nat)) ∧ ∀ j, w.frozen? ⟨F.a, j, .none⟩ = false := by
  obtain ⟨cs, cl, ce, hcs, hcl, hb⟩ := h.blk
  refine ⟨cs, cl, ce, hcs, hcl, ?_, ?_, ?_, ?_, ?_, ?_, ?_, fun j => frozen_of_row w F.a j _ _ hb⟩ <;> (rw [cell_of_row w F.a _ _ _ (0, 0) hb]; rfl)
def placeV (n : Nat) (at_ : Int) : Int := if at_ < 0 ∨ (n * 8 : Nat) ≤ at_ then 101 else 0
set_option maxHeartbeats 1000000 in
theorem place_any (F : PF) (M : PM) (p : Int) (w : World) (h : Mem w F M) :
    Calls Try.prog 40 #[.pointer (some ⟨F.a, 0, .none⟩), .int .i64 p] w fun e w' => e = .returned (.int .i64 (placeV M.n p)) ∧ w = w' := by
  obtain ⟨R, hR⟩ : ∃ R, placeV M.n p = R := ⟨_, rfl⟩
  rw [hR]
  have HM := Lib.hid h
  have hsz := h.size
  obtain ⟨N, hN⟩ : ∃ N : Nat, M.n * 8 = N := ⟨_, rfl⟩
  unfold placeV at hR
  rw [hN] at hR
  have HN := Lib.hid hN
  clear h
  by_cases h1 : p < 0
  · rw [if_pos (Or.inl h1)] at hR
    subst hR
    have q1 : decide (p < 0) = true := by simpa using h1
    clear hN
    go_enter Try.func40, Try.ntmps40
    go_wp2_with fail
    go_ret
    exact ⟨rfl, rfl⟩
  · have q1 : decide (p < 0) = false := by simpa using h1
    by_cases h2 : (N : Int) ≤ p
    · rw [if_pos (Or.inr h2)] at hR
      subst hR
      have q2 : decide ((N : Int) ≤ p) = true := by simpa using h2
      clear hN
      go_enter Try.func40, Try.ntmps40
      go_wp2_with fail
      refine (words_any F M w HM.out).mono ?_
      rintro e w1 ⟨rfl, rfl⟩
      rw [HN.out]
      go_wp2_with fail
      go_ret
      exact ⟨rfl, rfl⟩
    · rw [if_neg (by omega)] at hR
      subst hR
      have q2 : decide ((N : Int) ≤ p) = false := by simpa using h2
      clear hN
      go_enter Try.func40, Try.ntmps40
      go_wp2_with fail
      refine (words_any F M w HM.out).mono ?_
      rintro e w1 ⟨rfl, rfl⟩
      rw [HN.out]
      go_wp2_with fail
      go_ret
      exact ⟨rfl, rfl⟩
def loadV (M : PM) (p : Int) : Int := if placeV M.n p = 0 then M.seen p.toNat else 0
set_option maxHeartbeats 1000000 in
theorem load_any (F : PF) (M : PM) (p : Int) (w : World) (h : Mem w F M) :
    Calls Try.prog 21 #[.pointer (some ⟨F.a, 0, .none⟩), .int .i64 p] w fun e w' => e = .returned (.tuple #[.int .u64 (loadV M p), .int .i64 (placeV M.n p)]) ∧ w = w' := by
  obtain ⟨R, hR⟩ : ∃ R, loadV M p = R := ⟨_, rfl⟩
  obtain ⟨S, hS⟩ : ∃ S, placeV M.n p = S := ⟨_, rfl⟩
  rw [hR, hS]
  have HM := Lib.hid h
  have hsz := h.size
  obtain ⟨cs, cl, ce, hcs, hcl, c0, _⟩ := h.cells
  unfold loadV at hR
  rw [hS] at hR
  by_cases h0 : S = 0
  · rw [if_pos h0] at hR
    have hp : ¬ (p < 0 ∨ (M.n * 8 : Nat) ≤ p) := by
      intro hh
      unfold placeV at hS
      rw [if_pos hh] at hS
      omega
    obtain ⟨k, rfl⟩ : ∃ k : Nat, p = (k : Int) := ⟨p.toNat, by omega⟩
    have hk : k < M.n * 8 := by omega
    have hc := h.seen.cell k hk
    rw [Int.toNat_natCast] at hR
    rw [hR] at hc
    obtain ⟨q, hq⟩ : ∃ q, k / 8 = q := ⟨_, rfl⟩
    obtain ⟨r, hr⟩ : ∃ r, k % 8 = r := ⟨_, rfl⟩
    have hkq : k = q * 8 + r := by omega
    have hqn : q < M.n := by omega
    have hr8 : r < 8 := by omega
    have e1 : (k : Int).tdiv 8 = (q : Int) := by rw [← hq]; rfl
    have e2 : (k : Int).tmod 8 = (r : Int) := by rw [← hr]; rfl
    rw [hkq] at hc
    subst h0
    have HS := Lib.hid hS
    clear hR hq hr hkq hp h hS hk
    go_enter Try.func21, Try.ntmps21
    go_wp2_with fail
    refine (place_any F M _ w HM.out).mono ?_
    rintro e w1 ⟨rfl, rfl⟩
    rw [HS.out]
    go_wp2_with fail
    go_ret2
    exact ⟨rfl, rfl⟩
  · rw [if_neg h0] at hR
    subst hR
    have q1 : (S != 0) = true := by rw [bne_iff_ne]; exact h0
    have HS := Lib.hid hS
    clear h c0 hS
    go_enter Try.func21, Try.ntmps21
    go_wp2_with fail
    refine (place_any F M p w HM.out).mono ?_
    rintro e w1 ⟨rfl, rfl⟩
    rw [HS.out]
    go_wp2_with fail
    go_ret2
    exact ⟨rfl, rfl⟩
end Go.Proofs.Ytbflennacniacaa
