/- pmem.Mem.Store, by its contract. -/
import Derived.Test.YtbflennacniacaaPmOps
import Derived.BigRegion
namespace Go.Proofs.Ytbflennacniacaa
open Go.RowKit
set_option linter.unusedVariables false
def PM.stored (M : PM) (k : Nat) (v : Int) : PM := { M with stores := M.stores + 1, seen := updI M.seen k v }
set_option maxHeartbeats 2000000 in
theorem store1_any (F : PF) (M : PM) (k : Nat) (v : Int) (b1 b2 b3 : Nat) (power : Bool) (w : World) (h : Mem w F M) (hk : k < M.n * 8) (hs : M.stores ≤ 1099511627776)
    (c1 : w.cell? ⟨b1, 0, .none⟩ = some (.pointer (some ⟨F.a, 0, .none⟩))) (c2 : w.cell? ⟨b2, 0, .none⟩ = some (.int .u64 v)) (c3 : w.cell? ⟨b3, 0, .none⟩ = some (.int .i64 k)) (n1 : ¬ F.has b1) (n2 : ¬ F.has b2) (n3 : ¬ F.has b3) :
    Calls Try.prog 42 #[.bool power, .pointer (some ⟨b1, 0, .none⟩), .pointer (some ⟨b2, 0, .none⟩), .pointer (some ⟨b3, 0, .none⟩)] w fun e w' => e = .returned (.tuple #[]) ∧ Mem w' F (M.stored k v) ∧ Only F.has w w' := by
  obtain ⟨cs, cl, ce, hcs, hcl, e0, _, _, _, _, _, e6, hfz⟩ := h.cells
  have f6 := hfz 6
  have HM := Lib.hid h
  have hm1 := h.setStores
  have ho1 : Only F.has w (w.setCell ⟨F.a, 6, .none⟩ (.int .i64 ((M.stores : Int) + 1))) := (Only.refl _ _).setCell (.inl (.inl rfl)) _
  obtain ⟨w1, hw1⟩ : ∃ w1, w.setCell ⟨F.a, 6, .none⟩ (.int .i64 ((M.stores : Int) + 1)) = w1 := ⟨_, rfl⟩
  rw [hw1] at hm1 ho1
  have d1 := ho1.cell c1 n1
  have d2 := ho1.cell c2 n2
  have d3 := ho1.cell c3 n3
  obtain ⟨q, hq⟩ : ∃ q, k / 8 = q := ⟨_, rfl⟩
  obtain ⟨r, hr⟩ : ∃ r, k % 8 = r := ⟨_, rfl⟩
  have hkq : k = q * 8 + r := by omega
  have hqn : q < M.n := by omega
  have hr8 : r < 8 := by omega
  have q1 : (k : Int).tdiv 8 = (q : Int) := by rw [← hq]; rfl
  have q2 : (k : Int).tmod 8 = (r : Int) := by rw [← hr]; rfl
  obtain ⟨cs1, cl1, ce1, hcs1, _, g0, _⟩ := hm1.cells
  have gc := hm1.seen.cell k hk
  have gf := hm1.seen.frozen k
  obtain ⟨old, hold⟩ : ∃ old, M.seen k = old := ⟨_, rfl⟩
  have gc2 : w1.cell? ⟨F.s, q * 8 + r, .none⟩ = some (.int .u64 old) := by rw [← hkq, ← hold]; exact gc
  rw [hkq] at gf
  have g02 : w1.cell? ⟨F.a, 0, .none⟩ = some (.slice (some ⟨F.s, 0, .none⟩) M.n cs1) := g0
  have hm2 := hm1.setSeen k v
  rw [hkq] at hm2
  have ho2 : Only F.has w (w1.setCell ⟨F.s, q * 8 + r, .none⟩ (.int .u64 v)) := ho1.setCell (.inl (.inr (.inl rfl))) _
  have HM2 : Hid (Mem (w1.setCell ⟨F.s, q * 8 + r, .none⟩ (.int .u64 v)) F (M.stored k v)) := Lib.hid (by rw [hkq]; exact hm2)
  have HO2 := Lib.hid ho2
  have hsz := h.size
  clear h hm1 ho1 hq hr hkq gc g0 hm2 ho2 hold hfz hk
  go_enter Try.func42, Try.ntmps42
  go_wp2_with fail
  go_region
  go_end0
  exact ⟨rfl, HM2.out.drew, HO2.out.drewN 1⟩
end Go.Proofs.Ytbflennacniacaa
