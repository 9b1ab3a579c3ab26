/- journal.Journal.flush, by its contract. -/
import Derived.Test.YtbflennacniacaaJo
namespace Go.Proofs.Ytbflennacniacaa
open Go.RowKit
set_option linter.unusedVariables false
/-- m flushes from line q on. -/
def flushL (M : PM) (q : Nat) : Nat → PM
  | 0 => M
  | m + 1 => (flushL M q m).flush ((q + m : Nat) : Int)
theorem flushL_ok {M : PM} {K : Nat} (h : M.ok K) (q m : Nat) : (flushL M q m).ok (K + m) := by
  induction m with
  | zero => exact h
  | succ m ih => exact ih.flush _
def flushP (M : PM) (q cnt : Nat) : PM := (flushL M q ((cnt + 7) / 8)).fence
theorem flushP_ok {M : PM} {K : Nat} (h : M.ok K) (q cnt : Nat) : (flushP M q cnt).ok (K + (cnt + 7) / 8 + 1) := (flushL_ok h q _).fence
set_option maxHeartbeats 2000000 in
theorem jflush_any (w0 wz w : World) (Z : Nat → Prop) (j a : Nat) (J : JD) (M : PM) (q cnt K : Nat) (x : Int) (hx : x = ((8 * q : Nat) : Int)) (h : Jour w0 wz w Z j a J M) (ho : M.ok K) (hK : K ≤ 549755813888) (hq : q ≤ 8192) (hc : cnt ≤ 65536) :
    Calls Try.prog 65 #[.pointer (some ⟨j, 0, .none⟩), .int .i64 x, .int .i64 cnt] w fun e w' => e = .returned (.tuple #[]) ∧ Jour w0 wz w' Z j a J (flushP M q cnt) := by
  subst hx
  have HJ := Lib.hid h
  have HOK := Lib.hid (fun m => flushL_ok ho q m)
  have e1 : ((8 * q : Nat) : Int).tdiv 8 = (q : Int) := by
    show ((8 * q / 8 : Nat) : Int) = q
    congr 1
    omega
  obtain ⟨X, hX⟩ : ∃ X : Nat, 8 * q = X := ⟨_, rfl⟩
  rw [hX] at e1
  rw [hX]
  have HX := Lib.hid hX
  have hXb : X ≤ 65536 := by omega
  clear h ho hX
  go_enter Try.func65, Try.ntmps65
  go_wp2_with fail
  obtain ⟨L, hL⟩ : ∃ L, (cnt + 7) / 8 = L := ⟨_, rfl⟩
  have HL := Lib.hid hL
  have hLb : L ≤ 8193 := by omega
  have hLc : L * 8 < cnt + 8 ∧ cnt ≤ L * 8 := by omega
  clear hL
  go_loopw [6] (fun l wr => ∃ m : Nat, m ≤ L ∧ l = .int .i64 ((q + m : Nat) : Int) ∧ Jour w0 wz wr Z j a J (flushL M q m)) (fun l _ => q + L - (intOf l).toNat)
  case atStart => exact ⟨0, by omega, by simp, HJ.out⟩
  case round =>
    obtain ⟨m, hm, rfl, hj⟩ := hrel
    obtain ⟨c0, _⟩ := hj.cells
    have HJ2 := Lib.hid hj
    clear hj
    obtain ⟨l, hl⟩ : ∃ l : Nat, q + m = l := ⟨_, rfl⟩
    have hxq : X = 8 * q := HX.out.symm
    have hlb : l ≤ 20000 := by omega
    by_cases hlt : m < L
    · have q1 : decide ((l : Int) * 8 < (X : Int) + (cnt : Int)) = true := by simp; omega
      rw [hl]
      have HLL := Lib.hid hl
      clear hl hxq
      go_wp2_with fail
      refine (flush_j HJ2.out (l : Int) _ (HOK.out m) (by omega)).mono ?_
      rintro e w2 ⟨rfl, hj2⟩
      have HJ3 : Hid (Jour w0 wz w2 Z j a J (flushL M q (m + 1))) := Lib.hid (by show Jour w0 wz w2 Z j a J ((flushL M q m).flush ((q + m : Nat) : Int)); rw [HLL.out]; exact hj2)
      clear hj2
      go_wp2_with fail
      exact ⟨⟨m + 1, by omega, by have := HLL.out; simp; omega, HJ3.out⟩, by have := HLL.out; simp [intOf]; omega⟩
    · obtain rfl : m = L := by omega
      have q1 : decide ((l : Int) * 8 < (X : Int) + (cnt : Int)) = false := by simp; omega
      rw [hl]
      clear hl hxq hlt
      go_wp2_with fail
      refine (fence_j HJ2.out _ (HOK.out m) (by omega)).mono ?_
      rintro e w2 ⟨rfl, hj2⟩
      have HJ3 : Hid (Jour w0 wz w2 Z j a J (flushP M q cnt)) := Lib.hid (by unfold flushP; rw [HL.out]; exact hj2)
      clear hj2
      go_wp2_with fail
      go_end0
      exact ⟨rfl, HJ3.out⟩
end Go.Proofs.Ytbflennacniacaa
