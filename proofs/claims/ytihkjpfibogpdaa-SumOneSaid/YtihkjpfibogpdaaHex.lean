/- The digits of a hash, by the program and by the reference: each by one contract. -/
import Derived.Test.YtihkjpfibogpdaaSum
namespace Go.Proofs.Ytihkjpfibogpdaa
open Go.RowKit

def hexCells (x k : Nat) : Array Value := ((List.range 16).map fun j => if j < k then Value.int .u8 ((hexDigit x j).toNat : Int) else .int .u8 0).toArray
theorem hexCells_at (x k : Nat) (hk : k < 16) : (hexCells x k)[k]? = some (.int .u8 0) := by
  simp [hexCells, List.getElem?_map, List.getElem?_range hk]
theorem hexCells_size (x k : Nat) : (hexCells x k).size = 16 := by simp [hexCells]
theorem hexCells_set (x k : Nat) (hk : k < 16) : (hexCells x k).setIfInBounds k (.int .u8 ((hexDigit x k).toNat : Int)) = hexCells x (k + 1) := by
  apply Array.ext (by simp [hexCells])
  intro i h1 h2
  have hi : i < 16 := by simpa [hexCells] using h2
  simp only [hexCells, Array.getElem_setIfInBounds, List.getElem_toArray, List.getElem_map, List.getElem_range]
  by_cases e : k = i
  · subst e; simp
  · simp [e]
    by_cases h : i < k
    · simp [h, show i < k + 1 by omega]
    · simp [h, show ¬ i < k + 1 by omega]
theorem hex_and (x k : Nat) (hx : x < 18446744073709551616) (hk : k < 16) :
    bits .and .u64 ((x : Int) / 2 ^ (60 - 4 * k)) 15 = ((x / 16 ^ (15 - k) % 16 : Nat) : Int) := by
  have e : (2 : Nat) ^ (60 - 4 * k) = 16 ^ (15 - k) := by
    rw [show (16 : Nat) = 2 ^ 4 from rfl, ← Nat.pow_mul]; congr 1; omega
  have e2 : ((x : Int) / 2 ^ (60 - 4 * k)) = ((x / 16 ^ (15 - k) : Nat) : Int) := by
    rw [← e]; simp
  rw [e2]
  have := u64_and_nat (x / 16 ^ (15 - k)) 15 (Nat.lt_of_le_of_lt (Nat.div_le_self _ _) hx) (by omega)
  rw [show ((15 : Nat) : Int) = 15 from rfl] at this
  rw [this, nat_mask4]
theorem hex_digit (x k d : Nat) (hd : x / 16 ^ (15 - k) % 16 = d) (h : d < 16) :
    ((ByteArray.mk #[48, 49, 50, 51, 52, 53, 54, 55, 56, 57, 97, 98, 99, 100, 101, 102])[d]'h).toNat = (hexDigit x k).toNat := by
  unfold hexDigit
  rw [hd]
  have : ∀ d, (h : d < 16) → ((ByteArray.mk #[48, 49, 50, 51, 52, 53, 54, 55, 56, 57, 97, 98, 99, 100, 101, 102])[d]'h).toNat = (hexDigits.getD d 0).toNat := by decide +kernel
  exact this d h

theorem hex_back (x : Nat) (w w1 : World) (n T : Nat) (hw : w1 = w.alloc (.cells (hexCells x 16) T)) :
    (convert 28 9 (.slice (some ⟨w.heap.size, 0, none⟩) 16 n)).run Try.prog w1 = .ok (.string ⟨(hexN x).toArray⟩) w1 := by
  have hl : (hexN x).length = 16 := by simp [hexN]
  have := run_convert_bytes_back (P := Try.prog) w1 28 9 5 ⟨w.heap.size, 0, none⟩ n (hexN x) Try.underlying28 Try.underlying5 Try.underlying9 (by
    intro j hj
    have hj' : j < 16 := by omega
    have ha : (⟨w.heap.size, 0, none⟩ : Addr).add j = ⟨w.heap.size, j, none⟩ := by unfold Addr.add; split <;> simp_all
    rw [ha, hw, World.cell?_alloc_mark]
    simp [hexCells, hexN, List.getElem?_map, List.getElem?_range hj', hj'])
  rwa [hl] at this

set_option maxHeartbeats 400000 in
theorem hex_any (x : Nat) (hx : x < hM) (w : World) :
    Calls Try.prog 26 #[.int .u64 (x : Int)] w fun e w' => e = .returned (.string ⟨(hexN x).toArray⟩) ∧ Below w.heap.size w w' := by
  rw [hM_lit] at hx
  go_enter Try.func26, Try.ntmps26
  go_wp2
  go_loopw [5] (fun i wr => ∃ k : Nat, k ≤ 16 ∧ i = .int .i64 k ∧ wr = w.alloc (.cells (hexCells x k) 47)) (fun i _ => 16 - (intOf i).toNat)
  case atStart => exact ⟨0, by omega, rfl, rfl⟩
  case round =>
    obtain ⟨k, hk, rfl, rfl⟩ := hrel
    by_cases hlt : k < 16
    · have hq := hex_and x k hx hlt
      obtain ⟨d, hd⟩ : ∃ d : Nat, x / 16 ^ (15 - k) % 16 = d := ⟨_, rfl⟩
      have hd16 : d < 16 := by omega
      rw [hd] at hq
      have hdig := hex_digit x k d hd hd16
      have hc := hexCells_at x k hlt
      have hset := hexCells_set x k hlt
      have HD := Lib.hid hd
      have HDig := Lib.hid hdig
      have HSet := Lib.hid hset
      clear hd hdig hset
      go_wp2
      go_roundw
      case rel => exact ⟨k + 1, by omega, by go_num, by rw [HDig.out, HSet.out]⟩
      case measure => simp [intOf]; omega
    · obtain rfl : k = 16 := by omega
      have hcv := hex_back x w (w.alloc (.cells (hexCells x 16) 47)) 16 47 rfl
      go_wp2
      go_ret
      exact ⟨rfl, (Below.refl _ _).alloc (Nat.le_refl _) _⟩

def refCells (x k : Nat) : Array Value := ((List.range 16).map fun j => if 16 ≤ j + k then Value.int .u8 ((hexDigit x j).toNat : Int) else .int .u8 0).toArray
theorem refCells_at (x k : Nat) (hk : k < 16) : (refCells x k)[15 - k]? = some (.int .u8 0) := by
  simp [refCells, List.getElem?_map, List.getElem?_range (show 15 - k < 16 by omega)]
  intro h; omega
theorem refCells_end (x : Nat) : refCells x 16 = hexCells x 16 := by
  have h : ((List.range 16).map fun j => if 16 ≤ j + 16 then Value.int .u8 ((hexDigit x j).toNat : Int) else .int .u8 0) = (List.range 16).map fun j => if j < 16 then Value.int .u8 ((hexDigit x j).toNat : Int) else .int .u8 0 := by
    apply List.map_congr_left
    intro j hj
    have : j < 16 := by simpa using hj
    rw [if_pos (by omega), if_pos this]
  exact congrArg List.toArray h
theorem refCells_set (x k : Nat) (hk : k < 16) : (refCells x k).setIfInBounds (15 - k) (.int .u8 ((hexDigit x (15 - k)).toNat : Int)) = refCells x (k + 1) := by
  apply Array.ext (by simp [refCells])
  intro i h1 h2
  have hi : i < 16 := by simpa [refCells] using h2
  simp only [refCells, Array.getElem_setIfInBounds, List.getElem_toArray, List.getElem_map, List.getElem_range]
  by_cases e : 15 - k = i
  · subst e; simp; omega
  · simp [e]
    by_cases h : 16 ≤ i + k
    · simp [h, show 16 ≤ i + (k + 1) by omega]
    · simp [h, show ¬ 16 ≤ i + (k + 1) by omega]
theorem ref_digit (x k d : Nat) (hk : k < 16) (hd : x / 16 ^ k % 16 = d) (h : d < 16) :
    ((ByteArray.mk #[48, 49, 50, 51, 52, 53, 54, 55, 56, 57, 97, 98, 99, 100, 101, 102])[d]'h).toNat = (hexDigit x (15 - k)).toNat :=
  hex_digit x (15 - k) d (by rw [show 15 - (15 - k) = k by omega]; exact hd) h

set_option maxHeartbeats 400000 in
theorem refhex_any (x : Nat) (hx : x < hM) (w : World) :
    Calls Try.prog 27 #[.int .u64 (x : Int)] w fun e w' => e = .returned (.string ⟨(hexN x).toArray⟩) ∧ Below w.heap.size w w' := by
  rw [hM_lit] at hx
  have hmk : ∀ w : World, (Instr.makeSlice 28 (.int .i64 16) (.int .i64 16)).run Try.prog w = .ok (.slice (some ⟨w.heap.size, 0, none⟩) 16 16) (w.alloc (.cells (refCells 0 0) 5)) := fun _ => by kernel_rfl
  go_enter Try.func27, Try.ntmps27
  go_wp2
  go_loopw [0, 5] (fun y i wr => ∃ k : Nat, k ≤ 16 ∧ i = .int .i64 (15 - (k : Int)) ∧ y = .int .u64 ((x / 16 ^ k : Nat) : Int) ∧ wr = w.alloc (.cells (refCells x k) 5)) (fun _ i _ => (intOf i + 1).toNat)
  case atStart => exact ⟨0, by omega, rfl, by simp, rfl⟩
  case round =>
    obtain ⟨k, hk, rfl, rfl, rfl⟩ := hrel
    by_cases hlt : k < 16
    · obtain ⟨y, hy⟩ : ∃ y : Nat, x / 16 ^ k = y := ⟨_, rfl⟩
      have hyx : y < 18446744073709551616 := by rw [← hy]; exact Nat.lt_of_le_of_lt (Nat.div_le_self _ _) hx
      have hdig := ref_digit x k (y % 16) hlt (by rw [hy]) (by omega)
      have hdiv : x / 16 ^ (k + 1) = y / 16 := by rw [Nat.pow_succ, ← Nat.div_div_eq_div_mul, hy]
      have hc := refCells_at x k hlt
      have hset := refCells_set x k hlt
      rw [hy]
      have Hdiv := Lib.hid hdiv
      have HDig := Lib.hid hdig
      have HSet := Lib.hid hset
      have Hy := Lib.hid hy
      clear hdig hset hdiv hy
      go_wp2
      go_roundw
      case rel => exact ⟨k + 1, by omega, val_int (by omega), by rw [Hdiv.out]; exact val_int (by omega), by rw [HDig.out, HSet.out]⟩
      case measure => simp [intOf]; omega
    · obtain rfl : k = 16 := by omega
      have hcv := hex_back x w (w.alloc (.cells (refCells x 16) 5)) 16 5 (by rw [refCells_end])
      go_wp2
      go_ret
      exact ⟨rfl, (Below.refl _ _).alloc (Nat.le_refl _) _⟩
end Go.Proofs.Ytihkjpfibogpdaa
