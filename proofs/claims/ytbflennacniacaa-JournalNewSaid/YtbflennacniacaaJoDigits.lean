/- journal.digits: words as bytes. -/
import Derived.Test.YtbflennacniacaaJoWord
import Derived.Test.YtbflennacniacaaReads
import Derived.Laws.OwnMore
import Derived.OwnWalk
namespace Go.Proofs.Ytbflennacniacaa
open Go.RowKit
set_option linter.unusedVariables false
/-- The i-th byte of a word. -/
def wordByte (x i : Nat) : UInt8 := UInt8.ofNat (x / 256 ^ i)
def bytes8 (x : Nat) : List UInt8 := [wordByte x 0, wordByte x 1, wordByte x 2, wordByte x 3, wordByte x 4, wordByte x 5, wordByte x 6, wordByte x 7]
def digitsL : List Nat → List UInt8
  | [] => []
  | x :: xs => bytes8 x ++ digitsL xs
theorem digitsL_append (a b : List Nat) : digitsL (a ++ b) = digitsL a ++ digitsL b := by
  induction a with
  | nil => rfl
  | cons x a ih => simp [digitsL, ih]
theorem digitsL_len (a : List Nat) : (digitsL a).length = 8 * a.length := by
  induction a with
  | nil => rfl
  | cons x a ih => simp [digitsL, ih, bytes8]; omega
theorem bytes8_take (x i : Nat) (hi : i < 8) : (bytes8 x).take (i + 1) = (bytes8 x).take i ++ [wordByte x i] := by
  have : i = 0 ∨ i = 1 ∨ i = 2 ∨ i = 3 ∨ i = 4 ∨ i = 5 ∨ i = 6 ∨ i = 7 := by omega
  rcases this with h | h | h | h | h | h | h | h <;> (subst h; rfl)
theorem byte_val (x i : Nat) (hi : i < 8) (hx : x < 18446744073709551616) : IntKind.u8.wrap ((x : Int) / 2 ^ (8 * i)) = ((wordByte x i).toNat : Int) := by
  have h8 : 256 ^ i = 2 ^ (8 * i) := by rw [Nat.pow_mul]
  unfold wordByte
  rw [IntKind.wrap_u8', UInt8.toNat_ofNat', h8]
  rw [show ((x : Int) / 2 ^ (8 * i)) = ((x / 2 ^ (8 * i) : Nat) : Int) from by push_cast; rfl]
  omega
theorem infoU8 : (Try.prog.info? 5).map (fun i => (i.zero, i.size, i.bytes)) = some (some (.int .u8 0), 1, 1) := by kernel_rfl
def byteV (l : List UInt8) : List Value := l.map fun b => .int .u8 (b.toNat : Int)
theorem ByteRow.of_owns {w : World} {base n : Nat} {v : Value} {l : List UInt8} (h : w.ownsRow base 5 1 v n (byteV l)) (hl : l.length = n) :
    (v = .slice .none 0 0 ∧ l = []) ∨ ∃ g cap, v = .slice (some ⟨g, 0, .none⟩) n cap ∧ Cv.ByteRow w g l ∧ base ≤ g := by
  rcases h.2 with ⟨hv, h0⟩ | ⟨g, cap, cur, hv, hb, hg, hnc, hcm, hcs, htk⟩
  · subst h0
    exact .inl ⟨hv, List.eq_nil_of_length_eq_zero hl⟩
  · refine .inr ⟨g, cap, hv, ⟨(Array.getElem?_eq_some_iff.1 hg).1, fun j hj => ⟨?_, frozen_of_row w g j cur _ hg⟩⟩, hb⟩
    rw [cell_of_row w g j cur _ (0, 0) hg]
    have h1 : (byteV l)[j]? = some (.int .u8 ((l.getD j 0).toNat : Int)) := by
      simp [byteV, hj]
    rw [← htk, List.getElem?_take] at h1
    split at h1
    · simpa using h1
    · cases h1
theorem conv_none (w : World) : (convert 59 9 (.slice .none 0 0)).run Try.prog w = .ok (.string ⟨#[]⟩) w := by kernel_rfl
set_option maxRecDepth 100000 in
set_option maxHeartbeats 4000000 in
theorem digits_any (A : Option Addr) (n c : Nat) (xs : List Nat) (w : World) (h : Reads w A n (xs.map fun x : Nat => Value.int .u64 (x : Int))) (hx : ∀ x ∈ xs, x < 18446744073709551616) (hn : n ≤ 1048576) :
    Calls Try.prog 67 #[.slice A n c] w fun e w' => e = .returned (.string ⟨(digitsL xs).toArray⟩) ∧ Below w.heap.size w w' := by
  have hlen : xs.length = n := by simpa using h.1
  obtain ⟨i0, hi, hz0, hz1, hz2⟩ := info_parts infoU8
  have HH := Lib.hid h
  have HX := Lib.hid hx
  have HLEN := Lib.hid hlen
  clear h hx hlen
  go_enter Try.func67, Try.ntmps67
  go_wp2_with fail
  go_loopw [3, 9] (fun v i wr => ∃ k : Nat, k ≤ n ∧ i = .int .i64 k ∧ wr.ownsRow w.heap.size 5 1 v (8 * k) (byteV (digitsL (xs.take k))) ∧ Below w.heap.size w wr) (fun _ i _ => n - (intOf i).toNat)
  case atStart => exact ⟨0, by omega, rfl, ⟨by simp [digitsL, byteV], .inl ⟨rfl, rfl⟩⟩, Below.refl _ _⟩
  case round =>
    obtain ⟨k, hk, rfl, hown, hbel⟩ := hrel
    have HO := Lib.hid hown
    have HB := Lib.hid hbel
    clear hown hbel
    by_cases hlt : k < n
    · obtain ⟨g, off, rfl, _, hc⟩ := HH.out.2 (by omega)
      have hkl : k < xs.length := by rw [HLEN.out]; exact hlt
      obtain ⟨x, hxk⟩ : ∃ x, xs[k] = x := ⟨_, rfl⟩
      have hc1 := hc k hlt
      rw [List.getElem?_map, List.getElem?_eq_getElem hkl, hxk, Option.map_some] at hc1
      have hc2 : wr.cell? ⟨g, off + k, .none⟩ = some (.int .u64 (x : Int)) := cell_later HB.out hc1
      have hx64 : x < 18446744073709551616 := by rw [← hxk]; exact HX.out _ (List.getElem_mem hkl)
      have htk : xs.take (k + 1) = xs.take k ++ [x] := by rw [List.take_succ_eq_append_getElem hkl, hxk]
      have HTK := Lib.hid htk
      have H64 := Lib.hid hx64
      clear hc hc1 hxk htk hx64
      obtain ⟨wo, hwo⟩ : ∃ wo : World, wo = wr := ⟨_, rfl⟩
      have HWO := Lib.hid hwo
      clear hwo
      go_wp2_with fail
      go_loopw [3, 13] (fun v j W => ∃ i : Nat, i ≤ 8 ∧ j = .int .i64 i ∧ W.ownsRow w.heap.size 5 1 v (8 * k + i) (byteV (digitsL (xs.take k) ++ (bytes8 x).take i)) ∧ Below w.heap.size w W) (fun _ j _ => 8 - (intOf j).toNat)
      case atStart => exact ⟨0, by omega, rfl, by simpa using HO.out, HB.out⟩
      case round =>
        obtain ⟨i, hi8, rfl, hown2, hbel2⟩ := hrel
        have HB2 := Lib.hid hbel2
        clear hbel2
        by_cases hlt2 : i < 8
        · have hbv := byte_val x i hlt2 H64.out
          have q1 : decide ((i : Int) < 8) = true := by simp; omega
          obtain ⟨y, hy⟩ : ∃ y, wordByte x i = y := ⟨_, rfl⟩
          rw [hy] at hbv
          have hty := bytes8_take x i hlt2
          rw [hy] at hty
          have HTY := Lib.hid hty
          have HAL := Lib.hid (hown2.alloc (.cells #[.int .u8 (y.toNat : Int)] 5))
          clear hown2 hty hy
          go_wp2_with (at_builtin; refine wpList_append_own _ rfl _ _ 59 rfl w.heap.size 5 i0 (.int .u8 0) 1 1 Try.underlying59 hi hz0 hz1 hz2 rfl (by decide) _ _ _ rfl HAL.out ⟨wr.heap.size, 0, .none⟩ 1 1 [.int .u8 (y.toNat : Int)] rfl rfl ?ca2 ?ca3 ?ca4 ?ca5 ?ca6 ?_)
          case ca2 => exact cell_one_new _ _ _
          case ca3 =>
            intro u hu
            simp at hu
            subst hu
            rfl
          case ca4 => unfold maxLen; omega
          case ca5 => omega
          case ca6 => exact Nat.le_trans HB2.out.size (by simp)
          intro v' w2 hown' hgrow _
          have hb3 : Below w.heap.size w w2 := (HB2.out.alloc HB2.out.size _).grown hgrow (Nat.le_trans HB2.out.size (by simp)) fun x hx => (HAL.out.lt x hx).1
          have hown3 : w2.ownsRow w.heap.size 5 1 v' (8 * k + (i + 1)) (byteV (digitsL (xs.take k) ++ (bytes8 x).take (i + 1))) := by
            rw [HTY.out, ← List.append_assoc]
            unfold byteV
            rw [List.map_append]
            exact hown'
          have HO3 := Lib.hid hown3
          have HB3 := Lib.hid hb3
          clear hown' hgrow hb3 hown3
          go_wp2_with fail
          first | exact ⟨⟨i + 1, by omega, by go_num, HO3.out, HB3.out⟩, by simp [intOf]; omega⟩ | ((repeat apply Exists.intro); exact ⟨⟨⟨i + 1, by omega, by go_num, HO3.out, HB3.out⟩, by simp [intOf]; omega⟩, rfl⟩)
        · obtain rfl : i = 8 := by omega
          clear hlt2
          have hown4 : wr.ownsRow w.heap.size 5 1 u3 (8 * (k + 1)) (byteV (digitsL (xs.take (k + 1)))) := by
            rw [HTK.out, digitsL_append]
            have e : (bytes8 x).take 8 = bytes8 x := rfl
            rw [e] at hown2
            have e2 : digitsL [x] = bytes8 x := by simp [digitsL]
            rw [e2]
            exact hown2
          have HO4 := Lib.hid hown4
          clear hown2 hown4
          go_wp2_with fail
          exact ⟨⟨k + 1, by omega, by go_num, HO4.out, HB2.out⟩, by simp [intOf]; omega⟩
    · obtain rfl : k = n := by omega
      have hfull : xs.take k = xs := List.take_of_length_le (by rw [HLEN.out]; exact Nat.le_refl _)
      rw [hfull] at HO
      clear hlt
      rcases ByteRow.of_owns HO.out (by rw [digitsL_len, HLEN.out]) with ⟨rfl, hnil⟩ | ⟨g, cap, rfl, hrow, _⟩
      · have HNIL := Lib.hid hnil
        clear hnil
        have hcv := conv_none wr
        go_wp2_with fail
        go_ret
        exact ⟨by rw [HNIL.out]; rfl, HB.out⟩
      · have hcv := Cv.back_of hrow (8 * k) cap (by rw [digitsL_len, HLEN.out])
        clear hrow
        go_wp2_with fail
        go_ret
        exact ⟨rfl, HB.out⟩
end Go.Proofs.Ytbflennacniacaa
