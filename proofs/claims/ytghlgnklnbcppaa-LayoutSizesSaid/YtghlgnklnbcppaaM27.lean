/- Parts of the proof, side by side: LaDel, SumOf. -/
import Derived.Test.YtghlgnklnbcppaaM26
import Derived.Test.YtghlgnklnbcppaaRows
import Derived.Test.YtghlgnklnbcppaaM25
import Derived.WalkKit
import Derived.WalkSpells
import Derived.WalkLawsBesides
import Derived.Lib.Hide
import Derived.Laws.BitsAllLaws
set_option linter.unusedVariables false
set_option linter.unusedSimpArgs false
/- The layout's Put: which inodes are left out; slices.IndexFunc, DeleteFunc where there are none. -/
namespace Go.Proofs.Ytghlgnklnbcppaa
open Go.RowKit
set_option linter.unusedVariables false
set_option linter.unusedSimpArgs false
def delB (s : St) (x : Ino) : Bool := !x.dir && decide (linkI s.inos x.num = 0)
theorem PtrAt.st {w : World} {p : Nat} {s : St} (h : PtrAt w p s) : ∃ A n c E m d D k e, w.cell? ⟨p, 0, none⟩ = some (.slice A n c) ∧ w.cell? ⟨p, 1, none⟩ = some (.slice E m d) ∧ w.cell? ⟨p, 2, none⟩ = some (.slice D k e) ∧ p < w.heap.size ∧ StAt none w (.agg #[.slice A n c, .slice E m d, .slice D k e]) s := by
  obtain ⟨⟨A, n, c, E, m, d, D, k, e, h1, h2, h3, h4, h5, h6, h7⟩, hz⟩ := h
  exact ⟨A, n, c, E, m, d, D, k, e, by rw [cell_of_row w p _ _ _ (0, 0) h1]; rfl, by rw [cell_of_row w p _ _ _ (0, 0) h1]; rfl, by rw [cell_of_row w p _ _ _ (0, 0) h1]; rfl, (Array.getElem?_eq_some_iff.1 h1).1, ⟨A, n, c, E, m, d, D, k, e, rfl, h2, h3, h4, h5, h6, h7⟩, hz⟩
set_option maxRecDepth 100000 in
set_option maxHeartbeats 2000000 in
theorem del1_any (p : Nat) (s : St) (x : Ino) (E : Option Addr) (m d : Nat) (w : World) (h : PtrAt w p s) :
    Calls Try.prog 27 #[.agg #[.int .i64 x.num, .bool x.dir, .slice E m d, .string x.data], .pointer (some ⟨p, 0, .none⟩)] w fun e w' => e = .returned (.bool (delB s x)) ∧ Below w.heap.size w w' := by
  obtain ⟨V, hV, u0, u1, u2, u3, hal, hlt⟩ := box_ino w x.num x.dir E m d x.data
  obtain ⟨A2, n2, c2, E2, m2, d2, D2, k2, e2, b0, b1, b2, hp, hst⟩ := (h.below hal).st
  have HST := Lib.hid hst
  have HAL := Lib.hid hal
  unfold delB
  obtain ⟨DX, hDX⟩ : ∃ DX, x.dir = DX := ⟨_, rfl⟩
  rw [hDX] at hV u1 ⊢
  clear h hst hal hDX
  go_enter Try.func27, Try.ntmps27
  cases DX
  · go_wp2_with fail
    refine (mlinks_any _ s x.num V HST.out).mono ?_
    rintro e5 w5 ⟨rfl, hb5⟩
    obtain ⟨L, hL⟩ : ∃ L, linkI s.inos x.num = L := ⟨_, rfl⟩
    have HL := Lib.hid hL
    rw [hL]
    clear hL
    have HB5 := Lib.hid (Cv.next HAL.out hb5)
    clear hb5 u0 u1 u2 u3 b0 b1 b2
    by_cases hz : L = 0
    · subst hz
      go_wp2_with fail
      go_ret
      exact ⟨Cv.ret_bool (by rw [HL.out]; rfl), HB5.out⟩
    · have q1 : ((L : Int) == 0) = false := by rw [beq_eq_false_iff_ne]; omega
      go_wp2_with fail
      go_ret
      exact ⟨Cv.ret_bool (by rw [HL.out, decide_eq_false hz]; rfl), HB5.out⟩
  · go_wp2_with fail
    go_ret
    exact ⟨rfl, HAL.out⟩
set_option maxRecDepth 100000 in
set_option maxHeartbeats 2000000 in
theorem indexdel_any (p : Nat) (s : St) (is : List Ino) (A : Option Addr) (n c : Nat) (w : World) (h : PtrAt w p s) (hI : InosAt none w A n is) (hn : n ≤ 1099511627776) (hno : ∀ x ∈ is, delB s x = false) :
    Calls Try.prog 57 #[.slice A n c, .func (.func 27) #[] #[.pointer (some ⟨p, 0, .none⟩)]] w fun e w' => e = .returned (.int .i64 (-1)) ∧ Below w.heap.size w w' := by
  have HI := Lib.hid hI
  have HP := Lib.hid h
  have HNO := Lib.hid hno
  clear hI h hno
  go_enter Try.func57, Try.ntmps57
  go_wp2_with fail
  go_loopw [8] (fun j wr => ∃ q : Nat, j = .int .i64 q ∧ q ≤ n ∧ Below w.heap.size w wr) (fun j _ => n - (intOf j).toNat)
  case atStart => exact ⟨0, rfl, by omega, Below.refl _ _⟩
  case round =>
    obtain ⟨q, rfl, hq, hbel⟩ := hrel
    have HB := Lib.hid hbel
    have HIr := Lib.hid (HI.out.below hbel)
    have HPr := Lib.hid (HP.out.below hbel)
    clear hbel
    by_cases hlt : q < n
    · obtain ⟨g, off, x, E, m, d, rfl, hg, hx, hd, hmem, e0, e1, e2, hok, hE, e3⟩ := HIr.out.get q hlt
      have k0 : (0 : Int) ≤ (q : Int) := by omega
      have hnx := HNO.out x hmem
      have HNX := Lib.hid hnx
      clear hd hmem hx hE hnx
      go_wp2_with fail
      refine (del1_any p s x E m d _ HPr.out).mono ?_
      rintro e5 w5 ⟨rfl, hb5⟩
      rw [HNX.out]
      have HB5 := Lib.hid (HB.out.trans (hb5.mono HB.out.size))
      clear hb5 e0 e1 e2 e3
      go_wp2_with fail
      go_roundw
      case rel => exact ⟨q + 1, by go_num, by omega, HB5.out⟩
      case measure => simp [intOf]; omega
    · go_wp2_with fail
      go_ret
      exact ⟨rfl, HB.out⟩
set_option maxRecDepth 100000 in
set_option maxHeartbeats 2000000 in
theorem delnone_any (p : Nat) (s : St) (is : List Ino) (A : Option Addr) (n c : Nat) (w : World) (h : PtrAt w p s) (hI : InosAt none w A n is) (hn : n ≤ 1099511627776) (hno : ∀ x ∈ is, delB s x = false) :
    Calls Try.prog 26 #[.slice A n c, .func (.func 27) #[] #[.pointer (some ⟨p, 0, .none⟩)]] w fun e w' => e = .returned (.slice A n c) ∧ Below w.heap.size w w' := by
  go_enter Try.func26, Try.ntmps26
  go_wp2_with fail
  refine (indexdel_any p s is A n c w h hI hn hno).mono ?_
  rintro e5 w5 ⟨rfl, hb5⟩
  have HB5 := Lib.hid hb5
  clear hb5
  go_wp2_with fail
  go_ret
  exact ⟨rfl, HB5.out⟩
end Go.Proofs.Ytghlgnklnbcppaa

/- sum.Of, by its contract. -/
namespace Go.Proofs.Ytghlgnklnbcppaa
open Go.RowKit

theorem take_snoc (s : ByteArray) (k : Nat) (h : k < s.size) : s.data.toList.take (k + 1) = s.data.toList.take k ++ [s[k]] := by
  rw [List.take_succ_eq_append_getElem (by simpa using h)]; rfl
theorem ret_int {k : IntKind} {a b : Int} (h : a = b) : Ending.returned (.int k a) = .returned (.int k b) := by rw [h]
theorem val_int {k : IntKind} {a b : Int} (h : a = b) : Value.int k a = .int k b := by rw [h]
theorem wrap_u64_nat (n : Nat) (h : n < 18446744073709551616) : IntKind.u64.wrap (n : Int) = (n : Int) := by rw [IntKind.wrap_u64]; omega
theorem hM_lit : hM = 18446744073709551616 := by decide +kernel
theorem hP_lit : hP = 1099511628211 := by decide +kernel
theorem step_val (h : Nat) (hh : h < hM) (b : UInt8) :
    IntKind.u64.wrap (bits .xor .u64 (h : Int) (IntKind.u64.wrap (b.toNat : Int)) * 1099511628211) = ((stepN h b : Nat) : Int) := by
  have hb := b.toNat_lt
  have hx := xor_lt hh b
  rw [hM_lit] at hh hx
  rw [wrap_u64_nat _ (by omega), u64_xor_nat _ _ hh (by omega)]
  unfold stepN
  rw [hM_lit, hP_lit, IntKind.wrap_u64]
  generalize h ^^^ b.toNat = x at *
  omega
theorem first_val : (14695981039346656037 : Int) = ((sumN [] : Nat) : Int) := by
  rw [sumN_nil]; decide +kernel

set_option maxHeartbeats 400000 in
/-- What sum.Of answers. -/
theorem sum_any (s : ByteArray) (w : World) (hs : s.size ≤ maxLen) :
    Calls Try.prog 30 #[.string s] w fun e w' => e = .returned (.int .u64 ((sumN s.data.toList : Nat) : Int)) ∧ w = w' := by
  unfold maxLen at hs
  go_enter Try.func30, Try.ntmps30
  go_wp2
  go_loop [3, 7] (fun h i => ∃ k : Nat, k ≤ s.size ∧ i = .int .i64 k ∧ h = .int .u64 ((sumN (s.data.toList.take k) : Nat) : Int)) (fun _ i => s.size - (intOf i).toNat)
  case atStart => exact ⟨0, Nat.zero_le _, rfl, val_int first_val⟩
  case round =>
    obtain ⟨k, hk, rfl, rfl⟩ := hrel
    by_cases hlt : k < s.size
    · go_wp2
      go_round
      case rel => exact ⟨k + 1, by omega, by go_num, by rw [take_snoc s k hlt, sumN_snoc]; exact val_int (step_val _ (sumN_lt _) _)⟩
      case measure => simp [intOf]; omega
    · go_wp2
      go_ret
      exact ⟨ret_int (by rw [List.take_of_length_le (by simp; omega)]), rfl⟩

end Go.Proofs.Ytghlgnklnbcppaa
