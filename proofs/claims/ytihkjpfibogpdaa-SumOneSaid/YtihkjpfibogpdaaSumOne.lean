/- The walk of the law SumOne. -/
import Derived.Test.YtihkjpfibogpdaaBytes
import Derived.Deep.QuietTactic
import Derived.BigQuiet
namespace Go.Proofs.Ytihkjpfibogpdaa
open Go.RowKit
set_option linter.unusedVariables false
theorem tmod_u64 (a : Int) (n : Nat) (hn : 0 < n) : ∃ k : Nat, k < n ∧ (IntKind.u64.wrap a).tmod (n : Int) = (k : Int) := by
  obtain ⟨A, _, hA⟩ := wrap_u64_any a
  exact ⟨A % n, Nat.mod_lt _ hn, by rw [hA]; rfl⟩
theorem cat_extract (T : ByteArray) (k : Nat) (h : k ≤ T.size) : T.extract 0 k ++ T.extract k T.size = T := by
  rw [ByteArray.extract_append_extract]
  simp [Nat.max_eq_right h]
theorem Below.drewN {B : Nat} {a w : World} (h : Below B a w) (n : Nat) : Below B a (w.drewN n) := ⟨h.os, h.tape, h.output, h.size, h.block⟩
def sumB (t : ByteArray) : Nat := sumN t.data.toList
theorem sumB_quiet (t : ByteArray) (w : World) (n : Nat) (h : t.size ≤ maxLen) :
    Calls Try.prog 24 #[.string t] (w.drewN n) fun e w'' => e = .returned (.int .u64 ((sumB t : Nat) : Int)) ∧ ∃ m, w'' = w.drewN m :=
  (sum_any t _ h).mono fun _ _ hh => ⟨hh.1, n, hh.2.symm⟩
theorem xor_one (c : UInt8) (v : Nat) (hv : v < 255) : ∃ c' : UInt8, c ≠ c' ∧ bits .xor .u8 (c.toNat : Int) (1 + (v : Int)) = (c'.toNat : Int) := by
  have hc := c.toNat_lt
  refine ⟨UInt8.ofNat (c.toNat ^^^ (1 + v)), ?_, ?_⟩
  · intro e
    have e2 := congrArg UInt8.toNat e
    have hx : c.toNat ^^^ (1 + v) < 2 ^ 8 := Nat.xor_lt_two_pow (by omega) (by omega)
    rw [UInt8.toNat_ofNat', Nat.mod_eq_of_lt hx] at e2
    have e3 : c.toNat ^^^ 0 = c.toNat ^^^ (1 + v) := by rw [Nat.xor_zero]; exact e2
    have := xor_cancel' e3
    omega
  · have hx : c.toNat ^^^ (1 + v) < 2 ^ 8 := Nat.xor_lt_two_pow (by omega) (by omega)
    rw [UInt8.toNat_ofNat', Nat.mod_eq_of_lt hx, ← u8_xor_nat c.toNat (1 + v) hc (by omega)]
    congr 1
theorem sumB_set (l : List UInt8) (k : Nat) (hk : k < l.length) (c' : UInt8) (h : l.getD k 0 ≠ c') : sumN l ≠ sumN (l.set k c') := by
  intro e
  have h1 : l = l.take k ++ l.getD k 0 :: l.drop (k + 1) := by
    rw [show l.getD k 0 = l[k] by simp [hk], ← List.drop_eq_getElem_cons hk, List.take_append_drop]
  have h2 : l.set k c' = l.take k ++ c' :: l.drop (k + 1) := by rw [List.set_eq_take_append_cons_drop, if_pos hk]
  rw [h2] at e
  rw [h1] at e
  have h3 : (l.take k ++ l.getD k 0 :: l.drop (k + 1)).take k = l.take k := by rw [← h1]
  have h4 : (l.take k ++ l.getD k 0 :: l.drop (k + 1)).drop (k + 1) = l.drop (k + 1) := by rw [← h1]
  rw [h3, h4] at e
  exact h (sumN_one _ _ _ _ e)
set_option maxHeartbeats 400000 in
theorem sumOne_walk (s : ByteArray) (hs : s.size ≤ 140737488351232) (a : Int) (ha : (Lit.int .i64 a).wf = true) (b : Int) (hb : (Lit.int .i64 b).wf = true) (w : World) :
    Calls Try.prog 5 #[.string s, .int .i64 a, .int .i64 b] w fun e w' => e = .returned (.bool true) ∧ Below w.heap.size w w' := by
  obtain ⟨k, hk, hka⟩ := tmod_u64 a (s.size + 1) (by omega)
  obtain ⟨v, hv, hvb⟩ := tmod_u64 b 255 (by omega)
  rw [show ((s.size + 1 : Nat) : Int) = (s.size : Int) + 1 from by omega] at hka
  rw [show ((255 : Nat) : Int) = 255 from rfl] at hvb
  go_enter Try.func5, Try.ntmps5
  go_wp2_with fail
  refine (awake18 _).mono ?_
  rintro e w1 ⟨rfl, hb1⟩
  obtain ⟨C, W2, hcv, hrow, hb2⟩ := bytes_of w1 (s ++ ⟨#[113]⟩)
  have hT : (s ++ ByteArray.mk #[113]).size = s.size + 1 := by rw [ByteArray.size_append]; rfl
  have hL : (s ++ ByteArray.mk #[113]).data.toList = s.data.toList ++ [113] := by simp
  rw [hT] at hcv
  rw [hL] at hrow
  obtain ⟨l, hl⟩ : ∃ l, s.data.toList ++ [113] = l := ⟨_, rfl⟩
  rw [hl] at hrow hL
  have hll : l.length = s.size + 1 := by rw [← hl]; simp
  obtain ⟨c, hc⟩ : ∃ c : UInt8, l.getD k 0 = c := ⟨_, rfl⟩
  have hck := (hrow.2 k (by omega)).1
  have hfk := (hrow.2 k (by omega)).2
  rw [hc] at hck
  obtain ⟨c', hcc, hxor⟩ := xor_one c v hv
  have hset := hrow.set (by omega : k < l.length) c'
  have hns := sumB_set l k (by omega) c' (by rw [hc]; exact hcc)
  have hb3 : Below w1.heap.size w1 ((W2.setCell ⟨w1.heap.size, k, none⟩ (.int .u8 (c'.toNat : Int)))) := hb2.setCell (Nat.le_refl _) _
  obtain ⟨W3, hW3⟩ : ∃ W3, (W2.setCell ⟨w1.heap.size, k, none⟩ (.int .u8 (c'.toNat : Int))).drew = W3 := ⟨_, rfl⟩
  have hset' : ByteRow W3 w1.heap.size (l.set k c') := by rw [← hW3]; exact hset.drew
  have hb3' : Below w1.heap.size w1 W3 := by rw [← hW3]; exact hb3.drew
  have hbk := fun n => back_of (hset'.drewN n) (s.size + 1) C (by rw [List.length_set]; exact hll)
  have hT1 : (s ++ ByteArray.mk #[113]).size ≤ maxLen := by rw [hT]; unfold maxLen; omega
  have hT2 : (ByteArray.mk (l.set k c').toArray).size ≤ maxLen := by
    have : (ByteArray.mk (l.set k c').toArray).size = s.size + 1 := List.size_toArray.trans ((List.length_set ..).trans hll)
    rw [this]; unfold maxLen; omega
  have hcat : (s ++ ByteArray.mk #[113]).extract 0 k ++ (s ++ ByteArray.mk #[113]).extract k (s.size + 1) = s ++ ByteArray.mk #[113] := by
    rw [← hT]
    exact cat_extract _ k (by omega)
  have hne : (((sumB (s ++ ByteArray.mk #[113]) : Nat) : Int) != ((sumB (ByteArray.mk (l.set k c').toArray) : Nat) : Int)) = true := by
    unfold sumB
    rw [hL, bne_iff_ne]
    intro e
    exact hns (by exact_mod_cast e)
  have Hb1 := Lib.hid hb1
  have Hb3 := Lib.hid hb3'
  clear hrow hc hT hL hl hll hset hns hb3 hset' hb1 hb2 hb3' hcc
  go_wp2_with fail
  clear hW3
  go_quiet ((go_at_call 24; exact sumB_quiet _ _ _ (by first | exact hT1 | exact hT2)))
  go_wp2
  go_ret
  exact ⟨rfl, below_next Hb1.out ((Below.drewN Hb3.out _))⟩
end Go.Proofs.Ytihkjpfibogpdaa
