/- The layout's reader: number, text: where all is well and small. -/
import Derived.Test.YtghlgnklnbcppaaM15
namespace Go.Proofs.Ytghlgnklnbcppaa
open Go.RowKit
set_option linter.unusedVariables false
set_option linter.unusedSimpArgs false
/-- A reader that stands ahead of bytes. -/
def Rd (w : World) (p : Nat) (l : List UInt8) : Prop := w.heap[p]? = some (.cells #[.string ⟨l.toArray⟩, .bool false] 138 (0, 0))
theorem Rd.get {w : World} {p : Nat} {l : List UInt8} (h : Rd w p l) : w.cell? ⟨p, 0, none⟩ = some (.string ⟨l.toArray⟩) ∧ w.cell? ⟨p, 1, none⟩ = some (.bool false) ∧ (∀ j, w.frozen? ⟨p, j, none⟩ = false) ∧ p < w.heap.size :=
  ⟨by rw [cell_of_row w p _ _ _ (0, 0) h]; rfl, by rw [cell_of_row w p _ _ _ (0, 0) h]; rfl, fun j => frozen_of_row w p j _ _ h, (Array.getElem?_eq_some_iff.1 h).1⟩
theorem Rd.set {w : World} {p : Nat} {l : List UInt8} (h : Rd w p l) (l' : List UInt8) : Rd (w.setCell ⟨p, 0, none⟩ (.string ⟨l'.toArray⟩)) p l' := heap_setCell_same w p 0 _ _ _ h
theorem grown_set (w : World) (p k : Nat) (v : Value) : w.grownBy (w.setCell ⟨p, k, none⟩ v) (some p) :=
  ⟨rfl, rfl, rfl, by simp [World.setCell], fun i _ hi => Below.heap_setCell w ⟨p, k, none⟩ v i (fun e => hi (by rw [e]))⟩
theorem grown_trans {w w1 w2 : World} {r : Option Nat} (h : w.grownBy w1 r) (k : w1.grownBy w2 r) : w.grownBy w2 r :=
  ⟨k.os.trans h.os, k.tape.trans h.tape, k.output.trans h.output, Nat.le_trans h.size k.size, fun i hi hne => (k.block i (Nat.lt_of_lt_of_le hi h.size) hne).trans (h.block i hi hne)⟩
theorem grown_of_below {w w' : World} {r : Option Nat} (h : Below w.heap.size w w') : w.grownBy w' r := ⟨h.os, h.tape, h.output, h.size, fun i hi _ => h.block i hi⟩
theorem ba_ext {a b : ByteArray} (h : a.data.toList = b.data.toList) : a = b := by
  cases a with | mk da => cases b with | mk db => exact congrArg ByteArray.mk (Array.toList_inj.1 h)
theorem bytes_cut (l : List UInt8) (i j : Nat) : (⟨l.toArray⟩ : ByteArray).extract i j = ⟨((l.take j).drop i).toArray⟩ := by
  apply ba_ext
  rw [ByteArray.data_extract]
  simp [Array.toList_extract, List.extract_eq_take_drop, List.drop_take]
theorem bytes_cons_cut (c : UInt8) (rest : List UInt8) : (⟨(c :: rest).toArray⟩ : ByteArray).extract 1 (⟨(c :: rest).toArray⟩ : ByteArray).size = ⟨rest.toArray⟩ := by
  rw [bytes_cut]
  congr 2
  have : (⟨(c :: rest).toArray⟩ : ByteArray).size = rest.length + 1 := by show (c :: rest).toArray.size = _; simp
  rw [this]
  simp
theorem and127 : ∀ n : Nat, n < 128 → bits .and .i64 (n : Int) 127 = (n : Int) := by decide +kernel
theorem or0 : ∀ n : Nat, n < 128 → bits .or .i64 0 (n : Int) = (n : Int) := by decide +kernel
set_option maxRecDepth 100000 in
set_option maxHeartbeats 4000000 in
theorem rnumber_any (p : Nat) (c : UInt8) (rest : List UInt8) (most : Int) (w : World) (h : Rd w p (c :: rest)) (hc : c.toNat < 128) (hm : (c.toNat : Int) ≤ most) :
    Calls Try.prog 94 #[.pointer (some ⟨p, 0, .none⟩), .int .i64 most] w fun e w' => e = .returned (.int .i64 (c.toNat : Int)) ∧ Rd w' p rest ∧ w.grownBy w' (some p) := by
  obtain ⟨c0, c1, fz, hp⟩ := h.get
  obtain ⟨S, hS⟩ : ∃ S : ByteArray, (⟨(c :: rest).toArray⟩ : ByteArray) = S := ⟨_, rfl⟩
  rw [hS] at c0
  have hsz : 0 < S.size := by rw [← hS]; show 0 < (c :: rest).toArray.size; simp
  have h0 : S[0]'hsz = c := by subst hS; rfl
  have hne : (S.data.toList == []) = false := by rw [← hS]; simp
  have hne2 : S.toList.isEmpty = false := by rw [← hS, ByteArray.toList_eq]; simp
  have HH := Lib.hid h
  have HS := Lib.hid hS
  clear h hS
  obtain ⟨N, hN⟩ : ∃ N, c.toNat = N := ⟨_, rfl⟩
  rw [hN] at hc hm ⊢
  go_enter Try.func94, Try.ntmps94
  go_wp2_with fail
  go_loopw [5, 6] (fun x i wr => x = .int .i64 0 ∧ i = .int .i64 0 ∧ w = wr) (fun _ _ _ => 0)
  case atStart => exact ⟨rfl, rfl, rfl⟩
  case round =>
    obtain ⟨rfl, rfl, rfl⟩ := hrel
    have f0 := fz 0
    have hcut : S.extract 1 S.size = ⟨rest.toArray⟩ := by rw [← HS.out]; exact bytes_cons_cut c rest
    have q1 : decide (N < 128) = true := by rw [decide_eq_true_eq]; exact hc
    have q2 : decide ((N : Int) < 128) = true := by rw [decide_eq_true_eq]; omega
    have q3 : decide (most < (N : Int)) = false := by rw [decide_eq_false_iff_not]; omega
    have e1 := and127 N hc
    have e2 : wrap64 (N : Int) = (N : Int) := by unfold wrap64; omega
    have e3 := or0 N hc
    by_cases hz : N = 0
    · subst hz
      have d1 : bits BinOp.and IntKind.i64 0 127 = 0 := by decide +kernel
      have d2 : wrap64 0 = 0 := by decide +kernel
      have d3 : bits BinOp.or IntKind.i64 0 0 = 0 := by decide +kernel
      have d4 : (0 : Int) ≤ most := by omega
      go_wp2_with fail
      go_ret
      exact ⟨rfl, HH.out.set rest, grown_set _ _ _ _⟩
    · have q4 : (N == 0) = false := by rw [beq_eq_false_iff_ne]; exact hz
      have q5 : ((N : Int) == 0) = false := by rw [beq_eq_false_iff_ne]; omega
      go_wp2_with fail
      go_ret
      exact ⟨rfl, HH.out.set rest, grown_set _ _ _ _⟩
theorem rnum_any (p n : Nat) (rest : List UInt8) (most : Int) (w : World) (h : Rd w p (numL n ++ rest)) (hn : n < 128) (hm : (n : Int) ≤ most) :
    Calls Try.prog 94 #[.pointer (some ⟨p, 0, .none⟩), .int .i64 most] w fun e w' => e = .returned (.int .i64 (n : Int)) ∧ Rd w' p rest ∧ w.grownBy w' (some p) := by
  rw [numL_last n hn] at h
  have e : (n.toUInt8).toNat = n := by show n % 256 = n; omega
  refine (rnumber_any p n.toUInt8 rest most w h (by rw [e]; exact hn) (by rw [e]; exact hm)).mono ?_
  rintro e1 w1 ⟨rfl, h1, h2⟩
  exact ⟨by rw [e], h1, h2⟩
set_option maxRecDepth 100000 in
set_option maxHeartbeats 4000000 in
theorem rtext_any (p : Nat) (s : ByteArray) (rest : List UInt8) (most : Int) (w : World) (h : Rd w p (textL s ++ rest)) (hn : s.size < 128) (hm : (s.size : Int) ≤ most) (hr : rest.length ≤ 1099511627776) :
    Calls Try.prog 143 #[.pointer (some ⟨p, 0, .none⟩), .int .i64 most] w fun e w' => e = .returned (.string s) ∧ Rd w' p rest ∧ w.grownBy w' (some p) := by
  unfold textL at h
  rw [List.append_assoc] at h
  have HH := Lib.hid h
  have hl : s.data.toList.length = s.size := Array.length_toList
  have hS1 : (⟨(s.data.toList ++ rest).toArray⟩ : ByteArray).extract 0 s.size = s := by
    rw [bytes_cut]
    apply ba_ext
    rw [← hl]
    simp
  have hSz : (⟨(s.data.toList ++ rest).toArray⟩ : ByteArray).size = s.size + rest.length := by
    show (s.data.toList ++ rest).toArray.size = _
    rw [List.size_toArray, List.length_append, hl]
  have hS2 : (⟨(s.data.toList ++ rest).toArray⟩ : ByteArray).extract s.size (⟨(s.data.toList ++ rest).toArray⟩ : ByteArray).size = ⟨rest.toArray⟩ := by
    rw [bytes_cut, hSz]
    congr 2
    rw [List.take_of_length_le (by rw [List.length_append, hl]; omega), ← hl]
    simp
  obtain ⟨S, hS⟩ : ∃ S : ByteArray, (⟨(s.data.toList ++ rest).toArray⟩ : ByteArray) = S := ⟨_, rfl⟩
  rw [hS] at hS1 hS2 hSz
  have HS := Lib.hid hS
  clear h hl hS
  obtain ⟨n, hnn⟩ : ∃ n, s.size = n := ⟨_, rfl⟩
  rw [hnn] at hn hm hS1 hS2 hSz
  have HNN := Lib.hid hnn
  clear hnn
  go_enter Try.func143, Try.ntmps143
  go_wp2_with fail
  refine (rnum_any p n _ most _ (by rw [← HNN.out]; exact HH.out) hn hm).mono ?_
  rintro e1 w1 ⟨rfl, h1, g1⟩
  obtain ⟨c0, c1, fz, hp⟩ := h1.get
  rw [HS.out] at c0
  have f0 := fz 0
  have HR := Lib.hid h1
  have HG := Lib.hid g1
  rw [hSz] at hS2
  have n0 : (0 : Int) ≤ (n : Int) := by omega
  have n1 : (n : Int) ≤ (S.size : Int) := by omega
  have q1 : decide ((S.size : Int) < (n : Int)) = false := by rw [decide_eq_false_iff_not]; omega
  clear h1 g1
  go_wp2_with fail
  go_ret
  exact ⟨rfl, HR.out.set rest, grown_trans HG.out (grown_set _ _ _ _)⟩
end Go.Proofs.Ytghlgnklnbcppaa
