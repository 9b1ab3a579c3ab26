/- Chapter 25, HistoryFds: the walk (printed by wip/gen_histfds.py). -/
import Derived.Test.YtkflaifopbodfaaGreatDoorM44
import Derived.Test.YtkflaifopbodfaaGreatDoorM01
set_option linter.unusedVariables false
set_option linter.unusedSimpArgs false
namespace Go.Proofs.YtkflaifopbodfaaGreatDoor
open Go.RowKit
def callO : Ca := ⟨2, 0, 0, 0, 0, ⟨#[47, 97]⟩, ⟨#[]⟩, ⟨#[]⟩⟩
theorem fds_all : ∀ i : Fin 11, ∀ j : Fin 11, legV (newV 1) [oneOp callC 0 0 0 1, oneOp callO 0 ((i.val : Int) - 5) 2 3, oneOp callO 0 ((j.val : Int) - 5) 4 5] = (decide (0 ≤ (i.val : Int) - 5 ∧ (i.val : Int) - 5 < 4 ∧ 0 ≤ (j.val : Int) - 5 ∧ (j.val : Int) - 5 < 4 ∧ (i.val : Int) - 5 ≠ (j.val : Int) - 5), 0) := by decide +kernel
theorem fds_fact (X Y : Int) (hX : -6 < X ∧ X < 6) (hY : -6 < Y ∧ Y < 6) : legV (newV 1) [oneOp callC 0 0 0 1, oneOp callO 0 X 2 3, oneOp callO 0 Y 4 5] = (decide (0 ≤ X ∧ X < 4 ∧ 0 ≤ Y ∧ Y < 4 ∧ X ≠ Y), 0) := by
 have h := fds_all ⟨(X + 5).toNat, by omega⟩ ⟨(Y + 5).toNat, by omega⟩
 simp only [show (((X + 5).toNat : Nat) : Int) - 5 = X by omega, show (((Y + 5).toNat : Nat) : Int) - 5 = Y by omega] at h
 exact h
theorem rem6 : (x : Int) → -6 < Int.tmod x 6 ∧ Int.tmod x 6 < 6
 | .ofNat n => by
  show -6 < ((n % 6 : Nat) : Int) ∧ ((n % 6 : Nat) : Int) < 6
  omega
 | .negSucc n => by
  show -6 < -(((n + 1) % 6 : Nat) : Int) ∧ -(((n + 1) % 6 : Nat) : Int) < 6
  omega
set_option maxRecDepth 100000 in
set_option maxHeartbeats 8000000 in
theorem fds_join (w : World) (fd other : Int) (hT : Tab w) :
  Calls Tryz.prog 5 #[.int .i64 fd, .int .i64 other] w fun e w' => e = .returned (.bool true) ∧ Below w.heap.size w w' := by
 have HT := Lib.hid hT
 clear hT
 go_enter Tryz.func5, Tryz.ntmps5
 go_wp2_with fail
 refine (awake25 w HT.out).mono ?_
 rintro e w0 ⟨rfl, hb0⟩
 have HB0 := Lib.hid hb0
 clear hb0
 go_wp2_with fail
 refine (new_any 1 (by omega) (by omega) w0).mono ?_
 rintro e w1 ⟨v1, rfl, hst1, hb1⟩
 obtain ⟨A1, n1, c1, E1, m1, d1, D1, k1, e1, rfl, _⟩ := hst1.at_
 obtain ⟨W1, hW1, p0, p1, p2, hal1, hl1⟩ := box_st w1 A1 n1 c1 E1 m1 d1 D1 k1 e1
 have HST := Lib.hid (hst1.below hal1)
 have HB1 := Lib.hid (HB0.out.trans ((hb1.trans (hal1.mono hb1.size)).mono HB0.out.size))
 clear hst1 hb1 hal1
 obtain ⟨X, hX⟩ : ∃ X, Int.tmod fd 6 = X := ⟨_, rfl⟩
 obtain ⟨Y, hY⟩ : ∃ Y, Int.tmod other 6 = Y := ⟨_, rfl⟩
 have HX : Hid (-6 < X ∧ X < 6) := Lib.hid (by rw [← hX]; exact rem6 fd)
 have HY : Hid (-6 < Y ∧ Y < 6) := Lib.hid (by rw [← hY]; exact rem6 other)
 go_wp2_with fail
 refine (after_any _ _ _ _ _ _ _ _ _ _ _ _ _ _ _ _).mono ?_
 rintro e w4 ⟨rfl, hb4⟩
 have HB4 := Lib.hid hb4
 clear hb4
 go_wp2_with fail
 refine (after_any _ _ _ _ _ _ _ _ _ _ _ _ _ _ _ _).mono ?_
 rintro e w5 ⟨rfl, hb5⟩
 have HB5 := Lib.hid (Cv.next HB4.out hb5)
 clear hb5
 go_wp2_with fail
 refine (after_any _ _ _ _ _ _ _ _ _ _ _ _ _ _ _ _).mono ?_
 rintro e w6 ⟨rfl, hb6⟩
 have HB6 := Lib.hid (Cv.next HB5.out hb6)
 have s0 := (HB6.out.cell (p := ⟨w1.heap.size, 0, none⟩) hl1).trans p0
 have s1 := (HB6.out.cell (p := ⟨w1.heap.size, 1, none⟩) hl1).trans p1
 have s2 := (HB6.out.cell (p := ⟨w1.heap.size, 2, none⟩) hl1).trans p2
 obtain ⟨W8, hW8, hops, hal8⟩ := box_ops w6 #[.int .i64 0, .int .i64 0, .int .i64 0, .int .i64 0, .int .i64 0, .string ⟨#[47, 97]⟩, .string ⟨#[]⟩, .string ⟨#[]⟩, .int .i64 0, .int .i64 0, .int .i64 0, .bool false, .string ⟨#[]⟩, .slice none 0 0, .int .i64 0, .int .i64 1, .int .i64 2, .int .i64 0, .int .i64 0, .int .i64 0, .int .i64 0, .string ⟨#[47, 97]⟩, .string ⟨#[]⟩, .string ⟨#[]⟩, .int .i64 0, .int .i64 X, .int .i64 0, .bool false, .string ⟨#[]⟩, .slice none 0 0, .int .i64 2, .int .i64 3, .int .i64 2, .int .i64 0, .int .i64 0, .int .i64 0, .int .i64 0, .string ⟨#[47, 97]⟩, .string ⟨#[]⟩, .string ⟨#[]⟩, .int .i64 0, .int .i64 Y, .int .i64 0, .bool false, .string ⟨#[]⟩, .slice none 0 0, .int .i64 4, .int .i64 5] 37 [oneOp callC 0 0 0 1, oneOp callO 0 X 2 3, oneOp callO 0 Y 4 5] rfl (by intro o h; rcases List.mem_cons.1 h with rfl | h; exact ok_one25 _ _ _ _ _ (by decide) (by decide) (by decide); rcases List.mem_cons.1 h with rfl | h; exact ok_one25 _ _ _ _ _ (by decide) (by decide) (by decide); rcases List.mem_cons.1 h with rfl | h; exact ok_one25 _ _ _ _ _ (by decide) (by decide) (by decide); cases h)
 have HOPS := Lib.hid hops
 have HB8 := Lib.hid (HB6.out.trans (hal8.mono HB6.out.size))
 have HB9 := Lib.hid (HB1.out.trans (HB8.out.mono HB1.out.size))
 have r0 := (hal8.cell (p := ⟨w1.heap.size, 0, none⟩) (Nat.lt_of_lt_of_le hl1 HB6.out.size)).trans s0
 have r1 := (hal8.cell (p := ⟨w1.heap.size, 1, none⟩) (Nat.lt_of_lt_of_le hl1 HB6.out.size)).trans s1
 have r2 := (hal8.cell (p := ⟨w1.heap.size, 2, none⟩) (Nat.lt_of_lt_of_le hl1 HB6.out.size)).trans s2
 clear hb6 hops hal8 p0 p1 p2 s0 s1 s2
 go_wp2_with fail
 have h1 := legal_any _ (newV 1) (some ⟨w6.heap.size, 0, none⟩) 3 3 [oneOp callC 0 0 0 1, oneOp callO 0 X 2 3, oneOp callO 0 Y 4 5] W8 (HST.out.weak.below HB8.out) HOPS.out (HT.out.mono HB9.out (Nat.le_refl _)) (by decide)
 rw [fds_fact X Y HX.out HY.out] at h1
 refine h1.mono ?_
 rintro e w9 ⟨rfl, hb9⟩
 have HB10 := Lib.hid (HB9.out.trans (hb9.mono HB9.out.size))
 have hc : X < 0 ∨ (0 ≤ X ∧ 4 ≤ X) ∨ (0 ≤ X ∧ X < 4 ∧ Y < 0) ∨ (0 ≤ X ∧ X < 4 ∧ 0 ≤ Y ∧ 4 ≤ Y) ∨ (0 ≤ X ∧ X < 4 ∧ 0 ≤ Y ∧ Y < 4 ∧ X = Y) ∨ (0 ≤ X ∧ X < 4 ∧ 0 ≤ Y ∧ Y < 4 ∧ X ≠ Y) := by omega
 obtain ⟨V, hV⟩ : ∃ V, decide (0 ≤ X ∧ X < 4 ∧ 0 ≤ Y ∧ Y < 4 ∧ X ≠ Y) = V := ⟨_, rfl⟩
 rw [hV]
 have HV := Lib.hid hV
 clear h1 hb9 r0 r1 r2 hW8 hW1 hX hY HX HY hV
 rcases hc with a | ⟨a, b⟩ | ⟨a, b, c⟩ | ⟨a, b, c, d⟩ | ⟨a, b, c, d, f⟩ | ⟨a, b, c, d, f⟩
 ·obtain rfl : V = false := by rw [← HV.out, decide_eq_false_iff_not]; omega
  have k1 : decide (0 ≤ X) = false := decide_eq_false (by omega)
  go_wp2_with fail
  refine (num25 _ _).mono ?_
  rintro _ _ ⟨rfl, rfl⟩
  go_wp2_with fail
  go_ret
  exact ⟨rfl, HB10.out⟩
 ·obtain rfl : V = false := by rw [← HV.out, decide_eq_false_iff_not]; omega
  have k1 : decide (0 ≤ X) = true := decide_eq_true (by omega)
  have k2 : decide (X < 4) = false := decide_eq_false (by omega)
  go_wp2_with fail
  refine (num25 _ _).mono ?_
  rintro _ _ ⟨rfl, rfl⟩
  go_wp2_with fail
  go_ret
  exact ⟨rfl, HB10.out⟩
 ·obtain rfl : V = false := by rw [← HV.out, decide_eq_false_iff_not]; omega
  have k1 : decide (0 ≤ X) = true := decide_eq_true (by omega)
  have k2 : decide (X < 4) = true := decide_eq_true (by omega)
  have k3 : decide (0 ≤ Y) = false := decide_eq_false (by omega)
  go_wp2_with fail
  refine (num25 _ _).mono ?_
  rintro _ _ ⟨rfl, rfl⟩
  go_wp2_with fail
  go_ret
  exact ⟨rfl, HB10.out⟩
 ·obtain rfl : V = false := by rw [← HV.out, decide_eq_false_iff_not]; omega
  have k1 : decide (0 ≤ X) = true := decide_eq_true (by omega)
  have k2 : decide (X < 4) = true := decide_eq_true (by omega)
  have k3 : decide (0 ≤ Y) = true := decide_eq_true (by omega)
  have k4 : decide (Y < 4) = false := decide_eq_false (by omega)
  go_wp2_with fail
  refine (num25 _ _).mono ?_
  rintro _ _ ⟨rfl, rfl⟩
  go_wp2_with fail
  go_ret
  exact ⟨rfl, HB10.out⟩
 ·obtain rfl : V = false := by rw [← HV.out, decide_eq_false_iff_not]; omega
  have k1 : decide (0 ≤ X) = true := decide_eq_true (by omega)
  have k2 : decide (X < 4) = true := decide_eq_true (by omega)
  have k3 : decide (0 ≤ Y) = true := decide_eq_true (by omega)
  have k4 : decide (Y < 4) = true := decide_eq_true (by omega)
  have k5 : (X != Y) = false := by rw [bne_eq_false_iff_eq]; exact f
  clear f
  go_wp2_with fail
  refine (num25 _ _).mono ?_
  rintro _ _ ⟨rfl, rfl⟩
  go_wp2_with fail
  go_ret
  exact ⟨rfl, HB10.out⟩
 ·obtain rfl : V = true := by rw [← HV.out, decide_eq_true_iff]; omega
  have k1 : decide (0 ≤ X) = true := decide_eq_true (by omega)
  have k2 : decide (X < 4) = true := decide_eq_true (by omega)
  have k3 : decide (0 ≤ Y) = true := decide_eq_true (by omega)
  have k4 : decide (Y < 4) = true := decide_eq_true (by omega)
  have k5 : (X != Y) = true := by rw [bne_iff_ne]; exact f
  clear f
  go_wp2_with fail
  refine (num25 _ _).mono ?_
  rintro _ _ ⟨rfl, rfl⟩
  go_wp2_with fail
  go_ret
  exact ⟨rfl, HB10.out⟩
end Go.Proofs.YtkflaifopbodfaaGreatDoor
