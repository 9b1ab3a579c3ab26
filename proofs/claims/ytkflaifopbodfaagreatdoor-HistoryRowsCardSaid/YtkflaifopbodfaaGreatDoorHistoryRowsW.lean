/- Chapter 25, HistoryRows: the walk (printed by wip/gen_histrows.py). -/
import Derived.Test.YtkflaifopbodfaaGreatDoorM44
import Derived.Test.YtkflaifopbodfaaGreatDoorM01
set_option linter.unusedVariables false
set_option linter.unusedSimpArgs false
namespace Go.Proofs.YtkflaifopbodfaaGreatDoor
open Go.RowKit
theorem rows_fact (P Q : Int) (K : Nat) (hP : P = 0 ∨ P = 2 ∨ P = 1) (hQ : Q = 0 ∨ Q = 2 ∨ Q = 1) (hK : K < 8) : legV (newV 2) [oneOp callC P 0 0 4, oneOp callD Q 0 (K : Int) ((K : Int) + 3)] = (decide (P = 0 ∧ Q = 2 ∨ K < 4 ∧ P = 2 ∧ Q = 0), 0) := by
 have h : K = 0 ∨ K = 1 ∨ K = 2 ∨ K = 3 ∨ K = 4 ∨ K = 5 ∨ K = 6 ∨ K = 7 := by omega
 rcases hP with rfl | rfl | rfl <;> rcases hQ with rfl | rfl | rfl <;> rcases h with rfl | rfl | rfl | rfl | rfl | rfl | rfl | rfl <;> decide +kernel
theorem codes_at (W : World) (g : Nat) (x : Nat) (h : W.heap[g]? = some (.cells #[.int .i64 0, .int .i64 2, .int .i64 1] 3 (0, 0))) : ∃ P : Int, (P = 0 ∨ P = 2 ∨ P = 1) ∧ W.cell? ⟨g, x % 3, none⟩ = some (.int .i64 P) := by
 have h3 : x % 3 = 0 ∨ x % 3 = 1 ∨ x % 3 = 2 := by omega
 rcases h3 with e | e | e <;> rw [e, cell_of_row W g _ _ _ (0, 0) h]
 ·exact ⟨0, by omega, rfl⟩
 ·exact ⟨2, by omega, rfl⟩
 ·exact ⟨1, by omega, rfl⟩
set_option maxRecDepth 100000 in
set_option maxHeartbeats 8000000 in
theorem rows_join (w : World) (x y gap : Int) (hT : Tab w) :
  Calls Tryz.prog 3 #[.int .i64 x, .int .i64 y, .int .i64 gap] w fun e w' => e = .returned (.bool true) ∧ Below w.heap.size w w' := by
 have HT := Lib.hid hT
 clear hT
 go_enter Tryz.func3, Tryz.ntmps3
 go_wp2_with fail
 refine (awake25 w HT.out).mono ?_
 rintro e w0 ⟨rfl, hb0⟩
 have HB0 := Lib.hid hb0
 clear hb0
 go_wp2_with fail
 refine (new_any 2 (by omega) (by omega) w0).mono ?_
 rintro e w1 ⟨v1, rfl, hst1, hb1⟩
 obtain ⟨A1, n1, c1, E1, m1, d1, D1, k1, e1, rfl, _⟩ := hst1.at_
 obtain ⟨W1, hW1, p0, p1, p2, hal1, hl1⟩ := box_st w1 A1 n1 c1 E1 m1 d1 D1 k1 e1
 obtain ⟨W2, hW2⟩ : ∃ W, W1.alloc (.cells #[.int .i64 0, .int .i64 2, .int .i64 1] 3) = W := ⟨_, rfl⟩
 have hal2 : Below W1.heap.size W1 W2 := by rw [← hW2]; exact (Below.refl _ _).alloc (Nat.le_refl _) _
 have hr2 : W2.heap[W1.heap.size]? = some (.cells #[.int .i64 0, .int .i64 2, .int .i64 1] 3 (0, 0)) := by rw [← hW2]; exact heap_alloc_new W1 _
 obtain ⟨X, hX1, hX⟩ := Cv.wrap_u64_any x
 obtain ⟨Y, hY1, hY⟩ := Cv.wrap_u64_any y
 obtain ⟨G, hG1, hG⟩ := Cv.wrap_u64_any gap
 obtain ⟨P, hP, cP⟩ := codes_at W2 W1.heap.size X hr2
 obtain ⟨Q, hQ, cQ⟩ := codes_at W2 W1.heap.size Y hr2
 have HP := Lib.hid hP
 have HQ := Lib.hid hQ
 have q0 := (hal2.cell (p := ⟨w1.heap.size, 0, none⟩) hl1).trans p0
 have q1 := (hal2.cell (p := ⟨w1.heap.size, 1, none⟩) hl1).trans p1
 have q2 := (hal2.cell (p := ⟨w1.heap.size, 2, none⟩) hl1).trans p2
 have HST := Lib.hid (hst1.below (Cv.next hal1 hal2))
 have HB2 := Lib.hid (HB0.out.trans ((hb1.trans ((Cv.next hal1 hal2).mono hb1.size)).mono HB0.out.size))
 have hl2 := Nat.lt_of_lt_of_le hl1 hal2.size
 clear hr2 hP hQ hst1 hb1 hal1 hal2 p0 p1 p2
 go_wp2_with fail
 have hX9 := @Ext.cell W2
 refine wre ?_
 repeat (go_big_quiet_step (fail))
 refine wpQuiet_nil ?_
 rintro w3 ⟨X3, rfl⟩
 have HB3 := Lib.hid X3.bel
 clear hX9 cP cQ hW2
 obtain ⟨K, hK8, hKe⟩ : ∃ K : Nat, K < 8 ∧ (G : Int) % 8 = (K : Int) := ⟨G % 8, Nat.mod_lt _ (by omega), by omega⟩
 go_wp2_with fail
 refine (after_any _ _ _ _ _ _ _ _ _ _ _ _ _ _ _ _).mono ?_
 rintro e w4 ⟨rfl, hb4⟩
 obtain ⟨W5, hW5, r5, hal5, hl5⟩ := box16 w4 (.int .i64 0) (.int .i64 0) (.int .i64 0) (.int .i64 0) (.int .i64 0) (.string ⟨#[47, 97]⟩) (.string ⟨#[]⟩) (.string ⟨#[]⟩) (.int .i64 P) (.int .i64 0) (.int .i64 0) (.bool false) (.string ⟨#[]⟩) (.slice none 0 0) (.int .i64 0) (.int .i64 4)
 have HB5 := Lib.hid (HB3.out.trans ((Cv.next hb4 hal5).mono HB3.out.size))
 have HR5 := Lib.hid r5
 clear hb4 hal5 r5
 go_wp2_with fail
 refine (after_any _ _ _ _ _ _ _ _ _ _ _ _ _ _ _ _).mono ?_
 rintro e w6 ⟨rfl, hb6⟩
 obtain ⟨W7, hW7, r7, hal7, hl7⟩ := box16 w6 (.int .i64 0) (.int .i64 1) (.int .i64 0) (.int .i64 0) (.int .i64 0) (.string ⟨#[47, 97]⟩) (.string ⟨#[]⟩) (.string ⟨#[]⟩) (.int .i64 Q) (.int .i64 0) (.int .i64 0) (.bool false) (.string ⟨#[]⟩) (.slice none 0 0) (.int .i64 (K : Int)) (.int .i64 ((K : Int) + 3))
 have hb57 := Cv.next hb6 hal7
 have HR57 := Lib.hid ((hb57.block w4.heap.size hl5).trans HR5.out)
 have HR7 := Lib.hid r7
 have HB7 := Lib.hid (HB5.out.trans (hb57.mono HB5.out.size))
 have s0 := (HB7.out.cell (p := ⟨w1.heap.size, 0, none⟩) hl2).trans q0
 have s1 := (HB7.out.cell (p := ⟨w1.heap.size, 1, none⟩) hl2).trans q1
 have s2 := (HB7.out.cell (p := ⟨w1.heap.size, 2, none⟩) hl2).trans q2
 obtain ⟨W8, hW8, hops, hal8⟩ := box_ops W7 #[.int .i64 0, .int .i64 0, .int .i64 0, .int .i64 0, .int .i64 0, .string ⟨#[47, 97]⟩, .string ⟨#[]⟩, .string ⟨#[]⟩, .int .i64 P, .int .i64 0, .int .i64 0, .bool false, .string ⟨#[]⟩, .slice none 0 0, .int .i64 0, .int .i64 4, .int .i64 0, .int .i64 1, .int .i64 0, .int .i64 0, .int .i64 0, .string ⟨#[47, 97]⟩, .string ⟨#[]⟩, .string ⟨#[]⟩, .int .i64 Q, .int .i64 0, .int .i64 0, .bool false, .string ⟨#[]⟩, .slice none 0 0, .int .i64 (K : Int), .int .i64 ((K : Int) + 3)] 37 [oneOp callC P 0 0 4, oneOp callD Q 0 (K : Int) ((K : Int) + 3)] rfl (by intro o h; rcases List.mem_cons.1 h with rfl | h; exact ok_one25 _ _ _ _ _ (by decide) (by decide) (by decide); rcases List.mem_cons.1 h with rfl | h; exact ok_one25 _ _ _ _ _ (by decide) (by decide) (by decide); cases h)
 have HOPS := Lib.hid hops
 have HB8 := Lib.hid (HB7.out.trans (hal8.mono HB7.out.size))
 have HB9 := Lib.hid (HB2.out.trans (HB8.out.mono HB2.out.size))
 clear hb6 hal7 hb57 r7 hops hal8 q0 q1 q2
 go_wp2_with (first | (refine load_op w4.heap.size HR57.out _ rfl rfl rfl (by kernel_rfl) ?_) | (refine load_op w6.heap.size HR7.out _ rfl rfl rfl (by kernel_rfl) ?_) | fail)
 have h1 := legal_any _ (newV 2) (some ⟨W7.heap.size, 0, none⟩) 2 2 [oneOp callC P 0 0 4, oneOp callD Q 0 (K : Int) ((K : Int) + 3)] W8 (HST.out.weak.below HB8.out) HOPS.out (HT.out.mono HB9.out (Nat.le_refl _)) (by decide)
 rw [rows_fact P Q K HP.out HQ.out hK8] at h1
 refine h1.mono ?_
 rintro e w9 ⟨rfl, hb9⟩
 have HB10 := Lib.hid (HB9.out.trans (hb9.mono HB9.out.size))
 clear h1 hb9 s0 s1 s2 hW8 hW7 hW5 hW1
 rcases HP.out with rfl | rfl | rfl <;> rcases HQ.out with rfl | rfl | rfl <;> by_cases hk4 : K < 4 <;> (
  have hk4' : decide ((K : Int) < 4) = decide (K < 4) := decide_eq_decide.2 (by omega)
  clear HP HQ
  simp only [hk4, decide_true, decide_false] at hk4'
  go_wp2_with fail
  refine (num25 _ _).mono ?_
  rintro _ _ ⟨rfl, rfl⟩
  go_wp2_with fail
  go_ret
  refine ⟨?_, HB10.out⟩
  first | rfl | (simp [hk4]; done))
end Go.Proofs.YtkflaifopbodfaaGreatDoor
