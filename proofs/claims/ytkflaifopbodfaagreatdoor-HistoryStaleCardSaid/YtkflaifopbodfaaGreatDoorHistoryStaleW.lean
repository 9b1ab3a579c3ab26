/- Chapter 25, HistoryStale: the walk (printed by wip/gen_histstale.py). -/
import Derived.Test.YtkflaifopbodfaaGreatDoorM44
import Derived.Test.YtkflaifopbodfaaGreatDoorM01
set_option linter.unusedVariables false
set_option linter.unusedSimpArgs false
namespace Go.Proofs.YtkflaifopbodfaaGreatDoor
open Go.RowKit
theorem stale_1 (K : Nat) (hK : K < 9) : legV (newV 2) [oneOp callS 1 0 (K : Int) ((K : Int) + 1), oneOp callC 0 0 2 5] = (decide (K < 5), 0) := by
 have h : K = 0 ∨ K = 1 ∨ K = 2 ∨ K = 3 ∨ K = 4 ∨ K = 5 ∨ K = 6 ∨ K = 7 ∨ K = 8 := by omega
 rcases h with rfl | rfl | rfl | rfl | rfl | rfl | rfl | rfl | rfl <;> decide +kernel
theorem stale_0 (K : Nat) (hK : K < 9) : legV (newV 2) [oneOp callS 0 0 (K : Int) ((K : Int) + 1), oneOp callC 0 0 2 5] = (decide (2 < K + 1), 0) := by
 have h : K = 0 ∨ K = 1 ∨ K = 2 ∨ K = 3 ∨ K = 4 ∨ K = 5 ∨ K = 6 ∨ K = 7 ∨ K = 8 := by omega
 rcases h with rfl | rfl | rfl | rfl | rfl | rfl | rfl | rfl | rfl <;> decide +kernel
theorem set_code {w : World} {g : Nat} {x0 x1 x2 x3 x4 x5 x6 x7 x8 x9 x10 x11 x12 x13 x14 x15 : Value} (h : w.heap[g]? = some (.cells #[x0, x1, x2, x3, x4, x5, x6, x7, x8, x9, x10, x11, x12, x13, x14, x15] 37 (0, 0))) (y : Value) : ∃ W, w.setCell ⟨g, 8, none⟩ y = W ∧ W.heap[g]? = some (.cells #[x0, x1, x2, x3, x4, x5, x6, x7, y, x9, x10, x11, x12, x13, x14, x15] 37 (0, 0)) ∧
  (∀ k, k ≠ g → W.heap[k]? = w.heap[k]?) ∧ W.heap.size = w.heap.size ∧ (∀ B u, B ≤ g → Below B u w → Below B u W) :=
 ⟨_, rfl, heap_setCell_same w g 8 _ _ y h, fun k hk => Below.heap_setCell w ⟨g, 8, none⟩ y k hk, by simp [World.setCell], fun B u hB hb => hb.setCell (p := ⟨g, 8, none⟩) hB y⟩
set_option maxRecDepth 100000 in
set_option maxHeartbeats 8000000 in
theorem stale_join (w : World) (began : Int) (sees : Bool) (hT : Tab w) :
  Calls Tryz.prog 4 #[.int .i64 began, .bool sees] w fun e w' => e = .returned (.bool true) ∧ Below w.heap.size w w' := by
 have HT := Lib.hid hT
 clear hT
 go_enter Tryz.func4, Tryz.ntmps4
 go_wp2_with fail
 refine (awake25 w HT.out).mono ?_
 rintro e w0 ⟨rfl, hb0⟩
 have HB0 := Lib.hid hb0
 clear hb0
 go_wp2_with fail
 refine (new_any 2 (by omega) (by omega) w0).mono ?_
 rintro e w1 ⟨v1, rfl, hst1, hb1⟩
 obtain ⟨A1, n1, c1, E1, m1, d1, D1, k1, e1, rfl, _⟩ := hst1.at_
 obtain ⟨W1, hW1, p0, p1, p2, hal1, hl1⟩ := box_st w1 A1 n1 c1 E1 m1 d1 D1 k1 e1
 obtain ⟨G, hG1, hG⟩ := Cv.wrap_u64_any began
 obtain ⟨K, hK9, hKe⟩ : ∃ K : Nat, K < 9 ∧ (G : Int) % 9 = (K : Int) := ⟨G % 9, Nat.mod_lt _ (by omega), by omega⟩
 have HST := Lib.hid (hst1.below hal1)
 have HB1 := Lib.hid (HB0.out.trans ((hb1.trans (hal1.mono hb1.size)).mono HB0.out.size))
 clear hst1 hb1 hal1
 go_wp2_with fail
 refine (after_any _ _ _ _ _ _ _ _ _ _ _ _ _ _ _ _).mono ?_
 rintro e w4 ⟨rfl, hb4⟩
 obtain ⟨W5, hW5, r5, hal5, hl5⟩ := box16 w4 (.int .i64 0) (.int .i64 0) (.int .i64 0) (.int .i64 0) (.int .i64 0) (.string ⟨#[47, 97]⟩) (.string ⟨#[]⟩) (.string ⟨#[]⟩) (.int .i64 0) (.int .i64 0) (.int .i64 0) (.bool false) (.string ⟨#[]⟩) (.slice none 0 0) (.int .i64 2) (.int .i64 5)
 have HB5 := Lib.hid (Cv.next hb4 hal5)
 have HR5 := Lib.hid r5
 clear hb4 hal5 r5
 go_wp2_with fail
 refine (after_any _ _ _ _ _ _ _ _ _ _ _ _ _ _ _ _).mono ?_
 rintro e w6 ⟨rfl, hb6⟩
 obtain ⟨W7, hW7, r7, hal7, hl7⟩ := box16 w6 (.int .i64 13) (.int .i64 1) (.int .i64 0) (.int .i64 0) (.int .i64 0) (.string ⟨#[47, 97]⟩) (.string ⟨#[]⟩) (.string ⟨#[]⟩) (.int .i64 1) (.int .i64 0) (.int .i64 0) (.bool false) (.string ⟨#[]⟩) (.slice none 0 0) (.int .i64 (K : Int)) (.int .i64 ((K : Int) + 1))
 have hb57 := Cv.next hb6 hal7
 have HR57 := Lib.hid ((hb57.block w4.heap.size hl5).trans HR5.out)
 have hl4 := Nat.lt_of_lt_of_le hl5 hb6.size
 have HL56 := Lib.hid hb6.size
 have HR7 := Lib.hid r7
 have HB7 := Lib.hid (HB5.out.trans (hb57.mono HB5.out.size))
 have s0 := (HB7.out.cell (p := ⟨w1.heap.size, 0, none⟩) hl1).trans p0
 have s1 := (HB7.out.cell (p := ⟨w1.heap.size, 1, none⟩) hl1).trans p1
 have s2 := (HB7.out.cell (p := ⟨w1.heap.size, 2, none⟩) hl1).trans p2
 clear hb6 hal7 hb57 r7 p0 p1 p2
 cases sees
 case false =>
  clear hl4
  obtain ⟨W8, hW8, hops, hal8⟩ := box_ops W7 #[.int .i64 13, .int .i64 1, .int .i64 0, .int .i64 0, .int .i64 0, .string ⟨#[47, 97]⟩, .string ⟨#[]⟩, .string ⟨#[]⟩, .int .i64 1, .int .i64 0, .int .i64 0, .bool false, .string ⟨#[]⟩, .slice none 0 0, .int .i64 (K : Int), .int .i64 ((K : Int) + 1), .int .i64 0, .int .i64 0, .int .i64 0, .int .i64 0, .int .i64 0, .string ⟨#[47, 97]⟩, .string ⟨#[]⟩, .string ⟨#[]⟩, .int .i64 0, .int .i64 0, .int .i64 0, .bool false, .string ⟨#[]⟩, .slice none 0 0, .int .i64 2, .int .i64 5] 37 [oneOp callS 1 0 (K : Int) ((K : Int) + 1), oneOp callC 0 0 2 5] rfl (by intro o h; rcases List.mem_cons.1 h with rfl | h; exact ok_one25 _ _ _ _ _ (by decide) (by decide) (by decide); rcases List.mem_cons.1 h with rfl | h; exact ok_one25 _ _ _ _ _ (by decide) (by decide) (by decide); cases h)
  have HOPS := Lib.hid hops
  have HB8 := Lib.hid (HB7.out.trans (hal8.mono HB7.out.size))
  have HB9 := Lib.hid (HB1.out.trans (HB8.out.mono HB1.out.size))
  clear hops hal8
  go_wp2_with (first | (refine load_op w4.heap.size HR57.out _ rfl rfl rfl (by kernel_rfl) ?_) | (refine load_op w6.heap.size HR7.out _ rfl rfl rfl (by kernel_rfl) ?_) | fail)
  have h1 := legal_any _ (newV 2) (some ⟨W7.heap.size, 0, none⟩) 2 2 [oneOp callS 1 0 (K : Int) ((K : Int) + 1), oneOp callC 0 0 2 5] W8 (HST.out.weak.below HB8.out) HOPS.out (HT.out.mono HB9.out (Nat.le_refl _)) (by decide)
  rw [stale_1 K hK9] at h1
  refine h1.mono ?_
  rintro e w9 ⟨rfl, hb9⟩
  have HB10 := Lib.hid (HB9.out.trans (hb9.mono HB9.out.size))
  clear h1 hb9 s0 s1 s2 hW8 hW1
  by_cases hk4 : K < 5
  all_goals (
   have hk4' : decide ((K : Int) < 5) = decide (K < 5) := decide_eq_decide.2 (by omega)
   simp only [hk4, decide_true, decide_false] at hk4'
   go_wp2_with fail
   refine (num25 _ _).mono ?_
   rintro _ _ ⟨rfl, rfl⟩
   go_wp2_with fail
   go_ret
   refine ⟨?_, HB10.out⟩
   first | rfl | (simp [hk4]; done) | (simp [hk4, hk4']; done))
 case true =>
  obtain ⟨_, _, _, _, _, _, _, _, c8, _, _, _, _, _, _, _⟩ := cells16 HR7.out
  have c8f : ∀ j, (W7.frozen? ⟨w6.heap.size, j, none⟩ = false) := fun j => frozen_of_row W7 w6.heap.size j _ _ HR7.out
  obtain ⟨W9, hW9, r9, hoth, hsz, hbs⟩ := set_code HR7.out (.int .i64 0)
  have hl1w : w1.heap.size < w6.heap.size := Nat.lt_of_lt_of_le hl1 (Nat.le_trans HB5.out.size HL56.out)
  have HR579 := Lib.hid ((hoth w4.heap.size (Nat.ne_of_lt hl4)).trans HR57.out)
  have HR9 := Lib.hid r9
  have hne1 : w1.heap.size ≠ w6.heap.size := Nat.ne_of_lt hl1w
  have HB79 := Lib.hid (hbs W1.heap.size W1 (Nat.le_trans HB5.out.size HL56.out) HB7.out)
  have u0 := (HB79.out.cell (p := ⟨w1.heap.size, 0, none⟩) hl1).trans ((HB7.out.cell (p := ⟨w1.heap.size, 0, none⟩) hl1).symm.trans s0)
  have u1 := (HB79.out.cell (p := ⟨w1.heap.size, 1, none⟩) hl1).trans ((HB7.out.cell (p := ⟨w1.heap.size, 1, none⟩) hl1).symm.trans s1)
  have u2 := (HB79.out.cell (p := ⟨w1.heap.size, 2, none⟩) hl1).trans ((HB7.out.cell (p := ⟨w1.heap.size, 2, none⟩) hl1).symm.trans s2)
  clear hoth hsz hbs r9 hl1w hne1 hl4 s0 s1 s2
  obtain ⟨W8, hW8, hops, hal8⟩ := box_ops W9 #[.int .i64 13, .int .i64 1, .int .i64 0, .int .i64 0, .int .i64 0, .string ⟨#[47, 97]⟩, .string ⟨#[]⟩, .string ⟨#[]⟩, .int .i64 0, .int .i64 0, .int .i64 0, .bool false, .string ⟨#[]⟩, .slice none 0 0, .int .i64 (K : Int), .int .i64 ((K : Int) + 1), .int .i64 0, .int .i64 0, .int .i64 0, .int .i64 0, .int .i64 0, .string ⟨#[47, 97]⟩, .string ⟨#[]⟩, .string ⟨#[]⟩, .int .i64 0, .int .i64 0, .int .i64 0, .bool false, .string ⟨#[]⟩, .slice none 0 0, .int .i64 2, .int .i64 5] 37 [oneOp callS 0 0 (K : Int) ((K : Int) + 1), oneOp callC 0 0 2 5] rfl (by intro o h; rcases List.mem_cons.1 h with rfl | h; exact ok_one25 _ _ _ _ _ (by decide) (by decide) (by decide); rcases List.mem_cons.1 h with rfl | h; exact ok_one25 _ _ _ _ _ (by decide) (by decide) (by decide); cases h)
  have HOPS := Lib.hid hops
  have HB8 := Lib.hid (HB79.out.trans (hal8.mono HB79.out.size))
  have HB9 := Lib.hid (HB1.out.trans (HB8.out.mono HB1.out.size))
  clear hops hal8
  go_wp2_with (first | (refine load_op w4.heap.size HR579.out _ rfl rfl rfl (by kernel_rfl) ?_) | (refine load_op w6.heap.size HR9.out _ rfl rfl rfl (by kernel_rfl) ?_) | fail)
  have h1 := legal_any _ (newV 2) (some ⟨W9.heap.size, 0, none⟩) 2 2 [oneOp callS 0 0 (K : Int) ((K : Int) + 1), oneOp callC 0 0 2 5] W8 (HST.out.weak.below HB8.out) HOPS.out (HT.out.mono HB9.out (Nat.le_refl _)) (by decide)
  rw [stale_0 K hK9] at h1
  refine h1.mono ?_
  rintro e w9 ⟨rfl, hb9⟩
  have HB10 := Lib.hid (HB9.out.trans (hb9.mono HB9.out.size))
  clear h1 hb9 u0 u1 u2 hW8 hW1
  by_cases hk4 : 2 < K + 1
  all_goals (
   have hk4' : decide (2 < (K : Int) + 1) = decide (2 < K + 1) := decide_eq_decide.2 (by omega)
   simp only [hk4, decide_true, decide_false] at hk4'
   go_wp2_with fail
   refine (num25 _ _).mono ?_
   rintro _ _ ⟨rfl, rfl⟩
   go_wp2_with fail
   go_ret
   refine ⟨?_, HB10.out⟩
   first | rfl | (simp [hk4]; done) | (simp [hk4, hk4']; done))
end Go.Proofs.YtkflaifopbodfaaGreatDoor
