/- The law ConsoleBlanks: its walk. -/
import Derived.Test.YtilkhmhgjbhfnaaGreatDoorM44
import Derived.Test.YtilkhmhgjbhfnaaGreatDoorM43
set_option linter.unusedVariables false
set_option linter.unusedSimpArgs false
namespace Go.Proofs.YtilkhmhgjbhfnaaGreatDoor
open Go.RowKit
theorem run_lit (s : ByteArray) (L : List UInt8) (w : World) (hT : Tab w) (hM : ∃ m, w.cell? ⟨0, 0, none⟩ = some (.int .i64 m)) (h : s.size ≤ 65536) (hr : runB s = L) :
  Calls Tryz.prog 7 #[.string s] w fun e w' => e = .returned (.tuple #[.string ⟨L.toArray⟩, .int .i64 0]) ∧ Below w.heap.size w w' := by
 have := run_any s w h hT hM
 rw [hr] at this
 exact this
theorem d3_0 : Dc.dec3B 0 = ⟨#[48]⟩ := by decide +kernel
theorem d3_1 : Dc.dec3B 1 = ⟨#[49]⟩ := by decide +kernel
theorem d3_2 : Dc.dec3B 2 = ⟨#[50]⟩ := by decide +kernel
theorem d3_3 : Dc.dec3B 3 = ⟨#[51]⟩ := by decide +kernel
set_option maxRecDepth 100000 in
set_option maxHeartbeats 16000000 in
theorem blanks_walk (k core : Int) (w : World) (hT : Tab w) (hM : ∃ m, w.cell? ⟨0, 0, none⟩ = some (.int .i64 m)) :
  Calls Tryz.prog 6 #[.int .i64 k, .int .i64 core] w fun e w' => e = .returned (.bool true) ∧ Below w.heap.size w w' := by
 obtain ⟨q, hq, hqq⟩ := Cv.and_i64 core 3 (by omega)
 rw [show ((3 : Nat) : Int) = 3 from rfl] at hqq
 obtain ⟨j, hj, hjj⟩ := Cv.and_i64 k 3 (by omega)
 rw [show ((3 : Nat) : Int) = 3 from rfl] at hjj
 have HT := Lib.hid hT
 have HM := Lib.hid hM
 clear hT hM
 go_enter Tryz.func6, Tryz.ntmps6
 go_wp2_with fail
 refine (awake27 w HT.out HM.out).mono ?_
 rintro e1 w1 ⟨rfl, hb1⟩
 have HB1 := Lib.hid hb1
 have HM1 := Lib.hid (maxlen_below HM.out hb1)
 have HT1 := Lib.hid (HT.out.below hb1)
 clear hb1
 go_wp2_with fail
 refine (Dc.decimal3_any q (by omega) w1).mono ?_
 rintro e2 w2 ⟨rfl, hb2⟩
 have HB2 := Lib.hid (Cv.next HB1.out hb2)
 have HM2 := Lib.hid (maxlen_below HM1.out hb2)
 have HT2 := Lib.hid (HT1.out.below hb2)
 clear hb2
 have hj4 : j = 0 ∨ j = 1 ∨ j = 2 ∨ j = 3 := by omega
 have hq4 : q = 0 ∨ q = 1 ∨ q = 2 ∨ q = 3 := by omega
 clear hj hq
 obtain ⟨w3, hw3⟩ : ∃ w3, w2.alloc (.cells #[.string ⟨#[32]⟩, .string ⟨#[9]⟩, .string ⟨#[32, 32]⟩, .string ⟨#[32, 9, 32]⟩] 9) = w3 := ⟨_, rfl⟩
 have hb3 : Below w2.heap.size w2 w3 := by rw [← hw3]; exact (Below.refl _ _).alloc (Nat.le_refl _) _
 have HB3 := Lib.hid (Cv.next HB2.out hb3)
 have HM3 := Lib.hid (maxlen_below HM2.out hb3)
 have HT3 := Lib.hid (HT2.out.below hb3)
 have HW3 := Lib.hid hw3
 clear hb3 hw3
 rcases hj4 with rfl | rfl | rfl | rfl <;> rcases hq4 with rfl | rfl | rfl | rfl
 all_goals (
  first | rw [d3_0] | rw [d3_1] | rw [d3_2] | rw [d3_3]
  go_wp2_with fail
  rw [HW3.out]
  first
   | (refine Calls.mono (run_lit _ [48, 10, 48, 32, 100, 10] w3 HT3.out HM3.out ?h1 ?h2) ?_; (case h1 => decide +kernel); (case h2 => decide +kernel))
   | (refine Calls.mono (run_lit _ [57, 10, 48, 10] w3 HT3.out HM3.out ?h1 ?h2) ?_; (case h1 => decide +kernel); (case h2 => decide +kernel))
  rintro e4 w4 ⟨rfl, hb4⟩
  have HB4 := Lib.hid (Cv.next HB3.out hb4)
  have HM4 := Lib.hid (maxlen_below HM3.out hb4)
  have HT4 := Lib.hid (HT3.out.below hb4)
  clear hb4
  go_wp2_with fail
  first
   | (refine Calls.mono (run_lit _ [48, 10, 48, 32, 100, 10] w4 HT4.out HM4.out ?h1 ?h2) ?_; (case h1 => decide +kernel); (case h2 => decide +kernel))
   | (refine Calls.mono (run_lit _ [57, 10, 48, 10] w4 HT4.out HM4.out ?h1 ?h2) ?_; (case h1 => decide +kernel); (case h2 => decide +kernel))
  rintro e5 w5 ⟨rfl, hb5⟩
  have HB5 := Lib.hid (Cv.next HB4.out hb5)
  clear hb5
  go_wp2_with fail
  refine (num27 0 w5).mono ?_
  rintro e6 w6 ⟨rfl, rfl⟩
  go_wp2_with fail
  refine (num27 0 w5).mono ?_
  rintro e7 w7 ⟨rfl, rfl⟩
  go_wp2_with fail
  go_ret
  exact ⟨rfl, HB5.out⟩)
end Go.Proofs.YtilkhmhgjbhfnaaGreatDoor
