/- What the laws of chapter 14 ask of every program: awake (printed by wip/gen_awake14.py). -/
import Derived.Test.YthhceopnnappgaaGreatDoorFsEqual
import Derived.Test.YthhceopnnappgaaGreatDoorM42
set_option linter.unusedVariables false
set_option linter.unusedSimpArgs false
namespace Go.Proofs.YthhceopnnappgaaGreatDoor
open Go.RowKit
def callA : Ca := ⟨0, 0, 0, 0, 0, ⟨#[47, 97]⟩, ⟨#[]⟩, ⟨#[]⟩⟩
def stA : St := ⟨[⟨1, true, [⟨⟨#[97]⟩, 2⟩], ⟨#[]⟩⟩, ⟨2, false, [], ⟨#[]⟩⟩], [], [1]⟩
def stNone : St := ⟨[], [], []⟩
theorem stNone_at (w : World) : StAt none w (.agg #[.slice none 0 0, .slice none 0 0, .slice none 0 0]) stNone :=
 ⟨⟨none, 0, 0, none, 0, 0, none, 0, 0, rfl, ⟨rfl, fun h => absurd h (by omega)⟩, ⟨rfl, fun h => absurd h (by omega)⟩, ⟨rfl, fun h => absurd h (by omega)⟩, ⟨by omega, fun _ => rfl⟩, ⟨by omega, fun _ => rfl⟩, ⟨by omega, fun _ => rfl⟩⟩, ⟨by decide +kernel, by decide +kernel, by decide +kernel⟩⟩
theorem num14 (n : Int) (w : World) : Calls Tryz.prog 11 #[.int .i64 n] w fun e w' => e = .returned (.int .i64 n) ∧ w = w' := by
 go_enter Tryz.func11, Tryz.ntmps11
 go_wp2_with fail
 go_ret
 exact ⟨rfl, rfl⟩
theorem Do_14 (v : Value) (w : World) (h : StAt none w v (newV 1)) :
  Calls Tryz.prog 19 #[v, caV callA] w fun e w' => ∃ v', e = .returned (.tuple #[v', resV (make1V (newV 1) callA).2]) ∧ StAt (some w.heap.size) w' v' stA ∧ Below w.heap.size w w' := by
 have e : (make1V (newV 1) callA).1 = stA := by decide +kernel
 rw [← e]
 exact Do_of v (newV 1) callA _ _ w h fun u hu => do_make v (newV 1) callA (-1) u hu (by decide +kernel) (by decide) (by decide +kernel) rfl (by decide) ⟨⟨by decide +kernel, by decide +kernel, by decide +kernel⟩, ⟨by decide +kernel, by decide +kernel, by decide +kernel⟩, ⟨by decide +kernel, by decide +kernel, by decide +kernel⟩, by decide +kernel⟩ (by decide +kernel)
theorem of_stA : txt (ofO stA) = ⟨#[100, 32, 47, 32, 49, 10, 102, 32, 47, 97, 32, 50, 32, 45, 10, 109, 32, 49, 10]⟩ := congrArg txt (show ofO stA = [100, 32, 47, 32, 49, 10, 102, 32, 47, 97, 32, 50, 32, 45, 10, 109, 32, 49, 10] by decide +kernel)
theorem files_stA : txt (filesO stA) = ⟨#[100, 32, 47, 32, 49, 10, 102, 32, 47, 97, 32, 50, 32, 45, 10]⟩ := congrArg txt (show filesO stA = [100, 32, 47, 32, 49, 10, 102, 32, 47, 97, 32, 50, 32, 45, 10] by decide +kernel)
theorem code_stA : codeO stA = 0 ∧ codeO stNone = 1400 := ⟨by decide +kernel, by decide +kernel⟩
theorem same_stA : sameO stA stA = true ∧ sameO (newV 1) stA = false := ⟨by decide +kernel, by decide +kernel⟩
set_option maxRecDepth 100000 in
set_option maxHeartbeats 8000000 in
theorem awake14 (w : World) (hT : Tab w) : Calls Tryz.prog 16 #[] w fun e w' => e = .returned (.bool true) ∧ Below w.heap.size w w' := by
 have HT := Lib.hid hT
 clear hT
 go_enter Tryz.func16, Tryz.ntmps16
 go_wp2_with fail
 refine (new_any 1 (by omega) (by omega) w).mono ?_
 rintro e w1 ⟨v1, rfl, hst1, hb1⟩
 obtain ⟨A1, n1, c1, E1, m1, d1, D1, k1, e1, rfl, _⟩ := hst1.at_
 obtain ⟨W1, hW1, p0, p1, p2, hal1, hl1⟩ := box_st w1 A1 n1 c1 E1 m1 d1 D1 k1 e1
 have HB := Lib.hid (Cv.next hb1 hal1)
 have HS := Lib.hid (hst1.weak.below hal1)
 have HP := Lib.hid (And.intro p0 (And.intro p1 p2))
 have HL1 := Lib.hid hl1
 clear hb1 hst1 hal1
 go_wp2_with fail
 refine (Do_14 _ W1 HS.out).mono ?_
 rintro e w2 ⟨v2, rfl, hst2, hb2⟩
 have hst2 := hst2.weak
 obtain ⟨A2, n2, c2, E2, m2, d2, D2, k2, e2, rfl, _⟩ := hst2.at_
 have HST2 := Lib.hid hst2
 have HB2 := Lib.hid hb2
 clear hst2 hb2 p0 p1 p2
 unfold resV
 go_wp2_with fail
 obtain ⟨W2, hW2, q0, q1, q2, hal2, hl2⟩ := box_st w2 A2 n2 c2 E2 m2 d2 D2 k2 e2
 rw [hW2]
 have hst2 := HST2.out
 have hb2 := HB2.out
 obtain ⟨W3, hW3⟩ : ∃ W3, W2.alloc (.cells #[.int .i64 (make1V (newV 1) callA).2.code, .int .i64 (make1V (newV 1) callA).2.fd, .int .i64 (make1V (newV 1) callA).2.num, .bool (make1V (newV 1) callA).2.dir, .string (make1V (newV 1) callA).2.data, .slice none 0 0] 44) = W3 := ⟨_, rfl⟩
 rw [hW3]
 have hz2 : W2.heap.size = w2.heap.size + 1 := by rw [← hW2]; simp
 have hz3 : W3.heap.size = w2.heap.size + 2 := by rw [← hW3, ← hW2]; simp
 have hal3 : Below W2.heap.size W2 W3 := by rw [← hW3]; exact (Below.refl _ _).alloc (Nat.le_refl _) _
 have hb13 : Below W1.heap.size W1 W3 := Cv.next (Cv.next hb2 hal2) hal3
 have HS := Lib.hid (HS.out.below hb13)
 have HU := Lib.hid ((hst2.below hal2).below hal3)
 have HB := Lib.hid (Cv.next HB.out hb13)
 have p0 := (hb13.cell (p := ⟨w1.heap.size, 0, none⟩) hl1).trans HP.out.1
 have p1 := (hb13.cell (p := ⟨w1.heap.size, 1, none⟩) hl1).trans HP.out.2.1
 have p2 := (hb13.cell (p := ⟨w1.heap.size, 2, none⟩) hl1).trans HP.out.2.2
 have q0 := (hal3.cell (p := ⟨w2.heap.size, 0, none⟩) hl2).trans q0
 have q1 := (hal3.cell (p := ⟨w2.heap.size, 1, none⟩) hl2).trans q1
 have q2 := (hal3.cell (p := ⟨w2.heap.size, 2, none⟩) hl2).trans q2
 have lp : w1.heap.size < W3.heap.size := Nat.lt_of_lt_of_le hl1 hb13.size
 have lq : w2.heap.size < W3.heap.size := Nat.lt_of_lt_of_le hl2 hal3.size
 clear hst2 hb2 hal2 hal3 hb13 hl1 hl2 hW2 hW3
 have h1 := shof_any _ stA W3 HU.out (HT.out.below HB.out)
 rw [of_stA, code_stA.1] at h1
 refine h1.mono ?_
 clear h1
 rintro e w4 ⟨rfl, hb4⟩
 have HS := Lib.hid (HS.out.below hb4)
 have HU := Lib.hid (HU.out.below hb4)
 have HB := Lib.hid (Cv.next HB.out hb4)
 have p0 := (hb4.cell (p := ⟨w1.heap.size, 0, none⟩) lp).trans p0
 have p1 := (hb4.cell (p := ⟨w1.heap.size, 1, none⟩) lp).trans p1
 have p2 := (hb4.cell (p := ⟨w1.heap.size, 2, none⟩) lp).trans p2
 have q0 := (hb4.cell (p := ⟨w2.heap.size, 0, none⟩) lq).trans q0
 have q1 := (hb4.cell (p := ⟨w2.heap.size, 1, none⟩) lq).trans q1
 have q2 := (hb4.cell (p := ⟨w2.heap.size, 2, none⟩) lq).trans q2
 have lp : w1.heap.size < w4.heap.size := Nat.lt_of_lt_of_le lp hb4.size
 have lq : w2.heap.size < w4.heap.size := Nat.lt_of_lt_of_le lq hb4.size
 clear hb4
 go_wp2_with fail
 have h1 := shfiles_any _ stA w4 HU.out (HT.out.below HB.out)
 rw [files_stA, code_stA.1] at h1
 refine h1.mono ?_
 clear h1
 rintro e w5 ⟨rfl, hb5⟩
 have HS := Lib.hid (HS.out.below hb5)
 have HU := Lib.hid (HU.out.below hb5)
 have HB := Lib.hid (Cv.next HB.out hb5)
 have p0 := (hb5.cell (p := ⟨w1.heap.size, 0, none⟩) lp).trans p0
 have p1 := (hb5.cell (p := ⟨w1.heap.size, 1, none⟩) lp).trans p1
 have p2 := (hb5.cell (p := ⟨w1.heap.size, 2, none⟩) lp).trans p2
 have q0 := (hb5.cell (p := ⟨w2.heap.size, 0, none⟩) lq).trans q0
 have q1 := (hb5.cell (p := ⟨w2.heap.size, 1, none⟩) lq).trans q1
 have q2 := (hb5.cell (p := ⟨w2.heap.size, 2, none⟩) lq).trans q2
 have lp : w1.heap.size < w5.heap.size := Nat.lt_of_lt_of_le lp hb5.size
 have lq : w2.heap.size < w5.heap.size := Nat.lt_of_lt_of_le lq hb5.size
 clear hb5
 go_wp2_with fail
 have h1 := shof_any _ stNone w5 (stNone_at w5) (HT.out.below HB.out)
 rw [code_stA.2] at h1
 refine h1.mono ?_
 clear h1
 rintro e w6 ⟨rfl, hb6⟩
 have HS := Lib.hid (HS.out.below hb6)
 have HU := Lib.hid (HU.out.below hb6)
 have HB := Lib.hid (Cv.next HB.out hb6)
 have p0 := (hb6.cell (p := ⟨w1.heap.size, 0, none⟩) lp).trans p0
 have p1 := (hb6.cell (p := ⟨w1.heap.size, 1, none⟩) lp).trans p1
 have p2 := (hb6.cell (p := ⟨w1.heap.size, 2, none⟩) lp).trans p2
 have q0 := (hb6.cell (p := ⟨w2.heap.size, 0, none⟩) lq).trans q0
 have q1 := (hb6.cell (p := ⟨w2.heap.size, 1, none⟩) lq).trans q1
 have q2 := (hb6.cell (p := ⟨w2.heap.size, 2, none⟩) lq).trans q2
 have lp : w1.heap.size < w6.heap.size := Nat.lt_of_lt_of_le lp hb6.size
 have lq : w2.heap.size < w6.heap.size := Nat.lt_of_lt_of_le lq hb6.size
 clear hb6
 go_wp2_with fail
 refine (num14 _ _).mono ?_
 rintro e w6' ⟨rfl, rfl⟩
 go_wp2_with fail
 refine (num14 _ _).mono ?_
 rintro e w6' ⟨rfl, rfl⟩
 go_wp2_with fail
 refine (num14 _ _).mono ?_
 rintro e w6' ⟨rfl, rfl⟩
 go_wp2_with fail
 have h1 := shsame_any _ _ stA stA w6 HU.out HU.out (HT.out.below HB.out)
 rw [same_stA.1] at h1
 refine h1.mono ?_
 clear h1
 rintro e w7 ⟨rfl, hb7⟩
 have HS := Lib.hid (HS.out.below hb7)
 have HU := Lib.hid (HU.out.below hb7)
 have HB := Lib.hid (Cv.next HB.out hb7)
 have p0 := (hb7.cell (p := ⟨w1.heap.size, 0, none⟩) lp).trans p0
 have p1 := (hb7.cell (p := ⟨w1.heap.size, 1, none⟩) lp).trans p1
 have p2 := (hb7.cell (p := ⟨w1.heap.size, 2, none⟩) lp).trans p2
 have q0 := (hb7.cell (p := ⟨w2.heap.size, 0, none⟩) lq).trans q0
 have q1 := (hb7.cell (p := ⟨w2.heap.size, 1, none⟩) lq).trans q1
 have q2 := (hb7.cell (p := ⟨w2.heap.size, 2, none⟩) lq).trans q2
 have lp : w1.heap.size < w7.heap.size := Nat.lt_of_lt_of_le lp hb7.size
 have lq : w2.heap.size < w7.heap.size := Nat.lt_of_lt_of_le lq hb7.size
 clear hb7
 go_wp2_with fail
 have h1 := shsame_any _ _ (newV 1) stA w7 HS.out HU.out (HT.out.below HB.out)
 rw [same_stA.2] at h1
 refine h1.mono ?_
 clear h1
 rintro e w8 ⟨rfl, hb8⟩
 have HB := Lib.hid (Cv.next HB.out hb8)
 clear hb8
 go_wp2_with fail
 go_ret
 exact ⟨rfl, HB.out⟩
end Go.Proofs.YthhceopnnappgaaGreatDoor
