/- Parts of the proof, side by side: Awake14, FsDoBad, FsDoAll, FsDoc. -/
import Derived.Test.YthhceopnnappgaaGreatDoorM07
import Derived.Test.YthhceopnnappgaaGreatDoorM41
import Derived.Test.YthhceopnnappgaaGreatDoorFsDoAny
import Derived.Test.YthhceopnnappgaaGreatDoorM35
set_option linter.unusedVariables false
set_option linter.unusedSimpArgs false
namespace Go.Proofs.YthhceopnnappgaaGreatDoor
open Go.RowKit
def callA : Ca := ⟨0, 0, 0, 0, 0, ⟨#[47, 97]⟩, ⟨#[]⟩, ⟨#[]⟩⟩
def stA : St := ⟨[⟨1, true, [⟨⟨#[97]⟩, 2⟩], ⟨#[]⟩⟩, ⟨2, false, [], ⟨#[]⟩⟩], [], [1]⟩
def stNone : St := ⟨[], [], []⟩
theorem stNone_at (w : World) : StAt none w (.agg #[.slice none 0 0, .slice none 0 0, .slice none 0 0]) stNone :=
 ⟨⟨none, 0, 0, none, 0, 0, none, 0, 0, rfl, ⟨rfl, fun h => absurd h (by omega)⟩, ⟨rfl, fun h => absurd h (by omega)⟩, ⟨rfl, fun h => absurd h (by omega)⟩, ⟨by omega, fun _ => rfl⟩, ⟨by omega, fun _ => rfl⟩, ⟨by omega, fun _ => rfl⟩⟩, ⟨by decide +kernel, by decide +kernel, by decide +kernel⟩⟩
theorem num14 (n : Int) (w : World) : Calls Tryz.prog 11 #[.int .i64 n] w fun e w' => e = .returned (.int .i64 n) ∧ w = w' := by
 go_enter Tryz.func11, Tryz.ntmps11
 go_wp2_with fail
 go_ret
 exact ⟨rfl, rfl⟩
theorem Do_14 (v : Value) (w : World) (h : StAt none w v (newV 1)) :
  Calls Tryz.prog 19 #[v, caV callA] w fun e w' => ∃ v', e = .returned (.tuple #[v', resV (make1V (newV 1) callA).2]) ∧ StAt (some w.heap.size) w' v' stA ∧ Below w.heap.size w w' := by
 have e : (make1V (newV 1) callA).1 = stA := by decide +kernel
 rw [← e]
 exact Do_of v (newV 1) callA _ _ w h fun u hu => do_make v (newV 1) callA (-1) u hu (by decide +kernel) (by decide) (by decide +kernel) rfl (by decide) ⟨⟨by decide +kernel, by decide +kernel, by decide +kernel⟩, ⟨by decide +kernel, by decide +kernel, by decide +kernel⟩, ⟨by decide +kernel, by decide +kernel, by decide +kernel⟩, by decide +kernel⟩ (by decide +kernel)
theorem of_stA : txt (ofO stA) = ⟨#[100, 32, 47, 32, 49, 10, 102, 32, 47, 97, 32, 50, 32, 45, 10, 109, 32, 49, 10]⟩ := congrArg txt (show ofO stA = [100, 32, 47, 32, 49, 10, 102, 32, 47, 97, 32, 50, 32, 45, 10, 109, 32, 49, 10] by decide +kernel)
theorem files_stA : txt (filesO stA) = ⟨#[100, 32, 47, 32, 49, 10, 102, 32, 47, 97, 32, 50, 32, 45, 10]⟩ := congrArg txt (show filesO stA = [100, 32, 47, 32, 49, 10, 102, 32, 47, 97, 32, 50, 32, 45, 10] by decide +kernel)
theorem code_stA : codeO stA = 0 ∧ codeO stNone = 1400 := ⟨by decide +kernel, by decide +kernel⟩
theorem same_stA : sameO stA stA = true ∧ sameO (newV 1) stA = false := ⟨by decide +kernel, by decide +kernel⟩
set_option maxRecDepth 100000 in
set_option maxHeartbeats 8000000 in
theorem awake14 (w : World) (hT : Tab w) : Calls Tryz.prog 16 #[] w fun e w' => e = .returned (.bool true) ∧ Below w.heap.size w w' := by
 have HT := Lib.hid hT
 clear hT
 go_enter Tryz.func16, Tryz.ntmps16
 go_wp2_with fail
 refine (new_any 1 (by omega) (by omega) w).mono ?_
 rintro e w1 ⟨v1, rfl, hst1, hb1⟩
 obtain ⟨A1, n1, c1, E1, m1, d1, D1, k1, e1, rfl, _⟩ := hst1.at_
 obtain ⟨W1, hW1, p0, p1, p2, hal1, hl1⟩ := box_st w1 A1 n1 c1 E1 m1 d1 D1 k1 e1
 have HB := Lib.hid (Cv.next hb1 hal1)
 have HS := Lib.hid (hst1.weak.below hal1)
 have HP := Lib.hid (And.intro p0 (And.intro p1 p2))
 have HL1 := Lib.hid hl1
 clear hb1 hst1 hal1
 go_wp2_with fail
 refine (Do_14 _ W1 HS.out).mono ?_
 rintro e w2 ⟨v2, rfl, hst2, hb2⟩
 have hst2 := hst2.weak
 obtain ⟨A2, n2, c2, E2, m2, d2, D2, k2, e2, rfl, _⟩ := hst2.at_
 have HST2 := Lib.hid hst2
 have HB2 := Lib.hid hb2
 clear hst2 hb2 p0 p1 p2
 unfold resV
 go_wp2_with fail
 obtain ⟨W2, hW2, q0, q1, q2, hal2, hl2⟩ := box_st w2 A2 n2 c2 E2 m2 d2 D2 k2 e2
 rw [hW2]
 have hst2 := HST2.out
 have hb2 := HB2.out
 obtain ⟨W3, hW3⟩ : ∃ W3, W2.alloc (.cells #[.int .i64 (make1V (newV 1) callA).2.code, .int .i64 (make1V (newV 1) callA).2.fd, .int .i64 (make1V (newV 1) callA).2.num, .bool (make1V (newV 1) callA).2.dir, .string (make1V (newV 1) callA).2.data, .slice none 0 0] 44) = W3 := ⟨_, rfl⟩
 rw [hW3]
 have hz2 : W2.heap.size = w2.heap.size + 1 := by rw [← hW2]; simp
 have hz3 : W3.heap.size = w2.heap.size + 2 := by rw [← hW3, ← hW2]; simp
 have hal3 : Below W2.heap.size W2 W3 := by rw [← hW3]; exact (Below.refl _ _).alloc (Nat.le_refl _) _
 have hb13 : Below W1.heap.size W1 W3 := Cv.next (Cv.next hb2 hal2) hal3
 have HS := Lib.hid (HS.out.below hb13)
 have HU := Lib.hid ((hst2.below hal2).below hal3)
 have HB := Lib.hid (Cv.next HB.out hb13)
 have p0 := (hb13.cell (p := ⟨w1.heap.size, 0, none⟩) hl1).trans HP.out.1
 have p1 := (hb13.cell (p := ⟨w1.heap.size, 1, none⟩) hl1).trans HP.out.2.1
 have p2 := (hb13.cell (p := ⟨w1.heap.size, 2, none⟩) hl1).trans HP.out.2.2
 have q0 := (hal3.cell (p := ⟨w2.heap.size, 0, none⟩) hl2).trans q0
 have q1 := (hal3.cell (p := ⟨w2.heap.size, 1, none⟩) hl2).trans q1
 have q2 := (hal3.cell (p := ⟨w2.heap.size, 2, none⟩) hl2).trans q2
 have lp : w1.heap.size < W3.heap.size := Nat.lt_of_lt_of_le hl1 hb13.size
 have lq : w2.heap.size < W3.heap.size := Nat.lt_of_lt_of_le hl2 hal3.size
 clear hst2 hb2 hal2 hal3 hb13 hl1 hl2 hW2 hW3
 have h1 := shof_any _ stA W3 HU.out (HT.out.below HB.out)
 rw [of_stA, code_stA.1] at h1
 refine h1.mono ?_
 clear h1
 rintro e w4 ⟨rfl, hb4⟩
 have HS := Lib.hid (HS.out.below hb4)
 have HU := Lib.hid (HU.out.below hb4)
 have HB := Lib.hid (Cv.next HB.out hb4)
 have p0 := (hb4.cell (p := ⟨w1.heap.size, 0, none⟩) lp).trans p0
 have p1 := (hb4.cell (p := ⟨w1.heap.size, 1, none⟩) lp).trans p1
 have p2 := (hb4.cell (p := ⟨w1.heap.size, 2, none⟩) lp).trans p2
 have q0 := (hb4.cell (p := ⟨w2.heap.size, 0, none⟩) lq).trans q0
 have q1 := (hb4.cell (p := ⟨w2.heap.size, 1, none⟩) lq).trans q1
 have q2 := (hb4.cell (p := ⟨w2.heap.size, 2, none⟩) lq).trans q2
 have lp : w1.heap.size < w4.heap.size := Nat.lt_of_lt_of_le lp hb4.size
 have lq : w2.heap.size < w4.heap.size := Nat.lt_of_lt_of_le lq hb4.size
 clear hb4
 go_wp2_with fail
 have h1 := shfiles_any _ stA w4 HU.out (HT.out.below HB.out)
 rw [files_stA, code_stA.1] at h1
 refine h1.mono ?_
 clear h1
 rintro e w5 ⟨rfl, hb5⟩
 have HS := Lib.hid (HS.out.below hb5)
 have HU := Lib.hid (HU.out.below hb5)
 have HB := Lib.hid (Cv.next HB.out hb5)
 have p0 := (hb5.cell (p := ⟨w1.heap.size, 0, none⟩) lp).trans p0
 have p1 := (hb5.cell (p := ⟨w1.heap.size, 1, none⟩) lp).trans p1
 have p2 := (hb5.cell (p := ⟨w1.heap.size, 2, none⟩) lp).trans p2
 have q0 := (hb5.cell (p := ⟨w2.heap.size, 0, none⟩) lq).trans q0
 have q1 := (hb5.cell (p := ⟨w2.heap.size, 1, none⟩) lq).trans q1
 have q2 := (hb5.cell (p := ⟨w2.heap.size, 2, none⟩) lq).trans q2
 have lp : w1.heap.size < w5.heap.size := Nat.lt_of_lt_of_le lp hb5.size
 have lq : w2.heap.size < w5.heap.size := Nat.lt_of_lt_of_le lq hb5.size
 clear hb5
 go_wp2_with fail
 have h1 := shof_any _ stNone w5 (stNone_at w5) (HT.out.below HB.out)
 rw [code_stA.2] at h1
 refine h1.mono ?_
 clear h1
 rintro e w6 ⟨rfl, hb6⟩
 have HS := Lib.hid (HS.out.below hb6)
 have HU := Lib.hid (HU.out.below hb6)
 have HB := Lib.hid (Cv.next HB.out hb6)
 have p0 := (hb6.cell (p := ⟨w1.heap.size, 0, none⟩) lp).trans p0
 have p1 := (hb6.cell (p := ⟨w1.heap.size, 1, none⟩) lp).trans p1
 have p2 := (hb6.cell (p := ⟨w1.heap.size, 2, none⟩) lp).trans p2
 have q0 := (hb6.cell (p := ⟨w2.heap.size, 0, none⟩) lq).trans q0
 have q1 := (hb6.cell (p := ⟨w2.heap.size, 1, none⟩) lq).trans q1
 have q2 := (hb6.cell (p := ⟨w2.heap.size, 2, none⟩) lq).trans q2
 have lp : w1.heap.size < w6.heap.size := Nat.lt_of_lt_of_le lp hb6.size
 have lq : w2.heap.size < w6.heap.size := Nat.lt_of_lt_of_le lq hb6.size
 clear hb6
 go_wp2_with fail
 refine (num14 _ _).mono ?_
 rintro e w6' ⟨rfl, rfl⟩
 go_wp2_with fail
 refine (num14 _ _).mono ?_
 rintro e w6' ⟨rfl, rfl⟩
 go_wp2_with fail
 refine (num14 _ _).mono ?_
 rintro e w6' ⟨rfl, rfl⟩
 go_wp2_with fail
 have h1 := shsame_any _ _ stA stA w6 HU.out HU.out (HT.out.below HB.out)
 rw [same_stA.1] at h1
 refine h1.mono ?_
 clear h1
 rintro e w7 ⟨rfl, hb7⟩
 have HS := Lib.hid (HS.out.below hb7)
 have HU := Lib.hid (HU.out.below hb7)
 have HB := Lib.hid (Cv.next HB.out hb7)
 have p0 := (hb7.cell (p := ⟨w1.heap.size, 0, none⟩) lp).trans p0
 have p1 := (hb7.cell (p := ⟨w1.heap.size, 1, none⟩) lp).trans p1
 have p2 := (hb7.cell (p := ⟨w1.heap.size, 2, none⟩) lp).trans p2
 have q0 := (hb7.cell (p := ⟨w2.heap.size, 0, none⟩) lq).trans q0
 have q1 := (hb7.cell (p := ⟨w2.heap.size, 1, none⟩) lq).trans q1
 have q2 := (hb7.cell (p := ⟨w2.heap.size, 2, none⟩) lq).trans q2
 have lp : w1.heap.size < w7.heap.size := Nat.lt_of_lt_of_le lp hb7.size
 have lq : w2.heap.size < w7.heap.size := Nat.lt_of_lt_of_le lq hb7.size
 clear hb7
 go_wp2_with fail
 have h1 := shsame_any _ _ (newV 1) stA w7 HS.out HU.out (HT.out.below HB.out)
 rw [same_stA.2] at h1
 refine h1.mono ?_
 clear h1
 rintro e w8 ⟨rfl, hb8⟩
 have HB := Lib.hid (Cv.next HB.out hb8)
 clear hb8
 go_wp2_with fail
 go_ret
 exact ⟨rfl, HB.out⟩
set_option maxRecDepth 100000 in
set_option maxHeartbeats 16000000 in
theorem do_bad (v : Value) (s : St) (c : Ca) (want : Int) (w : World) (h : StAt none w v s) (hbad : mayV s = false ∨ c.core < 0 ∨ (s.made.length : Int) ≤ c.core ∨ c.kind < 0 ∨ 16 < c.kind) :
  Calls Tryz.prog 44 #[v, caV c, .int .i64 want] w fun e w' => ∃ v' rv, e = .returned (.tuple #[v', rv, .bool true]) ∧ StAt (some w.heap.size) w' v' s ∧ ResIs (some w.heap.size) w' rv { code := 9 } ∧ Below w.heap.size w w' := by
 obtain ⟨A, n, cp, E, m, d, D, k, e, rfl, _, _, hM, _⟩ := h.at_
 have hkl : s.made.length = k := hM.1
 obtain ⟨W, W2, W3, W4, hW, hW2, hW3, hW4, hs1, hs2, hs3, hdk⟩ := Dk.start h c
 obtain ⟨x0, x1, x2, k0, k1, _⟩ := hdk.vals
 have HD := Lib.hid hdk
 obtain ⟨MV, hMV⟩ : ∃ MV, mayV s = MV := ⟨_, rfl⟩
 have HM := Lib.hid hMV
 rw [hMV, hkl] at hbad
 have hcase : MV = false ∨ (MV = true ∧ decide (c.core < 0) = true) ∨ (MV = true ∧ decide (c.core < 0) = false ∧ decide ((k : Int) ≤ c.core) = true) ∨ (MV = true ∧ decide (c.core < 0) = false ∧ decide ((k : Int) ≤ c.core) = false ∧ decide (c.kind < 0) = true) ∨ (MV = true ∧ decide (c.core < 0) = false ∧ decide ((k : Int) ≤ c.core) = false ∧ decide (c.kind < 0) = false ∧ decide ((16 : Int) < c.kind) = true) := by
  simp only [decide_eq_true_eq, decide_eq_false_iff_not]
  cases MV
  ·exact .inl rfl
  ·rcases hbad with h | h | h | h | h
   ·cases h
   all_goals (right; simp only [true_and]; omega)
 have hsz := hdk.size
 clear hM hdk hMV h hbad
 unfold caV
 rcases hcase with hmv | ⟨hmv, g1⟩ | ⟨hmv, g1, g2⟩ | ⟨hmv, g1, g2, g3⟩ | ⟨hmv, g1, g2, g3, g4⟩
 all_goals
  subst hmv
  go_enter Tryz.func44, Tryz.ntmps44
  go_wp2_with fail
  clear hW hW2 hW3 hW4
  refine (may_doc _ s W4 HD.out.st).mono ?_
  rintro e5 w5 ⟨rfl, hb5⟩
  rw [HM.out]
  have HD5 := Lib.hid (HD.out.below hb5)
  have hsz5 := HD5.out.size
  clear hb5 x0 x1 x2 k0 k1
  obtain ⟨x0, x1, x2, k0, k1, _⟩ := HD5.out.vals
  go_wp2_with fail
  refine (copy_any _ s w5 HD5.out.st).mono ?_
  rintro e6 w6 ⟨v6, rfl, hst6, hb6⟩
  obtain ⟨A6, n6, c6, E6, m6, d6, D6, k6, e6, rfl, _⟩ := hst6.at_
  have HD6 := Lib.hid (HD5.out.below hb6)
  have HST6 := Lib.hid hst6
  clear hst6 hb6 x0 x1 x2 k0 k1
  go_wp2_with fail
  refine (fail_any 9 _).mono ?_
  rintro e7 w7 ⟨rfl, hb7⟩
  have HD7 := Lib.hid (HD6.out.below hb7)
  have HST7 := Lib.hid (HST6.out.below hb7)
  obtain ⟨t0, t1, t2, uf⟩ := HD7.out.outS.get
  obtain ⟨v0, v1, v2, v3, v4, v5, vf⟩ := HD7.out.outR.get
  obtain ⟨U5, hU5, ho5, k5, b5⟩ := HD7.out.outS.three (.slice A6 n6 c6) (.slice E6 m6 d6) (.slice D6 k6 e6)
  have hr5 : ResAt U5 (w.heap.size + 3) _ _ _ _ _ _ := ((k5 _ (by decide)).same (w.heap.size + 3) _ HD7.out.outR).trans HD7.out.outR
  obtain ⟨z0, z1, z2, z3, z4, z5, zf⟩ := hr5.get
  obtain ⟨U6, hU6, hr6, k6', b6, a6, s6⟩ := hr5.six (.int .i64 9) (.int .i64 0) (.int .i64 0) (.bool false) (.string ⟨#[]⟩) (.slice none 0 0)
  have ho6 : OutAt U6 (w.heap.size + 2) _ _ _ := (a6 (w.heap.size + 2) (by omega)).trans ho5
  have hst8 := (HST7.out.keep3 (k5 _ (by decide)) (k5 _ (by decide)) (k5 _ (by decide)) (k5 _ (by decide))).keep3 (k6' _ (by decide)) (k6' _ (by decide)) (k6' _ (by decide)) (k6' _ (by decide))
  have hbf := b6 w.heap.size w (by omega) (b5 w.heap.size w (by omega) HD7.out.bel)
  have HO6f := Lib.hid ho6
  have HR6f := Lib.hid hr6
  have HSTf := Lib.hid (hst8.lower (B' := w.heap.size) (by omega))
  have HBF := Lib.hid hbf
  clear hb7 ho5 k5 b5 hr5 hr6 k6' b6 a6 s6 ho6 hst8 hbf
  go_wp2_with fail
  (try simp only [Exit.inBlock, Exit.then])
  refine bodyPost_ret (v := .tuple #[.agg #[.slice A6 n6 c6, .slice E6 m6 d6, .slice D6 k6 e6], .agg #[.int .i64 9, .int .i64 0, .int .i64 0, .bool false, .string ⟨#[]⟩, .slice none 0 0], .bool true]) ?_ rfl ?_
  ·rw [results_cells_tmp rfl]
   have hl1 := run_loadVar_row (P := Tryz.prog) U6 (w.heap.size + 2) _ 26 _ (0, 0) _ HO6f.out Tryz.underlying26 rfl (by kernel_rfl)
   have hl2 := run_loadVar_row (P := Tryz.prog) U6 (w.heap.size + 3) _ 44 _ (0, 0) _ HR6f.out Tryz.underlying44 rfl (by kernel_rfl)
   simp [asAddr, hl1, hl2, Result.andThen]
  ·exact ⟨_, _, rfl, HSTf.out, ResIs.of_resV _ _ { code := 9 } rfl, HBF.out⟩
theorem do_any (v : Value) (s : St) (c : Ca) (want : Int) (w : World) (h : StAt none w v s) (hok : mayV s = true → 0 ≤ c.core → c.core < (s.made.length : Int) → 0 ≤ c.kind → c.kind ≤ 16 → DoOk s c want) :
  Calls Tryz.prog 44 #[v, caV c, .int .i64 want] w fun e w' => ∃ v' rv, e = .returned (.tuple #[v', rv, .bool (doF s c want).2.2]) ∧ StAt (some w.heap.size) w' v' (doF s c want).1 ∧ ResIs (some w.heap.size) w' rv (doF s c want).2.1 ∧ Below w.heap.size w w' := by
 by_cases hb : mayV s = false ∨ c.core < 0 ∨ (s.made.length : Int) ≤ c.core ∨ c.kind < 0 ∨ 16 < c.kind
 ·have e : doF s c want = (s, { code := 9 }, true) := by unfold doF; rw [if_pos hb]
  rw [e]
  exact do_bad v s c want w h hb
 ·have h1 : mayV s = true := by cases hm : mayV s; exact absurd (.inl hm) hb; rfl
  have h2 : 0 ≤ c.core := by omega
  have h3 : c.core < (s.made.length : Int) := by omega
  have h4 : 0 ≤ c.kind := by omega
  have h5 : c.kind ≤ 16 := by omega
  exact do_any0 v s c want w h h1 h2 h3 h4 h5 (hok h1 h2 h3 h4 h5)
set_option maxRecDepth 100000 in
set_option maxHeartbeats 2000000 in
theorem Do_any (v : Value) (s : St) (c : Ca) (w : World) (h : StAt none w v s) (hok : mayV s = true → 0 ≤ c.core → c.core < (s.made.length : Int) → 0 ≤ c.kind → c.kind ≤ 16 → DoOk s c (-1)) :
  Calls Tryz.prog 19 #[v, caV c] w fun e w' => ∃ v' rv, e = .returned (.tuple #[v', rv]) ∧ StAt (some w.heap.size) w' v' (doV s c).1 ∧ ResIs (some w.heap.size) w' rv (doV s c).2 ∧ Below w.heap.size w w' := by
 have hd : ∀ u, StAt none u v s → Calls Tryz.prog 44 #[v, caV c, .int .i64 (-1)] u fun e w' => ∃ v' rv, e = .returned (.tuple #[v', rv, .bool (doF s c (-1)).2.2]) ∧ StAt (some u.heap.size) w' v' (doV s c).1 ∧ ResIs (some u.heap.size) w' rv (doV s c).2 ∧ Below u.heap.size u w' := fun u hu => do_any v s c (-1) u hu hok
 obtain ⟨s', hs'⟩ : ∃ s', (doV s c).1 = s' := ⟨_, rfl⟩
 obtain ⟨r, hr⟩ : ∃ r, (doV s c).2 = r := ⟨_, rfl⟩
 obtain ⟨OKB, hOKB⟩ : ∃ OKB, (doF s c (-1)).2.2 = OKB := ⟨_, rfl⟩
 rw [hs', hr] at hd ⊢
 rw [hOKB] at hd
 clear hs' hr hOKB hok
 obtain ⟨⟨A, n, cp, Bz, m, d, D, k, e, rfl, hI, hD, hM, h5, h6, h7⟩, hz⟩ := h
 obtain ⟨W, hW, b0, b1, b2, hal, hlt0⟩ := box_st w A n cp Bz m d D k e
 obtain ⟨W2, hW2, hbc, hal2, hsz2⟩ := box_ca W c
 obtain ⟨W3, hW3⟩ : ∃ W3, W2.alloc (.cells #[.slice none 0 0, .slice none 0 0, .slice none 0 0] 26) = W3 := ⟨_, rfl⟩
 have hal3 : Below W2.heap.size W2 W3 := by rw [← hW3]; exact (Below.refl _ _).alloc (Nat.le_refl _) _
 have hsz3 : W3.heap.size = W2.heap.size + 1 := by rw [← hW3]; simp
 have ho3 : OutAt W3 W2.heap.size (.slice none 0 0) (.slice none 0 0) (.slice none 0 0) := by rw [← hW3]; exact heap_alloc_new W2 _
 obtain ⟨W4, hW4⟩ : ∃ W4, W3.alloc (.cells #[.int .i64 0, .int .i64 0, .int .i64 0, .bool false, .string ⟨#[]⟩, .slice none 0 0] 44) = W4 := ⟨_, rfl⟩
 have hal4 : Below W3.heap.size W3 W4 := by rw [← hW4]; exact (Below.refl _ _).alloc (Nat.le_refl _) _
 have hr4 : ResAt W4 W3.heap.size (.int .i64 0) (.int .i64 0) (.int .i64 0) (.bool false) (.string ⟨#[]⟩) (.slice none 0 0) := by rw [← hW4]; exact heap_alloc_new W3 _
 have hst0 : StAt none W (.agg #[.slice A n cp, .slice Bz m d, .slice D k e]) s := ⟨⟨A, n, cp, Bz, m, d, D, k, e, rfl, hI.below hal, hD.below hal, hM.below hal, h5, h6, h7⟩, hz⟩
 have hb24 : Below W2.heap.size W2 W4 := Cv.next hal3 hal4
 have hb14 : Below W.heap.size W W4 := Cv.next hal2 hb24
 have hb4 : Below w.heap.size w W4 := Cv.next hal hb14
 have hst := hst0.below hb14
 have x0 := (hb14.cell (p := ⟨w.heap.size, 0, .none⟩) hlt0).trans b0
 have x1 := (hb14.cell (p := ⟨w.heap.size, 1, .none⟩) hlt0).trans b1
 have x2 := (hb14.cell (p := ⟨w.heap.size, 2, .none⟩) hlt0).trans b2
 have hbc4 := (hb24.block W.heap.size (by omega)).trans hbc
 have k0 : W4.cell? ⟨W.heap.size, 0, none⟩ = some (.int .i64 c.kind) := by rw [cell_of_row W4 W.heap.size _ _ _ (0, 0) hbc4]; rfl
 have k1 : W4.cell? ⟨W.heap.size, 1, none⟩ = some (.int .i64 c.core) := by rw [cell_of_row W4 W.heap.size _ _ _ (0, 0) hbc4]; rfl
 have k2 : W4.cell? ⟨W.heap.size, 2, none⟩ = some (.int .i64 c.fd) := by rw [cell_of_row W4 W.heap.size _ _ _ (0, 0) hbc4]; rfl
 have k3 : W4.cell? ⟨W.heap.size, 3, none⟩ = some (.int .i64 c.off) := by rw [cell_of_row W4 W.heap.size _ _ _ (0, 0) hbc4]; rfl
 have k4 : W4.cell? ⟨W.heap.size, 4, none⟩ = some (.int .i64 c.num) := by rw [cell_of_row W4 W.heap.size _ _ _ (0, 0) hbc4]; rfl
 have k5 : W4.cell? ⟨W.heap.size, 5, none⟩ = some (.string c.path) := by rw [cell_of_row W4 W.heap.size _ _ _ (0, 0) hbc4]; rfl
 have k6 : W4.cell? ⟨W.heap.size, 6, none⟩ = some (.string c.path2) := by rw [cell_of_row W4 W.heap.size _ _ _ (0, 0) hbc4]; rfl
 have k7 : W4.cell? ⟨W.heap.size, 7, none⟩ = some (.string c.data) := by rw [cell_of_row W4 W.heap.size _ _ _ (0, 0) hbc4]; rfl
 have hcall := hd W4 hst
 have HCALL := Lib.hid hcall
 have HB4 := Lib.hid hb4
 have hb4s := hb4.size
 have HO3 := Lib.hid ((hal4.block W2.heap.size (by omega)).trans ho3)
 have HR4 := Lib.hid hr4
 have hs1 : w.heap.size < W.heap.size := hlt0
 have hs4 : W4.heap.size = W3.heap.size + 1 := by rw [← hW4]; simp
 unfold caV
 clear hI hD hM hz hst0 hst hbc hbc4 hb4 hb14 hb24 ho3 hr4 hal hal2 hal3 hal4 b0 b1 b2 h5 h6 h7 hlt0 hd hcall
 go_enter Tryz.func19, Tryz.ntmps19
 go_wp2_with fail
 clear hW hW2 hW3 hW4
 refine HCALL.out.mono ?_
 rintro e5 w5 ⟨v5, rv, rfl, hst5, ⟨AN, nN, cN, rfl, hokN, hnN⟩, hb5⟩
 have HN5 := Lib.hid hnN
 obtain ⟨A6, n6, c6, E6, m6, d6, D6, k6', e6, rfl, _⟩ := hst5.at_
 have HST5 := Lib.hid hst5
 have HB5 := Lib.hid (Cv.next HB4.out hb5)
 have HO5 : Hid (OutAt w5 W2.heap.size _ _ _) := Lib.hid ((hb5.block W2.heap.size (by omega)).trans HO3.out)
 have HR5 : Hid (ResAt w5 W3.heap.size _ _ _ _ _ _) := Lib.hid ((hb5.block W3.heap.size (by omega)).trans HR4.out)
 have hs5 : W4.heap.size ≤ w5.heap.size := hb5.size
 clear hst5 hb5 hnN x0 x1 x2 k0 k1 k2 k3 k4 k5 k6 k7
 go_wp2_with fail
 obtain ⟨U1, hU1⟩ : ∃ U1, w5.alloc (.cells #[.slice A6 n6 c6, .slice E6 m6 d6, .slice D6 k6' e6] 26) = U1 := ⟨_, rfl⟩
 obtain ⟨U2, hU2⟩ : ∃ U2, U1.alloc (.cells #[.int .i64 r.code, .int .i64 r.fd, .int .i64 r.num, .bool r.dir, .string r.data, .slice AN nN cN] 44) = U2 := ⟨_, rfl⟩
 rw [hU1, hU2]
 have hau1 : Below w5.heap.size w5 U1 := by rw [← hU1]; exact (Below.refl _ _).alloc (Nat.le_refl _) _
 have hau2 : Below U1.heap.size U1 U2 := by rw [← hU2]; exact (Below.refl _ _).alloc (Nat.le_refl _) _
 have hsu1 : U1.heap.size = w5.heap.size + 1 := by rw [← hU1]; simp
 have hau := Cv.next hau1 hau2
 have hru : ResAt U2 (w5.heap.size + 1) (.int .i64 r.code) (.int .i64 r.fd) (.int .i64 r.num) (.bool r.dir) (.string r.data) (.slice AN nN cN) := by rw [← hsu1, ← hU2]; exact heap_alloc_new U1 _
 have hou : OutAt U2 w5.heap.size (.slice A6 n6 c6) (.slice E6 m6 d6) (.slice D6 k6' e6) := by
  have h1 : U1.heap[w5.heap.size]? = some (.cells #[.slice A6 n6 c6, .slice E6 m6 d6, .slice D6 k6' e6] 26 (0, 0)) := by rw [← hU1]; exact heap_alloc_new w5 _
  exact (hau2.block w5.heap.size (by omega)).trans h1
 have hst8 := HST5.out.below hau
 have hO8 : OutAt U2 (W.heap.size + 1) (.slice none 0 0) (.slice none 0 0) (.slice none 0 0) := by rw [← hsz2]; exact (hau.block W2.heap.size (by omega)).trans HO5.out
 have hR8 : ResAt U2 (W.heap.size + 1 + 1) (.int .i64 0) (.int .i64 0) (.int .i64 0) (.bool false) (.string ⟨#[]⟩) (.slice none 0 0) := by rw [show W.heap.size + 1 + 1 = W3.heap.size by omega]; exact (hau.block W3.heap.size (by omega)).trans HR5.out
 have HB8 := Lib.hid (Cv.next HB5.out hau)
 have HST8 := Lib.hid hst8
 have HN8 := Lib.hid (HN5.out.below hau)
 obtain ⟨q0, q1, q2, _⟩ := hou.get
 obtain ⟨j0, j1, j2, j3, j4, j5, _⟩ := hru.get
 have uf : ∀ j, U2.frozen? ⟨W.heap.size + 1, j, none⟩ = false := hO8.get.2.2.2
 have vf : ∀ j, U2.frozen? ⟨W.heap.size + 1 + 1, j, none⟩ = false := hR8.get.2.2.2.2.2.2
 have n1 : w5.heap.size ≠ W.heap.size + 1 := by omega
 have n2 : w5.heap.size ≠ W.heap.size + 1 + 1 := by omega
 have n3 : w5.heap.size + 1 ≠ W.heap.size + 1 := by omega
 have n4 : w5.heap.size + 1 ≠ W.heap.size + 1 + 1 := by omega
 have n1' := Ne.symm n1
 have n2' := Ne.symm n2
 have n3' := Ne.symm n3
 have n4' := Ne.symm n4
 have n5 : W.heap.size ≠ w5.heap.size := by omega
 have n6' : w5.heap.size ≠ W.heap.size := by omega
 obtain ⟨t0, t1, t2, _⟩ := hO8.get
 obtain ⟨v0, v1, v2, v3, v4, v5, _⟩ := hR8.get
 have uf0 := uf 0
 have uf1 := uf 1
 have uf2 := uf 2
 clear hU1 hU2 hau1 hau2 hau hru hou hst8
 go_region_held3 (fun w' => w'.cell? ⟨w5.heap.size, 0, none⟩ = some (.slice A6 n6 c6) ∧ w'.cell? ⟨w5.heap.size, 1, none⟩ = some (.slice E6 m6 d6) ∧ w'.cell? ⟨w5.heap.size, 2, none⟩ = some (.slice D6 k6' e6) ∧
   w'.cell? ⟨w5.heap.size + 1, 0, none⟩ = some (.int .i64 r.code) ∧ w'.cell? ⟨w5.heap.size + 1, 1, none⟩ = some (.int .i64 r.fd) ∧ w'.cell? ⟨w5.heap.size + 1, 2, none⟩ = some (.int .i64 r.num) ∧ w'.cell? ⟨w5.heap.size + 1, 3, none⟩ = some (.bool r.dir) ∧ w'.cell? ⟨w5.heap.size + 1, 4, none⟩ = some (.string r.data) ∧ w'.cell? ⟨w5.heap.size + 1, 5, none⟩ = some (.slice AN nN cN))
  (go_keep) (fail)
 obtain ⟨U5, hU5, ho5, k5, b5⟩ := hO8.three (.slice A6 n6 c6) (.slice E6 m6 d6) (.slice D6 k6' e6)
 have hr5 : ResAt U5 (W.heap.size + 1 + 1) _ _ _ _ _ _ := ((k5 _ (by decide)).same (W.heap.size + 1 + 1) _ hR8).trans hR8
 obtain ⟨U6, hU6, hr6, k6, b6, a6, s6⟩ := hr5.six (.int .i64 r.code) (.int .i64 r.fd) (.int .i64 r.num) (.bool r.dir) (.string r.data) (.slice AN nN cN)
 have ho6 : OutAt U6 (W.heap.size + 1) _ _ _ := (a6 (W.heap.size + 1) (by omega)).trans ho5
 have hbw : Below w.heap.size w U6 := b6 w.heap.size w (by omega) (b5 w.heap.size w (by omega) HB8.out)
 have hst6 := (HST8.out.keep3 (k5 _ (by decide)) (k5 _ (by decide)) (k5 _ (by decide)) (k5 _ (by decide))).keep3 (k6 _ (by decide)) (k6 _ (by decide)) (k6 _ (by decide)) (k6 _ (by decide))
 rw [hU5, hU6]
 have HO6f := Lib.hid ho6
 have HR6f := Lib.hid hr6
 have HSTf := Lib.hid ((hst6.lower (by have := hb4s; omega)).below (Below.drew (Below.refl _ _)))
 have HBF := Lib.hid (Below.drew hbw)
 have HNf := Lib.hid (((((HN8.out.keep (k5 _ (by decide))).keep (k6 _ (by decide))).lower (B' := w.heap.size) (by have := hb4s; omega))).below (Below.drew (Below.refl _ _)))
 clear hU5 hU6 ho5 k5 b5 hr5 hr6 k6 b6 a6 s6 ho6 hst6 hbw t0 t1 t2 v0 v1 v2 v3 v4 v5 uf0 uf1 uf2 uf vf j0 j1 j2 j3 j4 j5 q0 q1 q2
 go_wp2_with fail
 (try simp only [Exit.inBlock, Exit.then])
 refine bodyPost_ret (v := .tuple #[.agg #[.slice A6 n6 c6, .slice E6 m6 d6, .slice D6 k6' e6], .agg #[.int .i64 r.code, .int .i64 r.fd, .int .i64 r.num, .bool r.dir, .string r.data, .slice AN nN cN]]) ?_ rfl ?_
 ·rw [results_cells rfl]
  have hl1 := run_loadVar_row (P := Tryz.prog) U6.drew (W.heap.size + 1) _ 26 _ (0, 0) _ HO6f.out Tryz.underlying26 rfl (by kernel_rfl)
  have hl2 := run_loadVar_row (P := Tryz.prog) U6.drew (W.heap.size + 1 + 1) _ 44 _ (0, 0) _ HR6f.out Tryz.underlying44 rfl (by kernel_rfl)
  simp [asAddr, hl1, hl2, Result.andThen]
 ·exact ⟨_, _, rfl, HSTf.out, ⟨AN, nN, cN, rfl, hokN, HNf.out⟩, HBF.out⟩
theorem Do_doc (v : Value) (s : St) (c : Ca) (w : World) (h : StAt none w v s) (hp : c.path.size ≤ 140737488355328) (hp2 : c.path2.size ≤ 140737488355328) :
  Calls Tryz.prog 19 #[v, caV c] w fun e w' => ∃ v' rv, e = .returned (.tuple #[v', rv]) ∧ StAt (some w.heap.size) w' v' (doV s c).1 ∧ ResIs (some w.heap.size) w' rv (doV s c).2 ∧ Below w.heap.size w w' :=
 Do_any v s c w h fun hm h0 h1 _ _ => doOk hm h0 h1 hp hp2
end Go.Proofs.YthhceopnnappgaaGreatDoor
