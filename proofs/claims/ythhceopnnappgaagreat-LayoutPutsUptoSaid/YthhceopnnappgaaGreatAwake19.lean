/- What the laws of chapter 19 ask of every program: awake. -/
import Derived.Test.YthhceopnnappgaaGreatFsEqual
import Derived.Test.YthhceopnnappgaaGreatM46
set_option linter.unusedVariables false
set_option linter.unusedSimpArgs false
namespace Go.Proofs.YthhceopnnappgaaGreat
open Go.RowKit
def callA : Ca := ⟨0, 0, 0, 0, 0, ⟨#[47, 97]⟩, ⟨#[]⟩, ⟨#[]⟩⟩
def stA : St := ⟨[⟨1, true, [⟨⟨#[97]⟩, 2⟩], ⟨#[]⟩⟩, ⟨2, false, [], ⟨#[]⟩⟩], [], [1]⟩
def stNone : St := ⟨[], [], []⟩
theorem stNone_at (w : World) : StAt none w (.agg #[.slice none 0 0, .slice none 0 0, .slice none 0 0]) stNone :=
 ⟨⟨none, 0, 0, none, 0, 0, none, 0, 0, rfl, ⟨rfl, fun h => absurd h (by omega)⟩, ⟨rfl, fun h => absurd h (by omega)⟩, ⟨rfl, fun h => absurd h (by omega)⟩, ⟨by omega, fun _ => rfl⟩, ⟨by omega, fun _ => rfl⟩, ⟨by omega, fun _ => rfl⟩⟩, ⟨by decide +kernel, by decide +kernel, by decide +kernel⟩⟩
theorem make_first (n : Nat) (h1 : 1 ≤ n) (h8 : n ≤ 8) : MakeSized (newV n) callA := by
 have : n = 1 ∨ n = 2 ∨ n = 3 ∨ n = 4 ∨ n = 5 ∨ n = 6 ∨ n = 7 ∨ n = 8 := by omega
 rcases this with h | h | h | h | h | h | h | h <;> (subst h; exact ⟨⟨by decide +kernel, by decide +kernel, by decide +kernel⟩, ⟨by decide +kernel, by decide +kernel, by decide +kernel⟩, ⟨by decide +kernel, by decide +kernel, by decide +kernel⟩, by decide +kernel⟩)
theorem num19 (n : Int) (w : World) : Calls Tryz.prog 7 #[.int .i64 n] w fun e w' => e = .returned (.int .i64 n) ∧ w = w' := by
 go_enter Tryz.func7, Tryz.ntmps7
 go_wp2_with fail
 go_ret
 exact ⟨rfl, rfl⟩
theorem may_new (n : Nat) (h1 : 1 ≤ n) (h8 : n ≤ 8) : mayV (newV n) = true ∧ (make1V (newV n) callA).2.code = 0 := by
 have : n = 1 ∨ n = 2 ∨ n = 3 ∨ n = 4 ∨ n = 5 ∨ n = 6 ∨ n = 7 ∨ n = 8 := by omega
 rcases this with h | h | h | h | h | h | h | h <;> (subst h; exact ⟨by decide +kernel, by decide +kernel⟩)
theorem Do_first (n : Nat) (h1 : 1 ≤ n) (h8 : n ≤ 8) (v : Value) (w : World) (h : StAt none w v (newV n)) :
  Calls Tryz.prog 34 #[v, caV callA] w fun e w' => ∃ v', e = .returned (.tuple #[v', resV (make1V (newV n) callA).2]) ∧ StAt (some w.heap.size) w' v' (make1V (newV n) callA).1 ∧ Below w.heap.size w w' :=
 Do_of v (newV n) callA _ _ w h fun u hu => do_make v (newV n) callA (-1) u hu (may_new n h1 h8).1 (by decide) (by show (0 : Int) < ((List.replicate n (0 : Int)).length : Int); rw [List.length_replicate]; omega) rfl (by decide) (make_first n h1 h8) (may_new n h1 h8).2
set_option maxRecDepth 100000 in
set_option maxHeartbeats 4000000 in
theorem awake19 (w : World) : Calls Tryz.prog 10 #[] w fun e w' => e = .returned (.bool true) ∧ Below w.heap.size w w' := by
 have HMAY0 := Lib.hid (show mayV (newV 1) = true by decide +kernel)
 have HCODE := Lib.hid (show (make1V (newV 1) callA).2.code = 0 by decide +kernel)
 have HMK := Lib.hid (show (make1V (newV 1) callA).1 = stA by decide +kernel)
 have HMAY := Lib.hid (show mayV stA = true by decide +kernel)
 have HDEL := Lib.hid (show ∀ x ∈ stA.inos, delB stA x = false by decide +kernel)
 have HMAYN := Lib.hid (show mayV stNone = false by decide +kernel)
 have HMSZ := Lib.hid (make_first 1 (by omega) (by omega))
 go_enter Tryz.func10, Tryz.ntmps10
 go_wp2_with fail
 refine (new_any 1 (by omega) (by omega) w).mono ?_
 rintro e w1 ⟨v1, rfl, hst1, hb1⟩
 obtain ⟨A1, n1, c1, E1, m1, d1, D1, k1, e1, rfl, _⟩ := hst1.at_
 have HB1 := Lib.hid hb1
 have HST1 := Lib.hid hst1.weak
 clear hb1 hst1
 go_wp2_with fail
 refine (Do_first 1 (by omega) (by omega) _ _ (HST1.out.below ((Below.refl _ _).alloc (Nat.le_refl _) _))).mono ?_
 rintro e w2 ⟨v2, rfl, hst2, hb2⟩
 rw [HMK.out] at hst2
 have hst2 := hst2.weak
 obtain ⟨A2, n2, c2, E2, m2, d2, D2, k2, e2, rfl, _⟩ := hst2.at_
 have HB2 := Lib.hid (HB1.out.trans ((((Below.refl w1.heap.size w1).alloc (Nat.le_refl _) _).trans (hb2.mono (by simp))).mono HB1.out.size))
 have HST2 := Lib.hid hst2
 clear hb2 hst2
 unfold resV
 go_wp2_with fail
 obtain ⟨W3, hW3, t0, t1, t2, ha3, hl3⟩ := box_st w2 A2 n2 c2 E2 m2 d2 D2 k2 e2
 rw [hW3]
 have ha4 := (Below.refl W3.heap.size W3).alloc (Nat.le_refl _) (.cells #[.int .i64 (make1V (newV 1) callA).2.code, .int .i64 (make1V (newV 1) callA).2.fd, .int .i64 (make1V (newV 1) callA).2.num, .bool (make1V (newV 1) callA).2.dir, .string (make1V (newV 1) callA).2.data, .slice none 0 0] 78)
 refine (put_all _ _ _ ((HST2.out.below ha3).below ha4) HMAY.out HDEL.out).mono ?_
 rintro e w4 ⟨rfl, hb4⟩
 have hb34 : Below W3.heap.size W3 w4 := ha4.trans (hb4.mono (by simp))
 have HST4 := Lib.hid ((HST2.out.below ha3).below hb34)
 have HB4 := Lib.hid (HB2.out.trans ((ha3.trans (hb34.mono ha3.size)).mono HB2.out.size))
 have T0 := (hb34.cell (p := ⟨w2.heap.size, 0, none⟩) hl3).trans t0
 have T1 := (hb34.cell (p := ⟨w2.heap.size, 1, none⟩) hl3).trans t1
 have T2 := (hb34.cell (p := ⟨w2.heap.size, 2, none⟩) hl3).trans t2
 have hl4 : w2.heap.size < w4.heap.size := Nat.lt_of_lt_of_le hl3 hb34.size
 obtain ⟨BB, hBB⟩ : ∃ BB : ByteArray, (⟨(sealL (headL stA.made stA.inos)).toArray⟩ : ByteArray) = BB := ⟨_, rfl⟩
 have HBB := Lib.hid hBB
 rw [hBB]
 clear hBB hb4 hb34 ha3 ha4 t0 t1 t2 hl3 hW3
 go_wp2_with fail
 have hget := get_ok stA.made stA.inos w4 16 (by decide +kernel) (by omega) (by omega) (by decide) (by decide) (by decide) (fun x hx => by
  have h2 : x = ⟨1, true, [⟨⟨#[97]⟩, 2⟩], ⟨#[]⟩⟩ ∨ x = ⟨2, false, [], ⟨#[]⟩⟩ := by simpa [stA] using hx
  rcases h2 with h3 | h3 <;> (subst h3; exact ⟨by decide, by decide, by decide, by decide, by decide⟩)) HMAY.out
 rw [HBB.out] at hget
 refine hget.mono ?_
 clear hget
 rintro e w5 ⟨v5, rfl, hst5, hb5⟩
 obtain ⟨A5, n5, c5, E5, m5, d5, D5, k5, e5, rfl, _⟩ := hst5.at_
 have T0 := (hb5.cell (p := ⟨w2.heap.size, 0, none⟩) hl4).trans T0
 have T1 := (hb5.cell (p := ⟨w2.heap.size, 1, none⟩) hl4).trans T1
 have T2 := (hb5.cell (p := ⟨w2.heap.size, 2, none⟩) hl4).trans T2
 have hl5 : w2.heap.size < w5.heap.size := Nat.lt_of_lt_of_le hl4 hb5.size
 have HST4 := Lib.hid (HST4.out.below hb5)
 have HST5 := Lib.hid hst5
 have HB5 := Lib.hid (HB4.out.trans (hb5.mono HB4.out.size))
 clear hb5 hst5 hl4
 go_wp2_with fail
 obtain ⟨W6, hW6, u0, u1, u2, ha6, hl6⟩ := box_st w5 A5 n5 c5 E5 m5 d5 D5 k5 e5
 rw [hW6]
 refine (get_empty W6).mono ?_
 rintro e w7 ⟨rfl, hb7⟩
 have hb57 : Below w5.heap.size w5 w7 := ha6.trans (hb7.mono ha6.size)
 have T0 := (hb57.cell (p := ⟨w2.heap.size, 0, none⟩) hl5).trans T0
 have T1 := (hb57.cell (p := ⟨w2.heap.size, 1, none⟩) hl5).trans T1
 have T2 := (hb57.cell (p := ⟨w2.heap.size, 2, none⟩) hl5).trans T2
 have U0 := (hb7.cell (p := ⟨w5.heap.size, 0, none⟩) hl6).trans u0
 have U1 := (hb7.cell (p := ⟨w5.heap.size, 1, none⟩) hl6).trans u1
 have U2 := (hb7.cell (p := ⟨w5.heap.size, 2, none⟩) hl6).trans u2
 have hl7 : w5.heap.size < w7.heap.size := Nat.lt_of_lt_of_le hl6 hb7.size
 have HST4 := Lib.hid (HST4.out.below hb57)
 have HST5 := Lib.hid (HST5.out.below hb57)
 have HB7 := Lib.hid (HB5.out.trans (hb57.mono HB5.out.size))
 clear hb7 hb57 u0 u1 u2 ha6 hl6 hW6
 go_wp2_with fail
 obtain ⟨W8, hW8, u0, u1, u2, ha8, hl8⟩ := box_st w7 none 0 0 none 0 0 none 0 0
 rw [hW8]
 refine (put_bad _ stNone W8 (stNone_at _) HMAYN.out).mono ?_
 rintro e w9 ⟨rfl, hb9⟩
 have hb79 : Below w7.heap.size w7 w9 := ha8.trans (hb9.mono ha8.size)
 have T0 := (hb79.cell (p := ⟨w2.heap.size, 0, none⟩) (Nat.lt_trans hl5 hl7)).trans T0
 have T1 := (hb79.cell (p := ⟨w2.heap.size, 1, none⟩) (Nat.lt_trans hl5 hl7)).trans T1
 have T2 := (hb79.cell (p := ⟨w2.heap.size, 2, none⟩) (Nat.lt_trans hl5 hl7)).trans T2
 have U0 := (hb79.cell (p := ⟨w5.heap.size, 0, none⟩) hl7).trans U0
 have U1 := (hb79.cell (p := ⟨w5.heap.size, 1, none⟩) hl7).trans U1
 have U2 := (hb79.cell (p := ⟨w5.heap.size, 2, none⟩) hl7).trans U2
 have hs79 := hb79.size
 have l2 : w2.heap.size < w9.heap.size := by omega
 have l5 : w5.heap.size < w9.heap.size := by omega
 have HST4 := Lib.hid (HST4.out.below hb79)
 have HST5 := Lib.hid (HST5.out.below hb79)
 have HB9 := Lib.hid (HB7.out.trans (hb79.mono HB7.out.size))
 have HSEAL := Lib.hid (show (⟨(sealL [67, 78, 67, 49, 1, 1, 2, 1, 1, 1, 1, 97, 2, 2, 0, 0]).toArray⟩ : ByteArray) = BB by rw [← HBB.out]; exact congrArg (fun l => (⟨(sealL l).toArray⟩ : ByteArray)) (by decide +kernel))
 have HLEN := Lib.hid (show (sealL (headL stA.made stA.inos)).length = BB.size by rw [← HBB.out]; rfl)
 clear hb9 hb79 u0 u1 u2 ha8 hl8 hW8 hs79
 go_wp2_with fail
 refine (num19 _ _).mono ?_
 rintro e w9' ⟨rfl, rfl⟩
 go_wp2_with fail
 refine (seal_any ⟨#[67, 78, 67, 49, 1, 1, 2, 1, 1, 1, 1, 97, 2, 2, 0, 0]⟩ _ (by decide)).mono ?_
 rintro e w10 ⟨rfl, hb10⟩
 rw [show (⟨(sealL (⟨#[67, 78, 67, 49, 1, 1, 2, 1, 1, 1, 1, 97, 2, 2, 0, 0]⟩ : ByteArray).data.toList).toArray⟩ : ByteArray) = BB from HSEAL.out]
 have T0 := (hb10.cell (p := ⟨w2.heap.size, 0, none⟩) l2).trans T0
 have T1 := (hb10.cell (p := ⟨w2.heap.size, 1, none⟩) l2).trans T1
 have T2 := (hb10.cell (p := ⟨w2.heap.size, 2, none⟩) l2).trans T2
 have U0 := (hb10.cell (p := ⟨w5.heap.size, 0, none⟩) l5).trans U0
 have U1 := (hb10.cell (p := ⟨w5.heap.size, 1, none⟩) l5).trans U1
 have U2 := (hb10.cell (p := ⟨w5.heap.size, 2, none⟩) l5).trans U2
 have l2 : w2.heap.size < w10.heap.size := Nat.lt_of_lt_of_le l2 hb10.size
 have HST4 := Lib.hid (HST4.out.below hb10)
 have HST5 := Lib.hid (HST5.out.below hb10)
 have HB10 := Lib.hid (HB9.out.trans (hb10.mono HB9.out.size))
 clear hb10
 go_wp2_with fail
 refine (num19 _ _).mono ?_
 rintro e w10' ⟨rfl, rfl⟩
 go_wp2_with fail
 refine (plain_any _ _ _ _ _ HST4.out HST5.out).mono ?_
 rintro e w11 ⟨rfl, hb11⟩
 rw [show plainV stA ⟨stA.inos, [], stA.made⟩ = true from plainV_yes rfl]
 have T0 := (hb11.cell (p := ⟨w2.heap.size, 0, none⟩) l2).trans T0
 have T1 := (hb11.cell (p := ⟨w2.heap.size, 1, none⟩) l2).trans T1
 have T2 := (hb11.cell (p := ⟨w2.heap.size, 2, none⟩) l2).trans T2
 have HST4 := Lib.hid (HST4.out.below hb11)
 have HB11 := Lib.hid (HB10.out.trans (hb11.mono HB10.out.size))
 clear hb11
 go_wp2_with fail
 refine (num19 _ _).mono ?_
 rintro e w11' ⟨rfl, rfl⟩
 go_wp2_with fail
 refine (num19 _ _).mono ?_
 rintro e w11' ⟨rfl, rfl⟩
 go_wp2_with fail
 refine (size_all _ _ _ HST4.out HMAY.out HDEL.out).mono ?_
 rintro e w12 ⟨rfl, hb12⟩
 rw [HLEN.out]
 have HB12 := Lib.hid (HB11.out.trans (hb12.mono HB11.out.size))
 clear hb12
 go_wp2_with fail
 go_ret
 exact ⟨rfl, HB12.out⟩
end Go.Proofs.YthhceopnnappgaaGreat
