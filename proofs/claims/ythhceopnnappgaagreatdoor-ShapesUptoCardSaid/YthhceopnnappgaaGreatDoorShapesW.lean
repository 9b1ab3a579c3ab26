/- The walk of the law Shapes (printed by wip/gen_shapes.py). -/
import Derived.Test.YthhceopnnappgaaGreatDoorM38
import Derived.Test.YthhceopnnappgaaGreatDoorM42
import Derived.Test.YthhceopnnappgaaGreatDoorM45
set_option linter.unusedVariables false
set_option linter.unusedSimpArgs false
namespace Go.Proofs.YthhceopnnappgaaGreatDoor
open Go.RowKit
set_option maxRecDepth 100000 in
set_option maxHeartbeats 8000000 in
theorem shapes_walk (u v : Value) (s t : St) (w : World) (hs : StAt none w u s) (ht : StAt none w v t) (hT : Tab w) :
  Calls Tryz.prog 3 #[u, v] w fun e w' => e = .returned (.bool true) ∧ Below w.heap.size w w' := by
 obtain ⟨A, n, c, B, m, d, D, k, e, rfl⟩ : ∃ A n c B m d D k e, u = .agg #[.slice A n c, .slice B m d, .slice D k e] := by
  obtain ⟨⟨A, n, c, B, m, d, D, k, e, hv, _⟩, _⟩ := hs
  exact ⟨A, n, c, B, m, d, D, k, e, hv⟩
 obtain ⟨A', n', c', B', m', d', D', k', e', rfl⟩ : ∃ A n c B m d D k e, v = .agg #[.slice A n c, .slice B m d, .slice D k e] := by
  obtain ⟨⟨A, n, c, B, m, d, D, k, e, hv, _⟩, _⟩ := ht
  exact ⟨A, n, c, B, m, d, D, k, e, hv⟩
 obtain ⟨W0, hW0, a0, a1, a2, hal0, hlt0⟩ := box_st w A n c B m d D k e
 obtain ⟨W, hW, b0, b1, b2, hal1, lq⟩ := box_st W0 A' n' c' B' m' d' D' k' e'
 have hal : Below w.heap.size w W := Cv.next hal0 hal1
 have p0 := (hal1.cell (p := ⟨w.heap.size, 0, none⟩) hlt0).trans a0
 have p1 := (hal1.cell (p := ⟨w.heap.size, 1, none⟩) hlt0).trans a1
 have p2 := (hal1.cell (p := ⟨w.heap.size, 2, none⟩) hlt0).trans a2
 have lp : w.heap.size < W.heap.size := Nat.lt_of_lt_of_le hlt0 hal1.size
 have hne0 : W0.heap.size ≠ w.heap.size := by omega
 have HS := Lib.hid (hs.below hal)
 have HU := Lib.hid (ht.below hal)
 have HT := Lib.hid (hT.below hal)
 have HB := Lib.hid hal
 have hc1 : ∀ u : World, Below W.heap.size W u → Calls Tryz.prog 6 #[.agg #[.slice A n c, .slice B m d, .slice D k e]] u fun e' w' => ∃ A5 n5 c5 E5 m5 d5 D5 k5 f5, e' = .returned (.agg #[.slice A5 n5 c5, .slice E5 m5 d5, .slice D5 k5 f5]) ∧ LentAt W.heap.size w' (.agg #[.slice A5 n5 c5, .slice E5 m5 d5, .slice D5 k5 f5]) s ∧ Below u.heap.size u w' ∧ Below W.heap.size W w' := fun u hu => by
  refine (lendstate_any _ s u (HS.out.below hu)).mono ?_
  rintro e1 w1 ⟨v1, rfl, hl1, hb1⟩
  obtain ⟨A1, n1, c1, E1, m1, d1, D1, k1, g1, rfl, _⟩ := hl1.st.at_
  exact ⟨_, _, _, _, _, _, _, _, _, rfl, hl1.lower hu.size, hb1, hu.trans (hb1.mono hu.size)⟩
 have hc2 : ∀ u : World, Below W.heap.size W u → Calls Tryz.prog 6 #[.agg #[.slice A' n' c', .slice B' m' d', .slice D' k' e']] u fun e' w' => ∃ A5 n5 c5 E5 m5 d5 D5 k5 f5, e' = .returned (.agg #[.slice A5 n5 c5, .slice E5 m5 d5, .slice D5 k5 f5]) ∧ LentAt W.heap.size w' (.agg #[.slice A5 n5 c5, .slice E5 m5 d5, .slice D5 k5 f5]) t ∧ Below u.heap.size u w' ∧ Below W.heap.size W w' := fun u hu => by
  refine (lendstate_any _ t u (HU.out.below hu)).mono ?_
  rintro e1 w1 ⟨v1, rfl, hl1, hb1⟩
  obtain ⟨A1, n1, c1, E1, m1, d1, D1, k1, g1, rfl, _⟩ := hl1.st.at_
  exact ⟨_, _, _, _, _, _, _, _, _, rfl, hl1.lower hu.size, hb1, hu.trans (hb1.mono hu.size)⟩
 have HC1 := Lib.hid hc1
 have HC2 := Lib.hid hc2
 clear hs ht hT hal hal0 hal1 hc1 hc2 a0 a1 a2 hlt0
 go_enter Tryz.func3, Tryz.ntmps3
 go_upto_region 1 with fail
 go_cut [5, 6] (fun p q wx => ∃ g5 g6 A5 n5 c5 E5 m5 d5 D5 k5 f5 A6 n6 c6 E6 m6 d6 D6 k6 f6, p = .pointer (some ⟨g5, 0, .none⟩) ∧ q = .pointer (some ⟨g6, 0, .none⟩) ∧ ShFin W.heap.size W wx g5 g6 (.slice A5 n5 c5) (.slice E5 m5 d5) (.slice D5 k5 f5) (.slice A6 n6 c6) (.slice E6 m6 d6) (.slice D6 k6 f6) s t)
 case first =>
  have zW : W.heap.size ≠ w.heap.size := by omega
  have zW0 : W.heap.size ≠ W0.heap.size := by omega
  have zW' : W.heap.size + 1 ≠ w.heap.size := by omega
  have zW0' : W.heap.size + 1 ≠ W0.heap.size := by omega
  go_region_held3 (fun w' => w'.cell? ⟨w.heap.size, 0, none⟩ = some (.slice A n c) ∧ w'.cell? ⟨w.heap.size, 1, none⟩ = some (.slice B m d) ∧ w'.cell? ⟨w.heap.size, 2, none⟩ = some (.slice D k e) ∧
   w'.cell? ⟨W0.heap.size, 0, none⟩ = some (.slice A' n' c') ∧ w'.cell? ⟨W0.heap.size, 1, none⟩ = some (.slice B' m' d') ∧ w'.cell? ⟨W0.heap.size, 2, none⟩ = some (.slice D' k' e'))
   (first | go_keep | (trace_state; fail))
   (first | (have hg := hl5; clear hg; go_at_call 6; refine (HC2.out _ (by first | exact hbw5 | exact hbw5.alloc hs5 _ | exact (hbw5.alloc hs5 _).alloc (by simp; omega) _)).mono ?_; rintro e6 w6 ⟨A6, n6, c6, E6, m6, d6, D6, k6, f6, rfl, hl6, hb6, hbw6⟩; have hb56 : Below w5.heap.size w5 w6 := (by first | exact hb6 | exact Cv.next ((Below.refl _ _).alloc (Nat.le_refl _) _) hb6 | exact Cv.next (Cv.next ((Below.refl _ _).alloc (Nat.le_refl _) _) ((Below.refl _ _).alloc (Nat.le_refl _) _)) hb6); replace hl5 := hl5.below hb56; have p06 := (hb56.cell (p := ⟨w.heap.size, 0, none⟩) lp5).trans p05; have p16 := (hb56.cell (p := ⟨w.heap.size, 1, none⟩) lp5).trans p15; have p26 := (hb56.cell (p := ⟨w.heap.size, 2, none⟩) lp5).trans p25; have b06 := (hb56.cell (p := ⟨W0.heap.size, 0, none⟩) lq5).trans b05; have b16 := (hb56.cell (p := ⟨W0.heap.size, 1, none⟩) lq5).trans b15; have b26 := (hb56.cell (p := ⟨W0.heap.size, 2, none⟩) lq5).trans b25; have hs6 := hb56.size; have lp6 := Nat.lt_of_lt_of_le lp5 hs6; have lq6 := Nat.lt_of_lt_of_le lq5 hs6; (first | (have bm := row_kept hb6 (al2a w5 (.cells #[.slice none 0 0, .slice none 0 0, .slice none 0 0] 26) (.cells #[.slice none 0 0, .slice none 0 0, .slice none 0 0] 26)); have bn := row_kept hb6 (al2b w5 (.cells #[.slice none 0 0, .slice none 0 0, .slice none 0 0] 26) (.cells #[.slice none 0 0, .slice none 0 0, .slice none 0 0] 26)); obtain ⟨zc0, zc1, zc2, zcf⟩ := OutAt.get bm; obtain ⟨zd0, zd1, zd2, zdf⟩ := OutAt.get bn; have lc := (Array.getElem?_eq_some_iff.1 bm).1; have ld := (Array.getElem?_eq_some_iff.1 bn).1; have HBM := Lib.hid bm; have HBN := Lib.hid bn; clear bm bn) | (have bm := row_kept hb6 (al1 w5 (.cells #[.slice none 0 0, .slice none 0 0, .slice none 0 0] 26)); obtain ⟨zc0, zc1, zc2, zcf⟩ := OutAt.get bm; have lc := (Array.getElem?_eq_some_iff.1 bm).1; have nc : w6.heap.size ≠ w5.heap.size := Nat.ne_of_gt lc; have nc' := Ne.symm nc; have HBM := Lib.hid bm; clear bm) | skip); (first | (have am := (hb56.block W.heap.size la).trans HAM.out; have an := (hb56.block (W.heap.size + 1) lb).trans HAN.out; clear za0 za1 za2 zaf zb0 zb1 zb2 zbf HAM HAN; obtain ⟨za0, za1, za2, zaf⟩ := OutAt.get am; obtain ⟨zb0, zb1, zb2, zbf⟩ := OutAt.get an; have HAM := Lib.hid am; have HAN := Lib.hid an; clear am an) | (have am := (hb56.block W.heap.size la).trans HAM.out; clear za0 za1 za2 zaf HAM; obtain ⟨za0, za1, za2, zaf⟩ := OutAt.get am; have la6 : W.heap.size < w6.heap.size := Nat.lt_of_lt_of_le la hs6; have nd : w6.heap.size ≠ W.heap.size := (by omega); have nd' := Ne.symm nd; have HAM := Lib.hid am; clear am) | skip); have n60 : w6.heap.size ≠ w.heap.size := (by omega); have n61 : w6.heap.size ≠ W0.heap.size := (by omega); have n62 : w6.heap.size + 1 ≠ w.heap.size := (by omega); have n63 : w6.heap.size + 1 ≠ W0.heap.size := (by omega); have n64 := Ne.symm n60; have n65 := Ne.symm n61; have n66 := Ne.symm n62; have n67 := Ne.symm n63; have n54 := Ne.symm n50; have n55 := Ne.symm n51; have n56 := Ne.symm n52; have n57 := Ne.symm n53; have y0 := Ne.symm zW; have y1 := Ne.symm zW0; have y2 := Ne.symm zW'; have y3 := Ne.symm zW0') | (go_at_call 6; refine (HC1.out _ (by first | exact Cv.drewN_below (Below.refl _ _) 1 | exact (Cv.drewN_below (Below.refl _ _) 1).alloc (by simp) _ | exact ((Cv.drewN_below (Below.refl _ _) 1).alloc (by simp) _).alloc (by simp) _)).mono ?_; rintro e5 w5 ⟨A5, n5, c5, E5, m5, d5, D5, k5, f5, rfl, hl5, hb5, hbw5⟩; have p05 := (hbw5.cell (p := ⟨w.heap.size, 0, none⟩) lp).trans p0; have p15 := (hbw5.cell (p := ⟨w.heap.size, 1, none⟩) lp).trans p1; have p25 := (hbw5.cell (p := ⟨w.heap.size, 2, none⟩) lp).trans p2; have b05 := (hbw5.cell (p := ⟨W0.heap.size, 0, none⟩) lq).trans b0; have b15 := (hbw5.cell (p := ⟨W0.heap.size, 1, none⟩) lq).trans b1; have b25 := (hbw5.cell (p := ⟨W0.heap.size, 2, none⟩) lq).trans b2; have hs5 := hbw5.size; have lp5 := Nat.lt_of_lt_of_le lp hs5; have lq5 := Nat.lt_of_lt_of_le lq hs5; (first | (have am := row_kept hb5 (al2a W (.cells #[.slice none 0 0, .slice none 0 0, .slice none 0 0] 26) (.cells #[.slice none 0 0, .slice none 0 0, .slice none 0 0] 26)); have an := row_kept hb5 (al2b W (.cells #[.slice none 0 0, .slice none 0 0, .slice none 0 0] 26) (.cells #[.slice none 0 0, .slice none 0 0, .slice none 0 0] 26)); obtain ⟨za0, za1, za2, zaf⟩ := OutAt.get am; obtain ⟨zb0, zb1, zb2, zbf⟩ := OutAt.get an; have la := (Array.getElem?_eq_some_iff.1 am).1; have lb := (Array.getElem?_eq_some_iff.1 an).1; have na : w5.heap.size ≠ W.heap.size := Nat.ne_of_gt la; have na' := Ne.symm na; have nb : w5.heap.size ≠ W.heap.size + 1 := Nat.ne_of_gt lb; have nb' := Ne.symm nb; have HAM := Lib.hid am; have HAN := Lib.hid an; clear am an) | (have am := row_kept hb5 (al1 W (.cells #[.slice none 0 0, .slice none 0 0, .slice none 0 0] 26)); obtain ⟨za0, za1, za2, zaf⟩ := OutAt.get am; have la := (Array.getElem?_eq_some_iff.1 am).1; have na : w5.heap.size ≠ W.heap.size := Nat.ne_of_gt la; have na' := Ne.symm na; have HAM := Lib.hid am; clear am) | skip); have n50 : w5.heap.size ≠ w.heap.size := (by omega); have n51 : w5.heap.size ≠ W0.heap.size := (by omega); have n52 : w5.heap.size + 1 ≠ w.heap.size := (by omega); have n53 : w5.heap.size + 1 ≠ W0.heap.size := (by omega)))
  all_goals (
   go_wp2_with fail
   go_meet
   clear HS HU HT HB HC1 HC2
   first
    | with_reducible exact ⟨_, _, A5, n5, c5, E5, m5, d5, D5, k5, f5, A6, n6, c6, E6, m6, d6, D6, k6, f6, rfl, rfl, shfin1 hl5 hl6 hbw6 (by omega)⟩
    | with_reducible exact ⟨_, _, A5, n5, c5, E5, m5, d5, D5, k5, f5, A6, n6, c6, E6, m6, d6, D6, k6, f6, rfl, rfl, shfin1' hl5 hl6 hbw6 (by omega)⟩
    | with_reducible exact ⟨_, _, A5, n5, c5, E5, m5, d5, D5, k5, f5, A6, n6, c6, E6, m6, d6, D6, k6, f6, rfl, rfl, shfin2 hl5 hl6 hbw6 (by omega) HAM.out (by omega)⟩
    | with_reducible exact ⟨_, _, A5, n5, c5, E5, m5, d5, D5, k5, f5, A6, n6, c6, E6, m6, d6, D6, k6, f6, rfl, rfl, shfin2' hl5 hl6 hbw6 (by omega) HAM.out (by omega)⟩
    | with_reducible exact ⟨_, _, A5, n5, c5, E5, m5, d5, D5, k5, f5, A6, n6, c6, E6, m6, d6, D6, k6, f6, rfl, rfl, shfin2 hl5 hl6 hbw6 (by omega) HBM.out (by omega)⟩
    | with_reducible exact ⟨_, _, A5, n5, c5, E5, m5, d5, D5, k5, f5, A6, n6, c6, E6, m6, d6, D6, k6, f6, rfl, rfl, shfin2' hl5 hl6 hbw6 (by omega) HBM.out (by omega)⟩
    | with_reducible exact ⟨_, _, A5, n5, c5, E5, m5, d5, D5, k5, f5, A6, n6, c6, E6, m6, d6, D6, k6, f6, rfl, rfl, shfin3 hl5 hl6 hbw6 HAM.out HAN.out (by omega) (by omega) (by omega)⟩
    | with_reducible exact ⟨_, _, A5, n5, c5, E5, m5, d5, D5, k5, f5, A6, n6, c6, E6, m6, d6, D6, k6, f6, rfl, rfl, shfin3 hl5 hl6 hbw6 HAN.out HAM.out (by omega) (by omega) (by omega)⟩
    | with_reducible exact ⟨_, _, A5, n5, c5, E5, m5, d5, D5, k5, f5, A6, n6, c6, E6, m6, d6, D6, k6, f6, rfl, rfl, shfin3 hl5 hl6 hbw6 HAM.out HBM.out (by omega) (by omega) (by omega)⟩
    | with_reducible exact ⟨_, _, A5, n5, c5, E5, m5, d5, D5, k5, f5, A6, n6, c6, E6, m6, d6, D6, k6, f6, rfl, rfl, shfin3 hl5 hl6 hbw6 HBM.out HAM.out (by omega) (by omega) (by omega)⟩
    | with_reducible exact ⟨_, _, A5, n5, c5, E5, m5, d5, D5, k5, f5, A6, n6, c6, E6, m6, d6, D6, k6, f6, rfl, rfl, shfin3 hl5 hl6 hbw6 HBM.out HBN.out (by omega) (by omega) (by omega)⟩
    | with_reducible exact ⟨_, _, A5, n5, c5, E5, m5, d5, D5, k5, f5, A6, n6, c6, E6, m6, d6, D6, k6, f6, rfl, rfl, shfin3 hl5 hl6 hbw6 HBN.out HBM.out (by omega) (by omega) (by omega)⟩
    | (trace_state; sorry))
 case rest =>
  obtain ⟨g5, g6, A5, n5, c5, E5, m5, d5, D5, k5, f5, A6, n6, c6, E6, m6, d6, D6, k6, f6, rfl, rfl, ho5, ho6, hl5, hl6, hb5⟩ := hcut
  obtain ⟨XS, hXS⟩ : ∃ X, txt (ofO s) = X := ⟨_, rfl⟩
  obtain ⟨FS, hFS⟩ : ∃ X, txt (filesO s) = X := ⟨_, rfl⟩
  obtain ⟨CS, hCS⟩ : ∃ C, codeO s = C := ⟨_, rfl⟩
  have HXS := Lib.hid hXS
  have HFS := Lib.hid hFS
  have HCS := Lib.hid hCS
  clear hXS hFS hCS
  have HS0 := Lib.hid (HS.out.below hb5)
  have HU0 := Lib.hid (HU.out.below hb5)
  have HB0 := Lib.hid (Cv.next HB.out hb5)
  have HBT0 := Lib.hid hb5
  have HL5 := Lib.hid hl5
  have HL6 := Lib.hid hl6
  have HO5 := Lib.hid ho5
  have HO6 := Lib.hid ho6
  have q0 := (hb5.cell (p := ⟨w.heap.size, 0, none⟩) lp).trans p0
  have q1 := (hb5.cell (p := ⟨w.heap.size, 1, none⟩) lp).trans p1
  have q2 := (hb5.cell (p := ⟨w.heap.size, 2, none⟩) lp).trans p2
  have r0 := (hb5.cell (p := ⟨W0.heap.size, 0, none⟩) lq).trans b0
  have r1 := (hb5.cell (p := ⟨W0.heap.size, 1, none⟩) lq).trans b1
  have r2 := (hb5.cell (p := ⟨W0.heap.size, 2, none⟩) lq).trans b2
  have lp0 : w.heap.size < wc.heap.size := Nat.lt_of_lt_of_le lp hb5.size
  have lq0 : W0.heap.size < wc.heap.size := Nat.lt_of_lt_of_le lq hb5.size
  obtain ⟨x0, x1, x2, _⟩ := OutAt.get ho5
  obtain ⟨y0, y1, y2, _⟩ := OutAt.get ho6
  clear hb5 ho5 ho6 hl5 hl6 p0 p1 p2 b0 b1 b2
  go_wp2_with fail
  have h1 := shof_any _ s wc HL5.out.st.weak (HT.out.below (HBT0.out))
  rw [HXS.out, HCS.out] at h1
  refine h1.mono ?_
  clear h1
  rintro e1 w1 ⟨rfl, hb⟩
  have HS1 := Lib.hid (HS0.out.below hb)
  have HU1 := Lib.hid (HU0.out.below hb)
  have HL5 := Lib.hid (HL5.out.below hb)
  have HL6 := Lib.hid (HL6.out.below hb)
  have HB1 := Lib.hid (Cv.next HB0.out hb)
  have HBT1 := Lib.hid (Cv.next HBT0.out hb)
  have HO5 := Lib.hid (Out.go HO5.out hb)
  have HO6 := Lib.hid (Out.go HO6.out hb)
  replace q0 := (hb.cell (p := ⟨w.heap.size, 0, none⟩) lp0).trans q0
  replace q1 := (hb.cell (p := ⟨w.heap.size, 1, none⟩) lp0).trans q1
  replace q2 := (hb.cell (p := ⟨w.heap.size, 2, none⟩) lp0).trans q2
  replace r0 := (hb.cell (p := ⟨W0.heap.size, 0, none⟩) lq0).trans r0
  replace r1 := (hb.cell (p := ⟨W0.heap.size, 1, none⟩) lq0).trans r1
  replace r2 := (hb.cell (p := ⟨W0.heap.size, 2, none⟩) lq0).trans r2
  have lp1 := Nat.lt_of_lt_of_le lp0 hb.size
  have lq1 := Nat.lt_of_lt_of_le lq0 hb.size
  clear x0 x1 x2 y0 y1 y2 hb
  obtain ⟨x0, x1, x2, _⟩ := OutAt.get HO5.out
  obtain ⟨y0, y1, y2, _⟩ := OutAt.get HO6.out
  go_wp2_with fail
  have h1 := dof_any _ s w1 HS1.out
  rw [HXS.out, HCS.out] at h1
  refine h1.mono ?_
  clear h1
  rintro e2 w2 ⟨rfl, hb⟩
  have HS2 := Lib.hid (HS1.out.below hb)
  have HU2 := Lib.hid (HU1.out.below hb)
  have HL5 := Lib.hid (HL5.out.below hb)
  have HL6 := Lib.hid (HL6.out.below hb)
  have HB2 := Lib.hid (Cv.next HB1.out hb)
  have HBT2 := Lib.hid (Cv.next HBT1.out hb)
  have HO5 := Lib.hid (Out.go HO5.out hb)
  have HO6 := Lib.hid (Out.go HO6.out hb)
  replace q0 := (hb.cell (p := ⟨w.heap.size, 0, none⟩) lp1).trans q0
  replace q1 := (hb.cell (p := ⟨w.heap.size, 1, none⟩) lp1).trans q1
  replace q2 := (hb.cell (p := ⟨w.heap.size, 2, none⟩) lp1).trans q2
  replace r0 := (hb.cell (p := ⟨W0.heap.size, 0, none⟩) lq1).trans r0
  replace r1 := (hb.cell (p := ⟨W0.heap.size, 1, none⟩) lq1).trans r1
  replace r2 := (hb.cell (p := ⟨W0.heap.size, 2, none⟩) lq1).trans r2
  have lp2 := Nat.lt_of_lt_of_le lp1 hb.size
  have lq2 := Nat.lt_of_lt_of_le lq1 hb.size
  clear x0 x1 x2 y0 y1 y2 hb
  obtain ⟨x0, x1, x2, _⟩ := OutAt.get HO5.out
  obtain ⟨y0, y1, y2, _⟩ := OutAt.get HO6.out
  go_wp2_with fail
  have h1 := shfiles_any _ s w2 HL5.out.st.weak (HT.out.below (HBT2.out))
  rw [HFS.out, HCS.out] at h1
  refine h1.mono ?_
  clear h1
  rintro e3 w3 ⟨rfl, hb⟩
  have HS3 := Lib.hid (HS2.out.below hb)
  have HU3 := Lib.hid (HU2.out.below hb)
  have HL5 := Lib.hid (HL5.out.below hb)
  have HL6 := Lib.hid (HL6.out.below hb)
  have HB3 := Lib.hid (Cv.next HB2.out hb)
  have HBT3 := Lib.hid (Cv.next HBT2.out hb)
  have HO5 := Lib.hid (Out.go HO5.out hb)
  have HO6 := Lib.hid (Out.go HO6.out hb)
  replace q0 := (hb.cell (p := ⟨w.heap.size, 0, none⟩) lp2).trans q0
  replace q1 := (hb.cell (p := ⟨w.heap.size, 1, none⟩) lp2).trans q1
  replace q2 := (hb.cell (p := ⟨w.heap.size, 2, none⟩) lp2).trans q2
  replace r0 := (hb.cell (p := ⟨W0.heap.size, 0, none⟩) lq2).trans r0
  replace r1 := (hb.cell (p := ⟨W0.heap.size, 1, none⟩) lq2).trans r1
  replace r2 := (hb.cell (p := ⟨W0.heap.size, 2, none⟩) lq2).trans r2
  have lp3 := Nat.lt_of_lt_of_le lp2 hb.size
  have lq3 := Nat.lt_of_lt_of_le lq2 hb.size
  clear x0 x1 x2 y0 y1 y2 hb
  obtain ⟨x0, x1, x2, _⟩ := OutAt.get HO5.out
  obtain ⟨y0, y1, y2, _⟩ := OutAt.get HO6.out
  go_wp2_with fail
  have h1 := dfiles_any _ s w3 HS3.out
  rw [HFS.out, HCS.out] at h1
  refine h1.mono ?_
  clear h1
  rintro e4 w4 ⟨rfl, hb⟩
  have HS4 := Lib.hid (HS3.out.below hb)
  have HU4 := Lib.hid (HU3.out.below hb)
  have HL5 := Lib.hid (HL5.out.below hb)
  have HL6 := Lib.hid (HL6.out.below hb)
  have HB4 := Lib.hid (Cv.next HB3.out hb)
  have HBT4 := Lib.hid (Cv.next HBT3.out hb)
  have HO5 := Lib.hid (Out.go HO5.out hb)
  have HO6 := Lib.hid (Out.go HO6.out hb)
  replace q0 := (hb.cell (p := ⟨w.heap.size, 0, none⟩) lp3).trans q0
  replace q1 := (hb.cell (p := ⟨w.heap.size, 1, none⟩) lp3).trans q1
  replace q2 := (hb.cell (p := ⟨w.heap.size, 2, none⟩) lp3).trans q2
  replace r0 := (hb.cell (p := ⟨W0.heap.size, 0, none⟩) lq3).trans r0
  replace r1 := (hb.cell (p := ⟨W0.heap.size, 1, none⟩) lq3).trans r1
  replace r2 := (hb.cell (p := ⟨W0.heap.size, 2, none⟩) lq3).trans r2
  have lp4 := Nat.lt_of_lt_of_le lp3 hb.size
  have lq4 := Nat.lt_of_lt_of_le lq3 hb.size
  clear x0 x1 x2 y0 y1 y2 hb
  obtain ⟨x0, x1, x2, _⟩ := OutAt.get HO5.out
  obtain ⟨y0, y1, y2, _⟩ := OutAt.get HO6.out
  obtain ⟨SM, hSM⟩ : ∃ S, sameO s t = S := ⟨_, rfl⟩
  obtain ⟨MT, hMT⟩ : ∃ S, mayV t = S := ⟨_, rfl⟩
  have hst : sameO t t = MT := by
   unfold sameO
   rw [hMT]
   cases MT <;> simp
  have hN : ∀ X : Ext w4, Calls Tryz.prog 11 #[.int .i64 CS] X.w fun e w' => e = .returned (.int .i64 CS) ∧ Below X.w.heap.size X.w w' := fun X => by
   refine (num14 CS X.w).mono ?_
   rintro e' w' ⟨rfl, rfl⟩
   exact ⟨rfl, Below.refl _ _⟩
  have hS1 : ∀ X : Ext w4, Calls Tryz.prog 12 #[.agg #[.slice A5 n5 c5, .slice E5 m5 d5, .slice D5 k5 f5], .agg #[.slice A6 n6 c6, .slice E6 m6 d6, .slice D6 k6 f6]] X.w fun e w' => e = .returned (.bool SM) ∧ Below X.w.heap.size X.w w' := fun X => by
   have h1 := shsame_any _ _ s t X.w (HL5.out.st.weak.below X.bel) (HL6.out.st.weak.below X.bel) (HT.out.below (Cv.next HBT4.out X.bel))
   rw [hSM] at h1
   exact h1
  have hS2 : ∀ X : Ext w4, Calls Tryz.prog 12 #[.agg #[.slice A6 n6 c6, .slice E6 m6 d6, .slice D6 k6 f6], .agg #[.slice A6 n6 c6, .slice E6 m6 d6, .slice D6 k6 f6]] X.w fun e w' => e = .returned (.bool MT) ∧ Below X.w.heap.size X.w w' := fun X => by
   have h1 := shsame_any _ _ t t X.w (HL6.out.st.weak.below X.bel) (HL6.out.st.weak.below X.bel) (HT.out.below (Cv.next HBT4.out X.bel))
   rw [hst] at h1
   exact h1
  have hD : ∀ X : Ext w4, Calls Tryz.prog 13 #[.agg #[.slice A n c, .slice B m d, .slice D k e], .agg #[.slice A' n' c', .slice B' m' d', .slice D' k' e']] X.w fun e w' => e = .returned (.bool SM) ∧ Below X.w.heap.size X.w w' := fun X => by
   have h1 := dsame_any _ _ s t X.w (HS4.out.below X.bel) (HU4.out.below X.bel)
   rw [hSM] at h1
   exact h1
  have hM : ∀ X : Ext w4, Calls Tryz.prog 14 #[.agg #[.slice A' n' c', .slice B' m' d', .slice D' k' e']] X.w fun e w' => e = .returned (.bool MT) ∧ Below X.w.heap.size X.w w' := fun X => by
   have h1 := may_doc _ t X.w (HU4.out.below X.bel)
   rw [hMT] at h1
   exact h1
  have hK1 : ∀ X : Ext w4, Calls Tryz.prog 15 #[.agg #[.slice A5 n5 c5, .slice E5 m5 d5, .slice D5 k5 f5], .agg #[.slice A n c, .slice B m d, .slice D k e]] X.w fun e w' => e = .returned (.bool true) ∧ Below X.w.heap.size X.w w' := fun X => keptstate_any _ _ _ s X.w (HL5.out.below X.bel) (HS4.out.below X.bel)
  have hK2 : ∀ X : Ext w4, Calls Tryz.prog 15 #[.agg #[.slice A6 n6 c6, .slice E6 m6 d6, .slice D6 k6 f6], .agg #[.slice A' n' c', .slice B' m' d', .slice D' k' e']] X.w fun e w' => e = .returned (.bool true) ∧ Below X.w.heap.size X.w w' := fun X => keptstate_any _ _ _ t X.w (HL6.out.below X.bel) (HU4.out.below X.bel)
  have hA : ∀ X : Ext w4, Calls Tryz.prog 16 #[] X.w fun e w' => e = .returned (.bool true) ∧ Below X.w.heap.size X.w w' := fun X => awake14 X.w (HT.out.below (Cv.next HBT4.out X.bel))
  have HN := Lib.hid hN
  have HSA := Lib.hid hS1
  have HSB := Lib.hid hS2
  have HD := Lib.hid hD
  have HM := Lib.hid hM
  have HKA := Lib.hid hK1
  have HKB := Lib.hid hK2
  have HA := Lib.hid hA
  have i1 : (XS.toList == XS.toList) = true := beq_self_eq_true _
  have i2 : (FS.toList == FS.toList) = true := beq_self_eq_true _
  have i3 : (CS == CS) = true := beq_self_eq_true _
  have i4 : (SM == SM) = true := beq_self_eq_true _
  have i5 : (MT == MT) = true := beq_self_eq_true _
  have hX := @Ext.cell w4
  clear hN hS1 hS2 hD hM hK1 hK2 hA hst hSM hMT
  go_upto_region 6 with fail
  refine wre ?_
  repeat (go_big_quiet_step (first | (go_at_call 11; rename_i X; with_reducible exact Calls.ext_of (HN.out X)) | (go_at_call 12; rename_i X; first | with_reducible exact Calls.ext_of (HSA.out X) | with_reducible exact Calls.ext_of (HSB.out X)) | (go_at_call 13; rename_i X; with_reducible exact Calls.ext_of (HD.out X)) | (go_at_call 14; rename_i X; with_reducible exact Calls.ext_of (HM.out X)) | (go_at_call 15; rename_i X; first | with_reducible exact Calls.ext_of (HKA.out X) | with_reducible exact Calls.ext_of (HKB.out X)) | (go_at_call 16; rename_i X; with_reducible exact Calls.ext_of (HA.out X))))
  refine wpQuiet_nil ?_
  rintro w9 ⟨X, rfl⟩
  have HBX := Lib.hid (Cv.next HB4.out X.bel)
  clear hX
  go_wp2_with fail
  go_ret
  exact ⟨rfl, HBX.out⟩
end Go.Proofs.YthhceopnnappgaaGreatDoor
