/- May of the document: may a state be: by its contract. -/
import Derived.Test.YthhceopnnappgaaGreatDoorFsMayReg
set_option linter.unusedVariables false
set_option linter.unusedSimpArgs false
namespace Go.Proofs.YthhceopnnappgaaGreatDoor
open Go.RowKit
theorem rest_none (l : List Bool) (k : Nat) : (l.drop k).headD false = l.getD k false := by
 rw [List.getD_eq_getElem?_getD]
 cases h : l.drop k with
 | nil =>
  have : l.length ≤ k := List.drop_eq_nil_iff.1 h
  rw [List.getElem?_eq_none this]
  rfl
 | cons a t =>
  have : l[k]? = some a := by
   have h2 := congrArg (·[0]?) h
   simpa using h2
  rw [this]
  rfl
theorem rest_tail (l : List Bool) (k : Nat) : (l.drop k).tail = l.drop (k + 1) := by simp
set_option maxRecDepth 100000 in
set_option maxHeartbeats 16000000 in
theorem may_doc (v : Value) (s : St) (w : World) (h : StAt none w v s) :
  Calls Tryz.prog 14 #[v] w fun e w' => e = .returned (.bool (mayV s)) ∧ Below w.heap.size w w' := by
 obtain ⟨⟨A, n, c, B, m, d, D, k, e, rfl, hI, hD, hM, h5, h6, h7⟩, hz⟩ := h
 obtain ⟨R, hR⟩ : ∃ R, mayV s = R := ⟨_, rfl⟩
 rw [hR]
 unfold mayV at hR
 have hbig := hz.big
 have hn := hI.1
 have hkm := hM.1
 have hn2 : n ≤ 1099511627776 := by omega
 have hk2 : k ≤ 1099511627776 := by omega
 have hB2 : bulkE s.inos ≤ 1099511627776 := by omega
 rw [hn, hkm] at hR
 obtain ⟨W, hW, b0, b1, b2, hal, hlt0⟩ := box_st w A n c B m d D k e
 have HS := Lib.hid ((StAt.of_parts hI hD hM h5 h6 h7 hz).below hal)
 have HI := Lib.hid (hI.below hal)
 have HM := Lib.hid (hM.below hal)
 have HAL := Lib.hid hal
 have HR := Lib.hid hR
 have HZ := Lib.hid hz
 have HN := Lib.hid hn
 have HK := Lib.hid hkm
 have HB2 := Lib.hid hB2
 clear hI hD hM hz hR hal hbig hn hkm hB2
 obtain ⟨B1, hB1⟩ : ∃ B1, (decide (1 ≤ k) && decide (k ≤ 8) && rootB s.inos && opensV s) = B1 := ⟨_, rfl⟩
 have hR1 : B1 = false → R = false := fun hb => by
  have h := HR.out
  rw [hB1, hb] at h
  simpa using h.symm
 have HB1 := Lib.hid hB1
 have HR1 := Lib.hid hR1
 clear hB1 hR1
 go_enter Tryz.func14, Tryz.ntmps14
 go_upto_region 1 with fail
 clear hW
 go_cut [44] (fun c wx => c = .bool (!B1) ∧ ∃ X : Ext W, wx = X.w)
 case first =>
  by_cases a1 : k < 1
  ·have hb : B1 = false := by rw [← HB1.out]; simp; omega
   go_wp2_with fail
   go_meet
   exact ⟨congrArg Value.bool (by rw [hb]; rfl), ⟨W, Below.refl _ _⟩, rfl⟩
  by_cases a2 : 8 < k
  ·have hb : B1 = false := by rw [← HB1.out]; simp; omega
   have qa : decide ((8 : Int) < (k : Int)) = true := by rw [decide_eq_true_eq]; omega
   have qb : decide ((k : Int) < 1) = false := by rw [decide_eq_false_iff_not]; omega
   go_wp2_with fail
   go_meet
   exact ⟨congrArg Value.bool (by rw [hb]; rfl), ⟨W, Below.refl _ _⟩, rfl⟩
  have qa : decide ((8 : Int) < (k : Int)) = false := by rw [decide_eq_false_iff_not]; omega
  have qb : decide ((k : Int) < 1) = false := by rw [decide_eq_false_iff_not]; omega
  by_cases a3 : n < 1
  ·have hb : B1 = false := by
    rw [← HB1.out]
    have : s.inos = [] := List.eq_nil_of_length_eq_zero (by have := HN.out; omega)
    rw [this]
    simp [rootB]
   have qc : decide ((n : Int) < 1) = true := by rw [decide_eq_true_eq]; omega
   go_wp2_with fail
   go_meet
   exact ⟨congrArg Value.bool (by rw [hb]; rfl), ⟨W, Below.refl _ _⟩, rfl⟩
  have qc : decide ((n : Int) < 1) = false := by rw [decide_eq_false_iff_not]; omega
  obtain ⟨g, off, x, E, m2, d2, rfl, hg, hx, hd, hmem, c0, c1, _, _, _, _⟩ := HI.out.get 0 (by omega)
  have hroot : rootB s.inos = (decide (x.num = 1) && x.dir) := by
   have : s.inos = x :: s.inos.drop 1 := by simpa using hd
   rw [this]
   rfl
  have n0 : (0 : Int) < (n : Int) := by omega
  have HRO := Lib.hid hroot
  rw [Nat.zero_mul, Nat.add_zero] at c0 c1
  clear hx hd hmem hroot
  by_cases a4 : x.num = 1
  ·have qn : (x.num != 1) = false := by rw [a4]; rfl
   by_cases a5 : x.dir = true
   ·have HA4 := Lib.hid a4
    have HA5 := Lib.hid a5
    rw [a5] at c1
    clear a4 a5
    go_wp2_with fail
    refine (opens_any _ s _ HS.out).mono ?_
    rintro e5 w5 ⟨rfl, hb5⟩
    have HX5 := Lib.hid hb5
    clear hb5
    go_wp2_with fail
    go_meet
    exact ⟨congrArg Value.bool (by rw [← HB1.out, HRO.out, HA4.out, HA5.out]; simp; omega), ⟨w5, HX5.out⟩, rfl⟩
   ·have a6 : x.dir = false := by simpa using a5
    have hb : B1 = false := by rw [← HB1.out, HRO.out, a6]; simp
    rw [a6] at c1
    go_wp2_with fail
    go_meet
    exact ⟨congrArg Value.bool (by rw [hb]; rfl), ⟨W, Below.refl _ _⟩, rfl⟩
  ·have qn : (x.num != 1) = true := by rw [bne_iff_ne]; exact a4
   have hb : B1 = false := by rw [← HB1.out, HRO.out, decide_eq_false a4]; simp
   go_wp2_with fail
   go_meet
   exact ⟨congrArg Value.bool (by rw [hb]; rfl), ⟨W, Below.refl _ _⟩, rfl⟩
 case rest =>
  obtain ⟨rfl, X, rfl⟩ := hcut
  generalize hZe : X.w = Z
  have hZ := hZe ▸ X.bel
  clear hZe X
  cases B1
  ·have HRF := Lib.hid (HR1.out rfl)
   have HZ2 := Lib.hid hZ
   clear hZ
   go_wp2_with fail
   go_ret
   exact ⟨Cv.ret_bool HRF.out.symm, Cv.next HAL.out HZ2.out⟩
  have z0 := (hZ.cell (p := ⟨w.heap.size, 0, .none⟩) hlt0).trans b0
  have z1 := (hZ.cell (p := ⟨w.heap.size, 1, .none⟩) hlt0).trans b1
  have z2 := (hZ.cell (p := ⟨w.heap.size, 2, .none⟩) hlt0).trans b2
  have HIZ := Lib.hid (HI.out.below hZ)
  have HMZ := Lib.hid (HM.out.below hZ)
  have HSZ := Lib.hid (HS.out.below hZ)
  have HZ2 := Lib.hid hZ
  have hlz : w.heap.size < Z.heap.size := Nat.lt_of_lt_of_le hlt0 hZ.size
  have hB1 := HB1.out
  rw [Bool.and_eq_true, Bool.and_eq_true, Bool.and_eq_true, decide_eq_true_eq, decide_eq_true_eq] at hB1
  have hr := HR.out
  rw [decide_eq_true hB1.1.1.1, decide_eq_true hB1.1.1.2, hB1.1.2, hB1.2] at hr
  have hr2 : (madeG s.made && decide (n ≤ 257) && inosG s s.inos none (reachV s.inos)) = R := by simpa using hr
  have HR2 := Lib.hid hr2
  have hk1 := hB1.1.1.1
  clear hZ hB1 hr hr2 HR1 HR b0 b1 b2
  go_wp2_with fail
  go_loop [3] (fun i => ∃ q : Nat, i = .int .i64 q ∧ q ≤ k ∧ madeG (s.made.drop q) = madeG s.made) (fun i => k - (intOf i).toNat)
  case atStart => exact ⟨0, rfl, by omega, rfl⟩
  case round =>
   obtain ⟨q, rfl, hq, hc⟩ := hrel
   by_cases hlt : q < k
   ·obtain ⟨g, off, x, rfl, hg, hx, hd, hmem, c0⟩ := HMZ.out.get q hlt
    rw [hd, madeG] at hc
    by_cases hbad : x < 0 ∨ 32 < x
    ·rw [if_pos hbad] at hc
     have hrf : R = false := by rw [← HR2.out, ← hc]; rfl
     have HRF := Lib.hid hrf
     clear hc hd hx hmem hrf
     by_cases h0 : x < 0
     ·clear hbad
      go_wp2_with fail
      go_ret
      exact ⟨Cv.ret_bool HRF.out.symm, Cv.next HAL.out HZ2.out⟩
     ·have q0 : decide (x < 0) = false := by rw [decide_eq_false_iff_not]; exact h0
      have q1 : decide (32 < x) = true := by rw [decide_eq_true_eq]; omega
      clear hbad
      go_wp2_with fail
      go_ret
      exact ⟨Cv.ret_bool HRF.out.symm, Cv.next HAL.out HZ2.out⟩
    ·rw [if_neg hbad] at hc
     have q0 : decide (x < 0) = false := by rw [decide_eq_false_iff_not]; omega
     have q1 : decide (32 < x) = false := by rw [decide_eq_false_iff_not]; omega
     have HC := Lib.hid hc
     clear hc hd hx hmem hbad
     go_wp2_with fail
     go_round
     case rel => exact ⟨q + 1, by go_num, by omega, HC.out⟩
     case measure => simp [intOf]; omega
   ·have : s.made.drop q = [] := List.drop_eq_nil_of_le (by have := HMZ.out.1; omega)
    rw [this, madeG] at hc
    have hr := HR2.out
    rw [← hc, Bool.true_and] at hr
    by_cases h257 : 257 < n
    ·rw [decide_eq_false (by omega), Bool.false_and] at hr
     have HRF := Lib.hid hr
     have q2 : decide ((257 : Int) < (n : Int)) = true := by rw [decide_eq_true_eq]; omega
     have q3 : decide ((q : Int) < (k : Int)) = false := by rw [decide_eq_false_iff_not]; omega
     clear hr hc this
     go_wp2_with fail
     go_ret
     exact ⟨Cv.ret_bool HRF.out, Cv.next HAL.out HZ2.out⟩
    ·rw [decide_eq_true (by omega), Bool.true_and] at hr
     have HR3 := Lib.hid hr
     have q2 : decide ((257 : Int) < (n : Int)) = false := by rw [decide_eq_false_iff_not]; omega
     have q3 : decide ((q : Int) < (k : Int)) = false := by rw [decide_eq_false_iff_not]; omega
     clear hr hc this
     go_wp2_with fail
     refine (reached_any _ s _ HSZ.out (by have := HN.out; omega)).mono ?_
     rintro e5 w5 ⟨G, rfl, hfl, hb5⟩
     rw [HN.out] at hfl ⊢
     have y0 := (hb5.cell (p := ⟨w.heap.size, 0, .none⟩) hlz).trans z0
     have y1 := (hb5.cell (p := ⟨w.heap.size, 1, .none⟩) hlz).trans z1
     have y2 := (hb5.cell (p := ⟨w.heap.size, 2, .none⟩) hlz).trans z2
     have HI5 := Lib.hid (HIZ.out.below hb5)
     have HS5 := Lib.hid (HSZ.out.below hb5)
     have HW5 := Lib.hid (Cv.next HAL.out (Cv.next HZ2.out hb5))
     have HFL := Lib.hid hfl
     have hl5 : w.heap.size < w5.heap.size := Nat.lt_of_lt_of_le hlz hb5.size
     have hG5 : G < w5.heap.size := hfl.lt
     clear hfl hb5 z0 z1 z2 q2 q3 hlt
     go_wp2_with fail
     go_loopw [5, 6, 7] (fun i _ _ wr => ∃ q : Nat, i = .int .i64 q ∧ q ≤ n ∧ Below w5.heap.size w5 wr ∧ inosG s (s.inos.drop q) (prevI s.inos q) ((reachV s.inos).drop q) = R) (fun i _ _ _ => n - (intOf i).toNat)
     case atStart => exact ⟨0, rfl, by omega, Below.refl _ _, by rw [List.drop_zero, List.drop_zero]; exact HR3.out⟩
     case round =>
      obtain ⟨q, rfl, hq, hbel, hc⟩ := hrel
      have HB := Lib.hid hbel
      have HIr := Lib.hid (HI5.out.below hbel)
      have r0 := (hbel.cell (p := ⟨w.heap.size, 0, .none⟩) hl5).trans y0
      have r1 := (hbel.cell (p := ⟨w.heap.size, 1, .none⟩) hl5).trans y1
      have r2 := (hbel.cell (p := ⟨w.heap.size, 2, .none⟩) hl5).trans y2
      clear hbel
      by_cases hlt : q < n
      ·obtain ⟨g, off, x, E, m2, d2, rfl, hg, hx, hd, hmem, c0, c1, c2, hmd, hE, c3⟩ := HIr.out.get q hlt
       obtain ⟨xn, xd, xe, xdat⟩ := x
       dsimp only at c0 c1 c2 c3 hE
       have hle : m2 ≤ 1099511627776 := by have h1 := hE.1; have h2 := bulkE_le hx; have := HB2.out; dsimp only at h2; omega
       have htx := HZ.out.text _ hmem
       have hnx := HZ.out.nums.1 _ hmem
       dsimp only at htx hnx
       have hes : xe.length = m2 := hE.1
       rw [hd, inosG, rest_none, rest_tail] at hc
       obtain ⟨BD, hBD⟩ : ∃ BD, inoBad s (prevI s.inos q) ⟨xn, xd, xe, xdat⟩ = BD := ⟨_, rfl⟩
       obtain ⟨PD, hPD⟩ : ∃ PD, inoLost s (prevI s.inos q).isNone ⟨xn, xd, xe, xdat⟩ ((reachV s.inos).getD q false) = PD := ⟨_, rfl⟩
       rw [hBD, hPD] at hc
       have hfq : (reachV s.inos).getD q false = (reachV s.inos).getD q false := rfl
       have HBD := Lib.hid hBD
       have HPD := Lib.hid hPD
       have HC := Lib.hid hc
       have HY := Lib.hid hx
       have HE := Lib.hid hE
       have HTX := Lib.hid htx.2
       have HES := Lib.hid hes
       have hxs := htx.1
       have hn1 := hnx.1
       have hn9 := hnx.2.1
       have k0 : (0 : Int) ≤ (q : Int) := by omega
       have k1 : (q : Int) < (n : Int) := by omega
       clear hc hd hmem hx hBD hPD hE htx hnx hfq hes
       obtain ⟨V2, hV2, v0, v1, v2, v3, hal4, hlt4⟩ := box_ino wr xn xd E m2 d2 xdat
       have hbv := Cv.next HB.out hal4
       have x0 := (hal4.cell (p := ⟨w.heap.size, 0, .none⟩) (Nat.lt_of_lt_of_le hl5 HB.out.size)).trans r0
       have x1 := (hal4.cell (p := ⟨w.heap.size, 1, .none⟩) (Nat.lt_of_lt_of_le hl5 HB.out.size)).trans r1
       have x2 := (hal4.cell (p := ⟨w.heap.size, 2, .none⟩) (Nat.lt_of_lt_of_le hl5 HB.out.size)).trans r2
       have HSV := Lib.hid (HS5.out.below hbv)
       have HIV := Lib.hid (HI5.out.below hbv)
       have HEV := Lib.hid (HE.out.below hal4)
       have HBV := Lib.hid hbv
       have HFV := Lib.hid (HFL.out.below hbv)
       clear hal4 hbv
       go_upto_region 15 with fail
       have hX := @Ext.cell V2
       clear hV2 r0 r1 r2 c0 c1 c2 c3
       go_cut [136] (fun c wx => c = .bool BD ∧ ∃ X : Ext V2, wx = X.w)
       case first =>
        have hK : ∀ a' : Act, a'.tmps = a'.tmps → True := fun _ _ => trivial
        refine wre ?_
        by_cases hq0 : q = 0
        ·refine may_q0 s n c m d k e _ B D V2 w.heap.size wr.heap.size x0 x1 x2 HSV.out HIV.out xn xd xe xdat E m2 d2 v0 v1 v2 v3 HEV.out hmd hle HTX.out hn1 hn9 hxs q hlt hn2 BD HBD.out hq0 _ _ _ _ _ _ _ _ _ _ _ _ _ _ _ _ _ _ _ _ _ _ _ _ _ _ _ _ _ _ _ _ _ _ _ _ _ _ _ _ _ _ _ _ _ _ _ _ _ _ _ _ _ _ _ _ _ _ _ _ _ _ _ _ _ _ _ _ _ _ _ _ _ _ _ _ _ _ _ _ _ _ _ _ _ _ _ _ _ _ _ _ _ _ _ _ _ _ _ _ _ _ _ _ _ _ _ _ _ _ _ _ _ _ _ _ _ _ _ _ _ _ _ _ _ _ _ _ _ _ _ _ _ _ _ _ _ _ _ _ _ _ _ _ _ _ _ _ _ _ _ _ _ _ _ _ _ _ _ _ _ _ _ _ _ _ _ _ _ _ _ _ _ _ _ ?_
         clear hq0
         rintro v84 v85 v86 v87 v88 v89 v90 v91 v92 v93 v94 v95 v96 v97 v98 v99 v100 v101 v102 v103 v104 v105 v106 v107 v108 v109 v110 v111 v112 v113 v114 v115 v116 v117 v118 v119 v120 v121 v122 v123 v124 v125 v126 v127 v128 v129 v130 v131 v132 v133 v134 v135 v136 hv w7 ⟨X, rfl⟩
         subst hv
         go_wp2_with fail
         go_meet
         exact ⟨rfl, X, rfl⟩
        have hql : q - 1 < s.inos.length := by have := HIV.out.1; omega
        by_cases hbad : xn ≤ (s.inos[q - 1]).num ∨ givenV s.made xn = false
        ·refine may_bad s n c m d k e _ B D V2 w.heap.size wr.heap.size x0 x1 x2 HSV.out HIV.out xn xd xe xdat E m2 d2 v0 v1 v2 v3 HEV.out hmd hle HTX.out hn1 hn9 hxs q hlt hn2 BD HBD.out (by omega) _ (List.getElem?_eq_getElem hql) hbad _ _ _ _ _ _ _ _ _ _ _ _ _ _ _ _ _ _ _ _ _ _ _ _ _ _ _ _ _ _ _ _ _ _ _ _ _ _ _ _ _ _ _ _ _ _ _ _ _ _ _ _ _ _ _ _ _ _ _ _ _ _ _ _ _ _ _ _ _ _ _ _ _ _ _ _ _ _ _ _ _ _ _ _ _ _ _ _ _ _ _ _ _ _ _ _ _ _ _ _ _ _ _ _ _ _ _ _ _ _ _ _ _ _ _ _ _ _ _ _ _ _ _ _ _ _ _ _ _ _ _ _ _ _ _ _ _ _ _ _ _ _ _ _ _ _ _ _ _ _ _ _ _ _ _ _ _ _ _ _ _ _ _ _ _ _ _ _ _ _ _ _ _ _ _ ?_
         rintro v84 v85 v86 v87 v88 v89 v90 v91 v92 v93 v94 v95 v96 v97 v98 v99 v100 v101 v102 v103 v104 v105 v106 v107 v108 v109 v110 v111 v112 v113 v114 v115 v116 v117 v118 v119 v120 v121 v122 v123 v124 v125 v126 v127 v128 v129 v130 v131 v132 v133 v134 v135 v136 hv w7 ⟨X, rfl⟩
         subst hv
         go_wp2_with fail
         go_meet
         exact ⟨rfl, X, rfl⟩
        ·refine may_ok s n c m d k e _ B D V2 w.heap.size wr.heap.size x0 x1 x2 HSV.out HIV.out xn xd xe xdat E m2 d2 v0 v1 v2 v3 HEV.out hmd hle HTX.out hn1 hn9 hxs q hlt hn2 BD HBD.out (by omega) _ (List.getElem?_eq_getElem hql) (fun h => hbad (.inl h)) (by cases hg : givenV s.made xn; exact absurd (.inr hg) hbad; rfl) _ _ _ _ _ _ _ _ _ _ _ _ _ _ _ _ _ _ _ _ _ _ _ _ _ _ _ _ _ _ _ _ _ _ _ _ _ _ _ _ _ _ _ _ _ _ _ _ _ _ _ _ _ _ _ _ _ _ _ _ _ _ _ _ _ _ _ _ _ _ _ _ _ _ _ _ _ _ _ _ _ _ _ _ _ _ _ _ _ _ _ _ _ _ _ _ _ _ _ _ _ _ _ _ _ _ _ _ _ _ _ _ _ _ _ _ _ _ _ _ _ _ _ _ _ _ _ _ _ _ _ _ _ _ _ _ _ _ _ _ _ _ _ _ _ _ _ _ _ _ _ _ _ _ _ _ _ _ _ _ _ _ _ _ _ _ _ _ _ _ _ _ _ _ _ ?_
         rintro v84 v85 v86 v87 v88 v89 v90 v91 v92 v93 v94 v95 v96 v97 v98 v99 v100 v101 v102 v103 v104 v105 v106 v107 v108 v109 v110 v111 v112 v113 v114 v115 v116 v117 v118 v119 v120 v121 v122 v123 v124 v125 v126 v127 v128 v129 v130 v131 v132 v133 v134 v135 v136 hv w7 ⟨X, rfl⟩
         subst hv
         go_wp2_with fail
         go_meet
         exact ⟨rfl, X, rfl⟩
       case rest =>
        obtain ⟨rfl, X, rfl⟩ := hcut
        generalize hZe : X.w = Z5
        have hZ5 := hZe ▸ X.bel
        clear hZe X hX
        have hb9 := Cv.next HBV.out hZ5
        have HB9 := Lib.hid hb9
        cases BD
        rotate_left
        ·have hr := HC.out
         rw [if_pos rfl] at hr
         have HR9 := Lib.hid hr
         clear hr hZ5 hb9
         go_wp2_with fail
         go_ret
         exact ⟨Cv.ret_bool HR9.out, Cv.next HW5.out HB9.out⟩
        have hr := HC.out
        rw [if_neg (by simp)] at hr
        have HR9 := Lib.hid hr
        have t0 := (hZ5.cell (p := ⟨w.heap.size, 0, .none⟩) (Nat.lt_trans (Nat.lt_of_lt_of_le hl5 HB.out.size) hlt4)).trans x0
        have t1 := (hZ5.cell (p := ⟨w.heap.size, 1, .none⟩) (Nat.lt_trans (Nat.lt_of_lt_of_le hl5 HB.out.size) hlt4)).trans x1
        have t2 := (hZ5.cell (p := ⟨w.heap.size, 2, .none⟩) (Nat.lt_trans (Nat.lt_of_lt_of_le hl5 HB.out.size) hlt4)).trans x2
        have u0' := (hZ5.cell (p := ⟨wr.heap.size, 0, .none⟩) hlt4).trans v0
        have u1' := (hZ5.cell (p := ⟨wr.heap.size, 1, .none⟩) hlt4).trans v1
        have HS9 := Lib.hid (HS5.out.below hb9)
        have HF9 := Lib.hid (HFL.out.below hb9)
        have hw9 : wr.heap.size < Z5.heap.size := Nat.lt_of_lt_of_le hlt4 hZ5.size
        have hs9 : w.heap.size < Z5.heap.size := Nat.lt_of_lt_of_le (Nat.lt_trans (Nat.lt_of_lt_of_le hl5 HB.out.size) hlt4) hZ5.size
        clear hr hZ5 hb9 x0 x1 x2 v0 v1 v2 v3
        go_wp2_with fail
        refine (links_any _ s xn _ HS9.out).mono ?_
        rintro e6 w6 ⟨rfl, hb6⟩
        obtain ⟨KL, hKL⟩ : ∃ KL, linkI s.inos xn = KL := ⟨_, rfl⟩
        rw [hKL]
        have HKL := Lib.hid hKL
        have a0 := (hb6.cell (p := ⟨w.heap.size, 0, .none⟩) hs9).trans t0
        have a1 := (hb6.cell (p := ⟨w.heap.size, 1, .none⟩) hs9).trans t1
        have a2 := (hb6.cell (p := ⟨w.heap.size, 2, .none⟩) hs9).trans t2
        have i0' := (hb6.cell (p := ⟨wr.heap.size, 0, .none⟩) hw9).trans u0'
        have i1' := (hb6.cell (p := ⟨wr.heap.size, 1, .none⟩) hw9).trans u1'
        have HS6 := Lib.hid (HS9.out.below hb6)
        have HB6 := Lib.hid (Cv.next HB9.out hb6)
        obtain ⟨fc, _⟩ := (HF9.out.below hb6).get q hlt
        obtain ⟨FQ, hFQ⟩ : ∃ FQ, (reachV s.inos).getD q false = FQ := ⟨_, rfl⟩
        rw [hFQ] at fc
        have hpd := HPD.out
        rw [hFQ] at hpd
        unfold inoLost at hpd
        dsimp only at hpd
        rw [hKL] at hpd
        have hpi : (prevI s.inos q).isNone = decide (q = 0) := by
         unfold prevI
         by_cases hq0 : q = 0
         ·rw [if_pos hq0, decide_eq_true hq0]; rfl
         ·have hl : q - 1 < s.inos.length := by have := HIr.out.1; omega
          rw [if_neg hq0, decide_eq_false hq0, List.getElem?_eq_getElem hl]
          rfl
        rw [hpi] at hpd
        have HPD2 := Lib.hid hpd
        clear hb6 t0 t1 t2 u0' u1' hKL hFQ hpd hpi
        go_upto_region 18 with fail
        go_cut [176] (fun c wx => c = .bool PD ∧ ∃ X : Ext w6, wx = X.w)
        case first =>
         cases xd
         rotate_left
         ·by_cases hq0 : q = 0
          ·skip
           have HQ0 := Lib.hid hq0
           have q1 : decide ((0 : Int) < (q : Int)) = false := by rw [decide_eq_false_iff_not]; omega
           have q1' : decide (0 < q) = false := by rw [decide_eq_false_iff_not]; omega
           clear hq0
           go_wp2_with fail
           go_meet
           exact ⟨congrArg Value.bool (by rw [← HPD2.out]; simp [HQ0.out]), ⟨w6, Below.refl _ _⟩, rfl⟩
          have HQ0 := Lib.hid hq0
          have q1 : decide ((0 : Int) < (q : Int)) = true := by rw [decide_eq_true_eq]; omega
          have q1' : decide (0 < q) = true := by rw [decide_eq_true_eq]; omega
          clear hq0
          by_cases hk1 : KL = 1
          ·have q2 : ((KL : Int) != 1) = false := by rw [hk1]; rfl
           have HK1 := Lib.hid hk1
           clear hk1
           cases FQ
           ·skip
            go_wp2_with fail
            go_meet
            exact ⟨congrArg Value.bool (by rw [← HPD2.out]; simp [HQ0.out, HK1.out]), ⟨w6, Below.refl _ _⟩, rfl⟩
           ·skip
            go_wp2_with fail
            go_meet
            exact ⟨congrArg Value.bool (by rw [← HPD2.out]; simp [HQ0.out, HK1.out]), ⟨w6, Below.refl _ _⟩, rfl⟩
          ·have q2 : ((KL : Int) != 1) = true := by rw [bne_iff_ne]; omega
           go_wp2_with fail
           go_meet
           exact ⟨congrArg Value.bool (by rw [← HPD2.out]; simp [HQ0.out, hk1]), ⟨w6, Below.refl _ _⟩, rfl⟩
         ·by_cases hq0 : q = 0
          ·skip
           have HQ0 := Lib.hid hq0
           have q1 : decide ((0 : Int) < (q : Int)) = false := by rw [decide_eq_false_iff_not]; omega
           have q1' : decide (0 < q) = false := by rw [decide_eq_false_iff_not]; omega
           clear hq0
           cases FQ
           ·skip
            go_wp2_with fail
            refine (isopen_any _ s _ _ HS6.out).mono ?_
            rintro e7 w7 ⟨rfl, hb7⟩
            have HX7 := Lib.hid hb7
            clear hb7
            go_wp2_with fail
            go_meet
            exact ⟨congrArg Value.bool (by rw [← HPD2.out]; simp), ⟨w7, HX7.out⟩, rfl⟩
           ·skip
            go_wp2_with fail
            go_meet
            exact ⟨congrArg Value.bool (by rw [← HPD2.out]; simp [HQ0.out]), ⟨w6, Below.refl _ _⟩, rfl⟩
          have HQ0 := Lib.hid hq0
          have q1 : decide ((0 : Int) < (q : Int)) = true := by rw [decide_eq_true_eq]; omega
          have q1' : decide (0 < q) = true := by rw [decide_eq_true_eq]; omega
          clear hq0
          cases FQ
          ·skip
           go_wp2_with fail
           refine (isopen_any _ s _ _ HS6.out).mono ?_
           rintro e7 w7 ⟨rfl, hb7⟩
           have HX7 := Lib.hid hb7
           clear hb7
           go_wp2_with fail
           go_meet
           exact ⟨congrArg Value.bool (by rw [← HPD2.out]; simp), ⟨w7, HX7.out⟩, rfl⟩
          ·skip
           go_wp2_with fail
           go_meet
           exact ⟨congrArg Value.bool (by rw [← HPD2.out]; simp [HQ0.out]), ⟨w6, Below.refl _ _⟩, rfl⟩
        case rest =>
         obtain ⟨rfl, X, rfl⟩ := hcut
         generalize hZe : X.w = Z6
         have hZ6 := hZe ▸ X.bel
         clear hZe X
         have HB7 := Lib.hid (Cv.next HB6.out hZ6)
         clear hZ6 a0 a1 a2 i0' i1' fc
         cases PD
         rotate_left
         ·have hr := HR9.out
          rw [if_pos rfl] at hr
          have HR8 := Lib.hid hr
          clear hr
          go_wp2_with fail
          go_ret
          exact ⟨Cv.ret_bool HR8.out, Cv.next HW5.out HB7.out⟩
         ·have hr := HR9.out
          rw [if_neg (by simp)] at hr
          have HR8 := Lib.hid hr
          clear hr
          go_wp2_with fail
          go_roundw
          case rel => exact ⟨q + 1, by go_num, by omega, HB7.out, by
           have e : prevI s.inos (q + 1) = some xn := by unfold prevI; rw [if_neg (by omega), Nat.add_sub_cancel, HY.out]; rfl
           rw [e]
           exact HR8.out⟩
          case measure => simp [intOf]; omega
      ·have : s.inos.drop q = [] := List.drop_eq_nil_of_le (by have := HIr.out.1; omega)
       rw [this, inosG] at hc
       have HC := Lib.hid hc
       clear hc this
       go_wp2_with fail
       go_ret
       exact ⟨Cv.ret_bool HC.out, Cv.next HW5.out HB.out⟩
end Go.Proofs.YthhceopnnappgaaGreatDoor
