/- The law ModelOpens: its walk (printed by wip/gen_opens.py). -/
import Derived.Test.YtndcloohcfhejaaGreatM43
set_option linter.unusedVariables false
set_option linter.unusedSimpArgs false
namespace Go.Proofs.YtndcloohcfhejaaGreat
open Go.RowKit
theorem made_three (w : World) : Calls Tryz.prog 14 #[.int .i64 3] w fun e w' => ∃ v', e = .returned v' ∧ StAt (some w.heap.size) w' v' (madeV 3) ∧ Below w.heap.size w w' := made13_any 3 (.inr rfl) w
set_option maxRecDepth 100000 in
set_option maxHeartbeats 8000000 in
theorem modelOpens_walk (core : Int) (h0 : (Lit.int .i64 core).wf = true) (many : Int) (h1 : (Lit.int .i64 many).wf = true) (gone : Int) (h2 : (Lit.int .i64 gone).wf = true) (w : World) : Calls Tryz.prog 8 #[.int .i64 core, .int .i64 many, .int .i64 gone] w fun e w' => e = .returned (.bool true) ∧ Below w.heap.size w w' := by
 clear h0 h1 h2
 obtain ⟨a, ha, hak⟩ := Cv.and_i64 core 1 (by omega)
 rw [show ((1 : Nat) : Int) = 1 from rfl] at hak
 obtain ⟨k, hk, hkk⟩ := Cv.and_i64 many 7 (by omega)
 rw [show ((7 : Nat) : Int) = 7 from rfl] at hkk
 obtain ⟨g, hg, hgk⟩ := Cv.and_i64 gone 3 (by omega)
 rw [show ((3 : Nat) : Int) = 3 from rfl] at hgk
 have wa : IntKind.i64.wrap (1 + (a : Int)) = 1 + (a : Int) := IntWalk.i64_in _ (by omega)
 have wb : IntKind.i64.wrap (3 - (1 + (a : Int))) = 2 - (a : Int) := by rw [IntWalk.i64_in _ (by omega)]; omega
 have HA := Lib.hid (show a < 2 by omega)
 have HK := Lib.hid (show k < 8 by omega)
 have HG := Lib.hid (show g < 4 by omega)
 clear ha hk hg
 go_enter Tryz.func8, Tryz.ntmps8
 go_wp2_with fail
 refine (awake13 _).mono ?_
 rintro ea V1 ⟨rfl, hb1⟩
 have HB := Lib.hid hb1
 have hw1 := hb1.size
 clear hb1
 go_wp2_with fail
 refine (made_three V1).mono ?_
 rintro eb x0 ⟨v0, rfl, hst, hb1⟩
 obtain ⟨A0, n0, c0, E0, m0, d0, D0, k0, g0, rfl, hI0, -⟩ := hst.at_
 obtain ⟨w0, hV0, hyz0, ho, hb⟩ := box_s x0 (.slice A0 n0 c0) (.slice E0 m0 d0) (.slice D0 k0 g0)
 have HB := Lib.hid (Cv.next HB.out (Cv.next hb1 hb))
 have HS0 := Lib.hid ((hst.lower (Nat.zero_le _)).below hb)
 have hxz0 := hb1.size
 have HO0 := Lib.hid ho
 have HN0 := Lib.hid hI0.1
 clear hst hb1 ho hb hI0
 obtain ⟨i0, i1, i2, _⟩ := HO0.out.get
 go_wp2_with fail
 have hx9 := HO0.out
 go_loopw [10] (fun i wr => ∃ (q : Nat) (A0 : Option Addr) (n0 c0 : Nat) (E0 : Option Addr) (m0 d0 : Nat) (D0 : Option Addr) (k0 g0 : Nat), i = .int .i64 q ∧ q ≤ k ∧ OutAt wr x0.heap.size (.slice A0 n0 c0) (.slice E0 m0 d0) (.slice D0 k0 g0) ∧ StAt (some 0) wr (.agg #[.slice A0 n0 c0, .slice E0 m0 d0, .slice D0 k0 g0]) (opensS (1 + (a : Nat)) q) ∧ Below w.heap.size w wr) (fun i _ => k - (intOf i).toNat)
 case atStart => exact ⟨0, A0, n0, c0, E0, m0, d0, D0, k0, g0, rfl, by omega, HO0.out, HS0.out, HB.out⟩
 case round =>
  clear HO0 HS0 HB HN0 hx9 i0 i1 i2
  obtain ⟨q, A0, n0, c0, E0, m0, d0, D0, k0, g0, rfl, hq, ho, hs, hb⟩ := hrel
  have HO0 := Lib.hid ho
  have HS0 := Lib.hid hs
  have HB := Lib.hid hb
  have hlt0 := (Array.getElem?_eq_some_iff.1 ho).1
  clear ho hs hb
  by_cases hlt : q < k
  ·have g1 : (q : Int) < (k : Int) := by omega
   have hq7 : q < 7 := by have := HK.out; omega
   obtain ⟨i0, i1, i2, _⟩ := HO0.out.get
   go_wp2_with fail
   have hdo := mDo_any (.agg #[.slice A0 n0 c0, .slice E0 m0 d0, .slice D0 k0 g0]) (opensS (1 + (a : Nat)) q) ⟨2, 1 + (a : Nat), 0, 0, 0, ⟨#[47, 103]⟩, ⟨#[]⟩, ⟨#[]⟩⟩ wr HS0.out.weak (by show (2 : Nat) ≤ _; omega) (by show (0 : Nat) ≤ _; omega) (by show (0 : Nat) ≤ _; omega)
   obtain ⟨R1, hR1⟩ : ∃ R, doV (opensS (1 + (a : Nat)) q) ⟨2, 1 + (a : Nat), 0, 0, 0, ⟨#[47, 103]⟩, ⟨#[]⟩, ⟨#[]⟩⟩ = R := ⟨_, rfl⟩
   rw [hR1] at hdo
   have HR1E := Lib.hid hR1
   refine hdo.mono ?_
   clear hdo hR1
   rintro e1 x1 ⟨v1, rv1, rfl, hst, ⟨F1, f1, p1, rfl, hokF, hnF⟩, hb1⟩
   obtain ⟨A1, n1, c1, E1, m1, d1, D1, k1, g1, rfl, hIk, hDk, -⟩ := hst.at_
   obtain ⟨U1, w1, hU1, hV1, hy1, hyz1, ho, hr, hb⟩ := box_sr x1 (.slice A1 n1 c1) (.slice E1 m1 d1) (.slice D1 k1 g1) R1.2.code R1.2.fd R1.2.num R1.2.dir R1.2.data F1 f1 p1
   have hbb : Below wr.heap.size wr w1 := Cv.next hb1 hb
   replace HO0 := Lib.hid (HO0.out.mv hbb)
   replace HS0 := Lib.hid (HS0.out.below hbb)
   replace HB := Lib.hid (Cv.next HB.out hbb)
   clear i0 i1 i2
   have HS1 := Lib.hid ((hst.lower (Nat.zero_le _)).below hb)
   have hxz1 := hb1.size
   have HO1 := Lib.hid ho
   have HR1 := Lib.hid hr
   have hsz1 := hbb.size
   clear hst hb1 ho hr hb hbb hokF hnF hIk hDk
   have HF := Lib.hid (opens_r1 q hq7 a HA.out)
   have hn := HF.out
   rw [HR1E.out] at hn
   have HF2 := Lib.hid hn
   clear hn
   obtain ⟨r0, r1, r2, r3, r4, r5, _⟩ := HR1.out.get
   by_cases h4 : q < 4
   ·obtain ⟨t0, t1, t2, _⟩ := HO1.out.get
    have g4 : (q : Int) < 4 := by omega
    have f0 := HF2.out.1
    rw [if_pos h4] at f0
    have f1 := HF2.out.2 h4
    rw [f0] at r0
    rw [f1] at r1
    clear f0 f1
    obtain ⟨s0, s1, s2, sf⟩ := HO0.out.get
    have sf0 := sf 0
    have sf1 := sf 1
    have sf2 := sf 2
    obtain ⟨y1, hy1, hoy, kC, hbC⟩ := HO0.out.three (.slice A1 n1 c1) (.slice E1 m1 d1) (.slice D1 k1 g1)
    have HS2 := Lib.hid (HS1.out.keep3 (kC _ (by decide)) (kC _ (by decide)) (kC _ (by decide)) (kC _ (by decide)))
    have HO2 := Lib.hid hoy
    have HB2 := Lib.hid (hbC w.heap.size w (by omega) HB.out)
    clear hoy kC hbC sf
    go_wp2_with fail
    go_roundw
    case rel => exact ⟨q + 1, A1, n1, c1, E1, m1, d1, D1, k1, g1, by go_num, by omega, HO2.out, by rw [show opensS (1 + (a : Nat)) (q + 1) = R1.1 by rw [← HR1E.out]; rfl]; exact HS2.out, HB2.out⟩
    case measure => simp [intOf]; omega
   ·obtain ⟨t0, t1, t2, _⟩ := HO1.out.get
    have g4 : decide ((q : Int) < 4) = false := by rw [decide_eq_false_iff_not]; omega
    have g5 : (4 : Int) ≤ (q : Int) := by omega
    have f0 := HF2.out.1
    rw [if_neg h4] at f0
    rw [f0] at r0
    clear f0
    obtain ⟨s0, s1, s2, sf⟩ := HO0.out.get
    have sf0 := sf 0
    have sf1 := sf 1
    have sf2 := sf 2
    obtain ⟨y1, hy1, hoy, kC, hbC⟩ := HO0.out.three (.slice A1 n1 c1) (.slice E1 m1 d1) (.slice D1 k1 g1)
    have HS2 := Lib.hid (HS1.out.keep3 (kC _ (by decide)) (kC _ (by decide)) (kC _ (by decide)) (kC _ (by decide)))
    have HO2 := Lib.hid hoy
    have HB2 := Lib.hid (hbC w.heap.size w (by omega) HB.out)
    clear hoy kC hbC sf
    go_wp2_with fail
    go_roundw
    case rel => exact ⟨q + 1, A1, n1, c1, E1, m1, d1, D1, k1, g1, by go_num, by omega, HO2.out, by rw [show opensS (1 + (a : Nat)) (q + 1) = R1.1 by rw [← HR1E.out]; rfl]; exact HS2.out, HB2.out⟩
    case measure => simp [intOf]; omega
  ·have e9 : q = k := by omega
   subst e9
   have g7 : decide ((q : Int) < (q : Int)) = false := by simp
   obtain ⟨i0, i1, i2, _⟩ := HO0.out.get
   go_wp2_with fail
   have hdo := mDo_any (.agg #[.slice A0 n0 c0, .slice E0 m0 d0, .slice D0 k0 g0]) (opensS (1 + (a : Nat)) q) ⟨3, 1 + (a : Nat), (g : Nat), 0, 0, ⟨#[]⟩, ⟨#[]⟩, ⟨#[]⟩⟩ wr HS0.out.weak (by show (0 : Nat) ≤ _; omega) (by show (0 : Nat) ≤ _; omega) (by show (0 : Nat) ≤ _; omega)
   obtain ⟨R1, hR1⟩ : ∃ R, doV (opensS (1 + (a : Nat)) q) ⟨3, 1 + (a : Nat), (g : Nat), 0, 0, ⟨#[]⟩, ⟨#[]⟩, ⟨#[]⟩⟩ = R := ⟨_, rfl⟩
   rw [hR1] at hdo
   have HR1E := Lib.hid hR1
   refine hdo.mono ?_
   clear hdo hR1
   rintro e1 x1 ⟨v1, rv1, rfl, hst, ⟨F1, f1, p1, rfl, hokF, hnF⟩, hb1⟩
   obtain ⟨A1, n1, c1, E1, m1, d1, D1, k1, g1, rfl, hIk, hDk, -⟩ := hst.at_
   obtain ⟨U1, w1, hU1, hV1, hy1, hyz1, ho, hr, hb⟩ := box_sr x1 (.slice A1 n1 c1) (.slice E1 m1 d1) (.slice D1 k1 g1) R1.2.code R1.2.fd R1.2.num R1.2.dir R1.2.data F1 f1 p1
   have hbb : Below wr.heap.size wr w1 := Cv.next hb1 hb
   replace HO0 := Lib.hid (HO0.out.mv hbb)
   replace HS0 := Lib.hid (HS0.out.below hbb)
   replace HB := Lib.hid (Cv.next HB.out hbb)
   clear i0 i1 i2
   have HS1 := Lib.hid ((hst.lower (Nat.zero_le _)).below hb)
   have hxz1 := hb1.size
   have HO1 := Lib.hid ho
   have HR1 := Lib.hid hr
   have hsz1 := hbb.size
   clear hst hb1 ho hr hb hbb hokF hnF hIk hDk
   obtain ⟨ft1, ft2, ft3⟩ := opens_t a HA.out q HK.out g HG.out
   have FT2 := Lib.hid ft2
   have FT3 := Lib.hid ft3
   rw [HR1E.out] at ft1
   obtain ⟨fs1, fs2⟩ := opens_s a HA.out q HK.out
   have FS1 := Lib.hid fs1
   have FS2 := Lib.hid fs2
   clear ft2 ft3 fs1 fs2
   have hT : opensT a q g = R1.1 := by rw [← HR1E.out]; rfl
   have HS1 : Hid (StAt (some 0) w1 (.agg #[.slice A1 n1 c1, .slice E1 m1 d1, .slice D1 k1 g1]) (opensT a q g)) := Lib.hid (by rw [hT]; exact HS1.out)
   clear hT
   obtain ⟨CO, hCO⟩ : ∃ CO, R1.2.code = CO := ⟨_, rfl⟩
   have HCO := Lib.hid hCO
   obtain ⟨r0, r1, r2, r3, r4, r5, _⟩ := HR1.out.get
   rw [hCO] at r0 ft1
   clear hCO
   obtain ⟨t0, t1, t2, _⟩ := HO1.out.get
   by_cases hgq : g < q
   ·have gi : (g : Int) < (q : Int) := by omega
    have gd : decide (g < q) = true := decide_eq_true hgq
    rw [gd] at ft1
    go_wp2_with fail
    have h := code13_any (.agg #[.slice A1 n1 c1, .slice E1 m1 d1, .slice D1 k1 g1]) (opensT a q g) ⟨7, 1 + (a : Nat), (g : Nat), 0, 0, ⟨#[]⟩, ⟨#[]⟩, ⟨#[]⟩⟩ w1 HS1.out.weak (by show (0 : Nat) ≤ _; omega) (by show (0 : Nat) ≤ _; omega) (by show (0 : Nat) ≤ _; omega)
    rw [FT2.out] at h
    refine h.mono ?_
    clear h
    rintro e2 y2 ⟨rfl, hb⟩
    replace HO0 := Lib.hid (HO0.out.mv hb)
    replace HO1 := Lib.hid (HO1.out.mv hb)
    replace HR1 := Lib.hid (HR1.out.mv hb)
    replace HS0 := Lib.hid (HS0.out.below hb)
    replace HS1 := Lib.hid (HS1.out.below hb)
    replace HB := Lib.hid (Cv.next HB.out hb)
    clear r0 r1 r2 r3 r4 r5 t0 t1 t2
    clear hb
    obtain ⟨i0, i1, i2, _⟩ := HO0.out.get
    go_wp2_with fail
    have h := code13_any (.agg #[.slice A0 n0 c0, .slice E0 m0 d0, .slice D0 k0 g0]) (opensS (1 + (a : Nat)) q) ⟨2, 1 + (a : Nat), 0, 0, 0, ⟨#[47, 100]⟩, ⟨#[]⟩, ⟨#[]⟩⟩ y2 HS0.out.weak (by show (2 : Nat) ≤ _; omega) (by show (0 : Nat) ≤ _; omega) (by show (0 : Nat) ≤ _; omega)
    rw [FS1.out] at h
    refine h.mono ?_
    clear h
    rintro e3 y3 ⟨rfl, hb⟩
    replace HO0 := Lib.hid (HO0.out.mv hb)
    replace HO1 := Lib.hid (HO1.out.mv hb)
    replace HR1 := Lib.hid (HR1.out.mv hb)
    replace HS0 := Lib.hid (HS0.out.below hb)
    replace HS1 := Lib.hid (HS1.out.below hb)
    replace HB := Lib.hid (Cv.next HB.out hb)
    clear i0 i1 i2
    clear hb
    obtain ⟨i0, i1, i2, _⟩ := HO0.out.get
    go_wp2_with fail
    have h := code13_any (.agg #[.slice A0 n0 c0, .slice E0 m0 d0, .slice D0 k0 g0]) (opensS (1 + (a : Nat)) q) ⟨7, 2 - (a : Nat), 0, 0, 0, ⟨#[]⟩, ⟨#[]⟩, ⟨#[]⟩⟩ y3 HS0.out.weak (by show (0 : Nat) ≤ _; omega) (by show (0 : Nat) ≤ _; omega) (by show (0 : Nat) ≤ _; omega)
    rw [FS2.out] at h
    refine h.mono ?_
    clear h
    rintro e4 y4 ⟨rfl, hb⟩
    replace HO0 := Lib.hid (HO0.out.mv hb)
    replace HO1 := Lib.hid (HO1.out.mv hb)
    replace HR1 := Lib.hid (HR1.out.mv hb)
    replace HS0 := Lib.hid (HS0.out.below hb)
    replace HS1 := Lib.hid (HS1.out.below hb)
    replace HB := Lib.hid (Cv.next HB.out hb)
    clear i0 i1 i2
    clear hb
    obtain ⟨t0, t1, t2, _⟩ := HO1.out.get
    go_wp2_with fail
    have h := code13_any (.agg #[.slice A1 n1 c1, .slice E1 m1 d1, .slice D1 k1 g1]) (opensT a q g) ⟨7, 0, 0, 0, 0, ⟨#[]⟩, ⟨#[]⟩, ⟨#[]⟩⟩ y4 HS1.out.weak (by show (0 : Nat) ≤ _; omega) (by show (0 : Nat) ≤ _; omega) (by show (0 : Nat) ≤ _; omega)
    rw [FT3.out] at h
    refine h.mono ?_
    clear h
    rintro e5 y5 ⟨rfl, hb⟩
    replace HO0 := Lib.hid (HO0.out.mv hb)
    replace HO1 := Lib.hid (HO1.out.mv hb)
    replace HR1 := Lib.hid (HR1.out.mv hb)
    replace HS0 := Lib.hid (HS0.out.below hb)
    replace HS1 := Lib.hid (HS1.out.below hb)
    replace HB := Lib.hid (Cv.next HB.out hb)
    clear t0 t1 t2
    clear hb
    go_wp2_with fail
    go_ret
    exact ⟨rfl, HB.out⟩
   ·have gi : decide ((g : Int) < (q : Int)) = false := by rw [decide_eq_false_iff_not]; omega
    have gn : q ≤ g := by omega
    have gd : decide (g < q) = false := decide_eq_false hgq
    rw [gd] at ft1
    go_wp2_with fail
    have h := code13_any (.agg #[.slice A1 n1 c1, .slice E1 m1 d1, .slice D1 k1 g1]) (opensT a q g) ⟨7, 1 + (a : Nat), (g : Nat), 0, 0, ⟨#[]⟩, ⟨#[]⟩, ⟨#[]⟩⟩ w1 HS1.out.weak (by show (0 : Nat) ≤ _; omega) (by show (0 : Nat) ≤ _; omega) (by show (0 : Nat) ≤ _; omega)
    rw [FT2.out] at h
    refine h.mono ?_
    clear h
    rintro e2 y2 ⟨rfl, hb⟩
    replace HO0 := Lib.hid (HO0.out.mv hb)
    replace HO1 := Lib.hid (HO1.out.mv hb)
    replace HR1 := Lib.hid (HR1.out.mv hb)
    replace HS0 := Lib.hid (HS0.out.below hb)
    replace HS1 := Lib.hid (HS1.out.below hb)
    replace HB := Lib.hid (Cv.next HB.out hb)
    clear r0 r1 r2 r3 r4 r5 t0 t1 t2
    clear hb
    obtain ⟨i0, i1, i2, _⟩ := HO0.out.get
    go_wp2_with fail
    have h := code13_any (.agg #[.slice A0 n0 c0, .slice E0 m0 d0, .slice D0 k0 g0]) (opensS (1 + (a : Nat)) q) ⟨2, 1 + (a : Nat), 0, 0, 0, ⟨#[47, 100]⟩, ⟨#[]⟩, ⟨#[]⟩⟩ y2 HS0.out.weak (by show (2 : Nat) ≤ _; omega) (by show (0 : Nat) ≤ _; omega) (by show (0 : Nat) ≤ _; omega)
    rw [FS1.out] at h
    refine h.mono ?_
    clear h
    rintro e3 y3 ⟨rfl, hb⟩
    replace HO0 := Lib.hid (HO0.out.mv hb)
    replace HO1 := Lib.hid (HO1.out.mv hb)
    replace HR1 := Lib.hid (HR1.out.mv hb)
    replace HS0 := Lib.hid (HS0.out.below hb)
    replace HS1 := Lib.hid (HS1.out.below hb)
    replace HB := Lib.hid (Cv.next HB.out hb)
    clear i0 i1 i2
    clear hb
    obtain ⟨i0, i1, i2, _⟩ := HO0.out.get
    go_wp2_with fail
    have h := code13_any (.agg #[.slice A0 n0 c0, .slice E0 m0 d0, .slice D0 k0 g0]) (opensS (1 + (a : Nat)) q) ⟨7, 2 - (a : Nat), 0, 0, 0, ⟨#[]⟩, ⟨#[]⟩, ⟨#[]⟩⟩ y3 HS0.out.weak (by show (0 : Nat) ≤ _; omega) (by show (0 : Nat) ≤ _; omega) (by show (0 : Nat) ≤ _; omega)
    rw [FS2.out] at h
    refine h.mono ?_
    clear h
    rintro e4 y4 ⟨rfl, hb⟩
    replace HO0 := Lib.hid (HO0.out.mv hb)
    replace HO1 := Lib.hid (HO1.out.mv hb)
    replace HR1 := Lib.hid (HR1.out.mv hb)
    replace HS0 := Lib.hid (HS0.out.below hb)
    replace HS1 := Lib.hid (HS1.out.below hb)
    replace HB := Lib.hid (Cv.next HB.out hb)
    clear i0 i1 i2
    clear hb
    obtain ⟨t0, t1, t2, _⟩ := HO1.out.get
    go_wp2_with fail
    have h := code13_any (.agg #[.slice A1 n1 c1, .slice E1 m1 d1, .slice D1 k1 g1]) (opensT a q g) ⟨7, 0, 0, 0, 0, ⟨#[]⟩, ⟨#[]⟩, ⟨#[]⟩⟩ y4 HS1.out.weak (by show (0 : Nat) ≤ _; omega) (by show (0 : Nat) ≤ _; omega) (by show (0 : Nat) ≤ _; omega)
    rw [FT3.out] at h
    refine h.mono ?_
    clear h
    rintro e5 y5 ⟨rfl, hb⟩
    replace HO0 := Lib.hid (HO0.out.mv hb)
    replace HO1 := Lib.hid (HO1.out.mv hb)
    replace HR1 := Lib.hid (HR1.out.mv hb)
    replace HS0 := Lib.hid (HS0.out.below hb)
    replace HS1 := Lib.hid (HS1.out.below hb)
    replace HB := Lib.hid (Cv.next HB.out hb)
    clear t0 t1 t2
    clear hb
    go_wp2_with fail
    go_ret
    exact ⟨rfl, HB.out⟩
end Go.Proofs.YtndcloohcfhejaaGreat
