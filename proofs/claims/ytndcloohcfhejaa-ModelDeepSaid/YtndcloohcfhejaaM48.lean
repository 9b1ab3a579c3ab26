/- Parts of the proof, side by side: Awake13, MadeP, Code13. -/
import Derived.Test.YtndcloohcfhejaaM42
import Derived.Test.YtndcloohcfhejaaM47
import Derived.Test.YtndcloohcfhejaaM03
import Derived.Test.YtndcloohcfhejaaM40
import Derived.Test.YtndcloohcfhejaaM04
import Derived.Test.YtndcloohcfhejaaM11
import Derived.Test.YtndcloohcfhejaaM05
import Derived.Test.YtndcloohcfhejaaM41
import Derived.Test.YtndcloohcfhejaaM26
set_option linter.unusedVariables false
set_option linter.unusedSimpArgs false
namespace Go.Proofs.Ytndcloohcfhejaa
open Go.RowKit
def stP : St := ⟨[⟨1, true, [⟨⟨#[97]⟩, 2⟩], ⟨#[]⟩⟩, ⟨2, false, [], ⟨#[]⟩⟩], [⟨0, 3, 2⟩], [1, 0]⟩
theorem a13_5 : allowsV stT cP ⟨0, 3, 0, false, ⟨#[]⟩, []⟩ = (stP, true) := by decide +kernel
set_option maxRecDepth 100000 in
set_option maxHeartbeats 8000000 in
theorem awake13 (w : World) : Calls Try.prog 4 #[] w fun e w' => e = .returned (.bool true) ∧ Below w.heap.size w w' := by
 go_enter Try.func4, Try.ntmps4
 go_wp2_with fail
 refine (mnew_any 2 (by omega) (by omega) w).mono ?_
 rintro e x0 ⟨v1, rfl, hst1, hb1⟩
 obtain ⟨A0, n0, c0, E0, m0, d0, D0, k0, e0, rfl, _⟩ := hst1.at_
 obtain ⟨w0, hV, hz, ho, hb⟩ := box_s x0 (.slice A0 n0 c0) (.slice E0 m0 d0) (.slice D0 k0 e0)
 have HB := Lib.hid (Cv.next hb1 hb)
 have HS0 := Lib.hid (hst1.weak.below hb)
 have HO0 := Lib.hid ho
 obtain ⟨i0, i1, i2, _⟩ := ho.get
 clear hst1 hb1 ho hb
 go_wp2_with fail
 refine (doC _ (newV 2) cA w0 HS0.out _ _ _ _ _ _ _ a13_1 (by decide) (by decide) (by decide)).mono ?_
 rintro e1 x1 ⟨A1, n1, c1, E1, m1, d1, D1, k1, g1, F1, f1, p1, rfl, hst, -, -, -, -, hb1⟩
 obtain ⟨V1, w1, hV1, hV, hz1, hz, ho, hr, hb⟩ := box_sr x1 (.slice A1 n1 c1) (.slice E1 m1 d1) (.slice D1 k1 g1) 0 0 0 false ⟨#[]⟩ F1 f1 p1
 have hbb : Below w0.heap.size w0 w1 := Cv.next hb1 hb
 have HO0 := Lib.hid (HO0.out.mv hbb)
 have HS0 := Lib.hid (HS0.out.below hbb)
 have HB := Lib.hid (Cv.next HB.out hbb)
 have HS1 := Lib.hid (hst.below hb)
 have HO1 := Lib.hid ho
 have HR1 := Lib.hid hr
 have hsz1 := hbb.size
 clear hst hb1 ho hr hb hbb
 obtain ⟨ta0, ta1, ta2, _⟩ := HO1.out.get
 go_wp2_with fail
 refine (doC _ stT cO w1 HS1.out _ _ _ _ _ _ _ a13_2 (by decide) (by decide) (by decide)).mono ?_
 rintro e2 x2 ⟨A2, n2, c2, E2, m2, d2, D2, k2, g2, F2, f2, p2, rfl, hst, -, -, -, -, hb1⟩
 obtain ⟨V1, w2, hV1, hV, hz1, hz, ho, hr, hb⟩ := box_sr x2 (.slice A2 n2 c2) (.slice E2 m2 d2) (.slice D2 k2 g2) 0 0 0 false ⟨#[]⟩ F2 f2 p2
 have hbb : Below w1.heap.size w1 w2 := Cv.next hb1 hb
 have HO0 := Lib.hid (HO0.out.mv hbb)
 have HO1 := Lib.hid (HO1.out.mv hbb)
 have HR1 := Lib.hid (HR1.out.mv hbb)
 have HS0 := Lib.hid (HS0.out.below hbb)
 have HS1 := Lib.hid (HS1.out.below hbb)
 have HB := Lib.hid (Cv.next HB.out hbb)
 have HS2 := Lib.hid (hst.below hb)
 have HO2 := Lib.hid ho
 have HR2 := Lib.hid hr
 have hsz2 := hbb.size
 clear hst hb1 ho hr hb hbb
 obtain ⟨ub0, ub1, ub2, _⟩ := HO2.out.get
 obtain ⟨uc0, uc1, uc2, uc3, uc4, uc5, _⟩ := HR2.out.get
 go_wp2_with fail
 refine (doC _ stU cW w2 HS2.out _ _ _ _ _ _ _ a13_3 (by decide) (by decide) (by decide)).mono ?_
 rintro e3 x3 ⟨A3, n3, c3, E3, m3, d3, D3, k3, g3, F3, f3, p3, rfl, hst, -, -, -, -, hb1⟩
 obtain ⟨V1, w3, hV1, hV, hz1, hz, ho, hr, hb⟩ := box_sr x3 (.slice A3 n3 c3) (.slice E3 m3 d3) (.slice D3 k3 g3) 0 0 2 false ⟨#[]⟩ F3 f3 p3
 have hbb : Below w2.heap.size w2 w3 := Cv.next hb1 hb
 have HO0 := Lib.hid (HO0.out.mv hbb)
 have HO1 := Lib.hid (HO1.out.mv hbb)
 have HR1 := Lib.hid (HR1.out.mv hbb)
 have HO2 := Lib.hid (HO2.out.mv hbb)
 have HR2 := Lib.hid (HR2.out.mv hbb)
 have HS0 := Lib.hid (HS0.out.below hbb)
 have HS1 := Lib.hid (HS1.out.below hbb)
 have HS2 := Lib.hid (HS2.out.below hbb)
 have HB := Lib.hid (Cv.next HB.out hbb)
 have HS3 := Lib.hid (hst.below hb)
 have HO3 := Lib.hid ho
 have HR3 := Lib.hid hr
 have hsz3 := hbb.size
 clear hst hb1 ho hr hb hbb
 obtain ⟨tb0, tb1, tb2, _⟩ := HO1.out.get
 go_wp2_with fail
 refine (doC _ stT cA w3 HS1.out _ _ _ _ _ _ _ a13_4 (by decide) (by decide) (by decide)).mono ?_
 rintro e4 x4 ⟨A4, n4, c4, E4, m4, d4, D4, k4, g4, F4, f4, p4, rfl, hst, -, -, -, -, hb1⟩
 obtain ⟨V1, w4, hV1, hV, hz1, hz, ho, hr, hb⟩ := box_sr x4 (.slice A4 n4 c4) (.slice E4 m4 d4) (.slice D4 k4 g4) 2 0 0 false ⟨#[]⟩ F4 f4 p4
 have hbb : Below w3.heap.size w3 w4 := Cv.next hb1 hb
 have HO0 := Lib.hid (HO0.out.mv hbb)
 have HO1 := Lib.hid (HO1.out.mv hbb)
 have HR1 := Lib.hid (HR1.out.mv hbb)
 have HO2 := Lib.hid (HO2.out.mv hbb)
 have HR2 := Lib.hid (HR2.out.mv hbb)
 have HO3 := Lib.hid (HO3.out.mv hbb)
 have HR3 := Lib.hid (HR3.out.mv hbb)
 have HS0 := Lib.hid (HS0.out.below hbb)
 have HS1 := Lib.hid (HS1.out.below hbb)
 have HS2 := Lib.hid (HS2.out.below hbb)
 have HS3 := Lib.hid (HS3.out.below hbb)
 have HB := Lib.hid (Cv.next HB.out hbb)
 have HS4 := Lib.hid (hst.below hb)
 have HO4 := Lib.hid ho
 have HR4 := Lib.hid hr
 have hsz4 := hbb.size
 clear hst hb1 ho hr hb hbb
 obtain ⟨tc0, tc1, tc2, _⟩ := HO1.out.get
 go_wp2_with fail
 have hal := mallows_any (.agg #[.slice A1 n1 c1, .slice E1 m1 d1, .slice D1 k1 g1]) _ stT cP ⟨0, 3, 0, false, ⟨#[]⟩, []⟩ w4 HS1.out (res_none none w4 0 3 0 false ⟨#[]⟩) (by decide) (by decide) (by decide) (by decide)
 rw [a13_5] at hal
 refine hal.mono ?_
 clear hal
 rintro e5 x5 ⟨v5, rfl, hst5, hb1⟩
 obtain ⟨A5, n5, c5, E5, m5, d5, D5, k5, g5, rfl, _, hD5, _⟩ := hst5.at_
 have hm5 : (1 : Nat) = m5 := hD5.1
 subst hm5
 obtain ⟨w5, hV, hz, ho, hb⟩ := box_s x5 (.slice A5 n5 c5) (.slice E5 1 d5) (.slice D5 k5 g5)
 have hbb : Below w4.heap.size w4 w5 := Cv.next (hb1) hb
 have HO0 := Lib.hid (HO0.out.mv hbb)
 have HO1 := Lib.hid (HO1.out.mv hbb)
 have HR1 := Lib.hid (HR1.out.mv hbb)
 have HO2 := Lib.hid (HO2.out.mv hbb)
 have HR2 := Lib.hid (HR2.out.mv hbb)
 have HO3 := Lib.hid (HO3.out.mv hbb)
 have HR3 := Lib.hid (HR3.out.mv hbb)
 have HO4 := Lib.hid (HO4.out.mv hbb)
 have HR4 := Lib.hid (HR4.out.mv hbb)
 have HS0 := Lib.hid (HS0.out.below hbb)
 have HS1 := Lib.hid (HS1.out.below hbb)
 have HS2 := Lib.hid (HS2.out.below hbb)
 have HS3 := Lib.hid (HS3.out.below hbb)
 have HS4 := Lib.hid (HS4.out.below hbb)
 have HB := Lib.hid (Cv.next HB.out hbb)
 have HO5 := Lib.hid ho
 clear hst5 hb1 ho hb hbb hD5
 obtain ⟨td0, td1, td2, _⟩ := HO1.out.get
 go_wp2_with fail
 have hfi := mFind_any (.agg #[.slice A1 n1 c1, .slice E1 m1 d1, .slice D1 k1 g1]) stT pA w5 HS1.out (by decide)
 rw [a13_6] at hfi
 refine hfi.mono ?_
 clear hfi
 rintro e6 w6 ⟨rfl, hb1⟩
 have HO0 := Lib.hid (HO0.out.mv hb1)
 have HO1 := Lib.hid (HO1.out.mv hb1)
 have HR1 := Lib.hid (HR1.out.mv hb1)
 have HO2 := Lib.hid (HO2.out.mv hb1)
 have HR2 := Lib.hid (HR2.out.mv hb1)
 have HO3 := Lib.hid (HO3.out.mv hb1)
 have HR3 := Lib.hid (HR3.out.mv hb1)
 have HO4 := Lib.hid (HO4.out.mv hb1)
 have HR4 := Lib.hid (HR4.out.mv hb1)
 have HO5 := Lib.hid (HO5.out.mv hb1)
 have HS0 := Lib.hid (HS0.out.below hb1)
 have HS1 := Lib.hid (HS1.out.below hb1)
 have HS2 := Lib.hid (HS2.out.below hb1)
 have HS3 := Lib.hid (HS3.out.below hb1)
 have HS4 := Lib.hid (HS4.out.below hb1)
 have HB := Lib.hid (Cv.next HB.out hb1)
 clear hb1
 go_wp2_with fail
 refine (mnew_bad 0 (by omega) w6).mono ?_
 rintro e7 x7 ⟨rfl, hb1⟩
 go_wp2_with fail
 obtain ⟨w7, hV, hz, ho, hb⟩ := box_s x7 (.slice none 0 0) (.slice none 0 0) (.slice none 0 0)
 have hbb : Below w6.heap.size w6 w7 := Cv.next hb1 hb
 have HO0 := Lib.hid (HO0.out.mv hbb)
 have HO1 := Lib.hid (HO1.out.mv hbb)
 have HR1 := Lib.hid (HR1.out.mv hbb)
 have HO2 := Lib.hid (HO2.out.mv hbb)
 have HR2 := Lib.hid (HR2.out.mv hbb)
 have HO3 := Lib.hid (HO3.out.mv hbb)
 have HR3 := Lib.hid (HR3.out.mv hbb)
 have HO4 := Lib.hid (HO4.out.mv hbb)
 have HR4 := Lib.hid (HR4.out.mv hbb)
 have HO5 := Lib.hid (HO5.out.mv hbb)
 have HS0 := Lib.hid (HS0.out.below hbb)
 have HS1 := Lib.hid (HS1.out.below hbb)
 have HS2 := Lib.hid (HS2.out.below hbb)
 have HS3 := Lib.hid (HS3.out.below hbb)
 have HS4 := Lib.hid (HS4.out.below hbb)
 have HB := Lib.hid (Cv.next HB.out hbb)
 clear hb1 ho hb hbb
 obtain ⟨te0, te1, te2, _⟩ := HO1.out.get
 obtain ⟨ra0, ra1, ra2, ra3, ra4, ra5, _⟩ := HR1.out.get
 obtain ⟨rb0, rb1, rb2, rb3, rb4, rb5, _⟩ := HR2.out.get
 obtain ⟨rc0, rc1, rc2, rc3, rc4, rc5, _⟩ := HR3.out.get
 obtain ⟨rd0, rd1, rd2, rd3, rd4, rd5, _⟩ := HR4.out.get
 obtain ⟨va0, va1, va2, _⟩ := HO5.out.get
 rw [hV]
 refine (numC 0 w7).mono ?_
 rintro e8 w8 ⟨rfl, rfl⟩
 go_wp2_with fail
 have hli := mlinks_any (.agg #[.slice A1 n1 c1, .slice E1 m1 d1, .slice D1 k1 g1]) stT 2 w7 HS1.out
 rw [a13_8] at hli
 refine hli.mono ?_
 clear hli
 rintro e9 w9 ⟨rfl, hb1⟩
 have HO0 := Lib.hid (HO0.out.mv hb1)
 have HO1 := Lib.hid (HO1.out.mv hb1)
 have HR1 := Lib.hid (HR1.out.mv hb1)
 have HO2 := Lib.hid (HO2.out.mv hb1)
 have HR2 := Lib.hid (HR2.out.mv hb1)
 have HO3 := Lib.hid (HO3.out.mv hb1)
 have HR3 := Lib.hid (HR3.out.mv hb1)
 have HO4 := Lib.hid (HO4.out.mv hb1)
 have HR4 := Lib.hid (HR4.out.mv hb1)
 have HO5 := Lib.hid (HO5.out.mv hb1)
 have HS0 := Lib.hid (HS0.out.below hb1)
 have HS1 := Lib.hid (HS1.out.below hb1)
 have HS2 := Lib.hid (HS2.out.below hb1)
 have HS3 := Lib.hid (HS3.out.below hb1)
 have HS4 := Lib.hid (HS4.out.below hb1)
 have HB := Lib.hid (Cv.next HB.out hb1)
 clear hb1
 obtain ⟨tf0, tf1, tf2, _⟩ := HO1.out.get
 go_wp2_with fail
 refine (numC 1300 w9).mono ?_
 rintro e10 w10 ⟨rfl, rfl⟩
 go_wp2_with fail
 have hma := mmay_any (.agg #[.slice A1 n1 c1, .slice E1 m1 d1, .slice D1 k1 g1]) stT w9 HS1.out
 rw [a13_7] at hma
 refine hma.mono ?_
 clear hma
 rintro e11 w11 ⟨rfl, hb1⟩
 have HB := Lib.hid (Cv.next HB.out hb1)
 clear hb1
 go_wp2_with fail
 go_ret
 exact ⟨rfl, HB.out⟩
end Go.Proofs.Ytndcloohcfhejaa
namespace Go.Proofs.Ytndcloohcfhejaa
def madeV (n : Nat) : St := ⟨[⟨1, true, [⟨⟨#[100]⟩, 2⟩, ⟨⟨#[101]⟩, 10⟩, ⟨⟨#[102]⟩, 18⟩, ⟨⟨#[103]⟩, 18⟩], ⟨#[]⟩⟩, ⟨2, true, [⟨⟨#[104]⟩, 26⟩], ⟨#[]⟩⟩, ⟨10, true, [], ⟨#[]⟩⟩, ⟨18, false, [], ⟨#[48, 49, 50, 51, 52, 53, 54, 55, 56, 57]⟩⟩, ⟨26, false, [], ⟨#[]⟩⟩], [⟨0, 0, 18⟩], 4 :: List.replicate (n - 1) 0⟩
def opensS (c : Int) : Nat → St
 | 0 => madeV 3
 | i + 1 => (doV (opensS c i) ⟨2, c, 0, 0, 0, ⟨#[47, 103]⟩, ⟨#[]⟩, ⟨#[]⟩⟩).1
def deepP (i : Nat) : ByteArray := match i with
 | 0 => ⟨#[]⟩
 | 1 => ⟨#[47, 97]⟩
 | 2 => ⟨#[47, 97, 47, 98]⟩
 | 3 => ⟨#[47, 97, 47, 98, 47, 99]⟩
 | _ => ⟨#[47, 97, 47, 98, 47, 99, 47, 100]⟩
def deepQ (i : Nat) : ByteArray := match i with
 | 1 => ⟨#[47, 122]⟩
 | 2 => ⟨#[47, 122, 47, 98]⟩
 | 3 => ⟨#[47, 122, 47, 98, 47, 99]⟩
 | _ => ⟨#[47, 122, 47, 98, 47, 99, 47, 100]⟩
def deepK (k i : Nat) (file : Bool) : Int := if file && decide (i + 1 = k) then 0 else 1
def deepS (k : Nat) (file : Bool) : Nat → St
 | 0 => newV 1
 | i + 1 => (doV (deepS k file i) ⟨deepK k i file, 0, 0, 0, 0, deepP (i + 1), ⟨#[]⟩, ⟨#[]⟩⟩).1
theorem deep_round : ∀ k < 5, ∀ f, ∀ i < k, (doV (deepS k f i) ⟨deepK k i f, 0, 0, 0, 0, deepP (i + 1), ⟨#[]⟩, ⟨#[]⟩⟩).2.code = 0 ∧ (doV (deepS k f i) ⟨13, 0, 0, 0, 0, deepP (i + 1), ⟨#[]⟩, ⟨#[]⟩⟩).2.code = 1 := by decide +kernel
def deepT (k : Nat) (f : Bool) : St := (doV (deepS k f k) ⟨11, 0, 0, 0, 0, ⟨#[47, 97]⟩, ⟨#[47, 122]⟩, ⟨#[]⟩⟩).1
def deepW (k : Nat) (f : Bool) : Int := if k = 4 then 6 else if f then 7 else 0
theorem deep_end : ∀ k < 5, 0 < k → ∀ f, (doV (deepS k f k) ⟨11, 0, 0, 0, 0, ⟨#[47, 97]⟩, ⟨#[47, 122]⟩, ⟨#[]⟩⟩).2.code = 0 ∧ (doV (deepS k f k) ⟨0, 0, 0, 0, 0, ⟨(deepP k).data ++ #[47, 110]⟩, ⟨#[]⟩, ⟨#[]⟩⟩).2.code = deepW k f ∧
  (doV (deepT k f) ⟨13, 0, 0, 0, 0, deepQ k, ⟨#[]⟩, ⟨#[]⟩⟩).2.code = 0 ∧ (doV (deepT k f) ⟨13, 0, 0, 0, 0, deepP k, ⟨#[]⟩, ⟨#[]⟩⟩).2.code = 1 := by decide +kernel
end Go.Proofs.Ytndcloohcfhejaa
namespace Go.Proofs.Ytndcloohcfhejaa
open Go.RowKit
theorem boxR (w : World) (cs : Array Value) (t : TypeId) : ∃ W, w.alloc (.cells cs t) = W ∧ W.heap[w.heap.size]? = some (.cells cs t (0, 0)) ∧ Below w.heap.size w W ∧ W.heap.size = w.heap.size + 1 :=
 ⟨_, rfl, heap_alloc_new w _, (Below.refl _ _).alloc (Nat.le_refl _) _, by simp⟩
theorem box_ca2 (w : World) (c : Ca) : ∃ W, w.alloc (.cells #[.int .i64 c.kind, .int .i64 c.core, .int .i64 c.fd, .int .i64 c.off, .int .i64 c.num, .string c.path, .string c.path2, .string c.data] 32) = W ∧ Below w.heap.size w W ∧ W.heap.size = w.heap.size + 1 ∧
  W.cell? ⟨w.heap.size, 0, none⟩ = some (.int .i64 c.kind) ∧ W.cell? ⟨w.heap.size, 1, none⟩ = some (.int .i64 c.core) ∧ W.cell? ⟨w.heap.size, 2, none⟩ = some (.int .i64 c.fd) ∧ W.cell? ⟨w.heap.size, 3, none⟩ = some (.int .i64 c.off) ∧ W.cell? ⟨w.heap.size, 4, none⟩ = some (.int .i64 c.num) ∧ W.cell? ⟨w.heap.size, 5, none⟩ = some (.string c.path) ∧ W.cell? ⟨w.heap.size, 6, none⟩ = some (.string c.path2) ∧ W.cell? ⟨w.heap.size, 7, none⟩ = some (.string c.data) := by
 obtain ⟨W, hW, hc, hb, hz⟩ := box_ca w c
 exact ⟨W, hW, hb, hz, by rw [cell_of_row W _ _ _ _ (0, 0) hc]; rfl, by rw [cell_of_row W _ _ _ _ (0, 0) hc]; rfl, by rw [cell_of_row W _ _ _ _ (0, 0) hc]; rfl, by rw [cell_of_row W _ _ _ _ (0, 0) hc]; rfl, by rw [cell_of_row W _ _ _ _ (0, 0) hc]; rfl, by rw [cell_of_row W _ _ _ _ (0, 0) hc]; rfl, by rw [cell_of_row W _ _ _ _ (0, 0) hc]; rfl, by rw [cell_of_row W _ _ _ _ (0, 0) hc]; rfl⟩
set_option maxRecDepth 100000 in
set_option maxHeartbeats 4000000 in
theorem code13_any (v : Value) (s : St) (c : Ca) (w : World) (h : StAt none w v s) (hp1 : c.path.size ≤ 140737488355328) (hp2 : c.path2.size ≤ 140737488355328) (hds : c.data.size ≤ 140737488355328) :
  Calls Try.prog 7 #[v, caV c] w fun e w' => e = .returned (.int .i64 (doV s c).2.code) ∧ Below w.heap.size w w' := by
 obtain ⟨A, n, c', E, m, d, D, k, e, rfl, _⟩ := h.at_
 obtain ⟨V1, hV1, hz1, ho1, hb1⟩ := box_s w (.slice A n c') (.slice E m d) (.slice D k e)
 obtain ⟨V2, hV2, hb2, hz2, k0, k1, k2, k3, k4, k5, k6, k7⟩ := box_ca2 V1 c
 rw [hz1] at k0 k1 k2 k3 k4 k5 k6 k7
 obtain ⟨o0, o1, o2, _⟩ := (ho1.mv hb2).get
 have hdo := mDo_any (.agg #[.slice A n c', .slice E m d, .slice D k e]) s c V2 ((h.below hb1).below hb2) hp1 hp2 hds
 obtain ⟨R, hR⟩ : ∃ R, doV s c = R := ⟨_, rfl⟩
 rw [hR] at hdo ⊢
 have HDO := Lib.hid hdo
 have HB := Lib.hid (Cv.next hb1 hb2)
 unfold caV
 clear h hb1 hb2 ho1 hdo hR hp1 hp2 hds
 go_enter Try.func7, Try.ntmps7
 go_wp2_with fail
 refine HDO.out.mono ?_
 rintro e4 x4 ⟨v', rv, rfl, hst4, ⟨F, f, f', rfl, hokF, hnF⟩, hb4⟩
 obtain ⟨A4, n4, c4, E4, m4, d4, D4, kk4, g4, rfl, -⟩ := hst4.at_
 obtain ⟨U1, V4, hU1, hU, hy1, hy, hoU, hrU, hbU⟩ := box_sr x4 (.slice A4 n4 c4) (.slice E4 m4 d4) (.slice D4 kk4 g4) R.2.code R.2.fd R.2.num R.2.dir R.2.data F f f'
 obtain ⟨r0, r1, r2, r3, r4, r5, _⟩ := hrU.get
 have HB4 := Lib.hid (Cv.next HB.out (Cv.next hb4 hbU))
 clear hst4 hokF hnF hb4 hoU hrU hbU
 go_wp2_with fail
 go_ret
 exact ⟨rfl, HB4.out⟩
end Go.Proofs.Ytndcloohcfhejaa
