/- Parts of the proof, side by side: Awake13, DoRound, Code13, MakeIn, FullP. -/
import Derived.Test.YtndcloohcfhejaaGreatM38
import Derived.Test.YtndcloohcfhejaaGreatM44
import Derived.Test.YtndcloohcfhejaaGreatM36
import Derived.Test.YtndcloohcfhejaaGreatM06
import Derived.Test.YtndcloohcfhejaaGreatFsEqual
import Derived.Test.YtndcloohcfhejaaGreatM11
import Derived.Test.YtndcloohcfhejaaGreatM37
import Derived.Test.YtndcloohcfhejaaGreatM24
import Derived.Test.YtndcloohcfhejaaGreatM40
set_option linter.unusedVariables false
set_option linter.unusedSimpArgs false
namespace Go.Proofs.YtndcloohcfhejaaGreat
open Go.RowKit
def stP : St := ⟨[⟨1, true, [⟨⟨#[97]⟩, 2⟩], ⟨#[]⟩⟩, ⟨2, false, [], ⟨#[]⟩⟩], [⟨0, 3, 2⟩], [1, 0]⟩
theorem a13_5 : allowsV stT cP ⟨0, 3, 0, false, ⟨#[]⟩, []⟩ = (stP, true) := by decide +kernel
set_option maxRecDepth 100000 in
set_option maxHeartbeats 8000000 in
theorem awake13 (w : World) : Calls Tryz.prog 13 #[] w fun e w' => e = .returned (.bool true) ∧ Below w.heap.size w w' := by
 go_enter Tryz.func13, Tryz.ntmps13
 go_wp2_with fail
 refine (mnew_any 2 (by omega) (by omega) w).mono ?_
 rintro e x0 ⟨v1, rfl, hst1, hb1⟩
 obtain ⟨A0, n0, c0, E0, m0, d0, D0, k0, e0, rfl, _⟩ := hst1.at_
 obtain ⟨w0, hV, hz, ho, hb⟩ := box_s x0 (.slice A0 n0 c0) (.slice E0 m0 d0) (.slice D0 k0 e0)
 have HB := Lib.hid (Cv.next hb1 hb)
 have HS0 := Lib.hid (hst1.weak.below hb)
 have HO0 := Lib.hid ho
 obtain ⟨i0, i1, i2, _⟩ := ho.get
 clear hst1 hb1 ho hb
 go_wp2_with fail
 refine (doC _ (newV 2) cA w0 HS0.out _ _ _ _ _ _ _ a13_1 (by decide) (by decide) (by decide)).mono ?_
 rintro e1 x1 ⟨A1, n1, c1, E1, m1, d1, D1, k1, g1, F1, f1, p1, rfl, hst, -, -, -, -, hb1⟩
 obtain ⟨V1, w1, hV1, hV, hz1, hz, ho, hr, hb⟩ := box_sr x1 (.slice A1 n1 c1) (.slice E1 m1 d1) (.slice D1 k1 g1) 0 0 0 false ⟨#[]⟩ F1 f1 p1
 have hbb : Below w0.heap.size w0 w1 := Cv.next hb1 hb
 have HO0 := Lib.hid (HO0.out.mv hbb)
 have HS0 := Lib.hid (HS0.out.below hbb)
 have HB := Lib.hid (Cv.next HB.out hbb)
 have HS1 := Lib.hid (hst.below hb)
 have HO1 := Lib.hid ho
 have HR1 := Lib.hid hr
 have hsz1 := hbb.size
 clear hst hb1 ho hr hb hbb
 obtain ⟨ta0, ta1, ta2, _⟩ := HO1.out.get
 go_wp2_with fail
 refine (doC _ stT cO w1 HS1.out _ _ _ _ _ _ _ a13_2 (by decide) (by decide) (by decide)).mono ?_
 rintro e2 x2 ⟨A2, n2, c2, E2, m2, d2, D2, k2, g2, F2, f2, p2, rfl, hst, -, -, -, -, hb1⟩
 obtain ⟨V1, w2, hV1, hV, hz1, hz, ho, hr, hb⟩ := box_sr x2 (.slice A2 n2 c2) (.slice E2 m2 d2) (.slice D2 k2 g2) 0 0 0 false ⟨#[]⟩ F2 f2 p2
 have hbb : Below w1.heap.size w1 w2 := Cv.next hb1 hb
 have HO0 := Lib.hid (HO0.out.mv hbb)
 have HO1 := Lib.hid (HO1.out.mv hbb)
 have HR1 := Lib.hid (HR1.out.mv hbb)
 have HS0 := Lib.hid (HS0.out.below hbb)
 have HS1 := Lib.hid (HS1.out.below hbb)
 have HB := Lib.hid (Cv.next HB.out hbb)
 have HS2 := Lib.hid (hst.below hb)
 have HO2 := Lib.hid ho
 have HR2 := Lib.hid hr
 have hsz2 := hbb.size
 clear hst hb1 ho hr hb hbb
 obtain ⟨ub0, ub1, ub2, _⟩ := HO2.out.get
 obtain ⟨uc0, uc1, uc2, uc3, uc4, uc5, _⟩ := HR2.out.get
 go_wp2_with fail
 refine (doC _ stU cW w2 HS2.out _ _ _ _ _ _ _ a13_3 (by decide) (by decide) (by decide)).mono ?_
 rintro e3 x3 ⟨A3, n3, c3, E3, m3, d3, D3, k3, g3, F3, f3, p3, rfl, hst, -, -, -, -, hb1⟩
 obtain ⟨V1, w3, hV1, hV, hz1, hz, ho, hr, hb⟩ := box_sr x3 (.slice A3 n3 c3) (.slice E3 m3 d3) (.slice D3 k3 g3) 0 0 2 false ⟨#[]⟩ F3 f3 p3
 have hbb : Below w2.heap.size w2 w3 := Cv.next hb1 hb
 have HO0 := Lib.hid (HO0.out.mv hbb)
 have HO1 := Lib.hid (HO1.out.mv hbb)
 have HR1 := Lib.hid (HR1.out.mv hbb)
 have HO2 := Lib.hid (HO2.out.mv hbb)
 have HR2 := Lib.hid (HR2.out.mv hbb)
 have HS0 := Lib.hid (HS0.out.below hbb)
 have HS1 := Lib.hid (HS1.out.below hbb)
 have HS2 := Lib.hid (HS2.out.below hbb)
 have HB := Lib.hid (Cv.next HB.out hbb)
 have HS3 := Lib.hid (hst.below hb)
 have HO3 := Lib.hid ho
 have HR3 := Lib.hid hr
 have hsz3 := hbb.size
 clear hst hb1 ho hr hb hbb
 obtain ⟨tb0, tb1, tb2, _⟩ := HO1.out.get
 go_wp2_with fail
 refine (doC _ stT cA w3 HS1.out _ _ _ _ _ _ _ a13_4 (by decide) (by decide) (by decide)).mono ?_
 rintro e4 x4 ⟨A4, n4, c4, E4, m4, d4, D4, k4, g4, F4, f4, p4, rfl, hst, -, -, -, -, hb1⟩
 obtain ⟨V1, w4, hV1, hV, hz1, hz, ho, hr, hb⟩ := box_sr x4 (.slice A4 n4 c4) (.slice E4 m4 d4) (.slice D4 k4 g4) 2 0 0 false ⟨#[]⟩ F4 f4 p4
 have hbb : Below w3.heap.size w3 w4 := Cv.next hb1 hb
 have HO0 := Lib.hid (HO0.out.mv hbb)
 have HO1 := Lib.hid (HO1.out.mv hbb)
 have HR1 := Lib.hid (HR1.out.mv hbb)
 have HO2 := Lib.hid (HO2.out.mv hbb)
 have HR2 := Lib.hid (HR2.out.mv hbb)
 have HO3 := Lib.hid (HO3.out.mv hbb)
 have HR3 := Lib.hid (HR3.out.mv hbb)
 have HS0 := Lib.hid (HS0.out.below hbb)
 have HS1 := Lib.hid (HS1.out.below hbb)
 have HS2 := Lib.hid (HS2.out.below hbb)
 have HS3 := Lib.hid (HS3.out.below hbb)
 have HB := Lib.hid (Cv.next HB.out hbb)
 have HS4 := Lib.hid (hst.below hb)
 have HO4 := Lib.hid ho
 have HR4 := Lib.hid hr
 have hsz4 := hbb.size
 clear hst hb1 ho hr hb hbb
 obtain ⟨tc0, tc1, tc2, _⟩ := HO1.out.get
 go_wp2_with fail
 have hal := mallows_any (.agg #[.slice A1 n1 c1, .slice E1 m1 d1, .slice D1 k1 g1]) _ stT cP ⟨0, 3, 0, false, ⟨#[]⟩, []⟩ w4 HS1.out (res_none none w4 0 3 0 false ⟨#[]⟩) (by decide) (by decide) (by decide) (by decide)
 rw [a13_5] at hal
 refine hal.mono ?_
 clear hal
 rintro e5 x5 ⟨v5, rfl, hst5, hb1⟩
 obtain ⟨A5, n5, c5, E5, m5, d5, D5, k5, g5, rfl, _, hD5, _⟩ := hst5.at_
 have hm5 : (1 : Nat) = m5 := hD5.1
 subst hm5
 obtain ⟨w5, hV, hz, ho, hb⟩ := box_s x5 (.slice A5 n5 c5) (.slice E5 1 d5) (.slice D5 k5 g5)
 have hbb : Below w4.heap.size w4 w5 := Cv.next (hb1) hb
 have HO0 := Lib.hid (HO0.out.mv hbb)
 have HO1 := Lib.hid (HO1.out.mv hbb)
 have HR1 := Lib.hid (HR1.out.mv hbb)
 have HO2 := Lib.hid (HO2.out.mv hbb)
 have HR2 := Lib.hid (HR2.out.mv hbb)
 have HO3 := Lib.hid (HO3.out.mv hbb)
 have HR3 := Lib.hid (HR3.out.mv hbb)
 have HO4 := Lib.hid (HO4.out.mv hbb)
 have HR4 := Lib.hid (HR4.out.mv hbb)
 have HS0 := Lib.hid (HS0.out.below hbb)
 have HS1 := Lib.hid (HS1.out.below hbb)
 have HS2 := Lib.hid (HS2.out.below hbb)
 have HS3 := Lib.hid (HS3.out.below hbb)
 have HS4 := Lib.hid (HS4.out.below hbb)
 have HB := Lib.hid (Cv.next HB.out hbb)
 have HO5 := Lib.hid ho
 clear hst5 hb1 ho hb hbb hD5
 obtain ⟨td0, td1, td2, _⟩ := HO1.out.get
 go_wp2_with fail
 have hfi := mFind_any (.agg #[.slice A1 n1 c1, .slice E1 m1 d1, .slice D1 k1 g1]) stT pA w5 HS1.out (by decide)
 rw [a13_6] at hfi
 refine hfi.mono ?_
 clear hfi
 rintro e6 w6 ⟨rfl, hb1⟩
 have HO0 := Lib.hid (HO0.out.mv hb1)
 have HO1 := Lib.hid (HO1.out.mv hb1)
 have HR1 := Lib.hid (HR1.out.mv hb1)
 have HO2 := Lib.hid (HO2.out.mv hb1)
 have HR2 := Lib.hid (HR2.out.mv hb1)
 have HO3 := Lib.hid (HO3.out.mv hb1)
 have HR3 := Lib.hid (HR3.out.mv hb1)
 have HO4 := Lib.hid (HO4.out.mv hb1)
 have HR4 := Lib.hid (HR4.out.mv hb1)
 have HO5 := Lib.hid (HO5.out.mv hb1)
 have HS0 := Lib.hid (HS0.out.below hb1)
 have HS1 := Lib.hid (HS1.out.below hb1)
 have HS2 := Lib.hid (HS2.out.below hb1)
 have HS3 := Lib.hid (HS3.out.below hb1)
 have HS4 := Lib.hid (HS4.out.below hb1)
 have HB := Lib.hid (Cv.next HB.out hb1)
 clear hb1
 go_wp2_with fail
 refine (mnew_bad 0 (by omega) w6).mono ?_
 rintro e7 x7 ⟨rfl, hb1⟩
 go_wp2_with fail
 obtain ⟨w7, hV, hz, ho, hb⟩ := box_s x7 (.slice none 0 0) (.slice none 0 0) (.slice none 0 0)
 have hbb : Below w6.heap.size w6 w7 := Cv.next hb1 hb
 have HO0 := Lib.hid (HO0.out.mv hbb)
 have HO1 := Lib.hid (HO1.out.mv hbb)
 have HR1 := Lib.hid (HR1.out.mv hbb)
 have HO2 := Lib.hid (HO2.out.mv hbb)
 have HR2 := Lib.hid (HR2.out.mv hbb)
 have HO3 := Lib.hid (HO3.out.mv hbb)
 have HR3 := Lib.hid (HR3.out.mv hbb)
 have HO4 := Lib.hid (HO4.out.mv hbb)
 have HR4 := Lib.hid (HR4.out.mv hbb)
 have HO5 := Lib.hid (HO5.out.mv hbb)
 have HS0 := Lib.hid (HS0.out.below hbb)
 have HS1 := Lib.hid (HS1.out.below hbb)
 have HS2 := Lib.hid (HS2.out.below hbb)
 have HS3 := Lib.hid (HS3.out.below hbb)
 have HS4 := Lib.hid (HS4.out.below hbb)
 have HB := Lib.hid (Cv.next HB.out hbb)
 clear hb1 ho hb hbb
 obtain ⟨te0, te1, te2, _⟩ := HO1.out.get
 obtain ⟨ra0, ra1, ra2, ra3, ra4, ra5, _⟩ := HR1.out.get
 obtain ⟨rb0, rb1, rb2, rb3, rb4, rb5, _⟩ := HR2.out.get
 obtain ⟨rc0, rc1, rc2, rc3, rc4, rc5, _⟩ := HR3.out.get
 obtain ⟨rd0, rd1, rd2, rd3, rd4, rd5, _⟩ := HR4.out.get
 obtain ⟨va0, va1, va2, _⟩ := HO5.out.get
 rw [hV]
 refine (numC 0 w7).mono ?_
 rintro e8 w8 ⟨rfl, rfl⟩
 go_wp2_with fail
 have hli := mlinks_any (.agg #[.slice A1 n1 c1, .slice E1 m1 d1, .slice D1 k1 g1]) stT 2 w7 HS1.out
 rw [a13_8] at hli
 refine hli.mono ?_
 clear hli
 rintro e9 w9 ⟨rfl, hb1⟩
 have HO0 := Lib.hid (HO0.out.mv hb1)
 have HO1 := Lib.hid (HO1.out.mv hb1)
 have HR1 := Lib.hid (HR1.out.mv hb1)
 have HO2 := Lib.hid (HO2.out.mv hb1)
 have HR2 := Lib.hid (HR2.out.mv hb1)
 have HO3 := Lib.hid (HO3.out.mv hb1)
 have HR3 := Lib.hid (HR3.out.mv hb1)
 have HO4 := Lib.hid (HO4.out.mv hb1)
 have HR4 := Lib.hid (HR4.out.mv hb1)
 have HO5 := Lib.hid (HO5.out.mv hb1)
 have HS0 := Lib.hid (HS0.out.below hb1)
 have HS1 := Lib.hid (HS1.out.below hb1)
 have HS2 := Lib.hid (HS2.out.below hb1)
 have HS3 := Lib.hid (HS3.out.below hb1)
 have HS4 := Lib.hid (HS4.out.below hb1)
 have HB := Lib.hid (Cv.next HB.out hb1)
 clear hb1
 obtain ⟨tf0, tf1, tf2, _⟩ := HO1.out.get
 go_wp2_with fail
 refine (numC 1300 w9).mono ?_
 rintro e10 w10 ⟨rfl, rfl⟩
 go_wp2_with fail
 have hma := mmay_any (.agg #[.slice A1 n1 c1, .slice E1 m1 d1, .slice D1 k1 g1]) stT w9 HS1.out
 rw [a13_7] at hma
 refine hma.mono ?_
 clear hma
 rintro e11 w11 ⟨rfl, hb1⟩
 have HB := Lib.hid (Cv.next HB.out hb1)
 clear hb1
 go_wp2_with fail
 go_ret
 exact ⟨rfl, HB.out⟩
theorem row_far3 {w : World} {b g : Nat} {o : Option Obj} (h : w.heap[b]? = o) (hne : b ≠ g) (x y z : Value) : (((w.setCell ⟨g, 0, none⟩ x).setCell ⟨g, 1, none⟩ y).setCell ⟨g, 2, none⟩ z).heap[b]? = o := row_far (row_far (row_far h hne) hne) hne
theorem boxR (w : World) (cs : Array Value) (t : TypeId) : ∃ W, w.alloc (.cells cs t) = W ∧ W.heap[w.heap.size]? = some (.cells cs t (0, 0)) ∧ Below w.heap.size w W ∧ W.heap.size = w.heap.size + 1 :=
 ⟨_, rfl, heap_alloc_new w _, (Below.refl _ _).alloc (Nat.le_refl _) _, by simp⟩
end Go.Proofs.YtndcloohcfhejaaGreat
namespace Go.Proofs.YtndcloohcfhejaaGreat
theorem place_of {s : St} (h : Good s) {x : Ino} {n : Int} (hx : x ∈ s.inos) (hn : x.num = n) : inoAt s.inos (atV s.inos n) = some x := by
 obtain ⟨i, hi⟩ := List.getElem?_of_mem hx
 rw [atV_of_rise h.riseI hi hn, inoAt_nat, hi]
theorem ents_of {s : St} (h : Good s) {x : Ino} {n : Int} (hx : x ∈ s.inos) (hn : x.num = n) : entsOf s.inos n = x.ents := by
 unfold entsOf
 rw [place_of h hx hn]
theorem dir_of {s : St} (h : Good s) {x : Ino} {n : Int} (hx : x ∈ s.inos) (hn : x.num = n) : dirAt s.inos n = x.dir := by
 unfold dirAt
 rw [place_of h hx hn]
theorem may_call {s : St} {c : Ca} (hm : mayV s = true) (hk0 : 0 ≤ c.kind) (hk1 : c.kind ≤ 16) (hc0 : 0 ≤ c.core) (hc1 : c.core < (s.made.length : Int)) : ¬ (mayV s = false ∨ c.core < 0 ∨ (s.made.length : Int) ≤ c.core ∨ c.kind < 0 ∨ 16 < c.kind) := by
 rw [hm]
 rintro (h | h | h | h | h)
 ·cases h
 all_goals omega
theorem doV_make {s : St} {c : Ca} (hm : mayV s = true) (hk : c.kind = 0 ∨ c.kind = 1) (hc0 : 0 ≤ c.core) (hc1 : c.core < (s.made.length : Int)) : doV s c = make1V s c := by
 unfold doV doF
 rw [if_neg (may_call hm (by omega) (by omega) hc0 hc1), if_pos (by omega)]
theorem make_in {s : St} (h : Good s) {c : Ca} (hk : c.kind = 0) (hc0 : 0 ≤ c.core) (hc1 : c.core < (s.made.length : Int)) {x : Ino} {n : Int} {nm : ByteArray} (hx : x ∈ s.inos) (hn : x.num = n) (hd : x.dir = true) (hp : parentV s.inos c.path = (n, nm, 0)) :
  ((∃ e ∈ x.ents, e.name = nm) → doV s c = (s, { code := 2 })) ∧
  ((∀ e ∈ x.ents, e.name ≠ nm) → (4 ≤ bktE x.ents (bktB nm) ∨ 32 ≤ s.made.getD c.core.toNat 0) → doV s c = (s, { code := 5 })) ∧
  ((∀ e ∈ x.ents, e.name ≠ nm) → bktE x.ents (bktB nm) < 4 → s.made.getD c.core.toNat 0 < 32 → ∃ k s', doV s c = (s', {}) ∧ Good s' ∧ s'.made = s.made.set c.core.toNat (s.made.getD c.core.toNat 0 + 1) ∧ s'.opn = s.opn ∧ ({ x with ents := putE x.ents nm k } : Ino) ∈ s'.inos ∧ ∀ z ∈ s.inos, z.num ≠ n → z ∈ s'.inos) := by
 rw [doV_make ((good_iff s).2 h) (.inl hk) hc0 hc1]
 have hg := h.make1 c hc0 hc1
 have hent := entV_mem h hx hn nm
 have hful : fullV s.inos n nm (txt []) = decide (4 ≤ bktE x.ents (bktB nm)) := by
  unfold fullV
  rw [place_of h hx hn]
  show decide (4 ≤ fullE x.ents nm (txt [])) = _
  rw [bktE_none _ _ _ (noname h hx)]
 have hmk : make1V s c = if entV s.inos n nm ≠ 0 then (s, { code := 2 }) else if fullV s.inos n nm (txt []) = true ∨ 32 ≤ s.made.getD c.core.toNat 0 then (s, { code := 5 }) else ({ s with made := s.made.set c.core.toNat (s.made.getD c.core.toNat 0 + 1), inos := putI (setEnts s.inos n fun es => putE es nm (2 + c.core + 8 * s.made.getD c.core.toNat 0)) ⟨2 + c.core + 8 * s.made.getD c.core.toNat 0, decide (c.kind = 1), [], txt []⟩ }, {}) := by
  unfold make1V
  rw [hp, if_neg (fun h9 => h9 rfl)]
 have hno : (∀ e ∈ x.ents, e.name ≠ nm) → entV s.inos n nm = 0 := fun hne => Classical.byContradiction fun h9 => by
  obtain ⟨e, he, h1, _⟩ := hent.2 h9
  exact hne e he h1
 refine ⟨?_, ?_, ?_⟩
 ·rintro ⟨e, he, hen⟩
  rw [hmk, if_pos (fun h0 => hent.1 h0 e he hen)]
 ·intro hne hor
  rw [hmk, if_neg (fun h0 => h0 (hno hne)), if_pos (by rw [hful]; simpa using hor)]
 ·intro hne hb hm
  have he : make1V s c = ({ s with made := s.made.set c.core.toNat (s.made.getD c.core.toNat 0 + 1), inos := putI (setEnts s.inos n fun es => putE es nm (2 + c.core + 8 * s.made.getD c.core.toNat 0)) ⟨2 + c.core + 8 * s.made.getD c.core.toNat 0, decide (c.kind = 1), [], txt []⟩ }, {}) := by
   rw [hmk, if_neg (fun h0 => h0 (hno hne)), if_neg (by rw [hful, decide_eq_true_eq]; omega)]
  rw [he] at hg
  refine ⟨2 + c.core + 8 * s.made.getD c.core.toNat 0, _, he, hg, rfl, rfl, ?_, ?_⟩
  ·show _ ∈ putI (setEnts s.inos n fun es => putE es nm (2 + c.core + 8 * s.made.getD c.core.toNat 0)) _
   rw [mem_putI, setEnts_modN h.riseI hx hn, mem_modN]
   exact .inr ⟨x, hx, .inl ⟨hn, rfl⟩⟩
  ·intro z hz hzn
   show _ ∈ putI (setEnts s.inos n fun es => putE es nm (2 + c.core + 8 * s.made.getD c.core.toNat 0)) _
   rw [mem_putI, setEnts_modN h.riseI hx hn, mem_modN]
   exact .inr ⟨z, hz, .inr ⟨hzn, rfl⟩⟩
def dig3L (n : Nat) : List UInt8 := if n < 10 then [UInt8.ofNat (48 + n)] else if n < 100 then [UInt8.ofNat (48 + n / 10), UInt8.ofNat (48 + n % 10)] else [UInt8.ofNat (48 + n / 100), UInt8.ofNat (48 + n / 10 % 10), UInt8.ofNat (48 + n % 10)]
def kName (n : Nat) : ByteArray := ⟨(107 :: dig3L n).toArray⟩
def kPath (n : Nat) : ByteArray := ⟨(47 :: 107 :: dig3L n).toArray⟩
theorem kname_parse : ∀ j < 123, parseL (kPath j).data.toList = ([(kName j).data.toList], 0) ∧ chkB (kName j) = 0 ∧ bktB (kName j) < 8 ∧ (kName j).size ≤ 4 ∧ (kPath j).size ≤ 5 := by decide +kernel
theorem dig3_val : ∀ j < 123, (dig3L j).foldl (fun a b => 10 * a + (b.toNat - 48)) 0 = j := by decide +kernel
theorem kname_inj {i j : Nat} (hi : i < 123) (hj : j < 123) (h : kName i = kName j) : i = j := by
  have h1 : (107 :: dig3L i : List UInt8) = 107 :: dig3L j := congrArg (fun b => b.data.toList) h
  injection h1 with _ h2
  rw [← dig3_val i hi, ← dig3_val j hj, h2]
theorem parent_k {is : List Ino} (hr : dirAt is 1 = true) {j : Nat} (hj : j < 123) : parentV is (kPath j) = (1, kName j, 0) := by
  obtain ⟨h1, _⟩ := kname_parse j hj
  unfold parentV
  rw [h1]
  show (if (0 : Nat) ≠ 0 then _ else if [(kName j).data.toList] = [] then _ else if (walkG is [] 1).2 ≠ 0 then _ else if dirAt is (walkG is [] 1).1 = false then _ else ((walkG is [] 1).1, txt (kName j).data.toList, (0 : Int))) = _
  rw [if_neg (by decide), if_neg (by simp)]
  show (if (0 : Int) ≠ 0 then _ else if dirAt is 1 = false then _ else ((1 : Int), txt (kName j).data.toList, (0 : Int))) = _
  rw [if_neg (by decide), if_neg (by rw [hr]; decide)]
  rfl
def callK (v c i : Nat) : Ca := ⟨0, (c : Int), 0, 0, 0, kPath (i + v), ⟨#[]⟩, ⟨#[]⟩⟩
def fullS (v c : Nat) : Nat → St
  | 0 => newV 2
  | i + 1 => (doV (fullS v c i) (callK v c i)).1
def fullB (v c i b : Nat) : Nat := bktE (entsOf (fullS v c i).inos 1) b
def fullM (v c i : Nat) : Int := (fullS v c i).made.getD c 0
structure FullInv (v c i : Nat) : Prop where
  good : Good (fullS v c i)
  root : ∃ x ∈ (fullS v c i).inos, x.num = 1 ∧ x.dir = true ∧ ∀ e ∈ x.ents, ∃ j, j < i ∧ e.name = kName (j + v)
  made : ∃ M : Int, 0 ≤ M ∧ M ≤ 32 ∧ (fullS v c i).made = if c = 0 then [M, 0] else [0, M]
theorem full_start (v c : Nat) : FullInv v c 0 := by
  refine ⟨(good_iff _).1 (show mayV (newV 2) = true by decide +kernel), ⟨⟨1, true, [], txt []⟩, by simp [fullS, newV], rfl, rfl, fun e he => by cases he⟩, 0, by decide, by decide, ?_⟩
  show [(0 : Int), 0] = _
  split <;> rfl
theorem full_start0 (v c b : Nat) (hc : c < 2) : fullB v c 0 b = 0 ∧ fullM v c 0 = 0 := by
  have : c = 0 ∨ c = 1 := by omega
  rcases this with rfl | rfl <;> exact ⟨rfl, rfl⟩
theorem full_step {v c i : Nat} (hv : v < 64) (hc : c < 2) (hi : i < 60) (h : FullInv v c i) :
    FullInv v c (i + 1) ∧ ((4 ≤ fullB v c i (bktB (kName (i + v))) ∨ 32 ≤ fullM v c i) → (doV (fullS v c i) (callK v c i)).2.code = 5 ∧ (∀ b, fullB v c (i + 1) b = fullB v c i b) ∧ fullM v c (i + 1) = fullM v c i) ∧
    (fullB v c i (bktB (kName (i + v))) < 4 → fullM v c i < 32 → (doV (fullS v c i) (callK v c i)).2.code = 0 ∧ (∀ b, fullB v c (i + 1) b = fullB v c i b + (if bktB (kName (i + v)) = b then 1 else 0)) ∧ fullM v c (i + 1) = fullM v c i + 1) := by
  obtain ⟨hg, ⟨x, hx, hxn, hxd, hxe⟩, M, hM0, hM1, hMm⟩ := h
  have hroot : dirAt (fullS v c i).inos 1 = true := by rw [dir_of hg hx hxn]; exact hxd
  have hp : parentV (fullS v c i).inos (callK v c i).path = (1, kName (i + v), 0) := parent_k hroot (by omega)
  have hl : (fullS v c i).made.length = 2 := by rw [hMm]; split <;> rfl
  have hno : ∀ e ∈ x.ents, e.name ≠ kName (i + v) := fun e he h9 => by
    obtain ⟨j, hj, hn⟩ := hxe e he
    have := kname_inj (by omega) (by omega) (hn.symm.trans h9)
    omega
  have hfb : ∀ b, fullB v c i b = bktE x.ents b := fun b => by unfold fullB; rw [ents_of hg hx hxn]
  have hcn : (callK v c i).core.toNat = c := by show ((c : Nat) : Int).toNat = c; exact Int.toNat_natCast _
  obtain ⟨-, h2, h3⟩ := make_in hg (c := callK v c i) rfl (by show (0 : Int) ≤ ((c : Nat) : Int); omega) (by rw [hl]; show ((c : Nat) : Int) < ((2 : Nat) : Int); omega) hx hxn hxd hp
  rw [hcn] at h2 h3
  have hmd : (fullS v c i).made.getD c 0 = M := by rw [hMm]; have : c = 0 ∨ c = 1 := by omega
                                                   rcases this with rfl | rfl <;> rfl
  have hfm : fullM v c i = M := hmd
  rw [hmd] at h2 h3
  by_cases hful : 4 ≤ bktE x.ents (bktB (kName (i + v))) ∨ 32 ≤ M
  · have he := h2 hno hful
    have hs : fullS v c (i + 1) = fullS v c i := by show (doV (fullS v c i) (callK v c i)).1 = _; rw [he]
    refine ⟨⟨by rw [hs]; exact hg, ⟨x, by rw [hs]; exact hx, hxn, hxd, fun e h9 => ?_⟩, M, hM0, hM1, by rw [hs]; exact hMm⟩, fun _ => ⟨by rw [he], fun b => by unfold fullB; rw [hs], by unfold fullM; rw [hs]⟩, fun h4 h5 => ?_⟩
    · obtain ⟨j, hj, hn⟩ := hxe e h9
      exact ⟨j, by omega, hn⟩
    · rw [hfb] at h4
      rw [hfm] at h5
      omega
  · have hb4 : bktE x.ents (bktB (kName (i + v))) < 4 := by omega
    have hm4 : M < 32 := by omega
    obtain ⟨k, s', he, hg', hm', ho', hx', _⟩ := h3 hno hb4 hm4
    have hs : fullS v c (i + 1) = s' := by show (doV (fullS v c i) (callK v c i)).1 = _; rw [he]
    have hM' : s'.made = if c = 0 then [M + 1, 0] else [0, M + 1] := by
      rw [hm', hMm]
      have : c = 0 ∨ c = 1 := by omega
      rcases this with rfl | rfl <;> rfl
    refine ⟨⟨by rw [hs]; exact hg', ⟨{ x with ents := putE x.ents (kName (i + v)) k }, by rw [hs]; exact hx', hxn, hxd, fun e h9 => ?_⟩, M + 1, by omega, by omega, by rw [hs]; exact hM'⟩, fun h9 => ?_, fun _ _ => ⟨by rw [he], fun b => ?_, ?_⟩⟩
    · rcases (mem_putE _ _ _ _).1 h9 with h9 | h9
      · exact ⟨i, by omega, by rw [h9]⟩
      · obtain ⟨j, hj, hn⟩ := hxe e h9
        exact ⟨j, by omega, hn⟩
    · rw [hfb, hfm] at h9
      omega
    · rw [hfb]
      unfold fullB
      rw [hs, ents_of hg' hx' hxn]
      exact bktE_put _ _ _ _
    · rw [hfm]
      unfold fullM
      rw [hs, hM']
      have : c = 0 ∨ c = 1 := by omega
      rcases this with rfl | rfl <;> rfl
theorem full_inv {v c : Nat} (hv : v < 64) (hc : c < 2) : ∀ i, i ≤ 60 → FullInv v c i
  | 0, _ => full_start v c
  | i + 1, h => (full_step hv hc (by omega) (full_inv hv hc i (by omega))).1
theorem full_end {v c : Nat} (hv : v < 64) (hc : c < 2) : mayV (fullS v c 60) = true ∧ (fullS v c 60).made.length = 2 ∧ (fullS v c 60).made.getD (1 - c) 0 = 0 := by
  obtain ⟨hg, _, M, _, _, hm⟩ := full_inv hv hc 60 (by omega)
  refine ⟨(good_iff _).2 hg, by rw [hm]; split <;> rfl, ?_⟩
  rw [hm]
  have : c = 0 ∨ c = 1 := by omega
  rcases this with rfl | rfl <;> rfl
end Go.Proofs.YtndcloohcfhejaaGreat
