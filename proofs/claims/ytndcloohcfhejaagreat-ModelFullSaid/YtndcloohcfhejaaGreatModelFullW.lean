/- The law ModelFull: its walk. -/
import Derived.Test.YtndcloohcfhejaaGreatM45
import Derived.Test.YtndcloohcfhejaaGreatDecimal3
set_option linter.unusedVariables false
set_option linter.unusedSimpArgs false
namespace Go.Proofs.YtndcloohcfhejaaGreat
open Go.RowKit
def RowB (w : World) (g : Nat) (f : Nat → Nat) : Prop := w.heap[g]? = some (.cells #[.int .i64 (f 0 : Nat), .int .i64 (f 1 : Nat), .int .i64 (f 2 : Nat), .int .i64 (f 3 : Nat), .int .i64 (f 4 : Nat), .int .i64 (f 5 : Nat), .int .i64 (f 6 : Nat), .int .i64 (f 7 : Nat)] 3 (0, 0))
theorem RowB.get {w : World} {g : Nat} {f : Nat → Nat} (h : RowB w g f) (b : Nat) (hb : b < 8) : w.cell? ⟨g, b, none⟩ = some (.int .i64 (f b : Nat)) ∧ w.frozen? ⟨g, b, none⟩ = false := by
 refine ⟨?_, frozen_of_row w g b _ _ h⟩
 have : b = 0 ∨ b = 1 ∨ b = 2 ∨ b = 3 ∨ b = 4 ∨ b = 5 ∨ b = 6 ∨ b = 7 := by omega
 rcases this with e | e | e | e | e | e | e | e <;> (subst e; rw [cell_of_row w _ _ _ _ (0, 0) h]; rfl)
theorem RowB.set {w : World} {g : Nat} {f f' : Nat → Nat} (h : RowB w g f) (b : Nat) (hb : b < 8) (hf : ∀ x, f' x = f x + (if b = x then 1 else 0)) : RowB (w.setCell ⟨g, b, none⟩ (.int .i64 ((f b : Int) + 1))) g f' := by
 have h1 := heap_setCell_same w g b _ _ (.int .i64 ((f b : Int) + 1)) h
 have hz := hf
 have : b = 0 ∨ b = 1 ∨ b = 2 ∨ b = 3 ∨ b = 4 ∨ b = 5 ∨ b = 6 ∨ b = 7 := by omega
 unfold RowB
 rw [hf 0, hf 1, hf 2, hf 3, hf 4, hf 5, hf 6, hf 7]
 rcases this with e | e | e | e | e | e | e | e <;> (subst e; exact h1)
theorem RowB.same {w : World} {g : Nat} {f f' : Nat → Nat} (h : RowB w g f) (hf : ∀ x, f' x = f x) : RowB w g f' := by
 have : f' = f := funext hf
 rw [this]
 exact h
theorem dec3_dig : ∀ x < 123, Dc.dec3L x = dig3L x := by decide +kernel
theorem dec3_size : ∀ x < 123, (Dc.dec3B x).size ≤ 3 := by decide +kernel
theorem kname_cat (x : Nat) (hx : x < 123) : (⟨#[107]⟩ : ByteArray) ++ Dc.dec3B x = kName x := by
 unfold Dc.dec3B kName
 rw [dec3_dig x hx]
 apply ByteArray.ext
 simp
theorem kpath_cat (x : Nat) : (⟨#[47]⟩ : ByteArray) ++ kName x = kPath x := by
 unfold kPath kName
 apply ByteArray.ext
 simp
theorem getD_some {l : List Int} {i : Nat} (h : i < l.length) : l[i]? = some (l.getD i 0) := by
 rw [List.getD_eq_getElem?_getD, List.getElem?_eq_getElem h]
 rfl
theorem far_cell {w : World} {g k b o : Nat} {u : Value} (h : b ≠ g) : (w.setCell ⟨g, k, none⟩ u).cell? ⟨b, o, none⟩ = w.cell? ⟨b, o, none⟩ := by
 unfold World.cell?
 rw [Below.heap_setCell w ⟨g, k, none⟩ u b h]
theorem far_mine {B : Nat} {t : TypeId} {w : World} {g k b : Nat} {u : Value} (h : Mine (some B) t w b) (hg : g < B) : b ≠ g ∧ Mine (some B) t (w.setCell ⟨g, k, none⟩ u) b := by
 have hne : b ≠ g := by have := (h B rfl).1; omega
 refine ⟨hne, fun B' hB => ?_⟩
 obtain ⟨h1, cur, h2⟩ := h B' hB
 exact ⟨h1, cur, (Below.heap_setCell w ⟨g, k, none⟩ u b hne).trans h2⟩
theorem EntsAt.lowset {B : Nat} {w : World} {A : Option Addr} {n : Nat} {es : List En} (h : EntsAt (some B) w A n es) {g : Nat} (hg : g < B) (k : Nat) (u : Value) : EntsAt (some B) (w.setCell ⟨g, k, none⟩ u) A n es :=
 ⟨h.1, fun hn => by
  obtain ⟨b, off, hA, hlt, hm, hc⟩ := h.2 hn
  obtain ⟨hne, hm'⟩ := far_mine (k := k) (u := u) hm hg
  exact ⟨b, off, hA, by simpa [World.setCell] using hlt, hm', fun j e he => ⟨(far_cell hne).trans (hc j e he).1, (far_cell hne).trans (hc j e he).2⟩⟩⟩
theorem StAt.lowset {B : Nat} {w : World} {v : Value} {s : St} (h : StAt (some B) w v s) {g : Nat} (hg : g < B) (k : Nat) (u : Value) : StAt (some B) (w.setCell ⟨g, k, none⟩ u) v s := by
 obtain ⟨⟨A, n, c, E, m, d, D, i, e, h1, h2, h3, h4, h5, h6, h7⟩, hz⟩ := h
 refine ⟨⟨A, n, c, E, m, d, D, i, e, h1, ⟨h2.1, fun hn => ?_⟩, ⟨h3.1, fun hn => ?_⟩, ⟨h4.1, fun hn => ?_⟩, h5, h6, h7⟩, hz⟩
 ·obtain ⟨b, off, hA, hlt, hm, hc⟩ := h2.2 hn
  obtain ⟨hne, hm'⟩ := far_mine (k := k) (u := u) hm hg
  refine ⟨b, off, hA, by simpa [World.setCell] using hlt, hm', fun j x hx => ?_⟩
  obtain ⟨c0, c1, ⟨B2, m2, d2, c2, hok, he⟩, c3⟩ := hc j x hx
  exact ⟨(far_cell hne).trans c0, (far_cell hne).trans c1, ⟨B2, m2, d2, (far_cell hne).trans c2, hok, he.lowset hg k u⟩, (far_cell hne).trans c3⟩
 ·obtain ⟨b, off, hA, hlt, hm, hc⟩ := h3.2 hn
  obtain ⟨hne, hm'⟩ := far_mine (k := k) (u := u) hm hg
  exact ⟨b, off, hA, by simpa [World.setCell] using hlt, hm', fun j x hx => ⟨(far_cell hne).trans (hc j x hx).1, (far_cell hne).trans (hc j x hx).2.1, (far_cell hne).trans (hc j x hx).2.2⟩⟩
 ·obtain ⟨b, off, hA, hlt, hm, hc⟩ := h4.2 hn
  obtain ⟨hne, hm'⟩ := far_mine (k := k) (u := u) hm hg
  exact ⟨b, off, hA, by simpa [World.setCell] using hlt, hm', fun j x hx => (far_cell hne).trans (hc j x hx)⟩
theorem RowB.mv {w w' : World} {g : Nat} {f : Nat → Nat} (h : RowB w g f) (hb : Below w.heap.size w w') : RowB w' g f := row_kept hb h
theorem full_range {v c : Nat} (hv : v < 64) (hc : c < 2) (i : Nat) (hi : i ≤ 60) : 0 ≤ fullM v c i ∧ fullM v c i ≤ 32 := by
 obtain ⟨_, _, M, h0, h1, hm⟩ := full_inv hv hc i hi
 unfold fullM
 rw [hm]
 have : c = 0 ∨ c = 1 := by omega
 rcases this with rfl | rfl <;> exact ⟨h0, h1⟩
theorem infoInt8 : (Tryz.prog.info? 3).map (fun i => (i.zero, i.size, i.bytes)) = some (some (.int .i64 0), 1, 8) := by kernel_rfl
set_option maxRecDepth 100000 in
set_option maxHeartbeats 16000000 in
theorem modelFull_walk (v : Int) (h0 : (Lit.int .i64 v).wf = true) (core : Int) (h1 : (Lit.int .i64 core).wf = true) (w : World) : Calls Tryz.prog 10 #[.int .i64 v, .int .i64 core] w fun e w' => e = .returned (.bool true) ∧ Below w.heap.size w w' := by
 clear h0 h1
 obtain ⟨a, ha, hav⟩ := Cv.and_i64 v 63 (by omega)
 rw [show ((63 : Nat) : Int) = 63 from rfl] at hav
 obtain ⟨c, hc, hcc⟩ := Cv.and_i64 core 1 (by omega)
 rw [show ((1 : Nat) : Int) = 1 from rfl] at hcc
 have HA := Lib.hid (show a < 64 by omega)
 have HC := Lib.hid (show c < 2 by omega)
 clear ha hc
 go_enter Tryz.func10, Tryz.ntmps10
 go_wp2_with fail
 refine (awake13 _).mono ?_
 rintro ea V1 ⟨rfl, hb1⟩
 have HB := Lib.hid hb1
 have hw1 := hb1.size
 clear hb1
 go_wp2_with fail
 refine (new_any 2 (by omega) (by omega) V1).mono ?_
 rintro eb x0 ⟨v0, rfl, hst, hb1⟩
 obtain ⟨A0, n0, c0, E0, m0, d0, D0, k0, g0, rfl, hI0, -⟩ := hst.at_
 obtain ⟨w0, hV0, hyz0, ho, hb⟩ := box_s x0 (.slice A0 n0 c0) (.slice E0 m0 d0) (.slice D0 k0 g0)
 replace HB := Lib.hid (Cv.next HB.out (Cv.next hb1 hb))
 have HS0 := Lib.hid ((hst.lower (Nat.zero_le _)).below hb)
 have hxz0 := hb1.size
 have HO0 := Lib.hid ho
 clear hst hb1 ho hb hI0
 obtain ⟨X1, hX1, hr, hb, hzX⟩ := boxR w0 #[.int .i64 0, .int .i64 0, .int .i64 0, .int .i64 0, .int .i64 0, .int .i64 0, .int .i64 0, .int .i64 0] 3
 have hmk : (Instr.makeSlice 25 (.int .i64 8) (.int .i64 8)).run Tryz.prog w0 = .ok (.slice (some ⟨w0.heap.size, 0, none⟩) 8 8) X1 := by
  have h := run_make_row' (P := Tryz.prog) 25 3 (.int .i64 0) 8 Tryz.underlying25 infoInt8 rfl .i64 .i64 8 (by omega) (by omega) w0
  have e : madeCells #[Value.int .i64 0] 8 = #[.int .i64 0, .int .i64 0, .int .i64 0, .int .i64 0, .int .i64 0, .int .i64 0, .int .i64 0, .int .i64 0] := by kernel_rfl
  rw [e, hX1] at h
  exact h
 have HROW : Hid (RowB X1 w0.heap.size (fullB a c 0)) := Lib.hid (by
  have h : fullB a c 0 = fun _ => 0 := funext fun b => (full_start0 a c b HC.out).1
  rw [h]
  exact hr)
 have HM0 := Lib.hid (full_start0 a c 0 HC.out).2
 replace HS0 := Lib.hid (HS0.out.below hb)
 replace HO0 := Lib.hid (HO0.out.mv hb)
 replace HB := Lib.hid (Cv.next HB.out hb)
 rw [hyz0] at HROW hzX
 clear hr hb
 go_wp2_with fail
 go_loopw [9, 10] (fun m i wr => ∃ (q : Nat) (A0 : Option Addr) (n0 c0 : Nat) (E0 : Option Addr) (m0 d0 : Nat) (D0 : Option Addr) (k0 g0 : Nat), i = .int .i64 q ∧ m = .int .i64 (fullM a c q) ∧ q ≤ 60 ∧ OutAt wr x0.heap.size (.slice A0 n0 c0) (.slice E0 m0 d0) (.slice D0 k0 g0) ∧ StAt (some 0) wr (.agg #[.slice A0 n0 c0, .slice E0 m0 d0, .slice D0 k0 g0]) (fullS a c q) ∧ RowB wr (x0.heap.size + 1) (fullB a c q) ∧ Below w.heap.size w wr) (fun m i _ => 60 - (intOf i).toNat)
 case atStart => exact ⟨0, A0, n0, c0, E0, m0, d0, D0, k0, g0, rfl, by rw [HM0.out], by omega, HO0.out, HS0.out, HROW.out, HB.out⟩
 case round =>
  clear HO0 HS0 HB HROW HM0
  obtain ⟨q, A0, n0, c0, E0, m0, d0, D0, k0, g0, rfl, rfl, hq, ho, hs, hrw, hb⟩ := hrel
  have HO0 := Lib.hid ho
  have HS0 := Lib.hid hs
  have HB := Lib.hid hb
  have HROW := Lib.hid hrw
  have hlt0 := (Array.getElem?_eq_some_iff.1 ho).1
  have hlt1 := (Array.getElem?_eq_some_iff.1 hrw).1
  clear ho hs hb hrw
  by_cases hlt : q < 60
  ·have g1 : (q : Int) < 60 := by omega
   have ha := HA.out
   obtain ⟨x, hx⟩ : ∃ x, q + a = x := ⟨_, rfl⟩
   have hxw : IntKind.i64.wrap ((q : Int) + (a : Int)) = (x : Int) := by rw [IntWalk.i64_in _ (by omega)]; omega
   have hx123 : x < 123 := by omega
   have hkn := kname_cat x hx123
   have hkp := kpath_cat x
   have hdz := dec3_size x hx123
   obtain ⟨_, _, hbk, hks, hkz⟩ := kname_parse x hx123
   have hst := full_step HA.out HC.out hlt (full_inv HA.out HC.out q (by omega))
   have hinv := full_inv HA.out HC.out q (by omega)
   have hCALL : callK a c q = ⟨0, (c : Int), 0, 0, 0, kPath x, ⟨#[]⟩, ⟨#[]⟩⟩ := by rw [← hx]; rfl
   rw [hx, hCALL] at hst
   obtain ⟨bk, hbkk⟩ : ∃ b, bktB (kName x) = b := ⟨_, rfl⟩
   obtain ⟨KN, hKN⟩ : ∃ K, kName x = K := ⟨_, rfl⟩
   obtain ⟨KP, hKP⟩ : ∃ K, kPath x = K := ⟨_, rfl⟩
   have hKB : (hashL KN.data.toList % 8 : Nat) = bk := by rw [← hKN, ← hbkk]; rfl
   rw [hbkk] at hst hbk
   rw [hKN] at hkn hkp hks
   rw [hKP] at hkp hkz hst
   have HST := Lib.hid hst.2
   have HKB := Lib.hid hKB
   have HNX := Lib.hid (show fullS a c (q + 1) = (doV (fullS a c q) ⟨0, (c : Int), 0, 0, 0, KP, ⟨#[]⟩, ⟨#[]⟩⟩).1 by show (doV (fullS a c q) (callK a c q)).1 = _; rw [hCALL, hKP])
   have HINV := Lib.hid hinv
   clear ha hst hinv hCALL hbkk hKN hKP hKB
   go_wp2_with fail
   refine (Dc.decimal3_any x (by omega) _).mono ?_
   rintro e2 y2 ⟨rfl, hb⟩
   replace HO0 := Lib.hid (HO0.out.mv hb)
   replace HS0 := Lib.hid (HS0.out.below hb)
   replace HB := Lib.hid (Cv.next HB.out hb)
   replace HROW : Hid (RowB y2 (x0.heap.size + 1) (fullB a c q)) := Lib.hid ((hb.block _ hlt1).trans HROW.out)
   have hys := hb.size
   clear hb
   go_wp2_with fail
   refine (refbucket_any KN y2 (by omega)).mono ?_
   rintro e3 y3 ⟨rfl, rfl⟩
   rw [HKB.out]
   obtain ⟨i0, i1, i2, _⟩ := HO0.out.get
   go_wp2_with fail
   have hdo := mDo_any (.agg #[.slice A0 n0 c0, .slice E0 m0 d0, .slice D0 k0 g0]) (fullS a c q) ⟨0, (c : Int), 0, 0, 0, KP, ⟨#[]⟩, ⟨#[]⟩⟩ y2 HS0.out.weak (by show KP.size ≤ _; omega) (by show (0 : Nat) ≤ _; omega) (by show (0 : Nat) ≤ _; omega)
   obtain ⟨R1, hR1⟩ : ∃ R, doV (fullS a c q) ⟨0, (c : Int), 0, 0, 0, KP, ⟨#[]⟩, ⟨#[]⟩⟩ = R := ⟨_, rfl⟩
   rw [hR1] at hdo
   have HR1E := Lib.hid hR1
   refine hdo.mono ?_
   clear hdo hR1
   rintro e1 x1 ⟨v1, rv1, rfl, hst, ⟨F1, f1, p1, rfl, hokF, hnF⟩, hb1⟩
   obtain ⟨A1, n1, c1, E1, m1, d1, D1, k1, g1, rfl, hIk, hDk, -⟩ := hst.at_
   obtain ⟨U1, w1, hU1, hV1, hy1, hyz1, ho, hr, hb⟩ := box_sr x1 (.slice A1 n1 c1) (.slice E1 m1 d1) (.slice D1 k1 g1) R1.2.code R1.2.fd R1.2.num R1.2.dir R1.2.data F1 f1 p1
   have hbb : Below y2.heap.size y2 w1 := Cv.next hb1 hb
   replace HO0 := Lib.hid (HO0.out.mv hbb)
   replace HROW := Lib.hid (HROW.out.mv hbb)
   replace HS0 := Lib.hid (HS0.out.below hbb)
   replace HB := Lib.hid (Cv.next HB.out hbb)
   clear i0 i1 i2
   have HS1 := Lib.hid ((hst.lower (show x0.heap.size + 2 ≤ y2.heap.size by omega)).below hb)
   have hxz1 := hb1.size
   have HO1 := Lib.hid ho
   have HR1 := Lib.hid hr
   have hsz1 := hbb.size
   clear hst hb1 ho hr hb hbb hokF hnF hIk hDk
   have hst := HST.out
   rw [HR1E.out] at hst
   have HST2 := Lib.hid hst
   clear hst
   have hnx : fullS a c (q + 1) = R1.1 := by rw [HNX.out, HR1E.out]
   replace HS1 : Hid (StAt (some (x0.heap.size + 2)) w1 (.agg #[.slice A1 n1 c1, .slice E1 m1 d1, .slice D1 k1 g1]) (fullS a c (q + 1))) := Lib.hid (by rw [hnx]; exact HS1.out)
   clear hnx
   obtain ⟨b0, bf⟩ := HROW.out.get bk hbk
   obtain ⟨NB, hNB⟩ : ∃ NB, fullB a c q bk = NB := ⟨_, rfl⟩
   obtain ⟨MM, hMM⟩ : ∃ MM, fullM a c q = MM := ⟨_, rfl⟩
   have hst := HST2.out
   rw [hNB, hMM] at hst
   rw [hNB] at b0
   have hmr := full_range HA.out HC.out q (by omega)
   rw [hMM] at hmr ⊢
   have HNB := Lib.hid hNB
   have HMM := Lib.hid hMM
   have HST3 := Lib.hid hst
   clear hst hNB hMM
   have bk0 : (0 : Int) ≤ (bk : Int) := by omega
   have bk1 : (bk : Int) < 8 := by omega
   have bkt : (bk : Int).toNat = bk := by omega
   obtain ⟨r0, r1, r2, r3, r4, r5, _⟩ := HR1.out.get
   obtain ⟨t0, t1, t2, _⟩ := HO1.out.get
   obtain ⟨s0, s1, s2, sf⟩ := HO0.out.get
   have sf0 := sf 0
   have sf1 := sf 1
   have sf2 := sf 2
   by_cases hful : 4 ≤ NB
   ·have f4 : (4 : Int) ≤ (NB : Int) := by omega
    have HF := Lib.hid (HST3.out.1 (.inl hful))
    have f0 := HF.out.1
    rw [f0] at r0
    clear f0 hful
    obtain ⟨y4, hy4, hoy, kC, hbC⟩ := HO0.out.three (.slice A1 n1 c1) (.slice E1 m1 d1) (.slice D1 k1 g1)
    have HS2 := Lib.hid (HS1.out.keep3 (kC _ (by decide)) (kC _ (by decide)) (kC _ (by decide)) (kC _ (by decide)))
    have HO2 := Lib.hid hoy
    have HB2 := Lib.hid (hbC w.heap.size w (by omega) HB.out)
    have HRW2 : Hid (RowB y4 (x0.heap.size + 1) (fullB a c (q + 1))) := Lib.hid (by rw [← hy4]; exact RowB.same (row_far3 HROW.out (by omega) _ _ _) HF.out.2.1)
    clear hoy kC hbC sf
    go_wp2_with fail
    go_roundw
    case rel => exact ⟨q + 1, A1, n1, c1, E1, m1, d1, D1, k1, g1, by go_num, by rw [HF.out.2.2], by omega, HO2.out, HS2.out.lower (Nat.zero_le _), HRW2.out, HB2.out⟩
    case measure => simp [intOf]; omega
   ·have f4 : decide ((4 : Int) ≤ (NB : Int)) = false := by rw [decide_eq_false_iff_not]; omega
    by_cases hm32 : 32 ≤ MM
    ·have HF := Lib.hid (HST3.out.1 (.inr hm32))
     have f0 := HF.out.1
     rw [f0] at r0
     clear f0
     obtain ⟨y4, hy4, hoy, kC, hbC⟩ := HO0.out.three (.slice A1 n1 c1) (.slice E1 m1 d1) (.slice D1 k1 g1)
     have HS2 := Lib.hid (HS1.out.keep3 (kC _ (by decide)) (kC _ (by decide)) (kC _ (by decide)) (kC _ (by decide)))
     have HO2 := Lib.hid hoy
     have HB2 := Lib.hid (hbC w.heap.size w (by omega) HB.out)
     have HRW2 : Hid (RowB y4 (x0.heap.size + 1) (fullB a c (q + 1))) := Lib.hid (by rw [← hy4]; exact RowB.same (row_far3 HROW.out (by omega) _ _ _) HF.out.2.1)
     clear hoy kC hbC sf
     go_wp2_with fail
     go_roundw
     case rel => exact ⟨q + 1, A1, n1, c1, E1, m1, d1, D1, k1, g1, by go_num, by rw [HF.out.2.2], by omega, HO2.out, HS2.out.lower (Nat.zero_le _), HRW2.out, HB2.out⟩
     case measure => simp [intOf]; omega
    ·have f5 : decide ((32 : Int) ≤ MM) = false := by rw [decide_eq_false_iff_not]; exact hm32
     have HF := Lib.hid (HST3.out.2 (by omega) (by omega))
     have f0 := HF.out.1
     rw [f0] at r0
     clear f0
     obtain ⟨z1, hz1⟩ : ∃ z1, w1.setCell ⟨x0.heap.size + 1, bk, none⟩ (.int .i64 ((NB : Int) + 1)) = z1 := ⟨_, rfl⟩
     have hR2 : RowB z1 (x0.heap.size + 1) (fullB a c (q + 1)) := by rw [← hz1, ← HNB.out]; exact HROW.out.set bk hbk HF.out.2.1
     have hO2 : OutAt z1 x0.heap.size (.slice A0 n0 c0) (.slice E0 m0 d0) (.slice D0 k0 g0) := by rw [← hz1]; exact row_far HO0.out (by omega)
     have hO3 : OutAt z1 x1.heap.size (.slice A1 n1 c1) (.slice E1 m1 d1) (.slice D1 k1 g1) := by rw [← hz1]; exact row_far HO1.out (by omega)
     have hcur : ∃ cur, w1.heap[x0.heap.size]? = some (.cells cur 27 (0, 0)) := ⟨_, HO0.out⟩
     have hS2 : StAt (some (x0.heap.size + 2)) z1 (.agg #[.slice A1 n1 c1, .slice E1 m1 d1, .slice D1 k1 g1]) (fullS a c (q + 1)) := by rw [← hz1]; exact HS1.out.lowset (by omega) _ _
     have hB2 : Below w.heap.size w z1 := by rw [← hz1]; exact HB.out.setCell (by show w.heap.size ≤ x0.heap.size + 1; omega) _
     obtain ⟨s0, s1, s2, sf⟩ := hO2.get
     have sf0 := sf 0
     have sf1 := sf 1
     have sf2 := sf 2
     obtain ⟨t0, t1, t2, _⟩ := hO3.get
     obtain ⟨y4, hy4, hoy, kC, hbC⟩ := hO2.three (.slice A1 n1 c1) (.slice E1 m1 d1) (.slice D1 k1 g1)
     have HS2 := Lib.hid (hS2.keep3 (kC _ (by decide)) (kC _ (by decide)) (kC _ (by decide)) (kC _ (by decide)))
     have HO2 := Lib.hid hoy
     have HB2 := Lib.hid (hbC w.heap.size w (by omega) hB2)
     have HRW2 : Hid (RowB y4 (x0.heap.size + 1) (fullB a c (q + 1))) := Lib.hid (by rw [← hy4]; exact row_far3 hR2 (by omega) _ _ _)
     clear hR2 hO2 hO3 hS2 hB2 hcur hoy kC hbC sf
     have hmw : IntKind.i64.wrap (MM + 1) = MM + 1 := IntWalk.i64_in _ (by omega)
     have hnw : IntKind.i64.wrap ((NB : Int) + 1) = (NB : Int) + 1 := IntWalk.i64_in _ (by omega)
     go_wp2_with fail
     go_roundw
     case rel => exact ⟨q + 1, A1, n1, c1, E1, m1, d1, D1, k1, g1, by go_num, by rw [HF.out.2.2], by omega, HO2.out, HS2.out.lower (Nat.zero_le _), HRW2.out, HB2.out⟩
     case measure => simp [intOf]; omega
  ·have e9 : q = 60 := by omega
   subst e9
   obtain ⟨fe1, fe2, fe3⟩ := full_end HA.out HC.out
   have HE := Lib.hid fe1
   obtain ⟨i0, i1, i2, _⟩ := HO0.out.get
   go_wp2_with fail
   have hmy := mmay_any (.agg #[.slice A0 n0 c0, .slice E0 m0 d0, .slice D0 k0 g0]) (fullS a c 60) wr HS0.out.weak
   rw [HE.out] at hmy
   refine hmy.mono ?_
   clear hmy
   rintro e5 y5 ⟨rfl, hb⟩
   replace HO0 := Lib.hid (HO0.out.mv hb)
   replace HROW := Lib.hid (HROW.out.mv hb)
   replace HS0 := Lib.hid (HS0.out.below hb)
   replace HB := Lib.hid (Cv.next HB.out hb)
   clear i0 i1 i2
   clear hb
   obtain ⟨A9, n9, c9, E9, m9, d9, D9, k9, e9, hv9, -, -, hM9, -⟩ := HS0.out.at_
   simp only [Value.agg.injEq, Array.mk.injEq, List.cons.injEq, Value.slice.injEq] at hv9
   obtain ⟨⟨rfl, rfl, rfl⟩, ⟨rfl, rfl, rfl⟩, ⟨rfl, rfl, rfl⟩, _⟩ := hv9
   have hk2 : k0 = 2 := by rw [← hM9.1]; exact fe2
   subst hk2
   obtain ⟨gm, off, rfl, hgl, -, hcm⟩ := hM9.2 (by omega)
   have hc2 := HC.out
   obtain ⟨dd, hdd⟩ : ∃ dd, 1 - c = dd := ⟨_, rfl⟩
   have mc := hcm c _ (getD_some (l := (fullS a c 60).made) (i := c) (by omega))
   have md := hcm dd _ (getD_some (l := (fullS a c 60).made) (i := dd) (by omega))
   rw [hdd] at fe3
   rw [fe3] at md
   have hMM : (fullS a c 60).made.getD c 0 = fullM a c 60 := rfl
   rw [hMM] at mc
   obtain ⟨MM, hMM2⟩ : ∃ MM, fullM a c 60 = MM := ⟨_, rfl⟩
   rw [hMM2] at mc ⊢
   have wd : IntKind.i64.wrap (1 - (c : Int)) = (dd : Int) := by rw [IntWalk.i64_in _ (by omega)]; omega
   have ci0 : (0 : Int) ≤ (c : Int) := by omega
   have ci1 : (c : Int) < 2 := by omega
   have di0 : (0 : Int) ≤ (dd : Int) := by omega
   have di1 : (dd : Int) < 2 := by omega
   have ct : (c : Int).toNat = c := by omega
   have dt : (dd : Int).toNat = dd := by omega
   clear hcm hMM hMM2 fe1 fe2 fe3 hM9
   obtain ⟨i0, i1, i2, _⟩ := HO0.out.get
   go_wp2_with fail
   go_ret
   exact ⟨rfl, HB.out⟩
end Go.Proofs.YtndcloohcfhejaaGreat
