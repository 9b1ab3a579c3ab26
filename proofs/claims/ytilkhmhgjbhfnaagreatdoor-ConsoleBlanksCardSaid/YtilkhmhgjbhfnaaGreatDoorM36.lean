/- Parts of the proof, side by side: MoDo0, MoDo. -/
import Derived.Test.YtilkhmhgjbhfnaaGreatDoorM33
import Derived.Test.YtilkhmhgjbhfnaaGreatDoorM35
import Derived.Deep.RegionHeld3
set_option linter.unusedVariables false
set_option linter.unusedSimpArgs false
namespace Go.Proofs.YtilkhmhgjbhfnaaGreatDoor
open Go.RowKit
theorem do_start (A : Option Addr) (n c' : Nat) (E : Option Addr) (m d : Nat) (D : Option Addr) (k e : Nat) (s : St) (c : Ca) (w : World) (h : StAt none w (.agg #[.slice A n c', .slice E m d, .slice D k e]) s) :
  ∃ W W2 W3 W4, w.alloc (.cells #[.slice A n c', .slice E m d, .slice D k e] 31) = W ∧ W.alloc (.cells #[.int .i64 c.kind, .int .i64 c.core, .int .i64 c.fd, .int .i64 c.off, .int .i64 c.num, .string c.path, .string c.path2, .string c.data] 73) = W2 ∧
   W2.alloc (.cells #[.slice none 0 0, .slice none 0 0, .slice none 0 0] 31) = W3 ∧ W3.alloc (.cells #[.int .i64 0, .int .i64 0, .int .i64 0, .bool false, .string ⟨#[]⟩, .slice none 0 0] 87) = W4 ∧
   W.heap.size = w.heap.size + 1 ∧ W2.heap.size = w.heap.size + 2 ∧ W3.heap.size = w.heap.size + 3 ∧ W4.heap.size = w.heap.size + 4 ∧
   StAt none W4 (.agg #[.slice A n c', .slice E m d, .slice D k e]) s ∧ OutAt W4 w.heap.size (.slice A n c') (.slice E m d) (.slice D k e) ∧ W4.heap[w.heap.size + 1]? = some (caRow c) ∧
   OutAt W4 (w.heap.size + 2) (.slice none 0 0) (.slice none 0 0) (.slice none 0 0) ∧ ResAt W4 (w.heap.size + 3) (.int .i64 0) (.int .i64 0) (.int .i64 0) (.bool false) (.string ⟨#[]⟩) (.slice none 0 0) ∧ Below w.heap.size w W4 := by
 obtain ⟨W, hW⟩ : ∃ W, w.alloc (.cells #[.slice A n c', .slice E m d, .slice D k e] 31) = W := ⟨_, rfl⟩
 have l1 : Below w.heap.size w W := by rw [← hW]; exact (Below.refl _ _).alloc (Nat.le_refl _) _
 have o1 : OutAt W w.heap.size (.slice A n c') (.slice E m d) (.slice D k e) := by rw [← hW]; exact heap_alloc_new w _
 have z1 : W.heap.size = w.heap.size + 1 := by rw [← hW]; simp
 obtain ⟨W2, hW2, hbc, l2, z2⟩ := box_ca W c
 obtain ⟨W3, hW3⟩ : ∃ W3, W2.alloc (.cells #[.slice none 0 0, .slice none 0 0, .slice none 0 0] 31) = W3 := ⟨_, rfl⟩
 have l3 : Below W2.heap.size W2 W3 := by rw [← hW3]; exact (Below.refl _ _).alloc (Nat.le_refl _) _
 have z3 : W3.heap.size = W2.heap.size + 1 := by rw [← hW3]; simp
 have o3 : OutAt W3 W2.heap.size (.slice none 0 0) (.slice none 0 0) (.slice none 0 0) := by rw [← hW3]; exact heap_alloc_new W2 _
 obtain ⟨W4, hW4⟩ : ∃ W4, W3.alloc (.cells #[.int .i64 0, .int .i64 0, .int .i64 0, .bool false, .string ⟨#[]⟩, .slice none 0 0] 87) = W4 := ⟨_, rfl⟩
 have l4 : Below W3.heap.size W3 W4 := by rw [← hW4]; exact (Below.refl _ _).alloc (Nat.le_refl _) _
 have z4 : W4.heap.size = W3.heap.size + 1 := by rw [← hW4]; simp
 have r4 : ResAt W4 W3.heap.size (.int .i64 0) (.int .i64 0) (.int .i64 0) (.bool false) (.string ⟨#[]⟩) (.slice none 0 0) := by rw [← hW4]; exact heap_alloc_new W3 _
 have l24 := Cv.next l3 l4
 have l14 := Cv.next l2 l24
 have l04 := Cv.next l1 l14
 refine ⟨W, W2, W3, W4, hW, hW2, hW3, hW4, z1, by omega, by omega, by omega, h.below l04, (l14.block w.heap.size (by omega)).trans o1, ?_, ?_, ?_, l04⟩
 ·rw [← z1]
  exact (l24.block W.heap.size (by omega)).trans hbc
 ·rw [show w.heap.size + 2 = W2.heap.size by omega]
  exact (l4.block W2.heap.size (by omega)).trans o3
 ·rw [show w.heap.size + 3 = W3.heap.size by omega]
  exact r4
theorem do_results (tmps : Array Value) (g4 g5 : Nat) (a b d x0 x1 x2 x3 x4 x5 : Value) (w : World) (h4 : tmps.getD 4 undef = .pointer (some ⟨g4, 0, none⟩)) (h5 : tmps.getD 5 undef = .pointer (some ⟨g5, 0, none⟩)) (hO : OutAt w g4 a b d) (hR : ResAt w g5 x0 x1 x2 x3 x4 x5) :
  (results Tryz.f40 tmps).run Tryz.prog w = .ok (.tuple #[.agg #[a, b, d], .agg #[x0, x1, x2, x3, x4, x5]]) w := by
 rw [results_cells rfl, h4, h5]
 have hl1 := run_loadVar_row (P := Tryz.prog) w g4 _ 31 _ (0, 0) _ hO Tryz.underlying31 rfl (by kernel_rfl)
 have hl2 := run_loadVar_row (P := Tryz.prog) w g5 _ 87 _ (0, 0) _ hR Tryz.underlying87 rfl (by kernel_rfl)
 simp [asAddr, hl1, hl2, Result.andThen]
theorem RowAt.nmsB {B : Nat} {w : World} {v : Value} {n : Nat} {ns : List ByteArray} (h : RowAt B w 9 1 v n (ns.map bstrV)) : ∃ A c, v = .slice A n c ∧ SlOk A n c ∧ NmsAt (some B) w A n ns := by
 obtain ⟨A, c, hv, hok⟩ := h.slice
 have hl : ns.length = n := by have h1 := h.1; simpa using h1
 refine ⟨A, c, hv, hok, hl, fun h0 => ?_⟩
 obtain ⟨g, c', hv', hlt, hm, hc⟩ := h.mine h0
 rw [hv] at hv'
 injection hv' with e1 _ _
 refine ⟨g, 0, e1, hlt, hm, fun j e he => ?_⟩
 rw [Nat.zero_add]
 exact hc _ _ (by rw [List.getElem?_map, he]; rfl)
theorem nms_nil (lo : Option Nat) (w : World) : NmsAt lo w none 0 [] := ⟨rfl, fun h => absurd h (by omega)⟩
theorem mayC_good {s : St} {c : Ca} (h : mayC s c = true) : Good s ∧ 0 ≤ c.kind ∧ c.kind ≤ 16 ∧ 0 ≤ c.core ∧ c.core < (s.made.length : Int) := by
 unfold mayC at h
 simp only [Bool.and_eq_true, decide_eq_true_eq] at h
 exact ⟨(good_iff s).1 h.2, h.1.1.1.1, h.1.1.1.2, h.1.1.2, h.1.2⟩
theorem mayC_bad {s : St} {c : Ca} (h : mayC s c = false) : doV s c = (s, { code := 9 }) := by
 unfold doV doF
 rw [if_pos]
 unfold mayC at h
 simp only [Bool.and_eq_false_iff, decide_eq_false_iff_not] at h
 rcases h with (((h | h) | h) | h) | h
 ·exact .inr (.inr (.inr (.inl (by omega))))
 ·exact .inr (.inr (.inr (.inr (by omega))))
 ·exact .inr (.inl (by omega))
 ·exact .inr (.inr (.inl (by omega)))
 ·exact .inl h
set_option maxRecDepth 100000 in
set_option maxHeartbeats 4000000 in
theorem mDo_no (v : Value) (s : St) (c : Ca) (w : World) (h : StAt none w v s) (hno : mayC s c = false) :
  Calls Tryz.prog 40 #[v, caV c] w fun e w' => ∃ zs vI vO vM rv, e = .returned (.tuple #[.agg #[vI, vO, vM], rv]) ∧ OwnR w.heap.size w' (doV s c).1 zs vI vO vM ∧ ResIs (some w.heap.size) w' rv (doV s c).2 ∧ Below w.heap.size w w' := by
 rw [mayC_bad hno]
 obtain ⟨A, n, c', E, m, d, D, k, e, rfl, _⟩ := h.at_
 obtain ⟨W, W2, W3, W4, hW, hW2, hW3, hW4, z1, z2, z3, z4, hst, ho0, hca, ho2, hr3, hbel⟩ := do_start A n c' E m d D k e s c w h
 have HST := Lib.hid hst
 have HO0 := Lib.hid ho0
 have HCA := Lib.hid hca
 have HO2 := Lib.hid ho2
 have HR3 := Lib.hid hr3
 have HB := Lib.hid hbel
 obtain ⟨p0, p1, p2, _⟩ := ho0.get
 have hmf : ∀ (fn : Fn) (first cap : Array Value) (w : World), (Instr.makeFunc fn first cap).run Tryz.prog w = .ok (.func fn first cap) w := fun _ _ _ _ => rfl
 unfold caV
 clear h hst ho0 hca ho2 hr3 hbel
 go_enter_defers Tryz.func40, Tryz.ntmps40
 go_wp2_with fail
 refine (mmayc_any w.heap.size (w.heap.size + 1) A n c' E m d D k e s c W4 HO0.out HST.out HCA.out).mono ?_
 rintro e5 w5 ⟨rfl, hb5⟩
 rw [hno]
 have q0 := (hb5.cell (p := ⟨w.heap.size, 0, none⟩) (by show w.heap.size < _; omega)).trans p0
 have q1 := (hb5.cell (p := ⟨w.heap.size, 1, none⟩) (by show w.heap.size < _; omega)).trans p1
 have q2 := (hb5.cell (p := ⟨w.heap.size, 2, none⟩) (by show w.heap.size < _; omega)).trans p2
 have HB5 := Lib.hid hb5
 have hs5 := hb5.size
 clear hb5 p0 p1 p2 hW hW2 hW3 hW4
 go_wp2_with fail
 refine (mclone_any _ s w5 (HST.out.below HB5.out)).mono ?_
 rintro e6 w6 ⟨zs, vI, vO, vM, rfl, hown6, hb6⟩
 obtain ⟨A1, c1, rfl, _⟩ := hown6.rowI.slice
 obtain ⟨A2, c2, rfl, _⟩ := hown6.rowO.slice
 obtain ⟨A3, c3, rfl, _⟩ := hown6.rowM.slice
 have hbw : Below W4.heap.size W4 w6 := Cv.next HB5.out hb6
 have hO6 : OutAt w6 (w.heap.size + 2) _ _ _ := (hbw.block (w.heap.size + 2) (by omega)).trans HO2.out
 have hR6 : ResAt w6 (w.heap.size + 3) _ _ _ _ _ _ := (hbw.block (w.heap.size + 3) (by omega)).trans HR3.out
 obtain ⟨x0, x1, x2, xf⟩ := hO6.get
 obtain ⟨U4, hU4, hr4, hk4, hB4⟩ := hO6.three (.slice A1 zs.length c1) (.slice A2 s.opn.length c2) (.slice A3 s.made.length c3)
 have hRU : ResAt U4 (w.heap.size + 3) _ _ _ _ _ _ := (((hk4 87 (by decide)).same (w.heap.size + 3) _ hR6)).trans hR6
 obtain ⟨y0, y1, y2, y3, y4, y5, yf⟩ := hRU.get
 obtain ⟨U6, hU6, hr6, hk6, hB6, hs6, _⟩ := hRU.six (.int .i64 9) (.int .i64 0) (.int .i64 0) (.bool false) (.string ⟨#[]⟩) (.slice none 0 0)
 have hO9 : OutAt U6 (w.heap.size + 2) _ _ _ := (hs6 (w.heap.size + 2) (by omega)).trans hr4
 have hown9 : OwnR w.heap.size U6 s zs (.slice A1 zs.length c1) (.slice A2 s.opn.length c2) (.slice A3 s.made.length c3) := ((hown6.lower (by omega)).keep (hk4 _ (by decide)) (hk4 _ (by decide)) (hk4 _ (by decide)) (hk4 _ (by decide))).keep (hk6 _ (by decide)) (hk6 _ (by decide)) (hk6 _ (by decide)) (hk6 _ (by decide))
 have hBF : Below w.heap.size w U6 := hB6 _ w (by omega) (hB4 _ w (by omega) (Cv.next HB.out hbw))
 have HF := Lib.hid (And.intro hO9 (And.intro hown9 (And.intro hr6 hBF)))
 clear hO9 hown9 hBF hr6 hk6 hB6 hs6 hr4 hk4 hB4 hRU hown6 hb6 hbw hO6 hR6
 go_wp2_with fail
 exact ⟨_, do_results _ _ _ _ _ _ _ _ _ _ _ _ U6 rfl rfl HF.out.1 HF.out.2.2.1, zs, _, _, _, _, rfl, HF.out.2.1, ⟨none, 0, 0, rfl, ⟨Nat.le_refl _, fun _ => rfl⟩, nms_nil _ _⟩, HF.out.2.2.2⟩
set_option maxRecDepth 100000 in
set_option maxHeartbeats 8000000 in
theorem mDo_yes (v : Value) (s : St) (c : Ca) (w : World) (h : StAt none w v s) (hyes : mayC s c = true) (hp1 : c.path.size ≤ 140737488355328) (hp2 : c.path2.size ≤ 140737488355328) (hds : c.data.size ≤ 140737488355328) :
  Calls Tryz.prog 40 #[v, caV c] w fun e w' => ∃ zs vI vO vM rv, e = .returned (.tuple #[.agg #[vI, vO, vM], rv]) ∧ OwnR w.heap.size w' (doV s c).1 zs vI vO vM ∧ ResIs (some w.heap.size) w' rv (doV s c).2 ∧ Below w.heap.size w w' := by
 obtain ⟨hgood, hk0, hk1, hc0, hc1⟩ := mayC_good hyes
 have hrun := fun B q p zs vI vO vM w hN => mrun_all B q p s c zs vI vO vM w hN hgood hp1 hp2 hds hk0 hk1 hc0 hc1
 obtain ⟨R, hR⟩ : ∃ R, doV s c = R := ⟨_, rfl⟩
 have hfail := doV_fail s c
 rw [hR] at hfail
 simp only [hR] at hrun
 rw [hR]
 have HFAIL := Lib.hid hfail
 have HRUN := Lib.hid hrun
 obtain ⟨A, n, c', E, m, d, D, k, e, rfl, _⟩ := h.at_
 obtain ⟨W, W2, W3, W4, hW, hW2, hW3, hW4, z1, z2, z3, z4, hst, ho0, hca, ho2, hr3, hbel⟩ := do_start A n c' E m d D k e s c w h
 have HST := Lib.hid hst
 have HO0 := Lib.hid ho0
 have HCA := Lib.hid hca
 have HO2 := Lib.hid ho2
 have HR3 := Lib.hid hr3
 have HB := Lib.hid hbel
 have HMC := Lib.hid hyes
 obtain ⟨p0, p1, p2, _⟩ := ho0.get
 have hmf : ∀ (fn : Fn) (first cap : Array Value) (w : World), (Instr.makeFunc fn first cap).run Tryz.prog w = .ok (.func fn first cap) w := fun _ _ _ _ => rfl
 unfold caV
 clear h hst ho0 hca ho2 hr3 hbel hgood hk0 hk1 hc0 hc1 hrun hfail hR hyes hp1 hp2 hds
 go_enter_defers Tryz.func40, Tryz.ntmps40
 go_wp2_with fail
 refine (mmayc_any w.heap.size (w.heap.size + 1) A n c' E m d D k e s c W4 HO0.out HST.out HCA.out).mono ?_
 rintro e5 w5 ⟨rfl, hb5⟩
 rw [HMC.out]
 have q0 := (hb5.cell (p := ⟨w.heap.size, 0, none⟩) (by show w.heap.size < _; omega)).trans p0
 have q1 := (hb5.cell (p := ⟨w.heap.size, 1, none⟩) (by show w.heap.size < _; omega)).trans p1
 have q2 := (hb5.cell (p := ⟨w.heap.size, 2, none⟩) (by show w.heap.size < _; omega)).trans p2
 have HB5 := Lib.hid hb5
 have hs5 := hb5.size
 clear hb5 p0 p1 p2 hW hW2 hW3 hW4
 go_wp2_with fail
 refine (mclone_any _ s w5 (HST.out.below HB5.out)).mono ?_
 rintro e6 w6 ⟨zs, vI, vO, vM, rfl, hown6, hb6⟩
 obtain ⟨A1, c1, rfl, _⟩ := hown6.rowI.slice
 obtain ⟨A2, c2, rfl, _⟩ := hown6.rowO.slice
 obtain ⟨A3, c3, rfl, _⟩ := hown6.rowM.slice
 have hs6 := hb6.size
 have hbw : Below W4.heap.size W4 w6 := Cv.next HB5.out hb6
 obtain ⟨V1, hV1⟩ : ∃ V1, w6.alloc (.cells #[.slice A1 zs.length c1, .slice A2 s.opn.length c2, .slice A3 s.made.length c3] 31) = V1 := ⟨_, rfl⟩
 have l1 : Below w6.heap.size w6 V1 := by rw [← hV1]; exact (Below.refl _ _).alloc (Nat.le_refl _) _
 have o1 : OutAt V1 w6.heap.size (.slice A1 zs.length c1) (.slice A2 s.opn.length c2) (.slice A3 s.made.length c3) := by rw [← hV1]; exact heap_alloc_new w6 _
 have y1 : V1.heap.size = w6.heap.size + 1 := by rw [← hV1]; simp
 obtain ⟨V2, hV2⟩ : ∃ V2, V1.alloc (.cells #[.pointer (some ⟨w6.heap.size, 0, none⟩), .int .i64 c.kind, .int .i64 c.core, .int .i64 c.fd, .int .i64 c.off, .int .i64 c.num, .string c.path, .string c.path2, .string c.data, .int .i64 0, .int .i64 0, .int .i64 0, .bool false, .string ⟨#[]⟩, .slice none 0 0] 125) = V2 := ⟨_, rfl⟩
 have l2 : Below V1.heap.size V1 V2 := by rw [← hV2]; exact (Below.refl _ _).alloc (Nat.le_refl _) _
 have hdoer : DoerAt V2 (w6.heap.size + 1) w6.heap.size c 0 0 false ⟨#[]⟩ (.slice none 0 0) := ⟨by rw [← y1, ← hV2]; exact heap_alloc_new V1 _⟩
 have hown2 : Own2 w5.heap.size V2 w6.heap.size s zs (.slice A1 zs.length c1) (.slice A2 s.opn.length c2) (.slice A3 s.made.length c3) := OwnR.own2 ((hown6.below l1).below l2) hs6 ((l2.block w6.heap.size (by omega)).trans o1)
 have l12 := Cv.next l1 l2
 have hnow : Now w5.heap.size (w6.heap.size + 1) w6.heap.size s c zs (.slice A1 zs.length c1) (.slice A2 s.opn.length c2) (.slice A3 s.made.length c3) V2 V2 := ⟨Nat.le_trans hs6 l12.size, by omega, Below.refl _ _, hown2, hdoer⟩
 have hcall := HRUN.out _ _ _ _ _ _ _ V2 hnow
 have HCALL := Lib.hid hcall
 have HB52 := Lib.hid ((Cv.next hb6 l12 : Below w5.heap.size w5 V2))
 have hca6 : w6.heap[w.heap.size + 1]? = some (caRow c) := (hbw.block _ (by omega)).trans HCA.out
 unfold caRow at hca6
 have k0 : w6.cell? ⟨w.heap.size + 1, 0, none⟩ = some (.int .i64 c.kind) := by rw [cell_of_row w6 _ _ _ _ (0, 0) hca6]; rfl
 have k1 : w6.cell? ⟨w.heap.size + 1, 1, none⟩ = some (.int .i64 c.core) := by rw [cell_of_row w6 _ _ _ _ (0, 0) hca6]; rfl
 have k2 : w6.cell? ⟨w.heap.size + 1, 2, none⟩ = some (.int .i64 c.fd) := by rw [cell_of_row w6 _ _ _ _ (0, 0) hca6]; rfl
 have k3 : w6.cell? ⟨w.heap.size + 1, 3, none⟩ = some (.int .i64 c.off) := by rw [cell_of_row w6 _ _ _ _ (0, 0) hca6]; rfl
 have k4 : w6.cell? ⟨w.heap.size + 1, 4, none⟩ = some (.int .i64 c.num) := by rw [cell_of_row w6 _ _ _ _ (0, 0) hca6]; rfl
 have k5 : w6.cell? ⟨w.heap.size + 1, 5, none⟩ = some (.string c.path) := by rw [cell_of_row w6 _ _ _ _ (0, 0) hca6]; rfl
 have k6 : w6.cell? ⟨w.heap.size + 1, 6, none⟩ = some (.string c.path2) := by rw [cell_of_row w6 _ _ _ _ (0, 0) hca6]; rfl
 have k7 : w6.cell? ⟨w.heap.size + 1, 7, none⟩ = some (.string c.data) := by rw [cell_of_row w6 _ _ _ _ (0, 0) hca6]; rfl
 have hl1 : w.heap.size + 1 < w6.heap.size := by omega
 have j0 := (l1.cell (p := ⟨w.heap.size + 1, 0, none⟩) hl1).trans k0
 have j1 := (l1.cell (p := ⟨w.heap.size + 1, 1, none⟩) hl1).trans k1
 have j2 := (l1.cell (p := ⟨w.heap.size + 1, 2, none⟩) hl1).trans k2
 have j3 := (l1.cell (p := ⟨w.heap.size + 1, 3, none⟩) hl1).trans k3
 have j4 := (l1.cell (p := ⟨w.heap.size + 1, 4, none⟩) hl1).trans k4
 have j5 := (l1.cell (p := ⟨w.heap.size + 1, 5, none⟩) hl1).trans k5
 have j6 := (l1.cell (p := ⟨w.heap.size + 1, 6, none⟩) hl1).trans k6
 have j7 := (l1.cell (p := ⟨w.heap.size + 1, 7, none⟩) hl1).trans k7
 clear hown6 hb6 hbw l1 o1 l2 hdoer hown2 l12 hnow hcall hca6 q0 q1 q2 k0 k1 k2 k3 k4 k5 k6 k7
 go_wp2_with fail
 refine HCALL.out.mono ?_
 rintro e7 w7 ⟨hb7, ⟨hc, rfl⟩ | ⟨hc, rfl, ⟨zs7, vI7, vO7, vM7, ho7⟩, nv, hd7, hrow7⟩⟩
 ·have hbw7 : Below w5.heap.size w5 w7 := HB52.out.trans hb7
  have hs7 := hbw7.size
  have hst7 := (HST.out.below HB5.out).below hbw7
  have hO7 : OutAt w7 w.heap.size _ _ _ := (hbw7.block w.heap.size (by omega)).trans ((HB5.out.block w.heap.size (by omega)).trans HO0.out)
  have hO27 : OutAt w7 (w.heap.size + 2) _ _ _ := (hbw7.block (w.heap.size + 2) (by omega)).trans ((HB5.out.block (w.heap.size + 2) (by omega)).trans HO2.out)
  have hR7 : ResAt w7 (w.heap.size + 3) _ _ _ _ _ _ := (hbw7.block (w.heap.size + 3) (by omega)).trans ((HB5.out.block (w.heap.size + 3) (by omega)).trans HR3.out)
  have hBB : Below w.heap.size w w7 := Cv.next HB.out (Cv.next HB5.out hbw7)
  have hrec := recov_panic w.heap.size (w.heap.size + 2) (w.heap.size + 3) A n c' E m d D k e s R.2.code w7 hO7 hst7 hO27 hR7
  go_simp
  refine leaves_cons (f := 64) (args := #[.pointer (some ⟨w.heap.size, 0, none⟩), .pointer (some ⟨w.heap.size + 2, 0, none⟩), .pointer (some ⟨w.heap.size + 3, 0, none⟩)]) (by simp) (by simp [go_sem]) ?_
  refine hrec.mono ?_
  rintro e9 u9 w9 ⟨rfl, rfl, zs9, a9, b9, d9, hO9, hown9, hr9, hbel9⟩
  have hf := HFAIL.out hc
  refine ⟨_, do_results _ _ _ _ _ _ _ _ _ _ _ _ w9 rfl rfl hO9 hr9, zs9, _, _, _, _, rfl, ?_, ?_, hBB.trans (hbel9 _ (by omega) (by omega) (by omega))⟩
  ·rw [hf]
   exact hown9.lower (by omega)
  ·rw [hf]
   exact ⟨none, 0, 0, rfl, ⟨Nat.le_refl _, fun _ => rfl⟩, nms_nil _ _⟩
 ·have hbw7 : Below w5.heap.size w5 w7 := HB52.out.trans hb7
  have hs7 := hbw7.size
  obtain ⟨A7, c7, rfl, _⟩ := ho7.rowI.slice
  obtain ⟨A8, c8, rfl, _⟩ := ho7.rowO.slice
  obtain ⟨A9, c9, rfl, _⟩ := ho7.rowM.slice
  obtain ⟨AN, cN, rfl, hokN, hNN⟩ := hrow7.nmsB
  have hO27 : OutAt w7 (w.heap.size + 2) _ _ _ := (hbw7.block (w.heap.size + 2) (by omega)).trans ((HB5.out.block (w.heap.size + 2) (by omega)).trans HO2.out)
  have hR7 : ResAt w7 (w.heap.size + 3) _ _ _ _ _ _ := (hbw7.block (w.heap.size + 3) (by omega)).trans ((HB5.out.block (w.heap.size + 3) (by omega)).trans HR3.out)
  have s0 := ho7.s0
  have s1 := ho7.s1
  have s2 := ho7.s2
  have t9 : w7.cell? ⟨w6.heap.size + 1, 9, none⟩ = some (.int .i64 0) := by rw [cell_of_row w7 _ _ _ _ (0, 0) hd7.cell]; rfl
  have t10 := hd7.r10
  have t11 := hd7.r11
  have t12 := hd7.r12
  have t13 := hd7.r13
  have t14 := hd7.r14
  have hcR : R.2.code = 0 := hc
  obtain ⟨x0, x1, x2, xf⟩ := hO27.get
  obtain ⟨y0, y1, y2, y3, y4, y5, yf⟩ := hR7.get
  have xf0 := xf 0
  have xf1 := xf 1
  have xf2 := xf 2
  have n1 : w6.heap.size ≠ w.heap.size + 2 := by omega
  have n2 : w6.heap.size ≠ w.heap.size + 3 := by omega
  have n3 : w6.heap.size + 1 ≠ w.heap.size + 2 := by omega
  have n4 : w6.heap.size + 1 ≠ w.heap.size + 3 := by omega
  have n5 : w.heap.size + 2 ≠ w.heap.size + 3 := by omega
  have n1' := Ne.symm n1
  have n2' := Ne.symm n2
  have n3' := Ne.symm n3
  have n4' := Ne.symm n4
  have n5' := Ne.symm n5
  have hlt := hd7.lt
  have HO27 := Lib.hid hO27
  have HR7 := Lib.hid hR7
  have HO7 := Lib.hid ho7
  have HNN := Lib.hid hNN
  have HOK := Lib.hid hokN
  have HBB := Lib.hid ((Cv.next HB.out (Cv.next HB5.out hbw7) : Below w.heap.size w w7))
  clear hO27 hR7 ho7 hNN hokN hbw7 hb7 hd7 hrow7 xf j0 j1 j2 j3 j4 j5 j6 j7 hV1 hV2 HFAIL HRUN
  go_wp2_with fail
  go_region_held3 (fun w' => w'.cell? ⟨w6.heap.size, 0, none⟩ = some (.slice A7 zs7.length c7) ∧ w'.cell? ⟨w6.heap.size, 1, none⟩ = some (.slice A8 R.1.opn.length c8) ∧ w'.cell? ⟨w6.heap.size, 2, none⟩ = some (.slice A9 R.1.made.length c9) ∧
    w'.cell? ⟨w6.heap.size + 1, 9, none⟩ = some (.int .i64 0) ∧ w'.cell? ⟨w6.heap.size + 1, 10, none⟩ = some (.int .i64 R.2.fd) ∧ w'.cell? ⟨w6.heap.size + 1, 11, none⟩ = some (.int .i64 R.2.num) ∧ w'.cell? ⟨w6.heap.size + 1, 12, none⟩ = some (.bool R.2.dir) ∧ w'.cell? ⟨w6.heap.size + 1, 13, none⟩ = some (.string R.2.data) ∧ w'.cell? ⟨w6.heap.size + 1, 14, none⟩ = some (.slice AN R.2.names.length cN))
   (go_keep) (fail)
  obtain ⟨U5, hU5, ho5, k5, b5⟩ := HO27.out.three (.slice A7 zs7.length c7) (.slice A8 R.1.opn.length c8) (.slice A9 R.1.made.length c9)
  have hr5 : ResAt U5 (w.heap.size + 3) _ _ _ _ _ _ := ((k5 _ (by decide)).same (w.heap.size + 3) _ HR7.out).trans HR7.out
  obtain ⟨U6, hU6, hr6, k6, b6, a6, s6⟩ := hr5.six (.int .i64 0) (.int .i64 R.2.fd) (.int .i64 R.2.num) (.bool R.2.dir) (.string R.2.data) (.slice AN R.2.names.length cN)
  have ho6 : OutAt U6 (w.heap.size + 2) _ _ _ := (a6 (w.heap.size + 2) (by omega)).trans ho5
  have hbw : Below w.heap.size w U6 := b6 w.heap.size w (by omega) (b5 w.heap.size w (by omega) HBB.out)
  have hown6 := (HO7.out.ownR.keep (k5 _ (by decide)) (k5 _ (by decide)) (k5 _ (by decide)) (k5 _ (by decide))).keep (k6 _ (by decide)) (k6 _ (by decide)) (k6 _ (by decide)) (k6 _ (by decide))
  rw [hU5, hU6]
  have HO6f := Lib.hid ho6
  have HR6f := Lib.hid hr6
  have HSTf := Lib.hid ((hown6.lower (B' := w.heap.size) (by omega)).below (Below.drew (Below.refl _ _)))
  have HBF := Lib.hid (Below.drew hbw)
  have HNf := Lib.hid (((((HNN.out.keep (k5 _ (by decide))).keep (k6 _ (by decide))).lower (B' := w.heap.size) (by omega))).below (Below.drew (Below.refl _ _)))
  clear hU5 hU6 ho5 k5 b5 hr5 hr6 k6 b6 a6 s6 ho6 hown6 hbw x0 x1 x2 y0 y1 y2 y3 y4 y5 yf xf0 xf1 xf2 t9 t10 t11 t12 t13 t14 s0 s1 s2
  go_wp2_with fail
  refine leaves_cons (f := 64) (args := #[.pointer (some ⟨w.heap.size, 0, none⟩), .pointer (some ⟨w.heap.size + 2, 0, none⟩), .pointer (some ⟨w.heap.size + 3, 0, none⟩)]) (by simp) (by simp [go_sem]) ?_
  refine (recov_idle w.heap.size (w.heap.size + 2) (w.heap.size + 3) U6.drew).mono ?_
  rintro e9 u9 w9 ⟨rfl, rfl, rfl⟩
  exact ⟨_, do_results _ _ _ _ _ _ _ _ _ _ _ _ U6.drew rfl rfl HO6f.out HR6f.out, zs7, _, _, _, _, rfl, HSTf.out, ⟨AN, _, cN, by rw [hcR], HOK.out, HNf.out⟩, HBF.out⟩
theorem mDoR_any (v : Value) (s : St) (c : Ca) (w : World) (h : StAt none w v s) (hp1 : c.path.size ≤ 140737488355328) (hp2 : c.path2.size ≤ 140737488355328) (hds : c.data.size ≤ 140737488355328) :
  Calls Tryz.prog 40 #[v, caV c] w fun e w' => ∃ zs vI vO vM rv, e = .returned (.tuple #[.agg #[vI, vO, vM], rv]) ∧ OwnR w.heap.size w' (doV s c).1 zs vI vO vM ∧ ResIs (some w.heap.size) w' rv (doV s c).2 ∧ Below w.heap.size w w' := by
 cases hm : mayC s c
 ·exact mDo_no v s c w h hm
 ·exact mDo_yes v s c w h hm hp1 hp2 hds
theorem mDo_any (v : Value) (s : St) (c : Ca) (w : World) (h : StAt none w v s) (hp1 : c.path.size ≤ 140737488355328) (hp2 : c.path2.size ≤ 140737488355328) (hds : c.data.size ≤ 140737488355328) :
  Calls Tryz.prog 40 #[v, caV c] w fun e w' => ∃ v' rv, e = .returned (.tuple #[v', rv]) ∧ StAt (some w.heap.size) w' v' (doV s c).1 ∧ ResIs (some w.heap.size) w' rv (doV s c).2 ∧ Below w.heap.size w w' :=
 (mDoR_any v s c w h hp1 hp2 hds).mono fun e w' ⟨zs, vI, vO, vM, rv, he, ho, hr, hb⟩ => ⟨_, rv, he, ho.st, hr, hb⟩
end Go.Proofs.YtilkhmhgjbhfnaaGreatDoor
