/- The law ModelOwn: its walk (printed by wip/gen_own.py). -/
import Derived.Test.YtghlgnklnbcppaaM47
set_option linter.unusedVariables false
set_option linter.unusedSimpArgs false
namespace Go.Proofs.Ytghlgnklnbcppaa
open Go.RowKit
theorem box_re_fd (w : World) (code fd num : Int) (dir : Bool) (data : ByteArray) (F : Option Addr) (f f' : Nat) (z : Int) : ∃ V1 V, w.alloc (.cells #[.int .i64 code, .int .i64 fd, .int .i64 num, .bool dir, .string data, .slice F f f'] 37) = V1 ∧ V1.setCell ⟨w.heap.size, 1, none⟩ (.int .i64 z) = V ∧
    V1.heap.size = w.heap.size + 1 ∧ V1.cell? ⟨w.heap.size, 1, none⟩ = some (.int .i64 fd) ∧ V1.frozen? ⟨w.heap.size, 1, none⟩ = false ∧ ResAt V w.heap.size (.int .i64 code) (.int .i64 z) (.int .i64 num) (.bool dir) (.string data) (.slice F f f') ∧ Below w.heap.size w V := by
  obtain ⟨V1, hV1⟩ : ∃ V1, w.alloc (.cells #[.int .i64 code, .int .i64 fd, .int .i64 num, .bool dir, .string data, .slice F f f'] 37) = V1 := ⟨_, rfl⟩
  have l1 : Below w.heap.size w V1 := by rw [← hV1]; exact (Below.refl _ _).alloc (Nat.le_refl _) _
  have r1 : ResAt V1 w.heap.size (.int .i64 code) (.int .i64 fd) (.int .i64 num) (.bool dir) (.string data) (.slice F f f') := by rw [← hV1]; exact heap_alloc_new w _
  obtain ⟨_, c1, _, _, _, _, fz⟩ := r1.get
  exact ⟨V1, _, hV1, rfl, by rw [← hV1]; simp, c1, fz 1, heap_setCell_same V1 w.heap.size 1 _ _ _ r1, l1.setCell (Nat.le_refl _) _⟩
set_option maxRecDepth 100000 in
set_option maxHeartbeats 16000000 in
theorem modelOwn_walk (v : Value) (s : St) (c : Ca) (w : World) (h : StAt none w v s) (hp1 : c.path.size ≤ 140737488355328) (hp2 : c.path2.size ≤ 140737488355328) (hds : c.data.size ≤ 140737488355328) :
    Calls Try.prog 5 #[v, caV c] w fun e w' => e = .returned (.bool true) ∧ Below w.heap.size w w' := by
  obtain ⟨A, n, c', E, m, d, D, k, e, rfl, _, hD0, _⟩ := h.at_
  have hml : m ≤ 1099511627776 := by have h1 := h.sized.big; have h2 := hD0.1; omega
  obtain ⟨V1, hV1, hz1, ho1, hb1⟩ := box_s w (.slice A n c') (.slice E m d) (.slice D k e)
  obtain ⟨V2, hV2, hc2, hb2, hz2⟩ := box_ca V1 c
  obtain ⟨KD, hKD⟩ : ∃ KD, c.kind = KD := ⟨_, rfl⟩
  have hnm : (doV s c).2.names.length ≤ 1099511627776 := doV_names s c
  have hown := own_allows s c
  have hfd := own_fd s c
  obtain ⟨R, hR⟩ : ∃ R, doV s c = R := ⟨_, rfl⟩
  have hdo := fun u hu => mDo_any (.agg #[.slice A n c', .slice E m d, .slice D k e]) s c u hu hp1 hp2 hds
  have hal := fun rv r u hu hr hn => mallows_any (.agg #[.slice A n c', .slice E m d, .slice D k e]) rv s c r u hu hr hp1 hp2 hds hn
  simp only [hR] at hown hfd hdo hnm
  have HOWN := Lib.hid hown
  have HFD := Lib.hid hfd
  have HNM := Lib.hid hnm
  have HAL := Lib.hid hal
  rw [hz1] at hc2
  have hst0 := (h.below hb1).below hb2
  have hO0 := ho1.mv hb2
  have hB0 : Below w.heap.size w V2 := Cv.next hb1 hb2
  have HDO := Lib.hid hdo
  have HKD := Lib.hid hKD
  have HST := Lib.hid hst0
  have HO := Lib.hid hO0
  have HB := Lib.hid hB0
  have HDS := Lib.hid ((hD0.below hb1).below hb2)
  have HML := Lib.hid hml
  have HC : Hid (V2.heap[w.heap.size + 1]? = _) := Lib.hid hc2
  unfold caV
  clear h hb1 hb2 hnm hR hown hfd hdo hal hst0 hO0 hB0 hKD hp1 hp2 hds hc2 ho1 hD0 hml
  go_enter Try.func5, Try.ntmps5
  go_wp2_with fail
  refine (awake13 V2).mono ?_
  rintro e3 V3 ⟨rfl, hb3⟩
  have HST3 := Lib.hid (HST.out.below hb3)
  have HO3 := Lib.hid (HO.out.mv hb3)
  have HDS3 := Lib.hid (HDS.out.below hb3)
  have HC3 : Hid (V3.heap[w.heap.size + 1]? = _) := Lib.hid ((hb3.block (w.heap.size + 1) (by omega)).trans HC.out)
  have HB3 := Lib.hid (Cv.next HB.out hb3)
  obtain ⟨o0, o1, o2, _⟩ := HO3.out.get
  have hc3 := HC3.out
  have hz3 := hb3.size
  clear hb3
  have k0 : V3.cell? ⟨w.heap.size + 1, 0, none⟩ = some (.int .i64 c.kind) := by rw [cell_of_row V3 _ _ _ _ (0, 0) hc3]; rfl
  have k1 : V3.cell? ⟨w.heap.size + 1, 1, none⟩ = some (.int .i64 c.core) := by rw [cell_of_row V3 _ _ _ _ (0, 0) hc3]; rfl
  have k2 : V3.cell? ⟨w.heap.size + 1, 2, none⟩ = some (.int .i64 c.fd) := by rw [cell_of_row V3 _ _ _ _ (0, 0) hc3]; rfl
  have k3 : V3.cell? ⟨w.heap.size + 1, 3, none⟩ = some (.int .i64 c.off) := by rw [cell_of_row V3 _ _ _ _ (0, 0) hc3]; rfl
  have k4 : V3.cell? ⟨w.heap.size + 1, 4, none⟩ = some (.int .i64 c.num) := by rw [cell_of_row V3 _ _ _ _ (0, 0) hc3]; rfl
  have k5 : V3.cell? ⟨w.heap.size + 1, 5, none⟩ = some (.string c.path) := by rw [cell_of_row V3 _ _ _ _ (0, 0) hc3]; rfl
  have k6 : V3.cell? ⟨w.heap.size + 1, 6, none⟩ = some (.string c.path2) := by rw [cell_of_row V3 _ _ _ _ (0, 0) hc3]; rfl
  have k7 : V3.cell? ⟨w.heap.size + 1, 7, none⟩ = some (.string c.data) := by rw [cell_of_row V3 _ _ _ _ (0, 0) hc3]; rfl
  clear hc3
  go_wp2_with fail
  refine (HDO.out V3 HST3.out).mono ?_
  rintro e4 x4 ⟨v', rv, rfl, hst4, ⟨F, f, f', rfl, hokF, hnF⟩, hb4⟩
  obtain ⟨A4, n4, c4, E4, m4, d4, D4, kk4, g4, rfl, -⟩ := hst4.at_
  obtain ⟨U1, V4, hU1, hU, hy1, hy, hoU, hrU, hbU⟩ := box_sr x4 (.slice A4 n4 c4) (.slice E4 m4 d4) (.slice D4 kk4 g4) R.2.code R.2.fd R.2.num R.2.dir R.2.data F f f'
  have hbb : Below V3.heap.size V3 V4 := Cv.next hb4 hbU
  have HST4 := Lib.hid (HST3.out.below hbb)
  have HO4 := Lib.hid (HO3.out.mv hbb)
  have HDS4 := Lib.hid (HDS3.out.below hbb)
  have HC4 : Hid (V4.heap[w.heap.size + 1]? = _) := Lib.hid ((hbb.block (w.heap.size + 1) (by omega)).trans HC3.out)
  have HB4 := Lib.hid (Cv.next HB3.out hbb)
  have HSR := Lib.hid (hst4.weak.below hbU)
  have HOR := Lib.hid hoU
  have HRR := Lib.hid hrU
  have HNR := Lib.hid (hnF.weak.below hbU)
  have HOK := Lib.hid hokF
  have hz4 := hbb.size
  obtain ⟨p0, p1, p2, _⟩ := HO4.out.get
  obtain ⟨r0, r1, r2, r3, r4, r5, _⟩ := HRR.out.get
  have hc4 := HC4.out
  have l0 : V4.cell? ⟨w.heap.size + 1, 0, none⟩ = some (.int .i64 c.kind) := by rw [cell_of_row V4 _ _ _ _ (0, 0) hc4]; rfl
  have l1 : V4.cell? ⟨w.heap.size + 1, 1, none⟩ = some (.int .i64 c.core) := by rw [cell_of_row V4 _ _ _ _ (0, 0) hc4]; rfl
  have l2 : V4.cell? ⟨w.heap.size + 1, 2, none⟩ = some (.int .i64 c.fd) := by rw [cell_of_row V4 _ _ _ _ (0, 0) hc4]; rfl
  have l3 : V4.cell? ⟨w.heap.size + 1, 3, none⟩ = some (.int .i64 c.off) := by rw [cell_of_row V4 _ _ _ _ (0, 0) hc4]; rfl
  have l4 : V4.cell? ⟨w.heap.size + 1, 4, none⟩ = some (.int .i64 c.num) := by rw [cell_of_row V4 _ _ _ _ (0, 0) hc4]; rfl
  have l5 : V4.cell? ⟨w.heap.size + 1, 5, none⟩ = some (.string c.path) := by rw [cell_of_row V4 _ _ _ _ (0, 0) hc4]; rfl
  have l6 : V4.cell? ⟨w.heap.size + 1, 6, none⟩ = some (.string c.path2) := by rw [cell_of_row V4 _ _ _ _ (0, 0) hc4]; rfl
  have l7 : V4.cell? ⟨w.heap.size + 1, 7, none⟩ = some (.string c.data) := by rw [cell_of_row V4 _ _ _ _ (0, 0) hc4]; rfl
  clear hst4 hokF hnF hb4 hoU hrU hbU hbb hc4 k0 k1 k2 k3 k4 k5 k6 k7 o0 o1 o2
  go_wp2_with fail
  have hal := HAL.out (.agg #[.int .i64 R.2.code, .int .i64 R.2.fd, .int .i64 R.2.num, .bool R.2.dir, .string R.2.data, .slice F f f']) R.2 V4 HST4.out ⟨F, f, f', rfl, HOK.out, HNR.out⟩ HNM.out
  rw [HOWN.out] at hal
  refine hal.mono ?_
  clear hal
  rintro e5 x5 ⟨v5, rfl, hst5, hb5⟩
  obtain ⟨A5, n5, c5, E5, m5, d5, D5, k5, g5, rfl, -⟩ := hst5.at_
  obtain ⟨V5, hV5, hz5, ho5, hbU⟩ := box_s x5 (.slice A5 n5 c5) (.slice E5 m5 d5) (.slice D5 k5 g5)
  have hbb : Below V4.heap.size V4 V5 := Cv.next (show Below V4.heap.size V4 x5 from hb5) hbU
  have HST5 := Lib.hid (HST4.out.below hbb)
  have HSA5 := Lib.hid ((show StAt (some V4.heap.size) x5 _ R.1 from hst5).weak.below hbU)
  have HSR5 := Lib.hid (HSR.out.below hbb)
  have HO5 := Lib.hid (HO4.out.mv hbb)
  have HOA5 := Lib.hid ho5
  have HOR5 := Lib.hid (HOR.out.mv hbb)
  have HRR5 := Lib.hid (HRR.out.mv hbb)
  have HDS5 := Lib.hid (HDS4.out.below hbb)
  have HNR5 := Lib.hid (HNR.out.below hbb)
  have HC5 : Hid (V5.heap[w.heap.size + 1]? = _) := Lib.hid ((hbb.block (w.heap.size + 1) (by omega)).trans HC4.out)
  have HB5 := Lib.hid (Cv.next HB4.out hbb)
  have hz55 := hbb.size
  obtain ⟨a0, a1, a2, _⟩ := HOR5.out.get
  obtain ⟨b0, b1, b2, _⟩ := HOA5.out.get
  clear hst5 hb5 ho5 hbU hbb l0 l1 l2 l3 l4 l5 l6 l7 p0 p1 p2 r0 r1 r2 r3 r4 r5
  go_wp2_with fail
  refine (plain_any _ _ R.1 R.1 V5 HSR5.out HSA5.out).mono ?_
  rintro e6 V6 ⟨rfl, hb6⟩
  rw [plainV_yes rfl]
  have HST6 := Lib.hid (HST5.out.below hb6)
  have HO6 := Lib.hid (HO5.out.mv hb6)
  have HRR6 := Lib.hid (HRR5.out.mv hb6)
  have HDS6 := Lib.hid (HDS5.out.below hb6)
  have HNR6 := Lib.hid (HNR5.out.below hb6)
  have HC6 : Hid (V6.heap[w.heap.size + 1]? = _) := Lib.hid ((hb6.block (w.heap.size + 1) (by omega)).trans HC5.out)
  have HB6 := Lib.hid (Cv.next HB5.out hb6)
  have hz6 := hb6.size
  have hc6 := HC6.out
  have l0 : V6.cell? ⟨w.heap.size + 1, 0, none⟩ = some (.int .i64 KD) := by rw [cell_of_row V6 _ _ _ _ (0, 0) hc6, ← HKD.out]; rfl
  obtain ⟨r0, r1, r2, r3, r4, r5, _⟩ := HRR6.out.get
  obtain ⟨RC, hRC⟩ : ∃ RC, R.2.code = RC := ⟨_, rfl⟩
  have HRC := Lib.hid hRC
  rw [hRC] at r0
  have hm6 : w.heap.size + 2 ≤ V6.heap.size := by omega
  clear hb6 hc6 a0 a1 a2 b0 b1 b2 hRC
  by_cases hk : KD = 2
  rotate_left
  · have qk : (KD != 2) = true := by rw [bne_iff_ne]; exact hk
    clear hk
    go_wp2_with fail
    go_ret
    exact ⟨rfl, HB6.out⟩
  have qk : (KD != 2) = false := by rw [hk]; rfl
  by_cases h0 : RC = 0
  rotate_left
  · have qc : (RC != 0) = true := by rw [bne_iff_ne]; exact h0
    clear hk h0
    go_wp2_with fail
    go_ret
    exact ⟨rfl, HB6.out⟩
  have hfd := HFD.out (HKD.out.trans hk) (HRC.out.trans h0)
  have HFD2 := Lib.hid hfd
  have qc : (RC != 0) = false := by rw [h0]; rfl
  have HR0 := Lib.hid (HRC.out.trans h0)
  clear hfd hk h0
  go_wp2_with fail
  go_loopw [9] (fun j wr => ∃ z : Int, j = .int .i64 z ∧ -1 ≤ z ∧ z ≤ 5 ∧ Below V6.heap.size V6 wr) (fun j _ => (5 - intOf j).toNat)
  case atStart => exact ⟨-1, rfl, by omega, by omega, Below.refl _ _⟩
  case round =>
    obtain ⟨z, rfl, hz0, hz5, hbel⟩ := hrel
    have HBr := Lib.hid hbel
    have hsr := hbel.size
    have HSTr := Lib.hid (HST6.out.below hbel)
    have HOr := Lib.hid (HO6.out.mv hbel)
    have HRRr := Lib.hid (HRR6.out.mv hbel)
    have HDSr := Lib.hid (HDS6.out.below hbel)
    have HNRr := Lib.hid (HNR6.out.below hbel)
    have HCr : Hid (wr.heap[w.heap.size + 1]? = _) := Lib.hid ((hbel.block (w.heap.size + 1) (by omega)).trans HC6.out)
    clear hbel
    by_cases hend : 4 < z
    · have hz : z = 5 := by omega
      subst hz
      go_wp2_with fail
      go_ret
      exact ⟨rfl, Cv.next HB6.out HBr.out⟩
    have qe : decide (z ≤ 4) = true := decide_eq_true (by omega)
    have zw : IntKind.i64.wrap (z + 1) = z + 1 := by rw [IntKind.wrap_i64]; omega
    obtain ⟨s0, s1, s2, _⟩ := HOr.out.get
    have hcr := HCr.out
    have c1r : wr.cell? ⟨w.heap.size + 1, 1, none⟩ = some (.int .i64 c.core) := by rw [cell_of_row wr _ _ _ _ (0, 0) hcr]; rfl
    clear hcr
    have hmr : w.heap.size + 2 ≤ wr.heap.size := by omega
    by_cases hneg : z < 0
    · have qa : decide (0 ≤ z) = false := decide_eq_false (by omega)
      go_wp2_with fail
      go_loopw [10, 11] (fun g j wq => ∃ r : Nat, g = .bool false ∧ j = .int .i64 r ∧ r ≤ m ∧ Below wr.heap.size wr wq) (fun _ j _ => m - (intOf j).toNat)
      case atStart => exact ⟨0, rfl, rfl, by omega, Below.refl _ _⟩
      case round =>
        rename World => wq
        obtain ⟨r, rfl, rfl, hrm, hbq⟩ := hrel
        have HBW := Lib.hid hbq
        have HBq := Lib.hid (Cv.next HBr.out hbq)
        have HSTq := Lib.hid (HSTr.out.below hbq)
        have HOq := Lib.hid (HOr.out.mv hbq)
        have HRRq := Lib.hid (HRRr.out.mv hbq)
        have HDSq := Lib.hid (HDSr.out.below hbq)
        have HNRq := Lib.hid (HNRr.out.below hbq)
        have HCq : Hid (wq.heap[w.heap.size + 1]? = _) := Lib.hid ((hbq.block (w.heap.size + 1) (by omega)).trans HCr.out)
        have hsq := hbq.size
        have qs1 := (hbq.cell (p := ⟨w.heap.size, 1, none⟩) (show w.heap.size < wr.heap.size by omega)).trans s1
        have qc1 := (hbq.cell (p := ⟨w.heap.size + 1, 1, none⟩) (show w.heap.size + 1 < wr.heap.size by omega)).trans c1r
        have rw_ : IntKind.i64.wrap ((r : Int) + 1) = (r : Int) + 1 := by rw [IntKind.wrap_i64]; have := HML.out; omega
        clear hbq
        by_cases hlt : r < m
        · skip
          go_wp2_with fail
          go_quiet (fail)
          go_wp2_with fail
          go_roundw
          case rel => exact ⟨r + 1, rfl, by go_num, by omega, Cv.next HBW.out (Cv.drewN_below (Below.refl _ _) _)⟩
          case measure => simp [intOf]; omega
        · have hrl : r = m := by omega
          subst hrl
          obtain ⟨t0, t1, t2, t3, t4, t5, _⟩ := HRRq.out.get
          obtain ⟨Y1, Y2, hY1, hY2, hyz, hyc, hyf, hrY, hbY⟩ := box_re_fd wq R.2.code R.2.fd R.2.num R.2.dir R.2.data F f f' z
          have HSTy := Lib.hid (HSTq.out.below hbY)
          have HOy := Lib.hid (HOq.out.mv hbY)
          have HCy : Hid (Y2.heap[w.heap.size + 1]? = _) := Lib.hid ((hbY.block (w.heap.size + 1) (by omega)).trans HCq.out)
          have HNRy := Lib.hid (HNRq.out.below hbY)
          have HBy := Lib.hid (Cv.next HBq.out hbY)
          obtain ⟨y0, y1, y2, y3, y4, y5, _⟩ := hrY.get
          obtain ⟨x0, x1, x2, _⟩ := HOy.out.get
          have hcy := HCy.out
          have u0 : Y2.cell? ⟨w.heap.size + 1, 0, none⟩ = some (.int .i64 c.kind) := by rw [cell_of_row Y2 _ _ _ _ (0, 0) hcy]; rfl
          have u1 : Y2.cell? ⟨w.heap.size + 1, 1, none⟩ = some (.int .i64 c.core) := by rw [cell_of_row Y2 _ _ _ _ (0, 0) hcy]; rfl
          have u2 : Y2.cell? ⟨w.heap.size + 1, 2, none⟩ = some (.int .i64 c.fd) := by rw [cell_of_row Y2 _ _ _ _ (0, 0) hcy]; rfl
          have u3 : Y2.cell? ⟨w.heap.size + 1, 3, none⟩ = some (.int .i64 c.off) := by rw [cell_of_row Y2 _ _ _ _ (0, 0) hcy]; rfl
          have u4 : Y2.cell? ⟨w.heap.size + 1, 4, none⟩ = some (.int .i64 c.num) := by rw [cell_of_row Y2 _ _ _ _ (0, 0) hcy]; rfl
          have u5 : Y2.cell? ⟨w.heap.size + 1, 5, none⟩ = some (.string c.path) := by rw [cell_of_row Y2 _ _ _ _ (0, 0) hcy]; rfl
          have u6 : Y2.cell? ⟨w.heap.size + 1, 6, none⟩ = some (.string c.path2) := by rw [cell_of_row Y2 _ _ _ _ (0, 0) hcy]; rfl
          have u7 : Y2.cell? ⟨w.heap.size + 1, 7, none⟩ = some (.string c.data) := by rw [cell_of_row Y2 _ _ _ _ (0, 0) hcy]; rfl
          clear hbY hrY hcy s0 s1 s2 c1r
          go_wp2_with fail
          have hal := HAL.out (.agg #[.int .i64 R.2.code, .int .i64 z, .int .i64 R.2.num, .bool R.2.dir, .string R.2.data, .slice F f f']) { R.2 with fd := z } Y2 HSTy.out ⟨F, f, f', rfl, HOK.out, HNRy.out⟩ HNM.out
          obtain ⟨AV, hAV⟩ : ∃ AV, allowsV s c { R.2 with fd := z } = AV := ⟨_, rfl⟩
          have h2 := HFD2.out z
          rw [hAV, show (decide (0 ≤ z) && decide (z < 4) && s.opn.all (okD c.core z)) = false by rw [qa]; rfl] at h2
          rw [hAV] at hal
          refine hal.mono ?_
          clear hal
          rintro e9 x9 ⟨v9, rfl, hst9, hb9⟩
          obtain ⟨A9, n9, c9, E9, m9, d9, D9, k9, g9, rfl, -⟩ := hst9.at_
          rw [h2]
          have HB9 := Lib.hid (Cv.next HBy.out (show Below Y2.heap.size Y2 x9 from hb9))
          clear hst9 hb9 h2 hAV
          go_wp2_with fail
          go_roundw
          case rel => exact ⟨z + 1, rfl, by omega, by omega, Cv.next HB9.out ((Below.refl _ _).alloc (Nat.le_refl _) _)⟩
          case measure => simp [intOf]; omega
    have qa : decide (0 ≤ z) = true := decide_eq_true (by omega)
    by_cases hbig : 4 ≤ z
    · have qb : decide (z < 4) = false := decide_eq_false (by omega)
      go_wp2_with fail
      go_loopw [10, 11] (fun g j wq => ∃ r : Nat, g = .bool false ∧ j = .int .i64 r ∧ r ≤ m ∧ Below wr.heap.size wr wq) (fun _ j _ => m - (intOf j).toNat)
      case atStart => exact ⟨0, rfl, rfl, by omega, Below.refl _ _⟩
      case round =>
        rename World => wq
        obtain ⟨r, rfl, rfl, hrm, hbq⟩ := hrel
        have HBW := Lib.hid hbq
        have HBq := Lib.hid (Cv.next HBr.out hbq)
        have HSTq := Lib.hid (HSTr.out.below hbq)
        have HOq := Lib.hid (HOr.out.mv hbq)
        have HRRq := Lib.hid (HRRr.out.mv hbq)
        have HDSq := Lib.hid (HDSr.out.below hbq)
        have HNRq := Lib.hid (HNRr.out.below hbq)
        have HCq : Hid (wq.heap[w.heap.size + 1]? = _) := Lib.hid ((hbq.block (w.heap.size + 1) (by omega)).trans HCr.out)
        have hsq := hbq.size
        have qs1 := (hbq.cell (p := ⟨w.heap.size, 1, none⟩) (show w.heap.size < wr.heap.size by omega)).trans s1
        have qc1 := (hbq.cell (p := ⟨w.heap.size + 1, 1, none⟩) (show w.heap.size + 1 < wr.heap.size by omega)).trans c1r
        have rw_ : IntKind.i64.wrap ((r : Int) + 1) = (r : Int) + 1 := by rw [IntKind.wrap_i64]; have := HML.out; omega
        clear hbq
        by_cases hlt : r < m
        · skip
          go_wp2_with fail
          go_quiet (fail)
          go_wp2_with fail
          go_roundw
          case rel => exact ⟨r + 1, rfl, by go_num, by omega, Cv.next HBW.out (Cv.drewN_below (Below.refl _ _) _)⟩
          case measure => simp [intOf]; omega
        · have hrl : r = m := by omega
          subst hrl
          obtain ⟨t0, t1, t2, t3, t4, t5, _⟩ := HRRq.out.get
          obtain ⟨Y1, Y2, hY1, hY2, hyz, hyc, hyf, hrY, hbY⟩ := box_re_fd wq R.2.code R.2.fd R.2.num R.2.dir R.2.data F f f' z
          have HSTy := Lib.hid (HSTq.out.below hbY)
          have HOy := Lib.hid (HOq.out.mv hbY)
          have HCy : Hid (Y2.heap[w.heap.size + 1]? = _) := Lib.hid ((hbY.block (w.heap.size + 1) (by omega)).trans HCq.out)
          have HNRy := Lib.hid (HNRq.out.below hbY)
          have HBy := Lib.hid (Cv.next HBq.out hbY)
          obtain ⟨y0, y1, y2, y3, y4, y5, _⟩ := hrY.get
          obtain ⟨x0, x1, x2, _⟩ := HOy.out.get
          have hcy := HCy.out
          have u0 : Y2.cell? ⟨w.heap.size + 1, 0, none⟩ = some (.int .i64 c.kind) := by rw [cell_of_row Y2 _ _ _ _ (0, 0) hcy]; rfl
          have u1 : Y2.cell? ⟨w.heap.size + 1, 1, none⟩ = some (.int .i64 c.core) := by rw [cell_of_row Y2 _ _ _ _ (0, 0) hcy]; rfl
          have u2 : Y2.cell? ⟨w.heap.size + 1, 2, none⟩ = some (.int .i64 c.fd) := by rw [cell_of_row Y2 _ _ _ _ (0, 0) hcy]; rfl
          have u3 : Y2.cell? ⟨w.heap.size + 1, 3, none⟩ = some (.int .i64 c.off) := by rw [cell_of_row Y2 _ _ _ _ (0, 0) hcy]; rfl
          have u4 : Y2.cell? ⟨w.heap.size + 1, 4, none⟩ = some (.int .i64 c.num) := by rw [cell_of_row Y2 _ _ _ _ (0, 0) hcy]; rfl
          have u5 : Y2.cell? ⟨w.heap.size + 1, 5, none⟩ = some (.string c.path) := by rw [cell_of_row Y2 _ _ _ _ (0, 0) hcy]; rfl
          have u6 : Y2.cell? ⟨w.heap.size + 1, 6, none⟩ = some (.string c.path2) := by rw [cell_of_row Y2 _ _ _ _ (0, 0) hcy]; rfl
          have u7 : Y2.cell? ⟨w.heap.size + 1, 7, none⟩ = some (.string c.data) := by rw [cell_of_row Y2 _ _ _ _ (0, 0) hcy]; rfl
          clear hbY hrY hcy s0 s1 s2 c1r
          go_wp2_with fail
          have hal := HAL.out (.agg #[.int .i64 R.2.code, .int .i64 z, .int .i64 R.2.num, .bool R.2.dir, .string R.2.data, .slice F f f']) { R.2 with fd := z } Y2 HSTy.out ⟨F, f, f', rfl, HOK.out, HNRy.out⟩ HNM.out
          obtain ⟨AV, hAV⟩ : ∃ AV, allowsV s c { R.2 with fd := z } = AV := ⟨_, rfl⟩
          have h2 := HFD2.out z
          rw [hAV, show (decide (0 ≤ z) && decide (z < 4) && s.opn.all (okD c.core z)) = false by rw [qa, qb]; rfl] at h2
          rw [hAV] at hal
          refine hal.mono ?_
          clear hal
          rintro e9 x9 ⟨v9, rfl, hst9, hb9⟩
          obtain ⟨A9, n9, c9, E9, m9, d9, D9, k9, g9, rfl, -⟩ := hst9.at_
          rw [h2]
          have HB9 := Lib.hid (Cv.next HBy.out (show Below Y2.heap.size Y2 x9 from hb9))
          clear hst9 hb9 h2 hAV
          go_wp2_with fail
          go_roundw
          case rel => exact ⟨z + 1, rfl, by omega, by omega, Cv.next HB9.out ((Below.refl _ _).alloc (Nat.le_refl _) _)⟩
          case measure => simp [intOf]; omega
    have qb : decide (z < 4) = true := decide_eq_true (by omega)
    go_wp2_with fail
    go_loopw [10, 11] (fun g j wq => ∃ r : Nat, g = .bool ((s.opn.take r).all (okD c.core z)) ∧ j = .int .i64 r ∧ r ≤ m ∧ Below wr.heap.size wr wq) (fun _ j _ => m - (intOf j).toNat)
    case atStart => exact ⟨0, rfl, rfl, by omega, Below.refl _ _⟩
    case round =>
      rename World => wq
      obtain ⟨r, rfl, rfl, hrm, hbq⟩ := hrel
      have HBW := Lib.hid hbq
      have HBq := Lib.hid (Cv.next HBr.out hbq)
      have HSTq := Lib.hid (HSTr.out.below hbq)
      have HOq := Lib.hid (HOr.out.mv hbq)
      have HRRq := Lib.hid (HRRr.out.mv hbq)
      have HDSq := Lib.hid (HDSr.out.below hbq)
      have HNRq := Lib.hid (HNRr.out.below hbq)
      have HCq : Hid (wq.heap[w.heap.size + 1]? = _) := Lib.hid ((hbq.block (w.heap.size + 1) (by omega)).trans HCr.out)
      have hsq := hbq.size
      have qs1 := (hbq.cell (p := ⟨w.heap.size, 1, none⟩) (show w.heap.size < wr.heap.size by omega)).trans s1
      have qc1 := (hbq.cell (p := ⟨w.heap.size + 1, 1, none⟩) (show w.heap.size + 1 < wr.heap.size by omega)).trans c1r
      have rw_ : IntKind.i64.wrap ((r : Int) + 1) = (r : Int) + 1 := by rw [IntKind.wrap_i64]; have := HML.out; omega
      clear hbq
      by_cases hlt : r < m
      · obtain ⟨go, oo, y, rfl, hgo, hoo, _, hmem, e0, e1, e2⟩ := HDSq.out.get r hlt
        have htk := take_all (core := c.core) (fd := z) hoo
        have kz : (0 : Int) ≤ (r : Int) := by omega
        have kl : (r : Int) < (m : Int) := by omega
        obtain ⟨G, hG⟩ : ∃ G, (s.opn.take r).all (okD c.core z) = G := ⟨_, rfl⟩
        rw [hG] at htk ⊢
        have HTK := Lib.hid htk
        clear htk hG hoo hmem
        cases G
        · skip
          go_wp2_with fail
          go_quiet (fail)
          go_wp2_with fail
          go_roundw
          case rel => exact ⟨r + 1, by rw [HTK.out]; rfl, by go_num, by omega, Cv.next HBW.out (Cv.drewN_below (Below.refl _ _) _)⟩
          case measure => simp [intOf]; omega
        · by_cases hc : y.core = c.core
          · have ga : (y.core != c.core) = false := by rw [hc]; simp
            by_cases hf : y.fd = z
            · have gb : (y.fd != z) = false := by rw [hf]; simp
              have hv : (s.opn.take (r + 1)).all (okD c.core z) = false := by rw [HTK.out]; unfold okD; rw [ga, gb]; rfl
              have HV := Lib.hid hv
              clear hc hf hv
              go_wp2_with fail
              go_quiet (fail)
              go_wp2_with fail
              go_roundw
              case rel => exact ⟨r + 1, by rw [HV.out], by go_num, by omega, Cv.next HBW.out (Cv.drewN_below (Below.refl _ _) _)⟩
              case measure => simp [intOf]; omega
            · have gb : (y.fd != z) = true := by rw [bne_iff_ne]; exact hf
              have hv : (s.opn.take (r + 1)).all (okD c.core z) = true := by rw [HTK.out]; unfold okD; rw [ga, gb]; rfl
              have HV := Lib.hid hv
              clear hc hf hv
              go_wp2_with fail
              go_quiet (fail)
              go_wp2_with fail
              go_roundw
              case rel => exact ⟨r + 1, by rw [HV.out], by go_num, by omega, Cv.next HBW.out (Cv.drewN_below (Below.refl _ _) _)⟩
              case measure => simp [intOf]; omega
          · have ga : (y.core != c.core) = true := by rw [bne_iff_ne]; exact hc
            have hv : (s.opn.take (r + 1)).all (okD c.core z) = true := by rw [HTK.out]; unfold okD; rw [ga]; rfl
            have HV := Lib.hid hv
            clear hc hv
            go_wp2_with fail
            go_quiet (fail)
            go_wp2_with fail
            go_roundw
            case rel => exact ⟨r + 1, by rw [HV.out], by go_num, by omega, Cv.next HBW.out (Cv.drewN_below (Below.refl _ _) _)⟩
            case measure => simp [intOf]; omega
      · have hrl : r = m := by omega
        subst hrl
        have hall : (s.opn.take r).all (okD c.core z) = s.opn.all (okD c.core z) := by rw [List.take_of_length_le (by rw [HDSq.out.1]; exact Nat.le_refl _)]
        rw [hall]
        obtain ⟨G, hG⟩ : ∃ G, s.opn.all (okD c.core z) = G := ⟨_, rfl⟩
        rw [hG]
        have HG := Lib.hid hG
        clear hall hG
        obtain ⟨t0, t1, t2, t3, t4, t5, _⟩ := HRRq.out.get
        obtain ⟨Y1, Y2, hY1, hY2, hyz, hyc, hyf, hrY, hbY⟩ := box_re_fd wq R.2.code R.2.fd R.2.num R.2.dir R.2.data F f f' z
        have HSTy := Lib.hid (HSTq.out.below hbY)
        have HOy := Lib.hid (HOq.out.mv hbY)
        have HCy : Hid (Y2.heap[w.heap.size + 1]? = _) := Lib.hid ((hbY.block (w.heap.size + 1) (by omega)).trans HCq.out)
        have HNRy := Lib.hid (HNRq.out.below hbY)
        have HBy := Lib.hid (Cv.next HBq.out hbY)
        obtain ⟨y0, y1, y2, y3, y4, y5, _⟩ := hrY.get
        obtain ⟨x0, x1, x2, _⟩ := HOy.out.get
        have hcy := HCy.out
        have u0 : Y2.cell? ⟨w.heap.size + 1, 0, none⟩ = some (.int .i64 c.kind) := by rw [cell_of_row Y2 _ _ _ _ (0, 0) hcy]; rfl
        have u1 : Y2.cell? ⟨w.heap.size + 1, 1, none⟩ = some (.int .i64 c.core) := by rw [cell_of_row Y2 _ _ _ _ (0, 0) hcy]; rfl
        have u2 : Y2.cell? ⟨w.heap.size + 1, 2, none⟩ = some (.int .i64 c.fd) := by rw [cell_of_row Y2 _ _ _ _ (0, 0) hcy]; rfl
        have u3 : Y2.cell? ⟨w.heap.size + 1, 3, none⟩ = some (.int .i64 c.off) := by rw [cell_of_row Y2 _ _ _ _ (0, 0) hcy]; rfl
        have u4 : Y2.cell? ⟨w.heap.size + 1, 4, none⟩ = some (.int .i64 c.num) := by rw [cell_of_row Y2 _ _ _ _ (0, 0) hcy]; rfl
        have u5 : Y2.cell? ⟨w.heap.size + 1, 5, none⟩ = some (.string c.path) := by rw [cell_of_row Y2 _ _ _ _ (0, 0) hcy]; rfl
        have u6 : Y2.cell? ⟨w.heap.size + 1, 6, none⟩ = some (.string c.path2) := by rw [cell_of_row Y2 _ _ _ _ (0, 0) hcy]; rfl
        have u7 : Y2.cell? ⟨w.heap.size + 1, 7, none⟩ = some (.string c.data) := by rw [cell_of_row Y2 _ _ _ _ (0, 0) hcy]; rfl
        clear hbY hrY hcy s0 s1 s2 c1r
        go_wp2_with fail
        have hal := HAL.out (.agg #[.int .i64 R.2.code, .int .i64 z, .int .i64 R.2.num, .bool R.2.dir, .string R.2.data, .slice F f f']) { R.2 with fd := z } Y2 HSTy.out ⟨F, f, f', rfl, HOK.out, HNRy.out⟩ HNM.out
        obtain ⟨AV, hAV⟩ : ∃ AV, allowsV s c { R.2 with fd := z } = AV := ⟨_, rfl⟩
        have h2 := HFD2.out z
        rw [hAV, show (decide (0 ≤ z) && decide (z < 4) && s.opn.all (okD c.core z)) = G by rw [qa, qb, HG.out]; rfl] at h2
        rw [hAV] at hal
        refine hal.mono ?_
        clear hal
        rintro e9 x9 ⟨v9, rfl, hst9, hb9⟩
        obtain ⟨A9, n9, c9, E9, m9, d9, D9, k9, g9, rfl, -⟩ := hst9.at_
        rw [h2]
        have HB9 := Lib.hid (Cv.next HBy.out (show Below Y2.heap.size Y2 x9 from hb9))
        clear hst9 hb9 h2 hAV
        cases G
        · skip
          go_wp2_with fail
          go_roundw
          case rel => exact ⟨z + 1, rfl, by omega, by omega, Cv.next HB9.out ((Below.refl _ _).alloc (Nat.le_refl _) _)⟩
          case measure => simp [intOf]; omega
        · skip
          go_wp2_with fail
          go_roundw
          case rel => exact ⟨z + 1, rfl, by omega, by omega, Cv.next HB9.out ((Below.refl _ _).alloc (Nat.le_refl _) _)⟩
          case measure => simp [intOf]; omega
end Go.Proofs.Ytghlgnklnbcppaa
