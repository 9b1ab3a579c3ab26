/- Parts of the proof, side by side: Allows2, Allows3. -/
import Derived.Test.YtkflaifopbodfaaGreatDoorM39
set_option linter.unusedVariables false
set_option linter.unusedSimpArgs false
namespace Go.Proofs.YtkflaifopbodfaaGreatDoor
open Go.RowKit
theorem looksV_names (s : St) (c : Ca) (hg : Good s) : (looksV s c).names.length ≤ 1099511627776 := by
 unfold looksV
 repeat' (first | exact Nat.zero_le _ | split)
 show ((entsOf s.inos (findV s.inos c.path).1).map (·.name)).length ≤ _
 rw [List.length_map]
 unfold entsOf
 split
 ·exact Nat.zero_le _
 ·rename_i x hx
  unfold inoAt at hx
  split at hx
  ·cases hx
  ·have := hg.ents_len (List.mem_of_getElem? hx)
   omega
theorem doV_names (s : St) (c : Ca) : (doV s c).2.names.length ≤ 1099511627776 := by
 unfold doV doF
 split
 ·exact Nat.zero_le _
 ·rename_i h
  have hg : Good s := by
   rw [← good_iff]
   cases hmv : mayV s
   ·exact absurd (.inl hmv) h
   ·rfl
  split
  ·show (make1V s c).2.names.length ≤ _
   rw [make1V_names]; exact Nat.zero_le _
  ·split
   ·show (openedV s c (-1)).2.1.names.length ≤ _
    unfold openedV
    repeat' (first | exact Nat.zero_le _ | split)
   ·split
    ·show (byFdV s c).2.names.length ≤ _
     unfold byFdV
     repeat' (first | exact Nat.zero_le _ | split)
    ·split
     ·show (namesV s c).2.names.length ≤ _
      unfold namesV linkV renameV
      repeat' (first | exact Nat.zero_le _ | split)
     ·split
      ·exact looksV_names s c hg
      ·exact Nat.zero_le _
set_option maxRecDepth 100000 in
set_option maxHeartbeats 8000000 in
theorem mallows_plain (v rv : Value) (s : St) (c : Ca) (r : Re) (w : World) (h : StAt none w v s) (hr : ResIs none w rv r) (hp1 : c.path.size ≤ 140737488355328) (hp2 : c.path2.size ≤ 140737488355328) (hds : c.data.size ≤ 140737488355328) (hrn : r.names.length ≤ 1099511627776)
  (hcase : c.kind ≠ 2 ∨ (doV s c).2.code ≠ 0 ∨ r.fd = (doV s c).2.fd) :
  Calls Tryz.prog 47 #[v, caV c, rv] w (AlOut w (allowsV s c r)) := by
 obtain ⟨AV, hAV⟩ : ∃ AV, allowsV s c r = AV := ⟨_, rfl⟩
 have hpl := allows_plain hcase
 rw [hAV] at hpl
 rw [hAV]
 have hnames : (doV s c).2.names.length ≤ 1099511627776 := doV_names s c
 obtain ⟨R, hR⟩ : ∃ R, doV s c = R := ⟨_, rfl⟩
 have hdo := fun u hu => mDoR_any v s c u hu hp1 hp2 hds
 simp only [hR] at hdo hpl hcase hnames
 obtain ⟨A, n, c', E, m, d, D, k, e, rfl, _⟩ := h.at_
 obtain ⟨F, f, f', rfl, hokF, hnF⟩ := hr
 obtain ⟨W, W2, W3, W4, hW, hW2, hW3, hW4, z1, z2, z3, z4, hst, ho0, hca, hre, hout, hbel⟩ := allows_start A n c' E m d D k e s c r F f f' w h
 have hat : AlAt w W4 A n c' E m d D k e s c r F f f' := ⟨hst, ho0, hca, hre, hout, hbel, by omega⟩
 have hcall := hdo W4 hst
 have HCALL := Lib.hid hcall
 have HAT := Lib.hid hat
 have HNF := Lib.hid (hnF.below hbel)
 have HOKF := Lib.hid hokF
 have HPL := Lib.hid hpl
 have HCASE := Lib.hid hcase
 have HNM := Lib.hid hnames
 have HRN := Lib.hid hrn
 obtain ⟨p0, p1, p2, _⟩ := ho0.get
 have hca' := hca
 unfold caRow at hca'
 obtain ⟨KD, hKD⟩ : ∃ KD, c.kind = KD := ⟨_, rfl⟩
 have HKD := Lib.hid hKD
 have k0 : W4.cell? ⟨w.heap.size + 1, 0, none⟩ = some (.int .i64 c.kind) := by rw [cell_of_row W4 _ _ _ _ (0, 0) hca']; rfl
 have k1 : W4.cell? ⟨w.heap.size + 1, 1, none⟩ = some (.int .i64 c.core) := by rw [cell_of_row W4 _ _ _ _ (0, 0) hca']; rfl
 have k2 : W4.cell? ⟨w.heap.size + 1, 2, none⟩ = some (.int .i64 c.fd) := by rw [cell_of_row W4 _ _ _ _ (0, 0) hca']; rfl
 have k3 : W4.cell? ⟨w.heap.size + 1, 3, none⟩ = some (.int .i64 c.off) := by rw [cell_of_row W4 _ _ _ _ (0, 0) hca']; rfl
 have k4 : W4.cell? ⟨w.heap.size + 1, 4, none⟩ = some (.int .i64 c.num) := by rw [cell_of_row W4 _ _ _ _ (0, 0) hca']; rfl
 have k5 : W4.cell? ⟨w.heap.size + 1, 5, none⟩ = some (.string c.path) := by rw [cell_of_row W4 _ _ _ _ (0, 0) hca']; rfl
 have k6 : W4.cell? ⟨w.heap.size + 1, 6, none⟩ = some (.string c.path2) := by rw [cell_of_row W4 _ _ _ _ (0, 0) hca']; rfl
 have k7 : W4.cell? ⟨w.heap.size + 1, 7, none⟩ = some (.string c.data) := by rw [cell_of_row W4 _ _ _ _ (0, 0) hca']; rfl
 unfold caV at *
 clear h hst ho0 hca hca' hre hout hbel hat hcall hdo hp1 hp2 hds hR hnames hrn hokF hnF hAV hKD hpl hcase
 go_enter Tryz.func47, Tryz.ntmps47
 go_wp2_with fail
 refine HCALL.out.mono ?_
 rintro e5 w5 ⟨zs, vI, vO, vM, gv, rfl, hown5, ⟨GA, gn, gc, rfl, hokG, hnG⟩, hb5⟩
 obtain ⟨A1, c1, rfl, _⟩ := hown5.rowI.slice
 obtain ⟨A2, c2, rfl, _⟩ := hown5.rowO.slice
 obtain ⟨A3, c3, rfl, _⟩ := hown5.rowM.slice
 obtain ⟨V1, hV1⟩ : ∃ V1, w5.alloc (.cells #[.slice A1 zs.length c1, .slice A2 R.1.opn.length c2, .slice A3 R.1.made.length c3] 27) = V1 := ⟨_, rfl⟩
 have l1 : Below w5.heap.size w5 V1 := by rw [← hV1]; exact (Below.refl _ _).alloc (Nat.le_refl _) _
 have o1 : OutAt V1 w5.heap.size (.slice A1 zs.length c1) (.slice A2 R.1.opn.length c2) (.slice A3 R.1.made.length c3) := by rw [← hV1]; exact heap_alloc_new w5 _
 have y1 : V1.heap.size = w5.heap.size + 1 := by rw [← hV1]; simp
 obtain ⟨V2, hV2⟩ : ∃ V2, V1.alloc (.cells #[.int .i64 R.2.code, .int .i64 R.2.fd, .int .i64 R.2.num, .bool R.2.dir, .string R.2.data, .slice GA gn gc] 35) = V2 := ⟨_, rfl⟩
 have l2 : Below V1.heap.size V1 V2 := by rw [← hV2]; exact (Below.refl _ _).alloc (Nat.le_refl _) _
 have r2 : ResAt V2 (w5.heap.size + 1) (.int .i64 R.2.code) (.int .i64 R.2.fd) (.int .i64 R.2.num) (.bool R.2.dir) (.string R.2.data) (.slice GA gn gc) := by rw [← y1, ← hV2]; exact heap_alloc_new V1 _
 have o2 : OutAt V2 w5.heap.size (.slice A1 zs.length c1) (.slice A2 R.1.opn.length c2) (.slice A3 R.1.made.length c3) := (l2.block _ (by omega)).trans o1
 have l12 := Cv.next l1 l2
 have hs5 := HAT.out.sz
 have hs45 := hb5.size
 have HA2 := Lib.hid ((HAT.out.below hb5).below l12)
 have hown2 := hown5.below l12
 have HOW := Lib.hid (hown2.lower (B' := w.heap.size) (by omega))
 have HOWN := Lib.hid hown2
 have HNG := Lib.hid (((hnG.weak).below l12))
 have HNFV := Lib.hid (HNF.out.below (Cv.next hb5 l12))
 have HO2 := Lib.hid o2
 have HR2 := Lib.hid r2
 have HOKG := Lib.hid hokG
 obtain ⟨u0, u1, u2, uf⟩ := o2.get
 obtain ⟨g0, g1, g2, g3, g4, g5, _⟩ := r2.get
 obtain ⟨i0, i1, i2, i3, i4, i5, _⟩ := HA2.out.re.get
 obtain ⟨q0, q1, q2, qf⟩ := HA2.out.o0.get
 have hca2 := HA2.out.ca
 unfold caRow at hca2
 have j0 : V2.cell? ⟨w.heap.size + 1, 0, none⟩ = some (.int .i64 KD) := by rw [cell_of_row V2 _ _ _ _ (0, 0) hca2, ← HKD.out]; rfl
 have j1 : V2.cell? ⟨w.heap.size + 1, 1, none⟩ = some (.int .i64 c.core) := by rw [cell_of_row V2 _ _ _ _ (0, 0) hca2]; rfl
 obtain ⟨RC, hRC⟩ : ∃ RC, R.2.code = RC := ⟨_, rfl⟩
 have hs2 := l12.size
 have hszV : V2.heap.size = w5.heap.size + 2 := by rw [← hV2]; simp; omega
 clear hW hW2 hW3 hW4 hown5 hb5 l1 o1 l2 r2 o2 l12 hown2 hokG hnG hca2 p0 p1 p2 k0 k1 k2 k3 k4 k5 k6 k7
 obtain ⟨SR, hSR⟩ : ∃ SR, sameR R.2 r = SR := ⟨_, rfl⟩
 have hpl := HPL.out
 rw [hSR] at hpl
 have HPL2 := Lib.hid hpl
 have hsame := msame_any (.agg #[.int .i64 R.2.code, .int .i64 R.2.fd, .int .i64 R.2.num, .bool R.2.dir, .string R.2.data, .slice GA gn gc]) (.agg #[.int .i64 r.code, .int .i64 r.fd, .int .i64 r.num, .bool r.dir, .string r.data, .slice F f f']) R.2 r V2 ⟨GA, gn, gc, rfl, HOKG.out, HNG.out⟩ ⟨F, f, f', rfl, HOKF.out, HNFV.out⟩ HNM.out HRN.out
 rw [hSR] at hsame
 have HSAME := Lib.hid hsame
 clear hpl hsame hSR
 by_cases hc1 : KD = 2
 rotate_left
 ·have qk : (KD != 2) = true := by rw [bne_iff_ne]; exact hc1
  clear hc1 hRC
  go_wp2_with fail
  refine HSAME.out.mono ?_
  rintro e6 w6 ⟨rfl, hb6⟩
  have HA6 := Lib.hid (HA2.out.below hb6)
  have HOW6 := Lib.hid (HOW.out.below hb6)
  obtain ⟨q06, q16, q26, _⟩ := HA6.out.o0.get
  have HO6 : Hid (OutAt w6 w5.heap.size _ _ _) := Lib.hid ((hb6.block w5.heap.size (by omega)).trans HO2.out)
  obtain ⟨m0, m1, m2, mf⟩ := HO6.out.get
  clear hb6 u0 u1 u2 uf g0 g1 g2 g3 g4 g5 i0 i1 i2 i3 i4 i5 q0 q1 q2 qf j0 j1 hV1 hV2
  cases SR
  ·have hfin := HPL2.out
   rw [if_neg (by decide)] at hfin
   have HFIN := Lib.hid hfin
   clear hfin
   go_wp2_with fail
   refine (mclone_any _ s w6 HA6.out.st).mono ?_
   rintro e8 w8 ⟨zs8, vI8, vO8, vM8, rfl, hown8, hb8⟩
   obtain ⟨A8, c8, rfl, _⟩ := hown8.rowI.slice
   obtain ⟨B8, d8, rfl, _⟩ := hown8.rowO.slice
   obtain ⟨C8, e8', rfl, _⟩ := hown8.rowM.slice
   have hA8 := HA6.out.below hb8
   obtain ⟨x0, x1, x2, xf⟩ := hA8.out.get
   have xf0 := xf 0
   have xf1 := xf 1
   have xf2 := xf 2
   obtain ⟨U4, hU4, hr4, hk4, hB4⟩ := hA8.out.three (.slice A8 zs8.length c8) (.slice B8 s.opn.length d8) (.slice C8 s.made.length e8')
   have hown9 : OwnR w.heap.size U4 s zs8 (.slice A8 zs8.length c8) (.slice B8 s.opn.length d8) (.slice C8 s.made.length e8') := (hown8.lower (B' := w.heap.size) (by have := HA6.out.sz; omega)).keep (hk4 _ (by decide)) (hk4 _ (by decide)) (hk4 _ (by decide)) (hk4 _ (by decide))
   have HF := Lib.hid (And.intro hr4 (And.intro hown9 (hB4 w.heap.size w (by omega) hA8.bel)))
   clear hown8 hb8 hA8 hr4 hk4 hB4 hown9 xf
   go_wp2_with fail
   (try simp only [Exit.inBlock, Exit.then])
   refine bodyPost_ret (allows_results _ (w.heap.size + 3) _ _ _ false U4 rfl rfl HF.out.1) rfl ⟨_, by rw [HFIN.out], by rw [HFIN.out]; exact HF.out.2.1.st, HF.out.2.2⟩
  ·have hfin := HPL2.out
   rw [if_pos rfl] at hfin
   have HFIN := Lib.hid hfin
   clear hfin
   obtain ⟨x0, x1, x2, xf⟩ := HA6.out.out.get
   have xf0 := xf 0
   have xf1 := xf 1
   have xf2 := xf 2
   obtain ⟨U4, hU4, hr4, hk4, hB4⟩ := HA6.out.out.three (.slice A1 zs.length c1) (.slice A2 R.1.opn.length c2) (.slice A3 R.1.made.length c3)
   have hown9 := (HOW6.out).keep (hk4 _ (by decide)) (hk4 _ (by decide)) (hk4 _ (by decide)) (hk4 _ (by decide))
   have HF := Lib.hid (And.intro hr4 (And.intro hown9 (hB4 w.heap.size w (by omega) HA6.out.bel)))
   clear hr4 hk4 hB4 hown9 xf
   go_wp2_with fail
   (try simp only [Exit.inBlock, Exit.then])
   refine bodyPost_ret (allows_results _ (w.heap.size + 3) _ _ _ true U4 rfl rfl HF.out.1) rfl ⟨_, by rw [HFIN.out], by rw [HFIN.out]; exact HF.out.2.1.st, HF.out.2.2⟩
 have qk : (KD != 2) = false := by rw [hc1]; rfl
 by_cases hc2 : RC = 0
 rotate_left
 ·have qc : (RC != 0) = true := by rw [bne_iff_ne]; exact hc2
  rw [hRC] at g0 hV2
  clear hc1 hc2
  go_wp2_with fail
  rw [← hRC]
  refine HSAME.out.mono ?_
  rintro e6 w6 ⟨rfl, hb6⟩
  have HA6 := Lib.hid (HA2.out.below hb6)
  have HOW6 := Lib.hid (HOW.out.below hb6)
  obtain ⟨q06, q16, q26, _⟩ := HA6.out.o0.get
  have HO6 : Hid (OutAt w6 w5.heap.size _ _ _) := Lib.hid ((hb6.block w5.heap.size (by omega)).trans HO2.out)
  obtain ⟨m0, m1, m2, mf⟩ := HO6.out.get
  clear hb6 u0 u1 u2 uf g0 g1 g2 g3 g4 g5 i0 i1 i2 i3 i4 i5 q0 q1 q2 qf j0 j1 hV1 hV2
  cases SR
  ·have hfin := HPL2.out
   rw [if_neg (by decide)] at hfin
   have HFIN := Lib.hid hfin
   clear hfin
   go_wp2_with fail
   refine (mclone_any _ s w6 HA6.out.st).mono ?_
   rintro e8 w8 ⟨zs8, vI8, vO8, vM8, rfl, hown8, hb8⟩
   obtain ⟨A8, c8, rfl, _⟩ := hown8.rowI.slice
   obtain ⟨B8, d8, rfl, _⟩ := hown8.rowO.slice
   obtain ⟨C8, e8', rfl, _⟩ := hown8.rowM.slice
   have hA8 := HA6.out.below hb8
   obtain ⟨x0, x1, x2, xf⟩ := hA8.out.get
   have xf0 := xf 0
   have xf1 := xf 1
   have xf2 := xf 2
   obtain ⟨U4, hU4, hr4, hk4, hB4⟩ := hA8.out.three (.slice A8 zs8.length c8) (.slice B8 s.opn.length d8) (.slice C8 s.made.length e8')
   have hown9 : OwnR w.heap.size U4 s zs8 (.slice A8 zs8.length c8) (.slice B8 s.opn.length d8) (.slice C8 s.made.length e8') := (hown8.lower (B' := w.heap.size) (by have := HA6.out.sz; omega)).keep (hk4 _ (by decide)) (hk4 _ (by decide)) (hk4 _ (by decide)) (hk4 _ (by decide))
   have HF := Lib.hid (And.intro hr4 (And.intro hown9 (hB4 w.heap.size w (by omega) hA8.bel)))
   clear hown8 hb8 hA8 hr4 hk4 hB4 hown9 xf
   go_wp2_with fail
   (try simp only [Exit.inBlock, Exit.then])
   refine bodyPost_ret (allows_results _ (w.heap.size + 3) _ _ _ false U4 rfl rfl HF.out.1) rfl ⟨_, by rw [HFIN.out], by rw [HFIN.out]; exact HF.out.2.1.st, HF.out.2.2⟩
  ·have hfin := HPL2.out
   rw [if_pos rfl] at hfin
   have HFIN := Lib.hid hfin
   clear hfin
   obtain ⟨x0, x1, x2, xf⟩ := HA6.out.out.get
   have xf0 := xf 0
   have xf1 := xf 1
   have xf2 := xf 2
   obtain ⟨U4, hU4, hr4, hk4, hB4⟩ := HA6.out.out.three (.slice A1 zs.length c1) (.slice A2 R.1.opn.length c2) (.slice A3 R.1.made.length c3)
   have hown9 := (HOW6.out).keep (hk4 _ (by decide)) (hk4 _ (by decide)) (hk4 _ (by decide)) (hk4 _ (by decide))
   have HF := Lib.hid (And.intro hr4 (And.intro hown9 (hB4 w.heap.size w (by omega) HA6.out.bel)))
   clear hr4 hk4 hB4 hown9 xf
   go_wp2_with fail
   (try simp only [Exit.inBlock, Exit.then])
   refine bodyPost_ret (allows_results _ (w.heap.size + 3) _ _ _ true U4 rfl rfl HF.out.1) rfl ⟨_, by rw [HFIN.out], by rw [HFIN.out]; exact HF.out.2.1.st, HF.out.2.2⟩
 have hc3 : r.fd = R.2.fd := by
  have hcase := HCASE.out
  rw [HKD.out, hRC] at hcase
  rcases hcase with h | h | h
  ·exact absurd hc1 h
  ·exact absurd hc2 h
  ·exact h
 have qf : (r.fd == R.2.fd) = true := by rw [beq_iff_eq]; exact hc3
 rw [hRC, hc2] at g0 hV2
 clear hc1 hc3
 go_wp2_with fail
 rw [show (0 : Int) = R.2.code by rw [hRC, hc2]]
 refine HSAME.out.mono ?_
 rintro e6 w6 ⟨rfl, hb6⟩
 have HA6 := Lib.hid (HA2.out.below hb6)
 have HOW6 := Lib.hid (HOW.out.below hb6)
 obtain ⟨q06, q16, q26, _⟩ := HA6.out.o0.get
 have HO6 : Hid (OutAt w6 w5.heap.size _ _ _) := Lib.hid ((hb6.block w5.heap.size (by omega)).trans HO2.out)
 obtain ⟨m0, m1, m2, mf⟩ := HO6.out.get
 clear hb6 u0 u1 u2 uf g0 g1 g2 g3 g4 g5 i0 i1 i2 i3 i4 i5 q0 q1 q2 qf j0 j1 hV1 hV2
 cases SR
 ·have hfin := HPL2.out
  rw [if_neg (by decide)] at hfin
  have HFIN := Lib.hid hfin
  clear hfin
  go_wp2_with fail
  refine (mclone_any _ s w6 HA6.out.st).mono ?_
  rintro e8 w8 ⟨zs8, vI8, vO8, vM8, rfl, hown8, hb8⟩
  obtain ⟨A8, c8, rfl, _⟩ := hown8.rowI.slice
  obtain ⟨B8, d8, rfl, _⟩ := hown8.rowO.slice
  obtain ⟨C8, e8', rfl, _⟩ := hown8.rowM.slice
  have hA8 := HA6.out.below hb8
  obtain ⟨x0, x1, x2, xf⟩ := hA8.out.get
  have xf0 := xf 0
  have xf1 := xf 1
  have xf2 := xf 2
  obtain ⟨U4, hU4, hr4, hk4, hB4⟩ := hA8.out.three (.slice A8 zs8.length c8) (.slice B8 s.opn.length d8) (.slice C8 s.made.length e8')
  have hown9 : OwnR w.heap.size U4 s zs8 (.slice A8 zs8.length c8) (.slice B8 s.opn.length d8) (.slice C8 s.made.length e8') := (hown8.lower (B' := w.heap.size) (by have := HA6.out.sz; omega)).keep (hk4 _ (by decide)) (hk4 _ (by decide)) (hk4 _ (by decide)) (hk4 _ (by decide))
  have HF := Lib.hid (And.intro hr4 (And.intro hown9 (hB4 w.heap.size w (by omega) hA8.bel)))
  clear hown8 hb8 hA8 hr4 hk4 hB4 hown9 xf
  go_wp2_with fail
  (try simp only [Exit.inBlock, Exit.then])
  refine bodyPost_ret (allows_results _ (w.heap.size + 3) _ _ _ false U4 rfl rfl HF.out.1) rfl ⟨_, by rw [HFIN.out], by rw [HFIN.out]; exact HF.out.2.1.st, HF.out.2.2⟩
 ·have hfin := HPL2.out
  rw [if_pos rfl] at hfin
  have HFIN := Lib.hid hfin
  clear hfin
  obtain ⟨x0, x1, x2, xf⟩ := HA6.out.out.get
  have xf0 := xf 0
  have xf1 := xf 1
  have xf2 := xf 2
  obtain ⟨U4, hU4, hr4, hk4, hB4⟩ := HA6.out.out.three (.slice A1 zs.length c1) (.slice A2 R.1.opn.length c2) (.slice A3 R.1.made.length c3)
  have hown9 := (HOW6.out).keep (hk4 _ (by decide)) (hk4 _ (by decide)) (hk4 _ (by decide)) (hk4 _ (by decide))
  have HF := Lib.hid (And.intro hr4 (And.intro hown9 (hB4 w.heap.size w (by omega) HA6.out.bel)))
  clear hr4 hk4 hB4 hown9 xf
  go_wp2_with fail
  (try simp only [Exit.inBlock, Exit.then])
  refine bodyPost_ret (allows_results _ (w.heap.size + 3) _ _ _ true U4 rfl rfl HF.out.1) rfl ⟨_, by rw [HFIN.out], by rw [HFIN.out]; exact HF.out.2.1.st, HF.out.2.2⟩
theorem AlAt.descs {w w' : World} {A : Option Addr} {n c' : Nat} {E : Option Addr} {m d : Nat} {D : Option Addr} {k e : Nat} {s : St} {c : Ca} {r : Re} {F : Option Addr} {f f' : Nat} (h : AlAt w w' A n c' E m d D k e s c r F f f') : DescsAt none w' E m s.opn := by
 obtain ⟨A2, n2, c2, E2, m2, d2, D2, k2, e2, hv, _, hd, _⟩ := h.st.at_
 simp at hv
 obtain ⟨_, ⟨rfl, rfl, _⟩, _⟩ := hv
 exact hd
theorem ba_nil_eq {a : ByteArray} (h : a = ⟨#[]⟩) : a.toList = [] := by rw [h, ByteArray.toList_eq]
theorem ba_nil_ne {a : ByteArray} (h : a ≠ ⟨#[]⟩) : ¬ a.toList = [] := fun e => h (by
 rw [ByteArray.toList_eq] at e
 cases a with
 | mk d => cases d with
  | mk l => rw [show l = [] from e])
set_option maxRecDepth 100000 in
set_option maxHeartbeats 8000000 in
theorem mallows_refuse (v rv : Value) (s : St) (c : Ca) (r : Re) (w : World) (h : StAt none w v s) (hr : ResIs none w rv r) (hp1 : c.path.size ≤ 140737488355328) (hp2 : c.path2.size ≤ 140737488355328) (hds : c.data.size ≤ 140737488355328) (hrn : r.names.length ≤ 1099511627776)
  (hk : c.kind = 2) (h0 : (doV s c).2.code = 0) (hne : r.fd ≠ (doV s c).2.fd) (hrf : refuse s c r = true) :
  Calls Tryz.prog 47 #[v, caV c, rv] w (AlOut w (allowsV s c r)) := by
 obtain ⟨AV, hAV⟩ : ∃ AV, allowsV s c r = AV := ⟨_, rfl⟩
 have hal : allowsV s c r = (s, false) := by
  obtain ⟨_, _, _, _, _, _, _, _, hal⟩ := allows_other hk h0 hne
  rw [hal, if_pos hrf]
 rw [hAV] at hal
 rw [hAV]
 have hnames : (doV s c).2.names.length ≤ 1099511627776 := doV_names s c
 obtain ⟨R, hR⟩ : ∃ R, doV s c = R := ⟨_, rfl⟩
 have hdo := fun u hu => mDoR_any v s c u hu hp1 hp2 hds
 simp only [hR] at hdo h0 hne hnames
 obtain ⟨A, n, c', E, m, d, D, k, e, rfl, _⟩ := h.at_
 obtain ⟨F, f, f', rfl, hokF, hnF⟩ := hr
 obtain ⟨W, W2, W3, W4, hW, hW2, hW3, hW4, z1, z2, z3, z4, hst, ho0, hca, hre, hout, hbel⟩ := allows_start A n c' E m d D k e s c r F f f' w h
 have hat : AlAt w W4 A n c' E m d D k e s c r F f f' := ⟨hst, ho0, hca, hre, hout, hbel, by omega⟩
 have hcall := hdo W4 hst
 have HCALL := Lib.hid hcall
 have HAT := Lib.hid hat
 have HNF := Lib.hid (hnF.below hbel)
 have HOKF := Lib.hid hokF
 have HK := Lib.hid hk
 have H0 := Lib.hid h0
 have HNE := Lib.hid hne
 have HFIN := Lib.hid hal
 have HRF := Lib.hid hrf
 have HNM := Lib.hid hnames
 have HRN := Lib.hid hrn
 obtain ⟨p0, p1, p2, _⟩ := ho0.get
 have hca' := hca
 unfold caRow at hca'
 obtain ⟨KD, hKD⟩ : ∃ KD, c.kind = KD := ⟨_, rfl⟩
 have HKD := Lib.hid hKD
 have k0 : W4.cell? ⟨w.heap.size + 1, 0, none⟩ = some (.int .i64 c.kind) := by rw [cell_of_row W4 _ _ _ _ (0, 0) hca']; rfl
 have k1 : W4.cell? ⟨w.heap.size + 1, 1, none⟩ = some (.int .i64 c.core) := by rw [cell_of_row W4 _ _ _ _ (0, 0) hca']; rfl
 have k2 : W4.cell? ⟨w.heap.size + 1, 2, none⟩ = some (.int .i64 c.fd) := by rw [cell_of_row W4 _ _ _ _ (0, 0) hca']; rfl
 have k3 : W4.cell? ⟨w.heap.size + 1, 3, none⟩ = some (.int .i64 c.off) := by rw [cell_of_row W4 _ _ _ _ (0, 0) hca']; rfl
 have k4 : W4.cell? ⟨w.heap.size + 1, 4, none⟩ = some (.int .i64 c.num) := by rw [cell_of_row W4 _ _ _ _ (0, 0) hca']; rfl
 have k5 : W4.cell? ⟨w.heap.size + 1, 5, none⟩ = some (.string c.path) := by rw [cell_of_row W4 _ _ _ _ (0, 0) hca']; rfl
 have k6 : W4.cell? ⟨w.heap.size + 1, 6, none⟩ = some (.string c.path2) := by rw [cell_of_row W4 _ _ _ _ (0, 0) hca']; rfl
 have k7 : W4.cell? ⟨w.heap.size + 1, 7, none⟩ = some (.string c.data) := by rw [cell_of_row W4 _ _ _ _ (0, 0) hca']; rfl
 unfold caV at *
 clear h hst ho0 hca hca' hre hout hbel hat hcall hdo hp1 hp2 hds hR hnames hrn hokF hnF hAV hKD hk h0 hne hal hrf
 go_enter Tryz.func47, Tryz.ntmps47
 go_wp2_with fail
 refine HCALL.out.mono ?_
 rintro e5 w5 ⟨zs, vI, vO, vM, gv, rfl, hown5, ⟨GA, gn, gc, rfl, hokG, hnG⟩, hb5⟩
 obtain ⟨A1, c1, rfl, _⟩ := hown5.rowI.slice
 obtain ⟨A2, c2, rfl, _⟩ := hown5.rowO.slice
 obtain ⟨A3, c3, rfl, _⟩ := hown5.rowM.slice
 obtain ⟨V1, hV1⟩ : ∃ V1, w5.alloc (.cells #[.slice A1 zs.length c1, .slice A2 R.1.opn.length c2, .slice A3 R.1.made.length c3] 27) = V1 := ⟨_, rfl⟩
 have l1 : Below w5.heap.size w5 V1 := by rw [← hV1]; exact (Below.refl _ _).alloc (Nat.le_refl _) _
 have o1 : OutAt V1 w5.heap.size (.slice A1 zs.length c1) (.slice A2 R.1.opn.length c2) (.slice A3 R.1.made.length c3) := by rw [← hV1]; exact heap_alloc_new w5 _
 have y1 : V1.heap.size = w5.heap.size + 1 := by rw [← hV1]; simp
 obtain ⟨V2, hV2⟩ : ∃ V2, V1.alloc (.cells #[.int .i64 R.2.code, .int .i64 R.2.fd, .int .i64 R.2.num, .bool R.2.dir, .string R.2.data, .slice GA gn gc] 35) = V2 := ⟨_, rfl⟩
 have l2 : Below V1.heap.size V1 V2 := by rw [← hV2]; exact (Below.refl _ _).alloc (Nat.le_refl _) _
 have r2 : ResAt V2 (w5.heap.size + 1) (.int .i64 R.2.code) (.int .i64 R.2.fd) (.int .i64 R.2.num) (.bool R.2.dir) (.string R.2.data) (.slice GA gn gc) := by rw [← y1, ← hV2]; exact heap_alloc_new V1 _
 have o2 : OutAt V2 w5.heap.size (.slice A1 zs.length c1) (.slice A2 R.1.opn.length c2) (.slice A3 R.1.made.length c3) := (l2.block _ (by omega)).trans o1
 have l12 := Cv.next l1 l2
 have hs5 := HAT.out.sz
 have hs45 := hb5.size
 have HA2 := Lib.hid ((HAT.out.below hb5).below l12)
 have hown2 := hown5.below l12
 have HOW := Lib.hid (hown2.lower (B' := w.heap.size) (by omega))
 have HOWN := Lib.hid hown2
 have HNG := Lib.hid (((hnG.weak).below l12))
 have HNFV := Lib.hid (HNF.out.below (Cv.next hb5 l12))
 have HO2 := Lib.hid o2
 have HR2 := Lib.hid r2
 have HOKG := Lib.hid hokG
 obtain ⟨u0, u1, u2, uf⟩ := o2.get
 obtain ⟨g0, g1, g2, g3, g4, g5, _⟩ := r2.get
 obtain ⟨i0, i1, i2, i3, i4, i5, _⟩ := HA2.out.re.get
 obtain ⟨q0, q1, q2, qf⟩ := HA2.out.o0.get
 have hca2 := HA2.out.ca
 unfold caRow at hca2
 have j0 : V2.cell? ⟨w.heap.size + 1, 0, none⟩ = some (.int .i64 KD) := by rw [cell_of_row V2 _ _ _ _ (0, 0) hca2, ← HKD.out]; rfl
 have j1 : V2.cell? ⟨w.heap.size + 1, 1, none⟩ = some (.int .i64 c.core) := by rw [cell_of_row V2 _ _ _ _ (0, 0) hca2]; rfl
 obtain ⟨RC, hRC⟩ : ∃ RC, R.2.code = RC := ⟨_, rfl⟩
 have hs2 := l12.size
 have hszV : V2.heap.size = w5.heap.size + 2 := by rw [← hV2]; simp; omega
 clear hW hW2 hW3 hW4 hown5 hb5 l1 o1 l2 r2 o2 l12 hown2 hokG hnG hca2 p0 p1 p2 k0 k1 k2 k3 k4 k5 k6 k7
 have hc1 : KD = 2 := by rw [← HKD.out]; exact HK.out
 have qk : (KD != 2) = false := by rw [hc1]; rfl
 have hc2 : RC = 0 := by rw [← hRC]; exact H0.out
 have qf : (r.fd == R.2.fd) = false := by rw [beq_eq_false_iff_ne]; exact HNE.out
 rw [hRC, hc2] at g0 hV2
 have hml : m ≤ 1099511627776 := by
  have h1 := HA2.out.st.sized.big
  have h2 := HA2.out.descs.1
  omega
 have hHD := HA2.out.descs
 have HDS := Lib.hid hHD
 have HML := Lib.hid hml
 obtain ⟨HAD, hHAD⟩ : ∃ b, (fdP s.opn c.core r.fd).isSome = b := ⟨_, rfl⟩
 have HHAD := Lib.hid hHAD
 have hcon := containsallow_any (w.heap.size + 1) (w.heap.size + 2) c.core r.fd s.opn E m d V2 HDS.out HML.out j1 i1 (by omega) (by omega)
 rw [hHAD] at hcon
 have HCON := Lib.hid hcon
 clear hc1 hml hHD hHAD hcon
 go_wp2_with fail
 refine HCON.out.mono ?_
 rintro e6 w6 ⟨rfl, hb6⟩
 have HA6 := Lib.hid (HA2.out.below hb6)
 have HO6 : Hid (OutAt w6 w5.heap.size _ _ _) := Lib.hid ((hb6.block w5.heap.size (by omega)).trans HO2.out)
 have HR6 : Hid (ResAt w6 (w5.heap.size + 1) _ _ _ _ _ _) := Lib.hid ((hb6.block (w5.heap.size + 1) (by omega)).trans HR2.out)
 have hs6 := hb6.size
 have HOW6 := Lib.hid (HOWN.out.below hb6)
 obtain ⟨q06, q16, q26, _⟩ := HA6.out.o0.get
 obtain ⟨m0, m1, m2, mf⟩ := HO6.out.get
 obtain ⟨h0', h1', h2', h3', h4', h5', _⟩ := HA6.out.re.get
 obtain ⟨n0, n1, n2, n3, n4, n5, _⟩ := HR6.out.get
 have hca6 := HA6.out.ca
 unfold caRow at hca6
 have l0 : w6.cell? ⟨w.heap.size + 1, 1, none⟩ = some (.int .i64 c.core) := by rw [cell_of_row w6 _ _ _ _ (0, 0) hca6]; rfl
 clear hb6 u0 u1 u2 uf g0 g1 g2 g3 g4 g5 i0 i1 i2 i3 i4 i5 q0 q1 q2 qf j0 j1 hV1 hV2 hca6 qk hs2 hc2 hRC
 cases HAD
 rotate_left
 ·go_wp2_with fail
  refine (mclone_any _ s w6 HA6.out.st).mono ?_
  rintro e8 w8 ⟨zs8, vI8, vO8, vM8, rfl, hown8, hb8⟩
  obtain ⟨A8, c8, rfl, _⟩ := hown8.rowI.slice
  obtain ⟨B8, d8, rfl, _⟩ := hown8.rowO.slice
  obtain ⟨C8, e8', rfl, _⟩ := hown8.rowM.slice
  have hA8 := HA6.out.below hb8
  obtain ⟨x0, x1, x2, xf⟩ := hA8.out.get
  have xf0 := xf 0
  have xf1 := xf 1
  have xf2 := xf 2
  obtain ⟨U4, hU4, hr4, hk4, hB4⟩ := hA8.out.three (.slice A8 zs8.length c8) (.slice B8 s.opn.length d8) (.slice C8 s.made.length e8')
  have hown9 : OwnR w.heap.size U4 s zs8 (.slice A8 zs8.length c8) (.slice B8 s.opn.length d8) (.slice C8 s.made.length e8') := (hown8.lower (B' := w.heap.size) (by have := HA6.out.sz; omega)).keep (hk4 _ (by decide)) (hk4 _ (by decide)) (hk4 _ (by decide)) (hk4 _ (by decide))
  have HF := Lib.hid (And.intro hr4 (And.intro hown9 (hB4 w.heap.size w (by omega) hA8.bel)))
  clear hown8 hb8 hA8 hr4 hk4 hB4 hown9 xf
  go_wp2_with fail
  (try simp only [Exit.inBlock, Exit.then])
  refine bodyPost_ret (allows_results _ (w.heap.size + 3) _ _ _ false U4 rfl rfl HF.out.1) rfl ⟨_, by rw [HFIN.out], by rw [HFIN.out]; exact HF.out.2.1.st, HF.out.2.2⟩
 by_cases t0 : r.fd < 0
 ·have y0 : decide (r.fd < 0) = true := decide_eq_true t0
  clear t0
  go_wp2_with fail
  refine (mclone_any _ s w6 HA6.out.st).mono ?_
  rintro e8 w8 ⟨zs8, vI8, vO8, vM8, rfl, hown8, hb8⟩
  obtain ⟨A8, c8, rfl, _⟩ := hown8.rowI.slice
  obtain ⟨B8, d8, rfl, _⟩ := hown8.rowO.slice
  obtain ⟨C8, e8', rfl, _⟩ := hown8.rowM.slice
  have hA8 := HA6.out.below hb8
  obtain ⟨x0, x1, x2, xf⟩ := hA8.out.get
  have xf0 := xf 0
  have xf1 := xf 1
  have xf2 := xf 2
  obtain ⟨U4, hU4, hr4, hk4, hB4⟩ := hA8.out.three (.slice A8 zs8.length c8) (.slice B8 s.opn.length d8) (.slice C8 s.made.length e8')
  have hown9 : OwnR w.heap.size U4 s zs8 (.slice A8 zs8.length c8) (.slice B8 s.opn.length d8) (.slice C8 s.made.length e8') := (hown8.lower (B' := w.heap.size) (by have := HA6.out.sz; omega)).keep (hk4 _ (by decide)) (hk4 _ (by decide)) (hk4 _ (by decide)) (hk4 _ (by decide))
  have HF := Lib.hid (And.intro hr4 (And.intro hown9 (hB4 w.heap.size w (by omega) hA8.bel)))
  clear hown8 hb8 hA8 hr4 hk4 hB4 hown9 xf
  go_wp2_with fail
  (try simp only [Exit.inBlock, Exit.then])
  refine bodyPost_ret (allows_results _ (w.heap.size + 3) _ _ _ false U4 rfl rfl HF.out.1) rfl ⟨_, by rw [HFIN.out], by rw [HFIN.out]; exact HF.out.2.1.st, HF.out.2.2⟩
 have y0 : decide (r.fd < 0) = false := decide_eq_false t0
 have T0 := Lib.hid t0
 clear t0
 by_cases t1 : 4 ≤ r.fd
 ·have y1 : decide (4 ≤ r.fd) = true := decide_eq_true t1
  clear t1
  go_wp2_with fail
  refine (mclone_any _ s w6 HA6.out.st).mono ?_
  rintro e8 w8 ⟨zs8, vI8, vO8, vM8, rfl, hown8, hb8⟩
  obtain ⟨A8, c8, rfl, _⟩ := hown8.rowI.slice
  obtain ⟨B8, d8, rfl, _⟩ := hown8.rowO.slice
  obtain ⟨C8, e8', rfl, _⟩ := hown8.rowM.slice
  have hA8 := HA6.out.below hb8
  obtain ⟨x0, x1, x2, xf⟩ := hA8.out.get
  have xf0 := xf 0
  have xf1 := xf 1
  have xf2 := xf 2
  obtain ⟨U4, hU4, hr4, hk4, hB4⟩ := hA8.out.three (.slice A8 zs8.length c8) (.slice B8 s.opn.length d8) (.slice C8 s.made.length e8')
  have hown9 : OwnR w.heap.size U4 s zs8 (.slice A8 zs8.length c8) (.slice B8 s.opn.length d8) (.slice C8 s.made.length e8') := (hown8.lower (B' := w.heap.size) (by have := HA6.out.sz; omega)).keep (hk4 _ (by decide)) (hk4 _ (by decide)) (hk4 _ (by decide)) (hk4 _ (by decide))
  have HF := Lib.hid (And.intro hr4 (And.intro hown9 (hB4 w.heap.size w (by omega) hA8.bel)))
  clear hown8 hb8 hA8 hr4 hk4 hB4 hown9 xf
  go_wp2_with fail
  (try simp only [Exit.inBlock, Exit.then])
  refine bodyPost_ret (allows_results _ (w.heap.size + 3) _ _ _ false U4 rfl rfl HF.out.1) rfl ⟨_, by rw [HFIN.out], by rw [HFIN.out]; exact HF.out.2.1.st, HF.out.2.2⟩
 have y1 : decide (4 ≤ r.fd) = false := decide_eq_false t1
 have T1 := Lib.hid t1
 clear t1
 by_cases t2 : r.code ≠ 0
 ·have y2 : (r.code != 0) = true := by rw [bne_iff_ne]; exact t2
  clear t2
  go_wp2_with fail
  refine (mclone_any _ s w6 HA6.out.st).mono ?_
  rintro e8 w8 ⟨zs8, vI8, vO8, vM8, rfl, hown8, hb8⟩
  obtain ⟨A8, c8, rfl, _⟩ := hown8.rowI.slice
  obtain ⟨B8, d8, rfl, _⟩ := hown8.rowO.slice
  obtain ⟨C8, e8', rfl, _⟩ := hown8.rowM.slice
  have hA8 := HA6.out.below hb8
  obtain ⟨x0, x1, x2, xf⟩ := hA8.out.get
  have xf0 := xf 0
  have xf1 := xf 1
  have xf2 := xf 2
  obtain ⟨U4, hU4, hr4, hk4, hB4⟩ := hA8.out.three (.slice A8 zs8.length c8) (.slice B8 s.opn.length d8) (.slice C8 s.made.length e8')
  have hown9 : OwnR w.heap.size U4 s zs8 (.slice A8 zs8.length c8) (.slice B8 s.opn.length d8) (.slice C8 s.made.length e8') := (hown8.lower (B' := w.heap.size) (by have := HA6.out.sz; omega)).keep (hk4 _ (by decide)) (hk4 _ (by decide)) (hk4 _ (by decide)) (hk4 _ (by decide))
  have HF := Lib.hid (And.intro hr4 (And.intro hown9 (hB4 w.heap.size w (by omega) hA8.bel)))
  clear hown8 hb8 hA8 hr4 hk4 hB4 hown9 xf
  go_wp2_with fail
  (try simp only [Exit.inBlock, Exit.then])
  refine bodyPost_ret (allows_results _ (w.heap.size + 3) _ _ _ false U4 rfl rfl HF.out.1) rfl ⟨_, by rw [HFIN.out], by rw [HFIN.out]; exact HF.out.2.1.st, HF.out.2.2⟩
 have y2 : (r.code != 0) = false := by
  rw [bne_eq_false_iff_eq]
  exact Classical.not_not.1 t2
 have T2 := Lib.hid t2
 clear t2
 by_cases t3 : r.num ≠ 0
 ·have y3 : (r.num != 0) = true := by rw [bne_iff_ne]; exact t3
  clear t3
  go_wp2_with fail
  refine (mclone_any _ s w6 HA6.out.st).mono ?_
  rintro e8 w8 ⟨zs8, vI8, vO8, vM8, rfl, hown8, hb8⟩
  obtain ⟨A8, c8, rfl, _⟩ := hown8.rowI.slice
  obtain ⟨B8, d8, rfl, _⟩ := hown8.rowO.slice
  obtain ⟨C8, e8', rfl, _⟩ := hown8.rowM.slice
  have hA8 := HA6.out.below hb8
  obtain ⟨x0, x1, x2, xf⟩ := hA8.out.get
  have xf0 := xf 0
  have xf1 := xf 1
  have xf2 := xf 2
  obtain ⟨U4, hU4, hr4, hk4, hB4⟩ := hA8.out.three (.slice A8 zs8.length c8) (.slice B8 s.opn.length d8) (.slice C8 s.made.length e8')
  have hown9 : OwnR w.heap.size U4 s zs8 (.slice A8 zs8.length c8) (.slice B8 s.opn.length d8) (.slice C8 s.made.length e8') := (hown8.lower (B' := w.heap.size) (by have := HA6.out.sz; omega)).keep (hk4 _ (by decide)) (hk4 _ (by decide)) (hk4 _ (by decide)) (hk4 _ (by decide))
  have HF := Lib.hid (And.intro hr4 (And.intro hown9 (hB4 w.heap.size w (by omega) hA8.bel)))
  clear hown8 hb8 hA8 hr4 hk4 hB4 hown9 xf
  go_wp2_with fail
  (try simp only [Exit.inBlock, Exit.then])
  refine bodyPost_ret (allows_results _ (w.heap.size + 3) _ _ _ false U4 rfl rfl HF.out.1) rfl ⟨_, by rw [HFIN.out], by rw [HFIN.out]; exact HF.out.2.1.st, HF.out.2.2⟩
 have y3 : (r.num != 0) = false := by
  rw [bne_eq_false_iff_eq]
  exact Classical.not_not.1 t3
 have T3 := Lib.hid t3
 clear t3
 by_cases t4 : r.dir = true
 ·rw [t4] at h3'
  clear t4
  go_wp2_with fail
  refine (mclone_any _ s w6 HA6.out.st).mono ?_
  rintro e8 w8 ⟨zs8, vI8, vO8, vM8, rfl, hown8, hb8⟩
  obtain ⟨A8, c8, rfl, _⟩ := hown8.rowI.slice
  obtain ⟨B8, d8, rfl, _⟩ := hown8.rowO.slice
  obtain ⟨C8, e8', rfl, _⟩ := hown8.rowM.slice
  have hA8 := HA6.out.below hb8
  obtain ⟨x0, x1, x2, xf⟩ := hA8.out.get
  have xf0 := xf 0
  have xf1 := xf 1
  have xf2 := xf 2
  obtain ⟨U4, hU4, hr4, hk4, hB4⟩ := hA8.out.three (.slice A8 zs8.length c8) (.slice B8 s.opn.length d8) (.slice C8 s.made.length e8')
  have hown9 : OwnR w.heap.size U4 s zs8 (.slice A8 zs8.length c8) (.slice B8 s.opn.length d8) (.slice C8 s.made.length e8') := (hown8.lower (B' := w.heap.size) (by have := HA6.out.sz; omega)).keep (hk4 _ (by decide)) (hk4 _ (by decide)) (hk4 _ (by decide)) (hk4 _ (by decide))
  have HF := Lib.hid (And.intro hr4 (And.intro hown9 (hB4 w.heap.size w (by omega) hA8.bel)))
  clear hown8 hb8 hA8 hr4 hk4 hB4 hown9 xf
  go_wp2_with fail
  (try simp only [Exit.inBlock, Exit.then])
  refine bodyPost_ret (allows_results _ (w.heap.size + 3) _ _ _ false U4 rfl rfl HF.out.1) rfl ⟨_, by rw [HFIN.out], by rw [HFIN.out]; exact HF.out.2.1.st, HF.out.2.2⟩
 have y4 : r.dir = false := by simpa using t4
 rw [y4] at h3'
 have T4 := Lib.hid t4
 clear t4
 by_cases t5 : r.data ≠ ⟨#[]⟩
 ·have y5 : ¬ r.data.toList = [] := ba_nil_ne t5
  clear t5
  go_wp2_with fail
  refine (mclone_any _ s w6 HA6.out.st).mono ?_
  rintro e8 w8 ⟨zs8, vI8, vO8, vM8, rfl, hown8, hb8⟩
  obtain ⟨A8, c8, rfl, _⟩ := hown8.rowI.slice
  obtain ⟨B8, d8, rfl, _⟩ := hown8.rowO.slice
  obtain ⟨C8, e8', rfl, _⟩ := hown8.rowM.slice
  have hA8 := HA6.out.below hb8
  obtain ⟨x0, x1, x2, xf⟩ := hA8.out.get
  have xf0 := xf 0
  have xf1 := xf 1
  have xf2 := xf 2
  obtain ⟨U4, hU4, hr4, hk4, hB4⟩ := hA8.out.three (.slice A8 zs8.length c8) (.slice B8 s.opn.length d8) (.slice C8 s.made.length e8')
  have hown9 : OwnR w.heap.size U4 s zs8 (.slice A8 zs8.length c8) (.slice B8 s.opn.length d8) (.slice C8 s.made.length e8') := (hown8.lower (B' := w.heap.size) (by have := HA6.out.sz; omega)).keep (hk4 _ (by decide)) (hk4 _ (by decide)) (hk4 _ (by decide)) (hk4 _ (by decide))
  have HF := Lib.hid (And.intro hr4 (And.intro hown9 (hB4 w.heap.size w (by omega) hA8.bel)))
  clear hown8 hb8 hA8 hr4 hk4 hB4 hown9 xf
  go_wp2_with fail
  (try simp only [Exit.inBlock, Exit.then])
  refine bodyPost_ret (allows_results _ (w.heap.size + 3) _ _ _ false U4 rfl rfl HF.out.1) rfl ⟨_, by rw [HFIN.out], by rw [HFIN.out]; exact HF.out.2.1.st, HF.out.2.2⟩
 have y5 : r.data.toList = [] := ba_nil_eq (Classical.not_not.1 t5)
 have T5 := Lib.hid t5
 clear t5
 by_cases t6 : 0 < f
 ·have y6 : 0 < f := t6
  go_wp2_with fail
  refine (mclone_any _ s w6 HA6.out.st).mono ?_
  rintro e8 w8 ⟨zs8, vI8, vO8, vM8, rfl, hown8, hb8⟩
  obtain ⟨A8, c8, rfl, _⟩ := hown8.rowI.slice
  obtain ⟨B8, d8, rfl, _⟩ := hown8.rowO.slice
  obtain ⟨C8, e8', rfl, _⟩ := hown8.rowM.slice
  have hA8 := HA6.out.below hb8
  obtain ⟨x0, x1, x2, xf⟩ := hA8.out.get
  have xf0 := xf 0
  have xf1 := xf 1
  have xf2 := xf 2
  obtain ⟨U4, hU4, hr4, hk4, hB4⟩ := hA8.out.three (.slice A8 zs8.length c8) (.slice B8 s.opn.length d8) (.slice C8 s.made.length e8')
  have hown9 : OwnR w.heap.size U4 s zs8 (.slice A8 zs8.length c8) (.slice B8 s.opn.length d8) (.slice C8 s.made.length e8') := (hown8.lower (B' := w.heap.size) (by have := HA6.out.sz; omega)).keep (hk4 _ (by decide)) (hk4 _ (by decide)) (hk4 _ (by decide)) (hk4 _ (by decide))
  have HF := Lib.hid (And.intro hr4 (And.intro hown9 (hB4 w.heap.size w (by omega) hA8.bel)))
  clear hown8 hb8 hA8 hr4 hk4 hB4 hown9 xf
  go_wp2_with fail
  (try simp only [Exit.inBlock, Exit.then])
  refine bodyPost_ret (allows_results _ (w.heap.size + 3) _ _ _ false U4 rfl rfl HF.out.1) rfl ⟨_, by rw [HFIN.out], by rw [HFIN.out]; exact HF.out.2.1.st, HF.out.2.2⟩
 have y6 : ¬ 0 < f := t6
 exfalso
 have hrf := HRF.out
 unfold refuse at hrf
 have hnn : ¬ 0 < r.names.length := by rw [HNFV.out.1]; exact t6
 rw [HHAD.out, decide_eq_false T0.out, decide_eq_false T1.out, decide_eq_false T2.out, decide_eq_false T3.out, decide_eq_false T5.out, decide_eq_false hnn, y4] at hrf
 cases hrf
end Go.Proofs.YtkflaifopbodfaaGreatDoor
