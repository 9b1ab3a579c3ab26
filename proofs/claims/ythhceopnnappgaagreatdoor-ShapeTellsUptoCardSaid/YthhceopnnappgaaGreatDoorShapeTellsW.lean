/- The walk of the law ShapeTells. -/
import Derived.Test.YthhceopnnappgaaGreatDoorAwake14
import Derived.Test.YthhceopnnappgaaGreatDoorShTell3
set_option linter.unusedVariables false
set_option linter.unusedSimpArgs false
namespace Go.Proofs.YthhceopnnappgaaGreatDoor
open Go.RowKit
set_option maxRecDepth 100000 in
set_option maxHeartbeats 8000000 in
theorem shapeTells_walk (u v : Value) (s t : St) (w : World) (hs : StAt none w u s) (ht : StAt none w v t) (hT : Tab w) :
  Calls Tryz.prog 4 #[u, v] w fun e w' => e = .returned (.bool true) ∧ Below w.heap.size w w' := by
 obtain ⟨A, n, c, B, m, d, D, k, e, rfl⟩ : ∃ A n c B m d D k e, u = .agg #[.slice A n c, .slice B m d, .slice D k e] := by
  obtain ⟨⟨A, n, c, B, m, d, D, k, e, hv, _⟩, _⟩ := hs
  exact ⟨A, n, c, B, m, d, D, k, e, hv⟩
 obtain ⟨A', n', c', B', m', d', D', k', e', rfl⟩ : ∃ A n c B m d D k e, v = .agg #[.slice A n c, .slice B m d, .slice D k e] := by
  obtain ⟨⟨A, n, c, B, m, d, D, k, e, hv, _⟩, _⟩ := ht
  exact ⟨A, n, c, B, m, d, D, k, e, hv⟩
 obtain ⟨W0, hW0, a0, a1, a2, hal0, hlt0⟩ := box_st w A n c B m d D k e
 obtain ⟨W, hW, b0, b1, b2, hal1, hlt1⟩ := box_st W0 A' n' c' B' m' d' D' k' e'
 have hal : Below w.heap.size w W := Cv.next hal0 hal1
 have p0 := (hal1.cell (p := ⟨w.heap.size, 0, none⟩) hlt0).trans a0
 have p1 := (hal1.cell (p := ⟨w.heap.size, 1, none⟩) hlt0).trans a1
 have p2 := (hal1.cell (p := ⟨w.heap.size, 2, none⟩) hlt0).trans a2
 have lp : w.heap.size < W.heap.size := Nat.lt_of_lt_of_le hlt0 hal1.size
 have HS := Lib.hid (hs.below hal)
 have HU := Lib.hid (ht.below hal)
 have HT := Lib.hid hT
 have HB := Lib.hid hal
 obtain ⟨XS, hXS⟩ : ∃ X, txt (ofO s) = X := ⟨_, rfl⟩
 obtain ⟨XT, hXT⟩ : ∃ X, txt (ofO t) = X := ⟨_, rfl⟩
 obtain ⟨CS, hCS⟩ : ∃ C, codeO s = C := ⟨_, rfl⟩
 obtain ⟨CT, hCT⟩ : ∃ C, codeO t = C := ⟨_, rfl⟩
 obtain ⟨SM, hSM⟩ : ∃ S, sameO s t = S := ⟨_, rfl⟩
 have fin : (CS = 0 ∧ CT = 0 ∧ SM = (XS.toList == XT.toList) ∧ ((XS.toList == XT.toList) = true → plainV s t = true)) ∨ ((CS ≠ 0 ∨ CT ≠ 0) ∧ SM = false) := by
  rw [← hXS, ← hXT, ← hCS, ← hCT, ← hSM, ByteArray.toList_eq, ByteArray.toList_eq, txt_listSh, txt_listSh]
  unfold sameO codeO ofO
  by_cases h1 : mayV s = true
  ·by_cases h2 : mayV t = true
   ·left
    rw [if_pos h1, if_pos h2, if_pos h1, if_pos h2, h1, h2]
    refine ⟨rfl, rfl, by simp, fun h3 => ?_⟩
    exact plainV_yes (tells ((good_iff s).1 h1) ((good_iff t).1 h2) (by simpa using h3))
   ·right
    have h2' : mayV t = false := by simpa using h2
    refine ⟨.inr (by rw [h2']; decide), by rw [h2']; simp⟩
  ·right
   have h1' : mayV s = false := by simpa using h1
   refine ⟨.inl (by rw [h1']; decide), by rw [h1']; simp⟩
 have HXS := Lib.hid hXS
 have HXT := Lib.hid hXT
 have HCS := Lib.hid hCS
 have HCT := Lib.hid hCT
 have HSM := Lib.hid hSM
 have HFIN := Lib.hid fin
 clear hs ht hT hal hal0 hal1 hXS hXT hCS hCT hSM fin a0 a1 a2 hlt0
 go_enter Tryz.func4, Tryz.ntmps4
 go_wp2_with fail
 refine (awake14 W (HT.out.below HB.out)).mono ?_
 rintro e w1 ⟨rfl, hb1⟩
 have HS := Lib.hid (HS.out.below hb1)
 have HU := Lib.hid (HU.out.below hb1)
 have HB := Lib.hid (Cv.next HB.out hb1)
 have p0 := (hb1.cell (p := ⟨w.heap.size, 0, none⟩) lp).trans p0
 have p1 := (hb1.cell (p := ⟨w.heap.size, 1, none⟩) lp).trans p1
 have p2 := (hb1.cell (p := ⟨w.heap.size, 2, none⟩) lp).trans p2
 have b0 := (hb1.cell (p := ⟨W0.heap.size, 0, none⟩) hlt1).trans b0
 have b1 := (hb1.cell (p := ⟨W0.heap.size, 1, none⟩) hlt1).trans b1
 have b2 := (hb1.cell (p := ⟨W0.heap.size, 2, none⟩) hlt1).trans b2
 have lp : w.heap.size < w1.heap.size := Nat.lt_of_lt_of_le lp hb1.size
 have hlt1 : W0.heap.size < w1.heap.size := Nat.lt_of_lt_of_le hlt1 hb1.size
 clear hb1
 go_wp2_with fail
 have h1 := shof_any _ s w1 HS.out (HT.out.below HB.out)
 rw [HXS.out, HCS.out] at h1
 refine h1.mono ?_
 clear h1
 rintro e w2 ⟨rfl, hb2⟩
 have HS := Lib.hid (HS.out.below hb2)
 have HU := Lib.hid (HU.out.below hb2)
 have HB := Lib.hid (Cv.next HB.out hb2)
 have p0 := (hb2.cell (p := ⟨w.heap.size, 0, none⟩) lp).trans p0
 have p1 := (hb2.cell (p := ⟨w.heap.size, 1, none⟩) lp).trans p1
 have p2 := (hb2.cell (p := ⟨w.heap.size, 2, none⟩) lp).trans p2
 have b0 := (hb2.cell (p := ⟨W0.heap.size, 0, none⟩) hlt1).trans b0
 have b1 := (hb2.cell (p := ⟨W0.heap.size, 1, none⟩) hlt1).trans b1
 have b2 := (hb2.cell (p := ⟨W0.heap.size, 2, none⟩) hlt1).trans b2
 have lp : w.heap.size < w2.heap.size := Nat.lt_of_lt_of_le lp hb2.size
 have hlt1 : W0.heap.size < w2.heap.size := Nat.lt_of_lt_of_le hlt1 hb2.size
 clear hb2
 go_wp2_with fail
 have h1 := shof_any _ t w2 HU.out (HT.out.below HB.out)
 rw [HXT.out, HCT.out] at h1
 refine h1.mono ?_
 clear h1
 rintro e w3 ⟨rfl, hb3⟩
 have HS := Lib.hid (HS.out.below hb3)
 have HU := Lib.hid (HU.out.below hb3)
 have HB := Lib.hid (Cv.next HB.out hb3)
 have p0 := (hb3.cell (p := ⟨w.heap.size, 0, none⟩) lp).trans p0
 have p1 := (hb3.cell (p := ⟨w.heap.size, 1, none⟩) lp).trans p1
 have p2 := (hb3.cell (p := ⟨w.heap.size, 2, none⟩) lp).trans p2
 have b0 := (hb3.cell (p := ⟨W0.heap.size, 0, none⟩) hlt1).trans b0
 have b1 := (hb3.cell (p := ⟨W0.heap.size, 1, none⟩) hlt1).trans b1
 have b2 := (hb3.cell (p := ⟨W0.heap.size, 2, none⟩) hlt1).trans b2
 have lp : w.heap.size < w3.heap.size := Nat.lt_of_lt_of_le lp hb3.size
 have hlt1 : W0.heap.size < w3.heap.size := Nat.lt_of_lt_of_le hlt1 hb3.size
 clear hb3
 go_wp2_with fail
 refine (num14 _ _).mono ?_
 rintro e w3' ⟨rfl, rfl⟩
 have same : ∀ w4, StAt none w4 (.agg #[.slice A n c, .slice B m d, .slice D k e]) s → StAt none w4 (.agg #[.slice A' n' c', .slice B' m' d', .slice D' k' e']) t → Tab w4 → Calls Tryz.prog 12 #[.agg #[.slice A n c, .slice B m d, .slice D k e], .agg #[.slice A' n' c', .slice B' m' d', .slice D' k' e']] w4 fun e w' => e = .returned (.bool SM) ∧ Below w4.heap.size w4 w' := fun w4 h1 h2 h3 => by
  rw [← HSM.out]
  exact shsame_any _ _ s t w4 h1 h2 h3
 have HSAME := Lib.hid same
 clear same
 rcases HFIN.out with ⟨rfl, rfl, hsm, hpl⟩ | ⟨hc, hsm⟩
 ·have HSMV := Lib.hid hsm
  have HPL := Lib.hid hpl
  clear hsm hpl
  go_wp2_with fail
  refine (num14 _ _).mono ?_
  rintro e w3'' ⟨rfl, rfl⟩
  go_wp2_with fail
  refine (HSAME.out w3 HS.out HU.out (HT.out.below HB.out)).mono ?_
  rintro e w4 ⟨rfl, hb4⟩
  have HS := Lib.hid (HS.out.below hb4)
  have HU := Lib.hid (HU.out.below hb4)
  have HB := Lib.hid (Cv.next HB.out hb4)
  have p0 := (hb4.cell (p := ⟨w.heap.size, 0, none⟩) lp).trans p0
  have p1 := (hb4.cell (p := ⟨w.heap.size, 1, none⟩) lp).trans p1
  have p2 := (hb4.cell (p := ⟨w.heap.size, 2, none⟩) lp).trans p2
  have b0 := (hb4.cell (p := ⟨W0.heap.size, 0, none⟩) hlt1).trans b0
  have b1 := (hb4.cell (p := ⟨W0.heap.size, 1, none⟩) hlt1).trans b1
  have b2 := (hb4.cell (p := ⟨W0.heap.size, 2, none⟩) hlt1).trans b2
  have lp : w.heap.size < w4.heap.size := Nat.lt_of_lt_of_le lp hb4.size
  have hlt1 : W0.heap.size < w4.heap.size := Nat.lt_of_lt_of_le hlt1 hb4.size
  clear hb4
  rw [HSMV.out]
  obtain ⟨EE, hEE⟩ : ∃ E, (XS.toList == XT.toList) = E := ⟨_, rfl⟩
  rw [hEE]
  have hpl := HPL.out
  rw [hEE] at hpl
  cases EE
  ·have hne : ¬ XS.toList = XT.toList := by rw [beq_eq_false_iff_ne] at hEE; exact hEE
   have hnb : (XS.toList != XT.toList) = true := by rw [bne_iff_ne]; exact hne
   go_wp2_with fail
   go_ret
   exact ⟨rfl, HB.out⟩
  ·have hnb : (XS.toList != XT.toList) = false := by rw [bne_eq_false_iff_eq]; exact beq_iff_eq.1 hEE
   go_wp2_with fail
   have h1 := plain_any _ _ _ _ _ HS.out HU.out
   rw [hpl (by first | trivial | rfl)] at h1
   refine h1.mono ?_
   clear h1
   rintro e w5 ⟨rfl, hb5⟩
   have HB := Lib.hid (Cv.next HB.out hb5)
   clear hb5
   go_wp2_with fail
   go_ret
   exact ⟨rfl, HB.out⟩
 ·by_cases h0 : CS = 0
  ·subst h0
   have hct : ¬ CT = 0 := by rcases hc with h | h; exact absurd rfl h; exact h
   have qn : (CT != 0) = true := by rw [bne_iff_ne]; exact hct
   subst hsm
   clear hc
   go_wp2_with fail
   refine (num14 _ _).mono ?_
   rintro e w3'' ⟨rfl, rfl⟩
   go_wp2_with fail
   refine (HSAME.out w3 HS.out HU.out (HT.out.below HB.out)).mono ?_
   rintro e w4 ⟨rfl, hb4⟩
   have HS := Lib.hid (HS.out.below hb4)
   have HU := Lib.hid (HU.out.below hb4)
   have HB := Lib.hid (Cv.next HB.out hb4)
   have p0 := (hb4.cell (p := ⟨w.heap.size, 0, none⟩) lp).trans p0
   have p1 := (hb4.cell (p := ⟨w.heap.size, 1, none⟩) lp).trans p1
   have p2 := (hb4.cell (p := ⟨w.heap.size, 2, none⟩) lp).trans p2
   have b0 := (hb4.cell (p := ⟨W0.heap.size, 0, none⟩) hlt1).trans b0
   have b1 := (hb4.cell (p := ⟨W0.heap.size, 1, none⟩) hlt1).trans b1
   have b2 := (hb4.cell (p := ⟨W0.heap.size, 2, none⟩) hlt1).trans b2
   have lp : w.heap.size < w4.heap.size := Nat.lt_of_lt_of_le lp hb4.size
   have hlt1 : W0.heap.size < w4.heap.size := Nat.lt_of_lt_of_le hlt1 hb4.size
   clear hb4
   go_wp2_with fail
   go_ret
   exact ⟨rfl, HB.out⟩
  ·have qn : (CS != 0) = true := by rw [bne_iff_ne]; exact h0
   subst hsm
   clear hc
   go_wp2_with fail
   refine (HSAME.out w3 HS.out HU.out (HT.out.below HB.out)).mono ?_
   rintro e w4 ⟨rfl, hb4⟩
   have HS := Lib.hid (HS.out.below hb4)
   have HU := Lib.hid (HU.out.below hb4)
   have HB := Lib.hid (Cv.next HB.out hb4)
   have p0 := (hb4.cell (p := ⟨w.heap.size, 0, none⟩) lp).trans p0
   have p1 := (hb4.cell (p := ⟨w.heap.size, 1, none⟩) lp).trans p1
   have p2 := (hb4.cell (p := ⟨w.heap.size, 2, none⟩) lp).trans p2
   have b0 := (hb4.cell (p := ⟨W0.heap.size, 0, none⟩) hlt1).trans b0
   have b1 := (hb4.cell (p := ⟨W0.heap.size, 1, none⟩) hlt1).trans b1
   have b2 := (hb4.cell (p := ⟨W0.heap.size, 2, none⟩) hlt1).trans b2
   have lp : w.heap.size < w4.heap.size := Nat.lt_of_lt_of_le lp hb4.size
   have hlt1 : W0.heap.size < w4.heap.size := Nat.lt_of_lt_of_le hlt1 hb4.size
   clear hb4
   go_wp2_with fail
   go_ret
   exact ⟨rfl, HB.out⟩
end Go.Proofs.YthhceopnnappgaaGreatDoor
