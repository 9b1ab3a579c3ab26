/- The model's Clone: the walk. -/
import Derived.Test.YtndcloohcfhejaaMoCloneW
import Derived.Test.YtndcloohcfhejaaM26
import Derived.Handy
import Derived.Deep.RegionLaw
set_option linter.unusedVariables false
set_option linter.unusedSimpArgs false
namespace Go.Proofs.Ytndcloohcfhejaa
open Go.RowKit
theorem Sized.ents {s : St} (h : Sized s) {x : Ino} (hx : x ∈ s.inos) : x.ents.length ≤ 1099511627776 := by
 have h1 := h.big
 obtain ⟨i, hi⟩ := List.getElem?_of_mem hx
 have := bulkE_le hi
 omega
set_option maxRecDepth 100000 in
set_option maxHeartbeats 8000000 in
theorem mclone_any (v : Value) (s : St) (w : World) (h : StAt none w v s) :
  Calls Try.prog 15 #[v] w fun e w' => ∃ zs vI vO vM, e = .returned (.agg #[vI, vO, vM]) ∧ OwnR w.heap.size w' s zs vI vO vM ∧ Below w.heap.size w w' := by
 obtain ⟨⟨A, n, c, E, m, d, D, k, e, rfl, hI, hD, hM, h5, h6, h7⟩, hz⟩ := h
 have hbig := hz.big
 have hn2 : n ≤ 1099511627776 := by have := hI.1; omega
 have hm2 : m ≤ 1099511627776 := by have := hD.1; omega
 have hk2 : k ≤ 1099511627776 := by have := hM.1; omega
 obtain ⟨W, hW, b0, b1, b2, hal, hlt0⟩ := box_st w A n c E m d D k e
 obtain ⟨W1, hW1⟩ : ∃ W1, W.alloc (.cells #[.slice none 0 0, .slice none 0 0, .slice none 0 0] 27) = W1 := ⟨_, rfl⟩
 have o0 : OutAt W w.heap.size (.slice A n c) (.slice E m d) (.slice D k e) := by rw [← hW]; exact heap_alloc_new w _
 have o1 : OutAt W1 W.heap.size (.slice none 0 0) (.slice none 0 0) (.slice none 0 0) := by rw [← hW1]; exact heap_alloc_new W _
 have l1 : Below W.heap.size W W1 := by rw [← hW1]; exact (Below.refl _ _).alloc (Nat.le_refl _) _
 have z0 : W.heap.size = w.heap.size + 1 := by rw [← hW]; simp
 have z1 : W1.heap.size = w.heap.size + 2 := by rw [← hW1]; simp; omega
 have o01 : OutAt W1 w.heap.size (.slice A n c) (.slice E m d) (.slice D k e) := (l1.block w.heap.size (by omega)).trans o0
 have hl : Below w.heap.size w W1 := Cv.next hal l1
 obtain ⟨zs0, hzs1, hzs2, hzs3, hzs4⟩ := (hI.below hl).pairs
 obtain ⟨zsw, hzw1, hzw2, hzw3, hzw4⟩ := hI.pairs
 have hcl0 := cloneI_row (zsw.flatMap inoV) A n c W1 h5 (by rw [flat_len inoV 4 (fun _ => rfl), hzw2]) (fun ad he j u hj => by
  have h9 := hzw4 ad he j u hj
  exact (hl.cell (World.block_lt_of_cell? _ _ h9)).trans h9) (inoV_one zsw hzw3) hn2
 have HZ := Lib.hid hz
 have HD := Lib.hid hD
 have HM := Lib.hid hM
 have HI0 := Lib.hid hI
 have HC0 := Lib.hid hcl0
 have HO01 := Lib.hid o01
 have HO1 := Lib.hid o1
 have HL := Lib.hid hl
 have HZ1 := Lib.hid hzw1
 have HZ2 := Lib.hid hzw2
 have HZ3 := Lib.hid hzw3
 have H6 := Lib.hid h6
 have H7 := Lib.hid h7
 obtain ⟨p0, p1, p2, pf⟩ := o01.get
 have hlW : w.heap.size < W1.heap.size := by omega
 clear hbig hI hD hM h5 h6 h7 hz b0 b1 b2 hal o0 o1 l1 o01 hl hzs1 hzs2 hzs3 hzs4 hzw1 hzw2 hzw3 hzw4 hcl0
 go_enter Try.func15, Try.ntmps15
 go_wp2_with fail
 refine HC0.out.mono ?_
 rintro e3 w3 ⟨v3, rfl, hr3, hb3⟩
 obtain ⟨A', c', rfl, hok3⟩ := hr3.slice
 have hO3 : OutAt w3 w.heap.size (.slice A n c) (.slice E m d) (.slice D k e) := (hb3.block w.heap.size hlW).trans HO01.out
 have hO3b : OutAt w3 W.heap.size (.slice none 0 0) (.slice none 0 0) (.slice none 0 0) := (hb3.block W.heap.size (by omega)).trans HO1.out
 obtain ⟨q0, q1, q2, qf⟩ := hO3.get
 obtain ⟨w4, hw4⟩ : ∃ w4, w3.setCell ⟨w.heap.size, 0, none⟩ (.slice A' n c') = w4 := ⟨_, rfl⟩
 have hne0 : W.heap.size ≠ w.heap.size := by omega
 have hO4 : OutAt w4 w.heap.size (.slice A' n c') (.slice E m d) (.slice D k e) := by rw [← hw4]; exact heap_setCell_same w3 _ 0 _ _ _ hO3
 have hO4b : OutAt w4 W.heap.size (.slice none 0 0) (.slice none 0 0) (.slice none 0 0) := by rw [← hw4]; exact (Below.heap_setCell w3 ⟨w.heap.size, 0, none⟩ _ W.heap.size hne0).trans hO3b
 have hB4 : Below w.heap.size w w4 := by rw [← hw4]; exact (Cv.next HL.out hb3).setCell (Nat.le_refl _) _
 have hS4 : W1.heap.size ≤ w4.heap.size := by rw [← hw4]; simpa [World.setCell] using hb3.size
 have hC4 : Cl w w4 s 0 zsw (.slice A' n c') := by
  rw [← hw4]
  refine Cl.set (cur := _) ⟨HZ1.out, ?_, fun j z _ hj => absurd hj (Nat.not_lt_zero _), fun j z hz _ => HZ3.out z (List.mem_of_getElem? hz), fun i j a b _ hi => absurd hi (Nat.not_lt_zero _)⟩ hO3
  rw [HZ2.out]
  exact hr3.lower (by omega)
 have HO4 := Lib.hid hO4
 have HO4b := Lib.hid hO4b
 have HB4 := Lib.hid hB4
 have HC4 := Lib.hid hC4
 obtain ⟨x0, x1, x2, xf⟩ := hO4.get
 clear hr3 hb3 hO3 hO3b hO4 hO4b hB4 hC4 HC0 hok3
 go_wp2_with fail
 go_loopw [11] (fun j wr => ∃ (q : Nat) (zs : List (Ino × Value)), j = .int .i64 q ∧ q ≤ n ∧ OutAt wr w.heap.size (.slice A' n c') (.slice E m d) (.slice D k e) ∧ OutAt wr W.heap.size (.slice none 0 0) (.slice none 0 0) (.slice none 0 0) ∧ Below w.heap.size w wr ∧ W1.heap.size ≤ wr.heap.size ∧ zs.length = n ∧ Cl w wr s q zs (.slice A' n c')) (fun j _ => n - (intOf j).toNat)
 case atStart => exact ⟨0, zsw, rfl, by omega, HO4.out, HO4b.out, HB4.out, hS4, HZ2.out, HC4.out⟩
 case round =>
  obtain ⟨q, zs, rfl, hq, hO, hOb, hbel, hsz, hzl, hCl⟩ := hrel
  obtain ⟨p0, p1, p2, pf⟩ := hO.get
  have hl0 : w.heap.size < wr.heap.size := by omega
  by_cases hlt : q < n
  ·obtain ⟨z, hzq⟩ : ∃ z, zs[q]? = some z := ⟨_, List.getElem?_eq_getElem (by omega)⟩
   obtain ⟨A2, m2, c2, hz2, hok2, hE2⟩ := hCl.left_ q z hzq (Nat.le_refl _)
   obtain ⟨g, cg, cur, hvg, hbg, hBg, hgl, hgc, hgs, hcells⟩ := hCl.rowI.open_ (by omega)
   have hA : A' = some ⟨g, 0, none⟩ := by injection hvg
   subst hA
   have f := flat_get inoV 4 (fun x => rfl) zs q z hzq
   have r2 : wr.cell? ⟨g, q * 4 + 2, none⟩ = some (.slice A2 m2 c2) := by rw [← hz2]; exact hcells _ _ (f 2 (by omega))
   have rf : wr.frozen? ⟨g, q * 4 + 2, none⟩ = false := frozen_of_row wr g _ _ _ hgc
   have hm3 : m2 ≤ 1099511627776 := by
    have h1 := hE2.1
    have h2 : z.1 ∈ s.inos := by rw [← hCl.inos]; exact List.mem_map_of_mem (List.mem_of_getElem? hzq)
    have := HZ.out.ents h2
    omega
   have hce : ∀ X, Below wr.heap.size wr X → Calls Try.prog 34 #[.slice A2 m2 c2] X fun e w' => ∃ v', e = .returned v' ∧ RowAt X.heap.size w' 75 2 v' m2 (z.1.ents.flatMap enV) ∧ Below X.heap.size X w' := fun X hX => by
    have hEX := ents_cells ((hE2.below hbel).below hX) hok2
    exact cloneE_row (z.1.ents.flatMap enV) A2 m2 c2 X hok2 hEX.1 hEX.2 (enV_one _) hm3
   have k0 : (0 : Int) ≤ (q : Int) := by omega
   have k1 : (q : Int) < (n : Int) := by omega
   have hm2e : m2 = z.1.ents.length := hE2.1.symm
   have HM2E := Lib.hid hm2e
   have HCE := Lib.hid hce
   have HCL := Lib.hid hCl
   have HO := Lib.hid hO
   have HOB := Lib.hid hOb
   have HB := Lib.hid hbel
   have HGC := Lib.hid hgc
   have HZQ := Lib.hid hzq
   clear hE2 hm2e hce hCl hO hOb hbel hgc hzq f hcells hz2 hbg hvg hok2
   go_wp2_with fail
   refine wp_region_held2 (S := (fun w' => w'.cell? ⟨w.heap.size, 0, none⟩ = some (.slice (some ⟨g, 0, none⟩) n c') ∧ w'.cell? ⟨g, q * 4 + 2, none⟩ = some (.slice A2 m2 c2))) 12 (by kernel_rfl) (by kernel_rfl) ?_
   have hHeld := (⟨p0, r2⟩ : (fun w' => w'.cell? ⟨w.heap.size, 0, none⟩ = some (.slice (some ⟨g, 0, none⟩) n c') ∧ w'.cell? ⟨g, q * 4 + 2, none⟩ = some (.slice A2 m2 c2)) wr.drew)
   intro hh
   try simp only [List.size_toArray, List.length_cons, List.length_nil, Nat.zero_add, Nat.reduceAdd, Array.replicate, List.replicate]
   refine held2_take hh (i := 0) (oi := _) (v := ?tv0) rfl (by decide) (by kernel_rfl) (by kernel_rfl) (fun _ _ _ h => h) (Or.inl ⟨by kernel_rfl, ?ty0⟩) hHeld ?tr0
   case ty0 => (intro w7 hS7; obtain ⟨s0, s1⟩ := hS7; go_simp; try (with_reducible rfl))
   clear hh; intro hh
   try simp only [Act.put, List.setIfInBounds_toArray, List.set_cons_zero, List.set_cons_succ]
   refine held2_take hh (i := 1) (oi := _) (v := ?tv1) rfl (by decide) (by kernel_rfl) (by kernel_rfl) (fun _ _ _ h => h) (Or.inl ⟨by kernel_rfl, ?ty1⟩) hHeld ?tr1
   case ty1 => (intro w7 hS7; obtain ⟨s0, s1⟩ := hS7; go_simp; try (with_reducible rfl))
   clear hh; intro hh
   try simp only [Act.put, List.setIfInBounds_toArray, List.set_cons_zero, List.set_cons_succ]
   refine held2_take hh (i := 2) (oi := _) (v := ?tv2) rfl (by decide) (by kernel_rfl) (by kernel_rfl) (fun _ _ _ h => h) (Or.inl ⟨by kernel_rfl, ?ty2⟩) hHeld ?tr2
   case ty2 => (intro w7 hS7; obtain ⟨s0, s1⟩ := hS7; go_simp; try (with_reducible rfl))
   clear hh; intro hh
   try simp only [Act.put, List.setIfInBounds_toArray, List.set_cons_zero, List.set_cons_succ]
   refine held2_take hh (i := 3) (oi := _) (v := ?tv3) rfl (by decide) (by kernel_rfl) (by kernel_rfl) (fun _ _ _ h => h) (Or.inl ⟨by kernel_rfl, ?ty3⟩) hHeld ?tr3
   case ty3 => (intro w7 hS7; obtain ⟨s0, s1⟩ := hS7; go_simp; try (with_reducible rfl))
   clear hh; intro hh
   try simp only [Act.put, List.setIfInBounds_toArray, List.set_cons_zero, List.set_cons_succ]
   refine held2_take hh (i := 4) (oi := _) (v := ?tv4) rfl (by decide) (by kernel_rfl) (by kernel_rfl) (fun _ _ _ h => h) (Or.inl ⟨by kernel_rfl, ?ty4⟩) hHeld ?tr4
   case ty4 => (intro w7 hS7; obtain ⟨s0, s1⟩ := hS7; go_simp; try (with_reducible rfl))
   clear hh; intro hh
   try simp only [Act.put, List.setIfInBounds_toArray, List.set_cons_zero, List.set_cons_succ]
   refine held2_take hh (i := 5) (oi := _) (v := ?tv5) rfl (by decide) (by kernel_rfl) (by kernel_rfl) (fun _ _ _ h => h) (Or.inl ⟨by kernel_rfl, ?ty5⟩) hHeld ?tr5
   case ty5 => (intro w7 hS7; obtain ⟨s0, s1⟩ := hS7; go_simp; try (with_reducible rfl))
   clear hh; intro hh
   try simp only [Act.put, List.setIfInBounds_toArray, List.set_cons_zero, List.set_cons_succ]
   refine held2_take hh (i := 6) (oi := _) (v := ?tv6) rfl (by decide) (by kernel_rfl) (by kernel_rfl) (fun _ _ _ h => h) (Or.inl ⟨by kernel_rfl, ?ty6⟩) hHeld ?tr6
   case ty6 => (intro w7 hS7; obtain ⟨s0, s1⟩ := hS7; go_simp; try (with_reducible rfl))
   clear hh; intro hh
   try simp only [Act.put, List.setIfInBounds_toArray, List.set_cons_zero, List.set_cons_succ]
   refine held2_take hh (i := 7) (oi := _) (v := ?tv7) rfl (by decide) (by kernel_rfl) (by kernel_rfl) (fun _ _ _ h => h) (Or.inl ⟨by kernel_rfl, ?ty7⟩) hHeld ?tr7
   case ty7 => (intro w7 hS7; obtain ⟨s0, s1⟩ := hS7; go_simp; try (with_reducible rfl))
   clear hh; intro hh
   try simp only [Act.put, List.setIfInBounds_toArray, List.set_cons_zero, List.set_cons_succ]
   refine held2_take hh (i := 8) (oi := _) (v := ?tv8) rfl (by decide) (by kernel_rfl) (by kernel_rfl) (fun _ _ _ h => h) (Or.inl ⟨by kernel_rfl, ?ty8⟩) hHeld ?tr8
   case ty8 => (intro w7 hS7; obtain ⟨s0, s1⟩ := hS7; go_simp; try (with_reducible rfl))
   clear hh; intro hh
   try simp only [Act.put, List.setIfInBounds_toArray, List.set_cons_zero, List.set_cons_succ]
   refine held2_turn hh (i := 9) (oi := _) rfl (by decide) (by kernel_rfl) rfl ?_
   clear hh
   go_simp
   go_at_call 34
   refine (HCE.out wr.drew (Cv.drewN_below (Below.refl _ _) 1)).mono ?_
   rintro e5 w5 ⟨v5, rfl, hr5, hb5⟩
   have hbw5 : Below wr.heap.size wr w5 := Cv.next (Cv.drewN_below (Below.refl _ _) 1) hb5
   have g0 := (hbw5.cell (p := ⟨w.heap.size, 0, none⟩) hl0).trans p0
   have g2 := (hbw5.cell (p := ⟨g, q * 4 + 2, none⟩) hgl).trans r2
   have gf := (hbw5.frozen (p := ⟨g, q * 4 + 2, none⟩) hgl).trans rf
   obtain ⟨A5, c5, rfl, _⟩ := hr5.slice
   refine ⟨⟨g0, g2⟩, fun hh => ?_⟩
   try clear hHeld
   have hHeld : (fun w' => w'.cell? ⟨w.heap.size, 0, none⟩ = some (.slice (some ⟨g, 0, none⟩) n c') ∧ w'.cell? ⟨g, q * 4 + 2, none⟩ = some (.slice A2 m2 c2)) w5 := ⟨g0, g2⟩
   try simp only [Act.put, List.setIfInBounds_toArray, List.set_cons_zero, List.set_cons_succ]
   refine held2_take hh (i := 10) (oi := _) (v := ?tv10) rfl (by decide) (by kernel_rfl) (by kernel_rfl) (fun _ _ _ h => h) (Or.inl ⟨by kernel_rfl, ?ty10⟩) hHeld ?tr10
   case ty10 => (intro w7 hS7; obtain ⟨s0, s1⟩ := hS7; go_simp; try (with_reducible rfl))
   clear hh; intro hh
   try simp only [Act.put, List.setIfInBounds_toArray, List.set_cons_zero, List.set_cons_succ]
   refine held2_take hh (i := 11) (oi := _) (v := ?tv11) rfl (by decide) (by kernel_rfl) (by kernel_rfl) (fun _ _ _ h => h) (Or.inl ⟨by kernel_rfl, ?ty11⟩) hHeld ?tr11
   case ty11 => (intro w7 hS7; obtain ⟨s0, s1⟩ := hS7; go_simp; try (with_reducible rfl))
   clear hh; intro hh
   try simp only [Act.put, List.setIfInBounds_toArray, List.set_cons_zero, List.set_cons_succ]
   refine held2_end (oi := _) rfl (by kernel_rfl) (by kernel_rfl) rfl ?_
   go_simp
   clear hh
   have hclN := HCL.out.step (by rw [hzl]) HZQ.out hbw5 (by omega) (v' := .slice A5 m2 c5) (by
    have h9 := hr5
    rw [HM2E.out] at h9
    rw [HM2E.out]
    exact h9)
   have hgO : w.heap.size ≠ g := blk_ne HO.out HGC.out (by decide)
   have hgO2 : W.heap.size ≠ g := blk_ne HOB.out HGC.out (by decide)
   have hON : OutAt (w5.setCell ⟨g, q * 4 + 2, none⟩ (.slice A5 m2 c5)) w.heap.size (.slice (some ⟨g, 0, none⟩) n c') (.slice E m d) (.slice D k e) := (Below.heap_setCell w5 ⟨g, q * 4 + 2, none⟩ _ w.heap.size hgO).trans ((hbw5.block w.heap.size hl0).trans HO.out)
   have hONb : OutAt (w5.setCell ⟨g, q * 4 + 2, none⟩ (.slice A5 m2 c5)) W.heap.size (.slice none 0 0) (.slice none 0 0) (.slice none 0 0) := (Below.heap_setCell w5 ⟨g, q * 4 + 2, none⟩ _ W.heap.size hgO2).trans ((hbw5.block W.heap.size (by omega)).trans HOB.out)
   have hBN : Below w.heap.size w (w5.setCell ⟨g, q * 4 + 2, none⟩ (.slice A5 m2 c5)) := (Cv.next HB.out hbw5).setCell hBg _
   have hSN : W1.heap.size ≤ (w5.setCell ⟨g, q * 4 + 2, none⟩ (.slice A5 m2 c5)).heap.size := by
    have := hbw5.size
    simp [World.setCell]
    omega
   have HCN := Lib.hid hclN
   have HON := Lib.hid hON
   have HONB := Lib.hid hONb
   have HBN := Lib.hid hBN
   clear hclN hON hONb hBN hr5 hb5 hbw5 hHeld
   go_wp2_with fail
   go_roundw
   case rel => exact ⟨q + 1, _, by go_num, by omega, HON.out, HONB.out, HBN.out, hSN, by rw [List.length_set]; exact hzl, HCN.out⟩
   case measure => simp [intOf]; omega
  ·have hqn : q = n := by omega
   subst hqn
   have q9 : decide ((q : Int) < (q : Int)) = false := by rw [decide_eq_false_iff_not]; omega
   have hcd : ∀ X, Below wr.heap.size wr X → Calls Try.prog 35 #[.slice E m d] X fun e w' => ∃ v', e = .returned v' ∧ RowAt X.heap.size w' 66 3 v' m (s.opn.flatMap dsV) ∧ Below X.heap.size X w' := fun X hX => by
    have hEX := descs_cells ((HD.out.below hbel).below hX) H6.out
    exact cloneD_row (s.opn.flatMap dsV) E m d X H6.out hEX.1 hEX.2 (dsV_one _) hm2
   have hcm : ∀ X, Below wr.heap.size wr X → Calls Try.prog 36 #[.slice D k e] X fun e w' => ∃ v', e = .returned v' ∧ RowAt X.heap.size w' 3 1 v' k (s.made.map intV) ∧ Below X.heap.size X w' := fun X hX => by
    have hEX := ints_cells ((HM.out.below hbel).below hX)
    exact cloneM_row (s.made.map intV) D k e X H7.out hEX.1 hEX.2 (intsV_one _) hk2
   have HCD := Lib.hid hcd
   have HCM := Lib.hid hcm
   have HCL := Lib.hid hCl
   have HO := Lib.hid hO
   have HOB := Lib.hid hOb
   have HB := Lib.hid hbel
   clear hcd hcm hCl hO hOb hbel
   go_wp2_with fail
   have hlR : W.heap.size < wr.heap.size := by omega
   go_region_law (first
    | (go_simp; go_at_call 35; (refine (HCD.out wr.drew (Cv.drewN_below (Below.refl _ _) 1)).mono ?_; rintro e6 w6 ⟨v6, rfl, hr6, hb6⟩; have hbw6 : Below wr.heap.size wr w6 := Cv.next (Cv.drewN_below (Below.refl _ _) 1) hb6; have g2 := (hbw6.cell (p := ⟨w.heap.size, 2, none⟩) hl0).trans p2))
    | (go_simp; go_at_call 36; (refine (HCM.out w6 hbw6).mono ?_; rintro e7 w7 ⟨v7, rfl, hr7, hb7⟩; have hbw7 : Below wr.heap.size wr w7 := Cv.next hbw6 hb7; have h1 := (hbw7.cell (p := ⟨w.heap.size, 1, none⟩) hl0).trans p1; have h2 := (hbw7.cell (p := ⟨w.heap.size, 2, none⟩) hl0).trans p2; have f1 := (hbw7.frozen (p := ⟨w.heap.size, 1, none⟩) hl0).trans (pf 1); have f2 := (hbw7.frozen (p := ⟨w.heap.size, 2, none⟩) hl0).trans (pf 2); obtain ⟨A6, c6, rfl, _⟩ := hr6.slice; obtain ⟨A7, c7, rfl, _⟩ := hr7.slice)))
   all_goals (
    obtain ⟨W9, hW9⟩ : ∃ W9, (w7.setCell ⟨w.heap.size, 1, none⟩ (.slice A6 m c6)).setCell ⟨w.heap.size, 2, none⟩ (.slice A7 k c7) = W9 := ⟨_, rfl⟩
    have hO7 : OutAt w7 w.heap.size (.slice A' q c') (.slice E m d) (.slice D k e) := (hbw7.block w.heap.size hl0).trans HO.out
    have hO8 : OutAt (w7.setCell ⟨w.heap.size, 1, none⟩ (.slice A6 m c6)) w.heap.size (.slice A' q c') (.slice A6 m c6) (.slice D k e) := heap_setCell_same w7 _ 1 _ _ _ hO7
    have hO9 : OutAt W9 w.heap.size (.slice A' q c') (.slice A6 m c6) (.slice A7 k c7) := by rw [← hW9]; exact heap_setCell_same _ _ 2 _ _ _ hO8
    have hneR : w.heap.size + 1 ≠ w.heap.size := by omega
    have hRo := HOB.out
    rw [z0] at hRo
    have hR7 : OutAt w7 (w.heap.size + 1) (.slice none 0 0) (.slice none 0 0) (.slice none 0 0) := (hbw7.block _ (by omega)).trans hRo
    have hR9 : OutAt W9 (w.heap.size + 1) (.slice none 0 0) (.slice none 0 0) (.slice none 0 0) := by
     rw [← hW9]
     exact (Below.heap_setCell _ ⟨w.heap.size, 2, none⟩ _ _ hneR).trans ((Below.heap_setCell w7 ⟨w.heap.size, 1, none⟩ _ _ hneR).trans hR7)
    have hsz6 : w.heap.size ≤ w6.heap.size := Nat.le_trans (by omega) hbw6.size
    have hml : s.opn.length = m := HD.out.1
    have hkl : s.made.length = k := HM.out.1
    have hown : OwnR w.heap.size W9 s zs (.slice A' q c') (.slice A6 m c6) (.slice A7 k c7) := by
     rw [← hW9]
     exact (((HCL.out.kept hbw7).all (by omega) (by rw [hml]; exact (hr6.fresh hb7).lower (by show w.heap.size ≤ wr.heap.size; omega)) (by rw [hkl]; exact hr7.lower hsz6) HZ.out).set hO7 (by decide) (by decide) (by decide) (by decide)).set hO8 (by decide) (by decide) (by decide) (by decide)
    have hB9 : Below w.heap.size w W9 := by
     rw [← hW9]
     exact ((Cv.next HB.out hbw7).setCell (Nat.le_refl _) _).setCell (Nat.le_refl _) _
    rw [hW9]
    obtain ⟨y0, y1, y2, _⟩ := hO9.get
    obtain ⟨x0', x1', x2', xf'⟩ := hR9.get
    obtain ⟨W8, hW8, hr8, hk8⟩ := hR9.three (.slice A' q c') (.slice A6 m c6) (.slice A7 k c7)
    have hR91 : OutAt (W9.setCell ⟨w.heap.size + 1, 0, none⟩ (.slice A' q c')) (w.heap.size + 1) (.slice A' q c') (.slice none 0 0) (.slice none 0 0) := heap_setCell_same W9 _ 0 _ _ _ hR9
    have hR92 : OutAt ((W9.setCell ⟨w.heap.size + 1, 0, none⟩ (.slice A' q c')).setCell ⟨w.heap.size + 1, 1, none⟩ (.slice A6 m c6)) (w.heap.size + 1) (.slice A' q c') (.slice A6 m c6) (.slice none 0 0) := heap_setCell_same _ _ 1 _ _ _ hR91
    have hown8 : OwnR w.heap.size W8 s zs (.slice A' q c') (.slice A6 m c6) (.slice A7 k c7) := by
     rw [← hW8]
     exact ((hown.set hR9 (by decide) (by decide) (by decide) (by decide)).set hR91 (by decide) (by decide) (by decide) (by decide)).set hR92 (by decide) (by decide) (by decide) (by decide)
    have hB8 : Below w.heap.size w W8 := by
     rw [← hW8]
     exact ((hB9.setCell (by show w.heap.size ≤ w.heap.size + 1; omega) _).setCell (by show w.heap.size ≤ w.heap.size + 1; omega) _).setCell (by show w.heap.size ≤ w.heap.size + 1; omega) _
    have HR8 := Lib.hid hr8
    have HOWN := Lib.hid hown8
    have HB8 := Lib.hid hB8
    clear hO7 hO8 hO9 hRo hR7 hR9 hown hB9 hR91 hR92 hown8 hB8 hr8 hk8 hW9 hr6 hr7 hb6 hb7 hbw6 hbw7
    go_wp2_with fail
    (try simp only [Exit.inBlock, Exit.then])
    refine bodyPost_ret (results_cell_row rfl _ _ (w.heap.size + 1) 27 _ (0, 0) _ rfl HR8.out Try.underlying27 rfl (by kernel_rfl)) rfl ?_
    exact ⟨zs, _, _, _, rfl, HOWN.out, HB8.out⟩)
end Go.Proofs.Ytndcloohcfhejaa
