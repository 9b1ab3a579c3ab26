/- Parts of the proof, side by side: MoClone, MoRecov, MoMayC, FsDo2. -/
import Derived.Test.YtilkhmhgjbhfnaaGreatDoorM34
import Derived.Test.YtilkhmhgjbhfnaaGreatDoorM27
import Derived.Handy
import Derived.Deep.RegionLaw
import Derived.Test.YtilkhmhgjbhfnaaGreatDoorM12
import Derived.Test.YtilkhmhgjbhfnaaGreatDoorM06
import Derived.Defers
import Derived.Recover
import Derived.Test.YtilkhmhgjbhfnaaGreatDoorM09
import Derived.Test.YtilkhmhgjbhfnaaGreatDoorM10
set_option linter.unusedVariables false
set_option linter.unusedSimpArgs false
namespace Go.Proofs.YtilkhmhgjbhfnaaGreatDoor
open Go.RowKit
theorem Sized.ents {s : St} (h : Sized s) {x : Ino} (hx : x ∈ s.inos) : x.ents.length ≤ 1099511627776 := by
 have h1 := h.big
 obtain ⟨i, hi⟩ := List.getElem?_of_mem hx
 have := bulkE_le hi
 omega
set_option maxRecDepth 100000 in
set_option maxHeartbeats 8000000 in
theorem mclone_any (v : Value) (s : St) (w : World) (h : StAt none w v s) :
  Calls Tryz.prog 63 #[v] w fun e w' => ∃ zs vI vO vM, e = .returned (.agg #[vI, vO, vM]) ∧ OwnR w.heap.size w' s zs vI vO vM ∧ Below w.heap.size w w' := by
 obtain ⟨⟨A, n, c, E, m, d, D, k, e, rfl, hI, hD, hM, h5, h6, h7⟩, hz⟩ := h
 have hbig := hz.big
 have hn2 : n ≤ 1099511627776 := by have := hI.1; omega
 have hm2 : m ≤ 1099511627776 := by have := hD.1; omega
 have hk2 : k ≤ 1099511627776 := by have := hM.1; omega
 obtain ⟨W, hW, b0, b1, b2, hal, hlt0⟩ := box_st w A n c E m d D k e
 obtain ⟨W1, hW1⟩ : ∃ W1, W.alloc (.cells #[.slice none 0 0, .slice none 0 0, .slice none 0 0] 31) = W1 := ⟨_, rfl⟩
 have o0 : OutAt W w.heap.size (.slice A n c) (.slice E m d) (.slice D k e) := by rw [← hW]; exact heap_alloc_new w _
 have o1 : OutAt W1 W.heap.size (.slice none 0 0) (.slice none 0 0) (.slice none 0 0) := by rw [← hW1]; exact heap_alloc_new W _
 have l1 : Below W.heap.size W W1 := by rw [← hW1]; exact (Below.refl _ _).alloc (Nat.le_refl _) _
 have z0 : W.heap.size = w.heap.size + 1 := by rw [← hW]; simp
 have z1 : W1.heap.size = w.heap.size + 2 := by rw [← hW1]; simp; omega
 have o01 : OutAt W1 w.heap.size (.slice A n c) (.slice E m d) (.slice D k e) := (l1.block w.heap.size (by omega)).trans o0
 have hl : Below w.heap.size w W1 := Cv.next hal l1
 obtain ⟨zs0, hzs1, hzs2, hzs3, hzs4⟩ := (hI.below hl).pairs
 obtain ⟨zsw, hzw1, hzw2, hzw3, hzw4⟩ := hI.pairs
 have hcl0 := cloneI_row (zsw.flatMap inoV) A n c W1 h5 (by rw [flat_len inoV 4 (fun _ => rfl), hzw2]) (fun ad he j u hj => by
  have h9 := hzw4 ad he j u hj
  exact (hl.cell (World.block_lt_of_cell? _ _ h9)).trans h9) (inoV_one zsw hzw3) hn2
 have HZ := Lib.hid hz
 have HD := Lib.hid hD
 have HM := Lib.hid hM
 have HI0 := Lib.hid hI
 have HC0 := Lib.hid hcl0
 have HO01 := Lib.hid o01
 have HO1 := Lib.hid o1
 have HL := Lib.hid hl
 have HZ1 := Lib.hid hzw1
 have HZ2 := Lib.hid hzw2
 have HZ3 := Lib.hid hzw3
 have H6 := Lib.hid h6
 have H7 := Lib.hid h7
 obtain ⟨p0, p1, p2, pf⟩ := o01.get
 have hlW : w.heap.size < W1.heap.size := by omega
 clear hbig hI hD hM h5 h6 h7 hz b0 b1 b2 hal o0 o1 l1 o01 hl hzs1 hzs2 hzs3 hzs4 hzw1 hzw2 hzw3 hzw4 hcl0
 go_enter Tryz.func63, Tryz.ntmps63
 go_wp2_with fail
 refine HC0.out.mono ?_
 rintro e3 w3 ⟨v3, rfl, hr3, hb3⟩
 obtain ⟨A', c', rfl, hok3⟩ := hr3.slice
 have hO3 : OutAt w3 w.heap.size (.slice A n c) (.slice E m d) (.slice D k e) := (hb3.block w.heap.size hlW).trans HO01.out
 have hO3b : OutAt w3 W.heap.size (.slice none 0 0) (.slice none 0 0) (.slice none 0 0) := (hb3.block W.heap.size (by omega)).trans HO1.out
 obtain ⟨q0, q1, q2, qf⟩ := hO3.get
 obtain ⟨w4, hw4⟩ : ∃ w4, w3.setCell ⟨w.heap.size, 0, none⟩ (.slice A' n c') = w4 := ⟨_, rfl⟩
 have hne0 : W.heap.size ≠ w.heap.size := by omega
 have hO4 : OutAt w4 w.heap.size (.slice A' n c') (.slice E m d) (.slice D k e) := by rw [← hw4]; exact heap_setCell_same w3 _ 0 _ _ _ hO3
 have hO4b : OutAt w4 W.heap.size (.slice none 0 0) (.slice none 0 0) (.slice none 0 0) := by rw [← hw4]; exact (Below.heap_setCell w3 ⟨w.heap.size, 0, none⟩ _ W.heap.size hne0).trans hO3b
 have hB4 : Below w.heap.size w w4 := by rw [← hw4]; exact (Cv.next HL.out hb3).setCell (Nat.le_refl _) _
 have hS4 : W1.heap.size ≤ w4.heap.size := by rw [← hw4]; simpa [World.setCell] using hb3.size
 have hC4 : Cl w w4 s 0 zsw (.slice A' n c') := by
  rw [← hw4]
  refine Cl.set (cur := _) ⟨HZ1.out, ?_, fun j z _ hj => absurd hj (Nat.not_lt_zero _), fun j z hz _ => HZ3.out z (List.mem_of_getElem? hz), fun i j a b _ hi => absurd hi (Nat.not_lt_zero _)⟩ hO3
  rw [HZ2.out]
  exact hr3.lower (by omega)
 have HO4 := Lib.hid hO4
 have HO4b := Lib.hid hO4b
 have HB4 := Lib.hid hB4
 have HC4 := Lib.hid hC4
 obtain ⟨x0, x1, x2, xf⟩ := hO4.get
 clear hr3 hb3 hO3 hO3b hO4 hO4b hB4 hC4 HC0 hok3
 go_wp2_with fail
 go_loopw [11] (fun j wr => ∃ (q : Nat) (zs : List (Ino × Value)), j = .int .i64 q ∧ q ≤ n ∧ OutAt wr w.heap.size (.slice A' n c') (.slice E m d) (.slice D k e) ∧ OutAt wr W.heap.size (.slice none 0 0) (.slice none 0 0) (.slice none 0 0) ∧ Below w.heap.size w wr ∧ W1.heap.size ≤ wr.heap.size ∧ zs.length = n ∧ Cl w wr s q zs (.slice A' n c')) (fun j _ => n - (intOf j).toNat)
 case atStart => exact ⟨0, zsw, rfl, by omega, HO4.out, HO4b.out, HB4.out, hS4, HZ2.out, HC4.out⟩
 case round =>
  obtain ⟨q, zs, rfl, hq, hO, hOb, hbel, hsz, hzl, hCl⟩ := hrel
  obtain ⟨p0, p1, p2, pf⟩ := hO.get
  have hl0 : w.heap.size < wr.heap.size := by omega
  by_cases hlt : q < n
  ·obtain ⟨z, hzq⟩ : ∃ z, zs[q]? = some z := ⟨_, List.getElem?_eq_getElem (by omega)⟩
   obtain ⟨A2, m2, c2, hz2, hok2, hE2⟩ := hCl.left_ q z hzq (Nat.le_refl _)
   obtain ⟨g, cg, cur, hvg, hbg, hBg, hgl, hgc, hgs, hcells⟩ := hCl.rowI.open_ (by omega)
   have hA : A' = some ⟨g, 0, none⟩ := by injection hvg
   subst hA
   have f := flat_get inoV 4 (fun x => rfl) zs q z hzq
   have r2 : wr.cell? ⟨g, q * 4 + 2, none⟩ = some (.slice A2 m2 c2) := by rw [← hz2]; exact hcells _ _ (f 2 (by omega))
   have rf : wr.frozen? ⟨g, q * 4 + 2, none⟩ = false := frozen_of_row wr g _ _ _ hgc
   have hm3 : m2 ≤ 1099511627776 := by
    have h1 := hE2.1
    have h2 : z.1 ∈ s.inos := by rw [← hCl.inos]; exact List.mem_map_of_mem (List.mem_of_getElem? hzq)
    have := HZ.out.ents h2
    omega
   have hce : ∀ X, Below wr.heap.size wr X → Calls Tryz.prog 82 #[.slice A2 m2 c2] X fun e w' => ∃ v', e = .returned v' ∧ RowAt X.heap.size w' 131 2 v' m2 (z.1.ents.flatMap enV) ∧ Below X.heap.size X w' := fun X hX => by
    have hEX := ents_cells ((hE2.below hbel).below hX) hok2
    exact cloneE_row (z.1.ents.flatMap enV) A2 m2 c2 X hok2 hEX.1 hEX.2 (enV_one _) hm3
   have k0 : (0 : Int) ≤ (q : Int) := by omega
   have k1 : (q : Int) < (n : Int) := by omega
   have hm2e : m2 = z.1.ents.length := hE2.1.symm
   have HM2E := Lib.hid hm2e
   have HCE := Lib.hid hce
   have HCL := Lib.hid hCl
   have HO := Lib.hid hO
   have HOB := Lib.hid hOb
   have HB := Lib.hid hbel
   have HGC := Lib.hid hgc
   have HZQ := Lib.hid hzq
   clear hE2 hm2e hce hCl hO hOb hbel hgc hzq f hcells hz2 hbg hvg hok2
   go_wp2_with fail
   refine wp_region_held2 (S := (fun w' => w'.cell? ⟨w.heap.size, 0, none⟩ = some (.slice (some ⟨g, 0, none⟩) n c') ∧ w'.cell? ⟨g, q * 4 + 2, none⟩ = some (.slice A2 m2 c2))) 12 (by kernel_rfl) (by kernel_rfl) ?_
   have hHeld := (⟨p0, r2⟩ : (fun w' => w'.cell? ⟨w.heap.size, 0, none⟩ = some (.slice (some ⟨g, 0, none⟩) n c') ∧ w'.cell? ⟨g, q * 4 + 2, none⟩ = some (.slice A2 m2 c2)) wr.drew)
   intro hh
   try simp only [List.size_toArray, List.length_cons, List.length_nil, Nat.zero_add, Nat.reduceAdd, Array.replicate, List.replicate]
   refine held2_take hh (i := 0) (oi := _) (v := ?tv0) rfl (by decide) (by kernel_rfl) (by kernel_rfl) (fun _ _ _ h => h) (Or.inl ⟨by kernel_rfl, ?ty0⟩) hHeld ?tr0
   case ty0 => (intro w7 hS7; obtain ⟨s0, s1⟩ := hS7; go_simp; try (with_reducible rfl))
   clear hh; intro hh
   try simp only [Act.put, List.setIfInBounds_toArray, List.set_cons_zero, List.set_cons_succ]
   refine held2_take hh (i := 1) (oi := _) (v := ?tv1) rfl (by decide) (by kernel_rfl) (by kernel_rfl) (fun _ _ _ h => h) (Or.inl ⟨by kernel_rfl, ?ty1⟩) hHeld ?tr1
   case ty1 => (intro w7 hS7; obtain ⟨s0, s1⟩ := hS7; go_simp; try (with_reducible rfl))
   clear hh; intro hh
   try simp only [Act.put, List.setIfInBounds_toArray, List.set_cons_zero, List.set_cons_succ]
   refine held2_take hh (i := 2) (oi := _) (v := ?tv2) rfl (by decide) (by kernel_rfl) (by kernel_rfl) (fun _ _ _ h => h) (Or.inl ⟨by kernel_rfl, ?ty2⟩) hHeld ?tr2
   case ty2 => (intro w7 hS7; obtain ⟨s0, s1⟩ := hS7; go_simp; try (with_reducible rfl))
   clear hh; intro hh
   try simp only [Act.put, List.setIfInBounds_toArray, List.set_cons_zero, List.set_cons_succ]
   refine held2_take hh (i := 3) (oi := _) (v := ?tv3) rfl (by decide) (by kernel_rfl) (by kernel_rfl) (fun _ _ _ h => h) (Or.inl ⟨by kernel_rfl, ?ty3⟩) hHeld ?tr3
   case ty3 => (intro w7 hS7; obtain ⟨s0, s1⟩ := hS7; go_simp; try (with_reducible rfl))
   clear hh; intro hh
   try simp only [Act.put, List.setIfInBounds_toArray, List.set_cons_zero, List.set_cons_succ]
   refine held2_take hh (i := 4) (oi := _) (v := ?tv4) rfl (by decide) (by kernel_rfl) (by kernel_rfl) (fun _ _ _ h => h) (Or.inl ⟨by kernel_rfl, ?ty4⟩) hHeld ?tr4
   case ty4 => (intro w7 hS7; obtain ⟨s0, s1⟩ := hS7; go_simp; try (with_reducible rfl))
   clear hh; intro hh
   try simp only [Act.put, List.setIfInBounds_toArray, List.set_cons_zero, List.set_cons_succ]
   refine held2_take hh (i := 5) (oi := _) (v := ?tv5) rfl (by decide) (by kernel_rfl) (by kernel_rfl) (fun _ _ _ h => h) (Or.inl ⟨by kernel_rfl, ?ty5⟩) hHeld ?tr5
   case ty5 => (intro w7 hS7; obtain ⟨s0, s1⟩ := hS7; go_simp; try (with_reducible rfl))
   clear hh; intro hh
   try simp only [Act.put, List.setIfInBounds_toArray, List.set_cons_zero, List.set_cons_succ]
   refine held2_take hh (i := 6) (oi := _) (v := ?tv6) rfl (by decide) (by kernel_rfl) (by kernel_rfl) (fun _ _ _ h => h) (Or.inl ⟨by kernel_rfl, ?ty6⟩) hHeld ?tr6
   case ty6 => (intro w7 hS7; obtain ⟨s0, s1⟩ := hS7; go_simp; try (with_reducible rfl))
   clear hh; intro hh
   try simp only [Act.put, List.setIfInBounds_toArray, List.set_cons_zero, List.set_cons_succ]
   refine held2_take hh (i := 7) (oi := _) (v := ?tv7) rfl (by decide) (by kernel_rfl) (by kernel_rfl) (fun _ _ _ h => h) (Or.inl ⟨by kernel_rfl, ?ty7⟩) hHeld ?tr7
   case ty7 => (intro w7 hS7; obtain ⟨s0, s1⟩ := hS7; go_simp; try (with_reducible rfl))
   clear hh; intro hh
   try simp only [Act.put, List.setIfInBounds_toArray, List.set_cons_zero, List.set_cons_succ]
   refine held2_take hh (i := 8) (oi := _) (v := ?tv8) rfl (by decide) (by kernel_rfl) (by kernel_rfl) (fun _ _ _ h => h) (Or.inl ⟨by kernel_rfl, ?ty8⟩) hHeld ?tr8
   case ty8 => (intro w7 hS7; obtain ⟨s0, s1⟩ := hS7; go_simp; try (with_reducible rfl))
   clear hh; intro hh
   try simp only [Act.put, List.setIfInBounds_toArray, List.set_cons_zero, List.set_cons_succ]
   refine held2_turn hh (i := 9) (oi := _) rfl (by decide) (by kernel_rfl) rfl ?_
   clear hh
   go_simp
   go_at_call 82
   refine (HCE.out wr.drew (Cv.drewN_below (Below.refl _ _) 1)).mono ?_
   rintro e5 w5 ⟨v5, rfl, hr5, hb5⟩
   have hbw5 : Below wr.heap.size wr w5 := Cv.next (Cv.drewN_below (Below.refl _ _) 1) hb5
   have g0 := (hbw5.cell (p := ⟨w.heap.size, 0, none⟩) hl0).trans p0
   have g2 := (hbw5.cell (p := ⟨g, q * 4 + 2, none⟩) hgl).trans r2
   have gf := (hbw5.frozen (p := ⟨g, q * 4 + 2, none⟩) hgl).trans rf
   obtain ⟨A5, c5, rfl, _⟩ := hr5.slice
   refine ⟨⟨g0, g2⟩, fun hh => ?_⟩
   try clear hHeld
   have hHeld : (fun w' => w'.cell? ⟨w.heap.size, 0, none⟩ = some (.slice (some ⟨g, 0, none⟩) n c') ∧ w'.cell? ⟨g, q * 4 + 2, none⟩ = some (.slice A2 m2 c2)) w5 := ⟨g0, g2⟩
   try simp only [Act.put, List.setIfInBounds_toArray, List.set_cons_zero, List.set_cons_succ]
   refine held2_take hh (i := 10) (oi := _) (v := ?tv10) rfl (by decide) (by kernel_rfl) (by kernel_rfl) (fun _ _ _ h => h) (Or.inl ⟨by kernel_rfl, ?ty10⟩) hHeld ?tr10
   case ty10 => (intro w7 hS7; obtain ⟨s0, s1⟩ := hS7; go_simp; try (with_reducible rfl))
   clear hh; intro hh
   try simp only [Act.put, List.setIfInBounds_toArray, List.set_cons_zero, List.set_cons_succ]
   refine held2_take hh (i := 11) (oi := _) (v := ?tv11) rfl (by decide) (by kernel_rfl) (by kernel_rfl) (fun _ _ _ h => h) (Or.inl ⟨by kernel_rfl, ?ty11⟩) hHeld ?tr11
   case ty11 => (intro w7 hS7; obtain ⟨s0, s1⟩ := hS7; go_simp; try (with_reducible rfl))
   clear hh; intro hh
   try simp only [Act.put, List.setIfInBounds_toArray, List.set_cons_zero, List.set_cons_succ]
   refine held2_end (oi := _) rfl (by kernel_rfl) (by kernel_rfl) rfl ?_
   go_simp
   clear hh
   have hclN := HCL.out.step (by rw [hzl]) HZQ.out hbw5 (by omega) (v' := .slice A5 m2 c5) (by
    have h9 := hr5
    rw [HM2E.out] at h9
    rw [HM2E.out]
    exact h9)
   have hgO : w.heap.size ≠ g := blk_ne HO.out HGC.out (by decide)
   have hgO2 : W.heap.size ≠ g := blk_ne HOB.out HGC.out (by decide)
   have hON : OutAt (w5.setCell ⟨g, q * 4 + 2, none⟩ (.slice A5 m2 c5)) w.heap.size (.slice (some ⟨g, 0, none⟩) n c') (.slice E m d) (.slice D k e) := (Below.heap_setCell w5 ⟨g, q * 4 + 2, none⟩ _ w.heap.size hgO).trans ((hbw5.block w.heap.size hl0).trans HO.out)
   have hONb : OutAt (w5.setCell ⟨g, q * 4 + 2, none⟩ (.slice A5 m2 c5)) W.heap.size (.slice none 0 0) (.slice none 0 0) (.slice none 0 0) := (Below.heap_setCell w5 ⟨g, q * 4 + 2, none⟩ _ W.heap.size hgO2).trans ((hbw5.block W.heap.size (by omega)).trans HOB.out)
   have hBN : Below w.heap.size w (w5.setCell ⟨g, q * 4 + 2, none⟩ (.slice A5 m2 c5)) := (Cv.next HB.out hbw5).setCell hBg _
   have hSN : W1.heap.size ≤ (w5.setCell ⟨g, q * 4 + 2, none⟩ (.slice A5 m2 c5)).heap.size := by
    have := hbw5.size
    simp [World.setCell]
    omega
   have HCN := Lib.hid hclN
   have HON := Lib.hid hON
   have HONB := Lib.hid hONb
   have HBN := Lib.hid hBN
   clear hclN hON hONb hBN hr5 hb5 hbw5 hHeld
   go_wp2_with fail
   go_roundw
   case rel => exact ⟨q + 1, _, by go_num, by omega, HON.out, HONB.out, HBN.out, hSN, by rw [List.length_set]; exact hzl, HCN.out⟩
   case measure => simp [intOf]; omega
  ·have hqn : q = n := by omega
   subst hqn
   have q9 : decide ((q : Int) < (q : Int)) = false := by rw [decide_eq_false_iff_not]; omega
   have hcd : ∀ X, Below wr.heap.size wr X → Calls Tryz.prog 83 #[.slice E m d] X fun e w' => ∃ v', e = .returned v' ∧ RowAt X.heap.size w' 97 3 v' m (s.opn.flatMap dsV) ∧ Below X.heap.size X w' := fun X hX => by
    have hEX := descs_cells ((HD.out.below hbel).below hX) H6.out
    exact cloneD_row (s.opn.flatMap dsV) E m d X H6.out hEX.1 hEX.2 (dsV_one _) hm2
   have hcm : ∀ X, Below wr.heap.size wr X → Calls Tryz.prog 84 #[.slice D k e] X fun e w' => ∃ v', e = .returned v' ∧ RowAt X.heap.size w' 3 1 v' k (s.made.map intV) ∧ Below X.heap.size X w' := fun X hX => by
    have hEX := ints_cells ((HM.out.below hbel).below hX)
    exact cloneM_row (s.made.map intV) D k e X H7.out hEX.1 hEX.2 (intsV_one _) hk2
   have HCD := Lib.hid hcd
   have HCM := Lib.hid hcm
   have HCL := Lib.hid hCl
   have HO := Lib.hid hO
   have HOB := Lib.hid hOb
   have HB := Lib.hid hbel
   clear hcd hcm hCl hO hOb hbel
   go_wp2_with fail
   have hlR : W.heap.size < wr.heap.size := by omega
   go_region_law (first
    | (go_simp; go_at_call 83; (refine (HCD.out wr.drew (Cv.drewN_below (Below.refl _ _) 1)).mono ?_; rintro e6 w6 ⟨v6, rfl, hr6, hb6⟩; have hbw6 : Below wr.heap.size wr w6 := Cv.next (Cv.drewN_below (Below.refl _ _) 1) hb6; have g2 := (hbw6.cell (p := ⟨w.heap.size, 2, none⟩) hl0).trans p2))
    | (go_simp; go_at_call 84; (refine (HCM.out w6 hbw6).mono ?_; rintro e7 w7 ⟨v7, rfl, hr7, hb7⟩; have hbw7 : Below wr.heap.size wr w7 := Cv.next hbw6 hb7; have h1 := (hbw7.cell (p := ⟨w.heap.size, 1, none⟩) hl0).trans p1; have h2 := (hbw7.cell (p := ⟨w.heap.size, 2, none⟩) hl0).trans p2; have f1 := (hbw7.frozen (p := ⟨w.heap.size, 1, none⟩) hl0).trans (pf 1); have f2 := (hbw7.frozen (p := ⟨w.heap.size, 2, none⟩) hl0).trans (pf 2); obtain ⟨A6, c6, rfl, _⟩ := hr6.slice; obtain ⟨A7, c7, rfl, _⟩ := hr7.slice)))
   all_goals (
    obtain ⟨W9, hW9⟩ : ∃ W9, (w7.setCell ⟨w.heap.size, 1, none⟩ (.slice A6 m c6)).setCell ⟨w.heap.size, 2, none⟩ (.slice A7 k c7) = W9 := ⟨_, rfl⟩
    have hO7 : OutAt w7 w.heap.size (.slice A' q c') (.slice E m d) (.slice D k e) := (hbw7.block w.heap.size hl0).trans HO.out
    have hO8 : OutAt (w7.setCell ⟨w.heap.size, 1, none⟩ (.slice A6 m c6)) w.heap.size (.slice A' q c') (.slice A6 m c6) (.slice D k e) := heap_setCell_same w7 _ 1 _ _ _ hO7
    have hO9 : OutAt W9 w.heap.size (.slice A' q c') (.slice A6 m c6) (.slice A7 k c7) := by rw [← hW9]; exact heap_setCell_same _ _ 2 _ _ _ hO8
    have hneR : w.heap.size + 1 ≠ w.heap.size := by omega
    have hRo := HOB.out
    rw [z0] at hRo
    have hR7 : OutAt w7 (w.heap.size + 1) (.slice none 0 0) (.slice none 0 0) (.slice none 0 0) := (hbw7.block _ (by omega)).trans hRo
    have hR9 : OutAt W9 (w.heap.size + 1) (.slice none 0 0) (.slice none 0 0) (.slice none 0 0) := by
     rw [← hW9]
     exact (Below.heap_setCell _ ⟨w.heap.size, 2, none⟩ _ _ hneR).trans ((Below.heap_setCell w7 ⟨w.heap.size, 1, none⟩ _ _ hneR).trans hR7)
    have hsz6 : w.heap.size ≤ w6.heap.size := Nat.le_trans (by omega) hbw6.size
    have hml : s.opn.length = m := HD.out.1
    have hkl : s.made.length = k := HM.out.1
    have hown : OwnR w.heap.size W9 s zs (.slice A' q c') (.slice A6 m c6) (.slice A7 k c7) := by
     rw [← hW9]
     exact (((HCL.out.kept hbw7).all (by omega) (by rw [hml]; exact (hr6.fresh hb7).lower (by show w.heap.size ≤ wr.heap.size; omega)) (by rw [hkl]; exact hr7.lower hsz6) HZ.out).set hO7 (by decide) (by decide) (by decide) (by decide)).set hO8 (by decide) (by decide) (by decide) (by decide)
    have hB9 : Below w.heap.size w W9 := by
     rw [← hW9]
     exact ((Cv.next HB.out hbw7).setCell (Nat.le_refl _) _).setCell (Nat.le_refl _) _
    rw [hW9]
    obtain ⟨y0, y1, y2, _⟩ := hO9.get
    obtain ⟨x0', x1', x2', xf'⟩ := hR9.get
    obtain ⟨W8, hW8, hr8, hk8⟩ := hR9.three (.slice A' q c') (.slice A6 m c6) (.slice A7 k c7)
    have hR91 : OutAt (W9.setCell ⟨w.heap.size + 1, 0, none⟩ (.slice A' q c')) (w.heap.size + 1) (.slice A' q c') (.slice none 0 0) (.slice none 0 0) := heap_setCell_same W9 _ 0 _ _ _ hR9
    have hR92 : OutAt ((W9.setCell ⟨w.heap.size + 1, 0, none⟩ (.slice A' q c')).setCell ⟨w.heap.size + 1, 1, none⟩ (.slice A6 m c6)) (w.heap.size + 1) (.slice A' q c') (.slice A6 m c6) (.slice none 0 0) := heap_setCell_same _ _ 1 _ _ _ hR91
    have hown8 : OwnR w.heap.size W8 s zs (.slice A' q c') (.slice A6 m c6) (.slice A7 k c7) := by
     rw [← hW8]
     exact ((hown.set hR9 (by decide) (by decide) (by decide) (by decide)).set hR91 (by decide) (by decide) (by decide) (by decide)).set hR92 (by decide) (by decide) (by decide) (by decide)
    have hB8 : Below w.heap.size w W8 := by
     rw [← hW8]
     exact ((hB9.setCell (by show w.heap.size ≤ w.heap.size + 1; omega) _).setCell (by show w.heap.size ≤ w.heap.size + 1; omega) _).setCell (by show w.heap.size ≤ w.heap.size + 1; omega) _
    have HR8 := Lib.hid hr8
    have HOWN := Lib.hid hown8
    have HB8 := Lib.hid hB8
    clear hO7 hO8 hO9 hRo hR7 hR9 hown hB9 hR91 hR92 hown8 hB8 hr8 hk8 hW9 hr6 hr7 hb6 hb7 hbw6 hbw7
    go_wp2_with fail
    (try simp only [Exit.inBlock, Exit.then])
    refine bodyPost_ret (results_cell_row rfl _ _ (w.heap.size + 1) 31 _ (0, 0) _ rfl HR8.out Tryz.underlying31 rfl (by kernel_rfl)) rfl ?_
    exact ⟨zs, _, _, _, rfl, HOWN.out, HB8.out⟩)
theorem RowAt.keepT {B : Nat} {w w' : World} {e : TypeId} {k : Nat} {v : Value} {n : Nat} {xs : List Value} (h : RowAt B w e k v n xs) (hk : KeepT e w w') : RowAt B w' e k v n xs := by
 refine ⟨h.1, ?_⟩
 rcases h.2 with h0 | ⟨g, cap, cur, rfl, hc, hB, hg, rest⟩
 ·exact .inl h0
 ·exact .inr ⟨g, cap, cur, rfl, hc, hB, (hk.same g cur hg).trans hg, rest⟩
theorem OwnR.keep {B : Nat} {w w' : World} {s : St} {zs : List (Ino × Value)} {vI vO vM : Value} (h : OwnR B w s zs vI vO vM) (hI : KeepT 65 w w') (hE : KeepT 131 w w') (hD : KeepT 97 w w') (hM : KeepT 3 w w') : OwnR B w' s zs vI vO vM :=
 ⟨h.inos, h.rowI.keepT hI, fun z hz => (h.ents z hz).keepT hE, h.apart, h.rowO.keepT hD, h.rowM.keepT hM, h.sized⟩
theorem run_fault (code : Int) (w : World) : (Instr.typeAssert (.iface 121 (.agg #[.int .i64 code])) 20 121 true).run Tryz.prog w = .ok (.tuple #[.agg #[.int .i64 code], .bool true]) w := by kernel_rfl
theorem recov_idle (g1 g4 g5 : Nat) (w : World) :
  CallsD Tryz.prog 64 #[.pointer (some ⟨g1, 0, none⟩), .pointer (some ⟨g4, 0, none⟩), .pointer (some ⟨g5, 0, none⟩)] .returning w fun e u' w' => e = .returned (.tuple #[]) ∧ u' = .returning ∧ w = w' := by
 refine callsD_of_wpS Tryz.func64 rfl fun c₀ cs hu => ?_
 simp only [Tryz.ntmps64, List.size_toArray, List.length_cons, List.length_nil, Nat.reduceAdd, Nat.reduceSub, Array.replicate_succ, Array.replicate_zero, List.push_toArray, List.append_toArray, List.nil_append, List.cons_append]
 apply wpS_seq
 apply wpS_region
 simp [wpOpsS, go_sem, recoverD, hu, Exit.thenS]
 refine wpS_of_wp ?_
 go_wp2_with fail
 refine ⟨rfl, .returning, ?_, .tuple #[], results_none rfl _ _ _, rfl, rfl, rfl⟩
 cases c₀
 simp_all
set_option maxRecDepth 100000 in
set_option maxHeartbeats 4000000 in
theorem recov_panic (g1 g4 g5 : Nat) (A : Option Addr) (n c' : Nat) (E : Option Addr) (m d : Nat) (D : Option Addr) (k e : Nat) (s : St) (code : Int) (w : World) (hb : OutAt w g1 (.slice A n c') (.slice E m d) (.slice D k e)) (h : StAt none w (.agg #[.slice A n c', .slice E m d, .slice D k e]) s)
  (hO : OutAt w g4 (.slice none 0 0) (.slice none 0 0) (.slice none 0 0)) (hR : ResAt w g5 (.int .i64 0) (.int .i64 0) (.int .i64 0) (.bool false) (.string ⟨#[]⟩) (.slice none 0 0)) :
  CallsD Tryz.prog 64 #[.pointer (some ⟨g1, 0, none⟩), .pointer (some ⟨g4, 0, none⟩), .pointer (some ⟨g5, 0, none⟩)] (.panicking (faultP code)) w fun e u' w' => e = .returned (.tuple #[]) ∧ u' = .panicking [{ v := .iface 121 (.agg #[.int .i64 code]), recovered := true }] ∧
   ∃ zs vI vO vM, OutAt w' g4 vI vO vM ∧ OwnR w.heap.size w' s zs vI vO vM ∧ ResAt w' g5 (.int .i64 code) (.int .i64 0) (.int .i64 0) (.bool false) (.string ⟨#[]⟩) (.slice none 0 0) ∧ ∀ B, B ≤ g4 → B ≤ g5 → B ≤ w.heap.size → Below B w w' := by
 have HB := Lib.hid hb
 have HST := Lib.hid h
 have HO := Lib.hid hO
 have HR := Lib.hid hR
 obtain ⟨p0, p1, p2, pf⟩ := hb.get
 have l1 := (Array.getElem?_eq_some_iff.1 hb).1
 have l4 := (Array.getElem?_eq_some_iff.1 hO).1
 have l5 := hR.lt
 clear hb h hO hR
 refine callsD_of_wpS Tryz.func64 rfl fun c₀ cs hu => ?_
 simp only [Tryz.ntmps64, List.size_toArray, List.length_cons, List.length_nil, Nat.reduceAdd, Nat.reduceSub, Array.replicate_succ, Array.replicate_zero, List.push_toArray, List.append_toArray, List.nil_append, List.cons_append]
 unfold faultP at hu
 apply wpS_seq
 apply wpS_region
 simp [wpOpsS, go_sem, recoverD, hu, Exit.thenS]
 refine wpS_of_wp ?_
 have HU := Lib.hid hu
 clear hu
 have hta := run_fault code
 go_wp2_with fail
 obtain ⟨V, hV⟩ : ∃ V, w.alloc (.cells #[.int .i64 code] 121) = V := ⟨_, rfl⟩
 have hal : Below w.heap.size w V := by rw [← hV]; exact (Below.refl _ _).alloc (Nat.le_refl _) _
 have hvc : V.cell? ⟨w.heap.size, 0, none⟩ = some (.int .i64 code) := by rw [← hV]; rw [cell_of_row _ _ _ _ _ (0, 0) (Go.heap_alloc_new w _)]; rfl
 have hlv : w.heap.size < V.heap.size := by rw [← hV]; simp
 have v0 := (hal.cell (p := ⟨g1, 0, none⟩) l1).trans p0
 have v1 := (hal.cell (p := ⟨g1, 1, none⟩) l1).trans p1
 have v2 := (hal.cell (p := ⟨g1, 2, none⟩) l1).trans p2
 have hcl := mclone_any _ s V.drew (HST.out.below (Cv.next hal (Cv.drewN_below (Below.refl V.heap.size V) 1)))
 have hdr : Below V.heap.size V V.drew := Cv.drewN_below (Below.refl _ _) 1
 have hOV := (hal.block g4 l4).trans HO.out
 have hRV := (hal.block g5 l5).trans HR.out
 have l4V : g4 < V.heap.size := by omega
 have l5V : g5 < V.heap.size := by omega
 have hg45 : g4 ≠ g5 := blk_ne HO.out HR.out (by decide)
 have hg4f : g4 ≠ w.heap.size := by omega
 have hg5f : g5 ≠ w.heap.size := by omega
 have HCL := Lib.hid hcl
 have HAL := Lib.hid hal
 rw [hV]
 clear hal hcl p0 p1 p2 pf hV
 go_region_law (go_simp; go_at_call 63; (refine HCL.out.mono ?_; rintro e6 w6 ⟨zs, vI, vO, vM, rfl, hown6, hb6⟩; obtain ⟨A1, c1, rfl, _⟩ := hown6.rowI.slice; obtain ⟨A2, c2, rfl, _⟩ := hown6.rowO.slice; obtain ⟨A3, c3, rfl, _⟩ := hown6.rowM.slice; have hbw6 : Below V.heap.size V w6 := Cv.next hdr hb6; have hO6 : OutAt w6 g4 _ _ _ := (hbw6.block g4 l4V).trans hOV; have hR6 : ResAt w6 g5 _ _ _ _ _ _ := (hbw6.block g5 l5V).trans hRV; have k6 := (hbw6.cell (p := ⟨w.heap.size, 0, none⟩) hlv).trans hvc; obtain ⟨x0, x1, x2, xf⟩ := hO6.get; obtain ⟨y0, y1, y2, y3, y4, y5, yf⟩ := hR6.get))
 all_goals (
  obtain ⟨U4, hU4, hr4, hk4, hB4⟩ := hO6.three (.slice A1 zs.length c1) (.slice A2 s.opn.length c2) (.slice A3 s.made.length c3)
  have hRU : ResAt U4 g5 _ _ _ _ _ _ := (((hk4 87 (by decide)).same g5 _ hR6)).trans hR6
  obtain ⟨U6, hU6, hr6, hk6, hB6, hs6, _⟩ := hRU.six (.int .i64 code) (.int .i64 0) (.int .i64 0) (.bool false) (.string ⟨#[]⟩) (.slice none 0 0)
  have hO9 : OutAt U6 g4 _ _ _ := (hs6 g4 hg45).trans hr4
  have hown9 : OwnR w.heap.size U6 s zs (.slice A1 zs.length c1) (.slice A2 s.opn.length c2) (.slice A3 s.made.length c3) := ((hown6.lower (by show w.heap.size ≤ V.drew.heap.size; exact Nat.le_of_lt hlv)).keep (hk4 _ (by decide)) (hk4 _ (by decide)) (hk4 _ (by decide)) (hk4 _ (by decide))).keep (hk6 _ (by decide)) (hk6 _ (by decide)) (hk6 _ (by decide)) (hk6 _ (by decide))
  have hBF : ∀ B, B ≤ g4 → B ≤ g5 → B ≤ w.heap.size → Below B w U6 := fun B h1 h2 h3 => hB6 B w h2 (hB4 B w h1 ((HAL.out.mono h3).trans (hbw6.mono (Nat.le_trans h3 HAL.out.size))))
  have HF := Lib.hid (And.intro hO9 (And.intro hown9 (And.intro hr6 hBF)))
  rw [hU4, hU6]
  have hu := HU.out
  clear hO9 hown9 hBF hr6 hk6 hB6 hs6 hr4 hk4 hB4 hRU hown6 hb6 hbw6 hO6 hR6 hU4 hU6
  go_wp2_with fail
  refine ⟨rfl, .panicking [{ v := .iface 121 (.agg #[.int .i64 code]), recovered := true }], ?_, .tuple #[], results_none rfl _ _ _, rfl, rfl, zs, _, _, _, HF.out⟩
  cases c₀
  simp_all)
def mayC (s : St) (c : Ca) : Bool := decide (0 ≤ c.kind) && decide (c.kind ≤ 16) && decide (0 ≤ c.core) && decide (c.core < (s.made.length : Int)) && mayV s
set_option maxRecDepth 100000 in
set_option maxHeartbeats 8000000 in
theorem mmayc_any (g1 g2 : Nat) (A : Option Addr) (n c' : Nat) (E : Option Addr) (m d : Nat) (D : Option Addr) (k e : Nat) (s : St) (c : Ca) (w : World) (hb : w.heap[g1]? = some (.cells #[.slice A n c', .slice E m d, .slice D k e] 31 (0, 0))) (h : StAt none w (.agg #[.slice A n c', .slice E m d, .slice D k e]) s) (hc : w.heap[g2]? = some (caRow c)) :
  Calls Tryz.prog 62 #[.pointer (some ⟨g1, 0, .none⟩), .pointer (some ⟨g2, 0, .none⟩)] w fun e w' => e = .returned (.bool (mayC s c)) ∧ Below w.heap.size w w' := by
 have hk : k = s.made.length := by
  obtain ⟨A', n', c9, B', m', d', D', k', e', hv, _, _, hM, _⟩ := h.at_
  injection hv with hv
  have h2 := congrArg (fun a : Array Value => a[2]?) hv
  simp at h2
  rw [hM.1]
  exact h2.2.1
 obtain ⟨MV, hMV⟩ : ∃ MV, mayV s = MV := ⟨_, rfl⟩
 have hmay : ∀ X : Ext w, Calls Tryz.prog 76 #[.agg #[.slice A n c', .slice E m d, .slice D k e]] X.w fun e w' => e = .returned (.bool MV) ∧ Below X.w.heap.size X.w w' := fun X => by
  have h9 := mmay_any _ s X.w (h.below X.bel)
  rw [hMV] at h9
  exact h9
 obtain ⟨KD, hKD⟩ : ∃ KD, c.kind = KD := ⟨_, rfl⟩
 obtain ⟨CO, hCO⟩ : ∃ CO, c.core = CO := ⟨_, rfl⟩
 unfold caRow at hc
 have s0 : w.cell? ⟨g1, 0, none⟩ = some (.slice A n c') := by rw [cell_of_row w g1 _ _ _ (0, 0) hb]; rfl
 have s1 : w.cell? ⟨g1, 1, none⟩ = some (.slice E m d) := by rw [cell_of_row w g1 _ _ _ (0, 0) hb]; rfl
 have s2 : w.cell? ⟨g1, 2, none⟩ = some (.slice D k e) := by rw [cell_of_row w g1 _ _ _ (0, 0) hb]; rfl
 have t0 : w.cell? ⟨g2, 0, none⟩ = some (.int .i64 KD) := by rw [cell_of_row w g2 _ _ _ (0, 0) hc, ← hKD]; rfl
 have t1 : w.cell? ⟨g2, 1, none⟩ = some (.int .i64 CO) := by rw [cell_of_row w g2 _ _ _ (0, 0) hc, ← hCO]; rfl
 have hX := @Ext.cell w
 have HMAY := Lib.hid hmay
 have HK := Lib.hid (And.intro hKD hCO)
 have HC := Lib.hid (And.intro hk hMV)
 have hm : mayC s c = (decide (0 ≤ KD) && decide (KD ≤ 16) && decide (0 ≤ CO) && decide (CO < (k : Int)) && MV) := by unfold mayC; rw [hKD, hCO, ← hk, hMV]
 clear hmay hKD hCO hk hMV hb hc h
 have HM := Lib.hid hm
 clear hm
 by_cases h0 : 0 ≤ KD
 rotate_left
 ·have q0 : decide (0 ≤ KD) = false := decide_eq_false h0
  clear h0
  have HR := Lib.hid (show mayC s c = false by rw [HM.out, q0]; simp)
  rw [HR.out]
  clear HK HC
  go_enter Tryz.func62, Tryz.ntmps62
  go_wp2_with fail
  refine wre ?_
  repeat (go_big_quiet_step ((go_at_call 76; rename_i X; exact Calls.ext_of (HMAY.out X))))
  refine wpQuiet_nil ?_
  rintro w9 ⟨X, rfl⟩
  have HB := Lib.hid X.bel
  clear hX
  go_wp2_with fail
  go_ret
  exact ⟨rfl, HB.out⟩
 have q0 : decide (0 ≤ KD) = true := decide_eq_true h0
 clear h0
 by_cases h1 : KD ≤ 16
 rotate_left
 ·have q1 : decide (KD ≤ 16) = false := decide_eq_false h1
  clear h1
  have HR := Lib.hid (show mayC s c = false by rw [HM.out, q1]; simp)
  rw [HR.out]
  clear HK HC
  go_enter Tryz.func62, Tryz.ntmps62
  go_wp2_with fail
  refine wre ?_
  repeat (go_big_quiet_step ((go_at_call 76; rename_i X; exact Calls.ext_of (HMAY.out X))))
  refine wpQuiet_nil ?_
  rintro w9 ⟨X, rfl⟩
  have HB := Lib.hid X.bel
  clear hX
  go_wp2_with fail
  go_ret
  exact ⟨rfl, HB.out⟩
 have q1 : decide (KD ≤ 16) = true := decide_eq_true h1
 clear h1
 by_cases h2 : 0 ≤ CO
 rotate_left
 ·have q2 : decide (0 ≤ CO) = false := decide_eq_false h2
  clear h2
  have HR := Lib.hid (show mayC s c = false by rw [HM.out, q2]; simp)
  rw [HR.out]
  clear HK HC
  go_enter Tryz.func62, Tryz.ntmps62
  go_wp2_with fail
  refine wre ?_
  repeat (go_big_quiet_step ((go_at_call 76; rename_i X; exact Calls.ext_of (HMAY.out X))))
  refine wpQuiet_nil ?_
  rintro w9 ⟨X, rfl⟩
  have HB := Lib.hid X.bel
  clear hX
  go_wp2_with fail
  go_ret
  exact ⟨rfl, HB.out⟩
 have q2 : decide (0 ≤ CO) = true := decide_eq_true h2
 clear h2
 by_cases h3 : CO < (k : Int)
 rotate_left
 ·have q3 : decide (CO < (k : Int)) = false := decide_eq_false h3
  clear h3
  have HR := Lib.hid (show mayC s c = false by rw [HM.out, q3]; simp)
  rw [HR.out]
  clear HK HC
  go_enter Tryz.func62, Tryz.ntmps62
  go_wp2_with fail
  refine wre ?_
  repeat (go_big_quiet_step ((go_at_call 76; rename_i X; exact Calls.ext_of (HMAY.out X))))
  refine wpQuiet_nil ?_
  rintro w9 ⟨X, rfl⟩
  have HB := Lib.hid X.bel
  clear hX
  go_wp2_with fail
  go_ret
  exact ⟨rfl, HB.out⟩
 have q3 : decide (CO < (k : Int)) = true := decide_eq_true h3
 clear h3
 have HR := Lib.hid (show mayC s c = MV by rw [HM.out, q0, q1, q2, q3]; rfl)
 rw [HR.out]
 clear HK HC
 go_enter Tryz.func62, Tryz.ntmps62
 go_wp2_with fail
 refine wre ?_
 repeat (go_big_quiet_step ((go_at_call 76; rename_i X; exact Calls.ext_of (HMAY.out X))))
 refine wpQuiet_nil ?_
 rintro w9 ⟨X, rfl⟩
 have HB := Lib.hid X.bel
 clear hX
 go_wp2_with fail
 go_ret
 exact ⟨rfl, HB.out⟩
theorem results_cells {fn : Func} {p q : Tmp} {ty tz : TypeId} (h : fn.results = #[.cell p ty, .cell q tz]) (tmps : Array Value) (P : Program) (w : World) :
  (results fn tmps).run P w =
   ((asAddr (tmps.getD p undef)).run P w).andThen fun a w₁ => ((loadVar ty a).run P w₁).andThen fun v w₂ => ((asAddr (tmps.getD q undef)).run P w₂).andThen fun b w₃ => ((loadVar tz b).run P w₃).andThen fun z w₄ => .ok (.tuple #[v, z]) w₄ := by
 simp only [results, h]
 simp [Sem.run_bind, Result.andThen]
end Go.Proofs.YtilkhmhgjbhfnaaGreatDoor
