/- pmem.Mem.Copy, by its contract. -/
import Derived.Test.YtbflennacniacaaPmCopy0
import Derived.Deep.RegionHeld3
namespace Go.Proofs.Ytbflennacniacaa
open Go.RowKit
set_option linter.unusedVariables false
theorem block_later {w w' : World} {b : Nat} {o : Obj} (hb : Below w.heap.size w w') (h : w.heap[b]? = some o) : w'.heap[b]? = some o :=
  (hb.block b (Array.getElem?_eq_some_iff.1 h).1).trans h
theorem copied_cells {w : World} {b : Nat} {v0 v1 v2 v3 v4 v5 v6 : Value} {t : TypeId} (h : w.heap[b]? = some (.cells #[v0, v1, v2, v3, v4, v5, v6] t (0, 0))) :
    (w.cell? ⟨b, 0, .none⟩ = some v0 ∧ w.cell? ⟨b, 1, .none⟩ = some v1 ∧ w.cell? ⟨b, 2, .none⟩ = some v2 ∧ w.cell? ⟨b, 4, .none⟩ = some v4) ∧
    (w.frozen? ⟨b, 0, .none⟩ = false ∧ w.frozen? ⟨b, 1, .none⟩ = false ∧ w.frozen? ⟨b, 2, .none⟩ = false ∧ w.frozen? ⟨b, 4, .none⟩ = false) := by
  refine ⟨⟨?_, ?_, ?_, ?_⟩, frozen_of_row w b 0 _ _ h, frozen_of_row w b 1 _ _ h, frozen_of_row w b 2 _ _ h, frozen_of_row w b 4 _ _ h⟩ <;> (rw [cell_of_row w b _ _ _ (0, 0) h]; rfl)
theorem copied_mem {w : World} {M : PM} {o s l y e cs cl ce : Nat} {v0 v1 v2 v4 : Value} {D : DataW Value} (hblk : w.heap[o]? = some (.cells #[v0, v1, v2, .int .i64 M.fuse, v4, .int .i64 (M.steps : Nat), .int .i64 (M.stores : Nat)] 75 (0, 0)))
    (hcs : M.n ≤ cs) (hcl : M.n ≤ cl) (hs : RowAt w s (M.n * 8) M.seen) (hl : RowAt w l (M.n * 8) M.lasts) (hf : ∀ g, M.fin = some g → RowAt w e (M.n * 8) g ∧ e ≠ o) (hrel : WayRel D M.n M.way) (hown : w.ownsMap Try.prog 3 heldR y M.cnt D)
    (hd : s ≠ l ∧ s ≠ e ∧ l ≠ e) (ho : s ≠ o ∧ l ≠ o ∧ y ≠ o) (hsz : 1 ≤ M.n ∧ M.n ≤ 8192) (hidle : M.fin = none → e = o) :
    Mem ((((w.setCell ⟨o, 0, .none⟩ (.slice (some ⟨s, 0, .none⟩) M.n cs)).setCell ⟨o, 1, .none⟩ (.slice (some ⟨l, 0, .none⟩) M.n cl)).setCell ⟨o, 2, .none⟩ (.map (some y))).setCell ⟨o, 4, .none⟩ (endV M.fin e M.n ce)) ⟨o, s, l, y, e⟩ M := by
  have other : ∀ k, k ≠ o → ((((w.setCell ⟨o, 0, .none⟩ (.slice (some ⟨s, 0, .none⟩) M.n cs)).setCell ⟨o, 1, .none⟩ (.slice (some ⟨l, 0, .none⟩) M.n cl)).setCell ⟨o, 2, .none⟩ (.map (some y))).setCell ⟨o, 4, .none⟩ (endV M.fin e M.n ce)).heap[k]? = w.heap[k]? := fun k hk =>
    (Below.heap_setCell _ ⟨o, 4, .none⟩ _ k hk).trans ((Below.heap_setCell _ ⟨o, 2, .none⟩ _ k hk).trans ((Below.heap_setCell _ ⟨o, 1, .none⟩ _ k hk).trans (Below.heap_setCell _ ⟨o, 0, .none⟩ _ k hk)))
  refine ⟨⟨cs, cl, ce, hcs, hcl, ?_⟩, hs.same (other _ ho.1), hl.same (other _ ho.2.1), fun g hg => (hf g hg).1.same (other _ (hf g hg).2), ⟨D, hrel, way_same hown (other _ ho.2.2)⟩, hd, hsz, hidle⟩
  have b1 := heap_setCell_same w o 0 _ _ (.slice (some ⟨s, 0, .none⟩) M.n cs) hblk
  have b2 := heap_setCell_same _ o 1 _ _ (.slice (some ⟨l, 0, .none⟩) M.n cl) b1
  have b3 := heap_setCell_same _ o 2 _ _ (.map (some y)) b2
  exact heap_setCell_same _ o 4 _ _ (endV M.fin e M.n ce) b3
set_option maxRecDepth 100000 in
set_option maxHeartbeats 4000000 in
theorem copy_any (F : PF) (M : PM) (w : World) (h : Mem w F M) :
    Calls Try.prog 28 #[.pointer (some ⟨F.a, 0, .none⟩)] w fun e w' => ∃ F' : PF, e = .returned (.pointer (some ⟨F'.a, 0, .none⟩)) ∧ Mem w' F' M ∧ Below w.heap.size w w' ∧ ∀ k, F'.has k → w.heap.size ≤ k := by
  obtain ⟨cs, cl, ce, hcs, hcl, c0, c1, c2, c3, c4, c5, c6, hfz⟩ := h.cells
  have hsz := h.size
  have HM := Lib.hid h
  obtain ⟨D, hrelD, hownD⟩ := h.way
  have HREL := Lib.hid hrelD
  have HOWN := Lib.hid hownD
  have hin := h.in_heap
  have ha := hin F.a (.inl rfl)
  obtain ⟨fi, hfi⟩ : ∃ x, M.fin = x := ⟨_, rfl⟩
  obtain ⟨n, hn⟩ : ∃ x, M.n = x := ⟨_, rfl⟩
  obtain ⟨fu, hfu⟩ : ∃ x, M.fuse = x := ⟨_, rfl⟩
  obtain ⟨st, hst⟩ : ∃ x : Int, (M.steps : Int) = x := ⟨_, rfl⟩
  obtain ⟨so, hso⟩ : ∃ x : Int, (M.stores : Int) = x := ⟨_, rfl⟩
  rw [hfi, hn] at c4
  rw [hn] at c0 c1 hcs hcl hsz
  rw [hfu] at c3
  rw [hst] at c5
  rw [hso] at c6
  have HFI := Lib.hid hfi
  have HN := Lib.hid hn
  have HFU := Lib.hid hfu
  have HST := Lib.hid hst
  have HSO := Lib.hid hso
  clear h hrelD hownD hin hfi hn hfu hst hso hfz
  cases fi with
  | none =>
    unfold endV at c4
    go_enter Try.func28, Try.ntmps28
    go_wp2_with fail
    obtain ⟨W, hW⟩ : ∃ W, w.alloc (.cells #[.slice (some ⟨F.s, 0, .none⟩) n cs, .slice (some ⟨F.l, 0, .none⟩) n cl, .map (some F.y), .int .i64 fu, .slice .none 0 0, .int .i64 st, .int .i64 so] 75) = W := ⟨_, rfl⟩
    have hblk : W.heap[w.heap.size]? = some (.cells #[.slice (some ⟨F.s, 0, .none⟩) n cs, .slice (some ⟨F.l, 0, .none⟩) n cl, .map (some F.y), .int .i64 fu, .slice .none 0 0, .int .i64 st, .int .i64 so] 75 (0, 0)) := by rw [← hW]; exact heap_alloc_new w _
    have hbW : Below w.heap.size w W := by rw [← hW]; exact (Below.refl _ _).alloc (Nat.le_refl _) _
    have hszW : W.heap.size = w.heap.size + 1 := by rw [← hW]; simp
    rw [hW]
    have hMW := HM.out.below hbW
    have hin2 := HM.out.in_heap
    have hne : F.a ≠ w.heap.size := by omega
    have hne2 : w.heap.size ≠ F.a := by omega
    have d0 := cell_later hbW c0
    have d1 := cell_later hbW c1
    have d2 := cell_later hbW c2
    have d4 := cell_later hbW c4
    have hs0 : RowAt W F.s (n * 8) M.seen := by have := hMW.seen; rw [HN.out] at this; exact this
    have hl0 : RowAt W F.l (n * 8) M.lasts := by have := hMW.lasts; rw [HN.out] at this; exact this
    have ho0 : W.ownsMap Try.prog 3 heldR F.y M.cnt D := way_same HOWN.out (hbW.block F.y (hin2 _ (.inr (.inr (.inr (.inl rfl))))))
    have ls : F.s < W.heap.size := by have := hin2 F.s (.inr (.inl rfl)); omega
    have ll : F.l < W.heap.size := by have := hin2 F.l (.inr (.inr (.inl rfl))); omega
    have ly : F.y < W.heap.size := by have := hin2 F.y (.inr (.inr (.inr (.inl rfl)))); omega
    have HS0 : Hid (RowAt W.drew F.s (n * 8) M.seen) := Lib.hid (hs0.same rfl)
    have HL0 : Hid (RowAt W.drew F.l (n * 8) M.lasts) := Lib.hid (hl0.same rfl)
    have HO0 : Hid (W.drew.ownsMap Try.prog 3 heldR F.y M.cnt D) := Lib.hid ho0
    have HBLK : Hid (W.drew.heap[w.heap.size]? = some (.cells #[.slice (some ⟨F.s, 0, .none⟩) n cs, .slice (some ⟨F.l, 0, .none⟩) n cl, .map (some F.y), .int .i64 fu, .slice .none 0 0, .int .i64 st, .int .i64 so] 75 (0, 0))) := Lib.hid hblk
    have HBW := Lib.hid hbW
    have HSZ := Lib.hid hszW
    clear hblk hbW hszW hMW hin2 hs0 hl0 ho0 c0 c1 c2 c3 c4 c5 c6 hW
    go_region_held3 (fun w' => w'.cell? ⟨F.a, 0, none⟩ = some (.slice (some ⟨F.s, 0, none⟩) n cs) ∧ w'.cell? ⟨F.a, 1, none⟩ = some (.slice (some ⟨F.l, 0, none⟩) n cl) ∧ w'.cell? ⟨F.a, 2, none⟩ = some (.map (some F.y)) ∧ w'.cell? ⟨F.a, 4, none⟩ = some (.slice .none 0 0))
      (first
        | go_keep
        | (refine ⟨?_, ?_, ?_, ?_⟩ <;> go_keep)
        | (go_split_ands
           refine ⟨?_, ?_, ?_, ?_⟩ <;> first | exact cell_later hb3 (by assumption) | exact cell_later hb2 (by assumption) | exact cell_later hb1 (by assumption)))
      (first
        | (go_at_call 47; refine (clone_any F.s n cs M.seen _ HS0.out hsz.1 hsz.2).mono ?_; rintro e1 w1 ⟨g1, cap1, rfl, hcap1, hg1, hrow1, hb1⟩)
        | (go_at_call 47; refine (clone_any F.l n cl M.lasts _ (HL0.out.same (hb1.block F.l ll)) hsz.1 hsz.2).mono ?_; rintro e2 w2 ⟨g2, cap2, rfl, hcap2, hg2, hrow2, hb2⟩)
        | (go_at_call 49; refine (mapclone_any F.y M.cnt D _ (way_same (way_same HO0.out (hb1.block F.y ly)) (hb2.block F.y (Nat.lt_of_lt_of_le ly hb1.size)))).mono ?_; rintro e3 w3 ⟨y3, rfl, hy3, hown3, hb3⟩; have HB3 := Lib.hid (block_later hb3 (block_later hb2 (block_later hb1 HBLK.out))); obtain ⟨⟨x0, x1, x2, x4⟩, z0, z1, z2, z4⟩ := copied_cells HB3.out)
        | (go_at_call 47; refine (clone_nil _).mono ?_; rintro e4 w4 ⟨rfl, rfl⟩))
    have HR1 := Lib.hid hrow1
    have HR2 := Lib.hid hrow2
    have HO3 := Lib.hid hown3
    have HB1 := Lib.hid hb1
    have HB2 := Lib.hid hb2
    have HBB3 := Lib.hid hb3
    clear hrow1 hrow2 hown3 hb1 hb2 hb3 x0 x1 x2 x4 z0 z1 z2 z4
    go_wp2_with fail
    go_ret
    have hszW : W.drew.heap.size = w.heap.size + 1 := HSZ.out
    have t1 := HR1.out.lt
    have t2 := HR2.out.lt
    have t3 := HB1.out.size
    have t4 := HB2.out.size
    have t5 := HBB3.out.size
    have hrow1' : RowAt w3 g1 (M.n * 8) M.seen := by rw [HN.out]; exact (HR1.out.same (HB2.out.block g1 t1)).same (HBB3.out.block g1 (Nat.lt_of_lt_of_le t1 t4))
    have hrow2' : RowAt w3 g2 (M.n * 8) M.lasts := by rw [HN.out]; exact HR2.out.same (HBB3.out.block g2 t2)
    have hm := copied_mem (M := M) (o := w.heap.size) (s := g1) (l := g2) (y := y3) (e := w.heap.size) (cs := cap1) (cl := cap2) (ce := 0) (by rw [HFU.out, HST.out, HSO.out]; exact HB3.out) (by rw [HN.out]; exact hcap1) (by rw [HN.out]; exact hcap2) hrow1' hrow2' (fun g hg => by rw [HFI.out] at hg; cases hg) HREL.out HO3.out
      ⟨by omega, by omega, by omega⟩ ⟨by omega, by omega, by omega⟩ (by rw [HN.out]; exact hsz) (fun _ => rfl)
    rw [HFI.out, HN.out] at hm
    have hbel : Below w.heap.size w w3 := (Cv.drewN_below HBW.out 1).trans (((HB1.out.mono (by omega)).trans (HB2.out.mono (by omega))).trans (HBB3.out.mono (by omega)))
    refine ⟨_, rfl, hm, (((hbel.setCell (by simp) _).setCell (by simp) _).setCell (by simp) _).setCell (by simp) _, fun k hk => ?_⟩
    rcases hk with h | h | h | h | h
    · exact Nat.le_of_eq h.symm
    · rw [h]; show w.heap.size ≤ g1; omega
    · rw [h]; show w.heap.size ≤ g2; omega
    · rw [h]; show w.heap.size ≤ y3; omega
    · exact Nat.le_of_eq h.symm
  | some gf =>
    unfold endV at c4
    go_enter Try.func28, Try.ntmps28
    go_wp2_with fail
    obtain ⟨W, hW⟩ : ∃ W, w.alloc (.cells #[.slice (some ⟨F.s, 0, .none⟩) n cs, .slice (some ⟨F.l, 0, .none⟩) n cl, .map (some F.y), .int .i64 fu, .slice (some ⟨F.e, 0, .none⟩) n ce, .int .i64 st, .int .i64 so] 75) = W := ⟨_, rfl⟩
    have hblk : W.heap[w.heap.size]? = some (.cells #[.slice (some ⟨F.s, 0, .none⟩) n cs, .slice (some ⟨F.l, 0, .none⟩) n cl, .map (some F.y), .int .i64 fu, .slice (some ⟨F.e, 0, .none⟩) n ce, .int .i64 st, .int .i64 so] 75 (0, 0)) := by rw [← hW]; exact heap_alloc_new w _
    have hbW : Below w.heap.size w W := by rw [← hW]; exact (Below.refl _ _).alloc (Nat.le_refl _) _
    have hszW : W.heap.size = w.heap.size + 1 := by rw [← hW]; simp
    rw [hW]
    have hMW := HM.out.below hbW
    have hin2 := HM.out.in_heap
    have hne : F.a ≠ w.heap.size := by omega
    have hne2 : w.heap.size ≠ F.a := by omega
    have d0 := cell_later hbW c0
    have d1 := cell_later hbW c1
    have d2 := cell_later hbW c2
    have d4 := cell_later hbW c4
    have hs0 : RowAt W F.s (n * 8) M.seen := by have := hMW.seen; rw [HN.out] at this; exact this
    have hl0 : RowAt W F.l (n * 8) M.lasts := by have := hMW.lasts; rw [HN.out] at this; exact this
    have ho0 : W.ownsMap Try.prog 3 heldR F.y M.cnt D := way_same HOWN.out (hbW.block F.y (hin2 _ (.inr (.inr (.inr (.inl rfl))))))
    have he0 : RowAt W F.e (n * 8) gf := by have := hMW.fin gf HFI.out; rw [HN.out] at this; exact this
    have HE0 : Hid (RowAt W.drew F.e (n * 8) gf) := Lib.hid (he0.same rfl)
    have le_ : F.e < W.heap.size := by have := hin2 F.e (.inr (.inr (.inr (.inr rfl)))); omega
    have ls : F.s < W.heap.size := by have := hin2 F.s (.inr (.inl rfl)); omega
    have ll : F.l < W.heap.size := by have := hin2 F.l (.inr (.inr (.inl rfl))); omega
    have ly : F.y < W.heap.size := by have := hin2 F.y (.inr (.inr (.inr (.inl rfl)))); omega
    have HS0 : Hid (RowAt W.drew F.s (n * 8) M.seen) := Lib.hid (hs0.same rfl)
    have HL0 : Hid (RowAt W.drew F.l (n * 8) M.lasts) := Lib.hid (hl0.same rfl)
    have HO0 : Hid (W.drew.ownsMap Try.prog 3 heldR F.y M.cnt D) := Lib.hid ho0
    have HBLK : Hid (W.drew.heap[w.heap.size]? = some (.cells #[.slice (some ⟨F.s, 0, .none⟩) n cs, .slice (some ⟨F.l, 0, .none⟩) n cl, .map (some F.y), .int .i64 fu, .slice (some ⟨F.e, 0, .none⟩) n ce, .int .i64 st, .int .i64 so] 75 (0, 0))) := Lib.hid hblk
    have HBW := Lib.hid hbW
    have HSZ := Lib.hid hszW
    clear hblk hbW hszW hMW hin2 he0 hs0 hl0 ho0 c0 c1 c2 c3 c4 c5 c6 hW
    go_region_held3 (fun w' => w'.cell? ⟨F.a, 0, none⟩ = some (.slice (some ⟨F.s, 0, none⟩) n cs) ∧ w'.cell? ⟨F.a, 1, none⟩ = some (.slice (some ⟨F.l, 0, none⟩) n cl) ∧ w'.cell? ⟨F.a, 2, none⟩ = some (.map (some F.y)) ∧ w'.cell? ⟨F.a, 4, none⟩ = some (.slice (some ⟨F.e, 0, none⟩) n ce))
      (first
        | go_keep
        | (refine ⟨?_, ?_, ?_, ?_⟩ <;> go_keep)
        | (go_split_ands
           refine ⟨?_, ?_, ?_, ?_⟩ <;> first | exact cell_later hb4 (by assumption) | exact cell_later hb3 (by assumption) | exact cell_later hb2 (by assumption) | exact cell_later hb1 (by assumption)))
      (first
        | (go_at_call 47; refine (clone_any F.s n cs M.seen _ HS0.out hsz.1 hsz.2).mono ?_; rintro e1 w1 ⟨g1, cap1, rfl, hcap1, hg1, hrow1, hb1⟩)
        | (go_at_call 47; refine (clone_any F.l n cl M.lasts _ (HL0.out.same (hb1.block F.l ll)) hsz.1 hsz.2).mono ?_; rintro e2 w2 ⟨g2, cap2, rfl, hcap2, hg2, hrow2, hb2⟩)
        | (go_at_call 49; refine (mapclone_any F.y M.cnt D _ (way_same (way_same HO0.out (hb1.block F.y ly)) (hb2.block F.y (Nat.lt_of_lt_of_le ly hb1.size)))).mono ?_; rintro e3 w3 ⟨y3, rfl, hy3, hown3, hb3⟩)
        | (go_at_call 47; refine (clone_any F.e n ce gf _ (((HE0.out.same (hb1.block F.e le_)).same (hb2.block F.e (Nat.lt_of_lt_of_le le_ hb1.size))).same (hb3.block F.e (Nat.lt_of_lt_of_le le_ (Nat.le_trans hb1.size hb2.size)))) hsz.1 hsz.2).mono ?_; rintro e4 w4 ⟨g4, cap4, rfl, hcap4, hg4, hrow4, hb4⟩; have HB4 := Lib.hid (block_later hb4 (block_later hb3 (block_later hb2 (block_later hb1 HBLK.out)))); obtain ⟨⟨x0, x1, x2, x4⟩, z0, z1, z2, z4⟩ := copied_cells HB4.out))
    have HR1 := Lib.hid hrow1
    have HR2 := Lib.hid hrow2
    have HO3 := Lib.hid hown3
    have HB1 := Lib.hid hb1
    have HB2 := Lib.hid hb2
    have HBB3 := Lib.hid hb3
    have HBB4 := Lib.hid hb4
    have HR4 := Lib.hid hrow4
    clear hrow4 hb4 hrow1 hrow2 hown3 hb1 hb2 hb3 x0 x1 x2 x4 z0 z1 z2 z4
    go_wp2_with fail
    go_ret
    have hszW : W.drew.heap.size = w.heap.size + 1 := HSZ.out
    have t1 := HR1.out.lt
    have t2 := HR2.out.lt
    have t3 := HB1.out.size
    have t4 := HB2.out.size
    have t5 := HBB3.out.size
    have t6 := HBB4.out.size
    have t7 := HR4.out.lt
    have t8 := HO3.out.lt
    have hrow1' : RowAt w4 g1 (M.n * 8) M.seen := by rw [HN.out]; exact ((HR1.out.same (HB2.out.block g1 t1)).same (HBB3.out.block g1 (Nat.lt_of_lt_of_le t1 t4))).same (HBB4.out.block g1 (Nat.lt_of_lt_of_le t1 (Nat.le_trans t4 t5)))
    have hrow2' : RowAt w4 g2 (M.n * 8) M.lasts := by rw [HN.out]; exact (HR2.out.same (HBB3.out.block g2 t2)).same (HBB4.out.block g2 (Nat.lt_of_lt_of_le t2 t5))
    have hrow4' : RowAt w4 g4 (M.n * 8) gf := by rw [HN.out]; exact HR4.out
    have hown4 : w4.ownsMap Try.prog 3 heldR y3 M.cnt D := way_same HO3.out (HBB4.out.block y3 t8)
    have hm := copied_mem (M := M) (o := w.heap.size) (s := g1) (l := g2) (y := y3) (e := g4) (cs := cap1) (cl := cap2) (ce := cap4) (by rw [HFU.out, HST.out, HSO.out]; exact HB4.out) (by rw [HN.out]; exact hcap1) (by rw [HN.out]; exact hcap2) hrow1' hrow2' (fun g hg => by rw [HFI.out] at hg; injection hg with hg; subst hg; exact ⟨hrow4', by omega⟩) HREL.out hown4
      ⟨by omega, by omega, by omega⟩ ⟨by omega, by omega, by omega⟩ (by rw [HN.out]; exact hsz) (fun hg => by rw [HFI.out] at hg; cases hg)
    rw [HFI.out, HN.out] at hm
    have hbel : Below w.heap.size w w4 := (Cv.drewN_below HBW.out 1).trans ((((HB1.out.mono (by omega)).trans (HB2.out.mono (by omega))).trans (HBB3.out.mono (by omega))).trans (HBB4.out.mono (by omega)))
    refine ⟨_, rfl, hm, (((hbel.setCell (by simp) _).setCell (by simp) _).setCell (by simp) _).setCell (by simp) _, fun k hk => ?_⟩
    rcases hk with h | h | h | h | h
    · exact Nat.le_of_eq h.symm
    · rw [h]; show w.heap.size ≤ g1; omega
    · rw [h]; show w.heap.size ≤ g2; omega
    · rw [h]; show w.heap.size ≤ y3; omega
    · rw [h]; show w.heap.size ≤ g4; omega
end Go.Proofs.Ytbflennacniacaa
