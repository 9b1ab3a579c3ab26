/- concourseref1.Mem: Copy, by its contract. -/
import Derived.Test.YtbflennacniacaaRmCrash
namespace Go.Proofs.Ytbflennacniacaa
open Go.RowKit
set_option linter.unusedVariables false
set_option linter.unusedSimpArgs false
theorem RMem.make {w : World} {M : RM} {o s l y g e cs cl cy cg ce : Nat} (h1 : M.n * 8 ≤ cs) (h2 : M.n * 8 ≤ cl) (h3 : M.n * 8 ≤ cy) (h4 : M.n ≤ cg) (h5 : M.n * 8 ≤ ce)
    (hb : w.heap[o]? = some (.cells #[.slice (some ⟨s, 0, .none⟩) (M.n * 8 : Nat) cs, .slice (some ⟨l, 0, .none⟩) (M.n * 8 : Nat) cl, .slice (some ⟨y, 0, .none⟩) (M.n * 8 : Nat) cy, .slice (some ⟨g, 0, .none⟩) M.n cg, .bool M.fuse, .int .i64 M.left, (endV M.fin e (M.n * 8) ce), .int .i64 (M.steps : Nat), .int .i64 (M.many : Nat)] 52 (0, 0)))
    (hs : RowT w 29 s (M.n * 8) (wordV M.seen)) (hl : RowT w 29 l (M.n * 8) (wordV M.last)) (hy : RowT w 29 y (M.n * 8) (wordV M.way)) (hg : RowT w 4 g M.n (flagV M.going))
    (hf : ∀ f, M.fin = some f → RowT w 29 e (M.n * 8) (wordV f) ∧ e ≠ s ∧ e ≠ l ∧ e ≠ y) (ha : s ≠ l ∧ s ≠ y ∧ l ≠ y) (hz : 1 ≤ M.n ∧ M.n ≤ 8192) (hi : M.fin = none → e = o) : RMem w ⟨o, s, l, y, g, e⟩ M :=
  ⟨⟨cs, cl, cy, cg, ce, h1, h2, h3, ⟨h4, h5⟩, hb⟩, hs, hl, hy, hg, hf, ha, hz, hi⟩
theorem Only.at {o : Nat} {w w' : World} (h : Only (fun k => k = o) w w') {k : Nat} (hk : k < w.heap.size) (hn : k ≠ o) : w'.heap[k]? = w.heap[k]? := h.block k hk hn
theorem RowT.later {w w' : World} {t : TypeId} {b N o : Nat} {f : Nat → Value} (h : RowT w t b N f) (ho : Only (fun k => k = o) w w') (hn : b ≠ o) : RowT w' t b N f := h.same (ho.block b h.lt hn)
theorem RMem.later {w w' : World} {F : RF} {M : RM} {o : Nat} (h : RMem w F M) (ho : Only (fun k => k = o) w w') (hn : w.heap.size ≤ o) : RMem w' F M := h.same fun k hk => ho.block k (h.in_heap k hk) fun e => by have := h.in_heap k hk; omega
theorem nine_cells {w : World} {b : Nat} {v0 v1 v2 v3 v4 v5 v6 v7 v8 : Value} {t : TypeId} (h : w.heap[b]? = some (.cells #[v0, v1, v2, v3, v4, v5, v6, v7, v8] t (0, 0))) :
    (w.cell? ⟨b, 0, .none⟩ = some v0 ∧ w.cell? ⟨b, 1, .none⟩ = some v1 ∧ w.cell? ⟨b, 2, .none⟩ = some v2 ∧ w.cell? ⟨b, 3, .none⟩ = some v3 ∧ w.cell? ⟨b, 6, .none⟩ = some v6) ∧
    (w.frozen? ⟨b, 0, .none⟩ = false ∧ w.frozen? ⟨b, 1, .none⟩ = false ∧ w.frozen? ⟨b, 2, .none⟩ = false ∧ w.frozen? ⟨b, 3, .none⟩ = false ∧ w.frozen? ⟨b, 6, .none⟩ = false) := by
  refine ⟨⟨?_, ?_, ?_, ?_, ?_⟩, frozen_of_row w b 0 _ _ h, frozen_of_row w b 1 _ _ h, frozen_of_row w b 2 _ _ h, frozen_of_row w b 3 _ _ h, frozen_of_row w b 6 _ _ h⟩ <;> (rw [cell_of_row w b _ _ _ (0, 0) h]; rfl)
set_option maxRecDepth 100000 in
set_option maxHeartbeats 4000000 in
theorem rcopy_any (F : RF) (M : RM) (w : World) (h : RMem w F M) :
    Calls Try.prog 29 #[.pointer (some ⟨F.a, 0, .none⟩)] w fun e w' => ∃ F' : RF, e = .returned (.pointer (some ⟨F'.a, 0, .none⟩)) ∧ RMem w' F' M ∧ Below w.heap.size w w' ∧ ∀ k, F'.has k → w.heap.size ≤ k := by
  obtain ⟨cs, cl, cy, cg, ce, hcs, hcl, hcy, hcg, c0, c1, c2, c3, c4, c5, c6, c7, c8, hfz⟩ := h.cells
  have hsz := h.size
  have HM := Lib.hid h
  have hneq := neq_slice_nil (P := Try.prog) 49 29 Try.underlying49
  obtain ⟨i0, hi, hz0, hz1, hz2⟩ := info_parts infoWord
  obtain ⟨j0, hj, hy0, hy1, hy2⟩ := info_parts infoFlag
  obtain ⟨n, hn⟩ : ∃ n, M.n = n := ⟨_, rfl⟩
  obtain ⟨N, hN⟩ : ∃ N, n * 8 = N := ⟨_, rfl⟩
  have hN1 : 1 ≤ N ∧ N ≤ 65536 := by omega
  have hn1 : 1 ≤ n ∧ n ≤ 65536 := by omega
  obtain ⟨o, hoo⟩ : ∃ o, w.heap.size = o := ⟨_, rfl⟩
  obtain ⟨fu, hfu⟩ : ∃ x, M.fuse = x := ⟨_, rfl⟩
  obtain ⟨lf, hlf⟩ : ∃ x, M.left = x := ⟨_, rfl⟩
  obtain ⟨st, hst⟩ : ∃ x : Int, (M.steps : Int) = x := ⟨_, rfl⟩
  obtain ⟨so, hso⟩ : ∃ x : Int, (M.many : Int) = x := ⟨_, rfl⟩
  rw [hn] at c0 c1 c2 c3 c6 hcs hcl hcy hcg hsz
  rw [hN] at c0 c1 c2 c6 hcs hcl hcy hcg
  rw [hfu] at c4
  rw [hlf] at c5
  rw [hst] at c7
  rw [hso] at c8
  have HN := Lib.hid hn
  have HNN := Lib.hid hN
  have HOO := Lib.hid hoo
  have HFU := Lib.hid hfu
  have HLF := Lib.hid hlf
  have HST := Lib.hid hst
  have HSO := Lib.hid hso
  have oa : F.a ≠ o := by have := h.in_heap F.a (.inl rfl); omega
  have oa2 : o ≠ F.a := Ne.symm oa
  cases hf : M.fin with
  | none =>
    rw [hf] at c6
    unfold endV at c6
    have HF := Lib.hid hf
    have hm : RMem (w.alloc (.cells #[.slice (some ⟨F.s, 0, .none⟩) N cs, .slice (some ⟨F.l, 0, .none⟩) N cl, .slice (some ⟨F.y, 0, .none⟩) N cy, .slice (some ⟨F.g, 0, .none⟩) n cg, .bool fu, .int .i64 lf, .slice .none 0 0, .int .i64 st, .int .i64 so] 52)) F M := h.below ((Below.refl _ _).alloc (Nat.le_refl _) _)
    have HM0 := Lib.hid hm
    have hk : (w.alloc (.cells #[.slice (some ⟨F.s, 0, .none⟩) N cs, .slice (some ⟨F.l, 0, .none⟩) N cl, .slice (some ⟨F.y, 0, .none⟩) N cy, .slice (some ⟨F.g, 0, .none⟩) n cg, .bool fu, .int .i64 lf, .slice .none 0 0, .int .i64 st, .int .i64 so] 52)).heap[o]? = some (.cells #[.slice (some ⟨F.s, 0, .none⟩) N cs, .slice (some ⟨F.l, 0, .none⟩) N cl, .slice (some ⟨F.y, 0, .none⟩) N cy, .slice (some ⟨F.g, 0, .none⟩) n cg, .bool fu, .int .i64 lf, .slice .none 0 0, .int .i64 st, .int .i64 so] 52 (0, 0)) := by rw [← HOO.out]; exact heap_alloc_new w _
    have HK0 := Lib.hid hk
    have hno : ∀ k, F.has k → k ≠ o := fun k hk e => by have := h.in_heap k hk; have := HOO.out; omega
    have HNO := Lib.hid hno
    clear h hfz hf hn hN hfu hlf hst hso hm hk hno
    go_enter Try.func29, Try.ntmps29
    rw [hoo]
    obtain ⟨ca0, cb0, cc0, cd0, ce0, _, _, _, _, x0, x1, x2, x3, _, _, x6, _, _, _⟩ := (HM0.out.below ((Below.refl _ _).alloc (Nat.le_refl _) (.cells #[] 29))).cells
    rw [HN.out] at x0 x1 x2 x3 x6
    rw [HNN.out] at x0 x1 x2 x6
    rw [HF.out] at x6; unfold endV at x6
    have hr1 : RowT (w.alloc (.cells #[.slice (some ⟨F.s, 0, .none⟩) N cs, .slice (some ⟨F.l, 0, .none⟩) N cl, .slice (some ⟨F.y, 0, .none⟩) N cy, .slice (some ⟨F.g, 0, .none⟩) n cg, .bool fu, .int .i64 lf, .slice .none 0 0, .int .i64 st, .int .i64 so] 52)) 29 F.s N (wordV M.seen) := by have := HM0.out.seen; rw [HN.out, HNN.out] at this; exact this
    have HX1 := Lib.hid hr1
    clear hr1
    go_wp2_with (at_builtin; refine wpList_copied (w.alloc (.cells #[.slice (some ⟨F.s, 0, .none⟩) N cs, .slice (some ⟨F.l, 0, .none⟩) N cl, .slice (some ⟨F.y, 0, .none⟩) N cy, .slice (some ⟨F.g, 0, .none⟩) n cg, .bool fu, .int .i64 lf, .slice .none 0 0, .int .i64 st, .int .i64 so] 52)) rfl _ _ 49 rfl 29 i0 (.int .u64 0) 8 Try.underlying49 hi hz0 hz1 hz2 rfl (by decide) F.s N ca0 (wordV M.seen) HX1.out hN1.1 hN1.2 (fun _ => rfl) (by first | rfl | (show Value.slice (some ⟨_, 0, .none⟩) 0 0 = Value.slice (some ⟨_, 0, .none⟩) 0 0; simp [hoo]; done)) rfl ?_)
    intro g1 cap1 W1 hg1 hcap1 HR1 HB1
    clear x0 x1 x2 x3 x6
    have hsz1 : (w.alloc (.cells #[.slice (some ⟨F.s, 0, .none⟩) N cs, .slice (some ⟨F.l, 0, .none⟩) N cl, .slice (some ⟨F.y, 0, .none⟩) N cy, .slice (some ⟨F.g, 0, .none⟩) n cg, .bool fu, .int .i64 lf, .slice .none 0 0, .int .i64 st, .int .i64 so] 52)).heap.size = o + 1 := by simp [hoo]
    have HB1 : Hid (Below (w.alloc (.cells #[.slice (some ⟨F.s, 0, .none⟩) N cs, .slice (some ⟨F.l, 0, .none⟩) N cl, .slice (some ⟨F.y, 0, .none⟩) N cy, .slice (some ⟨F.g, 0, .none⟩) n cg, .bool fu, .int .i64 lf, .slice .none 0 0, .int .i64 st, .int .i64 so] 52)).heap.size (w.alloc (.cells #[.slice (some ⟨F.s, 0, .none⟩) N cs, .slice (some ⟨F.l, 0, .none⟩) N cl, .slice (some ⟨F.y, 0, .none⟩) N cy, .slice (some ⟨F.g, 0, .none⟩) n cg, .bool fu, .int .i64 lf, .slice .none 0 0, .int .i64 st, .int .i64 so] 52)) W1) := Lib.hid (by rw [hsz1]; exact HB1.out)
    have hlt1 : o < (w.alloc (.cells #[.slice (some ⟨F.s, 0, .none⟩) N cs, .slice (some ⟨F.l, 0, .none⟩) N cl, .slice (some ⟨F.y, 0, .none⟩) N cy, .slice (some ⟨F.g, 0, .none⟩) n cg, .bool fu, .int .i64 lf, .slice .none 0 0, .int .i64 st, .int .i64 so] 52)).heap.size := (Array.getElem?_eq_some_iff.1 HK0.out).1
    have hk : W1.heap[o]? = some (.cells #[.slice (some ⟨F.s, 0, .none⟩) N cs, .slice (some ⟨F.l, 0, .none⟩) N cl, .slice (some ⟨F.y, 0, .none⟩) N cy, .slice (some ⟨F.g, 0, .none⟩) n cg, .bool fu, .int .i64 lf, .slice .none 0 0, .int .i64 st, .int .i64 so] 52 (0, 0)) := (HB1.out.block o hlt1).trans HK0.out
    have hk2 := heap_setCell_same W1 o 0 _ _ (.slice (some ⟨g1, 0, .none⟩) N cap1) hk
    change (W1.setCell ⟨o, 0, .none⟩ (.slice (some ⟨g1, 0, .none⟩) N cap1)).heap[o]? = some (.cells #[.slice (some ⟨g1, 0, .none⟩) N cap1, .slice (some ⟨F.l, 0, .none⟩) N cl, .slice (some ⟨F.y, 0, .none⟩) N cy, .slice (some ⟨F.g, 0, .none⟩) n cg, .bool fu, .int .i64 lf, .slice .none 0 0, .int .i64 st, .int .i64 so] 52 (0, 0)) at hk2
    obtain ⟨⟨e0, e1, e2, e3, e6⟩, s0, s1, s2, s3, s6⟩ := nine_cells hk
    have ho1 : Only (fun k => k = o) (w.alloc (.cells #[.slice (some ⟨F.s, 0, .none⟩) N cs, .slice (some ⟨F.l, 0, .none⟩) N cl, .slice (some ⟨F.y, 0, .none⟩) N cy, .slice (some ⟨F.g, 0, .none⟩) n cg, .bool fu, .int .i64 lf, .slice .none 0 0, .int .i64 st, .int .i64 so] 52)) (W1.setCell ⟨o, 0, .none⟩ (.slice (some ⟨g1, 0, .none⟩) N cap1)) := (Below.only HB1.out (fun k => k = o)).setCell (p := ⟨o, 0, .none⟩) (.inl rfl) _
    have hm : RMem (W1.setCell ⟨o, 0, .none⟩ (.slice (some ⟨g1, 0, .none⟩) N cap1)) F M := HM0.out.same fun k hk => ho1.block k (HM0.out.in_heap k hk) fun e => HNO.out k hk e
    have HM1 := Lib.hid hm
    have HK1 := Lib.hid hk2
    have HO1 := Lib.hid ho1
    have HL1 := Lib.hid hlt1
    clear hk hk2 hm ho1 hlt1
    obtain ⟨ca1, cb1, cc1, cd1, ce1, _, _, _, _, x0, x1, x2, x3, _, _, x6, _, _, _⟩ := (HM1.out.below ((Below.refl _ _).alloc (Nat.le_refl _) (.cells #[] 29))).cells
    rw [HN.out] at x0 x1 x2 x3 x6
    rw [HNN.out] at x0 x1 x2 x6
    rw [HF.out] at x6; unfold endV at x6
    have hr2 : RowT (W1.setCell ⟨o, 0, .none⟩ (.slice (some ⟨g1, 0, .none⟩) N cap1)) 29 F.l N (wordV M.last) := by have := HM1.out.last; rw [HN.out, HNN.out] at this; exact this
    have HX2 := Lib.hid hr2
    clear hr2
    go_wp2_with (at_builtin; refine wpList_copied (W1.setCell ⟨o, 0, .none⟩ (.slice (some ⟨g1, 0, .none⟩) N cap1)) rfl _ _ 49 rfl 29 i0 (.int .u64 0) 8 Try.underlying49 hi hz0 hz1 hz2 rfl (by decide) F.l N cb1 (wordV M.last) HX2.out hN1.1 hN1.2 (fun _ => rfl) (by first | rfl | (show Value.slice (some ⟨_, 0, .none⟩) 0 0 = Value.slice (some ⟨_, 0, .none⟩) 0 0; simp [hoo]; done)) rfl ?_)
    intro g2 cap2 W2 hg2 hcap2 HR2 HB2
    clear x0 x1 x2 x3 x6
    have hsz2 : (W1.setCell ⟨o, 0, .none⟩ (.slice (some ⟨g1, 0, .none⟩) N cap1)).heap.size = W1.heap.size := by simp [hoo]
    have HB2 : Hid (Below (W1.setCell ⟨o, 0, .none⟩ (.slice (some ⟨g1, 0, .none⟩) N cap1)).heap.size (W1.setCell ⟨o, 0, .none⟩ (.slice (some ⟨g1, 0, .none⟩) N cap1)) W2) := Lib.hid (by rw [hsz2]; exact HB2.out)
    have hlt2 : o < (W1.setCell ⟨o, 0, .none⟩ (.slice (some ⟨g1, 0, .none⟩) N cap1)).heap.size := (Array.getElem?_eq_some_iff.1 HK1.out).1
    have hk : W2.heap[o]? = some (.cells #[.slice (some ⟨g1, 0, .none⟩) N cap1, .slice (some ⟨F.l, 0, .none⟩) N cl, .slice (some ⟨F.y, 0, .none⟩) N cy, .slice (some ⟨F.g, 0, .none⟩) n cg, .bool fu, .int .i64 lf, .slice .none 0 0, .int .i64 st, .int .i64 so] 52 (0, 0)) := (HB2.out.block o hlt2).trans HK1.out
    have hk2 := heap_setCell_same W2 o 1 _ _ (.slice (some ⟨g2, 0, .none⟩) N cap2) hk
    change (W2.setCell ⟨o, 1, .none⟩ (.slice (some ⟨g2, 0, .none⟩) N cap2)).heap[o]? = some (.cells #[.slice (some ⟨g1, 0, .none⟩) N cap1, .slice (some ⟨g2, 0, .none⟩) N cap2, .slice (some ⟨F.y, 0, .none⟩) N cy, .slice (some ⟨F.g, 0, .none⟩) n cg, .bool fu, .int .i64 lf, .slice .none 0 0, .int .i64 st, .int .i64 so] 52 (0, 0)) at hk2
    obtain ⟨⟨e0, e1, e2, e3, e6⟩, s0, s1, s2, s3, s6⟩ := nine_cells hk
    have ho2 : Only (fun k => k = o) (W1.setCell ⟨o, 0, .none⟩ (.slice (some ⟨g1, 0, .none⟩) N cap1)) (W2.setCell ⟨o, 1, .none⟩ (.slice (some ⟨g2, 0, .none⟩) N cap2)) := (Below.only HB2.out (fun k => k = o)).setCell (p := ⟨o, 1, .none⟩) (.inl rfl) _
    have hm : RMem (W2.setCell ⟨o, 1, .none⟩ (.slice (some ⟨g2, 0, .none⟩) N cap2)) F M := HM1.out.same fun k hk => ho2.block k (HM1.out.in_heap k hk) fun e => HNO.out k hk e
    have HM2 := Lib.hid hm
    have HK2 := Lib.hid hk2
    have HO2 := Lib.hid ho2
    have HL2 := Lib.hid hlt2
    clear hk hk2 hm ho2 hlt2
    obtain ⟨ca2, cb2, cc2, cd2, ce2, _, _, _, _, x0, x1, x2, x3, _, _, x6, _, _, _⟩ := (HM2.out.below ((Below.refl _ _).alloc (Nat.le_refl _) (.cells #[] 29))).cells
    rw [HN.out] at x0 x1 x2 x3 x6
    rw [HNN.out] at x0 x1 x2 x6
    rw [HF.out] at x6; unfold endV at x6
    have hr3 : RowT (W2.setCell ⟨o, 1, .none⟩ (.slice (some ⟨g2, 0, .none⟩) N cap2)) 29 F.y N (wordV M.way) := by have := HM2.out.way; rw [HN.out, HNN.out] at this; exact this
    have HX3 := Lib.hid hr3
    clear hr3
    go_wp2_with (at_builtin; refine wpList_copied (W2.setCell ⟨o, 1, .none⟩ (.slice (some ⟨g2, 0, .none⟩) N cap2)) rfl _ _ 49 rfl 29 i0 (.int .u64 0) 8 Try.underlying49 hi hz0 hz1 hz2 rfl (by decide) F.y N cc2 (wordV M.way) HX3.out hN1.1 hN1.2 (fun _ => rfl) (by first | rfl | (show Value.slice (some ⟨_, 0, .none⟩) 0 0 = Value.slice (some ⟨_, 0, .none⟩) 0 0; simp [hoo]; done)) rfl ?_)
    intro g3 cap3 W3 hg3 hcap3 HR3 HB3
    clear x0 x1 x2 x3 x6
    have hsz3 : (W2.setCell ⟨o, 1, .none⟩ (.slice (some ⟨g2, 0, .none⟩) N cap2)).heap.size = W2.heap.size := by simp [hoo]
    have HB3 : Hid (Below (W2.setCell ⟨o, 1, .none⟩ (.slice (some ⟨g2, 0, .none⟩) N cap2)).heap.size (W2.setCell ⟨o, 1, .none⟩ (.slice (some ⟨g2, 0, .none⟩) N cap2)) W3) := Lib.hid (by rw [hsz3]; exact HB3.out)
    have hlt3 : o < (W2.setCell ⟨o, 1, .none⟩ (.slice (some ⟨g2, 0, .none⟩) N cap2)).heap.size := (Array.getElem?_eq_some_iff.1 HK2.out).1
    have hk : W3.heap[o]? = some (.cells #[.slice (some ⟨g1, 0, .none⟩) N cap1, .slice (some ⟨g2, 0, .none⟩) N cap2, .slice (some ⟨F.y, 0, .none⟩) N cy, .slice (some ⟨F.g, 0, .none⟩) n cg, .bool fu, .int .i64 lf, .slice .none 0 0, .int .i64 st, .int .i64 so] 52 (0, 0)) := (HB3.out.block o hlt3).trans HK2.out
    have hk2 := heap_setCell_same W3 o 2 _ _ (.slice (some ⟨g3, 0, .none⟩) N cap3) hk
    change (W3.setCell ⟨o, 2, .none⟩ (.slice (some ⟨g3, 0, .none⟩) N cap3)).heap[o]? = some (.cells #[.slice (some ⟨g1, 0, .none⟩) N cap1, .slice (some ⟨g2, 0, .none⟩) N cap2, .slice (some ⟨g3, 0, .none⟩) N cap3, .slice (some ⟨F.g, 0, .none⟩) n cg, .bool fu, .int .i64 lf, .slice .none 0 0, .int .i64 st, .int .i64 so] 52 (0, 0)) at hk2
    obtain ⟨⟨e0, e1, e2, e3, e6⟩, s0, s1, s2, s3, s6⟩ := nine_cells hk
    have ho3 : Only (fun k => k = o) (W2.setCell ⟨o, 1, .none⟩ (.slice (some ⟨g2, 0, .none⟩) N cap2)) (W3.setCell ⟨o, 2, .none⟩ (.slice (some ⟨g3, 0, .none⟩) N cap3)) := (Below.only HB3.out (fun k => k = o)).setCell (p := ⟨o, 2, .none⟩) (.inl rfl) _
    have hm : RMem (W3.setCell ⟨o, 2, .none⟩ (.slice (some ⟨g3, 0, .none⟩) N cap3)) F M := HM2.out.same fun k hk => ho3.block k (HM2.out.in_heap k hk) fun e => HNO.out k hk e
    have HM3 := Lib.hid hm
    have HK3 := Lib.hid hk2
    have HO3 := Lib.hid ho3
    have HL3 := Lib.hid hlt3
    clear hk hk2 hm ho3 hlt3
    obtain ⟨ca3, cb3, cc3, cd3, ce3, _, _, _, _, x0, x1, x2, x3, _, _, x6, _, _, _⟩ := (HM3.out.below ((Below.refl _ _).alloc (Nat.le_refl _) (.cells #[] 4))).cells
    rw [HN.out] at x0 x1 x2 x3 x6
    rw [HNN.out] at x0 x1 x2 x6
    rw [HF.out] at x6; unfold endV at x6
    have hr4 : RowT (W3.setCell ⟨o, 2, .none⟩ (.slice (some ⟨g3, 0, .none⟩) N cap3)) 4 F.g n (flagV M.going) := by have := HM3.out.going; rw [HN.out] at this; exact this
    have HX4 := Lib.hid hr4
    clear hr4
    go_wp2_with (at_builtin; refine wpList_copied (W3.setCell ⟨o, 2, .none⟩ (.slice (some ⟨g3, 0, .none⟩) N cap3)) rfl _ _ 50 rfl 4 j0 (.bool false) 1 Try.underlying50 hj hy0 hy1 hy2 rfl (by decide) F.g n cd3 (flagV M.going) HX4.out hn1.1 hn1.2 (fun _ => rfl) (by first | rfl | (show Value.slice (some ⟨_, 0, .none⟩) 0 0 = Value.slice (some ⟨_, 0, .none⟩) 0 0; simp [hoo]; done)) rfl ?_)
    intro g4 cap4 W4 hg4 hcap4 HR4 HB4
    clear x0 x1 x2 x3 x6
    have hsz4 : (W3.setCell ⟨o, 2, .none⟩ (.slice (some ⟨g3, 0, .none⟩) N cap3)).heap.size = W3.heap.size := by simp [hoo]
    have HB4 : Hid (Below (W3.setCell ⟨o, 2, .none⟩ (.slice (some ⟨g3, 0, .none⟩) N cap3)).heap.size (W3.setCell ⟨o, 2, .none⟩ (.slice (some ⟨g3, 0, .none⟩) N cap3)) W4) := Lib.hid (by rw [hsz4]; exact HB4.out)
    have hlt4 : o < (W3.setCell ⟨o, 2, .none⟩ (.slice (some ⟨g3, 0, .none⟩) N cap3)).heap.size := (Array.getElem?_eq_some_iff.1 HK3.out).1
    have hk : W4.heap[o]? = some (.cells #[.slice (some ⟨g1, 0, .none⟩) N cap1, .slice (some ⟨g2, 0, .none⟩) N cap2, .slice (some ⟨g3, 0, .none⟩) N cap3, .slice (some ⟨F.g, 0, .none⟩) n cg, .bool fu, .int .i64 lf, .slice .none 0 0, .int .i64 st, .int .i64 so] 52 (0, 0)) := (HB4.out.block o hlt4).trans HK3.out
    have hk2 := heap_setCell_same W4 o 3 _ _ (.slice (some ⟨g4, 0, .none⟩) n cap4) hk
    change (W4.setCell ⟨o, 3, .none⟩ (.slice (some ⟨g4, 0, .none⟩) n cap4)).heap[o]? = some (.cells #[.slice (some ⟨g1, 0, .none⟩) N cap1, .slice (some ⟨g2, 0, .none⟩) N cap2, .slice (some ⟨g3, 0, .none⟩) N cap3, .slice (some ⟨g4, 0, .none⟩) n cap4, .bool fu, .int .i64 lf, .slice .none 0 0, .int .i64 st, .int .i64 so] 52 (0, 0)) at hk2
    obtain ⟨⟨e0, e1, e2, e3, e6⟩, s0, s1, s2, s3, s6⟩ := nine_cells hk
    have ho4 : Only (fun k => k = o) (W3.setCell ⟨o, 2, .none⟩ (.slice (some ⟨g3, 0, .none⟩) N cap3)) (W4.setCell ⟨o, 3, .none⟩ (.slice (some ⟨g4, 0, .none⟩) n cap4)) := (Below.only HB4.out (fun k => k = o)).setCell (p := ⟨o, 3, .none⟩) (.inl rfl) _
    have hm : RMem (W4.setCell ⟨o, 3, .none⟩ (.slice (some ⟨g4, 0, .none⟩) n cap4)) F M := HM3.out.same fun k hk => ho4.block k (HM3.out.in_heap k hk) fun e => HNO.out k hk e
    have HM4 := Lib.hid hm
    have HK4 := Lib.hid hk2
    have HO4 := Lib.hid ho4
    have HL4 := Lib.hid hlt4
    clear hk hk2 hm ho4 hlt4
    obtain ⟨_, _, _, _, cz, _, _, _, _, _, _, _, _, _, _, z6, _, _, _⟩ := HM4.out.cells
    rw [HN.out, HNN.out, HF.out] at z6
    unfold endV at z6
    go_wp2_with fail
    go_ret
    have hsz0 := HL1.out
    have hr1 := HR1.out
    have t1 := hr1.lt
    have b1 := HB1.out.size
    have l1 := HL1.out
    have hr2 := HR2.out
    have t2 := hr2.lt
    have b2 := HB2.out.size
    have l2 := HL2.out
    have hr3 := HR3.out
    have t3 := hr3.lt
    have b3 := HB3.out.size
    have l3 := HL3.out
    have hr4 := HR4.out
    have t4 := hr4.lt
    have b4 := HB4.out.size
    have l4 := HL4.out
    simp only [hsz1] at b1 hg1 l1
    rw [hsz2] at b2 l2
    rw [hsz3] at b3 l3
    rw [hsz4] at b4 l4
    have u1 := ((HO2.out).trans HO3.out).trans HO4.out
    have u2 := (HO3.out).trans HO4.out
    have u3 := HO4.out
    have v1 := ((hr1.same (Below.heap_setCell W1 ⟨o, 0, .none⟩ (.slice (some ⟨g1, 0, .none⟩) N cap1) g1 (show g1 ≠ o by omega)))).later u1 (by omega)
    have v2 := ((hr2.same (Below.heap_setCell W2 ⟨o, 1, .none⟩ (.slice (some ⟨g2, 0, .none⟩) N cap2) g2 (show g2 ≠ o by omega)))).later u2 (by omega)
    have v3 := ((hr3.same (Below.heap_setCell W3 ⟨o, 2, .none⟩ (.slice (some ⟨g3, 0, .none⟩) N cap3) g3 (show g3 ≠ o by omega)))).later u3 (by omega)
    have v4 := (hr4.same (Below.heap_setCell W4 ⟨o, 3, .none⟩ (.slice (some ⟨g4, 0, .none⟩) n cap4) g4 (show g4 ≠ o by omega)))
    have hbel : Below w.heap.size w (W4.setCell ⟨o, 3, .none⟩ (.slice (some ⟨g4, 0, .none⟩) n cap4)) := by
      have hz := (Below.refl w.heap.size w).alloc (Nat.le_refl _) (.cells #[.slice (some ⟨F.s, 0, .none⟩) N cs, .slice (some ⟨F.l, 0, .none⟩) N cl, .slice (some ⟨F.y, 0, .none⟩) N cy, .slice (some ⟨F.g, 0, .none⟩) n cg, .bool fu, .int .i64 lf, .slice .none 0 0, .int .i64 st, .int .i64 so] 52)
      exact hz.trans (((((HO1.out).trans HO2.out).trans HO3.out).trans HO4.out).below (by simp) (fun k hk => by rw [hk, ← HOO.out]; exact Nat.le_refl _))
    have hmk := RMem.make (M := M) (w := _) (o := o) (s := g1) (l := g2) (y := g3) (g := g4) (e := o) (cs := cap1) (cl := cap2) (cy := cap3) (cg := cap4) (ce := N) (by rw [HN.out, HNN.out]; exact hcap1) (by rw [HN.out, HNN.out]; exact hcap2) (by rw [HN.out, HNN.out]; exact hcap3) (by rw [HN.out]; exact hcap4) (by rw [HN.out, HNN.out]; exact Nat.le_refl _) (by rw [HN.out, HNN.out, HFU.out, HLF.out, HST.out, HSO.out, HF.out]; exact HK4.out) (by rw [HN.out, HNN.out]; exact v1) (by rw [HN.out, HNN.out]; exact v2) (by rw [HN.out, HNN.out]; exact v3) (by rw [HN.out]; exact v4) (fun f hff => by rw [HF.out] at hff; cases hff) ⟨by omega, by omega, by omega⟩ (by rw [HN.out]; exact hsz) (fun _ => rfl)
    have hbel2 := hbel
    rw [HOO.out] at hbel2
    refine ⟨_, rfl, hmk, hbel2, fun k hk => ?_⟩
    have ho := HOO.out
    rcases hk with h | h | h | h | h | h <;> (dsimp only at h; omega)
  | some gf =>
    rw [hf] at c6
    unfold endV at c6
    have HF := Lib.hid hf
    have hm : RMem (w.alloc (.cells #[.slice (some ⟨F.s, 0, .none⟩) N cs, .slice (some ⟨F.l, 0, .none⟩) N cl, .slice (some ⟨F.y, 0, .none⟩) N cy, .slice (some ⟨F.g, 0, .none⟩) n cg, .bool fu, .int .i64 lf, .slice (some ⟨F.e, 0, .none⟩) N ce, .int .i64 st, .int .i64 so] 52)) F M := h.below ((Below.refl _ _).alloc (Nat.le_refl _) _)
    have HM0 := Lib.hid hm
    have hk : (w.alloc (.cells #[.slice (some ⟨F.s, 0, .none⟩) N cs, .slice (some ⟨F.l, 0, .none⟩) N cl, .slice (some ⟨F.y, 0, .none⟩) N cy, .slice (some ⟨F.g, 0, .none⟩) n cg, .bool fu, .int .i64 lf, .slice (some ⟨F.e, 0, .none⟩) N ce, .int .i64 st, .int .i64 so] 52)).heap[o]? = some (.cells #[.slice (some ⟨F.s, 0, .none⟩) N cs, .slice (some ⟨F.l, 0, .none⟩) N cl, .slice (some ⟨F.y, 0, .none⟩) N cy, .slice (some ⟨F.g, 0, .none⟩) n cg, .bool fu, .int .i64 lf, .slice (some ⟨F.e, 0, .none⟩) N ce, .int .i64 st, .int .i64 so] 52 (0, 0)) := by rw [← HOO.out]; exact heap_alloc_new w _
    have HK0 := Lib.hid hk
    have hno : ∀ k, F.has k → k ≠ o := fun k hk e => by have := h.in_heap k hk; have := HOO.out; omega
    have HNO := Lib.hid hno
    clear h hfz hf hn hN hfu hlf hst hso hm hk hno
    go_enter Try.func29, Try.ntmps29
    rw [hoo]
    obtain ⟨ca0, cb0, cc0, cd0, ce0, _, _, _, _, x0, x1, x2, x3, _, _, x6, _, _, _⟩ := (HM0.out.below ((Below.refl _ _).alloc (Nat.le_refl _) (.cells #[] 29))).cells
    rw [HN.out] at x0 x1 x2 x3 x6
    rw [HNN.out] at x0 x1 x2 x6
    rw [HF.out] at x6; unfold endV at x6
    have hr1 : RowT (w.alloc (.cells #[.slice (some ⟨F.s, 0, .none⟩) N cs, .slice (some ⟨F.l, 0, .none⟩) N cl, .slice (some ⟨F.y, 0, .none⟩) N cy, .slice (some ⟨F.g, 0, .none⟩) n cg, .bool fu, .int .i64 lf, .slice (some ⟨F.e, 0, .none⟩) N ce, .int .i64 st, .int .i64 so] 52)) 29 F.s N (wordV M.seen) := by have := HM0.out.seen; rw [HN.out, HNN.out] at this; exact this
    have HX1 := Lib.hid hr1
    clear hr1
    go_wp2_with (at_builtin; refine wpList_copied (w.alloc (.cells #[.slice (some ⟨F.s, 0, .none⟩) N cs, .slice (some ⟨F.l, 0, .none⟩) N cl, .slice (some ⟨F.y, 0, .none⟩) N cy, .slice (some ⟨F.g, 0, .none⟩) n cg, .bool fu, .int .i64 lf, .slice (some ⟨F.e, 0, .none⟩) N ce, .int .i64 st, .int .i64 so] 52)) rfl _ _ 49 rfl 29 i0 (.int .u64 0) 8 Try.underlying49 hi hz0 hz1 hz2 rfl (by decide) F.s N ca0 (wordV M.seen) HX1.out hN1.1 hN1.2 (fun _ => rfl) (by first | rfl | (show Value.slice (some ⟨_, 0, .none⟩) 0 0 = Value.slice (some ⟨_, 0, .none⟩) 0 0; simp [hoo]; done)) rfl ?_)
    intro g1 cap1 W1 hg1 hcap1 HR1 HB1
    clear x0 x1 x2 x3 x6
    have hsz1 : (w.alloc (.cells #[.slice (some ⟨F.s, 0, .none⟩) N cs, .slice (some ⟨F.l, 0, .none⟩) N cl, .slice (some ⟨F.y, 0, .none⟩) N cy, .slice (some ⟨F.g, 0, .none⟩) n cg, .bool fu, .int .i64 lf, .slice (some ⟨F.e, 0, .none⟩) N ce, .int .i64 st, .int .i64 so] 52)).heap.size = o + 1 := by simp [hoo]
    have HB1 : Hid (Below (w.alloc (.cells #[.slice (some ⟨F.s, 0, .none⟩) N cs, .slice (some ⟨F.l, 0, .none⟩) N cl, .slice (some ⟨F.y, 0, .none⟩) N cy, .slice (some ⟨F.g, 0, .none⟩) n cg, .bool fu, .int .i64 lf, .slice (some ⟨F.e, 0, .none⟩) N ce, .int .i64 st, .int .i64 so] 52)).heap.size (w.alloc (.cells #[.slice (some ⟨F.s, 0, .none⟩) N cs, .slice (some ⟨F.l, 0, .none⟩) N cl, .slice (some ⟨F.y, 0, .none⟩) N cy, .slice (some ⟨F.g, 0, .none⟩) n cg, .bool fu, .int .i64 lf, .slice (some ⟨F.e, 0, .none⟩) N ce, .int .i64 st, .int .i64 so] 52)) W1) := Lib.hid (by rw [hsz1]; exact HB1.out)
    have hlt1 : o < (w.alloc (.cells #[.slice (some ⟨F.s, 0, .none⟩) N cs, .slice (some ⟨F.l, 0, .none⟩) N cl, .slice (some ⟨F.y, 0, .none⟩) N cy, .slice (some ⟨F.g, 0, .none⟩) n cg, .bool fu, .int .i64 lf, .slice (some ⟨F.e, 0, .none⟩) N ce, .int .i64 st, .int .i64 so] 52)).heap.size := (Array.getElem?_eq_some_iff.1 HK0.out).1
    have hk : W1.heap[o]? = some (.cells #[.slice (some ⟨F.s, 0, .none⟩) N cs, .slice (some ⟨F.l, 0, .none⟩) N cl, .slice (some ⟨F.y, 0, .none⟩) N cy, .slice (some ⟨F.g, 0, .none⟩) n cg, .bool fu, .int .i64 lf, .slice (some ⟨F.e, 0, .none⟩) N ce, .int .i64 st, .int .i64 so] 52 (0, 0)) := (HB1.out.block o hlt1).trans HK0.out
    have hk2 := heap_setCell_same W1 o 0 _ _ (.slice (some ⟨g1, 0, .none⟩) N cap1) hk
    change (W1.setCell ⟨o, 0, .none⟩ (.slice (some ⟨g1, 0, .none⟩) N cap1)).heap[o]? = some (.cells #[.slice (some ⟨g1, 0, .none⟩) N cap1, .slice (some ⟨F.l, 0, .none⟩) N cl, .slice (some ⟨F.y, 0, .none⟩) N cy, .slice (some ⟨F.g, 0, .none⟩) n cg, .bool fu, .int .i64 lf, .slice (some ⟨F.e, 0, .none⟩) N ce, .int .i64 st, .int .i64 so] 52 (0, 0)) at hk2
    obtain ⟨⟨e0, e1, e2, e3, e6⟩, s0, s1, s2, s3, s6⟩ := nine_cells hk
    have ho1 : Only (fun k => k = o) (w.alloc (.cells #[.slice (some ⟨F.s, 0, .none⟩) N cs, .slice (some ⟨F.l, 0, .none⟩) N cl, .slice (some ⟨F.y, 0, .none⟩) N cy, .slice (some ⟨F.g, 0, .none⟩) n cg, .bool fu, .int .i64 lf, .slice (some ⟨F.e, 0, .none⟩) N ce, .int .i64 st, .int .i64 so] 52)) (W1.setCell ⟨o, 0, .none⟩ (.slice (some ⟨g1, 0, .none⟩) N cap1)) := (Below.only HB1.out (fun k => k = o)).setCell (p := ⟨o, 0, .none⟩) (.inl rfl) _
    have hm : RMem (W1.setCell ⟨o, 0, .none⟩ (.slice (some ⟨g1, 0, .none⟩) N cap1)) F M := HM0.out.same fun k hk => ho1.block k (HM0.out.in_heap k hk) fun e => HNO.out k hk e
    have HM1 := Lib.hid hm
    have HK1 := Lib.hid hk2
    have HO1 := Lib.hid ho1
    have HL1 := Lib.hid hlt1
    clear hk hk2 hm ho1 hlt1
    obtain ⟨ca1, cb1, cc1, cd1, ce1, _, _, _, _, x0, x1, x2, x3, _, _, x6, _, _, _⟩ := (HM1.out.below ((Below.refl _ _).alloc (Nat.le_refl _) (.cells #[] 29))).cells
    rw [HN.out] at x0 x1 x2 x3 x6
    rw [HNN.out] at x0 x1 x2 x6
    rw [HF.out] at x6; unfold endV at x6
    have hr2 : RowT (W1.setCell ⟨o, 0, .none⟩ (.slice (some ⟨g1, 0, .none⟩) N cap1)) 29 F.l N (wordV M.last) := by have := HM1.out.last; rw [HN.out, HNN.out] at this; exact this
    have HX2 := Lib.hid hr2
    clear hr2
    go_wp2_with (at_builtin; refine wpList_copied (W1.setCell ⟨o, 0, .none⟩ (.slice (some ⟨g1, 0, .none⟩) N cap1)) rfl _ _ 49 rfl 29 i0 (.int .u64 0) 8 Try.underlying49 hi hz0 hz1 hz2 rfl (by decide) F.l N cb1 (wordV M.last) HX2.out hN1.1 hN1.2 (fun _ => rfl) (by first | rfl | (show Value.slice (some ⟨_, 0, .none⟩) 0 0 = Value.slice (some ⟨_, 0, .none⟩) 0 0; simp [hoo]; done)) rfl ?_)
    intro g2 cap2 W2 hg2 hcap2 HR2 HB2
    clear x0 x1 x2 x3 x6
    have hsz2 : (W1.setCell ⟨o, 0, .none⟩ (.slice (some ⟨g1, 0, .none⟩) N cap1)).heap.size = W1.heap.size := by simp [hoo]
    have HB2 : Hid (Below (W1.setCell ⟨o, 0, .none⟩ (.slice (some ⟨g1, 0, .none⟩) N cap1)).heap.size (W1.setCell ⟨o, 0, .none⟩ (.slice (some ⟨g1, 0, .none⟩) N cap1)) W2) := Lib.hid (by rw [hsz2]; exact HB2.out)
    have hlt2 : o < (W1.setCell ⟨o, 0, .none⟩ (.slice (some ⟨g1, 0, .none⟩) N cap1)).heap.size := (Array.getElem?_eq_some_iff.1 HK1.out).1
    have hk : W2.heap[o]? = some (.cells #[.slice (some ⟨g1, 0, .none⟩) N cap1, .slice (some ⟨F.l, 0, .none⟩) N cl, .slice (some ⟨F.y, 0, .none⟩) N cy, .slice (some ⟨F.g, 0, .none⟩) n cg, .bool fu, .int .i64 lf, .slice (some ⟨F.e, 0, .none⟩) N ce, .int .i64 st, .int .i64 so] 52 (0, 0)) := (HB2.out.block o hlt2).trans HK1.out
    have hk2 := heap_setCell_same W2 o 1 _ _ (.slice (some ⟨g2, 0, .none⟩) N cap2) hk
    change (W2.setCell ⟨o, 1, .none⟩ (.slice (some ⟨g2, 0, .none⟩) N cap2)).heap[o]? = some (.cells #[.slice (some ⟨g1, 0, .none⟩) N cap1, .slice (some ⟨g2, 0, .none⟩) N cap2, .slice (some ⟨F.y, 0, .none⟩) N cy, .slice (some ⟨F.g, 0, .none⟩) n cg, .bool fu, .int .i64 lf, .slice (some ⟨F.e, 0, .none⟩) N ce, .int .i64 st, .int .i64 so] 52 (0, 0)) at hk2
    obtain ⟨⟨e0, e1, e2, e3, e6⟩, s0, s1, s2, s3, s6⟩ := nine_cells hk
    have ho2 : Only (fun k => k = o) (W1.setCell ⟨o, 0, .none⟩ (.slice (some ⟨g1, 0, .none⟩) N cap1)) (W2.setCell ⟨o, 1, .none⟩ (.slice (some ⟨g2, 0, .none⟩) N cap2)) := (Below.only HB2.out (fun k => k = o)).setCell (p := ⟨o, 1, .none⟩) (.inl rfl) _
    have hm : RMem (W2.setCell ⟨o, 1, .none⟩ (.slice (some ⟨g2, 0, .none⟩) N cap2)) F M := HM1.out.same fun k hk => ho2.block k (HM1.out.in_heap k hk) fun e => HNO.out k hk e
    have HM2 := Lib.hid hm
    have HK2 := Lib.hid hk2
    have HO2 := Lib.hid ho2
    have HL2 := Lib.hid hlt2
    clear hk hk2 hm ho2 hlt2
    obtain ⟨ca2, cb2, cc2, cd2, ce2, _, _, _, _, x0, x1, x2, x3, _, _, x6, _, _, _⟩ := (HM2.out.below ((Below.refl _ _).alloc (Nat.le_refl _) (.cells #[] 29))).cells
    rw [HN.out] at x0 x1 x2 x3 x6
    rw [HNN.out] at x0 x1 x2 x6
    rw [HF.out] at x6; unfold endV at x6
    have hr3 : RowT (W2.setCell ⟨o, 1, .none⟩ (.slice (some ⟨g2, 0, .none⟩) N cap2)) 29 F.y N (wordV M.way) := by have := HM2.out.way; rw [HN.out, HNN.out] at this; exact this
    have HX3 := Lib.hid hr3
    clear hr3
    go_wp2_with (at_builtin; refine wpList_copied (W2.setCell ⟨o, 1, .none⟩ (.slice (some ⟨g2, 0, .none⟩) N cap2)) rfl _ _ 49 rfl 29 i0 (.int .u64 0) 8 Try.underlying49 hi hz0 hz1 hz2 rfl (by decide) F.y N cc2 (wordV M.way) HX3.out hN1.1 hN1.2 (fun _ => rfl) (by first | rfl | (show Value.slice (some ⟨_, 0, .none⟩) 0 0 = Value.slice (some ⟨_, 0, .none⟩) 0 0; simp [hoo]; done)) rfl ?_)
    intro g3 cap3 W3 hg3 hcap3 HR3 HB3
    clear x0 x1 x2 x3 x6
    have hsz3 : (W2.setCell ⟨o, 1, .none⟩ (.slice (some ⟨g2, 0, .none⟩) N cap2)).heap.size = W2.heap.size := by simp [hoo]
    have HB3 : Hid (Below (W2.setCell ⟨o, 1, .none⟩ (.slice (some ⟨g2, 0, .none⟩) N cap2)).heap.size (W2.setCell ⟨o, 1, .none⟩ (.slice (some ⟨g2, 0, .none⟩) N cap2)) W3) := Lib.hid (by rw [hsz3]; exact HB3.out)
    have hlt3 : o < (W2.setCell ⟨o, 1, .none⟩ (.slice (some ⟨g2, 0, .none⟩) N cap2)).heap.size := (Array.getElem?_eq_some_iff.1 HK2.out).1
    have hk : W3.heap[o]? = some (.cells #[.slice (some ⟨g1, 0, .none⟩) N cap1, .slice (some ⟨g2, 0, .none⟩) N cap2, .slice (some ⟨F.y, 0, .none⟩) N cy, .slice (some ⟨F.g, 0, .none⟩) n cg, .bool fu, .int .i64 lf, .slice (some ⟨F.e, 0, .none⟩) N ce, .int .i64 st, .int .i64 so] 52 (0, 0)) := (HB3.out.block o hlt3).trans HK2.out
    have hk2 := heap_setCell_same W3 o 2 _ _ (.slice (some ⟨g3, 0, .none⟩) N cap3) hk
    change (W3.setCell ⟨o, 2, .none⟩ (.slice (some ⟨g3, 0, .none⟩) N cap3)).heap[o]? = some (.cells #[.slice (some ⟨g1, 0, .none⟩) N cap1, .slice (some ⟨g2, 0, .none⟩) N cap2, .slice (some ⟨g3, 0, .none⟩) N cap3, .slice (some ⟨F.g, 0, .none⟩) n cg, .bool fu, .int .i64 lf, .slice (some ⟨F.e, 0, .none⟩) N ce, .int .i64 st, .int .i64 so] 52 (0, 0)) at hk2
    obtain ⟨⟨e0, e1, e2, e3, e6⟩, s0, s1, s2, s3, s6⟩ := nine_cells hk
    have ho3 : Only (fun k => k = o) (W2.setCell ⟨o, 1, .none⟩ (.slice (some ⟨g2, 0, .none⟩) N cap2)) (W3.setCell ⟨o, 2, .none⟩ (.slice (some ⟨g3, 0, .none⟩) N cap3)) := (Below.only HB3.out (fun k => k = o)).setCell (p := ⟨o, 2, .none⟩) (.inl rfl) _
    have hm : RMem (W3.setCell ⟨o, 2, .none⟩ (.slice (some ⟨g3, 0, .none⟩) N cap3)) F M := HM2.out.same fun k hk => ho3.block k (HM2.out.in_heap k hk) fun e => HNO.out k hk e
    have HM3 := Lib.hid hm
    have HK3 := Lib.hid hk2
    have HO3 := Lib.hid ho3
    have HL3 := Lib.hid hlt3
    clear hk hk2 hm ho3 hlt3
    obtain ⟨ca3, cb3, cc3, cd3, ce3, _, _, _, _, x0, x1, x2, x3, _, _, x6, _, _, _⟩ := (HM3.out.below ((Below.refl _ _).alloc (Nat.le_refl _) (.cells #[] 4))).cells
    rw [HN.out] at x0 x1 x2 x3 x6
    rw [HNN.out] at x0 x1 x2 x6
    rw [HF.out] at x6; unfold endV at x6
    have hr4 : RowT (W3.setCell ⟨o, 2, .none⟩ (.slice (some ⟨g3, 0, .none⟩) N cap3)) 4 F.g n (flagV M.going) := by have := HM3.out.going; rw [HN.out] at this; exact this
    have HX4 := Lib.hid hr4
    clear hr4
    go_wp2_with (at_builtin; refine wpList_copied (W3.setCell ⟨o, 2, .none⟩ (.slice (some ⟨g3, 0, .none⟩) N cap3)) rfl _ _ 50 rfl 4 j0 (.bool false) 1 Try.underlying50 hj hy0 hy1 hy2 rfl (by decide) F.g n cd3 (flagV M.going) HX4.out hn1.1 hn1.2 (fun _ => rfl) (by first | rfl | (show Value.slice (some ⟨_, 0, .none⟩) 0 0 = Value.slice (some ⟨_, 0, .none⟩) 0 0; simp [hoo]; done)) rfl ?_)
    intro g4 cap4 W4 hg4 hcap4 HR4 HB4
    clear x0 x1 x2 x3 x6
    have hsz4 : (W3.setCell ⟨o, 2, .none⟩ (.slice (some ⟨g3, 0, .none⟩) N cap3)).heap.size = W3.heap.size := by simp [hoo]
    have HB4 : Hid (Below (W3.setCell ⟨o, 2, .none⟩ (.slice (some ⟨g3, 0, .none⟩) N cap3)).heap.size (W3.setCell ⟨o, 2, .none⟩ (.slice (some ⟨g3, 0, .none⟩) N cap3)) W4) := Lib.hid (by rw [hsz4]; exact HB4.out)
    have hlt4 : o < (W3.setCell ⟨o, 2, .none⟩ (.slice (some ⟨g3, 0, .none⟩) N cap3)).heap.size := (Array.getElem?_eq_some_iff.1 HK3.out).1
    have hk : W4.heap[o]? = some (.cells #[.slice (some ⟨g1, 0, .none⟩) N cap1, .slice (some ⟨g2, 0, .none⟩) N cap2, .slice (some ⟨g3, 0, .none⟩) N cap3, .slice (some ⟨F.g, 0, .none⟩) n cg, .bool fu, .int .i64 lf, .slice (some ⟨F.e, 0, .none⟩) N ce, .int .i64 st, .int .i64 so] 52 (0, 0)) := (HB4.out.block o hlt4).trans HK3.out
    have hk2 := heap_setCell_same W4 o 3 _ _ (.slice (some ⟨g4, 0, .none⟩) n cap4) hk
    change (W4.setCell ⟨o, 3, .none⟩ (.slice (some ⟨g4, 0, .none⟩) n cap4)).heap[o]? = some (.cells #[.slice (some ⟨g1, 0, .none⟩) N cap1, .slice (some ⟨g2, 0, .none⟩) N cap2, .slice (some ⟨g3, 0, .none⟩) N cap3, .slice (some ⟨g4, 0, .none⟩) n cap4, .bool fu, .int .i64 lf, .slice (some ⟨F.e, 0, .none⟩) N ce, .int .i64 st, .int .i64 so] 52 (0, 0)) at hk2
    obtain ⟨⟨e0, e1, e2, e3, e6⟩, s0, s1, s2, s3, s6⟩ := nine_cells hk
    have ho4 : Only (fun k => k = o) (W3.setCell ⟨o, 2, .none⟩ (.slice (some ⟨g3, 0, .none⟩) N cap3)) (W4.setCell ⟨o, 3, .none⟩ (.slice (some ⟨g4, 0, .none⟩) n cap4)) := (Below.only HB4.out (fun k => k = o)).setCell (p := ⟨o, 3, .none⟩) (.inl rfl) _
    have hm : RMem (W4.setCell ⟨o, 3, .none⟩ (.slice (some ⟨g4, 0, .none⟩) n cap4)) F M := HM3.out.same fun k hk => ho4.block k (HM3.out.in_heap k hk) fun e => HNO.out k hk e
    have HM4 := Lib.hid hm
    have HK4 := Lib.hid hk2
    have HO4 := Lib.hid ho4
    have HL4 := Lib.hid hlt4
    clear hk hk2 hm ho4 hlt4
    obtain ⟨_, _, _, _, cz, _, _, _, _, _, _, _, _, _, _, z6, _, _, _⟩ := HM4.out.cells
    rw [HN.out, HNN.out, HF.out] at z6
    unfold endV at z6
    obtain ⟨ca4, cb4, cc4, cd4, ce4, _, _, _, _, x0, x1, x2, x3, _, _, x6, _, _, _⟩ := (HM4.out.below ((Below.refl _ _).alloc (Nat.le_refl _) (.cells #[] 29))).cells
    rw [HN.out] at x0 x1 x2 x3 x6
    rw [HNN.out] at x0 x1 x2 x6
    rw [HF.out] at x6; unfold endV at x6
    have hr5 : RowT (W4.setCell ⟨o, 3, .none⟩ (.slice (some ⟨g4, 0, .none⟩) n cap4)) 29 F.e N (wordV gf) := by have := (HM4.out.fin _ HF.out).1; rw [HN.out, HNN.out] at this; exact this
    have HX5 := Lib.hid hr5
    clear hr5
    go_wp2_with (at_builtin; refine wpList_copied (W4.setCell ⟨o, 3, .none⟩ (.slice (some ⟨g4, 0, .none⟩) n cap4)) rfl _ _ 49 rfl 29 i0 (.int .u64 0) 8 Try.underlying49 hi hz0 hz1 hz2 rfl (by decide) F.e N ce4 (wordV gf) HX5.out hN1.1 hN1.2 (fun _ => rfl) (by first | rfl | (show Value.slice (some ⟨_, 0, .none⟩) 0 0 = Value.slice (some ⟨_, 0, .none⟩) 0 0; simp [hoo]; done)) rfl ?_)
    intro g5 cap5 W5 hg5 hcap5 HR5 HB5
    clear x0 x1 x2 x3 x6
    have hsz5 : (W4.setCell ⟨o, 3, .none⟩ (.slice (some ⟨g4, 0, .none⟩) n cap4)).heap.size = W4.heap.size := by simp [hoo]
    have HB5 : Hid (Below (W4.setCell ⟨o, 3, .none⟩ (.slice (some ⟨g4, 0, .none⟩) n cap4)).heap.size (W4.setCell ⟨o, 3, .none⟩ (.slice (some ⟨g4, 0, .none⟩) n cap4)) W5) := Lib.hid (by rw [hsz5]; exact HB5.out)
    have hlt5 : o < (W4.setCell ⟨o, 3, .none⟩ (.slice (some ⟨g4, 0, .none⟩) n cap4)).heap.size := (Array.getElem?_eq_some_iff.1 HK4.out).1
    have hk : W5.heap[o]? = some (.cells #[.slice (some ⟨g1, 0, .none⟩) N cap1, .slice (some ⟨g2, 0, .none⟩) N cap2, .slice (some ⟨g3, 0, .none⟩) N cap3, .slice (some ⟨g4, 0, .none⟩) n cap4, .bool fu, .int .i64 lf, .slice (some ⟨F.e, 0, .none⟩) N ce, .int .i64 st, .int .i64 so] 52 (0, 0)) := (HB5.out.block o hlt5).trans HK4.out
    have hk2 := heap_setCell_same W5 o 6 _ _ (.slice (some ⟨g5, 0, .none⟩) N cap5) hk
    change (W5.setCell ⟨o, 6, .none⟩ (.slice (some ⟨g5, 0, .none⟩) N cap5)).heap[o]? = some (.cells #[.slice (some ⟨g1, 0, .none⟩) N cap1, .slice (some ⟨g2, 0, .none⟩) N cap2, .slice (some ⟨g3, 0, .none⟩) N cap3, .slice (some ⟨g4, 0, .none⟩) n cap4, .bool fu, .int .i64 lf, .slice (some ⟨g5, 0, .none⟩) N cap5, .int .i64 st, .int .i64 so] 52 (0, 0)) at hk2
    obtain ⟨⟨e0, e1, e2, e3, e6⟩, s0, s1, s2, s3, s6⟩ := nine_cells hk
    have ho5 : Only (fun k => k = o) (W4.setCell ⟨o, 3, .none⟩ (.slice (some ⟨g4, 0, .none⟩) n cap4)) (W5.setCell ⟨o, 6, .none⟩ (.slice (some ⟨g5, 0, .none⟩) N cap5)) := (Below.only HB5.out (fun k => k = o)).setCell (p := ⟨o, 6, .none⟩) (.inl rfl) _
    have hm : RMem (W5.setCell ⟨o, 6, .none⟩ (.slice (some ⟨g5, 0, .none⟩) N cap5)) F M := HM4.out.same fun k hk => ho5.block k (HM4.out.in_heap k hk) fun e => HNO.out k hk e
    have HM5 := Lib.hid hm
    have HK5 := Lib.hid hk2
    have HO5 := Lib.hid ho5
    have HL5 := Lib.hid hlt5
    clear hk hk2 hm ho5 hlt5
    go_wp2_with fail
    go_ret
    have hsz0 := HL1.out
    have hr1 := HR1.out
    have t1 := hr1.lt
    have b1 := HB1.out.size
    have l1 := HL1.out
    have hr2 := HR2.out
    have t2 := hr2.lt
    have b2 := HB2.out.size
    have l2 := HL2.out
    have hr3 := HR3.out
    have t3 := hr3.lt
    have b3 := HB3.out.size
    have l3 := HL3.out
    have hr4 := HR4.out
    have t4 := hr4.lt
    have b4 := HB4.out.size
    have l4 := HL4.out
    have hr5 := HR5.out
    have t5 := hr5.lt
    have b5 := HB5.out.size
    have l5 := HL5.out
    simp only [hsz1] at b1 hg1 l1
    rw [hsz2] at b2 l2
    rw [hsz3] at b3 l3
    rw [hsz4] at b4 l4
    rw [hsz5] at b5 l5
    have u1 := (((HO2.out).trans HO3.out).trans HO4.out).trans HO5.out
    have u2 := ((HO3.out).trans HO4.out).trans HO5.out
    have u3 := (HO4.out).trans HO5.out
    have u4 := HO5.out
    have v1 := ((hr1.same (Below.heap_setCell W1 ⟨o, 0, .none⟩ (.slice (some ⟨g1, 0, .none⟩) N cap1) g1 (show g1 ≠ o by omega)))).later u1 (by omega)
    have v2 := ((hr2.same (Below.heap_setCell W2 ⟨o, 1, .none⟩ (.slice (some ⟨g2, 0, .none⟩) N cap2) g2 (show g2 ≠ o by omega)))).later u2 (by omega)
    have v3 := ((hr3.same (Below.heap_setCell W3 ⟨o, 2, .none⟩ (.slice (some ⟨g3, 0, .none⟩) N cap3) g3 (show g3 ≠ o by omega)))).later u3 (by omega)
    have v4 := ((hr4.same (Below.heap_setCell W4 ⟨o, 3, .none⟩ (.slice (some ⟨g4, 0, .none⟩) n cap4) g4 (show g4 ≠ o by omega)))).later u4 (by omega)
    have v5 := (hr5.same (Below.heap_setCell W5 ⟨o, 6, .none⟩ (.slice (some ⟨g5, 0, .none⟩) N cap5) g5 (show g5 ≠ o by omega)))
    have hbel : Below w.heap.size w (W5.setCell ⟨o, 6, .none⟩ (.slice (some ⟨g5, 0, .none⟩) N cap5)) := by
      have hz := (Below.refl w.heap.size w).alloc (Nat.le_refl _) (.cells #[.slice (some ⟨F.s, 0, .none⟩) N cs, .slice (some ⟨F.l, 0, .none⟩) N cl, .slice (some ⟨F.y, 0, .none⟩) N cy, .slice (some ⟨F.g, 0, .none⟩) n cg, .bool fu, .int .i64 lf, .slice (some ⟨F.e, 0, .none⟩) N ce, .int .i64 st, .int .i64 so] 52)
      exact hz.trans ((((((HO1.out).trans HO2.out).trans HO3.out).trans HO4.out).trans HO5.out).below (by simp) (fun k hk => by rw [hk, ← HOO.out]; exact Nat.le_refl _))
    have hmk := RMem.make (M := M) (w := _) (o := o) (s := g1) (l := g2) (y := g3) (g := g4) (e := g5) (cs := cap1) (cl := cap2) (cy := cap3) (cg := cap4) (ce := cap5) (by rw [HN.out, HNN.out]; exact hcap1) (by rw [HN.out, HNN.out]; exact hcap2) (by rw [HN.out, HNN.out]; exact hcap3) (by rw [HN.out]; exact hcap4) (by rw [HN.out, HNN.out]; exact hcap5) (by rw [HN.out, HNN.out, HFU.out, HLF.out, HST.out, HSO.out, HF.out]; exact HK5.out) (by rw [HN.out, HNN.out]; exact v1) (by rw [HN.out, HNN.out]; exact v2) (by rw [HN.out, HNN.out]; exact v3) (by rw [HN.out]; exact v4) (fun f hff => by rw [HF.out] at hff; injection hff with hff; subst hff; exact ⟨by rw [HN.out, HNN.out]; exact v5, by omega, by omega, by omega⟩) ⟨by omega, by omega, by omega⟩ (by rw [HN.out]; exact hsz) (fun e => by rw [HF.out] at e; cases e)
    have hbel2 := hbel
    rw [HOO.out] at hbel2
    refine ⟨_, rfl, hmk, hbel2, fun k hk => ?_⟩
    have ho := HOO.out
    rcases hk with h | h | h | h | h | h <;> (dsimp only at h; omega)
end Go.Proofs.Ytbflennacniacaa
