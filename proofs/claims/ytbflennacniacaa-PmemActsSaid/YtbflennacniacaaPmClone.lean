/- slices.Clone of lines, pmem.Mem.mark, each by its contract. -/
import Derived.Test.YtbflennacniacaaPmOps
namespace Go.Proofs.Ytbflennacniacaa
open Go.RowKit
set_option linter.unusedVariables false
def zeroLine : Value := .agg #[.int .u64 0, .int .u64 0, .int .u64 0, .int .u64 0, .int .u64 0, .int .u64 0, .int .u64 0, .int .u64 0]
theorem infoLine : (Try.prog.info? 78).map (fun i => (i.zero, i.size, i.bytes)) = some (some zeroLine, 8, 64) := by kernel_rfl
def wordsV (N : Nat) (f : Nat → Int) : List Value := (List.range N).map fun j => .int .u64 (f j)
theorem addr_pm (g off j : Nat) : (⟨g, off, .none⟩ : Addr).add j = ⟨g, off + j, .none⟩ := by unfold Addr.add; split <;> simp_all
theorem row_made8 (w : World) : (w.alloc (.cells #[] 78)).ownsRow w.heap.size 78 8 (.slice (some ⟨w.heap.size, 0, .none⟩) 0 0) 0 [] :=
  ⟨rfl, Or.inr ⟨w.heap.size, 0, #[], rfl, Nat.le_refl _, heap_alloc_new w _, Nat.le_refl _, Nat.zero_le _, rfl, rfl⟩⟩
theorem RowAt.of_owns {w : World} {base n : Nat} {v : Value} {f : Nat → Int} (h : w.ownsRow base 78 8 v n (wordsV (n * 8) f)) (hn : 1 ≤ n) :
    ∃ g cap, v = .slice (some ⟨g, 0, .none⟩) n cap ∧ base ≤ g ∧ n ≤ cap ∧ RowAt w g (n * 8) f := by
  rcases h.2 with ⟨_, h0⟩ | ⟨g, cap, cur, hv, hb, hg, hnc, hcm, hcs, htk⟩
  · omega
  · refine ⟨g, cap, hv, hb, hnc, cur, hg, fun j hj => ?_⟩
    have h1 : (wordsV (n * 8) f)[j]? = some (.int .u64 (f j)) := by simp [wordsV, hj]
    rw [← htk, List.getElem?_take, if_pos hj] at h1
    simpa using h1
set_option maxRecDepth 100000 in
set_option maxHeartbeats 1000000 in
theorem clone_any (b n cs : Nat) (f : Nat → Int) (w : World) (h : RowAt w b (n * 8) f) (h1 : 1 ≤ n) (h2 : n ≤ 8192) :
    Calls Try.prog 47 #[.slice (some ⟨b, 0, .none⟩) n cs] w fun e w' => ∃ g cap, e = .returned (.slice (some ⟨g, 0, .none⟩) n cap) ∧ n ≤ cap ∧ w.heap.size ≤ g ∧ RowAt w' g (n * 8) f ∧ Below w.heap.size w w' := by
  have HH := Lib.hid h
  have hmade := row_made8 w
  have HM := Lib.hid hmade
  have hal : Below w.heap.size w (w.alloc (.cells #[] 78)) := (Below.refl _ _).alloc (Nat.le_refl _) _
  have HAL := Lib.hid hal
  clear h hmade hal
  obtain ⟨i0, hi, hz0, hz1, hz2⟩ := info_parts infoLine
  have heq := eql_slice_nil (P := Try.prog) 72 78 Try.underlying72
  go_enter Try.func47, Try.ntmps47
  go_wp2_with (at_builtin; refine wpList_append_own _ rfl _ _ 72 rfl w.heap.size 78 i0 zeroLine 8 64 Try.underlying72 hi hz0 hz1 hz2 rfl (by decide) _ 0 _ rfl HM.out ⟨b, 0, .none⟩ n cs (wordsV (n * 8) f) rfl (by simp [wordsV]) ?ca2 ?ca3 ?ca4 ?ca5 ?ca6 ?_)
  case ca2 =>
    intro j u hu
    have hj : j < n * 8 := by
      have := (List.getElem?_eq_some_iff.1 hu).1
      simpa [wordsV] using this
    rw [addr_pm, Nat.zero_add]
    have hc := (HH.out.same (HAL.out.block b HH.out.lt)).cell j hj
    rw [hc, ← hu]
    simp [wordsV, hj]
  case ca3 =>
    intro u hu
    obtain ⟨j, _, rfl⟩ := List.mem_map.1 hu
    rfl
  case ca4 => unfold maxLen; omega
  case ca5 => omega
  case ca6 => exact HAL.out.size
  intro v' w2 hown' hgrow _
  have hb2 : Below w.heap.size w w2 := HAL.out.grown hgrow HAL.out.size fun x hx => (HM.out.lt x hx).1
  have hown2 : w2.ownsRow w.heap.size 78 8 v' n (wordsV (n * 8) f) := by simpa using hown'
  obtain ⟨g, cap, rfl, hg, hcap, hrow⟩ := RowAt.of_owns hown2 h1
  have HB := Lib.hid hb2
  have HROW := Lib.hid hrow
  clear hown' hown2 hgrow hb2 hrow
  go_wp2_with fail
  go_ret
  exact ⟨g, cap, rfl, hcap, hg, HROW.out, HB.out⟩
/-- What is seen is kept, where the fuse is at its end. -/
def PM.marked (M : PM) : PM := if M.fuse = 0 then { M with fin := some M.seen } else M
/-- An operation that a memory does. -/
def Op (F F' : PF) (w w' : World) : Prop := F'.a = F.a ∧ (∀ k, F'.has k → F.has k ∨ w.heap.size ≤ k) ∧ Only F.has w w'
theorem Op.of_only {F : PF} {w w' : World} (h : Only F.has w w') : Op F F w w' := ⟨rfl, fun k hk => .inl hk, h⟩
theorem Op.trans {F G H : PF} {a b c : World} (h : Op F G a b) (k : Op G H b c) : Op F H a c := by
  refine ⟨k.1.trans h.1, fun i hi => ?_, ?_⟩
  · rcases k.2.1 i hi with h1 | h1
    · exact h.2.1 i h1
    · exact .inr (Nat.le_trans h.2.2.size h1)
  · refine ⟨k.2.2.os.trans h.2.2.os, k.2.2.tape.trans h.2.2.tape, k.2.2.output.trans h.2.2.output, Nat.le_trans h.2.2.size k.2.2.size, fun i hi hn => ?_⟩
    refine (k.2.2.block i (Nat.lt_of_lt_of_le hi h.2.2.size) fun hg => ?_).trans (h.2.2.block i hi hn)
    rcases h.2.1 i hg with h1 | h1
    · exact hn h1
    · omega
theorem Mem.setEnd {w : World} {F : PF} {M : PM} (h : Mem w F M) (g cap : Nat) (f : Nat → Int) (hg : F.s ≠ g ∧ F.l ≠ g ∧ F.a ≠ g ∧ F.y ≠ g) (hr : RowAt w g (M.n * 8) f) :
    Mem (w.setCell ⟨F.a, 4, .none⟩ (.slice (some ⟨g, 0, .none⟩) M.n cap)) { F with e := g } { M with fin := some f } := by
  obtain ⟨k1, k2, k3, k4, k5, k6⟩ := h.kinds
  have other : ∀ i, i ≠ F.a → (w.setCell ⟨F.a, 4, .none⟩ (.slice (some ⟨g, 0, .none⟩) M.n cap)).heap[i]? = w.heap[i]? := fun i hi => Below.heap_setCell w ⟨F.a, 4, .none⟩ _ i hi
  obtain ⟨cs, cl, ce, h1, h2, h3⟩ := h.blk
  refine ⟨⟨cs, cl, cap, h1, h2, heap_setCell_same w F.a 4 _ _ _ h3⟩, h.seen.same (other _ (Ne.symm k1)), h.lasts.same (other _ (Ne.symm k2)), fun f' hf => ?_, ?_, ⟨h.apart.1, hg.1, hg.2.1⟩, h.size, fun e => (by cases e)⟩
  · injection hf with hf
    subst hf
    exact hr.same (other _ (Ne.symm hg.2.2.1))
  · obtain ⟨D, h4, h5⟩ := h.way
    exact ⟨D, h4, way_same h5 (other _ (Ne.symm k3))⟩
set_option maxHeartbeats 1000000 in
theorem mark_any (F : PF) (M : PM) (w : World) (h : Mem w F M) :
    Calls Try.prog 48 #[.pointer (some ⟨F.a, 0, .none⟩)] w fun e w' => e = .returned (.tuple #[]) ∧ ∃ F', Mem w' F' M.marked ∧ Op F F' w w' := by
  obtain ⟨cs, cl, ce, hcs, hcl, c0, _, _, c3, c4, _, _, hfz⟩ := h.cells
  have f4 := hfz 4
  have HM := Lib.hid h
  have hsz := h.size
  clear hfz
  obtain ⟨fu, hfu⟩ : ∃ x, M.fuse = x := ⟨_, rfl⟩
  rw [hfu] at c3
  have HF := Lib.hid hfu
  clear h hfu
  by_cases h0 : fu = 0
  · subst h0
    have hmk : M.marked = { M with fin := some M.seen } := by unfold PM.marked; rw [if_pos HF.out]
    rw [hmk]
    go_enter Try.func48, Try.ntmps48
    go_wp2_with fail
    refine (clone_any F.s M.n cs M.seen w HM.out.seen hsz.1 hsz.2).mono ?_
    rintro e w1 ⟨g, cap, rfl, hcap, hg, hrow, hb⟩
    have hin := HM.out.in_heap
    have hm1 : Mem w1 F M := HM.out.below hb
    have ge : ∀ k, F.has k → k ≠ g := fun k hk e => by have := hin k hk; omega
    have hm2 := hm1.setEnd g cap M.seen ⟨ge _ (.inr (.inl rfl)), ge _ (.inr (.inr (.inl rfl))), ge _ (.inl rfl), ge _ (.inr (.inr (.inr (.inl rfl))))⟩ hrow
    have hop : Op F { F with e := g } w (w1.setCell ⟨F.a, 4, .none⟩ (.slice (some ⟨g, 0, .none⟩) M.n cap)) := by
      refine ⟨rfl, fun k hk => ?_, (Below.only hb F.has).setCell (.inl (.inl rfl)) _⟩
      rcases hk with h | h | h | h | h
      · exact .inl (.inl h)
      · exact .inl (.inr (.inl h))
      · exact .inl (.inr (.inr (.inl h)))
      · exact .inl (.inr (.inr (.inr (.inl h))))
      · exact .inr (by rw [h]; exact hg)
    obtain ⟨cs1, cl1, ce1, _, _, _, _, _, _, d4, _, _, hfz1⟩ := hm1.cells
    have g4 := hfz1 4
    have HM2 := Lib.hid hm2
    have HOP := Lib.hid hop
    clear hb hm1 ge hm2 hop hfz1 hin hrow
    go_wp2_with fail
    go_end0
    exact ⟨rfl, _, HM2.out, HOP.out⟩
  · have hmk : M.marked = M := by unfold PM.marked; rw [if_neg (by rw [HF.out]; exact h0)]
    rw [hmk]
    have q0 : (fu == 0) = false := by rw [beq_eq_false_iff_ne]; exact h0
    go_enter Try.func48, Try.ntmps48
    go_wp2_with fail
    go_end0
    exact ⟨rfl, F, HM.out, Op.of_only (Only.refl _ _)⟩
end Go.Proofs.Ytbflennacniacaa
