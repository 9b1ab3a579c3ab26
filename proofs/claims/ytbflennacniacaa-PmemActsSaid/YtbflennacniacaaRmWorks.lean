/- concourseref1.Mem: works, mark, Store, each by its contract. -/
import Derived.Test.YtbflennacniacaaRm
namespace Go.Proofs.Ytbflennacniacaa
open Go.RowKit
set_option linter.unusedVariables false
def OpR (F F' : RF) (w w' : World) : Prop := F'.a = F.a ∧ (∀ k, F'.has k → F.has k ∨ w.heap.size ≤ k) ∧ Only F.has w w'
theorem OpR.of_only {F : RF} {w w' : World} (h : Only F.has w w') : OpR F F w w' := ⟨rfl, fun k hk => .inl hk, h⟩
theorem OpR.trans {F G H : RF} {a b c : World} (h : OpR F G a b) (k : OpR G H b c) : OpR F H a c := by
  refine ⟨k.1.trans h.1, fun i hi => ?_, ?_⟩
  · rcases k.2.1 i hi with h1 | h1
    · exact h.2.1 i h1
    · exact .inr (Nat.le_trans h.2.2.size h1)
  · refine ⟨k.2.2.os.trans h.2.2.os, k.2.2.tape.trans h.2.2.tape, k.2.2.output.trans h.2.2.output, Nat.le_trans h.2.2.size k.2.2.size, fun i hi hn => ?_⟩
    refine (k.2.2.block i (Nat.lt_of_lt_of_le hi h.2.2.size) fun hg => ?_).trans (h.2.2.block i hi hn)
    rcases h.2.1 i hg with h1 | h1
    · exact hn h1
    · omega
set_option maxHeartbeats 1000000 in
theorem works_any (F : RF) (M : RM) (w : World) (h : RMem w F M) (hs : M.steps ≤ 1099511627776) (hl : wf64 M.left) :
    Calls Try.prog 60 #[.pointer (some ⟨F.a, 0, .none⟩)] w fun e w' => e = .returned (.bool M.power) ∧ RMem w' F M.worked ∧ Only F.has w w' := by
  obtain ⟨cs, cl, cy, cg, ce, _, _, _, _, c0, c1, c2, c3, c4, c5, c6, c7, c8, hfz⟩ := h.cells
  have f5 := hfz 5
  have f7 := hfz 7
  have h1 := h.setSteps
  obtain ⟨_, _, _, _, _, _, _, _, _, _, _, _, _, d4, d5, _, _, _, hfz1⟩ := h1.cells
  have g5 := hfz1 5
  have ho : Only F.has w (w.setCell ⟨F.a, 7, .none⟩ (.int .i64 ((M.steps : Int) + 1))) := (Only.refl _ _).setCell (.inl (.inl rfl)) _
  have h2 := h1.setLeft (M.left - 1)
  have ho2 := ho.setCell (p := ⟨F.a, 5, .none⟩) (.inl (.inl rfl)) (.int .i64 (M.left - 1))
  have H1 := Lib.hid h1
  have H2 := Lib.hid h2
  have HO := Lib.hid ho
  have HO2 := Lib.hid ho2
  clear hfz hfz1 h h1 h2 ho ho2
  obtain ⟨st, hst⟩ : ∃ x, M.steps = x := ⟨_, rfl⟩
  obtain ⟨lf, hlf⟩ : ∃ x, M.left = x := ⟨_, rfl⟩
  obtain ⟨fu, hfu⟩ : ∃ x, M.fuse = x := ⟨_, rfl⟩
  have hp : M.power = (!fu || decide (0 < lf)) := by unfold RM.power; rw [hfu, hlf]
  have hw : M.worked = if fu = true ∧ 0 < lf then { M with steps := M.steps + 1, left := M.left - 1 } else { M with steps := M.steps + 1 } := by unfold RM.worked; rw [hfu, hlf]
  rw [hp, hw]
  simp only [hst, hlf, hfu] at c4 c5 c7 d4 d5 hs hl H1 H2 HO HO2 ⊢
  clear hp hw
  have HF := Lib.hid hfu
  clear hst hlf hfu
  have hl0 := hl
  unfold wf64 at hl
  have i1 : IntKind.i64.wrap ((st : Int) + 1) = (st : Int) + 1 := by rw [IntKind.wrap_i64]; omega
  by_cases hf : fu = true
  · subst hf
    by_cases h0 : 0 < lf
    · have q1 : decide (0 < lf) = true := by simpa using h0
      have i2 : IntKind.i64.wrap (lf - 1) = lf - 1 := by rw [IntKind.wrap_i64]; omega
      go_enter Try.func60, Try.ntmps60
      go_wp2_with fail
      go_ret
      exact ⟨rfl, H2.out, HO2.out⟩
    · have q1 : decide (0 < lf) = false := by simp; omega
      go_enter Try.func60, Try.ntmps60
      go_wp2_with fail
      go_ret
      exact ⟨rfl, H1.out, HO.out⟩
  · obtain rfl : fu = false := by simpa using hf
    go_enter Try.func60, Try.ntmps60
    go_wp2_with fail
    go_ret
    exact ⟨rfl, H1.out, HO.out⟩
/-- What is seen at the fuse's end, once. -/
def RM.marked (M : RM) : RM := if M.fuse = true ∧ M.left = 0 ∧ M.fin = none then { M with fin := some M.seen } else M
theorem infoWord : (Try.prog.info? 29).map (fun i => (i.zero, i.size, i.bytes)) = some (some (.int .u64 0), 1, 8) := by kernel_rfl
theorem infoFlag : (Try.prog.info? 4).map (fun i => (i.zero, i.size, i.bytes)) = some (some (.bool false), 1, 1) := by kernel_rfl
theorem row_made1 (w : World) (t : TypeId) : (w.alloc (.cells #[] t)).ownsRow w.heap.size t 1 (.slice (some ⟨w.heap.size, 0, .none⟩) 0 0) 0 [] :=
  ⟨rfl, Or.inr ⟨w.heap.size, 0, #[], rfl, Nat.le_refl _, heap_alloc_new w _, Nat.le_refl _, Nat.zero_le _, rfl, rfl⟩⟩
def valsN (N : Nat) (f : Nat → Value) : List Value := (List.range N).map f
theorem RowT.of_owns {w : World} {t : TypeId} {base n : Nat} {v : Value} {f : Nat → Value} (h : w.ownsRow base t 1 v n (valsN n f)) (hn : 1 ≤ n) :
    ∃ g cap, v = .slice (some ⟨g, 0, .none⟩) n cap ∧ base ≤ g ∧ n ≤ cap ∧ RowT w t g n f := by
  rcases h.2 with ⟨_, h0⟩ | ⟨g, cap, cur, hv, hb, hg, hnc, hcm, hcs, htk⟩
  · omega
  · refine ⟨g, cap, hv, hb, hnc, cur, hg, fun j hj => ?_⟩
    have h1 : (valsN n f)[j]? = some (f j) := by simp [valsN, hj]
    rw [← htk, List.getElem?_take, if_pos (by omega)] at h1
    simpa using h1
/-- 'append([]T{}, s...)': a row of its own that reads alike. -/
theorem wpList_copied {ops : Array Oper} {rest : List Oper} {o : Oper} {a : Act} {Q : Exit → Act → World → Prop} (w0 : World) (hgd : o.guard = none) (s x : Operand) (t : TypeId)
    (ho : o.op = .call { callee := .builtin .append, args := #[s, x], argTypes := #[t, t] }) (e : TypeId) (i0 : TypeInfo) (z : Value) (bytes : Nat) (ht : Try.prog.underlying t = some (.slice e)) (hi : Try.prog.info? e = some i0) (hz : i0.zero = some z)
    (hsize : i0.size = 1) (hby : i0.bytes = bytes) (hzs : z.cells.size = 1) (hb8 : bytes ≤ 8) (b n cs : Nat) (f : Nat → Value) (hrow : RowT w0 e b n f) (h1 : 1 ≤ n) (h2 : n ≤ 65536) (hone : ∀ j, (f j).oneCell' = true)
    (hs : a.eval s = .slice (some ⟨w0.heap.size, 0, .none⟩) 0 0) (hx : a.eval x = .slice (some ⟨b, 0, .none⟩) n cs)
    (h : ∀ g cap w', w0.heap.size ≤ g → n ≤ cap → Hid (RowT w' e g n f) → Hid (Below w0.heap.size w0 w') → wpList Try.prog ops Q rest (a.put o.dst (.slice (some ⟨g, 0, .none⟩) n cap)) w') :
    wpList Try.prog ops Q (o :: rest) a (w0.alloc (.cells #[] e)) := by
  have hal : Below w0.heap.size w0 (w0.alloc (.cells #[] e)) := (Below.refl _ _).alloc (Nat.le_refl _) _
  have hmade := row_made1 w0 e
  refine wpList_append_own _ hgd s x t ho w0.heap.size e i0 z 1 bytes ht hi hz hsize hby hzs (by decide) _ 0 [] hs hmade ⟨b, 0, .none⟩ n cs (valsN n f) hx (by simp [valsN]) ?_ ?_ ?_ ?_ hal.size ?_
  · intro j u hu
    have hj : j < n := by
      have := (List.getElem?_eq_some_iff.1 hu).1
      simpa [valsN] using this
    rw [addr_pm, Nat.zero_add, (hrow.same (hal.block b hrow.lt)).cell j hj, ← hu]
    simp [valsN, hj]
  · intro u hu
    obtain ⟨j, _, rfl⟩ := List.mem_map.1 hu
    exact hone j
  · unfold maxLen; omega
  · have : (0 + n) * bytes ≤ (0 + n) * 8 := Nat.mul_le_mul_left _ hb8
    omega
  · intro v' w2 hown hgrow _
    have hown2 : w2.ownsRow w0.heap.size e 1 v' n (valsN n f) := by simpa using hown
    obtain ⟨g, cap, rfl, hg, hcap, hr⟩ := RowT.of_owns hown2 h1
    exact h g cap w2 hg hcap (Lib.hid hr) (Lib.hid (hal.grown hgrow hal.size fun x hx => (hmade.lt x hx).1))
theorem RMem.setEnd {w : World} {F : RF} {M : RM} (h : RMem w F M) (g cap : Nat) (f : Nat → Int) (hcap : M.n * 8 ≤ cap) (hg : F.a ≠ g ∧ g ≠ F.s ∧ g ≠ F.l ∧ g ≠ F.y) (hr : RowT w 29 g (M.n * 8) (wordV f)) :
    RMem (w.setCell ⟨F.a, 6, .none⟩ (.slice (some ⟨g, 0, .none⟩) (M.n * 8 : Nat) cap)) { F with e := g } { M with fin := some f } := by
  obtain ⟨k1, k2, k3, k4, _, _, _, k6⟩ := h.kinds
  have other : ∀ i, i ≠ F.a → (w.setCell ⟨F.a, 6, .none⟩ (.slice (some ⟨g, 0, .none⟩) (M.n * 8 : Nat) cap)).heap[i]? = w.heap[i]? := fun i hi => Below.heap_setCell w ⟨F.a, 6, .none⟩ _ i hi
  obtain ⟨cs, cl, cy, cg, ce, h1, h2, h3, h4, h5⟩ := h.blk
  refine ⟨⟨cs, cl, cy, cg, cap, h1, h2, h3, ⟨h4.1, hcap⟩, heap_setCell_same w F.a 6 _ _ _ h5⟩, h.seen.same (other _ (Ne.symm k1)), h.last.same (other _ (Ne.symm k2)), h.way.same (other _ (Ne.symm k3)), h.going.same (other _ (Ne.symm k4)), fun f' hf => ?_, h.apart, h.size, fun e => (by cases e)⟩
  injection hf with hf
  subst hf
  exact ⟨hr.same (other _ (Ne.symm hg.1)), hg.2⟩
end Go.Proofs.Ytbflennacniacaa
