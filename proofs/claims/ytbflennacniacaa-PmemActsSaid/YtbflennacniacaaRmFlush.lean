/- concourseref1.Mem: Flush, by its contract. -/
import Derived.Test.YtbflennacniacaaRmFuse
namespace Go.Proofs.Ytbflennacniacaa
open Go.RowKit
set_option linter.unusedVariables false
/-- A line of one laid over another. -/
def laid (f g : Nat → Int) (k : Nat) : Nat → Int := fun j => if k * 8 ≤ j ∧ j < k * 8 + 8 then g j else f j
def updB (f : Nat → Bool) (k : Nat) (b : Bool) : Nat → Bool := fun j => if j = k then b else f j
def cut8 (f : Nat → Value) (k : Nat) : List Value := (List.range 8).map fun j => f (k * 8 + j)
theorem cut8_get (f : Nat → Value) (k j : Nat) (v : Value) (h : (cut8 f k)[j]? = some v) : j < 8 ∧ v = f (k * 8 + j) := by
  have hj : j < 8 := by
    have := (List.getElem?_eq_some_iff.1 h).1
    simpa [cut8] using this
  refine ⟨hj, ?_⟩
  simp [cut8, hj] at h
  exact h.symm
theorem RowT.laid {w : World} {t : TypeId} {b N : Nat} {f : Nat → Value} (g : Nat → Value) (k : Nat) (cur : Array Value) (hh : w.heap[b]? = some (.cells cur t (0, 0))) (hc : ∀ j, j < N → cur[j]? = some (f j)) (hk : k * 8 + 8 ≤ N) :
    RowT (w.setRow b (cur.toList.take (k * 8) ++ (cut8 g k ++ cur.toList.drop (k * 8 + (cut8 g k).length))).toArray) t b N (fun j => if k * 8 ≤ j ∧ j < k * 8 + 8 then g j else f j) := by
  have hN : N ≤ cur.size := by
    cases N with
    | zero => omega
    | succ m => exact (Array.getElem?_eq_some_iff.1 (hc m (by omega))).1
  have hl : (cut8 g k).length = 8 := by simp [cut8]
  refine ⟨_, setRow_heap w b _ _ t _ hh, fun j hj => ?_⟩
  rw [hl]
  have h1 := hc j hj
  rw [← Array.getElem?_toList] at h1
  simp only [List.getElem?_toArray]
  by_cases a1 : j < k * 8
  · rw [List.getElem?_append_left (by simp; omega), List.getElem?_take, if_pos a1, h1, if_neg (by omega)]
  · have l1 : (cur.toList.take (k * 8)).length = k * 8 := by simp; omega
    rw [List.getElem?_append_right (by omega), l1]
    by_cases a2 : j < k * 8 + 8
    · rw [List.getElem?_append_left (by omega), if_pos ⟨by omega, a2⟩]
      have hj8 : j - k * 8 < 8 := by omega
      have e1 : k * 8 + (j - k * 8) = j := by omega
      simp [cut8, hj8, e1]
    · rw [List.getElem?_append_right (by omega), hl, List.getElem?_drop, if_neg (by omega)]
      rw [show k * 8 + 8 + (j - k * 8 - 8) = j by omega]
      exact h1
theorem sizeWord : (Try.prog.info? 29).map (·.size) = some 1 := by kernel_rfl
theorem wpList_laid {ops : Array Oper} {rest : List Oper} {o : Oper} {a : Act} {Q : Exit → Act → World → Prop} (w : World) (hgd : o.guard = none) (d s : Operand) (dT sT : TypeId)
    (ho : o.op = .call { callee := .builtin .copy, args := #[d, s], argTypes := #[dT, sT] }) (hu : Try.prog.underlying dT = some (.slice 29)) (y b k N : Nat) (f g : Nat → Int) (hf : RowT w 29 y N (wordV f)) (hg : RowT w 29 b N (wordV g)) (hk : k * 8 + 8 ≤ N)
    (od os dl dc sl sc : Nat) (hd : a.eval d = .slice (some ⟨y, od, .none⟩) dl dc) (hs : a.eval s = .slice (some ⟨b, os, .none⟩) sl sc) (hod : od = k * 8) (hos : os = k * 8) (hdl : dl = 8) (hsl : 8 ≤ sl)
    (h : ∀ cs, Hid (RowT (w.setRow y cs) 29 y N (wordV (Go.Proofs.Ytbflennacniacaa.laid f g k))) → wpList Try.prog ops Q rest (a.put o.dst (goInt 8)) (w.setRow y cs)) :
    wpList Try.prog ops Q (o :: rest) a w := by
  subst hod hos hdl
  obtain ⟨cur, hh, hc⟩ := hf
  have hN : N ≤ cur.size := by
    cases N with
    | zero => omega
    | succ m => exact (Array.getElem?_eq_some_iff.1 (hc m (by omega))).1
  have hl : (cut8 (wordV g) k).length = 8 := by simp [cut8]
  have hrow := RowT.laid (wordV g) k cur hh hc hk
  refine wpList_copy_own hgd d s dT sT ho 29 hu sizeWord y (k * 8) 8 dc ⟨b, k * 8, .none⟩ sl sc hd hs cur 29 hh (cut8 (wordV g) k) (by rw [hl]; exact (Nat.min_eq_right hsl).symm) ?_ (by rw [hl]; omega) ?_ ?_
  · intro j v hv
    obtain ⟨hj, rfl⟩ := cut8_get _ _ _ _ hv
    rw [addr_pm]
    exact hg.cell _ (by omega)
  · intro v hv
    obtain ⟨j, _, rfl⟩ := List.mem_map.1 hv
    rfl
  · rw [hl]
    rw [hl] at hrow
    refine h _ (Lib.hid ?_)
    obtain ⟨c2, h2, h3⟩ := hrow
    refine ⟨c2, h2, fun j hj => ?_⟩
    rw [h3 j hj]
    show some (if k * 8 ≤ j ∧ j < k * 8 + 8 then Value.int .u64 (g j) else .int .u64 (f j)) = some (.int .u64 (if k * 8 ≤ j ∧ j < k * 8 + 8 then g j else f j))
    split <;> rfl
theorem step_laid {ops : Array Oper} {o : Oper} {a : Act} {w : World} {K : Act → World → Prop} {Q : Exit → Act → World → Prop} {E : Prop} (hgd : o.guard = none) (d s : Operand) (dT sT : TypeId)
    (ho : o.op = .call { callee := .builtin .copy, args := #[d, s], argTypes := #[dT, sT] }) (hu : Try.prog.underlying dT = some (.slice 29)) (y b k N : Nat) (f g : Nat → Int) (hf : RowT w 29 y N (wordV f)) (hg : RowT w 29 b N (wordV g)) (hk : k * 8 + 8 ≤ N)
    (od os dl dc sl sc : Nat) (hd : a.eval d = .slice (some ⟨y, od, .none⟩) dl dc) (hs : a.eval s = .slice (some ⟨b, os, .none⟩) sl sc) (hod : od = k * 8) (hos : os = k * 8) (hdl : dl = 8) (hsl : 8 ≤ sl)
    (h : ∀ cs, Hid (RowT (w.setRow y cs) 29 y N (wordV (Go.Proofs.Ytbflennacniacaa.laid f g k))) → K (a.put o.dst (goInt 8)) (w.setRow y cs)) :
    if Region.wanted o (yielded ops a.tmps) = true then Oper.wp Try.prog o a w K Q else E := by
  have hw : Region.wanted o (yielded ops a.tmps) = true := by simp [Region.wanted, hgd]
  rw [if_pos hw]
  subst hod hos hdl
  obtain ⟨cur, hh, hc⟩ := hf
  have hN : N ≤ cur.size := by
    cases N with
    | zero => omega
    | succ m => exact (Array.getElem?_eq_some_iff.1 (hc m (by omega))).1
  have hl : (cut8 (wordV g) k).length = 8 := by simp [cut8]
  have hrow := RowT.laid (wordV g) k cur hh hc hk
  have hrun := run_copy_row (P := Try.prog) w dT sT o.type 29 y (k * 8) 8 dc ⟨b, k * 8, .none⟩ sl sc cur 29 (cut8 (wordV g) k) hu sizeWord hh (by rw [hl]; exact (Nat.min_eq_right hsl).symm) (fun j v hv => by
    obtain ⟨hj, rfl⟩ := cut8_get _ _ _ _ hv
    rw [addr_pm]
    exact hg.cell _ (by omega)) (by rw [hl]; omega) (fun v hv => by
    obtain ⟨j, _, rfl⟩ := List.mem_map.1 hv
    rfl)
  rw [hl] at hrow hrun
  unfold Oper.wp
  simp [execOp, ho, resolve, invoke, builtin, hd, hs, hrun, Result.andThen]
  refine h _ (Lib.hid ?_)
  obtain ⟨c2, h2, h3⟩ := hrow
  refine ⟨c2, h2, fun j hj => ?_⟩
  rw [h3 j hj]
  show some (if k * 8 ≤ j ∧ j < k * 8 + 8 then Value.int .u64 (g j) else .int .u64 (f j)) = some (.int .u64 (if k * 8 ≤ j ∧ j < k * 8 + 8 then g j else f j))
  split <;> rfl
theorem Only.setRow {S : Nat → Prop} {a w : World} (h : Only S a w) {b : Nat} (hb : S b) (cs : Array Value) : Only S a (w.setRow b cs) :=
  ⟨h.os, h.tape, h.output, by simpa [World.setRow] using h.size, fun i hi hn => (setRow_other w b i cs (fun e => hn (by rw [e]; exact hb))).trans (h.block i hi hn)⟩
theorem RMem.setWay {w : World} {F : RF} {M : RM} (h : RMem w F M) (cs : Array Value) (f : Nat → Int) (hr : RowT (w.setRow F.y cs) 29 F.y (M.n * 8) (wordV f)) : RMem (w.setRow F.y cs) F { M with way := f } := by
  obtain ⟨k1, k2, k3, k4, k5, k6, k7, k8⟩ := h.kinds
  have other : ∀ i, i ≠ F.y → (w.setRow F.y cs).heap[i]? = w.heap[i]? := fun i hi => setRow_other w F.y i cs hi
  obtain ⟨c1, c2, c3, c4, ce, h1, h2, h3, h4, h5⟩ := h.blk
  exact ⟨⟨c1, c2, c3, c4, ce, h1, h2, h3, h4, (other _ k3).trans h5⟩, h.seen.same (other _ h.apart.2.1), h.last.same (other _ h.apart.2.2), hr, h.going.same (other _ k7), fun g hg => ⟨(h.fin g hg).1.same (other _ (h.fin g hg).2.2.2), (h.fin g hg).2⟩, h.apart, h.size, h.idle⟩
theorem RMem.setLast {w : World} {F : RF} {M : RM} (h : RMem w F M) (cs : Array Value) (f : Nat → Int) (hr : RowT (w.setRow F.l cs) 29 F.l (M.n * 8) (wordV f)) : RMem (w.setRow F.l cs) F { M with last := f } := by
  obtain ⟨k1, k2, k3, k4, k5, k6, k7, k8⟩ := h.kinds
  have other : ∀ i, i ≠ F.l → (w.setRow F.l cs).heap[i]? = w.heap[i]? := fun i hi => setRow_other w F.l i cs hi
  obtain ⟨c1, c2, c3, c4, ce, h1, h2, h3, h4, h5⟩ := h.blk
  exact ⟨⟨c1, c2, c3, c4, ce, h1, h2, h3, h4, (other _ k2).trans h5⟩, h.seen.same (other _ h.apart.1), hr, h.way.same (other _ (Ne.symm h.apart.2.2)), h.going.same (other _ k6), fun g hg => ⟨(h.fin g hg).1.same (other _ (h.fin g hg).2.2.1), (h.fin g hg).2⟩, h.apart, h.size, h.idle⟩
theorem RMem.setGoing {w : World} {F : RF} {M : RM} (h : RMem w F M) (k : Nat) (b : Bool) : RMem (w.setCell ⟨F.g, k, .none⟩ (.bool b)) F { M with going := updB M.going k b } := by
  obtain ⟨k1, k2, k3, k4, k5, k6, k7, k8⟩ := h.kinds
  have other : ∀ i, i ≠ F.g → (w.setCell ⟨F.g, k, .none⟩ (.bool b)).heap[i]? = w.heap[i]? := fun i hi => Below.heap_setCell w ⟨F.g, k, .none⟩ _ i hi
  obtain ⟨c1, c2, c3, c4, ce, h1, h2, h3, h4, h5⟩ := h.blk
  refine ⟨⟨c1, c2, c3, c4, ce, h1, h2, h3, h4, (other _ k4).trans h5⟩, h.seen.same (other _ (Ne.symm k5)), h.last.same (other _ (Ne.symm k6)), h.way.same (other _ (Ne.symm k7)), ?_, fun g hg => ⟨(h.fin g hg).1.same (other _ (Ne.symm (k8 g hg).2)), (h.fin g hg).2⟩, h.apart, h.size, h.idle⟩
  obtain ⟨cur, hh, hc⟩ := h.going.set k (.bool b)
  refine ⟨cur, hh, fun i hi => ?_⟩
  rw [hc i hi]
  show some (if i = k then Value.bool b else .bool (M.going i)) = some (.bool (if i = k then b else M.going i))
  split <;> rfl
end Go.Proofs.Ytbflennacniacaa
