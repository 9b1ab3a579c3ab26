/- pmem.Mem: what stays, what a store into it makes of it. -/
import Derived.Test.YtbflennacniacaaPmLoad
namespace Go.Proofs.Ytbflennacniacaa
open Go.RowKit
set_option linter.unusedVariables false
/-- Blocks outside S stay. -/
structure Only (S : Nat → Prop) (w w' : World) : Prop where
  os : w'.os = w.os
  tape : w'.tape = w.tape
  output : w'.output = w.output
  size : w.heap.size ≤ w'.heap.size
  block : ∀ k, k < w.heap.size → ¬ S k → w'.heap[k]? = w.heap[k]?
theorem Only.refl (S : Nat → Prop) (w : World) : Only S w w := ⟨rfl, rfl, rfl, Nat.le_refl _, fun _ _ _ => rfl⟩
theorem Only.trans {S : Nat → Prop} {a b c : World} (h : Only S a b) (k : Only S b c) : Only S a c :=
  ⟨k.os.trans h.os, k.tape.trans h.tape, k.output.trans h.output, Nat.le_trans h.size k.size, fun i hi hs => (k.block i (Nat.lt_of_lt_of_le hi h.size) hs).trans (h.block i hi hs)⟩
theorem Only.alloc {S : Nat → Prop} {a w : World} (h : Only S a w) (o : Obj) : Only S a (w.alloc o) :=
  ⟨h.os, h.tape, h.output, Nat.le_trans h.size (by simp), fun i hi hs => (Below.heap_alloc w o i (Nat.lt_of_lt_of_le hi h.size)).trans (h.block i hi hs)⟩
theorem Only.setCell {S : Nat → Prop} {a w : World} (h : Only S a w) {p : Addr} (hp : S p.block ∨ a.heap.size ≤ p.block) (u : Value) : Only S a (w.setCell p u) :=
  ⟨h.os, h.tape, h.output, Nat.le_trans h.size (by simp), fun i hi hs => (Below.heap_setCell w p u i (fun e => by rcases hp with hp | hp; exact hs (e ▸ hp); omega)).trans (h.block i hi hs)⟩
theorem Only.mono {S T : Nat → Prop} {w w' : World} (h : Only S w w') (hst : ∀ k, k < w.heap.size → S k → T k) : Only T w w' :=
  ⟨h.os, h.tape, h.output, h.size, fun k hk hn => h.block k hk fun hs => hn (hst k hk hs)⟩
theorem Only.grown {S : Nat → Prop} {a w w' : World} {row : Option Nat} (h : Only S a w) (hg : w.grownBy w' row) (hr : ∀ k, row = some k → S k ∨ a.heap.size ≤ k) : Only S a w' :=
  ⟨hg.os.trans h.os, hg.tape.trans h.tape, hg.output.trans h.output, Nat.le_trans h.size hg.size, fun i hi hs =>
    (hg.block i (Nat.lt_of_lt_of_le hi h.size) (fun e => by rcases hr i e.symm with h1 | h1; exact hs h1; omega)).trans (h.block i hi hs)⟩
theorem Only.drewN {S : Nat → Prop} {a w : World} (h : Only S a w) (n : Nat) : Only S a (w.drewN n) := ⟨h.os, h.tape, h.output, h.size, h.block⟩
theorem Only.below {S : Nat → Prop} {B : Nat} {w w' : World} (h : Only S w w') (hB : B ≤ w.heap.size) (hs : ∀ k, S k → B ≤ k) : Below B w w' :=
  ⟨h.os, h.tape, h.output, h.size, fun k hk => h.block k (by omega) fun hk2 => by have := hs k hk2; omega⟩
theorem Below.only {w w' : World} (h : Below w.heap.size w w') (S : Nat → Prop) : Only S w w' := ⟨h.os, h.tape, h.output, h.size, fun k hk _ => h.block k hk⟩
theorem Only.cell {S : Nat → Prop} {w w' : World} (h : Only S w w') {p : Addr} {v : Value} (hc : w.cell? p = some v) (hs : ¬ S p.block) : w'.cell? p = some v :=
  (World.cell?_of_block (h.block p.block (World.block_lt_of_cell? w p hc) hs)).trans hc
def PF.has (F : PF) (k : Nat) : Prop := k = F.a ∨ k = F.s ∨ k = F.l ∨ k = F.y ∨ k = F.e
theorem Mem.same {w w' : World} {F : PF} {M : PM} (h : Mem w F M) (hb : ∀ k, F.has k → w'.heap[k]? = w.heap[k]?) : Mem w' F M where
  blk := by obtain ⟨cs, cl, ce, h1, h2, h3⟩ := h.blk; exact ⟨cs, cl, ce, h1, h2, (hb _ (.inl rfl)).trans h3⟩
  seen := h.seen.same (hb _ (.inr (.inl rfl)))
  lasts := h.lasts.same (hb _ (.inr (.inr (.inl rfl))))
  fin := fun g hg => (h.fin g hg).same (hb _ (.inr (.inr (.inr (.inr rfl)))))
  way := by
    obtain ⟨D, h1, es, clock, h2, h3⟩ := h.way
    exact ⟨D, h1, es, clock, (hb _ (.inr (.inr (.inr (.inl rfl))))).trans h2, h3⟩
  apart := h.apart
  size := h.size
  idle := h.idle
theorem Mem.drew {w : World} {F : PF} {M : PM} (h : Mem w F M) : Mem w.drew F M := h.same fun _ _ => rfl
theorem Mem.drewN {w : World} {F : PF} {M : PM} (h : Mem w F M) (n : Nat) : Mem (w.drewN n) F M := h.same fun _ _ => rfl
theorem Mem.in_heap {w : World} {F : PF} {M : PM} (h : Mem w F M) : ∀ k, F.has k → k < w.heap.size := by
  obtain ⟨cs, cl, ce, _, _, h3⟩ := h.blk
  obtain ⟨D, _, h4⟩ := h.way
  have ha := (Array.getElem?_eq_some_iff.1 h3).1
  intro k hk
  rcases hk with rfl | rfl | rfl | rfl | rfl
  · exact ha
  · exact h.seen.lt
  · exact h.lasts.lt
  · exact h4.lt
  · cases hf : M.fin with
    | none => rw [h.idle hf]; exact ha
    | some g => exact (h.fin g hf).lt
theorem Mem.below {w w' : World} {F : PF} {M : PM} (h : Mem w F M) (hb : Below w.heap.size w w') : Mem w' F M := h.same fun k hk => hb.block k (h.in_heap k hk)
/-- The blocks' kinds are not one. -/
theorem Mem.kinds {w : World} {F : PF} {M : PM} (h : Mem w F M) : F.a ≠ F.s ∧ F.a ≠ F.l ∧ F.a ≠ F.y ∧ F.y ≠ F.s ∧ F.y ≠ F.l ∧ (∀ g, M.fin = some g → F.a ≠ F.e ∧ F.y ≠ F.e) := by
  obtain ⟨cs, cl, ce, _, _, h3⟩ := h.blk
  obtain ⟨c1, hs, _⟩ := h.seen
  obtain ⟨c2, hl, _⟩ := h.lasts
  obtain ⟨D, _, es, clock, hy, _⟩ := h.way
  refine ⟨fun e => ?_, fun e => ?_, fun e => ?_, fun e => ?_, fun e => ?_, fun g hg => ?_⟩
  · rw [e, hs] at h3
    injection h3 with h3
    injection h3 with _ h3 _
    exact absurd h3 (by decide)
  · rw [e, hl] at h3
    injection h3 with h3
    injection h3 with _ h3 _
    exact absurd h3 (by decide)
  · rw [e, hy] at h3
    injection h3 with h3
    cases h3
  · rw [e, hs] at hy
    injection hy with hy
    cases hy
  · rw [e, hl] at hy
    injection hy with hy
    cases hy
  · obtain ⟨c3, he, _⟩ := h.fin g hg
    refine ⟨fun e => ?_, fun e => ?_⟩
    · rw [e, he] at h3
      injection h3 with h3
      injection h3 with _ h3 _
      exact absurd h3 (by decide)
    · rw [e, he] at hy
      injection hy with hy
      cases hy
theorem way_same {w w' : World} {b n : Nat} {D : DataW Value} (h : w.ownsMap Try.prog 3 heldR b n D) (hb : w'.heap[b]? = w.heap[b]?) : w'.ownsMap Try.prog 3 heldR b n D := by
  obtain ⟨es, clock, h2, h3⟩ := h
  exact ⟨es, clock, hb.trans h2, h3⟩
/-- A store into the struct. -/
theorem Mem.setA {w : World} {F : PF} {M M' : PM} (h : Mem w F M) (k : Nat) (u : Value) (hn : M'.n = M.n) (hseen : M'.seen = M.seen) (hlasts : M'.lasts = M.lasts) (hway : M'.way = M.way) (hfin : M'.fin = M.fin) (hst : M.cnt ≤ M'.cnt)
    (hb : ∀ (cs cl ce : Nat), M.n ≤ cs → M.n ≤ cl → (#[.slice (some ⟨F.s, 0, .none⟩) M.n cs, .slice (some ⟨F.l, 0, .none⟩) M.n cl, .map (some F.y), .int .i64 M.fuse,
      (endV M.fin F.e M.n ce), .int .i64 (M.steps : Nat), .int .i64 (M.stores : Nat)] : Array Value).setIfInBounds k u =
      #[.slice (some ⟨F.s, 0, .none⟩) M'.n cs, .slice (some ⟨F.l, 0, .none⟩) M'.n cl, .map (some F.y), .int .i64 M'.fuse,
      (endV M'.fin F.e M'.n ce), .int .i64 (M'.steps : Nat), .int .i64 (M'.stores : Nat)]) :
    Mem (w.setCell ⟨F.a, k, .none⟩ u) F M' := by
  obtain ⟨k1, k2, k3, k4, k5, k6⟩ := h.kinds
  have other : ∀ j, j ≠ F.a → (w.setCell ⟨F.a, k, .none⟩ u).heap[j]? = w.heap[j]? := fun j hj => Below.heap_setCell w ⟨F.a, k, .none⟩ u j hj
  obtain ⟨cs, cl, ce, h1, h2, h3⟩ := h.blk
  refine ⟨⟨cs, cl, ce, by omega, by omega, ?_⟩, ?_, ?_, fun g hg => ?_, ?_, h.apart, by rw [hn]; exact h.size, by rw [hfin]; exact h.idle⟩
  · rw [heap_setCell_same w F.a k _ _ u h3, hb cs cl ce h1 h2]
  · rw [hn, hseen]; exact h.seen.same (other _ (Ne.symm k1))
  · rw [hn, hlasts]; exact h.lasts.same (other _ (Ne.symm k2))
  · rw [hfin] at hg
    rw [hn]; exact (h.fin g hg).same (other _ (Ne.symm (k6 g hg).1))
  · obtain ⟨D, h4, h5⟩ := h.way
    rw [hn, hway]
    exact ⟨D, h4, (way_same h5 (other _ (Ne.symm k3))).mono hst⟩
theorem Mem.setSteps {w : World} {F : PF} {M : PM} (h : Mem w F M) : Mem (w.setCell ⟨F.a, 5, .none⟩ (.int .i64 ((M.steps : Int) + 1))) F { M with steps := M.steps + 1 } :=
  h.setA 5 _ rfl rfl rfl rfl rfl (Nat.le_refl _) fun cs cl ce _ _ => rfl
theorem Mem.setStores {w : World} {F : PF} {M : PM} (h : Mem w F M) : Mem (w.setCell ⟨F.a, 6, .none⟩ (.int .i64 ((M.stores : Int) + 1))) F { M with stores := M.stores + 1 } :=
  h.setA 6 _ rfl rfl rfl rfl rfl (Nat.le_refl _) fun cs cl ce _ _ => rfl
theorem Mem.setFuse {w : World} {F : PF} {M : PM} (h : Mem w F M) (x : Int) : Mem (w.setCell ⟨F.a, 3, .none⟩ (.int .i64 x)) F { M with fuse := x } :=
  h.setA 3 _ rfl rfl rfl rfl rfl (Nat.le_refl _) fun cs cl ce _ _ => rfl
/-- A word that is stored. -/
theorem Mem.setSeen {w : World} {F : PF} {M : PM} (h : Mem w F M) (j : Nat) (v : Int) : Mem (w.setCell ⟨F.s, j, .none⟩ (.int .u64 v)) F { M with seen := updI M.seen j v } := by
  obtain ⟨k1, k2, k3, k4, k5, k6⟩ := h.kinds
  obtain ⟨a1, a2, a3⟩ := h.apart
  have other : ∀ i, i ≠ F.s → (w.setCell ⟨F.s, j, .none⟩ (.int .u64 v)).heap[i]? = w.heap[i]? := fun i hi => Below.heap_setCell w ⟨F.s, j, .none⟩ _ i hi
  obtain ⟨cs, cl, ce, h1, h2, h3⟩ := h.blk
  refine ⟨⟨cs, cl, ce, h1, h2, (other _ k1).trans h3⟩, h.seen.set j v, h.lasts.same (other _ (Ne.symm a1)), fun g hg => (h.fin g hg).same (other _ (Ne.symm a2)), ?_, h.apart, h.size, h.idle⟩
  obtain ⟨D, h4, h5⟩ := h.way
  exact ⟨D, h4, way_same h5 (other _ k4)⟩
theorem eql_slice_nil {P : Program} (t e : TypeId) (h : P.underlying t = some (.slice e)) (a : Option Addr) (l c : Nat) (w : World) : (binOp .eql t (.slice a l c) (.slice .none 0 0)).run P w = .ok (.bool a.isNone) w := by
  simp only [binOp]
  simp [run_equal_slice_nil w t e a l c h]
theorem neq_slice_nil {P : Program} (t e : TypeId) (h : P.underlying t = some (.slice e)) (a : Option Addr) (l c : Nat) (w : World) : (binOp .neq t (.slice a l c) (.slice .none 0 0)).run P w = .ok (.bool (!a.isNone)) w := run_neq_slice_nil w t e a l c h
end Go.Proofs.Ytbflennacniacaa
