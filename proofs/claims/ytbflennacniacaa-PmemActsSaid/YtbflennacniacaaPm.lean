/- pmem.Mem: what it is in memory. -/
import Derived.Test.YtbflennacniacaaConv
import Derived.Maps.OwnOps
import Derived.Maps.Views
import Derived.Laws.OwnMore
import Derived.OwnWalk
import Derived.WalkKit
namespace Go.Proofs.Ytbflennacniacaa
open Go.RowKit
set_option linter.unusedVariables false
/-- A row of words in a block. -/
def RowAt (w : World) (b N : Nat) (f : Nat → Int) : Prop :=
  ∃ cur : Array Value, w.heap[b]? = some (.cells cur 78 (0, 0)) ∧ ∀ j, j < N → cur[j]? = some (.int .u64 (f j))
theorem RowAt.cell {w : World} {b N : Nat} {f : Nat → Int} (h : RowAt w b N f) (j : Nat) (hj : j < N) : w.cell? ⟨b, j, .none⟩ = some (.int .u64 (f j)) := by
  obtain ⟨cur, hh, hc⟩ := h
  rw [cell_of_row w b j cur _ (0, 0) hh]
  exact hc j hj
theorem RowAt.frozen {w : World} {b N : Nat} {f : Nat → Int} (h : RowAt w b N f) (j : Nat) : w.frozen? ⟨b, j, .none⟩ = false := by
  obtain ⟨cur, hh, hc⟩ := h
  exact frozen_of_row w b j cur _ hh
theorem RowAt.lt {w : World} {b N : Nat} {f : Nat → Int} (h : RowAt w b N f) : b < w.heap.size := by
  obtain ⟨cur, hh, hc⟩ := h
  exact (Array.getElem?_eq_some_iff.1 hh).1
theorem RowAt.same {w w' : World} {b N : Nat} {f : Nat → Int} (h : RowAt w b N f) (hb : w'.heap[b]? = w.heap[b]?) : RowAt w' b N f := by
  obtain ⟨cur, hh, hc⟩ := h
  exact ⟨cur, hb.trans hh, hc⟩
def updI (f : Nat → Int) (j : Nat) (v : Int) : Nat → Int := fun i => if i = j then v else f i
theorem RowAt.set {w : World} {b N : Nat} {f : Nat → Int} (h : RowAt w b N f) (j : Nat) (v : Int) : RowAt (w.setCell ⟨b, j, .none⟩ (.int .u64 v)) b N (updI f j v) := by
  obtain ⟨cur, hh, hc⟩ := h
  refine ⟨_, heap_setCell_same w b j cur _ (.int .u64 v) hh, fun i hi => ?_⟩
  have h1 := hc i hi
  rw [Array.getElem?_setIfInBounds]
  unfold updI
  have hlt : i < cur.size := (Array.getElem?_eq_some_iff.1 h1).1
  by_cases e : j = i
  · subst e
    simp [hlt]
  · rw [if_neg e, h1, if_neg (fun h => e h.symm)]
/-- What memory is: words that are seen, that last; lines on their way; a fuse; what was seen at its end; counters; how many entries the map may have. -/
structure PM where
  n : Nat
  seen : Nat → Int
  lasts : Nat → Int
  way : Nat → Option (Nat → Int)
  fuse : Int
  fin : Option (Nat → Int)
  steps : Nat
  stores : Nat
  cnt : Nat
/-- Its blocks. -/
structure PF where
  a : Nat
  s : Nat
  l : Nat
  y : Nat
  e : Nat
def lineV (g : Nat → Int) : Value := .agg #[.int .u64 (g 0), .int .u64 (g 1), .int .u64 (g 2), .int .u64 (g 3), .int .u64 (g 4), .int .u64 (g 5), .int .u64 (g 6), .int .u64 (g 7)]
def boxV (g : Nat → Int) : Value := .iface 78 (lineV g)
def goneV : Value := .iface 94 (.agg #[])
/-- How an element of 'way' reads: as itself. -/
def heldR (v : Value) : Option (DataW Value × List MemPlace) := some (.held v, [])
def WayRel (D : DataW Value) (n : Nat) (way : Nat → Option (Nat → Int)) : Prop :=
  Go.Maps.IsMap D ∧ (∀ kl, Go.Maps.has D kl = true → ∃ i : Nat, kl = .int .i64 i ∧ i < n) ∧
  ∀ i : Nat, match way i with
    | some g => Go.Maps.has D (.int .i64 i) = true ∧ ∀ z, D.atKey (.int .i64 i) z = .held (boxV g)
    | none => Go.Maps.has D (.int .i64 i) = true → ∀ z, D.atKey (.int .i64 i) z = .held goneV
def endV (fin : Option (Nat → Int)) (e n ce : Nat) : Value := match fin with | some _ => .slice (some ⟨e, 0, .none⟩) n ce | none => .slice .none 0 0
structure Mem (w : World) (F : PF) (M : PM) : Prop where
  blk : ∃ cs cl ce : Nat, M.n ≤ cs ∧ M.n ≤ cl ∧ w.heap[F.a]? = some (.cells #[.slice (some ⟨F.s, 0, .none⟩) M.n cs, .slice (some ⟨F.l, 0, .none⟩) M.n cl, .map (some F.y), .int .i64 M.fuse,
    (endV M.fin F.e M.n ce), .int .i64 (M.steps : Nat), .int .i64 (M.stores : Nat)] 75 (0, 0))
  seen : RowAt w F.s (M.n * 8) M.seen
  lasts : RowAt w F.l (M.n * 8) M.lasts
  fin : ∀ g, M.fin = some g → RowAt w F.e (M.n * 8) g
  way : ∃ D, WayRel D M.n M.way ∧ w.ownsMap Try.prog 3 heldR F.y M.cnt D
  apart : F.s ≠ F.l ∧ F.s ≠ F.e ∧ F.l ≠ F.e
  size : 1 ≤ M.n ∧ M.n ≤ 8192
  idle : M.fin = none → F.e = F.a
set_option maxHeartbeats 1000000 in
theorem words_any (F : PF) (M : PM) (w : World) (h : Mem w F M) :
    Calls Try.prog 23 #[.pointer (some ⟨F.a, 0, .none⟩)] w fun e w' => e = .returned (.int .i64 (M.n * 8 : Nat)) ∧ w = w' := by
  obtain ⟨cs, cl, ce, hcs, hcl, hb⟩ := h.blk
  have hsz := h.size
  have c0 := cell_of_row w F.a 0 _ _ (0, 0) hb
  simp only [List.getElem?_toArray] at c0
  clear h hb
  go_enter Try.func23, Try.ntmps23
  go_wp2_with fail
  go_ret
  exact ⟨rfl, rfl⟩
end Go.Proofs.Ytbflennacniacaa
