/- journal.Journal.look: what it finds, in plain words; the head that it reads. -/
import Derived.Test.YtbflennacniacaaJoFlush
import Derived.Lib.AppendStr
import Derived.Deep.RegionHeld3
namespace Go.Proofs.Ytbflennacniacaa
open Go.RowKit
set_option linter.unusedVariables false
/-- Words of 64 bits. -/
def Words (f : Nat → Int) : Prop := ∀ i, 0 ≤ f i ∧ f i < 18446744073709551616
def magicN : Nat := 7165066905520534131
/-- What lies in an area of 'half' words at 'base'. -/
def textL (f : Nat → Nat) (base size : Nat) : List UInt8 := (digitsL ((List.range ((size + 7) / 8)).map fun i => f (base + 8 + i))).take size
def headOk (f : Nat → Nat) (base half : Nat) : Bool :=
  f base == magicN && (decide (f (base + 2) ≤ min ((half - 8) * 8) 65536) && sumN (digitsL [f base, f (base + 1), f (base + 2), f (base + 3)]) == f (base + 4))
def lookP (f : Nat → Nat) (base half : Nat) : Option (Nat × List UInt8) :=
  if headOk f base half && sumN (textL f base (f (base + 2))) == f (base + 3) then some (f (base + 1), textL f base (f (base + 2))) else none
def lookV : Option (Nat × List UInt8) → Value
  | none => .iface 105 (.agg #[])
  | some (t, s) => .iface 97 (.agg #[.int .u64 (t : Int), .string ⟨s.toArray⟩])
/-- A row of words in a block of type t. -/
def RowT (t : TypeId) (w : World) (b N : Nat) (f : Nat → Int) : Prop :=
  ∃ cur : Array Value, w.heap[b]? = some (.cells cur t (0, 0)) ∧ cur.size = N ∧ ∀ j, j < N → cur[j]? = some (.int .u64 (f j))
theorem RowT.cell {t : TypeId} {w : World} {b N : Nat} {f : Nat → Int} (h : RowT t w b N f) (j : Nat) (hj : j < N) : w.cell? ⟨b, j, .none⟩ = some (.int .u64 (f j)) := by
  obtain ⟨cur, hh, _, hc⟩ := h
  rw [cell_of_row w b j cur _ (0, 0) hh]
  exact hc j hj
theorem RowT.frozen {t : TypeId} {w : World} {b N : Nat} {f : Nat → Int} (h : RowT t w b N f) (j : Nat) : w.frozen? ⟨b, j, .none⟩ = false := by
  obtain ⟨cur, hh, _, _⟩ := h
  exact frozen_of_row w b j cur _ hh
theorem RowT.lt {t : TypeId} {w : World} {b N : Nat} {f : Nat → Int} (h : RowT t w b N f) : b < w.heap.size := by
  obtain ⟨cur, hh, _, _⟩ := h
  exact (Array.getElem?_eq_some_iff.1 hh).1
theorem RowT.below {t : TypeId} {w w' : World} {b N : Nat} {f : Nat → Int} (h : RowT t w b N f) (hb : Below w.heap.size w w') : RowT t w' b N f := by
  have hl := h.lt
  obtain ⟨cur, hh, hs, hc⟩ := h
  exact ⟨cur, (hb.block b hl).trans hh, hs, hc⟩
theorem RowT.drewN {t : TypeId} {w : World} {b N : Nat} {f : Nat → Int} (h : RowT t w b N f) (n : Nat) : RowT t (w.drewN n) b N f := h
theorem RowT.set {t : TypeId} {w : World} {b N : Nat} {f : Nat → Int} (h : RowT t w b N f) (j : Nat) (v : Int) : RowT t (w.setCell ⟨b, j, .none⟩ (.int .u64 v)) b N (updI f j v) := by
  obtain ⟨cur, hh, hs, hc⟩ := h
  refine ⟨_, heap_setCell_same w b j cur _ (.int .u64 v) hh, by simpa using hs, fun i hi => ?_⟩
  have h1 := hc i hi
  rw [Array.getElem?_setIfInBounds]
  unfold updI
  have hlt : i < cur.size := (Array.getElem?_eq_some_iff.1 h1).1
  by_cases e : j = i
  · subst e
    simp [hlt]
  · rw [if_neg e, h1, if_neg (fun h => e h.symm)]
/-- The head that was read so far. -/
def headI (f : Nat → Int) (base i : Nat) : Nat → Int := fun j => if j < i then f (base + j) else 0
theorem headI_upd (f : Nat → Int) (base i : Nat) : updI (headI f base i) i (f (base + i)) = headI f base (i + 1) := by
  funext j
  unfold updI headI
  by_cases e : j = i
  · subst e
    rw [if_pos rfl, if_pos (by omega)]
  · rw [if_neg e]
    have : (j < i ↔ j < i + 1) := by omega
    simp only [this]
theorem place_in {n p : Nat} (h : p < n * 8) : placeV n (p : Int) = 0 := by
  unfold placeV
  rw [if_neg (by omega)]
theorem load_in {M : PM} {p : Nat} (h : p < M.n * 8) : loadV M (p : Int) = M.seen p := by
  unfold loadV
  rw [if_pos (place_in h), Int.toNat_natCast]
end Go.Proofs.Ytbflennacniacaa
