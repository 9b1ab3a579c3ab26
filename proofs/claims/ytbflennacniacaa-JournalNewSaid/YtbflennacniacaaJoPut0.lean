/- journal.Journal.put: what it makes of memory, in plain words. -/
import Derived.Test.YtbflennacniacaaJoFind
namespace Go.Proofs.Ytbflennacniacaa
open Go.RowKit
set_option linter.unusedVariables false
/-- The text's words, one by one. -/
def stT (M : PM) (b : Nat) (s : List UInt8) : Nat → PM
  | 0 => M
  | n + 1 => (stT M b s n).store ((b + n : Nat) : Int) ((wordN s (8 * n) : Nat) : Int)
/-- Words one by one. -/
def stH (M : PM) (b : Nat) (xs : List Nat) : Nat → PM
  | 0 => M
  | i + 1 => (stH M b xs i).store ((b + i : Nat) : Int) ((xs.getD i 0 : Nat) : Int)
def head4 (turn : Nat) (s : List UInt8) : List Nat := [magicN, turn, s.length, sumN s]
def head5 (turn : Nat) (s : List UInt8) : List Nat := [magicN, turn, s.length, sumN s, sumN (digitsL (head4 turn s))]
def wordsOfText (s : List UInt8) : Nat := (s.length + 7) / 8
def putM (M : PM) (q : Nat) (turn : Nat) (s : List UInt8) : PM :=
  flushP (stH (flushP (stT M (8 * q + 8) s (wordsOfText s)) (q + 1) (wordsOfText s)) (8 * q) (head5 turn s) 5) q 8
def JD.put (J : JD) (s : ByteArray) : JD := { J with area := 1 - J.area, turn := (J.turn + 1) % 18446744073709551616, text := s }
theorem stT_ok {M : PM} {K : Nat} (h : M.ok K) (b : Nat) (s : List UInt8) (n : Nat) : (stT M b s n).ok (K + n) := by
  induction n with
  | zero => exact h
  | succ n ih => exact ih.store _ _
theorem stH_ok {M : PM} {K : Nat} (h : M.ok K) (b : Nat) (xs : List Nat) (n : Nat) : (stH M b xs n).ok (K + n) := by
  induction n with
  | zero => exact h
  | succ n ih => exact ih.store _ _
theorem putM_ok {M : PM} {K : Nat} (h : M.ok K) (q turn : Nat) (s : List UInt8) (hs : s.length ≤ 65536) : (putM M q turn s).ok (K + 20000) := by
  have h1 := flushP_ok (stT_ok h (8 * q + 8) s (wordsOfText s)) (q + 1) (wordsOfText s)
  have h2 := flushP_ok (stH_ok h1 (8 * q) (head5 turn s) 5) q 8
  refine h2.mono ?_
  unfold wordsOfText
  omega
theorem Jour.grow {w0 wz w w' : World} {Z : Nat → Prop} {j a : Nat} {J : JD} {M : PM} (h : Jour w0 wz w Z j a J M) (hb : Below w.heap.size w w') (g : Nat) (hg : w.heap.size ≤ g) (hg2 : g < w'.heap.size) : Jour w0 w' w' (fun k => Z k ∨ k = g) j a J M := by
  have hj := h.jlt
  have hz := h.zlt
  obtain ⟨⟨F, h1, h2, h3⟩, h4, h5, h6, h7⟩ := h
  have hin := h2.in_heap
  refine ⟨⟨F, h1, h2.below hb, fun k hk => ⟨(h3 k hk).1, (h3 k hk).2.1, fun hh => ?_⟩⟩, Cv.next h4 hb, (hb.block j hj).trans h5, h6, fun k hk => ?_⟩
  · rcases hh with hh | hh
    · exact (h3 k hk).2.2 hh
    · have := hin k hk
      omega
  · rcases hk with hk | hk
    · exact ⟨Nat.lt_of_lt_of_le (hz k hk) hb.size, rfl, (h7 k hk).2.2⟩
    · subst hk
      exact ⟨hg2, rfl, by omega⟩
theorem Jour.shrink {w0 wz w1 w : World} {Z Z' : Nat → Prop} {j a : Nat} {J J' : JD} {M M' : PM} (h : Jour w0 w1 w Z' j a J M) (h0 : Jour w0 wz w1 Z j a J' M') (hz : ∀ k, Z k → Z' k) : Jour w0 wz w Z j a J M := by
  obtain ⟨⟨F, h1, h2, h3⟩, h4, h5, h6, h7⟩ := h
  exact ⟨⟨F, h1, h2, fun k hk => ⟨(h3 k hk).1, (h3 k hk).2.1, fun hh => (h3 k hk).2.2 (hz k hh)⟩⟩, h4, h5, h6, fun k hk => ⟨(h0.zed k hk).1, (h7 k (hz k hk)).2.1.trans (h0.zed k hk).2.1, (h0.zed k hk).2.2⟩⟩
theorem Jour.zblock {w0 w1 w : World} {Z : Nat → Prop} {j a : Nat} {J : JD} {M : PM} (h : Jour w0 w1 w Z j a J M) (k : Nat) (hk : Z k) : w.heap[k]? = w1.heap[k]? := (h.zed k hk).2.1
theorem RowT.of_owns {w : World} {base n : Nat} {v : Value} {xs : List Nat} (h : w.ownsRow base 29 1 v n (xs.map fun x : Nat => Value.int .u64 (x : Int))) (hl : xs.length = n) (hn : 0 < n) :
    ∃ g cap, v = .slice (some ⟨g, 0, .none⟩) n cap ∧ base ≤ g ∧ g < w.heap.size ∧ ∀ i, i < n → w.cell? ⟨g, i, .none⟩ = some (.int .u64 ((xs.getD i 0 : Nat) : Int)) := by
  rcases h.2 with ⟨hv, h0⟩ | ⟨g, cap, cur, hv, hb, hg, hnc, hcm, hcs, htk⟩
  · omega
  · refine ⟨g, cap, hv, hb, (Array.getElem?_eq_some_iff.1 hg).1, fun i hi => ?_⟩
    rw [cell_of_row w g i cur _ (0, 0) hg]
    have hil : i < xs.length := by omega
    have h1 : (xs.map fun x : Nat => Value.int .u64 (x : Int))[i]? = some (.int .u64 ((xs.getD i 0 : Nat) : Int)) := by
      simp [hil]
    rw [← htk, List.getElem?_take] at h1
    split at h1
    · simpa using h1
    · cases h1
theorem infoU64' : (Try.prog.info? 29).map (fun i => (i.zero, i.size, i.bytes)) = some (some (.int .u64 0), 1, 8) := by kernel_rfl
end Go.Proofs.Ytbflennacniacaa
