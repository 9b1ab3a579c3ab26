/- pmem.Mem.Flush, by its contract. -/
import Derived.Test.YtbflennacniacaaPmStoreM
namespace Go.Proofs.Ytbflennacniacaa
open Go.RowKit
set_option linter.unusedVariables false
theorem way_keyed : Go.Maps.Keyed Try.prog 3 := Go.Maps.int_keyed Try.underlying3
theorem way_key (q : Nat) (h : q ≤ 9223372036854775807) : Go.keyOf Try.prog 3 (.int .i64 (q : Nat)) = some (.int .i64 (q : Nat)) := by
  refine Go.Maps.keyOf_int_mk Try.underlying3 ?_
  show (decide (IntKind.i64.min ≤ (q : Int)) && decide ((q : Int) ≤ IntKind.i64.max)) = true
  rw [Bool.and_eq_true, decide_eq_true_eq, decide_eq_true_eq]
  have h1 : IntKind.i64.min = -9223372036854775808 := by decide
  have h2 : IntKind.i64.max = 9223372036854775807 := by decide
  rw [h1, h2]
  omega
/-- A line of a memory. -/
def lineOf (f : Nat → Int) (q : Nat) : Nat → Int := fun j => f (q * 8 + j)
def PM.flushed (M : PM) (q : Nat) : PM := { M with way := fun i => if i = q then some (lineOf M.seen q) else M.way i, cnt := M.cnt + 1 }
theorem key_ne {i q : Nat} (h : i ≠ q) : (Lit.int .i64 (i : Int)) ≠ Lit.int .i64 (q : Int) := fun e => by injection e with _ e; omega
theorem WayRel.put {D : DataW Value} {n : Nat} {way : Nat → Option (Nat → Int)} (h : WayRel D n way) (q : Nat) (hq : q < n) (g : Nat → Int) :
    WayRel (D.put (.int .i64 (q : Nat)) (.held (boxV g))) n (fun i => if i = q then some g else way i) := by
  obtain ⟨h1, h2, h3⟩ := h
  refine ⟨h1.put _ _, fun kl hkl => ?_, fun i => ?_⟩
  · by_cases e : kl = .int .i64 (q : Nat)
    · exact ⟨q, e, hq⟩
    · rw [Go.Maps.has_put_other e] at hkl
      exact h2 kl hkl
  · by_cases e : i = q
    · subst e
      simp only [if_pos]
      exact ⟨Go.Maps.has_put_same h1 (by trivial) _, fun z => Go.Maps.atKey_put_same h1 (by trivial) _ _⟩
    · have hi := h3 i
      simp only [if_neg e]
      have e1 := key_ne e
      rw [Go.Maps.has_put_other e1]
      cases hw : way i with
      | none =>
        rw [hw] at hi
        intro hh z
        rw [Go.Maps.atKey_put_other e1]
        exact hi hh z
      | some g' =>
        rw [hw] at hi
        exact ⟨hi.1, fun z => by rw [Go.Maps.atKey_put_other e1]; exact hi.2 z⟩
theorem Mem.setWay {w w2 : World} {F : PF} {M : PM} (h : Mem w F M) {D : DataW Value} {way : Nat → Option (Nat → Int)} {c : Nat} (hrel : WayRel D M.n way) (hown : w2.ownsMap Try.prog 3 heldR F.y c D) (hg : w.grownBy w2 (some F.y)) :
    Mem w2 F { M with way := way, cnt := c } := by
  obtain ⟨k1, k2, k3, k4, k5, k6⟩ := h.kinds
  have hin := h.in_heap
  have other : ∀ i, F.has i → i ≠ F.y → w2.heap[i]? = w.heap[i]? := fun i hi hn => hg.block i (hin i hi) fun e => hn (by injection e)
  obtain ⟨cs, cl, ce, h1, h2, h3⟩ := h.blk
  exact ⟨⟨cs, cl, ce, h1, h2, (other _ (.inl rfl) k3).trans h3⟩, h.seen.same (other _ (.inr (.inl rfl)) (Ne.symm k4)), h.lasts.same (other _ (.inr (.inr (.inl rfl))) (Ne.symm k5)),
    fun g hf => (h.fin g hf).same (other _ (.inr (.inr (.inr (.inr rfl)))) (Ne.symm (k6 g hf).2)), ⟨D, hrel, hown⟩, h.apart, h.size, h.idle⟩
set_option maxRecDepth 100000 in
set_option maxHeartbeats 1000000 in
theorem flush1_any (F : PF) (M : PM) (q : Nat) (b1 b2 : Nat) (w : World) (h : Mem w F M) (hq : q < M.n) (hcnt : M.cnt ≤ 1099511627776)
    (c1 : w.cell? ⟨b1, 0, .none⟩ = some (.pointer (some ⟨F.a, 0, .none⟩))) (c2 : w.cell? ⟨b2, 0, .none⟩ = some (.int .i64 q)) :
    Calls Try.prog 43 #[.bool true, .pointer (some ⟨b1, 0, .none⟩), .pointer (some ⟨b2, 0, .none⟩)] w fun e w' => e = .returned (.tuple #[]) ∧ Mem w' F (M.flushed q) ∧ Only F.has w w' := by
  obtain ⟨cs, cl, ce, hcs, hcl, e0, _, e2, _, _, _, _, _⟩ := h.cells
  have hsz := h.size
  have cell : ∀ j, j < 8 → w.cell? ⟨F.s, q * 8 + j, .none⟩ = some (.int .u64 (lineOf M.seen q j)) := fun j hj => h.seen.cell (q * 8 + j) (by omega)
  have d0 : w.cell? ⟨F.s, q * 8, .none⟩ = some (.int .u64 (lineOf M.seen q 0)) := cell 0 (by omega)
  have d1 := cell 1 (by omega)
  have d2 := cell 2 (by omega)
  have d3 := cell 3 (by omega)
  have d4 := cell 4 (by omega)
  have d5 := cell 5 (by omega)
  have d6 := cell 6 (by omega)
  have d7 := cell 7 (by omega)
  obtain ⟨D, hrel, hown⟩ := h.way
  obtain ⟨w2, hrun, hown2, hgr⟩ := (way_same hown rfl : w.drew.ownsMap Try.prog 3 heldR F.y M.cnt D).update (t := 73) (e := 20) (val := boxV (lineOf M.seen q)) way_keyed Try.underlying73 (by unfold maxLen; omega) (way_key q (by omega)) rfl
  unfold boxV lineV at hrun
  have HM := Lib.hid h
  have HREL := Lib.hid hrel
  have HO := Lib.hid hown2
  have HG := Lib.hid hgr
  clear h cell hrel hown2 hgr
  go_enter Try.func43, Try.ntmps43
  go_wp2_with fail
  go_region
  go_end0
  exact ⟨rfl, HM.out.drew.setWay (HREL.out.put q hq _) HO.out HG.out, ((Only.refl _ _).drewN 1).grown HG.out fun k hk => .inl (by cases hk; exact .inr (.inr (.inr (.inl rfl))))⟩
set_option maxHeartbeats 1000000 in
theorem flush1_none (b1 b2 : Nat) (w : World) :
    Calls Try.prog 43 #[.bool false, .pointer (some ⟨b1, 0, .none⟩), .pointer (some ⟨b2, 0, .none⟩)] w fun e w' => e = .returned (.tuple #[]) ∧ w = w' := by
  go_enter Try.func43, Try.ntmps43
  go_wp2_with fail
  go_end0
  exact ⟨rfl, rfl⟩
end Go.Proofs.Ytbflennacniacaa
