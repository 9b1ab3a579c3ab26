/- Parts of the proof, side by side: MoEnts, MoEntry. -/
import Derived.Test.YthhceopnnappgaaGreatDoorM15
import Derived.Test.YthhceopnnappgaaGreatDoorM07
import Derived.Test.YthhceopnnappgaaGreatDoorM06
import Derived.Test.YthhceopnnappgaaGreatDoorM05
import Derived.Lib.Bytealg
set_option linter.unusedVariables false
set_option linter.unusedSimpArgs false
namespace Go.Proofs.YthhceopnnappgaaGreatDoor
open Go.RowKit
theorem bytesLess_eq : ∀ (a b : List UInt8), Op.bytesLess a b = ltB a b
 | [], [] => rfl
 | [], _ :: _ => rfl
 | _ :: _, [] => rfl
 | a :: al, b :: bl => by
  unfold Op.bytesLess ltB
  rw [bytesLess_eq al bl]
  by_cases h : a = b
  ·subst h
   rw [if_pos rfl]
   simp
  ·rw [if_neg h]
   have : (a == b) = false := by rw [beq_eq_false_iff_ne]; exact h
   simp [this]
theorem bucketm_any (s : ByteArray) (w : World) (hs : s.size ≤ maxLen) :
  Calls Tryz.prog 106 #[.string s] w fun e w' => e = .returned (.int .i64 ((bktB s : Nat) : Int)) ∧ Below w.heap.size w w' := by
 have h1 : hashL s.data.toList % 8 < 8 := Nat.mod_lt _ (by omega)
 obtain ⟨H, hH⟩ : ∃ H, hashL s.data.toList = H := ⟨_, rfl⟩
 have hb : bktB s = H % 8 := by unfold bktB; rw [hH]
 rw [hb]
 go_enter Tryz.func106, Tryz.ntmps106
 go_wp2_with fail
 refine (hash_any s _ hs).mono ?_
 rintro e w1 ⟨rfl, hbl⟩
 rw [hH]
 have e1 : (H : Int).tmod 8 = ((H % 8 : Nat) : Int) := rfl
 go_wp2_with fail
 go_ret
 exact ⟨by first | rfl | simp, hbl⟩
set_option maxRecDepth 100000 in
set_option maxHeartbeats 4000000 in
theorem maynum_any (p : Nat) (s : St) (num : Int) (w : World) (h : PtrAt w p s) (h1 : -9223372036854775808 ≤ num) (h2 : num ≤ 9223372036854775807) :
  Calls Tryz.prog 76 #[.pointer (some ⟨p, 0, .none⟩), .int .i64 num] w fun e w' => e = .returned (.bool (givenV s.made num)) ∧ Below w.heap.size w w' := by
 obtain ⟨A, n, c, E, m, d, D, k, e, hp, c0, c1, c2, hI, hD, hM, hn, _, hk⟩ := h.val
 have hkl := hM.1
 obtain ⟨R, hR⟩ : ∃ R, givenV s.made num = R := ⟨_, rfl⟩
 rw [hR]
 unfold givenV at hR
 have hX := @Ext.cell w
 go_enter Tryz.func76, Tryz.ntmps76
 go_wp2_with fail
 refine (core_any num h1 h2 _).mono ?_
 rintro e1 w1 ⟨rfl, rfl⟩
 by_cases hnum : num < 2
 ·rw [if_pos hnum] at hR ⊢
  subst hR
  go_wp2_with fail
  refine wre ?_
  repeat (go_big_quiet_step (fail))
  refine wpQuiet_nil ?_
  rintro w7 ⟨X, rfl⟩
  go_wp2_with fail
  go_ret
  exact ⟨rfl, X.bel⟩
 ·rw [if_neg hnum] at hR ⊢
  obtain ⟨C, hC⟩ : ∃ C : Nat, (num - 2) % 8 = (C : Int) := ⟨((num - 2) % 8).toNat, by omega⟩
  obtain ⟨Q, hQ⟩ : ∃ Q : Int, (num - 2) / 8 = Q := ⟨_, rfl⟩
  rw [hC, hQ, Int.toNat_natCast] at hR
  rw [hC]
  have q0 : decide ((0 : Int) ≤ (C : Int)) = true := by rw [decide_eq_true_eq]; omega
  by_cases hlt : C < k
  ·have q1 : decide ((C : Int) < (k : Int)) = true := by rw [decide_eq_true_eq]; omega
   obtain ⟨g, off, x, rfl, hg, hx, hd, hmem, cx⟩ := hM.get C hlt
   have hgd : s.made.getD C 0 = x := by rw [List.getD_eq_getElem?_getD, hx]; rfl
   rw [hgd, decide_eq_true (show (C : Int) < (s.made.length : Int) by omega), Bool.true_and] at hR
   subst hR
   have k0 : (0 : Int) ≤ (C : Int) := by omega
   have k1 : (C : Int) < (k : Int) := by omega
   clear hd hx hmem hgd hI hD hM
   go_wp2_with fail
   refine wre ?_
   repeat (go_big_quiet_step (first | (go_at_call 104; exact Calls.ext_of_same (by have := made_any num (by omega) h2; rw [hQ] at this; exact this _))))
   refine wpQuiet_nil ?_
   rintro w7 ⟨X, rfl⟩
   go_wp2_with fail
   go_ret
   exact ⟨rfl, X.bel⟩
  ·have q1 : decide ((C : Int) < (k : Int)) = false := by rw [decide_eq_false_iff_not]; omega
   rw [decide_eq_false (show ¬ (C : Int) < (s.made.length : Int) by omega), Bool.false_and] at hR
   subst hR
   go_wp2_with fail
   refine wre ?_
   repeat (go_big_quiet_step (fail))
   refine wpQuiet_nil ?_
   rintro w7 ⟨X, rfl⟩
   go_wp2_with fail
   go_ret
   exact ⟨rfl, X.bel⟩
def ManyT (w : World) (M : Nat) (f : Nat → Nat) : Prop := ∃ (cur : Array Value) (t : TypeId), w.heap[M]? = some (.cells cur t (0, 0)) ∧ ∀ j, j < 8 → cur[j]? = some (.int .i64 (f j : Nat))
theorem ManyT.lt {w : World} {M : Nat} {f : Nat → Nat} (h : ManyT w M f) : M < w.heap.size := by
 obtain ⟨cur, t, hh, _⟩ := h
 exact (Array.getElem?_eq_some_iff.1 hh).1
theorem ManyT.below {w w' : World} {M : Nat} {f : Nat → Nat} (h : ManyT w M f) (hb : Below w.heap.size w w') : ManyT w' M f := by
 have hl := h.lt
 obtain ⟨cur, t, hh, hc⟩ := h
 exact ⟨cur, t, (hb.block M hl).trans hh, hc⟩
theorem ManyT.get {w : World} {M : Nat} {f : Nat → Nat} (h : ManyT w M f) (j : Nat) (hj : j < 8) : w.cell? ⟨M, j, .none⟩ = some (.int .i64 (f j : Nat)) ∧ w.frozen? ⟨M, j, .none⟩ = false := by
 obtain ⟨cur, t, hh, hc⟩ := h
 exact ⟨by rw [cell_of_row w M j cur _ (0, 0) hh]; exact hc j hj, frozen_of_row w M j cur _ hh⟩
theorem ManyT.set {w : World} {M : Nat} {f : Nat → Nat} (h : ManyT w M f) (b : Nat) (hb : b < 8) : ManyT (w.setCell ⟨M, b, .none⟩ (.int .i64 ((f b : Int) + 1))) M (fun j => if j = b then f j + 1 else f j) := by
 obtain ⟨cur, t, hh, hc⟩ := h
 refine ⟨_, t, heap_setCell_same w M b cur _ _ hh, fun j hj => ?_⟩
 rw [Array.getElem?_setIfInBounds]
 by_cases e : b = j
 ·subst e
  have : b < cur.size := (Array.getElem?_eq_some_iff.1 (hc b hb)).1
  simp [this]
 ·have e2 : ¬ j = b := fun h => e h.symm
  simp only [e, e2, if_false]
  exact hc j hj
theorem many_arr (w : World) (t : TypeId) : ∃ W, w.alloc (.cells #[.int .i64 0, .int .i64 0, .int .i64 0, .int .i64 0, .int .i64 0, .int .i64 0, .int .i64 0, .int .i64 0] t) = W ∧ ManyT W w.heap.size (fun _ => 0) ∧ Below w.heap.size w W := by
 refine ⟨_, rfl, ⟨_, t, heap_alloc_new w _, fun j hj => ?_⟩, (Below.refl _ _).alloc (Nat.le_refl _) _⟩
 have : j = 0 ∨ j = 1 ∨ j = 2 ∨ j = 3 ∨ j = 4 ∨ j = 5 ∨ j = 6 ∨ j = 7 := by omega
 rcases this with h | h | h | h | h | h | h | h <;> subst h <;> rfl
def RiseE (es : List En) : Prop := ∀ (i j : Nat) (x y : En), i < j → es[i]? = some x → es[j]? = some y → ltN x.name y.name = true
structure EnPos (es : List En) (nm : ByteArray) (i : Nat) (b : Bool) : Prop where
 le : i ≤ es.length
 lo : ∀ (k : Nat) (x : En), k < i → es[k]? = some x → ltN x.name nm = true
 hi : ∀ (k : Nat) (x : En), i ≤ k → es[k]? = some x → ltN x.name nm = false
 is_ : b = true → ∃ e, es[i]? = some e ∧ e.name = nm
 of_ : (∃ e, es[i]? = some e ∧ e.name = nm) → b = true
end Go.Proofs.YthhceopnnappgaaGreatDoor
