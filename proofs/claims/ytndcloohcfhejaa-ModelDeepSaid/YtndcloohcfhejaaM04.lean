/- Parts of the proof, side by side: MoEnts, MoEntry, StOwn, FsPut, FsDrop. -/
import Derived.Test.YtndcloohcfhejaaM03
import Derived.Test.YtndcloohcfhejaaM02
import Derived.Lib.Bytealg
import Derived.Test.YtndcloohcfhejaaM01
import Derived.Laws.Rows
import Derived.Handy
set_option linter.unusedVariables false
set_option linter.unusedSimpArgs false
namespace Go.Proofs.Ytndcloohcfhejaa
open Go.RowKit
theorem bytesLess_eq : ∀ (a b : List UInt8), Op.bytesLess a b = ltB a b
 | [], [] => rfl
 | [], _ :: _ => rfl
 | _ :: _, [] => rfl
 | a :: al, b :: bl => by
  unfold Op.bytesLess ltB
  rw [bytesLess_eq al bl]
  by_cases h : a = b
  ·subst h
   rw [if_pos rfl]
   simp
  ·rw [if_neg h]
   have : (a == b) = false := by rw [beq_eq_false_iff_ne]; exact h
   simp [this]
theorem bucketm_any (s : ByteArray) (w : World) (hs : s.size ≤ maxLen) :
  Calls Try.prog 84 #[.string s] w fun e w' => e = .returned (.int .i64 ((bktB s : Nat) : Int)) ∧ Below w.heap.size w w' := by
 have h1 : hashL s.data.toList % 8 < 8 := Nat.mod_lt _ (by omega)
 obtain ⟨H, hH⟩ : ∃ H, hashL s.data.toList = H := ⟨_, rfl⟩
 have hb : bktB s = H % 8 := by unfold bktB; rw [hH]
 rw [hb]
 go_enter Try.func84, Try.ntmps84
 go_wp2_with fail
 refine (hash_any s _ hs).mono ?_
 rintro e w1 ⟨rfl, hbl⟩
 rw [hH]
 have e1 : (H : Int).tmod 8 = ((H % 8 : Nat) : Int) := rfl
 go_wp2_with fail
 go_ret
 exact ⟨by first | rfl | simp, hbl⟩
set_option maxRecDepth 100000 in
set_option maxHeartbeats 4000000 in
theorem maynum_any (p : Nat) (s : St) (num : Int) (w : World) (h : PtrAt w p s) (h1 : -9223372036854775808 ≤ num) (h2 : num ≤ 9223372036854775807) :
  Calls Try.prog 54 #[.pointer (some ⟨p, 0, .none⟩), .int .i64 num] w fun e w' => e = .returned (.bool (givenV s.made num)) ∧ Below w.heap.size w w' := by
 obtain ⟨A, n, c, E, m, d, D, k, e, hp, c0, c1, c2, hI, hD, hM, hn, _, hk⟩ := h.val
 have hkl := hM.1
 obtain ⟨R, hR⟩ : ∃ R, givenV s.made num = R := ⟨_, rfl⟩
 rw [hR]
 unfold givenV at hR
 have hX : ∀ (X : Ext w) (p : Addr), (w.cell? p).isSome = true → X.w.cell? p = w.cell? p := fun X p h => X.cell p h
 go_enter Try.func54, Try.ntmps54
 go_wp2_with fail
 refine (core_any num h1 h2 _).mono ?_
 rintro e1 w1 ⟨rfl, rfl⟩
 by_cases hnum : num < 2
 ·rw [if_pos hnum] at hR ⊢
  subst hR
  go_wp2_with fail
  refine wp_region_ext (by kernel_rfl) (by kernel_rfl) ?_
  repeat (go_big_quiet_step (fail))
  refine wpQuiet_nil ?_
  rintro w7 ⟨X, rfl⟩
  go_wp2_with fail
  go_ret
  exact ⟨rfl, X.bel⟩
 ·rw [if_neg hnum] at hR ⊢
  obtain ⟨C, hC⟩ : ∃ C : Nat, (num - 2) % 8 = (C : Int) := ⟨((num - 2) % 8).toNat, by omega⟩
  obtain ⟨Q, hQ⟩ : ∃ Q : Int, (num - 2) / 8 = Q := ⟨_, rfl⟩
  rw [hC, hQ, Int.toNat_natCast] at hR
  rw [hC]
  have q0 : decide ((0 : Int) ≤ (C : Int)) = true := by rw [decide_eq_true_eq]; omega
  by_cases hlt : C < k
  ·have q1 : decide ((C : Int) < (k : Int)) = true := by rw [decide_eq_true_eq]; omega
   obtain ⟨g, off, x, rfl, hg, hx, hd, hmem, cx⟩ := hM.get C hlt
   have hgd : s.made.getD C 0 = x := by rw [List.getD_eq_getElem?_getD, hx]; rfl
   rw [hgd, decide_eq_true (show (C : Int) < (s.made.length : Int) by omega), Bool.true_and] at hR
   subst hR
   have k0 : (0 : Int) ≤ (C : Int) := by omega
   have k1 : (C : Int) < (k : Int) := by omega
   clear hd hx hmem hgd hI hD hM
   go_wp2_with fail
   refine wp_region_ext (by kernel_rfl) (by kernel_rfl) ?_
   repeat (go_big_quiet_step (first | (go_at_call 82; exact Calls.ext_of_same (by have := made_any num (by omega) h2; rw [hQ] at this; exact this _))))
   refine wpQuiet_nil ?_
   rintro w7 ⟨X, rfl⟩
   go_wp2_with fail
   go_ret
   exact ⟨rfl, X.bel⟩
  ·have q1 : decide ((C : Int) < (k : Int)) = false := by rw [decide_eq_false_iff_not]; omega
   rw [decide_eq_false (show ¬ (C : Int) < (s.made.length : Int) by omega), Bool.false_and] at hR
   subst hR
   go_wp2_with fail
   refine wp_region_ext (by kernel_rfl) (by kernel_rfl) ?_
   repeat (go_big_quiet_step (fail))
   refine wpQuiet_nil ?_
   rintro w7 ⟨X, rfl⟩
   go_wp2_with fail
   go_ret
   exact ⟨rfl, X.bel⟩
def ManyT (w : World) (M : Nat) (f : Nat → Nat) : Prop := ∃ (cur : Array Value) (t : TypeId), w.heap[M]? = some (.cells cur t (0, 0)) ∧ ∀ j, j < 8 → cur[j]? = some (.int .i64 (f j : Nat))
theorem ManyT.lt {w : World} {M : Nat} {f : Nat → Nat} (h : ManyT w M f) : M < w.heap.size := by
 obtain ⟨cur, t, hh, _⟩ := h
 exact (Array.getElem?_eq_some_iff.1 hh).1
theorem ManyT.below {w w' : World} {M : Nat} {f : Nat → Nat} (h : ManyT w M f) (hb : Below w.heap.size w w') : ManyT w' M f := by
 have hl := h.lt
 obtain ⟨cur, t, hh, hc⟩ := h
 exact ⟨cur, t, (hb.block M hl).trans hh, hc⟩
theorem ManyT.get {w : World} {M : Nat} {f : Nat → Nat} (h : ManyT w M f) (j : Nat) (hj : j < 8) : w.cell? ⟨M, j, .none⟩ = some (.int .i64 (f j : Nat)) ∧ w.frozen? ⟨M, j, .none⟩ = false := by
 obtain ⟨cur, t, hh, hc⟩ := h
 exact ⟨by rw [cell_of_row w M j cur _ (0, 0) hh]; exact hc j hj, frozen_of_row w M j cur _ hh⟩
theorem ManyT.set {w : World} {M : Nat} {f : Nat → Nat} (h : ManyT w M f) (b : Nat) (hb : b < 8) : ManyT (w.setCell ⟨M, b, .none⟩ (.int .i64 ((f b : Int) + 1))) M (fun j => if j = b then f j + 1 else f j) := by
 obtain ⟨cur, t, hh, hc⟩ := h
 refine ⟨_, t, heap_setCell_same w M b cur _ _ hh, fun j hj => ?_⟩
 rw [Array.getElem?_setIfInBounds]
 by_cases e : b = j
 ·subst e
  have : b < cur.size := (Array.getElem?_eq_some_iff.1 (hc b hb)).1
  simp [this]
 ·have e2 : ¬ j = b := fun h => e h.symm
  simp only [e, e2, if_false]
  exact hc j hj
theorem many_arr (w : World) (t : TypeId) : ∃ W, w.alloc (.cells #[.int .i64 0, .int .i64 0, .int .i64 0, .int .i64 0, .int .i64 0, .int .i64 0, .int .i64 0, .int .i64 0] t) = W ∧ ManyT W w.heap.size (fun _ => 0) ∧ Below w.heap.size w W := by
 refine ⟨_, rfl, ⟨_, t, heap_alloc_new w _, fun j hj => ?_⟩, (Below.refl _ _).alloc (Nat.le_refl _) _⟩
 have : j = 0 ∨ j = 1 ∨ j = 2 ∨ j = 3 ∨ j = 4 ∨ j = 5 ∨ j = 6 ∨ j = 7 := by omega
 rcases this with h | h | h | h | h | h | h | h <;> subst h <;> rfl
def cmpV (a b : ByteArray) : Int := Lib.compareBytes a.data.toList b.data.toList
theorem cmpL_lt : ∀ (a b : List UInt8), Lib.compareBytes a b < 0 ↔ ltB a b = true
 | [], [] => by simp [Lib.compareBytes, ltB]
 | [], _ :: _ => by simp [Lib.compareBytes, ltB]
 | _ :: _, [] => by simp [Lib.compareBytes, ltB]
 | a :: al, b :: bl => by
  unfold Lib.compareBytes ltB
  by_cases h1 : a < b
  ·have : a ≠ b := fun e => by subst e; exact absurd h1 (UInt8.lt_irrefl _)
   rw [if_pos h1, if_neg this]
   simp [h1]
  ·rw [if_neg h1]
   by_cases h2 : b < a
   ·have : a ≠ b := fun e => by subst e; exact absurd h2 (UInt8.lt_irrefl _)
    rw [if_pos h2, if_neg this]
    simp [h1]
   ·have : a = b := UInt8.le_antisymm (UInt8.not_lt.1 h2) (UInt8.not_lt.1 h1)
    rw [if_neg h2, if_pos this]
    exact cmpL_lt al bl
theorem cmpL_eq0 : ∀ (a b : List UInt8), Lib.compareBytes a b = 0 ↔ a = b
 | [], [] => by simp [Lib.compareBytes]
 | [], _ :: _ => by simp [Lib.compareBytes]
 | _ :: _, [] => by simp [Lib.compareBytes]
 | a :: al, b :: bl => by
  unfold Lib.compareBytes
  by_cases h1 : a < b
  ·have : a ≠ b := fun e => by subst e; exact absurd h1 (UInt8.lt_irrefl _)
   rw [if_pos h1]
   simp [this]
  ·rw [if_neg h1]
   by_cases h2 : b < a
   ·have : a ≠ b := fun e => by subst e; exact absurd h2 (UInt8.lt_irrefl _)
    rw [if_pos h2]
    simp [this]
   ·have : a = b := UInt8.le_antisymm (UInt8.not_lt.1 h2) (UInt8.not_lt.1 h1)
    rw [if_neg h2, this, cmpL_eq0 al bl]
    simp
theorem cmpV_lt (a b : ByteArray) : cmpV a b < 0 ↔ ltN a b = true := cmpL_lt _ _
theorem cmpV_eq (a b : ByteArray) : cmpV a b = 0 ↔ a = b := by
 unfold cmpV
 rw [cmpL_eq0]
 constructor
 ·intro h
  cases a; cases b
  exact congrArg ByteArray.mk (Array.toList_inj.1 h)
 ·intro h; rw [h]
theorem ltB_trans : ∀ (a b c : List UInt8), ltB a b = true → ltB b c = true → ltB a c = true
 | [], [], _, h, _ => by simp [ltB] at h
 | [], _ :: _, [], _, h => by simp [ltB] at h
 | [], _ :: _, _ :: _, _, _ => rfl
 | _ :: _, [], _, h, _ => by simp [ltB] at h
 | _ :: _, _ :: _, [], _, h => by simp [ltB] at h
 | a :: al, b :: bl, c :: cl, h1, h2 => by
  unfold ltB at h1 h2 ⊢
  by_cases e1 : a = b
  ·subst e1
   rw [if_pos rfl] at h1
   by_cases e2 : a = c
   ·subst e2
    rw [if_pos rfl] at h2 ⊢
    exact ltB_trans al bl cl h1 h2
   ·rw [if_neg e2] at h2 ⊢
    exact h2
  ·rw [if_neg e1, decide_eq_true_eq] at h1
   by_cases e2 : b = c
   ·subst e2
    rw [if_neg e1, decide_eq_true_eq]
    exact h1
   ·rw [if_neg e2, decide_eq_true_eq] at h2
    have h3 := UInt8.lt_trans h1 h2
    have e3 : a ≠ c := fun e => by subst e; exact absurd h3 (UInt8.lt_irrefl _)
    rw [if_neg e3, decide_eq_true_eq]
    exact h3
theorem ltN_trans {a b c : ByteArray} (h1 : ltN a b = true) (h2 : ltN b c = true) : ltN a c = true := ltB_trans _ _ _ h1 h2
def RiseE (es : List En) : Prop := ∀ (i j : Nat) (x y : En), i < j → es[i]? = some x → es[j]? = some y → ltN x.name y.name = true
structure EnPos (es : List En) (nm : ByteArray) (i : Nat) (b : Bool) : Prop where
 le : i ≤ es.length
 lo : ∀ (k : Nat) (x : En), k < i → es[k]? = some x → ltN x.name nm = true
 hi : ∀ (k : Nat) (x : En), i ≤ k → es[k]? = some x → ltN x.name nm = false
 is_ : b = true → ∃ e, es[i]? = some e ∧ e.name = nm
 of_ : (∃ e, es[i]? = some e ∧ e.name = nm) → b = true
theorem compare_any (a b : ByteArray) (w : World) : Calls Try.prog 78 #[.string a, .string b] w fun e w' => e = .returned (.int .i64 (cmpV a b)) ∧ w = w' := by
 have hx : ∀ w, (callFunc 97 #[.string a, .string b]).run Try.prog w = .ok (.value (.int .i64 (cmpV a b))) w := fun w => by
  rw [run_callFunc_extern Try.func97 (by kernel_rfl) (by kernel_rfl) (by kernel_rfl) (e := Extern.BytealgCompare.compare) (by kernel_rfl), Lib.run_compareString]
  rfl
 go_enter Try.func78, Try.ntmps78
 go_wp2
 go_ret
 exact ⟨rfl, rfl⟩
theorem cmpE_any (name : ByteArray) (num : Int) (nm : ByteArray) (w : World) :
  Calls Try.prog 77 #[.agg #[.string name, .int .i64 num], .string nm] w fun e w' => e = .returned (.int .i64 (cmpV name nm)) ∧ Below w.heap.size w w' := by
 go_enter Try.func77, Try.ntmps77
 go_wp2_with fail
 refine (compare_any name nm _).mono ?_
 rintro e w1 ⟨rfl, rfl⟩
 go_wp2_with fail
 go_ret
 exact ⟨rfl, (Below.refl _ _).alloc (Nat.le_refl _) _⟩
set_option maxRecDepth 100000 in
set_option maxHeartbeats 4000000 in
theorem bsearchE_any (es : List En) (A : Option Addr) (n c : Nat) (nm : ByteArray) (w : World) (hI : EntsAt none w A n es) (hn : n ≤ 1099511627776) (hr : RiseE es) :
  Calls Try.prog 76 #[.slice A n c, .string nm, .func (.func 77) #[] #[]] w fun e w' => ∃ i b, e = .returned (.tuple #[.int .i64 (i : Nat), .bool b]) ∧ Below w.heap.size w w' ∧ EnPos es nm i b := by
 have HI := Lib.hid hI
 go_enter Try.func76, Try.ntmps76
 clear hI
 go_wp2_with fail
 go_loopw [9, 10] (fun iv jv wr => ∃ i j : Nat, iv = .int .i64 i ∧ jv = .int .i64 j ∧ i ≤ j ∧ j ≤ n ∧ (∀ (k : Nat) (x : En), k < i → es[k]? = some x → ltN x.name nm = true) ∧ (∀ (k : Nat) (x : En), j ≤ k → es[k]? = some x → ltN x.name nm = false) ∧ Below w.heap.size w wr) (fun iv jv _ => (intOf jv).toNat - (intOf iv).toNat)
 case atStart => exact ⟨0, n, rfl, rfl, by omega, by omega, fun k x hk => by omega, fun k x hk hx => by have := (List.getElem?_eq_some_iff.1 hx).1; have := HI.out.1; omega, Below.refl _ _⟩
 case round =>
  obtain ⟨i, j, rfl, rfl, hij, hjn, hlo, hhi, hbel⟩ := hrel
  have HB := Lib.hid hbel
  have HIr := Lib.hid (HI.out.below hbel)
  have HLO := Lib.hid hlo
  have HHI := Lib.hid hhi
  clear hbel hlo hhi
  by_cases hlt : i < j
  ·obtain ⟨h, hh⟩ : ∃ h, (i + j) / 2 = h := ⟨_, rfl⟩
   have hh1 : i ≤ h := by omega
   have hh2 : h < j := by omega
   obtain ⟨g, off, x, rfl, hg, hx, hd, hmem, c0, c1⟩ := HIr.out.get h (by omega)
   have HHH := Lib.hid hh
   have hx2 : es[h]? = some x := hx
   have HX := Lib.hid hx2
   have HRR := Lib.hid hr
   have HHH2 : Hid (h < j) := Lib.hid hh2
   clear hx2
   go_wp2_with fail
   refine (cmpE_any x.name x.num nm _).mono ?_
   rintro e5 w5 ⟨rfl, hb5⟩
   have e2 : ((i : Int) + (j : Int)) / 2 = (h : Int) := by have := HHH.out; omega
   rw [e2]
   have HB5 := Lib.hid (HB.out.trans (hb5.mono HB.out.size))
   clear hb5 c0 c1
   by_cases hc : ltN x.name nm = true
   ·have q1 : decide (cmpV x.name nm < 0) = true := by rw [decide_eq_true_eq]; exact (cmpV_lt _ _).2 hc
    go_wp2_with fail
    go_roundw
    case rel => exact ⟨h + 1, j, by go_num, rfl, by omega, hjn, fun k y hk hy => by
     by_cases e : k = h
     ·subst e
      have := HX.out
      rw [hy] at this
      cases this
      exact hc
     ·exact ltN_trans (HRR.out k h y x (by omega) hy HX.out) hc, HHI.out, HB5.out⟩
    case measure => simp [intOf]; omega
   ·have q1 : decide (cmpV x.name nm < 0) = false := by rw [decide_eq_false_iff_not]; exact fun h => hc ((cmpV_lt _ _).1 h)
    go_wp2_with fail
    go_roundw
    case rel => exact ⟨i, h, rfl, rfl, hh1, by omega, HLO.out, fun k y hk hy => by
     by_cases e : k = h
     ·subst e
      have := HX.out
      rw [hy] at this
      have e9 : y = x := Option.some.inj this
      rw [e9]
      exact Bool.eq_false_iff.2 hc
     ·cases hv : ltN y.name nm
      ·rfl
      ·exact absurd (ltN_trans (HRR.out h k x y (by omega) HX.out hy) hv) hc, HB5.out⟩
    case measure => simp [intOf]; omega
  ·have eij : j = i := by omega
   subst eij
   by_cases hin : j < n
   ·obtain ⟨g, off, x, rfl, hg, hx, hd, hmem, c0, c1⟩ := HIr.out.get j hin
    have HX := Lib.hid hx
    have HRR := Lib.hid hr
    go_wp2_with fail
    refine (cmpE_any x.name x.num nm _).mono ?_
    rintro e5 w5 ⟨rfl, hb5⟩
    have HB5 := Lib.hid (HB.out.trans (hb5.mono HB.out.size))
    clear hb5 c0 c1
    by_cases hc : x.name = nm
    ·have q1 : cmpV x.name nm = 0 := (cmpV_eq _ _).2 hc
     rw [q1]
     clear q1
     go_wp2_with fail
     go_ret2
     exact ⟨j, true, rfl, HB5.out, by have := HIr.out.1; omega, HLO.out, HHI.out, fun _ => ⟨x, HX.out, hc⟩, fun _ => rfl⟩
    ·have q1 : (cmpV x.name nm == 0) = false := by rw [beq_eq_false_iff_ne]; exact fun h => hc ((cmpV_eq _ _).1 h)
     go_wp2_with fail
     go_ret2
     refine ⟨j, false, rfl, HB5.out, by have := HIr.out.1; omega, HLO.out, HHI.out, (fun h => by cases h), fun h => ?_⟩
     obtain ⟨e, he, hen⟩ := h
     rw [HX.out] at he
     cases he
     exact absurd hen hc
   ·have q1 : decide ((j : Int) < (n : Int)) = false := by rw [decide_eq_false_iff_not]; omega
    clear hlt
    go_wp2_with fail
    go_ret2
    refine ⟨j, false, rfl, HB.out, by have := HIr.out.1; omega, HLO.out, HHI.out, (fun h => by cases h), fun h => ?_⟩
    obtain ⟨e, he, _⟩ := h
    have h1 := (List.getElem?_eq_some_iff.1 he).1
    have h2 := HIr.out.1
    omega
theorem mentry_any (es : List En) (A : Option Addr) (n c : Nat) (nm : ByteArray) (w : World) (hI : EntsAt none w A n es) (hn : n ≤ 1099511627776) (hr : RiseE es) :
  Calls Try.prog 50 #[.slice A n c, .string nm] w fun e w' => ∃ i b, e = .returned (.tuple #[.int .i64 (i : Nat), .bool b]) ∧ Below w.heap.size w w' ∧ EnPos es nm i b := by
 go_enter Try.func50, Try.ntmps50
 go_wp2_with fail
 refine (bsearchE_any es A n c nm _ hI hn hr).mono ?_
 rintro e w1 ⟨i, b, rfl, hb, hp⟩
 go_wp2_with fail
 go_ret2
 exact ⟨i, b, rfl, hb, hp⟩
structure KeepT (t : TypeId) (w w' : World) : Prop where
 size : w.heap.size ≤ w'.heap.size
 same : ∀ (b : Nat) (cur : Array Value), w.heap[b]? = some (.cells cur t (0, 0)) → w'.heap[b]? = w.heap[b]?
theorem KeepT.set {w : World} {g k : Nat} {u : Value} {cur : Array Value} {t t' : TypeId} (h : w.heap[g]? = some (.cells cur t' (0, 0))) (hne : t' ≠ t) : KeepT t w (w.setCell ⟨g, k, none⟩ u) :=
 ⟨by simp [World.setCell], fun b c hb => Below.heap_setCell w ⟨g, k, none⟩ u b (fun e => by
  have e2 : b = g := e
  subst e2
  rw [h] at hb
  injection hb with hb
  injection hb with _ hb _
  exact hne hb)⟩
theorem KeepT.mine {t : TypeId} {w w' : World} {B g : Nat} (h : KeepT t w w') (hm : Mine (some B) t w g) : Mine (some B) t w' g ∧ w'.heap[g]? = w.heap[g]? := by
 obtain ⟨h1, cur, h2⟩ := hm B rfl
 refine ⟨fun C hC => ?_, h.same g cur h2⟩
 cases hC
 exact ⟨h1, cur, (h.same g cur h2).trans h2⟩
theorem cell_same {w w' : World} {g : Nat} (h : w'.heap[g]? = w.heap[g]?) (j : Nat) : w'.cell? ⟨g, j, none⟩ = w.cell? ⟨g, j, none⟩ := by
 unfold World.cell?
 simp only [h]
theorem EntsAt.keep {B : Nat} {w w' : World} {A : Option Addr} {n : Nat} {es : List En} (h : EntsAt (some B) w A n es) (hk : KeepT 75 w w') : EntsAt (some B) w' A n es :=
 ⟨h.1, fun hn => by
  obtain ⟨g, off, hA, hg, hm, hc⟩ := h.2 hn
  obtain ⟨m1, m2⟩ := hk.mine hm
  exact ⟨g, off, hA, Nat.lt_of_lt_of_le hg hk.size, m1, fun j e he => ⟨(cell_same m2 _).trans (hc j e he).1, (cell_same m2 _).trans (hc j e he).2⟩⟩⟩
theorem DescsAt.keep {B : Nat} {w w' : World} {A : Option Addr} {n : Nat} {ds : List Ds} (h : DescsAt (some B) w A n ds) (hk : KeepT 66 w w') : DescsAt (some B) w' A n ds :=
 ⟨h.1, fun hn => by
  obtain ⟨g, off, hA, hg, hm, hc⟩ := h.2 hn
  obtain ⟨m1, m2⟩ := hk.mine hm
  exact ⟨g, off, hA, Nat.lt_of_lt_of_le hg hk.size, m1, fun j e he => ⟨(cell_same m2 _).trans (hc j e he).1, (cell_same m2 _).trans (hc j e he).2.1, (cell_same m2 _).trans (hc j e he).2.2⟩⟩⟩
theorem IntsAt.keep {B : Nat} {w w' : World} {A : Option Addr} {n : Nat} {xs : List Int} (h : IntsAt (some B) w A n xs) (hk : KeepT 3 w w') : IntsAt (some B) w' A n xs :=
 ⟨h.1, fun hn => by
  obtain ⟨g, off, hA, hg, hm, hc⟩ := h.2 hn
  obtain ⟨m1, m2⟩ := hk.mine hm
  exact ⟨g, off, hA, Nat.lt_of_lt_of_le hg hk.size, m1, fun j x hx => (cell_same m2 _).trans (hc j x hx)⟩⟩
theorem InosAt.keep {B : Nat} {w w' : World} {A : Option Addr} {n : Nat} {is : List Ino} (h : InosAt (some B) w A n is) (hk : KeepT 52 w w') (he : KeepT 75 w w') : InosAt (some B) w' A n is :=
 ⟨h.1, fun hn => by
  obtain ⟨g, off, hA, hg, hm, hc⟩ := h.2 hn
  obtain ⟨m1, m2⟩ := hk.mine hm
  refine ⟨g, off, hA, Nat.lt_of_lt_of_le hg hk.size, m1, fun j x hx => ?_⟩
  obtain ⟨h1, h2, ⟨E, m, c, h3, h4, h5⟩, h6⟩ := hc j x hx
  exact ⟨(cell_same m2 _).trans h1, (cell_same m2 _).trans h2, ⟨E, m, c, (cell_same m2 _).trans h3, h4, h5.keep he⟩, (cell_same m2 _).trans h6⟩⟩
theorem IntsAt.mono {B B' : Nat} {w : World} {A : Option Addr} {n : Nat} {xs : List Int} (h : IntsAt (some B) w A n xs) (hb : B' ≤ B) : IntsAt (some B') w A n xs :=
 ⟨h.1, fun hn => by
  obtain ⟨g, off, hA, hg, hm, hc⟩ := h.2 hn
  exact ⟨g, off, hA, hg, hm.mono hb, hc⟩⟩
theorem modify_set {α : Type} (f : α → α) (l : List α) (i : Nat) (x : α) (h : l[i]? = some x) : l.modify i f = l.set i (f x) := by
 apply List.ext_getElem?
 intro j
 rw [List.getElem?_modify, List.getElem?_set]
 by_cases e : i = j
 ·subst e
  have hl : i < l.length := (List.getElem?_eq_some_iff.1 h).1
  simp [hl, (List.getElem?_eq_some_iff.1 h).2]
 ·cases hj : l[j]? <;> simp [e, hj]
theorem putE_len : ∀ (es : List En) (name : ByteArray) (num : Int), (putE es name num).length = es.length + 1
 | [], _, _ => rfl
 | e :: es, name, num => by
  unfold putE
  split
  ·simp
  ·rw [List.length_cons, putE_len es, List.length_cons]
theorem dropE_len : ∀ (es : List En) (name : ByteArray), (dropE es name).length ≤ es.length
 | [], _ => Nat.le_refl _
 | e :: es, name => by
  unfold dropE
  have := dropE_len es name
  split <;> simp <;> omega
end Go.Proofs.Ytndcloohcfhejaa
