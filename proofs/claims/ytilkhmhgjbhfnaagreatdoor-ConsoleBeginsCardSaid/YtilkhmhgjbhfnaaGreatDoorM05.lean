/- Parts of the proof, side by side: MoFind, MoFind2, MoMade, MoEnts, MoEntry, FsRename. -/
import Derived.Test.YtilkhmhgjbhfnaaGreatDoorM01
import Derived.Test.YtilkhmhgjbhfnaaGreatDoorM03
import Derived.Test.YtilkhmhgjbhfnaaGreatDoorM02
import Derived.Lib.Bytealg
set_option linter.unusedVariables false
set_option linter.unusedSimpArgs false
namespace Go.Proofs.YtilkhmhgjbhfnaaGreatDoor
open Go.RowKit
def RiseI (is : List Ino) : Prop := ∀ (i j : Nat) (x y : Ino), i < j → is[i]? = some x → is[j]? = some y → x.num < y.num
structure PtrAt (w : World) (p : Nat) (s : St) : Prop where
 at_ : ∃ A n c E m d D k e, w.heap[p]? = some (.cells #[.slice A n c, .slice E m d, .slice D k e] 31 (0, 0)) ∧ InosAt none w A n s.inos ∧ DescsAt none w E m s.opn ∧ IntsAt none w D k s.made ∧ SlOk A n c ∧ SlOk E m d ∧ SlOk D k e
 sized : Sized s
theorem PtrAt.below {w w' : World} {p : Nat} {s : St} (h : PtrAt w p s) (hb : Below w.heap.size w w') : PtrAt w' p s := by
 obtain ⟨⟨A, n, c, E, m, d, D, k, e, h1, h2, h3, h4, h5, h6, h7⟩, hz⟩ := h
 exact ⟨⟨A, n, c, E, m, d, D, k, e, (hb.block p (Array.getElem?_eq_some_iff.1 h1).1).trans h1, h2.below hb, h3.below hb, h4.below hb, h5, h6, h7⟩, hz⟩
theorem atV_none {is : List Ino} {num : Int} (h : ∀ x ∈ is, x.num ≠ num) : atV is num = -1 := by
 rcases atV_cases is num with ⟨h1, _⟩ | ⟨k, x, _, h2, h3, _⟩
 ·exact h1
 ·exact absurd h3 (h x (List.mem_of_getElem? h2))
theorem atV_of_rise {is : List Ino} {num : Int} {j : Nat} {x : Ino} (hr : RiseI is) (hx : is[j]? = some x) (hn : x.num = num) : atV is num = (j : Int) := by
 rcases atV_cases is num with ⟨h1, h2⟩ | ⟨k, y, h1, h2, h3, _⟩
 ·exact absurd hn (h2 x (List.mem_of_getElem? hx))
 ·rw [h1]
  by_cases e1 : k < j
  ·have := hr k j y x e1 h2 hx; omega
  ·by_cases e2 : j < k
   ·have := hr j k x y e2 hx h2; omega
   ·congr 1; omega
def cmpI (a b : Int) : Int := if a < b then -1 else if b < a then 1 else 0
theorem cmp_any (x1 x2 x3 x4 : Value) (num a : Int) (w : World) (h1 : x1 = .int .i64 a) :
  Calls Tryz.prog 194 #[.agg #[x1, x2, x3, x4], .int .i64 num] w fun e w' => e = .returned (.int .i64 (cmpI a num)) ∧ Below w.heap.size w w' := by
 subst h1
 go_enter Tryz.func194, Tryz.ntmps194
 unfold cmpI
 by_cases h1 : a < num
 ·rw [if_pos h1]
  have q1 : decide (a < num) = true := decide_eq_true h1
  go_wp2_with fail
  go_ret
  exact ⟨rfl, (Below.refl _ _).alloc (Nat.le_refl _) _⟩
 ·have q1 : decide (a < num) = false := decide_eq_false h1
  rw [if_neg h1]
  by_cases h2 : num < a
  ·rw [if_pos h2]
   have q2 : decide (num < a) = true := decide_eq_true h2
   go_wp2_with fail
   go_ret
   exact ⟨rfl, (Below.refl _ _).alloc (Nat.le_refl _) _⟩
  ·rw [if_neg h2]
   have q2 : decide (num < a) = false := decide_eq_false h2
   go_wp2_with fail
   go_ret
   exact ⟨rfl, (Below.refl _ _).alloc (Nat.le_refl _) _⟩
set_option maxRecDepth 100000 in
set_option maxHeartbeats 4000000 in
theorem bsearch_any (is : List Ino) (A : Option Addr) (n c : Nat) (num : Int) (w : World) (hI : InosAt none w A n is) (hn : n ≤ 1099511627776) (hr : RiseI is) :
  Calls Tryz.prog 133 #[.slice A n c, .int .i64 num, .func (.func 194) #[] #[]] w fun e w' => ∃ i b, e = .returned (.tuple #[.int .i64 (i : Nat), .bool b]) ∧ Below w.heap.size w w' ∧ atV is num = if b then (i : Int) else -1 := by
 have HI := Lib.hid hI
 go_enter Tryz.func133, Tryz.ntmps133
 clear hI
 go_wp2_with fail
 go_loopw [9, 10] (fun iv jv wr => ∃ i j : Nat, iv = .int .i64 i ∧ jv = .int .i64 j ∧ i ≤ j ∧ j ≤ n ∧ (∀ (k : Nat) (x : Ino), k < i → is[k]? = some x → x.num < num) ∧ (∀ (k : Nat) (x : Ino), j ≤ k → is[k]? = some x → num ≤ x.num) ∧ Below w.heap.size w wr) (fun iv jv _ => (intOf jv).toNat - (intOf iv).toNat)
 case atStart => exact ⟨0, n, rfl, rfl, by omega, by omega, fun k x hk => by omega, fun k x hk hx => by have := (List.getElem?_eq_some_iff.1 hx).1; have := HI.out.1; omega, Below.refl _ _⟩
 case round =>
  obtain ⟨i, j, rfl, rfl, hij, hjn, hlo, hhi, hbel⟩ := hrel
  have HB := Lib.hid hbel
  have HIr := Lib.hid (HI.out.below hbel)
  have HLO := Lib.hid hlo
  have HHI := Lib.hid hhi
  clear hbel hlo hhi
  by_cases hlt : i < j
  ·obtain ⟨h, hh⟩ : ∃ h, (i + j) / 2 = h := ⟨_, rfl⟩
   have hh1 : i ≤ h := by omega
   have hh2 : h < j := by omega
   obtain ⟨g, off, x, E, m, d, rfl, hg, hx, hd, hmem, c0, c1, c2, c3, hok, hE⟩ := HIr.out.get h (by omega)
   have HHH := Lib.hid hh
   have hx2 : is[h]? = some x := hx
   have HX := Lib.hid hx2
   have HRR := Lib.hid hr
   have HHH2 : Hid (h < j) := Lib.hid hh2
   clear hx2
   go_wp2_with fail
   refine (cmp_any _ _ _ _ num x.num _ rfl).mono ?_
   rintro e5 w5 ⟨rfl, hb5⟩
   have e2 : ((i : Int) + (j : Int)) / 2 = (h : Int) := by have := HHH.out; omega
   rw [e2]
   have HB5 := Lib.hid (HB.out.trans (hb5.mono HB.out.size))
   clear hb5 c0 c1 c2 c3
   by_cases hc : x.num < num
   ·have q1 : cmpI x.num num = -1 := by unfold cmpI; rw [if_pos hc]
    rw [q1]
    clear q1
    go_wp2_with fail
    go_roundw
    case rel => exact ⟨h + 1, j, by go_num, rfl, by omega, hjn, fun k y hk hy => by
     by_cases e : k = h
     ·subst e
      have := HX.out
      rw [hy] at this
      cases this
      exact hc
     ·have := HRR.out k h y x (by omega) hy HX.out
      omega, HHI.out, HB5.out⟩
    case measure => simp [intOf]; omega
   ·have q1 : decide (cmpI x.num num < 0) = false := by unfold cmpI; rw [if_neg hc]; split <;> rfl
    go_wp2_with fail
    go_roundw
    case rel => exact ⟨i, h, rfl, rfl, hh1, by omega, HLO.out, fun k y hk hy => by
     by_cases e : k = h
     ·subst e
      have := HX.out
      rw [hy] at this
      cases this
      omega
     ·have := HRR.out h k x y (by omega) HX.out hy
      omega, HB5.out⟩
    case measure => simp [intOf]; omega
  ·have eij : j = i := by omega
   subst eij
   by_cases hin : j < n
   ·obtain ⟨g, off, x, E, m, d, rfl, hg, hx, hd, hmem, c0, c1, c2, c3, hok, hE⟩ := HIr.out.get j hin
    have HX := Lib.hid hx
    have HRR := Lib.hid hr
    go_wp2_with fail
    refine (cmp_any _ _ _ _ num x.num _ rfl).mono ?_
    rintro e5 w5 ⟨rfl, hb5⟩
    have HB5 := Lib.hid (HB.out.trans (hb5.mono HB.out.size))
    clear hb5 c0 c1 c2 c3
    by_cases hc : x.num = num
    ·have q1 : cmpI x.num num = 0 := by unfold cmpI; rw [if_neg (by omega), if_neg (by omega)]
     rw [q1]
     clear q1
     go_wp2_with fail
     go_ret2
     refine ⟨j, true, rfl, HB5.out, ?_⟩
     rw [if_pos rfl]
     exact atV_of_rise HRR.out HX.out hc
    ·have q1 : (cmpI x.num num == 0) = false := by unfold cmpI; rw [beq_eq_false_iff_ne]; split; omega; split <;> omega
     go_wp2_with fail
     go_ret2
     refine ⟨j, false, rfl, HB5.out, ?_⟩
     rw [if_neg (by decide)]
     refine atV_none fun y hy => ?_
     obtain ⟨k, hk⟩ := List.getElem?_of_mem hy
     by_cases e1 : k < j
     ·have := HLO.out k y e1 hk; omega
     ·by_cases e2 : k = j
      ·subst e2
       have := HX.out
       rw [hk] at this
       cases this
       exact hc
      ·have h1 := HRR.out j k x y (by omega) HX.out hk
       have h2 := HHI.out j x (by omega) HX.out
       omega
   ·have q1 : decide ((j : Int) < (n : Int)) = false := by rw [decide_eq_false_iff_not]; omega
    clear hlt
    go_wp2_with fail
    go_ret2
    refine ⟨j, false, rfl, HB.out, ?_⟩
    rw [if_neg (by decide)]
    refine atV_none fun y hy => ?_
    obtain ⟨k, hk⟩ := List.getElem?_of_mem hy
    have h1 := (List.getElem?_eq_some_iff.1 hk).1
    have h2 := HIr.out.1
    have := HLO.out k y (by omega) hk
    omega
theorem PtrAt.val {w : World} {p : Nat} {s : St} (h : PtrAt w p s) : ∃ A n c E m d D k e, p < w.heap.size ∧ w.cell? ⟨p, 0, none⟩ = some (.slice A n c) ∧ w.cell? ⟨p, 1, none⟩ = some (.slice E m d) ∧ w.cell? ⟨p, 2, none⟩ = some (.slice D k e) ∧
  InosAt none w A n s.inos ∧ DescsAt none w E m s.opn ∧ IntsAt none w D k s.made ∧ n ≤ 1099511627776 ∧ m ≤ 1099511627776 ∧ k ≤ 1099511627776 := by
 obtain ⟨⟨A, n, c, E, m, d, D, k, e, h1, h2, h3, h4, h5, h6, h7⟩, hz⟩ := h
 have hbig := hz.big
 have l1 := h2.1
 have l2 := h3.1
 have l3 := h4.1
 refine ⟨A, n, c, E, m, d, D, k, e, (Array.getElem?_eq_some_iff.1 h1).1, ?_, ?_, ?_, h2, h3, h4, by omega, by omega, by omega⟩ <;> (rw [cell_of_row w p _ _ _ (0, 0) h1]; rfl)
set_option maxRecDepth 100000 in
set_option maxHeartbeats 4000000 in
theorem mfind_any (p : Nat) (s : St) (num : Int) (w : World) (h : PtrAt w p s) (hr : RiseI s.inos) :
  Calls Tryz.prog 140 #[.pointer (some ⟨p, 0, .none⟩), .int .i64 num] w fun e w' => e = .returned (.int .i64 (atV s.inos num)) ∧ Below w.heap.size w w' := by
 obtain ⟨A, n, c, E, m, d, D, k, e, hp, c0, c1, c2, hI, hD, hM, hn, _, _⟩ := h.val
 obtain ⟨R, hR⟩ : ∃ R, atV s.inos num = R := ⟨_, rfl⟩
 rw [hR]
 go_enter Tryz.func140, Tryz.ntmps140
 go_wp2_with fail
 refine (bsearch_any s.inos A n c num w hI hn hr).mono ?_
 rintro e1 w1 ⟨i, b, rfl, hb, hat⟩
 rw [hR] at hat
 cases b
 ·rw [if_neg (by decide)] at hat
  subst hat
  go_wp2_with fail
  go_ret
  exact ⟨rfl, hb⟩
 ·rw [if_pos rfl] at hat
  subst hat
  go_wp2_with fail
  go_ret
  exact ⟨rfl, hb⟩
theorem made1_any (x : Int) (w : World) : Calls Tryz.prog 171 #[.int .i64 x] w fun e w' => e = .returned (.bool (decide (x < 0) || decide (32 < x))) ∧ w = w' := by
 go_enter Tryz.func171, Tryz.ntmps171
 by_cases h1 : x < 0
 ·have q1 : decide (x < 0) = true := decide_eq_true h1
  go_wp2_with fail
  go_ret
  exact ⟨by rw [q1]; rfl, rfl⟩
 ·have q1 : decide (x < 0) = false := decide_eq_false h1
  go_wp2_with fail
  go_ret
  exact ⟨by first | rfl | (rw [q1]; rfl), rfl⟩
set_option maxRecDepth 100000 in
set_option maxHeartbeats 4000000 in
theorem indexmade_any (xs : List Int) (A : Option Addr) (n c : Nat) (w : World) (hI : IntsAt none w A n xs) (hn : n ≤ 1099511627776) :
  Calls Tryz.prog 203 #[.slice A n c, .func (.func 171) #[] #[]] w fun e w' => ∃ r : Int, e = .returned (.int .i64 r) ∧ w = w' ∧ (madeG xs = decide (r < 0)) := by
 obtain ⟨R, hR⟩ : ∃ R, madeG xs = R := ⟨_, rfl⟩
 rw [hR]
 have HI := Lib.hid hI
 have HR := Lib.hid hR
 clear hI hR
 go_enter Tryz.func203, Tryz.ntmps203
 go_wp2_with fail
 go_loop [8] (fun j => ∃ q : Nat, j = .int .i64 q ∧ q ≤ n ∧ madeG (xs.drop q) = R) (fun j => n - (intOf j).toNat)
 case atStart => exact ⟨0, rfl, by omega, HR.out⟩
 case round =>
  obtain ⟨q, rfl, hq, hc⟩ := hrel
  by_cases hlt : q < n
  ·obtain ⟨g, off, x, rfl, hg, hx, hd, hmem, c0⟩ := HI.out.get q hlt
   rw [hd, madeG] at hc
   have HC := Lib.hid hc
   have k0 : (0 : Int) ≤ (q : Int) := by omega
   clear hc hd hmem hx
   go_wp2_with fail
   refine (made1_any x _).mono ?_
   rintro e5 w5 ⟨rfl, rfl⟩
   obtain ⟨bb, hbb⟩ : ∃ bb, (decide (x < 0) || decide (32 < x)) = bb := ⟨_, rfl⟩
   rw [hbb]
   have hc := HC.out
   cases bb
   ·have hnx : ¬(x < 0 ∨ 32 < x) := by
     rw [Bool.or_eq_false_iff, decide_eq_false_iff_not, decide_eq_false_iff_not] at hbb
     omega
    rw [if_neg hnx] at hc
    have HC2 := Lib.hid hc
    clear hc hbb
    go_wp2_with fail
    go_round
    case rel => exact ⟨q + 1, by go_num, by omega, HC2.out⟩
    case measure => simp [intOf]; omega
   ·have hnx : x < 0 ∨ 32 < x := by
     rw [Bool.or_eq_true, decide_eq_true_eq, decide_eq_true_eq] at hbb
     exact hbb
    rw [if_pos hnx] at hc
    have HC2 := Lib.hid hc
    clear hc hbb
    go_wp2_with fail
    go_ret
    refine ⟨(q : Int), rfl, rfl, ?_⟩
    rw [← HC2.out, decide_eq_false (show ¬ (q : Int) < 0 by omega)]
  ·have hnil : xs.drop q = [] := List.drop_eq_nil_of_le (by have := HI.out.1; omega)
   rw [hnil, madeG] at hc
   have HC := Lib.hid hc
   clear hc hnil
   go_wp2_with fail
   go_ret
   exact ⟨-1, rfl, rfl, HC.out.symm⟩
theorem containsmade_any (xs : List Int) (A : Option Addr) (n c : Nat) (w : World) (hI : IntsAt none w A n xs) (hn : n ≤ 1099511627776) :
  Calls Tryz.prog 170 #[.slice A n c, .func (.func 171) #[] #[]] w fun e w' => e = .returned (.bool (!madeG xs)) ∧ w = w' := by
 go_enter Tryz.func170, Tryz.ntmps170
 go_wp2_with fail
 refine (indexmade_any xs A n c w hI hn).mono ?_
 rintro e5 w5 ⟨r, rfl, rfl, hr⟩
 by_cases h0 : 0 ≤ r
 ·have q0 : decide ((0 : Int) ≤ r) = true := decide_eq_true h0
  go_wp2_with fail
  go_ret
  exact ⟨by rw [hr, decide_eq_false (by omega)]; rfl, rfl⟩
 ·have q0 : decide ((0 : Int) ≤ r) = false := decide_eq_false h0
  go_wp2_with fail
  go_ret
  exact ⟨by rw [hr, decide_eq_true (by omega)]; rfl, rfl⟩
def mMadeV (s : St) : Bool := decide (1 ≤ s.made.length) && decide (s.made.length ≤ 8) && madeG s.made
set_option maxRecDepth 100000 in
set_option maxHeartbeats 4000000 in
theorem maymade_any (p : Nat) (s : St) (w : World) (h : PtrAt w p s) :
  Calls Tryz.prog 118 #[.pointer (some ⟨p, 0, .none⟩)] w fun e w' => e = .returned (.bool (mMadeV s)) ∧ w = w' := by
 obtain ⟨A, n, c, E, m, d, D, k, e, hp, c0, c1, c2, hI, hD, hM, hn, _, hk⟩ := h.val
 have hkl := hM.1
 go_enter Tryz.func118, Tryz.ntmps118
 unfold mMadeV
 by_cases h1 : 1 ≤ k
 ·by_cases h8 : k ≤ 8
  ·have q1 : decide ((k : Int) < 1) = false := by rw [decide_eq_false_iff_not]; omega
   have q8 : decide ((8 : Int) < (k : Int)) = false := by rw [decide_eq_false_iff_not]; omega
   go_wp2_with fail
   refine (containsmade_any s.made D k e _ hM hk).mono ?_
   rintro e5 w5 ⟨rfl, rfl⟩
   go_wp2_with fail
   go_ret
   exact ⟨by rw [decide_eq_true (show 1 ≤ s.made.length by omega), decide_eq_true (show s.made.length ≤ 8 by omega)]; simp, rfl⟩
  ·have q1 : decide ((k : Int) < 1) = false := by rw [decide_eq_false_iff_not]; omega
   have q8 : decide ((8 : Int) < (k : Int)) = true := by rw [decide_eq_true_eq]; omega
   go_wp2_with fail
   go_ret
   exact ⟨by rw [decide_eq_false (show ¬ s.made.length ≤ 8 by omega)]; simp, rfl⟩
 ·have q1 : decide ((k : Int) < 1) = true := by rw [decide_eq_true_eq]; omega
  go_wp2_with fail
  go_ret
  exact ⟨by rw [decide_eq_false (show ¬ 1 ≤ s.made.length by omega)]; simp, rfl⟩
theorem core_any (num : Int) (h1 : -9223372036854775808 ≤ num) (h2 : num ≤ 9223372036854775807) (w : World) :
  Calls Tryz.prog 204 #[.int .i64 num] w fun e w' => e = .returned (.int .i64 (if num < 2 then -1 else (num - 2) % 8)) ∧ w = w' := by
 go_enter Tryz.func204, Tryz.ntmps204
 by_cases h : num < 2
 ·have q : decide (num < 2) = true := decide_eq_true h
  rw [if_pos h]
  go_wp2_with fail
  go_ret
  exact ⟨rfl, rfl⟩
 ·have q : decide (num < 2) = false := decide_eq_false h
  rw [if_neg h]
  have e1 : (num - 2).tmod 8 = (num - 2) % 8 := Int.tmod_eq_emod_of_nonneg (by omega)
  have w1 : IntKind.i64.wrap (num - 2) = num - 2 := by rw [IntKind.wrap_i64]; omega
  have w2 : IntKind.i64.wrap ((num - 2) % 8) = (num - 2) % 8 := by rw [IntKind.wrap_i64]; omega
  go_wp2_with fail
  go_ret
  exact ⟨rfl, rfl⟩
theorem made_any (num : Int) (h1 : 2 ≤ num) (h2 : num ≤ 9223372036854775807) (w : World) :
  Calls Tryz.prog 205 #[.int .i64 num] w fun e w' => e = .returned (.int .i64 ((num - 2) / 8)) ∧ w = w' := by
 go_enter Tryz.func205, Tryz.ntmps205
 have e1 : (num - 2).tdiv 8 = (num - 2) / 8 := Int.tdiv_eq_ediv_of_nonneg (by omega)
 have w1 : IntKind.i64.wrap (num - 2) = num - 2 := by rw [IntKind.wrap_i64]; omega
 have w2 : IntKind.i64.wrap ((num - 2) / 8) = (num - 2) / 8 := by rw [IntKind.wrap_i64]; omega
 go_wp2_with fail
 go_ret
 exact ⟨rfl, rfl⟩
theorem bytesLess_eq : ∀ (a b : List UInt8), Op.bytesLess a b = ltB a b
 | [], [] => rfl
 | [], _ :: _ => rfl
 | _ :: _, [] => rfl
 | a :: al, b :: bl => by
  unfold Op.bytesLess ltB
  rw [bytesLess_eq al bl]
  by_cases h : a = b
  ·subst h
   rw [if_pos rfl]
   simp
  ·rw [if_neg h]
   have : (a == b) = false := by rw [beq_eq_false_iff_ne]; exact h
   simp [this]
theorem bucketm_any (s : ByteArray) (w : World) (hs : s.size ≤ maxLen) :
  Calls Tryz.prog 33 #[.string s] w fun e w' => e = .returned (.int .i64 ((bktB s : Nat) : Int)) ∧ Below w.heap.size w w' := by
 have h1 : hashL s.data.toList % 8 < 8 := Nat.mod_lt _ (by omega)
 obtain ⟨H, hH⟩ : ∃ H, hashL s.data.toList = H := ⟨_, rfl⟩
 have hb : bktB s = H % 8 := by unfold bktB; rw [hH]
 rw [hb]
 go_enter Tryz.func33, Tryz.ntmps33
 go_wp2_with fail
 refine (hash_any s _ hs).mono ?_
 rintro e w1 ⟨rfl, hbl⟩
 rw [hH]
 have e1 : (H : Int).tmod 8 = ((H % 8 : Nat) : Int) := rfl
 go_wp2_with fail
 go_ret
 exact ⟨by first | rfl | simp, hbl⟩
set_option maxRecDepth 100000 in
set_option maxHeartbeats 4000000 in
theorem maynum_any (p : Nat) (s : St) (num : Int) (w : World) (h : PtrAt w p s) (h1 : -9223372036854775808 ≤ num) (h2 : num ≤ 9223372036854775807) :
  Calls Tryz.prog 172 #[.pointer (some ⟨p, 0, .none⟩), .int .i64 num] w fun e w' => e = .returned (.bool (givenV s.made num)) ∧ Below w.heap.size w w' := by
 obtain ⟨A, n, c, E, m, d, D, k, e, hp, c0, c1, c2, hI, hD, hM, hn, _, hk⟩ := h.val
 have hkl := hM.1
 obtain ⟨R, hR⟩ : ∃ R, givenV s.made num = R := ⟨_, rfl⟩
 rw [hR]
 unfold givenV at hR
 have hX := @Ext.cell w
 go_enter Tryz.func172, Tryz.ntmps172
 go_wp2_with fail
 refine (core_any num h1 h2 _).mono ?_
 rintro e1 w1 ⟨rfl, rfl⟩
 by_cases hnum : num < 2
 ·rw [if_pos hnum] at hR ⊢
  subst hR
  go_wp2_with fail
  refine wre ?_
  repeat (go_big_quiet_step (fail))
  refine wpQuiet_nil ?_
  rintro w7 ⟨X, rfl⟩
  go_wp2_with fail
  go_ret
  exact ⟨rfl, X.bel⟩
 ·rw [if_neg hnum] at hR ⊢
  obtain ⟨C, hC⟩ : ∃ C : Nat, (num - 2) % 8 = (C : Int) := ⟨((num - 2) % 8).toNat, by omega⟩
  obtain ⟨Q, hQ⟩ : ∃ Q : Int, (num - 2) / 8 = Q := ⟨_, rfl⟩
  rw [hC, hQ, Int.toNat_natCast] at hR
  rw [hC]
  have q0 : decide ((0 : Int) ≤ (C : Int)) = true := by rw [decide_eq_true_eq]; omega
  by_cases hlt : C < k
  ·have q1 : decide ((C : Int) < (k : Int)) = true := by rw [decide_eq_true_eq]; omega
   obtain ⟨g, off, x, rfl, hg, hx, hd, hmem, cx⟩ := hM.get C hlt
   have hgd : s.made.getD C 0 = x := by rw [List.getD_eq_getElem?_getD, hx]; rfl
   rw [hgd, decide_eq_true (show (C : Int) < (s.made.length : Int) by omega), Bool.true_and] at hR
   subst hR
   have k0 : (0 : Int) ≤ (C : Int) := by omega
   have k1 : (C : Int) < (k : Int) := by omega
   clear hd hx hmem hgd hI hD hM
   go_wp2_with fail
   refine wre ?_
   repeat (go_big_quiet_step (first | (go_at_call 205; exact Calls.ext_of_same (by have := made_any num (by omega) h2; rw [hQ] at this; exact this _))))
   refine wpQuiet_nil ?_
   rintro w7 ⟨X, rfl⟩
   go_wp2_with fail
   go_ret
   exact ⟨rfl, X.bel⟩
  ·have q1 : decide ((C : Int) < (k : Int)) = false := by rw [decide_eq_false_iff_not]; omega
   rw [decide_eq_false (show ¬ (C : Int) < (s.made.length : Int) by omega), Bool.false_and] at hR
   subst hR
   go_wp2_with fail
   refine wre ?_
   repeat (go_big_quiet_step (fail))
   refine wpQuiet_nil ?_
   rintro w7 ⟨X, rfl⟩
   go_wp2_with fail
   go_ret
   exact ⟨rfl, X.bel⟩
def ManyT (w : World) (M : Nat) (f : Nat → Nat) : Prop := ∃ (cur : Array Value) (t : TypeId), w.heap[M]? = some (.cells cur t (0, 0)) ∧ ∀ j, j < 8 → cur[j]? = some (.int .i64 (f j : Nat))
theorem ManyT.lt {w : World} {M : Nat} {f : Nat → Nat} (h : ManyT w M f) : M < w.heap.size := by
 obtain ⟨cur, t, hh, _⟩ := h
 exact (Array.getElem?_eq_some_iff.1 hh).1
theorem ManyT.below {w w' : World} {M : Nat} {f : Nat → Nat} (h : ManyT w M f) (hb : Below w.heap.size w w') : ManyT w' M f := by
 have hl := h.lt
 obtain ⟨cur, t, hh, hc⟩ := h
 exact ⟨cur, t, (hb.block M hl).trans hh, hc⟩
theorem ManyT.get {w : World} {M : Nat} {f : Nat → Nat} (h : ManyT w M f) (j : Nat) (hj : j < 8) : w.cell? ⟨M, j, .none⟩ = some (.int .i64 (f j : Nat)) ∧ w.frozen? ⟨M, j, .none⟩ = false := by
 obtain ⟨cur, t, hh, hc⟩ := h
 exact ⟨by rw [cell_of_row w M j cur _ (0, 0) hh]; exact hc j hj, frozen_of_row w M j cur _ hh⟩
theorem ManyT.set {w : World} {M : Nat} {f : Nat → Nat} (h : ManyT w M f) (b : Nat) (hb : b < 8) : ManyT (w.setCell ⟨M, b, .none⟩ (.int .i64 ((f b : Int) + 1))) M (fun j => if j = b then f j + 1 else f j) := by
 obtain ⟨cur, t, hh, hc⟩ := h
 refine ⟨_, t, heap_setCell_same w M b cur _ _ hh, fun j hj => ?_⟩
 rw [Array.getElem?_setIfInBounds]
 by_cases e : b = j
 ·subst e
  have : b < cur.size := (Array.getElem?_eq_some_iff.1 (hc b hb)).1
  simp [this]
 ·have e2 : ¬ j = b := fun h => e h.symm
  simp only [e, e2, if_false]
  exact hc j hj
theorem many_arr (w : World) (t : TypeId) : ∃ W, w.alloc (.cells #[.int .i64 0, .int .i64 0, .int .i64 0, .int .i64 0, .int .i64 0, .int .i64 0, .int .i64 0, .int .i64 0] t) = W ∧ ManyT W w.heap.size (fun _ => 0) ∧ Below w.heap.size w W := by
 refine ⟨_, rfl, ⟨_, t, heap_alloc_new w _, fun j hj => ?_⟩, (Below.refl _ _).alloc (Nat.le_refl _) _⟩
 have : j = 0 ∨ j = 1 ∨ j = 2 ∨ j = 3 ∨ j = 4 ∨ j = 5 ∨ j = 6 ∨ j = 7 := by omega
 rcases this with h | h | h | h | h | h | h | h <;> subst h <;> rfl
def cmpV (a b : ByteArray) : Int := Lib.compareBytes a.data.toList b.data.toList
theorem cmpL_lt : ∀ (a b : List UInt8), Lib.compareBytes a b < 0 ↔ ltB a b = true
 | [], [] => by simp [Lib.compareBytes, ltB]
 | [], _ :: _ => by simp [Lib.compareBytes, ltB]
 | _ :: _, [] => by simp [Lib.compareBytes, ltB]
 | a :: al, b :: bl => by
  unfold Lib.compareBytes ltB
  by_cases h1 : a < b
  ·have : a ≠ b := fun e => by subst e; exact absurd h1 (UInt8.lt_irrefl _)
   rw [if_pos h1, if_neg this]
   simp [h1]
  ·rw [if_neg h1]
   by_cases h2 : b < a
   ·have : a ≠ b := fun e => by subst e; exact absurd h2 (UInt8.lt_irrefl _)
    rw [if_pos h2, if_neg this]
    simp [h1]
   ·have : a = b := UInt8.le_antisymm (UInt8.not_lt.1 h2) (UInt8.not_lt.1 h1)
    rw [if_neg h2, if_pos this]
    exact cmpL_lt al bl
theorem cmpL_eq0 : ∀ (a b : List UInt8), Lib.compareBytes a b = 0 ↔ a = b
 | [], [] => by simp [Lib.compareBytes]
 | [], _ :: _ => by simp [Lib.compareBytes]
 | _ :: _, [] => by simp [Lib.compareBytes]
 | a :: al, b :: bl => by
  unfold Lib.compareBytes
  by_cases h1 : a < b
  ·have : a ≠ b := fun e => by subst e; exact absurd h1 (UInt8.lt_irrefl _)
   rw [if_pos h1]
   simp [this]
  ·rw [if_neg h1]
   by_cases h2 : b < a
   ·have : a ≠ b := fun e => by subst e; exact absurd h2 (UInt8.lt_irrefl _)
    rw [if_pos h2]
    simp [this]
   ·have : a = b := UInt8.le_antisymm (UInt8.not_lt.1 h2) (UInt8.not_lt.1 h1)
    rw [if_neg h2, this, cmpL_eq0 al bl]
    simp
theorem cmpV_lt (a b : ByteArray) : cmpV a b < 0 ↔ ltN a b = true := cmpL_lt _ _
theorem cmpV_eq (a b : ByteArray) : cmpV a b = 0 ↔ a = b := by
 unfold cmpV
 rw [cmpL_eq0]
 constructor
 ·intro h
  cases a; cases b
  exact congrArg ByteArray.mk (Array.toList_inj.1 h)
 ·intro h; rw [h]
theorem ltB_trans : ∀ (a b c : List UInt8), ltB a b = true → ltB b c = true → ltB a c = true
 | [], [], _, h, _ => by simp [ltB] at h
 | [], _ :: _, [], _, h => by simp [ltB] at h
 | [], _ :: _, _ :: _, _, _ => rfl
 | _ :: _, [], _, h, _ => by simp [ltB] at h
 | _ :: _, _ :: _, [], _, h => by simp [ltB] at h
 | a :: al, b :: bl, c :: cl, h1, h2 => by
  unfold ltB at h1 h2 ⊢
  by_cases e1 : a = b
  ·subst e1
   rw [if_pos rfl] at h1
   by_cases e2 : a = c
   ·subst e2
    rw [if_pos rfl] at h2 ⊢
    exact ltB_trans al bl cl h1 h2
   ·rw [if_neg e2] at h2 ⊢
    exact h2
  ·rw [if_neg e1, decide_eq_true_eq] at h1
   by_cases e2 : b = c
   ·subst e2
    rw [if_neg e1, decide_eq_true_eq]
    exact h1
   ·rw [if_neg e2, decide_eq_true_eq] at h2
    have h3 := UInt8.lt_trans h1 h2
    have e3 : a ≠ c := fun e => by subst e; exact absurd h3 (UInt8.lt_irrefl _)
    rw [if_neg e3, decide_eq_true_eq]
    exact h3
theorem ltN_trans {a b c : ByteArray} (h1 : ltN a b = true) (h2 : ltN b c = true) : ltN a c = true := ltB_trans _ _ _ h1 h2
def RiseE (es : List En) : Prop := ∀ (i j : Nat) (x y : En), i < j → es[i]? = some x → es[j]? = some y → ltN x.name y.name = true
structure EnPos (es : List En) (nm : ByteArray) (i : Nat) (b : Bool) : Prop where
 le : i ≤ es.length
 lo : ∀ (k : Nat) (x : En), k < i → es[k]? = some x → ltN x.name nm = true
 hi : ∀ (k : Nat) (x : En), i ≤ k → es[k]? = some x → ltN x.name nm = false
 is_ : b = true → ∃ e, es[i]? = some e ∧ e.name = nm
 of_ : (∃ e, es[i]? = some e ∧ e.name = nm) → b = true
theorem compare_any (a b : ByteArray) (w : World) : Calls Tryz.prog 188 #[.string a, .string b] w fun e w' => e = .returned (.int .i64 (cmpV a b)) ∧ w = w' := by
 have hx : ∀ w, (callFunc 220 #[.string a, .string b]).run Tryz.prog w = .ok (.value (.int .i64 (cmpV a b))) w := fun w => by
  rw [run_callFunc_extern Tryz.func220 (by kernel_rfl) (by kernel_rfl) (by kernel_rfl) (e := Extern.BytealgCompare.compare) (by kernel_rfl), Lib.run_compareString]
  rfl
 go_enter Tryz.func188, Tryz.ntmps188
 go_wp2
 go_ret
 exact ⟨rfl, rfl⟩
theorem cmpE_any (name : ByteArray) (num : Int) (nm : ByteArray) (w : World) :
  Calls Tryz.prog 187 #[.agg #[.string name, .int .i64 num], .string nm] w fun e w' => e = .returned (.int .i64 (cmpV name nm)) ∧ Below w.heap.size w w' := by
 go_enter Tryz.func187, Tryz.ntmps187
 go_wp2_with fail
 refine (compare_any name nm _).mono ?_
 rintro e w1 ⟨rfl, rfl⟩
 go_wp2_with fail
 go_ret
 exact ⟨rfl, (Below.refl _ _).alloc (Nat.le_refl _) _⟩
set_option maxRecDepth 100000 in
set_option maxHeartbeats 4000000 in
theorem bsearchE_any (es : List En) (A : Option Addr) (n c : Nat) (nm : ByteArray) (w : World) (hI : EntsAt none w A n es) (hn : n ≤ 1099511627776) (hr : RiseE es) :
  Calls Tryz.prog 186 #[.slice A n c, .string nm, .func (.func 187) #[] #[]] w fun e w' => ∃ i b, e = .returned (.tuple #[.int .i64 (i : Nat), .bool b]) ∧ Below w.heap.size w w' ∧ EnPos es nm i b := by
 have HI := Lib.hid hI
 go_enter Tryz.func186, Tryz.ntmps186
 clear hI
 go_wp2_with fail
 go_loopw [9, 10] (fun iv jv wr => ∃ i j : Nat, iv = .int .i64 i ∧ jv = .int .i64 j ∧ i ≤ j ∧ j ≤ n ∧ (∀ (k : Nat) (x : En), k < i → es[k]? = some x → ltN x.name nm = true) ∧ (∀ (k : Nat) (x : En), j ≤ k → es[k]? = some x → ltN x.name nm = false) ∧ Below w.heap.size w wr) (fun iv jv _ => (intOf jv).toNat - (intOf iv).toNat)
 case atStart => exact ⟨0, n, rfl, rfl, by omega, by omega, fun k x hk => by omega, fun k x hk hx => by have := (List.getElem?_eq_some_iff.1 hx).1; have := HI.out.1; omega, Below.refl _ _⟩
 case round =>
  obtain ⟨i, j, rfl, rfl, hij, hjn, hlo, hhi, hbel⟩ := hrel
  have HB := Lib.hid hbel
  have HIr := Lib.hid (HI.out.below hbel)
  have HLO := Lib.hid hlo
  have HHI := Lib.hid hhi
  clear hbel hlo hhi
  by_cases hlt : i < j
  ·obtain ⟨h, hh⟩ : ∃ h, (i + j) / 2 = h := ⟨_, rfl⟩
   have hh1 : i ≤ h := by omega
   have hh2 : h < j := by omega
   obtain ⟨g, off, x, rfl, hg, hx, hd, hmem, c0, c1⟩ := HIr.out.get h (by omega)
   have HHH := Lib.hid hh
   have hx2 : es[h]? = some x := hx
   have HX := Lib.hid hx2
   have HRR := Lib.hid hr
   have HHH2 : Hid (h < j) := Lib.hid hh2
   clear hx2
   go_wp2_with fail
   refine (cmpE_any x.name x.num nm _).mono ?_
   rintro e5 w5 ⟨rfl, hb5⟩
   have e2 : ((i : Int) + (j : Int)) / 2 = (h : Int) := by have := HHH.out; omega
   rw [e2]
   have HB5 := Lib.hid (HB.out.trans (hb5.mono HB.out.size))
   clear hb5 c0 c1
   by_cases hc : ltN x.name nm = true
   ·have q1 : decide (cmpV x.name nm < 0) = true := by rw [decide_eq_true_eq]; exact (cmpV_lt _ _).2 hc
    go_wp2_with fail
    go_roundw
    case rel => exact ⟨h + 1, j, by go_num, rfl, by omega, hjn, fun k y hk hy => by
     by_cases e : k = h
     ·subst e
      have := HX.out
      rw [hy] at this
      cases this
      exact hc
     ·exact ltN_trans (HRR.out k h y x (by omega) hy HX.out) hc, HHI.out, HB5.out⟩
    case measure => simp [intOf]; omega
   ·have q1 : decide (cmpV x.name nm < 0) = false := by rw [decide_eq_false_iff_not]; exact fun h => hc ((cmpV_lt _ _).1 h)
    go_wp2_with fail
    go_roundw
    case rel => exact ⟨i, h, rfl, rfl, hh1, by omega, HLO.out, fun k y hk hy => by
     by_cases e : k = h
     ·subst e
      have := HX.out
      rw [hy] at this
      have e9 : y = x := Option.some.inj this
      rw [e9]
      exact Bool.eq_false_iff.2 hc
     ·cases hv : ltN y.name nm
      ·rfl
      ·exact absurd (ltN_trans (HRR.out h k x y (by omega) HX.out hy) hv) hc, HB5.out⟩
    case measure => simp [intOf]; omega
  ·have eij : j = i := by omega
   subst eij
   by_cases hin : j < n
   ·obtain ⟨g, off, x, rfl, hg, hx, hd, hmem, c0, c1⟩ := HIr.out.get j hin
    have HX := Lib.hid hx
    have HRR := Lib.hid hr
    go_wp2_with fail
    refine (cmpE_any x.name x.num nm _).mono ?_
    rintro e5 w5 ⟨rfl, hb5⟩
    have HB5 := Lib.hid (HB.out.trans (hb5.mono HB.out.size))
    clear hb5 c0 c1
    by_cases hc : x.name = nm
    ·have q1 : cmpV x.name nm = 0 := (cmpV_eq _ _).2 hc
     rw [q1]
     clear q1
     go_wp2_with fail
     go_ret2
     exact ⟨j, true, rfl, HB5.out, by have := HIr.out.1; omega, HLO.out, HHI.out, fun _ => ⟨x, HX.out, hc⟩, fun _ => rfl⟩
    ·have q1 : (cmpV x.name nm == 0) = false := by rw [beq_eq_false_iff_ne]; exact fun h => hc ((cmpV_eq _ _).1 h)
     go_wp2_with fail
     go_ret2
     refine ⟨j, false, rfl, HB5.out, by have := HIr.out.1; omega, HLO.out, HHI.out, (fun h => by cases h), fun h => ?_⟩
     obtain ⟨e, he, hen⟩ := h
     rw [HX.out] at he
     cases he
     exact absurd hen hc
   ·have q1 : decide ((j : Int) < (n : Int)) = false := by rw [decide_eq_false_iff_not]; omega
    clear hlt
    go_wp2_with fail
    go_ret2
    refine ⟨j, false, rfl, HB.out, by have := HIr.out.1; omega, HLO.out, HHI.out, (fun h => by cases h), fun h => ?_⟩
    obtain ⟨e, he, _⟩ := h
    have h1 := (List.getElem?_eq_some_iff.1 he).1
    have h2 := HIr.out.1
    omega
theorem mentry_any (es : List En) (A : Option Addr) (n c : Nat) (nm : ByteArray) (w : World) (hI : EntsAt none w A n es) (hn : n ≤ 1099511627776) (hr : RiseE es) :
  Calls Tryz.prog 128 #[.slice A n c, .string nm] w fun e w' => ∃ i b, e = .returned (.tuple #[.int .i64 (i : Nat), .bool b]) ∧ Below w.heap.size w w' ∧ EnPos es nm i b := by
 go_enter Tryz.func128, Tryz.ntmps128
 go_wp2_with fail
 refine (bsearchE_any es A n c nm _ hI hn hr).mono ?_
 rintro e w1 ⟨i, b, rfl, hb, hp⟩
 go_wp2_with fail
 go_ret2
 exact ⟨i, b, rfl, hb, hp⟩
theorem bulkE_modify (f : List En → List En) (hf : ∀ es, (f es).length ≤ es.length) : ∀ (is : List Ino) (i : Nat), bulkE (is.modify i fun x => { x with ents := f x.ents }) ≤ bulkE is
 | [], _ => by simp
 | x :: xs, 0 => by
  have := hf x.ents
  show (f x.ents).length + bulkE xs ≤ x.ents.length + bulkE xs
  omega
 | x :: xs, i + 1 => by
  have := bulkE_modify f hf xs i
  show x.ents.length + bulkE (xs.modify i _) ≤ x.ents.length + bulkE xs
  omega
theorem modify_mem {α : Type} (f : α → α) : ∀ (l : List α) (i : Nat) (y : α), y ∈ l.modify i f → y ∈ l ∨ ∃ x ∈ l, y = f x
 | [], _, _, h => by simp at h
 | x :: xs, 0, y, h => by
  have h2 : y ∈ f x :: xs := h
  rcases List.mem_cons.1 h2 with rfl | h2
  ·exact .inr ⟨x, List.mem_cons_self, rfl⟩
  ·exact .inl (List.mem_cons_of_mem _ h2)
 | x :: xs, i + 1, y, h => by
  have h2 : y ∈ x :: xs.modify i f := h
  rcases List.mem_cons.1 h2 with rfl | h2
  ·exact .inl List.mem_cons_self
  ·rcases modify_mem f xs i y h2 with h3 | ⟨z, h3, h4⟩
   ·exact .inl (List.mem_cons_of_mem _ h3)
   ·exact .inr ⟨z, List.mem_cons_of_mem _ h3, h4⟩
theorem dropE_mem : ∀ (es : List En) (name : ByteArray) (e : En), e ∈ dropE es name → e ∈ es
 | [], _, _, h => by simp [dropE] at h
 | y :: es, name, e, h => by
  unfold dropE at h
  split at h
  ·exact List.mem_cons_of_mem _ (dropE_mem es name e h)
  ·rcases List.mem_cons.1 h with rfl | h
   ·exact List.mem_cons_self
   ·exact List.mem_cons_of_mem _ (dropE_mem es name e h)
theorem Sized.dropE {s : St} (h : Sized s) (dir : Int) (name : ByteArray) : Sized { s with inos := setEnts s.inos dir fun es => Go.Proofs.YtilkhmhgjbhfnaaGreatDoor.dropE es name } := by
 refine ⟨?_, fun x hx => ?_, ⟨fun x hx => ?_, h.nums.2⟩⟩
 ·have h1 := bulkE_modify (fun es => Go.Proofs.YtilkhmhgjbhfnaaGreatDoor.dropE es name) (fun es => dropE_len es name) s.inos (atV s.inos dir).toNat
  have := h.big
  have h2 : (setEnts s.inos dir fun es => Go.Proofs.YtilkhmhgjbhfnaaGreatDoor.dropE es name).length = s.inos.length := by unfold setEnts; rw [List.length_modify]
  have h3 : bulkE (setEnts s.inos dir fun es => Go.Proofs.YtilkhmhgjbhfnaaGreatDoor.dropE es name) ≤ bulkE s.inos := h1
  show (setEnts s.inos dir fun es => Go.Proofs.YtilkhmhgjbhfnaaGreatDoor.dropE es name).length + bulkE (setEnts s.inos dir fun es => Go.Proofs.YtilkhmhgjbhfnaaGreatDoor.dropE es name) + s.opn.length + s.made.length ≤ _
  omega
 ·rcases modify_mem _ _ _ _ hx with hx | ⟨z, hz, rfl⟩
  ·exact h.text x hx
  ·exact ⟨(h.text z hz).1, fun e he => (h.text z hz).2 e (dropE_mem _ _ _ he)⟩
 ·rcases modify_mem _ _ _ _ hx with hx | ⟨z, hz, rfl⟩
  ·exact h.nums.1 x hx
  ·exact ⟨(h.nums.1 z hz).1, (h.nums.1 z hz).2.1, fun e he => (h.nums.1 z hz).2.2 e (dropE_mem _ _ _ he)⟩
end Go.Proofs.YtilkhmhgjbhfnaaGreatDoor
