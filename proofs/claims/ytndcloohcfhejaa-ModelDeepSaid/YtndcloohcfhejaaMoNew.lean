/- The model's create: the place of a new number. -/
import Derived.Test.YtndcloohcfhejaaM03
import Derived.Test.YtndcloohcfhejaaM23
import Derived.Test.YtndcloohcfhejaaMoInsI
set_option linter.unusedVariables false
set_option linter.unusedSimpArgs false
namespace Go.Proofs.Ytndcloohcfhejaa
open Go.RowKit
theorem cmpc_any (x1 x2 x3 x4 : Value) (num a : Int) (w : World) (h1 : x1 = .int .i64 a) (ha : -1000000 ≤ a ∧ a ≤ 1000000) (hn : -1000000 ≤ num ∧ num ≤ 1000000) :
  Calls Try.prog 63 #[.agg #[x1, x2, x3, x4], .int .i64 num] w fun e w' => e = .returned (.int .i64 (a - num)) ∧ Below w.heap.size w w' := by
 subst h1
 have hw : IntKind.i64.wrap (a - num) = a - num := by rw [IntKind.wrap_i64]; omega
 go_enter Try.func63, Try.ntmps63
 go_wp2_with fail
 go_ret
 exact ⟨rfl, (Below.refl _ _).alloc (Nat.le_refl _) _⟩
theorem Good.fresh {s : St} (h : Good s) {core : Int} (h0 : 0 ≤ core) (h8 : core < 8) : ∀ x ∈ s.inos, x.num ≠ 2 + core + 8 * s.made.getD core.toNat 0 := by
 intro x hx he
 obtain ⟨i, hi⟩ := List.getElem?_of_mem hx
 obtain ⟨r, hr, hrn, _⟩ := h.root
 have hm0 : 0 ≤ s.made.getD core.toNat 0 := by
  rw [List.getD_eq_getElem?_getD]
  cases hq : s.made[core.toNat]? with
  | none => exact Int.le_refl _
  | some m => exact (h.mr m (List.mem_of_getElem? hq)).1
 rcases Nat.eq_zero_or_pos i with rfl | hp
 ·rw [hr] at hi
  cases hi
  omega
 ·have hg := h.given i x hp hi
  unfold givenV at hg
  rw [if_neg (by omega)] at hg
  rw [Bool.and_eq_true, decide_eq_true_eq, decide_eq_true_eq] at hg
  have e1 : (x.num - 2) % 8 = core := by omega
  have e2 : (x.num - 2) / 8 = s.made.getD core.toNat 0 := by omega
  rw [e1, e2] at hg
  omega
set_option maxRecDepth 100000 in
set_option maxHeartbeats 4000000 in
theorem bsearchC_any (is : List Ino) (A : Option Addr) (n c : Nat) (num : Int) (w : World) (hI : InosAt none w A n is) (hn : n ≤ 1099511627776) (hr : RiseI is) (hb : ∀ x ∈ is, -1000000 ≤ x.num ∧ x.num ≤ 1000000) (hnb : -1000000 ≤ num ∧ num ≤ 1000000) :
  Calls Try.prog 62 #[.slice A n c, .int .i64 num, .func (.func 63) #[] #[]] w fun e w' => ∃ i b, e = .returned (.tuple #[.int .i64 (i : Nat), .bool b]) ∧ Below w.heap.size w w' ∧ i ≤ is.length ∧ (∀ (k : Nat) (x : Ino), k < i → is[k]? = some x → x.num < num) ∧ (∀ (k : Nat) (x : Ino), i ≤ k → is[k]? = some x → num ≤ x.num) := by
 have HI := Lib.hid hI
 have HBD := Lib.hid hb
 go_enter Try.func62, Try.ntmps62
 clear hI hb
 go_wp2_with fail
 go_loopw [9, 10] (fun iv jv wr => ∃ i j : Nat, iv = .int .i64 i ∧ jv = .int .i64 j ∧ i ≤ j ∧ j ≤ n ∧ (∀ (k : Nat) (x : Ino), k < i → is[k]? = some x → x.num < num) ∧ (∀ (k : Nat) (x : Ino), j ≤ k → is[k]? = some x → num ≤ x.num) ∧ Below w.heap.size w wr) (fun iv jv _ => (intOf jv).toNat - (intOf iv).toNat)
 case atStart => exact ⟨0, n, rfl, rfl, by omega, by omega, fun k x hk => by omega, fun k x hk hx => by have := (List.getElem?_eq_some_iff.1 hx).1; have := HI.out.1; omega, Below.refl _ _⟩
 case round =>
  obtain ⟨i, j, rfl, rfl, hij, hjn, hlo, hhi, hbel⟩ := hrel
  have HB := Lib.hid hbel
  have HIr := Lib.hid (HI.out.below hbel)
  have HLO := Lib.hid hlo
  have HHI := Lib.hid hhi
  clear hbel hlo hhi
  by_cases hlt : i < j
  ·obtain ⟨h, hh⟩ : ∃ h, (i + j) / 2 = h := ⟨_, rfl⟩
   have hh1 : i ≤ h := by omega
   have hh2 : h < j := by omega
   obtain ⟨g, off, x, E, m, d, rfl, hg, hx, hd, hmem, c0, c1, c2, c3, hok, hE⟩ := HIr.out.get h (by omega)
   have HHH := Lib.hid hh
   have hx2 : is[h]? = some x := hx
   have HX := Lib.hid hx2
   have HRR := Lib.hid hr
   have HHH2 : Hid (h < j) := Lib.hid hh2
   clear hx2
   go_wp2_with fail
   refine (cmpc_any _ _ _ _ num x.num _ rfl (HBD.out x hmem) hnb).mono ?_
   rintro e5 w5 ⟨rfl, hb5⟩
   have e2 : ((i : Int) + (j : Int)) / 2 = (h : Int) := by have := HHH.out; omega
   rw [e2]
   obtain ⟨DD, hDD⟩ : ∃ DD, x.num - num = DD := ⟨_, rfl⟩
   rw [hDD]
   have HDD := Lib.hid hDD
   clear hDD
   have HB5 := Lib.hid (HB.out.trans (hb5.mono HB.out.size))
   clear hb5 c0 c1 c2 c3
   by_cases hc : x.num < num
   ·have q1 : decide (DD < 0) = true := by have := HDD.out; rw [decide_eq_true_eq]; omega
    go_wp2_with fail
    go_roundw
    case rel => exact ⟨h + 1, j, by go_num, rfl, by omega, hjn, fun k y hk hy => by
     by_cases e : k = h
     ·subst e
      have := HX.out
      rw [hy] at this
      cases this
      exact hc
     ·have := HRR.out k h y x (by omega) hy HX.out
      omega, HHI.out, HB5.out⟩
    case measure => simp [intOf]; omega
   ·have q1 : decide (DD < 0) = false := by have := HDD.out; rw [decide_eq_false_iff_not]; omega
    go_wp2_with fail
    go_roundw
    case rel => exact ⟨i, h, rfl, rfl, hh1, by omega, HLO.out, fun k y hk hy => by
     by_cases e : k = h
     ·subst e
      have := HX.out
      rw [hy] at this
      cases this
      omega
     ·have := HRR.out h k x y (by omega) HX.out hy
      omega, HB5.out⟩
    case measure => simp [intOf]; omega
  ·have eij : j = i := by omega
   subst eij
   by_cases hin : j < n
   ·obtain ⟨g, off, x, E, m, d, rfl, hg, hx, hd, hmem, c0, c1, c2, c3, hok, hE⟩ := HIr.out.get j hin
    have HX := Lib.hid hx
    have HRR := Lib.hid hr
    go_wp2_with fail
    refine (cmpc_any _ _ _ _ num x.num _ rfl (HBD.out x hmem) hnb).mono ?_
    rintro e5 w5 ⟨rfl, hb5⟩
    have HB5 := Lib.hid (HB.out.trans (hb5.mono HB.out.size))
    clear hb5 c0 c1 c2 c3
    obtain ⟨DD, hDD⟩ : ∃ DD, (x.num - num == 0) = DD := ⟨_, rfl⟩
    go_wp2_with fail
    all_goals (
     go_ret2
     exact ⟨j, _, rfl, HB5.out, by have := (List.getElem?_eq_some_iff.1 HX.out).1; omega, HLO.out, HHI.out⟩)
   ·have q1 : decide ((j : Int) < (n : Int)) = false := by rw [decide_eq_false_iff_not]; omega
    clear hlt
    go_wp2_with fail
    go_ret2
    exact ⟨j, false, rfl, HB.out, by have := HIr.out.1; omega, HLO.out, HHI.out⟩
end Go.Proofs.Ytndcloohcfhejaa
