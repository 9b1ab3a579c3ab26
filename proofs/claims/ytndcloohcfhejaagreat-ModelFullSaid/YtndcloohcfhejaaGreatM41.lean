/- Parts of the proof, side by side: AllowsC, Allows1. -/
import Derived.Test.YtndcloohcfhejaaGreatM19
import Derived.Test.YtndcloohcfhejaaGreatM10
import Derived.Test.YtndcloohcfhejaaGreatM40
set_option linter.unusedVariables false
set_option linter.unusedSimpArgs false
namespace Go.Proofs.YtndcloohcfhejaaGreat
open Go.RowKit
theorem allow1_any (g1 g2 : Nat) (CO FD a b k : Int) (w : World) (h1 : w.cell? ⟨g1, 1, .none⟩ = some (.int .i64 CO)) (h2 : w.cell? ⟨g2, 1, .none⟩ = some (.int .i64 FD)) (l1 : g1 < w.heap.size) (l2 : g2 < w.heap.size) :
  Calls Tryz.prog 47 #[.agg #[.int .i64 a, .int .i64 b, .int .i64 k], .pointer (some ⟨g1, 0, .none⟩), .pointer (some ⟨g2, 0, .none⟩)] w fun e w' => e = .returned (.bool (a == CO && b == FD)) ∧ Below w.heap.size w w' := by
 obtain ⟨V2, hV2, v0, v1, v2, hal4, hlt4⟩ := box_ds w a b k
 have z1 := (hal4.cell (p := ⟨g1, 1, .none⟩) l1).trans h1
 have z2 := (hal4.cell (p := ⟨g2, 1, .none⟩) l2).trans h2
 have HAL := Lib.hid hal4
 clear hal4
 obtain ⟨X, hX⟩ : ∃ X, (a == CO) = X := ⟨_, rfl⟩
 obtain ⟨Y, hY⟩ : ∃ Y, (b == FD) = Y := ⟨_, rfl⟩
 rw [hX, hY]
 go_enter Tryz.func47, Tryz.ntmps47
 cases X
 ·go_wp2_with fail
  go_ret
  exact ⟨by first | rfl | simp, HAL.out⟩
 ·go_wp2_with fail
  go_ret
  exact ⟨by first | rfl | simp, HAL.out⟩
set_option maxRecDepth 100000 in
set_option maxHeartbeats 4000000 in
theorem indexallow1_any (g1 g2 : Nat) (CO FD : Int) (xs : List Ds) (A : Option Addr) (n cp : Nat) (w : World) (hI : DescsAt none w A n xs) (hn : n ≤ 1099511627776) (h1 : w.cell? ⟨g1, 1, .none⟩ = some (.int .i64 CO)) (h2 : w.cell? ⟨g2, 1, .none⟩ = some (.int .i64 FD)) (l1 : g1 < w.heap.size) (l2 : g2 < w.heap.size) :
  Calls Tryz.prog 48 #[.slice A n cp, .func (.func 47) #[] #[.pointer (some ⟨g1, 0, .none⟩), .pointer (some ⟨g2, 0, .none⟩)]] w fun e w' => e = .returned (.int .i64 (fdI xs CO FD)) ∧ Below w.heap.size w w' := by
 obtain ⟨R, hR⟩ : ∃ R, fdP xs CO FD = R := ⟨_, rfl⟩
 unfold fdI
 rw [hR]
 have HI := Lib.hid hI
 have HR := Lib.hid hR
 clear hI hR
 go_enter Tryz.func48, Tryz.ntmps48
 go_wp2_with fail
 go_loopw [8] (fun j wr => ∃ r : Nat, j = .int .i64 r ∧ r ≤ n ∧ Below w.heap.size w wr ∧ (fdP (xs.drop r) CO FD).map (· + r) = R) (fun j _ => n - (intOf j).toNat)
 case atStart => exact ⟨0, rfl, by omega, Below.refl _ _, by rw [List.drop_zero, HR.out]; cases R <;> rfl⟩
 case round =>
  obtain ⟨r, rfl, hq, hbel, hc⟩ := hrel
  have HB := Lib.hid hbel
  have HIr := Lib.hid (HI.out.below hbel)
  have z1 := (hbel.cell (p := ⟨g1, 1, .none⟩) l1).trans h1
  have z2 := (hbel.cell (p := ⟨g2, 1, .none⟩) l2).trans h2
  have m1 : g1 < wr.heap.size := Nat.lt_of_lt_of_le l1 hbel.size
  have m2 : g2 < wr.heap.size := Nat.lt_of_lt_of_le l2 hbel.size
  clear hbel
  by_cases hlt : r < n
  ·obtain ⟨g, off, y, rfl, hg, hy, hd, hmem, e0, e1, e2⟩ := HIr.out.get r hlt
   rw [fdP_drop xs _ _ r y hd] at hc
   have HC := Lib.hid hc
   have k0 : (0 : Int) ≤ (r : Int) := by omega
   clear hc hd hmem hy
   go_wp2_with fail
   refine (allow1_any g1 g2 CO FD y.core y.fd y.num _ z1 z2 m1 m2).mono ?_
   rintro e5 w5 ⟨rfl, hb5⟩
   have HB5 := Lib.hid (HB.out.trans (hb5.mono HB.out.size))
   clear hb5 e0 e1 e2
   obtain ⟨bb, hbb⟩ : ∃ bb, (y.core == CO && y.fd == FD) = bb := ⟨_, rfl⟩
   rw [hbb]
   have hc := HC.out
   cases bb
   ·have hnx : ¬ (y.core = CO ∧ y.fd = FD) := fun h => by rw [h.1, h.2] at hbb; simp at hbb
    rw [if_neg hnx] at hc
    have HC2 := Lib.hid hc
    clear hc hbb hnx
    go_wp2_with fail
    go_roundw
    case rel => exact ⟨r + 1, by go_num, by omega, HB5.out, by
     rw [← HC2.out]
     cases fdP (xs.drop (r + 1)) CO FD
     ·rfl
     ·simp; omega⟩
    case measure => simp [intOf]; omega
   ·have hnx : y.core = CO ∧ y.fd = FD := by simpa using hbb
    rw [if_pos hnx] at hc
    have HC2 := Lib.hid hc
    clear hc hbb hnx
    go_wp2_with fail
    go_ret
    have h := HC2.out
    simp at h
    subst h
    exact ⟨rfl, HB5.out⟩
  ·have hnil : xs.drop r = [] := List.drop_eq_nil_of_le (by have := HI.out.1; omega)
   rw [hnil, fdP] at hc
   have HC := Lib.hid hc
   clear hc hnil
   go_wp2_with fail
   go_ret
   exact ⟨by rw [← HC.out]; rfl, HB.out⟩
theorem allow2_any (g1 g2 : Nat) (CO FD a b k : Int) (w : World) (h1 : w.cell? ⟨g1, 1, .none⟩ = some (.int .i64 CO)) (h2 : w.cell? ⟨g2, 1, .none⟩ = some (.int .i64 FD)) (l1 : g1 < w.heap.size) (l2 : g2 < w.heap.size) :
  Calls Tryz.prog 49 #[.agg #[.int .i64 a, .int .i64 b, .int .i64 k], .pointer (some ⟨g1, 0, .none⟩), .pointer (some ⟨g2, 0, .none⟩)] w fun e w' => e = .returned (.bool (a == CO && b == FD)) ∧ Below w.heap.size w w' := by
 obtain ⟨V2, hV2, v0, v1, v2, hal4, hlt4⟩ := box_ds w a b k
 have z1 := (hal4.cell (p := ⟨g1, 1, .none⟩) l1).trans h1
 have z2 := (hal4.cell (p := ⟨g2, 1, .none⟩) l2).trans h2
 have HAL := Lib.hid hal4
 clear hal4
 obtain ⟨X, hX⟩ : ∃ X, (a == CO) = X := ⟨_, rfl⟩
 obtain ⟨Y, hY⟩ : ∃ Y, (b == FD) = Y := ⟨_, rfl⟩
 rw [hX, hY]
 go_enter Tryz.func49, Tryz.ntmps49
 cases X
 ·go_wp2_with fail
  go_ret
  exact ⟨by first | rfl | simp, HAL.out⟩
 ·go_wp2_with fail
  go_ret
  exact ⟨by first | rfl | simp, HAL.out⟩
set_option maxRecDepth 100000 in
set_option maxHeartbeats 4000000 in
theorem indexallow2_any (g1 g2 : Nat) (CO FD : Int) (xs : List Ds) (A : Option Addr) (n cp : Nat) (w : World) (hI : DescsAt none w A n xs) (hn : n ≤ 1099511627776) (h1 : w.cell? ⟨g1, 1, .none⟩ = some (.int .i64 CO)) (h2 : w.cell? ⟨g2, 1, .none⟩ = some (.int .i64 FD)) (l1 : g1 < w.heap.size) (l2 : g2 < w.heap.size) :
  Calls Tryz.prog 48 #[.slice A n cp, .func (.func 49) #[] #[.pointer (some ⟨g1, 0, .none⟩), .pointer (some ⟨g2, 0, .none⟩)]] w fun e w' => e = .returned (.int .i64 (fdI xs CO FD)) ∧ Below w.heap.size w w' := by
 obtain ⟨R, hR⟩ : ∃ R, fdP xs CO FD = R := ⟨_, rfl⟩
 unfold fdI
 rw [hR]
 have HI := Lib.hid hI
 have HR := Lib.hid hR
 clear hI hR
 go_enter Tryz.func48, Tryz.ntmps48
 go_wp2_with fail
 go_loopw [8] (fun j wr => ∃ r : Nat, j = .int .i64 r ∧ r ≤ n ∧ Below w.heap.size w wr ∧ (fdP (xs.drop r) CO FD).map (· + r) = R) (fun j _ => n - (intOf j).toNat)
 case atStart => exact ⟨0, rfl, by omega, Below.refl _ _, by rw [List.drop_zero, HR.out]; cases R <;> rfl⟩
 case round =>
  obtain ⟨r, rfl, hq, hbel, hc⟩ := hrel
  have HB := Lib.hid hbel
  have HIr := Lib.hid (HI.out.below hbel)
  have z1 := (hbel.cell (p := ⟨g1, 1, .none⟩) l1).trans h1
  have z2 := (hbel.cell (p := ⟨g2, 1, .none⟩) l2).trans h2
  have m1 : g1 < wr.heap.size := Nat.lt_of_lt_of_le l1 hbel.size
  have m2 : g2 < wr.heap.size := Nat.lt_of_lt_of_le l2 hbel.size
  clear hbel
  by_cases hlt : r < n
  ·obtain ⟨g, off, y, rfl, hg, hy, hd, hmem, e0, e1, e2⟩ := HIr.out.get r hlt
   rw [fdP_drop xs _ _ r y hd] at hc
   have HC := Lib.hid hc
   have k0 : (0 : Int) ≤ (r : Int) := by omega
   clear hc hd hmem hy
   go_wp2_with fail
   refine (allow2_any g1 g2 CO FD y.core y.fd y.num _ z1 z2 m1 m2).mono ?_
   rintro e5 w5 ⟨rfl, hb5⟩
   have HB5 := Lib.hid (HB.out.trans (hb5.mono HB.out.size))
   clear hb5 e0 e1 e2
   obtain ⟨bb, hbb⟩ : ∃ bb, (y.core == CO && y.fd == FD) = bb := ⟨_, rfl⟩
   rw [hbb]
   have hc := HC.out
   cases bb
   ·have hnx : ¬ (y.core = CO ∧ y.fd = FD) := fun h => by rw [h.1, h.2] at hbb; simp at hbb
    rw [if_neg hnx] at hc
    have HC2 := Lib.hid hc
    clear hc hbb hnx
    go_wp2_with fail
    go_roundw
    case rel => exact ⟨r + 1, by go_num, by omega, HB5.out, by
     rw [← HC2.out]
     cases fdP (xs.drop (r + 1)) CO FD
     ·rfl
     ·simp; omega⟩
    case measure => simp [intOf]; omega
   ·have hnx : y.core = CO ∧ y.fd = FD := by simpa using hbb
    rw [if_pos hnx] at hc
    have HC2 := Lib.hid hc
    clear hc hbb hnx
    go_wp2_with fail
    go_ret
    have h := HC2.out
    simp at h
    subst h
    exact ⟨rfl, HB5.out⟩
  ·have hnil : xs.drop r = [] := List.drop_eq_nil_of_le (by have := HI.out.1; omega)
   rw [hnil, fdP] at hc
   have HC := Lib.hid hc
   clear hc hnil
   go_wp2_with fail
   go_ret
   exact ⟨by rw [← HC.out]; rfl, HB.out⟩
theorem containsallow_any (g1 g2 : Nat) (CO FD : Int) (xs : List Ds) (A : Option Addr) (n cp : Nat) (w : World) (hI : DescsAt none w A n xs) (hn : n ≤ 1099511627776) (h1 : w.cell? ⟨g1, 1, .none⟩ = some (.int .i64 CO)) (h2 : w.cell? ⟨g2, 1, .none⟩ = some (.int .i64 FD)) (l1 : g1 < w.heap.size) (l2 : g2 < w.heap.size) :
  Calls Tryz.prog 46 #[.slice A n cp, .func (.func 47) #[] #[.pointer (some ⟨g1, 0, .none⟩), .pointer (some ⟨g2, 0, .none⟩)]] w fun e w' => e = .returned (.bool (fdP xs CO FD).isSome) ∧ Below w.heap.size w w' := by
 obtain ⟨R, hR⟩ : ∃ R, (fdP xs CO FD).isSome = R := ⟨_, rfl⟩
 have hd : decide (0 ≤ fdI xs CO FD) = R := by
  rw [← hR]
  unfold fdI
  cases fdP xs CO FD with
  | none => rfl
  | some k => simp
 have hcall := indexallow1_any g1 g2 CO FD xs A n cp w hI hn h1 h2 l1 l2
 obtain ⟨F, hF⟩ : ∃ F, fdI xs CO FD = F := ⟨_, rfl⟩
 rw [hF] at hd hcall
 rw [hR]
 have HC := Lib.hid hcall
 clear hcall hF hR hI
 go_enter Tryz.func46, Tryz.ntmps46
 go_wp2_with fail
 refine HC.out.mono ?_
 rintro e5 w5 ⟨rfl, hb5⟩
 have HB5 := Lib.hid hb5
 clear hb5
 go_wp2_with fail
 go_ret
 exact ⟨Cv.ret_bool (by first | exact hd | rfl | simp), HB5.out⟩
theorem allows_start (A : Option Addr) (n c' : Nat) (E : Option Addr) (m d : Nat) (D : Option Addr) (k e : Nat) (s : St) (c : Ca) (r : Re) (F : Option Addr) (f f' : Nat) (w : World) (h : StAt none w (.agg #[.slice A n c', .slice E m d, .slice D k e]) s) :
  ∃ W W2 W3 W4, w.alloc (.cells #[.slice A n c', .slice E m d, .slice D k e] 27) = W ∧ W.alloc (.cells #[.int .i64 c.kind, .int .i64 c.core, .int .i64 c.fd, .int .i64 c.off, .int .i64 c.num, .string c.path, .string c.path2, .string c.data] 35) = W2 ∧
   W2.alloc (.cells #[.int .i64 r.code, .int .i64 r.fd, .int .i64 r.num, .bool r.dir, .string r.data, .slice F f f'] 31) = W3 ∧ W3.alloc (.cells #[.slice none 0 0, .slice none 0 0, .slice none 0 0] 27) = W4 ∧
   W.heap.size = w.heap.size + 1 ∧ W2.heap.size = w.heap.size + 2 ∧ W3.heap.size = w.heap.size + 3 ∧ W4.heap.size = w.heap.size + 4 ∧
   StAt none W4 (.agg #[.slice A n c', .slice E m d, .slice D k e]) s ∧ OutAt W4 w.heap.size (.slice A n c') (.slice E m d) (.slice D k e) ∧ W4.heap[w.heap.size + 1]? = some (caRow c) ∧
   ResAt W4 (w.heap.size + 2) (.int .i64 r.code) (.int .i64 r.fd) (.int .i64 r.num) (.bool r.dir) (.string r.data) (.slice F f f') ∧ OutAt W4 (w.heap.size + 3) (.slice none 0 0) (.slice none 0 0) (.slice none 0 0) ∧ Below w.heap.size w W4 := by
 obtain ⟨W, hW⟩ : ∃ W, w.alloc (.cells #[.slice A n c', .slice E m d, .slice D k e] 27) = W := ⟨_, rfl⟩
 have l1 : Below w.heap.size w W := by rw [← hW]; exact (Below.refl _ _).alloc (Nat.le_refl _) _
 have o1 : OutAt W w.heap.size (.slice A n c') (.slice E m d) (.slice D k e) := by rw [← hW]; exact heap_alloc_new w _
 have z1 : W.heap.size = w.heap.size + 1 := by rw [← hW]; simp
 obtain ⟨W2, hW2, hbc, l2, z2⟩ := box_ca W c
 obtain ⟨W3, hW3⟩ : ∃ W3, W2.alloc (.cells #[.int .i64 r.code, .int .i64 r.fd, .int .i64 r.num, .bool r.dir, .string r.data, .slice F f f'] 31) = W3 := ⟨_, rfl⟩
 have l3 : Below W2.heap.size W2 W3 := by rw [← hW3]; exact (Below.refl _ _).alloc (Nat.le_refl _) _
 have z3 : W3.heap.size = W2.heap.size + 1 := by rw [← hW3]; simp
 have r3 : ResAt W3 W2.heap.size (.int .i64 r.code) (.int .i64 r.fd) (.int .i64 r.num) (.bool r.dir) (.string r.data) (.slice F f f') := by rw [← hW3]; exact heap_alloc_new W2 _
 obtain ⟨W4, hW4⟩ : ∃ W4, W3.alloc (.cells #[.slice none 0 0, .slice none 0 0, .slice none 0 0] 27) = W4 := ⟨_, rfl⟩
 have l4 : Below W3.heap.size W3 W4 := by rw [← hW4]; exact (Below.refl _ _).alloc (Nat.le_refl _) _
 have z4 : W4.heap.size = W3.heap.size + 1 := by rw [← hW4]; simp
 have o4 : OutAt W4 W3.heap.size (.slice none 0 0) (.slice none 0 0) (.slice none 0 0) := by rw [← hW4]; exact heap_alloc_new W3 _
 have l24 := Cv.next l3 l4
 have l14 := Cv.next l2 l24
 have l04 := Cv.next l1 l14
 refine ⟨W, W2, W3, W4, hW, hW2, hW3, hW4, z1, by omega, by omega, by omega, h.below l04, (l14.block w.heap.size (by omega)).trans o1, ?_, ?_, ?_, l04⟩
 ·rw [← z1]
  exact (l24.block W.heap.size (by omega)).trans hbc
 ·rw [show w.heap.size + 2 = W2.heap.size by omega]
  exact (l4.block W2.heap.size (by omega)).trans r3
 ·rw [show w.heap.size + 3 = W3.heap.size by omega]
  exact o4
theorem allows_results (tmps : Array Value) (g : Nat) (a b d : Value) (B : Bool) (w : World) (h6 : tmps.getD 6 undef = .pointer (some ⟨g, 0, none⟩)) (h7 : tmps.getD 7 undef = .bool B) (hO : OutAt w g a b d) :
  (results Tryz.f27 tmps).run Tryz.prog w = .ok (.tuple #[.agg #[a, b, d], .bool B]) w := by
 rw [results_cell_tmp rfl, h6, h7]
 have hl1 := run_loadVar_row (P := Tryz.prog) w g _ 27 _ (0, 0) _ hO Tryz.underlying27 rfl (by kernel_rfl)
 simp [asAddr, hl1, Result.andThen]
def AlOut (w : World) (R : St × Bool) (e : Ending) (w' : World) : Prop := ∃ v', e = .returned (.tuple #[v', .bool R.2]) ∧ StAt (some w.heap.size) w' v' R.1 ∧ Below w.heap.size w w'
structure AlAt (w w' : World) (A : Option Addr) (n c' : Nat) (E : Option Addr) (m d : Nat) (D : Option Addr) (k e : Nat) (s : St) (c : Ca) (r : Re) (F : Option Addr) (f f' : Nat) : Prop where
 st : StAt none w' (.agg #[.slice A n c', .slice E m d, .slice D k e]) s
 o0 : OutAt w' w.heap.size (.slice A n c') (.slice E m d) (.slice D k e)
 ca : w'.heap[w.heap.size + 1]? = some (caRow c)
 re : ResAt w' (w.heap.size + 2) (.int .i64 r.code) (.int .i64 r.fd) (.int .i64 r.num) (.bool r.dir) (.string r.data) (.slice F f f')
 out : OutAt w' (w.heap.size + 3) (.slice none 0 0) (.slice none 0 0) (.slice none 0 0)
 bel : Below w.heap.size w w'
 sz : w.heap.size + 4 ≤ w'.heap.size
theorem AlAt.below {w w' w'' : World} {A : Option Addr} {n c' : Nat} {E : Option Addr} {m d : Nat} {D : Option Addr} {k e : Nat} {s : St} {c : Ca} {r : Re} {F : Option Addr} {f f' : Nat} (h : AlAt w w' A n c' E m d D k e s c r F f f') (hb : Below w'.heap.size w' w'') : AlAt w w'' A n c' E m d D k e s c r F f f' := by
 have := h.sz
 exact ⟨h.st.below hb, (hb.block _ (by omega)).trans h.o0, (hb.block _ (by omega)).trans h.ca, (hb.block _ (by omega)).trans h.re, (hb.block _ (by omega)).trans h.out, Cv.next h.bel hb, Nat.le_trans h.sz hb.size⟩
end Go.Proofs.YtndcloohcfhejaaGreat
