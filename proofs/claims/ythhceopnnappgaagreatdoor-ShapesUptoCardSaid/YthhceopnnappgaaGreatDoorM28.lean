/- Parts of the proof, side by side: FsDo, FsDoAny. -/
import Derived.Test.YthhceopnnappgaaGreatDoorFsMake
import Derived.Test.YthhceopnnappgaaGreatDoorM20
import Derived.Test.YthhceopnnappgaaGreatDoorFsCopy
import Derived.Test.YthhceopnnappgaaGreatDoorM05
import Derived.Test.YthhceopnnappgaaGreatDoorM08
import Derived.Test.YthhceopnnappgaaGreatDoorFsMayDoc
import Derived.Test.YthhceopnnappgaaGreatDoorM25
import Derived.Deep.RegionHeld3
import Derived.Test.YthhceopnnappgaaGreatDoorM17
import Derived.Test.YthhceopnnappgaaGreatDoorM10
import Derived.Lib.BufferWrite
import Derived.Deep.WholeRow
import Derived.Deep.RegionWith
import Derived.Lib.MinMax
import Derived.Lib.LazyBuf
import Derived.Outline
import Derived.Deep.CutBlock
set_option linter.unusedVariables false
set_option linter.unusedSimpArgs false
namespace Go.Proofs.YthhceopnnappgaaGreatDoor
open Go.RowKit
theorem results_cells_tmp {fn : Func} {p q u : Tmp} {ty tz : TypeId} (h : fn.results = #[.cell p ty, .cell q tz, .tmp u]) (tmps : Array Value) (P : Program) (w : World) :
  (results fn tmps).run P w =
   ((asAddr (tmps.getD p undef)).run P w).andThen fun a w₁ => ((loadVar ty a).run P w₁).andThen fun v w₂ => ((asAddr (tmps.getD q undef)).run P w₂).andThen fun b w₃ => ((loadVar tz b).run P w₃).andThen fun z w₄ => .ok (.tuple #[v, z, tmps.getD u undef]) w₄ := by
 simp only [results, h]
 simp [Sem.run_bind, Result.andThen]
theorem drew_heap (u : World) : u.drew.heap = u.heap := rfl
theorem three_keep (u : World) (p k : Nat) (hne : k ≠ p) (x y z : Value) : (((u.setCell ⟨p, 0, none⟩ x).setCell ⟨p, 1, none⟩ y).setCell ⟨p, 2, none⟩ z).drew.heap[k]? = u.heap[k]? := by
 rw [drew_heap]
 exact ((Below.heap_setCell _ ⟨p, 2, none⟩ z k hne).trans (Below.heap_setCell _ ⟨p, 1, none⟩ y k hne)).trans (Below.heap_setCell _ ⟨p, 0, none⟩ x k hne)
theorem StAt.keep3 {B : Nat} {w w' : World} {v : Value} {s : St} (h : StAt (some B) w v s) (k1 : KeepT 52 w w') (k2 : KeepT 84 w w') (k3 : KeepT 67 w w') (k4 : KeepT 3 w w') : StAt (some B) w' v s := by
 obtain ⟨⟨A, n, c, E, m, d, D, k, e, h1, h2, h3, h4, h5, h6, h7⟩, hz⟩ := h
 exact ⟨⟨A, n, c, E, m, d, D, k, e, h1, h2.keep k1 k2, h3.keep k3, h4.keep k4, h5, h6, h7⟩, hz⟩
theorem EntsAt.lower {B B' : Nat} {w : World} {A : Option Addr} {n : Nat} {es : List En} (h : EntsAt (some B) w A n es) (hb : B' ≤ B) : EntsAt (some B') w A n es :=
 ⟨h.1, fun hn => by
  obtain ⟨g, off, hA, hg, hm, hc⟩ := h.2 hn
  exact ⟨g, off, hA, hg, hm.mono hb, hc⟩⟩
theorem StAt.lower {B B' : Nat} {w : World} {v : Value} {s : St} (h : StAt (some B) w v s) (hb : B' ≤ B) : StAt (some B') w v s := by
 obtain ⟨⟨A, n, c, E, m, d, D, k, e, h1, h2, h3, h4, h5, h6, h7⟩, hz⟩ := h
 refine ⟨⟨A, n, c, E, m, d, D, k, e, h1, ⟨h2.1, fun hn => ?_⟩, ⟨h3.1, fun hn => ?_⟩, ⟨h4.1, fun hn => ?_⟩, h5, h6, h7⟩, hz⟩
 ·obtain ⟨g, off, hA, hg, hm, hc⟩ := h2.2 hn
  refine ⟨g, off, hA, hg, hm.mono hb, fun j x hx => ?_⟩
  obtain ⟨a1, a2, ⟨B2, m2, c2, a3, a4, a5⟩, a6⟩ := hc j x hx
  exact ⟨a1, a2, ⟨B2, m2, c2, a3, a4, a5.lower hb⟩, a6⟩
 ·obtain ⟨g, off, hA, hg, hm, hc⟩ := h3.2 hn
  exact ⟨g, off, hA, hg, hm.mono hb, hc⟩
 ·obtain ⟨g, off, hA, hg, hm, hc⟩ := h4.2 hn
  exact ⟨g, off, hA, hg, hm.mono hb, hc⟩
theorem may_whole {s : St} (h : mayV s = true) : Whole s.inos := by
 have hm := may_facts h
 refine ⟨?_, fun x hx => (hm.linked x hx).2⟩
 rw [mayV_eq, Bool.and_eq_true, Bool.and_eq_true, Bool.and_eq_true] at h
 obtain ⟨⟨⟨h1, h2⟩, _⟩, _⟩ := h
 have h3 : mMadeV s = true := h1
 have h4 : mInosV s = true := h2
 obtain ⟨f1, f2, f3, x0, f4, f5⟩ := mInos_facts h3 h4
 rw [atV_of_rise f1 f4 f5]
 omega
def MakeSized (s : St) (c : Ca) : Prop :=
 Sized { s with made := s.made.set c.core.toNat (s.made.getD c.core.toNat 0 + 1) } ∧
 Sized { s with made := s.made.set c.core.toNat (s.made.getD c.core.toNat 0 + 1), inos := setEnts s.inos (parentV s.inos c.path).1 fun es => putE es (parentV s.inos c.path).2.1 (2 + c.core + 8 * s.made.getD c.core.toNat 0) } ∧
 Sized (make1V s c).1 ∧ (parentV s.inos c.path).2.1.size ≤ 140737488355328
set_option maxRecDepth 100000 in
set_option maxHeartbeats 16000000 in
theorem do_make (v : Value) (s : St) (c : Ca) (want : Int) (w : World) (h : StAt none w v s) (hm : mayV s = true) (hc0 : 0 ≤ c.core) (hc1 : c.core < (s.made.length : Int)) (hk : c.kind = 0) (hpz : c.path.size ≤ 140737488355328) (hs : MakeSized s c) (hcode : (make1V s c).2.code = 0) :
  Calls Tryz.prog 44 #[v, caV c, .int .i64 want] w fun e w' => ∃ v', e = .returned (.tuple #[v', resV (make1V s c).2, .bool true]) ∧ StAt (some w.heap.size) w' v' (make1V s c).1 ∧ Below w.heap.size w w' := by
 obtain ⟨kind, core, fd, off, num, path, path2, data⟩ := c
 have hk2 : kind = 0 := hk
 subst hk2
 clear hk
 have hc0' : 0 ≤ core := hc0
 have hc1' : core < (s.made.length : Int) := hc1
 clear hc0 hc1
 obtain ⟨⟨A, n, cp, Bz, m, d, D, k, e, rfl, hI, hD, hM, h5, h6, h7⟩, hz⟩ := h
 obtain ⟨W, hW, b0, b1, b2, hal, hlt0⟩ := box_st w A n cp Bz m d D k e
 obtain ⟨W2, hW2, hbc, hal2, hsz2⟩ := box_ca W ⟨0, core, fd, off, num, path, path2, data⟩
 obtain ⟨W3, hW3⟩ : ∃ W3, W2.alloc (.cells #[.slice none 0 0, .slice none 0 0, .slice none 0 0] 26) = W3 := ⟨_, rfl⟩
 have hal3 : Below W2.heap.size W2 W3 := by rw [← hW3]; exact (Below.refl _ _).alloc (Nat.le_refl _) _
 have hsz3 : W3.heap.size = W2.heap.size + 1 := by rw [← hW3]; simp
 have ho3 : OutAt W3 W2.heap.size (.slice none 0 0) (.slice none 0 0) (.slice none 0 0) := by rw [← hW3]; exact heap_alloc_new W2 _
 obtain ⟨W4, hW4⟩ : ∃ W4, W3.alloc (.cells #[.int .i64 0, .int .i64 0, .int .i64 0, .bool false, .string ⟨#[]⟩, .slice none 0 0] 44) = W4 := ⟨_, rfl⟩
 have hal4 : Below W3.heap.size W3 W4 := by rw [← hW4]; exact (Below.refl _ _).alloc (Nat.le_refl _) _
 have hr4 : ResAt W4 W3.heap.size (.int .i64 0) (.int .i64 0) (.int .i64 0) (.bool false) (.string ⟨#[]⟩) (.slice none 0 0) := by rw [← hW4]; exact heap_alloc_new W3 _
 have hst0 : StAt none W (.agg #[.slice A n cp, .slice Bz m d, .slice D k e]) s := ⟨⟨A, n, cp, Bz, m, d, D, k, e, rfl, hI.below hal, hD.below hal, hM.below hal, h5, h6, h7⟩, hz⟩
 have hb24 : Below W2.heap.size W2 W4 := Cv.next hal3 hal4
 have hb14 : Below W.heap.size W W4 := Cv.next hal2 hb24
 have hb4 : Below w.heap.size w W4 := Cv.next hal hb14
 have hst := hst0.below hb14
 have x0 := (hb14.cell (p := ⟨w.heap.size, 0, .none⟩) hlt0).trans b0
 have x1 := (hb14.cell (p := ⟨w.heap.size, 1, .none⟩) hlt0).trans b1
 have x2 := (hb14.cell (p := ⟨w.heap.size, 2, .none⟩) hlt0).trans b2
 have hbc4 := (hb24.block W.heap.size (by omega)).trans hbc
 have k0 : W4.cell? ⟨W.heap.size, 0, none⟩ = some (.int .i64 0) := by rw [cell_of_row W4 W.heap.size _ _ _ (0, 0) hbc4]; rfl
 have k1 : W4.cell? ⟨W.heap.size, 1, none⟩ = some (.int .i64 core) := by rw [cell_of_row W4 W.heap.size _ _ _ (0, 0) hbc4]; rfl
 have hkl : s.made.length = k := hM.1
 obtain ⟨RV, hRV⟩ : ∃ RV, make1V s ⟨0, core, fd, off, num, path, path2, data⟩ = RV := ⟨_, rfl⟩
 rw [hRV] at hcode ⊢
 have HRV := Lib.hid hRV
 clear hRV
 unfold caV
 have HST := Lib.hid hst
 have HM := Lib.hid hm
 have HBC := Lib.hid hbc4
 have HB4 := Lib.hid hb4
 have HO3 := Lib.hid ((hal4.block W2.heap.size (by omega)).trans ho3)
 have HR4 := Lib.hid hr4
 have hs1 : w.heap.size < W.heap.size := hlt0
 have hs4 : W4.heap.size = W3.heap.size + 1 := by rw [← hW4]; simp
 have g1 : decide (core < 0) = false := by rw [decide_eq_false_iff_not]; omega
 have g2 : decide ((k : Int) ≤ core) = false := by rw [decide_eq_false_iff_not]; omega
 clear hI hD hM hz hst0 hst hbc hbc4 hb4 hb14 hb24 ho3 hr4 hal hal2 hal3 hal4 b0 b1 b2 h5 h6 h7 hm hlt0
 go_enter Tryz.func44, Tryz.ntmps44
 go_wp2_with fail
 clear hW hW2 hW3 hW4
 refine (may_doc _ s W4 HST.out).mono ?_
 rintro e5 w5 ⟨rfl, hb5⟩
 rw [HM.out]
 have z0 := (hb5.cell (p := ⟨w.heap.size, 0, .none⟩) (by show w.heap.size < _; omega)).trans x0
 have z1 := (hb5.cell (p := ⟨w.heap.size, 1, .none⟩) (by show w.heap.size < _; omega)).trans x1
 have z2 := (hb5.cell (p := ⟨w.heap.size, 2, .none⟩) (by show w.heap.size < _; omega)).trans x2
 have y0 := (hb5.cell (p := ⟨W.heap.size, 0, .none⟩) (by show W.heap.size < _; omega)).trans k0
 have y1 := (hb5.cell (p := ⟨W.heap.size, 1, .none⟩) (by show W.heap.size < _; omega)).trans k1
 have HST5 := Lib.hid (HST.out.below hb5)
 have HB5 := Lib.hid (Cv.next HB4.out hb5)
 have HBC5 := Lib.hid ((hb5.block W.heap.size (by omega)).trans HBC.out)
 have HO5 := Lib.hid ((hb5.block W2.heap.size (by omega)).trans HO3.out)
 have HR5 : Hid (ResAt w5 W3.heap.size _ _ _ _ _ _) := Lib.hid ((hb5.block W3.heap.size (by omega)).trans HR4.out)
 have hs5 : W4.heap.size ≤ w5.heap.size := hb5.size
 clear hb5 x0 x1 x2 k0 k1
 go_wp2_with fail
 refine (copy_any _ s w5 HST5.out).mono ?_
 rintro e6 w6 ⟨v6, rfl, hst6, hb6⟩
 have y0 := (hb6.cell (p := ⟨W.heap.size, 0, .none⟩) (by show W.heap.size < _; omega)).trans y0
 have HBC6 := Lib.hid ((hb6.block W.heap.size (by omega)).trans HBC5.out)
 have HO6 := Lib.hid ((hb6.block W2.heap.size (by omega)).trans HO5.out)
 have HR6 : Hid (ResAt w6 W3.heap.size _ _ _ _ _ _) := Lib.hid ((hb6.block W3.heap.size (by omega)).trans HR5.out)
 have HST6 := Lib.hid hst6
 have HB6 := Lib.hid (Cv.next HB5.out hb6)
 have hs6 : w5.heap.size ≤ w6.heap.size := hb6.size
 obtain ⟨A6, n6, c6, E6, m6, d6, D6, k6, e6, rfl, hI6, hD6, hM6, p5, p6, p7⟩ := hst6.at_
 obtain ⟨U1, hU1⟩ : ∃ U1, w6.alloc (.cells #[.slice A6 n6 c6, .slice E6 m6 d6, .slice D6 k6 e6] 26) = U1 := ⟨_, rfl⟩
 obtain ⟨U2, hU2⟩ : ∃ U2, U1.alloc (.cells #[.int .i64 0, .int .i64 0, .int .i64 0, .bool false, .string ⟨#[]⟩, .slice none 0 0] 44) = U2 := ⟨_, rfl⟩
 have hau1 : Below w6.heap.size w6 U1 := by rw [← hU1]; exact (Below.refl _ _).alloc (Nat.le_refl _) _
 have hau2 : Below U1.heap.size U1 U2 := by rw [← hU2]; exact (Below.refl _ _).alloc (Nat.le_refl _) _
 have hsu1 : U1.heap.size = w6.heap.size + 1 := by rw [← hU1]; simp
 have hsu2 : U2.heap.size = U1.heap.size + 1 := by rw [← hU2]; simp
 have hau := Cv.next hau1 hau2
 have hru : ResAt U2 (w6.heap.size + 1) (.int .i64 0) (.int .i64 0) (.int .i64 0) (.bool false) (.string ⟨#[]⟩) (.slice none 0 0) := by rw [← hsu1, ← hU2]; exact heap_alloc_new U1 _
 have hpu : U1.heap[w6.heap.size]? = some (.cells #[.slice A6 n6 c6, .slice E6 m6 d6, .slice D6 k6 e6] 26 (0, 0)) := by rw [← hU1]; exact heap_alloc_new w6 _
 have hpu2 := (hau2.block w6.heap.size (by omega)).trans hpu
 have hown : Own w5.heap.size U2 w6.heap.size s := ⟨⟨A6, n6, c6, E6, m6, d6, D6, k6, e6, hs6, hpu2, hI6.below hau, hD6.below hau, hM6.below hau, p5, p6, p7⟩, hst6.sized⟩
 obtain ⟨g0, g1', g2', g3, g4, g5, gf⟩ := hru.get
 obtain ⟨U3, hU3, hr3, k3, b3, a3, s3⟩ := hru.six (.int .i64 0) (.int .i64 0) (.int .i64 0) (.bool false) (.string ⟨#[]⟩) (.slice none 0 0)
 have HOW := Lib.hid (hown.keep k3)
 have y0 := (hau.cell (p := ⟨W.heap.size, 0, .none⟩) (by show W.heap.size < _; omega)).trans y0
 have hbcu := (hau.block W.heap.size (by omega)).trans HBC6.out
 have hbc3 := (a3 W.heap.size (by omega)).trans hbcu
 have HRU := Lib.hid hr3
 have HBCu := Lib.hid hbc3
 have y0' : U3.cell? ⟨W.heap.size, 0, none⟩ = some (.int .i64 0) := by rw [cell_of_row U3 W.heap.size _ _ _ (0, 0) hbc3]; rfl
 have yy1 : U3.cell? ⟨W.heap.size, 1, none⟩ = some (.int .i64 core) := by rw [cell_of_row U3 W.heap.size _ _ _ (0, 0) hbc3]; rfl
 have yy2 : U3.cell? ⟨W.heap.size, 2, none⟩ = some (.int .i64 fd) := by rw [cell_of_row U3 W.heap.size _ _ _ (0, 0) hbc3]; rfl
 have yy3 : U3.cell? ⟨W.heap.size, 3, none⟩ = some (.int .i64 off) := by rw [cell_of_row U3 W.heap.size _ _ _ (0, 0) hbc3]; rfl
 have yy4 : U3.cell? ⟨W.heap.size, 4, none⟩ = some (.int .i64 num) := by rw [cell_of_row U3 W.heap.size _ _ _ (0, 0) hbc3]; rfl
 have yy5 : U3.cell? ⟨W.heap.size, 5, none⟩ = some (.string path) := by rw [cell_of_row U3 W.heap.size _ _ _ (0, 0) hbc3]; rfl
 have yy6 : U3.cell? ⟨W.heap.size, 6, none⟩ = some (.string path2) := by rw [cell_of_row U3 W.heap.size _ _ _ (0, 0) hbc3]; rfl
 have yy7 : U3.cell? ⟨W.heap.size, 7, none⟩ = some (.string data) := by rw [cell_of_row U3 W.heap.size _ _ _ (0, 0) hbc3]; rfl
 have HOu : Hid (OutAt U3 W2.heap.size _ _ _) := Lib.hid ((a3 W2.heap.size (by omega)).trans ((hau.block W2.heap.size (by omega)).trans HO6.out))
 have HRu : Hid (ResAt U3 W3.heap.size _ _ _ _ _ _) := Lib.hid ((a3 W3.heap.size (by omega)).trans ((hau.block W3.heap.size (by omega)).trans HR6.out))
 have HBu := Lib.hid (b3 w.heap.size w (by omega) (Cv.next HB6.out hau))
 have hBU : w5.heap.size ≤ U3.heap.size := by omega
 clear hst6 hb6 z0 z1 z2 y1 hI6 hD6 hM6 p5 p6 p7 hau1 hau2 hau hru hpu hpu2 hown hr3 k3 b3 a3 hbcu hbc3
 go_wp2_with fail
 have hok := may_facts HM.out
 refine (make1_any w5.heap.size w6.heap.size s ⟨0, core, fd, off, num, path, path2, data⟩ U3 HOW.out hBU (may_whole HM.out) hc0' hc1' hok.made.2.1 hpz hok.made.2.2 hs.2.2.2 hs.1 hs.2.1 hs.2.2.1).mono ?_
 rintro e7 w7 ⟨rfl, hown7, hb7, ha7⟩
 rw [HRV.out] at hown7 ⊢
 have hrr : ResAt w7 (w6.heap.size + 1) _ _ _ _ _ _ := (ha7.same (w6.heap.size + 1) _ _ HRU.out (by decide) (by decide) (by omega)).trans HRU.out
 clear hU1 hU2 hU3 y0 y0' yy1 yy2 yy3 yy4 yy5 yy6 yy7 g0 g1' g2' g3 g4 g5 gf
 obtain ⟨g0, g1', g2', g3, g4, g5, gf⟩ := hrr.get
 obtain ⟨U4, hU4, hr4, k4, b4, a4, s4⟩ := hrr.six (.int .i64 0) (.int .i64 RV.2.fd) (.int .i64 RV.2.num) (.bool RV.2.dir) (.string RV.2.data) (.slice none 0 0)
 have hown8 := hown7.keep k4
 have HO8 : Hid (OutAt U4 W2.heap.size _ _ _) := Lib.hid ((a4 W2.heap.size (by omega)).trans ((hb7.block W2.heap.size (by omega)).trans HOu.out))
 have HR8 : Hid (ResAt U4 W3.heap.size _ _ _ _ _ _) := Lib.hid ((a4 W3.heap.size (by omega)).trans ((hb7.block W3.heap.size (by omega)).trans HRu.out))
 have HB8 := Lib.hid (b4 w.heap.size w (by omega) (HBu.out.trans (hb7.mono (by have := HB5.out.size; omega))))
 have HRR8 := Lib.hid hr4
 obtain ⟨A8, n8, c8, E8, m8, d8, D8, k8, e8, hB8, hp8, q0, q1, q2, _, hst8, _, _, _⟩ := hown8.val
 have hSS : ∀ u : World, u.heap[w6.heap.size]? = U4.heap[w6.heap.size]? → u.heap[w6.heap.size + 1]? = U4.heap[w6.heap.size + 1]? → u.cell? ⟨w6.heap.size, 0, none⟩ = some (.slice A8 n8 c8) ∧ u.cell? ⟨w6.heap.size, 1, none⟩ = some (.slice E8 m8 d8) ∧ u.cell? ⟨w6.heap.size, 2, none⟩ = some (.slice D8 k8 e8) ∧
   u.cell? ⟨w6.heap.size + 1, 0, none⟩ = some (.int .i64 0) ∧ u.cell? ⟨w6.heap.size + 1, 1, none⟩ = some (.int .i64 RV.2.fd) ∧ u.cell? ⟨w6.heap.size + 1, 2, none⟩ = some (.int .i64 RV.2.num) ∧ u.cell? ⟨w6.heap.size + 1, 3, none⟩ = some (.bool RV.2.dir) ∧ u.cell? ⟨w6.heap.size + 1, 4, none⟩ = some (.string RV.2.data) ∧ u.cell? ⟨w6.heap.size + 1, 5, none⟩ = some (.slice none 0 0) := by
  intro u h1 h2
  obtain ⟨j0, j1, j2, j3, j4, j5, jf⟩ := hr4.get
  exact ⟨(World.cell?_of_block (a := ⟨w6.heap.size, 0, none⟩) h1).trans q0, (World.cell?_of_block (a := ⟨w6.heap.size, 1, none⟩) h1).trans q1, (World.cell?_of_block (a := ⟨w6.heap.size, 2, none⟩) h1).trans q2,
   (World.cell?_of_block (a := ⟨w6.heap.size + 1, 0, none⟩) h2).trans j0, (World.cell?_of_block (a := ⟨w6.heap.size + 1, 1, none⟩) h2).trans j1, (World.cell?_of_block (a := ⟨w6.heap.size + 1, 2, none⟩) h2).trans j2, (World.cell?_of_block (a := ⟨w6.heap.size + 1, 3, none⟩) h2).trans j3, (World.cell?_of_block (a := ⟨w6.heap.size + 1, 4, none⟩) h2).trans j4, (World.cell?_of_block (a := ⟨w6.heap.size + 1, 5, none⟩) h2).trans j5⟩
 have hk5 := hSS (((U4.setCell ⟨W.heap.size + 1, 0, none⟩ (.slice A8 n8 c8)).setCell ⟨W.heap.size + 1, 1, none⟩ (.slice E8 m8 d8)).setCell ⟨W.heap.size + 1, 2, none⟩ (.slice D8 k8 e8)).drew (three_keep _ _ _ (by omega) _ _ _) (three_keep _ _ _ (by omega) _ _ _)
 have HK5 := Lib.hid hk5
 have HST8 := Lib.hid hst8
 unfold resV
 obtain ⟨j0, j1, j2, j3, j4, j5, jf⟩ := hr4.get
 clear hown7 hown8 hb7 ha7 hrr hr4 k4 b4 a4 hst8 hSS hk5
 go_wp2_with fail
 have hO8 := HO8.out
 have hR8 := HR8.out
 rw [hsz2] at hO8
 rw [show W3.heap.size = W.heap.size + 1 + 1 by omega] at hR8
 have uf : ∀ j, U4.frozen? ⟨W.heap.size + 1, j, none⟩ = false := hO8.get.2.2.2
 have vf : ∀ j, U4.frozen? ⟨W.heap.size + 1 + 1, j, none⟩ = false := hR8.get.2.2.2.2.2.2
 have n1 : w6.heap.size ≠ W.heap.size + 1 := by omega
 have n2 : w6.heap.size ≠ W.heap.size + 1 + 1 := by omega
 have n3 : w6.heap.size + 1 ≠ W.heap.size + 1 := by omega
 have n4 : w6.heap.size + 1 ≠ W.heap.size + 1 + 1 := by omega
 have n1' := Ne.symm n1
 have n2' := Ne.symm n2
 have n3' := Ne.symm n3
 have n4' := Ne.symm n4
 have n5 : W.heap.size ≠ w6.heap.size := by omega
 have n6 : w6.heap.size ≠ W.heap.size := by omega
 obtain ⟨t0, t1, t2, _⟩ := hO8.get
 obtain ⟨v0, v1, v2, v3, v4, v5, _⟩ := hR8.get
 have uf0 := uf 0
 have uf1 := uf 1
 have uf2 := uf 2
 go_region_held3 (fun w' => w'.cell? ⟨w6.heap.size, 0, none⟩ = some (.slice A8 n8 c8) ∧ w'.cell? ⟨w6.heap.size, 1, none⟩ = some (.slice E8 m8 d8) ∧ w'.cell? ⟨w6.heap.size, 2, none⟩ = some (.slice D8 k8 e8) ∧
   w'.cell? ⟨w6.heap.size + 1, 0, none⟩ = some (.int .i64 0) ∧ w'.cell? ⟨w6.heap.size + 1, 1, none⟩ = some (.int .i64 RV.2.fd) ∧ w'.cell? ⟨w6.heap.size + 1, 2, none⟩ = some (.int .i64 RV.2.num) ∧ w'.cell? ⟨w6.heap.size + 1, 3, none⟩ = some (.bool RV.2.dir) ∧ w'.cell? ⟨w6.heap.size + 1, 4, none⟩ = some (.string RV.2.data) ∧ w'.cell? ⟨w6.heap.size + 1, 5, none⟩ = some (.slice none 0 0))
  (first
   | go_keep
   | exact HK5.out) (fail)
 obtain ⟨U5, hU5, ho5, k5, b5⟩ := hO8.three (.slice A8 n8 c8) (.slice E8 m8 d8) (.slice D8 k8 e8)
 have hr5 : ResAt U5 (W.heap.size + 1 + 1) _ _ _ _ _ _ := ((k5 _ (by decide)).same (W.heap.size + 1 + 1) _ hR8).trans hR8
 obtain ⟨U6, hU6, hr6, k6, b6, a6, s6⟩ := hr5.six (.int .i64 0) (.int .i64 RV.2.fd) (.int .i64 RV.2.num) (.bool RV.2.dir) (.string RV.2.data) (.slice none 0 0)
 have ho6 : OutAt U6 (W.heap.size + 1) _ _ _ := (a6 (W.heap.size + 1) (by omega)).trans ho5
 have hst6 := (HST8.out.keep3 (k5 _ (by decide)) (k5 _ (by decide)) (k5 _ (by decide)) (k5 _ (by decide))).keep3 (k6 _ (by decide)) (k6 _ (by decide)) (k6 _ (by decide)) (k6 _ (by decide))
 have hbf := b6 w.heap.size w (by omega) (b5 w.heap.size w (by omega) HB8.out)
 rw [hU5, hU6]
 have HO6f := Lib.hid ho6
 have HR6f := Lib.hid hr6
 have HSTf := Lib.hid ((hst6.lower (by have := HB5.out.size; omega)).below (Below.drew (Below.refl _ _)))
 have HBF := Lib.hid (Below.drew hbf)
 clear hU5 hU6 ho5 k5 b5 hr5 hr6 k6 b6 a6 s6 ho6 hst6 hbf t0 t1 t2 v0 v1 v2 v3 v4 v5 uf0 uf1 uf2 uf vf j0 j1 j2 j3 j4 j5 jf q0 q1 q2
 go_wp2_with fail
 (try simp only [Exit.inBlock, Exit.then])
 refine bodyPost_ret (v := .tuple #[.agg #[.slice A8 n8 c8, .slice E8 m8 d8, .slice D8 k8 e8], .agg #[.int .i64 0, .int .i64 RV.2.fd, .int .i64 RV.2.num, .bool RV.2.dir, .string RV.2.data, .slice none 0 0], .bool true]) ?_ rfl ?_
 ·rw [results_cells_tmp rfl]
  have hl1 := run_loadVar_row (P := Tryz.prog) U6.drew (W.heap.size + 1) _ 26 _ (0, 0) _ HO6f.out Tryz.underlying26 rfl (by kernel_rfl)
  have hl2 := run_loadVar_row (P := Tryz.prog) U6.drew (W.heap.size + 1 + 1) _ 44 _ (0, 0) _ HR6f.out Tryz.underlying44 rfl (by kernel_rfl)
  simp [asAddr, hl1, hl2, Result.andThen]
 ·exact ⟨_, by unfold resV; rw [hcode], HSTf.out, HBF.out⟩
section
variable (s : St) (c : Ca) (want : Int) (hm : mayV s = true) (hc0 : 0 ≤ c.core) (hc1 : c.core < (s.made.length : Int))
include hm hc0 hc1
end
structure Dk (a b d : Value) (s : St) (c : Ca) (w0 w : World) : Prop where
 box : OutAt w w0.heap.size a b d
 call : w.heap[w0.heap.size + 1]? = some (caRow c)
 outS : OutAt w (w0.heap.size + 2) (.slice none 0 0) (.slice none 0 0) (.slice none 0 0)
 outR : ResAt w (w0.heap.size + 3) (.int .i64 0) (.int .i64 0) (.int .i64 0) (.bool false) (.string ⟨#[]⟩) (.slice none 0 0)
 st : StAt none w (.agg #[a, b, d]) s
 bel : Below w0.heap.size w0 w
 size : w0.heap.size + 4 ≤ w.heap.size
theorem Dk.below {a b d : Value} {s : St} {c : Ca} {w0 w w' : World} (h : Dk a b d s c w0 w) (hb : Below w.heap.size w w') : Dk a b d s c w0 w' := by
 have hs := h.size
 exact ⟨(hb.block _ (by omega)).trans h.box, (hb.block _ (by omega)).trans h.call, (hb.block _ (by omega)).trans h.outS, (hb.block _ (by omega)).trans h.outR, h.st.below hb, h.bel.trans (hb.mono (by omega)), Nat.le_trans h.size hb.size⟩
theorem Dk.start {w : World} {s : St} {A : Option Addr} {n cp : Nat} {E : Option Addr} {m d : Nat} {D : Option Addr} {k e : Nat} (h : StAt none w (.agg #[.slice A n cp, .slice E m d, .slice D k e]) s) (c : Ca) :
  ∃ W W2 W3 W4, w.alloc (.cells #[.slice A n cp, .slice E m d, .slice D k e] 26) = W ∧ W.alloc (.cells #[.int .i64 c.kind, .int .i64 c.core, .int .i64 c.fd, .int .i64 c.off, .int .i64 c.num, .string c.path, .string c.path2, .string c.data] 40) = W2 ∧
   W2.alloc (.cells #[.slice none 0 0, .slice none 0 0, .slice none 0 0] 26) = W3 ∧ W3.alloc (.cells #[.int .i64 0, .int .i64 0, .int .i64 0, .bool false, .string ⟨#[]⟩, .slice none 0 0] 44) = W4 ∧
   W.heap.size = w.heap.size + 1 ∧ W2.heap.size = w.heap.size + 2 ∧ W3.heap.size = w.heap.size + 3 ∧ Dk (.slice A n cp) (.slice E m d) (.slice D k e) s c w W4 := by
 have h1 : Below w.heap.size w (w.alloc (.cells #[.slice A n cp, .slice E m d, .slice D k e] 26)) := (Below.refl _ _).alloc (Nat.le_refl _) _
 obtain ⟨W2, hW2, hbc, hal, hsz⟩ := box_ca (w.alloc (.cells #[.slice A n cp, .slice E m d, .slice D k e] 26)) c
 have hs1 : (w.alloc (.cells #[.slice A n cp, .slice E m d, .slice D k e] 26)).heap.size = w.heap.size + 1 := by simp
 obtain ⟨W3, hW3⟩ : ∃ W3, W2.alloc (.cells #[.slice none 0 0, .slice none 0 0, .slice none 0 0] 26) = W3 := ⟨_, rfl⟩
 have hal3 : Below W2.heap.size W2 W3 := by rw [← hW3]; exact (Below.refl _ _).alloc (Nat.le_refl _) _
 have hs3 : W3.heap.size = W2.heap.size + 1 := by rw [← hW3]; simp
 have ho3 : W3.heap[W2.heap.size]? = some (.cells #[.slice none 0 0, .slice none 0 0, .slice none 0 0] 26 (0, 0)) := by rw [← hW3]; exact heap_alloc_new W2 _
 have hal4 : Below W3.heap.size W3 (W3.alloc (.cells #[.int .i64 0, .int .i64 0, .int .i64 0, .bool false, .string ⟨#[]⟩, .slice none 0 0] 44)) := (Below.refl _ _).alloc (Nat.le_refl _) _
 have hb34 := Cv.next hal3 hal4
 have hb24 := Cv.next hal hb34
 rw [hs1] at hbc hsz
 refine ⟨_, W2, W3, _, rfl, hW2, hW3, rfl, hs1, by omega, by omega, ?_, ?_, ?_, ?_, h.below (Cv.next h1 hb24), Cv.next h1 hb24, by simp; omega⟩
 ·exact (hb24.block _ (by omega)).trans (heap_alloc_new w _)
 ·exact (hb34.block _ (by omega)).trans hbc
 ·rw [show w.heap.size + 2 = W2.heap.size by omega]; exact (hal4.block _ (by omega)).trans ho3
 ·rw [show w.heap.size + 3 = W3.heap.size by omega]; exact heap_alloc_new W3 _
end Go.Proofs.YthhceopnnappgaaGreatDoor
