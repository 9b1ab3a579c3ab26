/- Parts of the proof, side by side: MadeW, Code13, MayB, BytesP. -/
import Derived.Test.YtndcloohcfhejaaGreatM41
import Derived.Test.YtndcloohcfhejaaGreatFsSome
import Derived.Test.YtndcloohcfhejaaGreatM13
import Derived.Test.YtndcloohcfhejaaGreatM37
import Derived.Test.YtndcloohcfhejaaGreatM40
import Derived.Test.YtndcloohcfhejaaGreatM27
import Derived.KernelRfl
set_option linter.unusedVariables false
set_option linter.unusedSimpArgs false
namespace Go.Proofs.YtndcloohcfhejaaGreat
open Go.RowKit
theorem may_stM : ∀ q < 7, mayV (stM 1 q) = true ∧ mayV (stM 3 q) = true := by decide +kernel
theorem kinds_M : ∀ q < 7, (callM q).kind = 0 ∨ (callM q).kind = 1 ∨ (callM q).kind = 2 ∨ (callM q).kind = 5 ∨ (callM q).kind = 8 := by decide
theorem good_M : ∀ q < 7, ((doF (stM 1 q) (callM q) (-1)).2.1.code = 0 ∧ (doF (stM 1 q) (callM q) (-1)).2.2 = true) ∧ (doF (stM 3 q) (callM q) (-1)).2.1.code = 0 ∧ (doF (stM 3 q) (callM q) (-1)).2.2 = true := by decide +kernel
theorem dos_M (n q : Nat) (hn : n = 1 ∨ n = 3) (hq : q < 7) : DoS (stM n q) (callM q) (-1) := by
 have : q = 0 ∨ q = 1 ∨ q = 2 ∨ q = 3 ∨ q = 4 ∨ q = 5 ∨ q = 6 := by omega
 rcases hn with rfl | rfl <;> rcases this with rfl | rfl | rfl | rfl | rfl | rfl | rfl
 all_goals
  refine ⟨may_whole (by decide +kernel), by decide, by decide, by decide +kernel, ⟨by decide +kernel, by decide +kernel, by decide +kernel⟩, ?_, by decide, by decide⟩
  first
   | exact fun h => absurd h (by decide)
   | exact fun _ => ⟨⟨by decide +kernel, by decide +kernel, by decide +kernel⟩, ⟨by decide +kernel, by decide +kernel, by decide +kernel⟩, ⟨by decide +kernel, by decide +kernel, by decide +kernel⟩, by decide +kernel⟩
theorem re_num {r : Re} (h1 : r.code = 0) (h2 : r.fd = 0) (h3 : r.num = 10) (h4 : r.dir = false) (h5 : r.data = ⟨#[]⟩) (h6 : r.names = []) : r = { num := 10 } := by
 cases r
 simp_all
def xM : Ino := ⟨18, false, [], ⟨#[]⟩⟩
theorem write_M (n : Nat) (hn : n = 1 ∨ n = 3) (B p : Nat) (u : World) (h : Own B u p (stM n 6)) (hB : B ≤ u.heap.size) : Calls Tryz.prog 83 #[.pointer (some ⟨p, 0, .none⟩), caV (callM 6)] u fun e w' => e = .returned (resV (byFdV (stM n 6) (callM 6)).2) ∧ Own B w' p (byFdV (stM n 6) (callM 6)).1 ∧ Below B u w' ∧ Aside p u w' := by
 have e2 : (byFdV (stM n 6) (callM 6)).2 = { num := 10 } := by rcases hn with rfl | rfl <;> exact re_num (by decide +kernel) (by decide +kernel) (by decide +kernel) (by decide +kernel) (by decide +kernel) (by decide +kernel)
 have e1 : (byFdV (stM n 6) (callM 6)).1 = { stM n 6 with inos := (stM n 6).inos.set 3 { xM with data := txt (layL xM.data.data.toList 0 (callM 6).data.data.toList) } } := by rcases hn with rfl | rfl <;> decide +kernel
 rw [e1, e2]
 exact byfd_write B p (stM n 6) 0 0 0 0 ⟨#[]⟩ ⟨#[]⟩ (callM 6).data 18 3 xM u h hB (by rcases hn with rfl | rfl <;> decide) (by decide) (by rcases hn with rfl | rfl <;> decide) (by rcases hn with rfl | rfl <;> rfl) (by decide) (by decide) (by decide) (by decide)
theorem do_M (n q : Nat) (hn : n = 1 ∨ n = 3) (hq : q < 7) (v : Value) (u : World) (hu : StAt none u v (stM n q)) :
  Calls Tryz.prog 52 #[v, caV (callM q), .int .i64 (-1)] u fun e w' => ∃ v' rv, e = .returned (.tuple #[v', rv, .bool (doF (stM n q) (callM q) (-1)).2.2]) ∧ StAt (some u.heap.size) w' v' (doV (stM n q) (callM q)).1 ∧ ResIs (some u.heap.size) w' rv (doV (stM n q) (callM q)).2 ∧ Below u.heap.size u w' := by
 have hm : mayV (stM n q) = true := by rcases hn with rfl | rfl; exact (may_stM q hq).1; exact (may_stM q hq).2
 have hg : (doF (stM n q) (callM q) (-1)).2.1.code = 0 ∧ (doF (stM n q) (callM q) (-1)).2.2 = true := by rcases hn with rfl | rfl; exact (good_M q hq).1; exact (good_M q hq).2
 have hq7 : q = 0 ∨ q = 1 ∨ q = 2 ∨ q = 3 ∨ q = 4 ∨ q = 5 ∨ q = 6 := by omega
 have hd := dos_M n q hn hq
 refine do_some0 v (stM n q) (callM q) (-1) u hu hm ?_ ?_ ?_ ?_ hd (kinds_M q hq) hg ?_ ?_
 ·rcases hq7 with rfl | rfl | rfl | rfl | rfl | rfl | rfl <;> decide
 ·rcases hn with rfl | rfl <;> rcases hq7 with rfl | rfl | rfl | rfl | rfl | rfl | rfl <;> decide
 ·rcases hq7 with rfl | rfl | rfl | rfl | rfl | rfl | rfl <;> decide
 ·rcases hq7 with rfl | rfl | rfl | rfl | rfl | rfl | rfl <;> decide
 ·intro hk B p u h hB
  rcases hq7 with rfl | rfl | rfl | rfl | rfl | rfl | rfl
  all_goals first
   | exact absurd hk (by decide)
   | exact write_M n hn B p u h hB
 ·intro hk B p u h hB
  rcases hq7 with rfl | rfl | rfl | rfl | rfl | rfl | rfl
  all_goals first
   | exact absurd hk (by decide)
   | exact names8_any B p _ _ u h hB hd.whole hd.pz hd.pz2 hd.ns2 (by rcases hn with rfl | rfl <;> exact ⟨by decide +kernel, by decide +kernel, by decide +kernel⟩) hk
theorem Do_roundM (n q : Nat) (hn : n = 1 ∨ n = 3) (hq : q < 7) (v : Value) (w u : World) (h : StAt none w v (stM n q)) (hu : Below w.heap.size w u) :
  Calls Tryz.prog 30 #[v, caV (callM q)] u fun e w' => ∃ A k c E l d D i f r0 r1 r2 r3 r4 r5 r6 r7, e = .returned (.tuple #[.agg #[.slice A k c, .slice E l d, .slice D i f], .agg #[.int .i64 r0, .int .i64 r1, .int .i64 r2, .bool r3, .string r4, .slice r5 r6 r7]]) ∧ StAt (some w.heap.size) w' (.agg #[.slice A k c, .slice E l d, .slice D i f]) (stM n (q + 1)) ∧ Below u.heap.size u w' ∧ Below w.heap.size w w' := by
 refine (Do_some v (stM n q) (callM q) u (h.below hu) (fun u' hu' => do_M n q hn hq v u' hu')).mono ?_
 rintro e w' ⟨v', rv, rfl, hst, ⟨F, f, f', rfl, _⟩, hb⟩
 rw [stM_step n q hn hq] at hst
 obtain ⟨A, k, c, E, l, d, D, i, g, rfl, _⟩ := hst.at_
 exact ⟨A, k, c, E, l, d, D, i, g, _, _, _, _, _, _, _, _, rfl, hst.lower hu.size, hb, hu.trans (hb.mono hu.size)⟩
def cellsM : Array Value := #[.int .i64 1, .int .i64 0, .int .i64 0, .int .i64 0, .int .i64 0, .string ⟨#[47, 100]⟩, .string ⟨#[]⟩, .string ⟨#[]⟩, .int .i64 1, .int .i64 0, .int .i64 0, .int .i64 0, .int .i64 0, .string ⟨#[47, 101]⟩, .string ⟨#[]⟩, .string ⟨#[]⟩, .int .i64 0, .int .i64 0, .int .i64 0, .int .i64 0, .int .i64 0, .string ⟨#[47, 102]⟩, .string ⟨#[]⟩, .string ⟨#[]⟩, .int .i64 8, .int .i64 0, .int .i64 0, .int .i64 0, .int .i64 0, .string ⟨#[47, 102]⟩, .string ⟨#[47, 103]⟩, .string ⟨#[]⟩, .int .i64 0, .int .i64 0, .int .i64 0, .int .i64 0, .int .i64 0, .string ⟨#[47, 100, 47, 104]⟩, .string ⟨#[]⟩, .string ⟨#[]⟩, .int .i64 2, .int .i64 0, .int .i64 0, .int .i64 0, .int .i64 0, .string ⟨#[47, 102]⟩, .string ⟨#[]⟩, .string ⟨#[]⟩, .int .i64 5, .int .i64 0, .int .i64 0, .int .i64 0, .int .i64 0, .string ⟨#[]⟩, .string ⟨#[]⟩, .string ⟨#[48, 49, 50, 51, 52, 53, 54, 55, 56, 57]⟩]
def CallsM (w : World) (b : Nat) : Prop := w.heap[b]? = some (.cells cellsM 35 (0, 0))
theorem CallsM.get {w : World} {b : Nat} (h : CallsM w b) (q : Nat) (hq : q < 7) : w.cell? ⟨b, q * 8, none⟩ = some (.int .i64 (callM q).kind) ∧ w.cell? ⟨b, q * 8 + 1, none⟩ = some (.int .i64 (callM q).core) ∧ w.cell? ⟨b, q * 8 + 2, none⟩ = some (.int .i64 (callM q).fd) ∧ w.cell? ⟨b, q * 8 + 3, none⟩ = some (.int .i64 (callM q).off) ∧ w.cell? ⟨b, q * 8 + 4, none⟩ = some (.int .i64 (callM q).num) ∧
  w.cell? ⟨b, q * 8 + 5, none⟩ = some (.string (callM q).path) ∧ w.cell? ⟨b, q * 8 + 6, none⟩ = some (.string (callM q).path2) ∧ w.cell? ⟨b, q * 8 + 7, none⟩ = some (.string (callM q).data) := by
 have : q = 0 ∨ q = 1 ∨ q = 2 ∨ q = 3 ∨ q = 4 ∨ q = 5 ∨ q = 6 := by omega
 rcases this with e | e | e | e | e | e | e <;> (subst e; refine ⟨?_, ?_, ?_, ?_, ?_, ?_, ?_, ?_⟩ <;> (rw [cell_of_row w b _ _ _ (0, 0) h]; rfl))
set_option maxRecDepth 100000 in
set_option maxHeartbeats 4000000 in
theorem made13_any (N : Nat) (hN : N = 1 ∨ N = 3) (w : World) :
  Calls Tryz.prog 14 #[.int .i64 (N : Int)] w fun e w' => ∃ v', e = .returned v' ∧ StAt (some w.heap.size) w' v' (madeV N) ∧ Below w.heap.size w w' := by
 have hN1 : 1 ≤ N := by omega
 have hN8 : N ≤ 8 := by omega
 have HN := Lib.hid hN
 obtain ⟨W, hW⟩ : ∃ W, w.alloc (.cells #[.slice none 0 0, .slice none 0 0, .slice none 0 0] 27) = W := ⟨_, rfl⟩
 have ho0 : OutAt W w.heap.size (.slice none 0 0) (.slice none 0 0) (.slice none 0 0) := by rw [← hW]; exact heap_alloc_new w _
 have hl0 : Below w.heap.size w W := by rw [← hW]; exact (Below.refl _ _).alloc (Nat.le_refl _) _
 have hz0 : W.heap.size = w.heap.size + 1 := by rw [← hW]; simp
 have HO0 := Lib.hid ho0
 have HL0 := Lib.hid hl0
 clear hN ho0 hl0
 go_enter Tryz.func14, Tryz.ntmps14
 go_wp2_with fail
 refine (new_any N hN1 hN8 W).mono ?_
 rintro e w2 ⟨v2, rfl, hst2, hb2⟩
 obtain ⟨A2, n2, c2, E2, m2, d2, D2, k2, e2, rfl, _⟩ := hst2.at_
 have hst2' : StAt (some (w.heap.size + 1)) w2 (.agg #[.slice A2 n2 c2, .slice E2 m2 d2, .slice D2 k2 e2]) (stM N 0) := by rw [stM_first N HN.out]; exact hst2.lower (by omega)
 have HB2 := Lib.hid hb2
 have HST2 := Lib.hid hst2'
 have hz2 := hb2.size
 clear hb2 hst2 hst2'
 go_wp2_with fail
 go_loopw [6] (fun j wr => ∃ (q : Nat) (v : Value), j = .int .i64 q ∧ q ≤ 7 ∧ StAt (some (w.heap.size + 1)) wr v (stM N q) ∧ CallsM wr (w2.heap.size + 1) ∧ (∃ A k c E l d D i f, v = .agg #[.slice A k c, .slice E l d, .slice D i f] ∧ OutAt wr w2.heap.size (.slice A k c) (.slice E l d) (.slice D i f)) ∧ Below w2.heap.size w2 wr) (fun j _ => 7 - (intOf j).toNat)
 case atStart =>
  refine ⟨0, _, rfl, by omega, HST2.out.below ?_, row_new (w2.alloc _) _ _ (by simp), ⟨A2, n2, c2, E2, m2, d2, D2, k2, e2, rfl, ?_⟩, ?_⟩
  ·exact ((Below.refl _ _).alloc (Nat.le_refl _) _).alloc (by simp) _
  ·exact row_past (heap_alloc_new w2 _) (by simp)
  ·exact ((Below.refl _ _).alloc (Nat.le_refl _) _).alloc (by simp) _
 case round =>
  obtain ⟨q, v, rfl, hq, hst, hcl, ⟨A, k9, c, E, l, d, D, i9, f9, rfl, hout⟩, hbel⟩ := hrel
  have HB := Lib.hid hbel
  have HST := Lib.hid hst
  have HOUT := Lib.hid hout
  have HCL := Lib.hid hcl
  have hsz := hbel.size
  have hl6 : w2.heap.size < wr.heap.size := (Array.getElem?_eq_some_iff.1 hout).1
  have hl7 : w2.heap.size + 1 < wr.heap.size := (Array.getElem?_eq_some_iff.1 hcl).1
  obtain ⟨s0, s1, s2, sf⟩ := hout.get
  by_cases hlt : q < 7
  ·obtain ⟨k0, k1, k2, k3, k4, k5, k6, k7⟩ := hcl.get q hlt
   have q0 : (0 : Int) ≤ (q : Int) := by omega
   have q1 : (q : Int) < 7 := by omega
   have HC := Lib.hid (fun u => Do_roundM N q HN.out hlt _ wr u hst.weak)
   clear hbel hst hout hcl sf
   go_upto_region 6 with fail
   go_cut [7] (fun p wx => ∃ b A k c E l d D i f, p = .pointer (some ⟨b, 0, .none⟩) ∧ OutAt wx b (.slice A k c) (.slice E l d) (.slice D i f) ∧ StAt (some wr.heap.size) wx (.agg #[.slice A k c, .slice E l d, .slice D i f]) (stM N (q + 1)) ∧ Below wr.heap.size wr wx ∧ wr.heap.size ≤ b)
   case first =>
    have q2 : (q : Int).toNat = q := by omega
    have z1 : wr.heap.size ≠ w2.heap.size := by omega
    have z2 : wr.heap.size ≠ w2.heap.size + 1 := by omega
    have z3 : wr.heap.size + 1 ≠ w2.heap.size := by omega
    have z4 : wr.heap.size + 1 ≠ w2.heap.size + 1 := by omega
    go_region_held3 (fun w' => w'.cell? ⟨w2.heap.size, 0, none⟩ = some (.slice A k9 c) ∧ w'.cell? ⟨w2.heap.size, 1, none⟩ = some (.slice E l d) ∧ w'.cell? ⟨w2.heap.size, 2, none⟩ = some (.slice D i9 f9) ∧
     w'.cell? ⟨w2.heap.size + 1, q * 8, none⟩ = some (.int .i64 (callM q).kind) ∧ w'.cell? ⟨w2.heap.size + 1, q * 8 + 1, none⟩ = some (.int .i64 (callM q).core) ∧ w'.cell? ⟨w2.heap.size + 1, q * 8 + 2, none⟩ = some (.int .i64 (callM q).fd) ∧ w'.cell? ⟨w2.heap.size + 1, q * 8 + 3, none⟩ = some (.int .i64 (callM q).off) ∧
     w'.cell? ⟨w2.heap.size + 1, q * 8 + 4, none⟩ = some (.int .i64 (callM q).num) ∧ w'.cell? ⟨w2.heap.size + 1, q * 8 + 5, none⟩ = some (.string (callM q).path) ∧ w'.cell? ⟨w2.heap.size + 1, q * 8 + 6, none⟩ = some (.string (callM q).path2) ∧ w'.cell? ⟨w2.heap.size + 1, q * 8 + 7, none⟩ = some (.string (callM q).data))
     (first | go_keep | (trace_state; fail))
     ((go_at_call 30; refine (HC.out _ (by first | exact Cv.drewN_below (Below.refl _ _) 1 | exact (Cv.drewN_below (Below.refl _ _) 1).alloc (by simp) _ | exact ((Cv.drewN_below (Below.refl _ _) 1).alloc (by simp) _).alloc (by simp) _)).mono ?_; rintro e5 w5 ⟨A5, n5, c5, E5, m5, d5, D5, i5, f5, z0, z1', z2', z3', z4', z5', z6', z7', rfl, hst5, hb5, hbw5⟩; have g0 := (hbw5.cell (p := ⟨w2.heap.size, 0, none⟩) hl6).trans s0; have g1 := (hbw5.cell (p := ⟨w2.heap.size, 1, none⟩) hl6).trans s1; have g2 := (hbw5.cell (p := ⟨w2.heap.size, 2, none⟩) hl6).trans s2; have j0 := (hbw5.cell (p := ⟨w2.heap.size + 1, q * 8, none⟩) hl7).trans k0; have j1 := (hbw5.cell (p := ⟨w2.heap.size + 1, q * 8 + 1, none⟩) hl7).trans k1; have j2 := (hbw5.cell (p := ⟨w2.heap.size + 1, q * 8 + 2, none⟩) hl7).trans k2; have j3 := (hbw5.cell (p := ⟨w2.heap.size + 1, q * 8 + 3, none⟩) hl7).trans k3; have j4 := (hbw5.cell (p := ⟨w2.heap.size + 1, q * 8 + 4, none⟩) hl7).trans k4; have j5 := (hbw5.cell (p := ⟨w2.heap.size + 1, q * 8 + 5, none⟩) hl7).trans k5; have j6 := (hbw5.cell (p := ⟨w2.heap.size + 1, q * 8 + 6, none⟩) hl7).trans k6; have j7 := (hbw5.cell (p := ⟨w2.heap.size + 1, q * 8 + 7, none⟩) hl7).trans k7; (first | (have am := row_kept hb5 (al2a wr (.cells #[.slice none 0 0, .slice none 0 0, .slice none 0 0] 27) (.cells #[.int .i64 0, .int .i64 0, .int .i64 0, .bool false, .string ⟨#[]⟩, .slice none 0 0] 31)); have an := row_kept hb5 (al2b wr (.cells #[.slice none 0 0, .slice none 0 0, .slice none 0 0] 27) (.cells #[.int .i64 0, .int .i64 0, .int .i64 0, .bool false, .string ⟨#[]⟩, .slice none 0 0] 31)); obtain ⟨m0, m1, m2', mf⟩ := OutAt.get am; obtain ⟨n0', n1', n2', n3', n4', n5', nf⟩ := ResAt.get an; have lm := (Array.getElem?_eq_some_iff.1 am).1; have ln := (Array.getElem?_eq_some_iff.1 an).1; have nm : w5.heap.size ≠ wr.heap.size := Nat.ne_of_gt lm; have HAM := Lib.hid am; have nm' := Ne.symm nm; have y1 : w5.heap.size ≠ w2.heap.size := (by omega); have y2 : w5.heap.size ≠ w2.heap.size + 1 := (by omega); have nn : w5.heap.size ≠ wr.heap.size + 1 := Nat.ne_of_gt ln; have nn' := Ne.symm nn; have HAN := Lib.hid an; clear am an) | (have am := row_kept hb5 (al2a wr (.cells #[.int .i64 0, .int .i64 0, .int .i64 0, .bool false, .string ⟨#[]⟩, .slice none 0 0] 31) (.cells #[.slice none 0 0, .slice none 0 0, .slice none 0 0] 27)); have an := row_kept hb5 (al2b wr (.cells #[.int .i64 0, .int .i64 0, .int .i64 0, .bool false, .string ⟨#[]⟩, .slice none 0 0] 31) (.cells #[.slice none 0 0, .slice none 0 0, .slice none 0 0] 27)); obtain ⟨m0, m1, m2', mf⟩ := OutAt.get an; obtain ⟨n0', n1', n2', n3', n4', n5', nf⟩ := ResAt.get am; have lm := (Array.getElem?_eq_some_iff.1 am).1; have ln := (Array.getElem?_eq_some_iff.1 an).1; have nm : w5.heap.size ≠ wr.heap.size := Nat.ne_of_gt lm; have HAM := Lib.hid am; have nm' := Ne.symm nm; have y1 : w5.heap.size ≠ w2.heap.size := (by omega); have y2 : w5.heap.size ≠ w2.heap.size + 1 := (by omega); have nn : w5.heap.size ≠ wr.heap.size + 1 := Nat.ne_of_gt ln; have nn' := Ne.symm nn; have HAN := Lib.hid an; clear am an) | (have am := row_kept hb5 (al1 wr (.cells #[.slice none 0 0, .slice none 0 0, .slice none 0 0] 27)); obtain ⟨m0, m1, m2', mf⟩ := OutAt.get am; have lm := (Array.getElem?_eq_some_iff.1 am).1; have nm : w5.heap.size ≠ wr.heap.size := Nat.ne_of_gt lm; have HAM := Lib.hid am; have nm' := Ne.symm nm; have y1 : w5.heap.size ≠ w2.heap.size := (by omega); have y2 : w5.heap.size ≠ w2.heap.size + 1 := (by omega); clear am) | (have am := row_kept hb5 (al1 wr (.cells #[.int .i64 0, .int .i64 0, .int .i64 0, .bool false, .string ⟨#[]⟩, .slice none 0 0] 31)); obtain ⟨m0, m1, m2', m3, m4, m5', mf⟩ := ResAt.get am; have lm := (Array.getElem?_eq_some_iff.1 am).1; have nm : w5.heap.size ≠ wr.heap.size := Nat.ne_of_gt lm; have HAM := Lib.hid am; have nm' := Ne.symm nm; have y1 : w5.heap.size ≠ w2.heap.size := (by omega); have y2 : w5.heap.size ≠ w2.heap.size + 1 := (by omega); clear am) | skip)))
    all_goals (
     go_wp2_with fail
     go_meet
     clear HB HST HC HCL HOUT HST2 HB2
     first
      | with_reducible exact ⟨_, A5, n5, c5, E5, m5, d5, D5, i5, f5, rfl, round1 hst5 hbw5⟩
      | with_reducible exact ⟨_, A5, n5, c5, E5, m5, d5, D5, i5, f5, rfl, round2 hst5 hbw5⟩
      | with_reducible exact ⟨_, A5, n5, c5, E5, m5, d5, D5, i5, f5, rfl, round3 hst5 hbw5 HAM.out⟩
      | with_reducible exact ⟨_, A5, n5, c5, E5, m5, d5, D5, i5, f5, rfl, round5 hst5 hbw5 HAM.out⟩
      | with_reducible exact ⟨_, A5, n5, c5, E5, m5, d5, D5, i5, f5, rfl, round4 hst5 hbw5 HAM.out HAN.out⟩
      | with_reducible exact ⟨_, A5, n5, c5, E5, m5, d5, D5, i5, f5, rfl, round6 hst5 hbw5 HAM.out HAN.out⟩)
   case rest =>
    obtain ⟨b, A5, n5, c5, E5, m5, d5, D5, i5, f5, rfl, ho5, hst5, hb5, hle⟩ := hcut
    have hrow : OutAt wc w2.heap.size _ _ _ := (hb5.block w2.heap.size hl6).trans HOUT.out
    have hcl5 : CallsM wc (w2.heap.size + 1) := (hb5.block (w2.heap.size + 1) hl7).trans HCL.out
    obtain ⟨s0', s1', s2', sf'⟩ := hrow.get
    obtain ⟨y0, y1, y2, _⟩ := ho5.get
    have hne : b ≠ w2.heap.size := by omega
    have hne' := Ne.symm hne
    have HR := Lib.hid hrow
    have HST5 := Lib.hid hst5
    have HB5 := Lib.hid (HB.out.trans (hb5.mono hsz))
    have HCL5 := Lib.hid hcl5
    clear hrow hst5 hb5 hcl5 ho5 s0 s1 s2
    go_wp2_with fail
    go_roundw
    case rel =>
     refine ⟨q + 1, _, by go_num, by omega, (HST5.out.set3 HR.out _ _ _).lower (by omega), row_far3 HCL5.out (ne_down _) _ _ _, ⟨A5, n5, c5, E5, m5, d5, D5, i5, f5, rfl, row_three HR.out _ _ _⟩, below_set3 HB5.out (Nat.le_refl _) _ _ _⟩
    case measure => simp [intOf]; omega
  ·have e3 : q = 7 := by omega
   subst e3
   have hst' : StAt (some (w.heap.size + 1)) wr (.agg #[.slice A k9 c, .slice E l d, .slice D i9 f9]) (madeV N) := HST.out
   have hR : OutAt wr w.heap.size (.slice none 0 0) (.slice none 0 0) (.slice none 0 0) := (hbel.block w.heap.size (by omega)).trans ((HB2.out.block w.heap.size (by omega)).trans HO0.out)
   obtain ⟨r0, r1, r2, rf⟩ := hR.get
   have rf0 := rf 0
   have rf1 := rf 1
   have rf2 := rf 2
   obtain ⟨W9, hW9, hR9, kC, hbC⟩ := hR.three (.slice A k9 c) (.slice E l d) (.slice D i9 f9)
   have hst9 := (hst'.keep3 (kC _ (by decide)) (kC _ (by decide)) (kC _ (by decide)) (kC _ (by decide))).lower (Nat.le_succ w.heap.size)
   have hb9 : Below w.heap.size w W9 := hbC _ _ (Nat.le_refl _) ((HL0.out.trans (HB2.out.mono (by omega))).trans (hbel.mono (by omega)))
   have HF := Lib.hid hst9
   have HB9 := Lib.hid hb9
   have HR9 := Lib.hid hR9
   clear hst' hR kC hbC hst9 hb9 hR9 hbel hst hout hcl sf rf
   go_wp2_with fail
   (try simp only [Exit.inBlock, Exit.then])
   refine bodyPost_ret (results_cell_row rfl _ _ w.heap.size 27 _ (0, 0) _ rfl HR9.out Tryz.underlying27 rfl (by kernel_rfl)) rfl ?_
   exact ⟨_, rfl, HF.out, HB9.out⟩
theorem boxR (w : World) (cs : Array Value) (t : TypeId) : ∃ W, w.alloc (.cells cs t) = W ∧ W.heap[w.heap.size]? = some (.cells cs t (0, 0)) ∧ Below w.heap.size w W ∧ W.heap.size = w.heap.size + 1 :=
 ⟨_, rfl, heap_alloc_new w _, (Below.refl _ _).alloc (Nat.le_refl _) _, by simp⟩
theorem box_ca2 (w : World) (c : Ca) : ∃ W, w.alloc (.cells #[.int .i64 c.kind, .int .i64 c.core, .int .i64 c.fd, .int .i64 c.off, .int .i64 c.num, .string c.path, .string c.path2, .string c.data] 35) = W ∧ Below w.heap.size w W ∧ W.heap.size = w.heap.size + 1 ∧
  W.cell? ⟨w.heap.size, 0, none⟩ = some (.int .i64 c.kind) ∧ W.cell? ⟨w.heap.size, 1, none⟩ = some (.int .i64 c.core) ∧ W.cell? ⟨w.heap.size, 2, none⟩ = some (.int .i64 c.fd) ∧ W.cell? ⟨w.heap.size, 3, none⟩ = some (.int .i64 c.off) ∧ W.cell? ⟨w.heap.size, 4, none⟩ = some (.int .i64 c.num) ∧ W.cell? ⟨w.heap.size, 5, none⟩ = some (.string c.path) ∧ W.cell? ⟨w.heap.size, 6, none⟩ = some (.string c.path2) ∧ W.cell? ⟨w.heap.size, 7, none⟩ = some (.string c.data) := by
 obtain ⟨W, hW, hc, hb, hz⟩ := box_ca w c
 exact ⟨W, hW, hb, hz, by rw [cell_of_row W _ _ _ _ (0, 0) hc]; rfl, by rw [cell_of_row W _ _ _ _ (0, 0) hc]; rfl, by rw [cell_of_row W _ _ _ _ (0, 0) hc]; rfl, by rw [cell_of_row W _ _ _ _ (0, 0) hc]; rfl, by rw [cell_of_row W _ _ _ _ (0, 0) hc]; rfl, by rw [cell_of_row W _ _ _ _ (0, 0) hc]; rfl, by rw [cell_of_row W _ _ _ _ (0, 0) hc]; rfl, by rw [cell_of_row W _ _ _ _ (0, 0) hc]; rfl⟩
theorem OutAt.far {w w' : World} {p g : Nat} {a b c x y z : Value} (h : OutAt w p a b c) (he : ((w.setCell ⟨g, 0, none⟩ x).setCell ⟨g, 1, none⟩ y).setCell ⟨g, 2, none⟩ z = w') (hne : p ≠ g) : OutAt w' p a b c := he ▸ row_far3 h hne x y z
theorem ResAt.far {w w' : World} {p g : Nat} {a b c d e f x y z : Value} (h : ResAt w p a b c d e f) (he : ((w.setCell ⟨g, 0, none⟩ x).setCell ⟨g, 1, none⟩ y).setCell ⟨g, 2, none⟩ z = w') (hne : p ≠ g) : ResAt w' p a b c d e f := he ▸ row_far3 h hne x y z
theorem made_one (w : World) : Calls Tryz.prog 14 #[.int .i64 1] w fun e w' => ∃ v', e = .returned v' ∧ StAt (some w.heap.size) w' v' (madeV 1) ∧ Below w.heap.size w w' := made13_any 1 (.inl rfl) w
set_option maxRecDepth 100000 in
set_option maxHeartbeats 4000000 in
theorem code13_any (v : Value) (s : St) (c : Ca) (w : World) (h : StAt none w v s) (hp1 : c.path.size ≤ 140737488355328) (hp2 : c.path2.size ≤ 140737488355328) (hds : c.data.size ≤ 140737488355328) :
  Calls Tryz.prog 17 #[v, caV c] w fun e w' => e = .returned (.int .i64 (doV s c).2.code) ∧ Below w.heap.size w w' := by
 obtain ⟨A, n, c', E, m, d, D, k, e, rfl, _⟩ := h.at_
 obtain ⟨V1, hV1, hz1, ho1, hb1⟩ := box_s w (.slice A n c') (.slice E m d) (.slice D k e)
 obtain ⟨V2, hV2, hb2, hz2, k0, k1, k2, k3, k4, k5, k6, k7⟩ := box_ca2 V1 c
 rw [hz1] at k0 k1 k2 k3 k4 k5 k6 k7
 obtain ⟨o0, o1, o2, _⟩ := (ho1.mv hb2).get
 have hdo := mDo_any (.agg #[.slice A n c', .slice E m d, .slice D k e]) s c V2 ((h.below hb1).below hb2) hp1 hp2 hds
 obtain ⟨R, hR⟩ : ∃ R, doV s c = R := ⟨_, rfl⟩
 rw [hR] at hdo ⊢
 have HDO := Lib.hid hdo
 have HB := Lib.hid (Cv.next hb1 hb2)
 unfold caV
 clear h hb1 hb2 ho1 hdo hR hp1 hp2 hds
 go_enter Tryz.func17, Tryz.ntmps17
 go_wp2_with fail
 refine HDO.out.mono ?_
 rintro e4 x4 ⟨v', rv, rfl, hst4, ⟨F, f, f', rfl, hokF, hnF⟩, hb4⟩
 obtain ⟨A4, n4, c4, E4, m4, d4, D4, kk4, g4, rfl, -⟩ := hst4.at_
 obtain ⟨U1, V4, hU1, hU, hy1, hy, hoU, hrU, hbU⟩ := box_sr x4 (.slice A4 n4 c4) (.slice E4 m4 d4) (.slice D4 kk4 g4) R.2.code R.2.fd R.2.num R.2.dir R.2.data F f f'
 obtain ⟨r0, r1, r2, r3, r4, r5, _⟩ := hrU.get
 have HB4 := Lib.hid (Cv.next HB.out (Cv.next hb4 hbU))
 clear hst4 hokF hnF hb4 hoU hrU hbU
 go_wp2_with fail
 go_ret
 exact ⟨rfl, HB4.out⟩
end Go.Proofs.YtndcloohcfhejaaGreat
namespace Go.Proofs.YtndcloohcfhejaaGreat
def stB (o : List Ds) (D E : ByteArray) : St := ⟨[⟨1, true, [⟨⟨#[100]⟩, 2⟩, ⟨⟨#[101]⟩, 10⟩, ⟨⟨#[102]⟩, 18⟩, ⟨⟨#[103]⟩, 18⟩], ⟨#[]⟩⟩, ⟨2, true, [⟨⟨#[104]⟩, 26⟩], ⟨#[]⟩⟩, ⟨10, true, [], ⟨#[]⟩⟩, ⟨18, false, [], D⟩, ⟨26, false, [], E⟩], o, [4]⟩
def opn1 : List Ds := [⟨0, 0, 18⟩]
def opn2 : List Ds := [⟨0, 0, 18⟩, ⟨0, 1, 26⟩]
theorem may_stB (o : List Ds) (ho : o = opn1 ∨ o = opn2) (D E : ByteArray) (hD : D.size ≤ 256) (hE : E.size ≤ 256) : mayV (stB o D E) = true := by
 have h1 : decide (256 < D.size) = false := decide_eq_false_iff_not.2 (by omega)
 have h2 : decide (256 < E.size) = false := decide_eq_false_iff_not.2 (by omega)
 have e7 : entsV (stB o D E).inos [] = true := by kernel_rfl
 have hr : reachV (stB o D E).inos = [true, true, true, true, true] := by kernel_rfl
 have bD : inoBad (stB o D E) (some 10) ⟨18, false, [], D⟩ = false := by
  show (badNum [4] (some 10) 18 || decide (256 < D.size) || (false && decide (D.size ≠ 0)) || (!false && !([] : List En).isEmpty) || !entsV (stB o D E).inos []) = false
  rw [h1, e7]
  rfl
 have bE : inoBad (stB o D E) (some 18) ⟨26, false, [], E⟩ = false := by
  show (badNum [4] (some 18) 26 || decide (256 < E.size) || (false && decide (E.size ≠ 0)) || (!false && !([] : List En).isEmpty) || !entsV (stB o D E).inos []) = false
  rw [h2, e7]
  rfl
 have lD : inoLost (stB o D E) false ⟨18, false, [], D⟩ true = false := by kernel_rfl
 have lE : inoLost (stB o D E) false ⟨26, false, [], E⟩ true = false := by kernel_rfl
 have b1 : inoBad (stB o D E) none ⟨1, true, [⟨⟨#[100]⟩, 2⟩, ⟨⟨#[101]⟩, 10⟩, ⟨⟨#[102]⟩, 18⟩, ⟨⟨#[103]⟩, 18⟩], ⟨#[]⟩⟩ = false := by kernel_rfl
 have b2 : inoBad (stB o D E) (some 1) ⟨2, true, [⟨⟨#[104]⟩, 26⟩], ⟨#[]⟩⟩ = false := by kernel_rfl
 have b3 : inoBad (stB o D E) (some 2) ⟨10, true, [], ⟨#[]⟩⟩ = false := by kernel_rfl
 have l1 : inoLost (stB o D E) true ⟨1, true, [⟨⟨#[100]⟩, 2⟩, ⟨⟨#[101]⟩, 10⟩, ⟨⟨#[102]⟩, 18⟩, ⟨⟨#[103]⟩, 18⟩], ⟨#[]⟩⟩ true = false := by kernel_rfl
 have l2 : inoLost (stB o D E) false ⟨2, true, [⟨⟨#[104]⟩, 26⟩], ⟨#[]⟩⟩ true = false := by kernel_rfl
 have l3 : inoLost (stB o D E) false ⟨10, true, [], ⟨#[]⟩⟩ true = false := by kernel_rfl
 have e6 : (decide (1 ≤ (stB o D E).made.length) && decide ((stB o D E).made.length ≤ 8) && rootB (stB o D E).inos && opensV (stB o D E) && madeG (stB o D E).made && decide ((stB o D E).inos.length ≤ 257)) = true := by
  rcases ho with rfl | rfl <;> kernel_rfl
 unfold mayV
 rw [e6, hr, Bool.true_and]
 have hi : (stB o D E).inos = [⟨1, true, [⟨⟨#[100]⟩, 2⟩, ⟨⟨#[101]⟩, 10⟩, ⟨⟨#[102]⟩, 18⟩, ⟨⟨#[103]⟩, 18⟩], ⟨#[]⟩⟩, ⟨2, true, [⟨⟨#[104]⟩, 26⟩], ⟨#[]⟩⟩, ⟨10, true, [], ⟨#[]⟩⟩, ⟨18, false, [], D⟩, ⟨26, false, [], E⟩] := rfl
 obtain ⟨S, hS⟩ : ∃ S, stB o D E = S := ⟨_, rfl⟩
 rw [hS] at hi bD bE lD lE b1 b2 b3 l1 l2 l3 ⊢
 rw [hi]
 simp [inosG, b1, b2, b3, bD, bE, l1, l2, l3, lD, lE]
theorem may_call2 {s : St} {c : Ca} (hm : mayV s = true) (hk0 : 0 ≤ c.kind) (hk1 : c.kind ≤ 16) (hc0 : 0 ≤ c.core) (hc1 : c.core < (s.made.length : Int)) : ¬ (mayV s = false ∨ c.core < 0 ∨ (s.made.length : Int) ≤ c.core ∨ c.kind < 0 ∨ 16 < c.kind) := by
 rw [hm]
 rintro (h | h | h | h | h)
 ·cases h
 all_goals omega
theorem doV_fd {s : St} {c : Ca} (hm : mayV s = true) (hk : 3 ≤ c.kind ∧ c.kind ≤ 7) (hc0 : 0 ≤ c.core) (hc1 : c.core < (s.made.length : Int)) : doV s c = byFdV s c := by
 unfold doV doF
 rw [if_neg (may_call2 hm (by omega) (by omega) hc0 hc1), if_neg (by omega), if_neg (by omega), if_pos (by omega)]
def digsL : List UInt8 := [48, 49, 50, 51, 52, 53, 54, 55, 56, 57]
theorem dataAt_18 (o : List Ds) (D E : ByteArray) : dataAt (stB o D E).inos 18 = D := rfl
theorem dataAt_26 (o : List Ds) (D E : ByteArray) : dataAt (stB o D E).inos 26 = E := rfl
theorem links_2 (o : List Ds) (D E : ByteArray) : linkI (stB o D E).inos 2 = 1 := rfl
theorem fd_one : fdV opn1 0 0 = 18 := by decide
theorem fd_two : fdV opn2 0 0 = 18 ∧ fdV opn2 0 1 = 26 := by decide
theorem txt_list (l : List UInt8) : (txt l).data.toList = l := rfl
theorem txt_self (b : ByteArray) : txt b.data.toList = b := rfl
theorem read_at {s : St} {fd n : Int} {D : ByteArray} (hm : mayV s = true) (h0 : 0 < (s.made.length : Int)) (hf : fdV s.opn 0 fd = n) (hn : n ≠ 0) (hd : dataAt s.inos n = D) (off num : Nat) (h1 : off ≤ 256) (h2 : num ≤ 256) :
  doV s ⟨4, 0, fd, (off : Int), (num : Int), ⟨#[]⟩, ⟨#[]⟩, ⟨#[]⟩⟩ = (s, { data := txt ((D.data.toList.drop off).take num) }) := by
 rw [doV_fd hm ⟨show (3 : Int) ≤ 4 by decide, show (4 : Int) ≤ 7 by decide⟩ (Int.le_refl 0) h0]
 have h9 : ¬ ((off : Int) < 0 ∨ 256 < (off : Int) ∨ (num : Int) < 0 ∨ 256 < (num : Int)) := by omega
 have h8 : ¬ (4 : Int) = 3 := by decide
 unfold byFdV
 simp only [hf, hd, if_neg hn, if_neg h8, if_true, if_neg h9, Int.toNat_natCast]
theorem size_at {s : St} {fd n : Int} {D : ByteArray} (hm : mayV s = true) (h0 : 0 < (s.made.length : Int)) (hf : fdV s.opn 0 fd = n) (hn : n ≠ 0) (hd : dataAt s.inos n = D) :
  doV s ⟨7, 0, fd, 0, 0, ⟨#[]⟩, ⟨#[]⟩, ⟨#[]⟩⟩ = (s, { num := D.size }) := by
 rw [doV_fd hm ⟨show (3 : Int) ≤ 7 by decide, show (7 : Int) ≤ 7 by decide⟩ (Int.le_refl 0) h0]
 unfold byFdV
 simp only [hf, hd, if_neg hn, if_neg (show ¬ (7 : Int) = 3 by decide), if_neg (show ¬ (7 : Int) = 4 by decide), if_neg (show ¬ (7 : Int) = 5 by decide), if_neg (show ¬ (7 : Int) = 6 by decide), if_true]
theorem write_bad {s : St} {fd n : Int} (hm : mayV s = true) (h0 : 0 < (s.made.length : Int)) (hf : fdV s.opn 0 fd = n) (hn : n ≠ 0) (off : Int) (d : ByteArray) (hk : off < 0 ∨ 256 < off ∨ 256 < d.size) : doV s ⟨5, 0, fd, off, 0, ⟨#[]⟩, ⟨#[]⟩, d⟩ = (s, { code := 9 }) := by
 rw [doV_fd hm ⟨show (3 : Int) ≤ 5 by decide, show (5 : Int) ≤ 7 by decide⟩ (Int.le_refl 0) h0]
 unfold byFdV
 simp only [hf, if_neg hn, if_neg (show ¬ (5 : Int) = 3 by decide), if_neg (show ¬ (5 : Int) = 4 by decide), if_true, if_pos hk]
theorem write_full {s : St} {fd n : Int} (hm : mayV s = true) (h0 : 0 < (s.made.length : Int)) (hf : fdV s.opn 0 fd = n) (hn : n ≠ 0) (off : Nat) (d : ByteArray) (h1 : off ≤ 256) (h2 : d.size ≤ 256) (h3 : 256 < off + d.size) : doV s ⟨5, 0, fd, (off : Int), 0, ⟨#[]⟩, ⟨#[]⟩, d⟩ = (s, { code := 5 }) := by
 rw [doV_fd hm ⟨show (3 : Int) ≤ 5 by decide, show (5 : Int) ≤ 7 by decide⟩ (Int.le_refl 0) h0]
 have h9 : ¬ ((off : Int) < 0 ∨ 256 < (off : Int) ∨ 256 < d.size) := by omega
 have h8 : (256 : Int) < (off : Int) + (d.size : Int) := by omega
 unfold byFdV
 simp only [hf, if_neg hn, if_neg (show ¬ (5 : Int) = 3 by decide), if_neg (show ¬ (5 : Int) = 4 by decide), if_true, if_neg h9, if_pos h8]
def wroteL (l : List UInt8) (off : Nat) (d : List UInt8) : List UInt8 := if d.length = 0 then l else layL l off d
theorem write_ok {s : St} {fd n : Int} {D : ByteArray} (hm : mayV s = true) (h0 : 0 < (s.made.length : Int)) (hf : fdV s.opn 0 fd = n) (hn : n ≠ 0) (hd : dataAt s.inos n = D) (hself : setData s.inos n D = s.inos) (off : Nat) (d : ByteArray) (h1 : off + d.size ≤ 256) :
  doV s ⟨5, 0, fd, (off : Int), 0, ⟨#[]⟩, ⟨#[]⟩, d⟩ = ({ s with inos := setData s.inos n (txt (wroteL D.data.toList off d.data.toList)) }, { num := d.size }) := by
 rw [doV_fd hm ⟨show (3 : Int) ≤ 5 by decide, show (5 : Int) ≤ 7 by decide⟩ (Int.le_refl 0) h0]
 have h9 : ¬ ((off : Int) < 0 ∨ 256 < (off : Int) ∨ 256 < d.size) := by omega
 have h8 : ¬ (256 : Int) < (off : Int) + (d.size : Int) := by omega
 have hl : d.data.toList.length = d.size := rfl
 unfold byFdV wroteL
 simp only [hf, hd, if_neg hn, if_neg (show ¬ (5 : Int) = 3 by decide), if_neg (show ¬ (5 : Int) = 4 by decide), if_true, if_neg h9, if_neg h8, hl, Int.toNat_natCast]
 by_cases hz : d.size = 0
 ·rw [if_pos hz, if_pos hz, txt_self, hself, hz]
  rfl
 ·rw [if_neg hz, if_neg hz]
theorem sizedL_lenB (l : List UInt8) (k : Nat) : (sizedL l k).length = k := by
 unfold sizedL
 rw [List.length_take, List.length_append, List.length_replicate]
 omega
theorem sizedL_get (l : List UInt8) (k i : Nat) (h : i < k) : (sizedL l k)[i]? = some (l.getD i 0) := by
 unfold sizedL
 rw [List.getElem?_take, if_pos h, List.getD_eq_getElem?_getD]
 by_cases hi : i < l.length
 ·rw [List.getElem?_append_left hi, List.getElem?_eq_getElem hi]
  rfl
 ·rw [List.getElem?_append_right (by omega), List.getElem?_eq_none (by omega : l.length ≤ i), List.getElem?_replicate, if_pos (by omega)]
  rfl
theorem layL_lenB (l : List UInt8) (off : Nat) (d : List UInt8) : (layL l off d).length = max l.length (off + d.length) := by
 unfold layL
 rw [List.length_append, List.length_append, List.length_take, List.length_drop, sizedL_lenB]
 omega
theorem layL_get (l : List UInt8) (off : Nat) (d : List UInt8) (i : Nat) (h : i < max l.length (off + d.length)) : (layL l off d)[i]? = some (if off ≤ i ∧ i < off + d.length then d.getD (i - off) 0 else l.getD i 0) := by
 unfold layL
 have ht : ((sizedL l (max l.length (off + d.length))).take off).length = off := by rw [List.length_take, sizedL_lenB]; omega
 by_cases h1 : i < off
 ·rw [if_neg (by omega), List.getElem?_append_left (by rw [List.length_append, ht]; omega), List.getElem?_append_left (by rw [ht]; exact h1), List.getElem?_take, if_pos h1, sizedL_get _ _ _ h]
 ·by_cases h2 : i < off + d.length
  ·rw [if_pos ⟨by omega, h2⟩, List.getElem?_append_left (by rw [List.length_append, ht]; exact h2), List.getElem?_append_right (by rw [ht]; omega), ht, List.getD_eq_getElem?_getD, List.getElem?_eq_getElem (by omega : i - off < d.length)]
   rfl
  ·rw [if_neg (by omega), List.getElem?_append_right (by rw [List.length_append, ht]; omega), List.length_append, ht, List.getElem?_drop, show off + d.length + (i - (off + d.length)) = i by omega, sizedL_get _ _ _ h]
theorem wroteL_len (l : List UInt8) (off : Nat) (d : List UInt8) : (wroteL l off d).length = if d.length = 0 then l.length else max l.length (off + d.length) := by
 unfold wroteL
 split
 ·rfl
 ·exact layL_lenB _ _ _
theorem wroteL_get (l : List UInt8) (off : Nat) (d : List UInt8) (i : Nat) (h : i < (wroteL l off d).length) : (wroteL l off d)[i]? = some (if off ≤ i ∧ i < off + d.length then d.getD (i - off) 0 else l.getD i 0) := by
 rw [wroteL_len] at h
 unfold wroteL
 by_cases h0 : d.length = 0
 ·rw [if_pos h0] at h ⊢
  rw [if_neg (by omega), List.getD_eq_getElem?_getD, List.getElem?_eq_getElem h]
  rfl
 ·rw [if_neg h0] at h ⊢
  exact layL_get _ _ _ _ h
theorem wroteL_back (l : List UInt8) (off : Nat) (d : List UInt8) : ((wroteL l off d).drop off).take d.length = d := by
 by_cases h0 : d.length = 0
 ·rw [h0, List.take_zero, List.length_eq_zero_iff.1 h0]
 ·apply List.ext_getElem?
  intro i
  rw [List.getElem?_take]
  by_cases hi : i < d.length
  ·rw [if_pos hi, List.getElem?_drop, wroteL_get _ _ _ _ (by rw [wroteL_len, if_neg h0]; omega), if_pos (by omega), show off + i - off = i by omega, List.getD_eq_getElem?_getD, List.getElem?_eq_getElem hi]
   rfl
  ·rw [if_neg hi, List.getElem?_eq_none (by omega)]
end Go.Proofs.YtndcloohcfhejaaGreat
