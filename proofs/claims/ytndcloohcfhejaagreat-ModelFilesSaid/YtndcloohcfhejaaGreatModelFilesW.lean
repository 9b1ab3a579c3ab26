/- The law ModelFiles: its walk (printed by wip/gen_files.py). -/
import Derived.Test.YtndcloohcfhejaaGreatM43
import Derived.Test.YtndcloohcfhejaaGreatDoRoundR
set_option linter.unusedVariables false
set_option linter.unusedSimpArgs false
namespace Go.Proofs.YtndcloohcfhejaaGreat
open Go.RowKit
def fileS (o : Nat) (a b : ByteArray) (q : Nat) : St := match q with
 | 0 => madeV 1
 | 1 => stB opn2 (txt digsL) (txt [])
 | 2 => stB opn2 (txt digsL) (txt (wroteL [] o a.data.toList))
 | _ => stB opn2 (txt (wroteL digsL 0 b.data.toList)) (txt (wroteL [] o a.data.toList))
def fileC (o : Nat) (a b : ByteArray) (q : Nat) : Ca := match q with
 | 0 => ⟨2, 0, 0, 0, 0, ⟨#[47, 100, 47, 104]⟩, ⟨#[]⟩, ⟨#[]⟩⟩
 | 1 => ⟨5, 0, 1, (o : Int), 0, ⟨#[]⟩, ⟨#[]⟩, a⟩
 | _ => ⟨5, 0, 0, 0, 0, ⟨#[]⟩, ⟨#[]⟩, b⟩
def FileOk (o : Nat) (a b : ByteArray) (q : Nat) : Prop := (2 ≤ q → o + a.size ≤ 256) ∧ (3 ≤ q → b.size ≤ 256)
theorem file_ok0 (o : Nat) (a b : ByteArray) : FileOk o a b 0 := ⟨fun h => by omega, fun h => by omega⟩
theorem wrote_size (l d : List UInt8) (o : Nat) (hl : l.length ≤ 10) (h : o + d.length ≤ 256) : (txt (wroteL l o d)).size ≤ 256 := by
 rw [txt_size, wroteL_len]
 split <;> omega
theorem file_first : doV (madeV 1) ⟨2, 0, 0, 0, 0, ⟨#[47, 100, 47, 104]⟩, ⟨#[]⟩, ⟨#[]⟩⟩ = (stB opn2 (txt digsL) (txt []), { fd := 1 }) := by decide +kernel
theorem file_step {o : Nat} {a b : ByteArray} {q : Nat} {R : St × Re} (ho : o ≤ 15) (hok : FileOk o a b q) (hq : q < 3) (hR : doV (fileS o a b q) (fileC o a b q) = R) : (R.2.code = 0 → R.1 = fileS o a b (q + 1) ∧ FileOk o a b (q + 1)) ∧ (R.2.code ≠ 0 → 200 < a.size ∨ 200 < b.size) := by
 have hq3 : q = 0 ∨ q = 1 ∨ q = 2 := by omega
 rcases hq3 with rfl | rfl | rfl
 ·have h : doV (fileS o a b 0) (fileC o a b 0) = (stB opn2 (txt digsL) (txt []), { fd := 1 }) := file_first
  rw [← hR, h]
  exact ⟨fun _ => ⟨rfl, fun h => by omega, fun h => by omega⟩, fun h => absurd rfl h⟩
 ·have hm : mayV (stB opn2 (txt digsL) (txt [])) = true := may_stB _ (.inr rfl) _ _ (by decide) (by decide)
  have hS : fileS o a b 1 = stB opn2 (txt digsL) (txt []) := rfl
  have hC : fileC o a b 1 = ⟨5, 0, 1, (o : Int), 0, ⟨#[]⟩, ⟨#[]⟩, a⟩ := rfl
  rw [hS, hC] at hR
  by_cases h1 : 256 < a.size
  ·rw [write_bad hm (show (0 : Int) < 1 by decide) fd_two.2 (by decide) (o : Int) a (by omega)] at hR
   rw [← hR]
   exact ⟨fun h => absurd h (by show ¬ (9 : Int) = 0; decide), fun _ => .inl (by omega)⟩
  ·by_cases h2 : 256 < o + a.size
   ·rw [write_full hm (show (0 : Int) < 1 by decide) fd_two.2 (by decide) o a (by omega) (by omega) h2] at hR
    rw [← hR]
    exact ⟨fun h => absurd h (by show ¬ (5 : Int) = 0; decide), fun _ => .inl (by omega)⟩
   ·rw [write_ok hm (show (0 : Int) < 1 by decide) fd_two.2 (by decide) (dataAt_26 _ _ _) rfl o a (by omega)] at hR
    rw [← hR]
    exact ⟨fun _ => ⟨rfl, fun _ => by omega, fun h => by omega⟩, fun h => absurd rfl h⟩
 ·have ha := hok.1 (by omega)
  have hm : mayV (stB opn2 (txt digsL) (txt (wroteL [] o a.data.toList))) = true := may_stB _ (.inr rfl) _ _ (by decide) (wrote_size _ _ _ (by decide) ha)
  have hS : fileS o a b 2 = stB opn2 (txt digsL) (txt (wroteL [] o a.data.toList)) := rfl
  have hC : fileC o a b 2 = ⟨5, 0, 0, ((0 : Nat) : Int), 0, ⟨#[]⟩, ⟨#[]⟩, b⟩ := rfl
  rw [hS, hC] at hR
  by_cases h1 : 256 < b.size
  ·rw [write_bad hm (show (0 : Int) < 1 by decide) fd_two.1 (by decide) ((0 : Nat) : Int) b (.inr (.inr h1))] at hR
   rw [← hR]
   exact ⟨fun h => absurd h (by show ¬ (9 : Int) = 0; decide), fun _ => .inr (by omega)⟩
  ·rw [write_ok hm (show (0 : Int) < 1 by decide) fd_two.1 (by decide) (dataAt_18 _ _ _) rfl 0 b (by omega)] at hR
   rw [← hR]
   exact ⟨fun _ => ⟨rfl, fun _ => ha, fun _ => by omega⟩, fun h => absurd rfl h⟩
theorem fileC_size (o : Nat) (a b : ByteArray) (ha : a.size ≤ 140737488355328) (hb : b.size ≤ 140737488355328) (q : Nat) : (fileC o a b q).path.size ≤ 140737488355328 ∧ (fileC o a b q).path2.size ≤ 140737488355328 ∧ (fileC o a b q).data.size ≤ 140737488355328 := by
 unfold fileC
 split
 ·exact ⟨by show (4 : Nat) ≤ _; omega, by show (0 : Nat) ≤ _; omega, by show (0 : Nat) ≤ _; omega⟩
 ·exact ⟨by show (0 : Nat) ≤ _; omega, by show (0 : Nat) ≤ _; omega, ha⟩
 ·exact ⟨by show (0 : Nat) ≤ _; omega, by show (0 : Nat) ≤ _; omega, hb⟩
theorem Do_roundF (o : Nat) (a b : ByteArray) (q : Nat) (ha : a.size ≤ 140737488351232) (hb : b.size ≤ 140737488351232) (hq : q < 3) (v : Value) (w u : World) (h : StAt none w v (fileS o a b q)) (R : St × Re) (hR : doV (fileS o a b q) (fileC o a b q) = R) (hu : Below w.heap.size w u) :
  Calls Tryz.prog 15 #[v, caV (fileC o a b q)] u fun e w' => ∃ A k c E l d D i f z1 z2 z3 z4 z5 z6 z7, e = .returned (.tuple #[.agg #[.slice A k c, .slice E l d, .slice D i f], .agg #[.int .i64 R.2.code, .int .i64 z1, .int .i64 z2, .bool z3, .string z4, .slice z5 z6 z7]]) ∧ StAt (some w.heap.size) w' (.agg #[.slice A k c, .slice E l d, .slice D i f]) R.1 ∧ Below u.heap.size u w' ∧ Below w.heap.size w w' := by
 obtain ⟨z1, z2, z3⟩ := fileC_size o a b (by omega) (by omega) q
 have hdo := mDo_any v (fileS o a b q) (fileC o a b q) u (h.below hu) z1 z2 z3
 rw [hR] at hdo
 refine hdo.mono ?_
 rintro e w' ⟨v', rv, rfl, hst, ⟨F, f, f', rfl, _⟩, hb'⟩
 obtain ⟨A, k, c, E, l, d, D, i, g, rfl, _⟩ := hst.at_
 exact ⟨A, k, c, E, l, d, D, i, g, _, _, _, _, _, _, _, rfl, hst.lower hu.size, hb', hu.trans (hb'.mono hu.size)⟩
def CallsF (o : Nat) (da db : ByteArray) (w : World) (b : Nat) : Prop := w.heap[b]? = some (.cells #[.int .i64 2, .int .i64 0, .int .i64 0, .int .i64 0, .int .i64 0, .string ⟨#[47, 100, 47, 104]⟩, .string ⟨#[]⟩, .string ⟨#[]⟩, .int .i64 5, .int .i64 0, .int .i64 1, .int .i64 (o : Int), .int .i64 0, .string ⟨#[]⟩, .string ⟨#[]⟩, .string da, .int .i64 5, .int .i64 0, .int .i64 0, .int .i64 0, .int .i64 0, .string ⟨#[]⟩, .string ⟨#[]⟩, .string db] 35 (0, 0))
theorem CallsF.get {o : Nat} {da db : ByteArray} {w : World} {b : Nat} (h : CallsF o da db w b) (q : Nat) (hq : q < 3) : w.cell? ⟨b, q * 8, none⟩ = some (.int .i64 (fileC o da db q).kind) ∧ w.cell? ⟨b, q * 8 + 1, none⟩ = some (.int .i64 (fileC o da db q).core) ∧ w.cell? ⟨b, q * 8 + 2, none⟩ = some (.int .i64 (fileC o da db q).fd) ∧ w.cell? ⟨b, q * 8 + 3, none⟩ = some (.int .i64 (fileC o da db q).off) ∧ w.cell? ⟨b, q * 8 + 4, none⟩ = some (.int .i64 (fileC o da db q).num) ∧
  w.cell? ⟨b, q * 8 + 5, none⟩ = some (.string (fileC o da db q).path) ∧ w.cell? ⟨b, q * 8 + 6, none⟩ = some (.string (fileC o da db q).path2) ∧ w.cell? ⟨b, q * 8 + 7, none⟩ = some (.string (fileC o da db q).data) := by
 have : q = 0 ∨ q = 1 ∨ q = 2 := by omega
 rcases this with e | e | e <;> (subst e; refine ⟨?_, ?_, ?_, ?_, ?_, ?_, ?_, ?_⟩ <;> (rw [cell_of_row w b _ _ _ (0, 0) h]; rfl))
set_option maxRecDepth 100000 in
set_option maxHeartbeats 8000000 in
theorem modelFiles_walk (da : ByteArray) (hda : da.size ≤ 140737488351232) (db : ByteArray) (hdb : db.size ≤ 140737488351232) (off : Int) (h0 : (Lit.int .i64 off).wf = true) (w : World) : Calls Tryz.prog 12 #[.string da, .string db, .int .i64 off] w fun e w' => e = .returned (.bool true) ∧ Below w.heap.size w w' := by
 clear h0
 obtain ⟨o, ho15, hoo⟩ := Cv.and_i64 off 15 (by omega)
 rw [show ((15 : Nat) : Int) = 15 from rfl] at hoo
 go_enter Tryz.func12, Tryz.ntmps12
 go_wp2_with fail
 refine (awake13 _).mono ?_
 rintro ea V1 ⟨rfl, hb1⟩
 have HBA := Lib.hid hb1
 clear hb1
 go_wp2_with fail
 refine (made_one V1).mono ?_
 rintro eb w2 ⟨v2, rfl, hst2, hb2⟩
 obtain ⟨A2, n2, c2, E2, m2, d2, D2, k2, e2, rfl, _⟩ := hst2.at_
 have hst2' : StAt (some 0) w2 (.agg #[.slice A2 n2 c2, .slice E2 m2 d2, .slice D2 k2 e2]) (fileS o da db 0) := hst2.lower (Nat.zero_le _)
 have HBW := Lib.hid (Cv.next HBA.out hb2)
 have HB2 := Lib.hid hb2
 have HST2 := Lib.hid hst2'
 clear hb2 hst2 hst2'
 go_wp2_with fail
 go_loopw [9] (fun j wr => ∃ (q : Nat) (v : Value), j = .int .i64 q ∧ q ≤ 3 ∧ FileOk o da db q ∧ StAt (some 0) wr v (fileS o da db q) ∧ CallsF o da db wr (w2.heap.size + 1) ∧ (∃ A k c E l d D i f, v = .agg #[.slice A k c, .slice E l d, .slice D i f] ∧ OutAt wr w2.heap.size (.slice A k c) (.slice E l d) (.slice D i f)) ∧ Below w2.heap.size w2 wr) (fun j _ => 3 - (intOf j).toNat)
 case atStart =>
  refine ⟨0, _, rfl, by omega, file_ok0 o da db, HST2.out.below ?_, row_new (w2.alloc _) _ _ (by simp), ⟨A2, n2, c2, E2, m2, d2, D2, k2, e2, rfl, ?_⟩, ?_⟩
  ·exact ((Below.refl _ _).alloc (Nat.le_refl _) _).alloc (by simp) _
  ·exact row_past (heap_alloc_new w2 _) (by simp)
  ·exact ((Below.refl _ _).alloc (Nat.le_refl _) _).alloc (by simp) _
 case round =>
  obtain ⟨q, v, rfl, hq, hok, hst, hcl, ⟨A, k9, c, E, l, d, D, i9, f9, rfl, hout⟩, hbel⟩ := hrel
  have HB := Lib.hid hbel
  have HST := Lib.hid hst
  have HOUT := Lib.hid hout
  have HCL := Lib.hid hcl
  have hsz := hbel.size
  have hl6 : w2.heap.size < wr.heap.size := (Array.getElem?_eq_some_iff.1 hout).1
  have hl7 : w2.heap.size + 1 < wr.heap.size := (Array.getElem?_eq_some_iff.1 hcl).1
  obtain ⟨s0, s1, s2, sf⟩ := hout.get
  by_cases hlt : q < 3
  ·obtain ⟨k0, k1, k2, k3, k4, k5, k6, k7⟩ := hcl.get q hlt
   have q0 : (0 : Int) ≤ (q : Int) := by omega
   have q1 : (q : Int) < 3 := by omega
   obtain ⟨R, hR⟩ : ∃ R, doV (fileS o da db q) (fileC o da db q) = R := ⟨_, rfl⟩
   have HC := Lib.hid (fun u => Do_roundF o da db q hda hdb hlt _ wr u hst.weak R hR)
   have HSTEP := Lib.hid (file_step ho15 hok hlt hR)
   clear hbel hst hout hcl sf hR
   go_upto_region 8 with fail
   go_cut [10, 11] (fun p p2 wx => ∃ b b2 A k c E l d D i f z1 z2 z3 z4 z5 z6 z7, p = .pointer (some ⟨b, 0, .none⟩) ∧ p2 = .pointer (some ⟨b2, 0, .none⟩) ∧ OutAt wx b (.slice A k c) (.slice E l d) (.slice D i f) ∧ ResAt wx b2 (.int .i64 R.2.code) (.int .i64 z1) (.int .i64 z2) (.bool z3) (.string z4) (.slice z5 z6 z7) ∧ StAt (some wr.heap.size) wx (.agg #[.slice A k c, .slice E l d, .slice D i f]) R.1 ∧ Below wr.heap.size wr wx ∧ wr.heap.size ≤ b ∧ wr.heap.size ≤ b2)
   case first =>
    have q2 : (q : Int).toNat = q := by omega
    have z1 : wr.heap.size ≠ w2.heap.size := by omega
    have z2 : wr.heap.size ≠ w2.heap.size + 1 := by omega
    have z3 : wr.heap.size + 1 ≠ w2.heap.size := by omega
    have z4 : wr.heap.size + 1 ≠ w2.heap.size + 1 := by omega
    go_region_held3 (fun w' => w'.cell? ⟨w2.heap.size, 0, none⟩ = some (.slice A k9 c) ∧ w'.cell? ⟨w2.heap.size, 1, none⟩ = some (.slice E l d) ∧ w'.cell? ⟨w2.heap.size, 2, none⟩ = some (.slice D i9 f9) ∧
     w'.cell? ⟨w2.heap.size + 1, q * 8, none⟩ = some (.int .i64 (fileC o da db q).kind) ∧ w'.cell? ⟨w2.heap.size + 1, q * 8 + 1, none⟩ = some (.int .i64 (fileC o da db q).core) ∧ w'.cell? ⟨w2.heap.size + 1, q * 8 + 2, none⟩ = some (.int .i64 (fileC o da db q).fd) ∧ w'.cell? ⟨w2.heap.size + 1, q * 8 + 3, none⟩ = some (.int .i64 (fileC o da db q).off) ∧
     w'.cell? ⟨w2.heap.size + 1, q * 8 + 4, none⟩ = some (.int .i64 (fileC o da db q).num) ∧ w'.cell? ⟨w2.heap.size + 1, q * 8 + 5, none⟩ = some (.string (fileC o da db q).path) ∧ w'.cell? ⟨w2.heap.size + 1, q * 8 + 6, none⟩ = some (.string (fileC o da db q).path2) ∧ w'.cell? ⟨w2.heap.size + 1, q * 8 + 7, none⟩ = some (.string (fileC o da db q).data))
     (first | go_keep | (trace_state; fail))
     ((go_at_call 15; refine (HC.out _ (by first | exact Cv.drewN_below (Below.refl _ _) 1 | exact (Cv.drewN_below (Below.refl _ _) 1).alloc (by simp) _ | exact ((Cv.drewN_below (Below.refl _ _) 1).alloc (by simp) _).alloc (by simp) _)).mono ?_; rintro e5 w5 ⟨A5, n5, c5, E5, m5, d5, D5, i5, f5, v1, v2, v3, v4, v5, v6, v7, rfl, hst5, hb5, hbw5⟩; have g0 := (hbw5.cell (p := ⟨w2.heap.size, 0, none⟩) hl6).trans s0; have g1 := (hbw5.cell (p := ⟨w2.heap.size, 1, none⟩) hl6).trans s1; have g2 := (hbw5.cell (p := ⟨w2.heap.size, 2, none⟩) hl6).trans s2; have j0 := (hbw5.cell (p := ⟨w2.heap.size + 1, q * 8, none⟩) hl7).trans k0; have j1 := (hbw5.cell (p := ⟨w2.heap.size + 1, q * 8 + 1, none⟩) hl7).trans k1; have j2 := (hbw5.cell (p := ⟨w2.heap.size + 1, q * 8 + 2, none⟩) hl7).trans k2; have j3 := (hbw5.cell (p := ⟨w2.heap.size + 1, q * 8 + 3, none⟩) hl7).trans k3; have j4 := (hbw5.cell (p := ⟨w2.heap.size + 1, q * 8 + 4, none⟩) hl7).trans k4; have j5 := (hbw5.cell (p := ⟨w2.heap.size + 1, q * 8 + 5, none⟩) hl7).trans k5; have j6 := (hbw5.cell (p := ⟨w2.heap.size + 1, q * 8 + 6, none⟩) hl7).trans k6; have j7 := (hbw5.cell (p := ⟨w2.heap.size + 1, q * 8 + 7, none⟩) hl7).trans k7; (first | (have am := row_kept hb5 (al2a wr (.cells #[.slice none 0 0, .slice none 0 0, .slice none 0 0] 27) (.cells #[.int .i64 0, .int .i64 0, .int .i64 0, .bool false, .string ⟨#[]⟩, .slice none 0 0] 31)); have an := row_kept hb5 (al2b wr (.cells #[.slice none 0 0, .slice none 0 0, .slice none 0 0] 27) (.cells #[.int .i64 0, .int .i64 0, .int .i64 0, .bool false, .string ⟨#[]⟩, .slice none 0 0] 31)); obtain ⟨m0, m1, m2', mf⟩ := OutAt.get am; obtain ⟨n0', n1', n2', n3', n4', n5', nf⟩ := ResAt.get an; have lm := (Array.getElem?_eq_some_iff.1 am).1; have ln := (Array.getElem?_eq_some_iff.1 an).1; have nm : w5.heap.size ≠ wr.heap.size := Nat.ne_of_gt lm; have HAM := Lib.hid am; have nm' := Ne.symm nm; have y1 : w5.heap.size ≠ w2.heap.size := (by omega); have y2 : w5.heap.size ≠ w2.heap.size + 1 := (by omega); have nn : w5.heap.size ≠ wr.heap.size + 1 := Nat.ne_of_gt ln; have nn' := Ne.symm nn; have HAN := Lib.hid an; clear am an) | (have am := row_kept hb5 (al2a wr (.cells #[.int .i64 0, .int .i64 0, .int .i64 0, .bool false, .string ⟨#[]⟩, .slice none 0 0] 31) (.cells #[.slice none 0 0, .slice none 0 0, .slice none 0 0] 27)); have an := row_kept hb5 (al2b wr (.cells #[.int .i64 0, .int .i64 0, .int .i64 0, .bool false, .string ⟨#[]⟩, .slice none 0 0] 31) (.cells #[.slice none 0 0, .slice none 0 0, .slice none 0 0] 27)); obtain ⟨m0, m1, m2', mf⟩ := OutAt.get an; obtain ⟨n0', n1', n2', n3', n4', n5', nf⟩ := ResAt.get am; have lm := (Array.getElem?_eq_some_iff.1 am).1; have ln := (Array.getElem?_eq_some_iff.1 an).1; have nm : w5.heap.size ≠ wr.heap.size := Nat.ne_of_gt lm; have HAM := Lib.hid am; have nm' := Ne.symm nm; have y1 : w5.heap.size ≠ w2.heap.size := (by omega); have y2 : w5.heap.size ≠ w2.heap.size + 1 := (by omega); have nn : w5.heap.size ≠ wr.heap.size + 1 := Nat.ne_of_gt ln; have nn' := Ne.symm nn; have HAN := Lib.hid an; clear am an) | (have am := row_kept hb5 (al1 wr (.cells #[.slice none 0 0, .slice none 0 0, .slice none 0 0] 27)); obtain ⟨m0, m1, m2', mf⟩ := OutAt.get am; have lm := (Array.getElem?_eq_some_iff.1 am).1; have nm : w5.heap.size ≠ wr.heap.size := Nat.ne_of_gt lm; have HAM := Lib.hid am; have nm' := Ne.symm nm; have y1 : w5.heap.size ≠ w2.heap.size := (by omega); have y2 : w5.heap.size ≠ w2.heap.size + 1 := (by omega); clear am) | (have am := row_kept hb5 (al1 wr (.cells #[.int .i64 0, .int .i64 0, .int .i64 0, .bool false, .string ⟨#[]⟩, .slice none 0 0] 31)); obtain ⟨m0, m1, m2', m3, m4, m5', mf⟩ := ResAt.get am; have lm := (Array.getElem?_eq_some_iff.1 am).1; have nm : w5.heap.size ≠ wr.heap.size := Nat.ne_of_gt lm; have HAM := Lib.hid am; have nm' := Ne.symm nm; have y1 : w5.heap.size ≠ w2.heap.size := (by omega); have y2 : w5.heap.size ≠ w2.heap.size + 1 := (by omega); clear am) | skip)))
    all_goals (
     go_wp2_with fail
     go_meet
     clear HB HST HC HCL HOUT HST2 HB2
     first
      | with_reducible exact ⟨_, _, A5, n5, c5, E5, m5, d5, D5, i5, f5, v1, v2, v3, v4, v5, v6, v7, rfl, rfl, roundR1 hst5 hbw5⟩
      | with_reducible exact ⟨_, _, A5, n5, c5, E5, m5, d5, D5, i5, f5, v1, v2, v3, v4, v5, v6, v7, rfl, rfl, roundR2 hst5 hbw5⟩
      | with_reducible exact ⟨_, _, A5, n5, c5, E5, m5, d5, D5, i5, f5, v1, v2, v3, v4, v5, v6, v7, rfl, rfl, roundR3 hst5 hbw5 HAM.out⟩
      | with_reducible exact ⟨_, _, A5, n5, c5, E5, m5, d5, D5, i5, f5, v1, v2, v3, v4, v5, v6, v7, rfl, rfl, roundR5 hst5 hbw5 HAM.out⟩
      | with_reducible exact ⟨_, _, A5, n5, c5, E5, m5, d5, D5, i5, f5, v1, v2, v3, v4, v5, v6, v7, rfl, rfl, roundR4 hst5 hbw5 HAM.out HAN.out⟩
      | with_reducible exact ⟨_, _, A5, n5, c5, E5, m5, d5, D5, i5, f5, v1, v2, v3, v4, v5, v6, v7, rfl, rfl, roundR6 hst5 hbw5 HAM.out HAN.out⟩)
   case rest =>
    obtain ⟨b, b2, A5, n5, c5, E5, m5, d5, D5, i5, f5, v1, v2, v3, v4, v5, v6, v7, rfl, rfl, ho5, hr5, hst5, hb5, hle, hle2⟩ := hcut
    obtain ⟨r0, r1, r2, r3, r4, r5, _⟩ := hr5.get
    have hrow : OutAt wc w2.heap.size _ _ _ := (hb5.block w2.heap.size hl6).trans HOUT.out
    have hcl5 : CallsF o da db wc (w2.heap.size + 1) := (hb5.block (w2.heap.size + 1) hl7).trans HCL.out
    obtain ⟨s0', s1', s2', sf'⟩ := hrow.get
    obtain ⟨y0, y1, y2, _⟩ := ho5.get
    have hne : b ≠ w2.heap.size := by omega
    have hne' := Ne.symm hne
    have HR := Lib.hid hrow
    have HST5 := Lib.hid hst5
    have HB5 := Lib.hid (HB.out.trans (hb5.mono hsz))
    have HCL5 := Lib.hid hcl5
    have HBF := Lib.hid (Cv.next HBW.out HB5.out)
    obtain ⟨CO, hCO⟩ : ∃ CO, R.2.code = CO := ⟨_, rfl⟩
    have hstep := HSTEP.out
    rw [hCO] at r0 hstep
    clear hrow hst5 hb5 hcl5 ho5 hr5 s0 s1 s2 hCO
    by_cases hco : CO = 0
    ·subst hco
     obtain ⟨hnx, hok'⟩ := hstep.1 rfl
     have HNX := Lib.hid hnx
     have HOK := Lib.hid hok'
     clear hstep hnx hok'
     go_wp2_with fail
     go_roundw
     case rel =>
      refine ⟨q + 1, _, by go_num, by omega, HOK.out, by rw [← HNX.out]; exact (HST5.out.set3 HR.out _ _ _).lower (Nat.zero_le _), row_far3 HCL5.out (ne_down _) _ _ _, ⟨A5, n5, c5, E5, m5, d5, D5, i5, f5, rfl, row_three HR.out _ _ _⟩, below_set3 HB5.out (Nat.le_refl _) _ _ _⟩
     case measure => simp [intOf]; omega
    ·have qc : (CO != 0) = true := by rw [bne_iff_ne]; exact hco
     have hbig := hstep.2 hco
     clear hstep hco
     by_cases h2 : 200 < da.size
     ·have g2 : (200 : Int) < (da.size : Int) := by omega
      go_wp2_with fail
      go_ret
      exact ⟨rfl, HBF.out⟩
     ·have g2 : decide ((200 : Int) < (da.size : Int)) = false := by rw [decide_eq_false_iff_not]; omega
      have g3 : (200 : Int) < (db.size : Int) := by omega
      go_wp2_with fail
      go_ret
      exact ⟨rfl, HBF.out⟩
  ·have e3 : q = 3 := by omega
   subst e3
   have hA : o + da.size ≤ 256 := hok.1 (by omega)
   have hB : db.size ≤ 256 := hok.2 (by omega)
   have HM : mayV (fileS o da db 3) = true := may_stB _ (.inr rfl) _ _ (wrote_size _ _ _ (by decide) (by show 0 + db.size ≤ 256; omega)) (wrote_size _ _ _ (by decide) hA)
   have hra := read_at HM (show (0 : Int) < 1 by decide) fd_two.2 (by decide) (dataAt_26 _ _ _) o da.size (by omega) (by omega)
   have hrb := read_at HM (show (0 : Int) < 1 by decide) fd_two.1 (by decide) (dataAt_18 _ _ _) 0 db.size (by omega) (by omega)
   rw [txt_list, show da.size = da.data.toList.length from rfl, wroteL_back, txt_self] at hra
   rw [txt_list, show db.size = db.data.toList.length from rfl, wroteL_back, txt_self] at hrb
   have HRA : Hid (doV (fileS o da db 3) ⟨4, 0, 1, (o : Int), (da.size : Int), ⟨#[]⟩, ⟨#[]⟩, ⟨#[]⟩⟩ = (fileS o da db 3, { data := da })) := Lib.hid hra
   have HRB : Hid (doV (fileS o da db 3) ⟨4, 0, 0, 0, (db.size : Int), ⟨#[]⟩, ⟨#[]⟩, ⟨#[]⟩⟩ = (fileS o da db 3, { data := db })) := Lib.hid hrb
   have HS0 := Lib.hid hst
   have HO0 := Lib.hid hout
   have HB := Lib.hid (Cv.next HBW.out hbel)
   have hlt0 := (Array.getElem?_eq_some_iff.1 hout).1
   have g7 : decide ((3 : Int) < 3) = false := by decide
   clear hra hrb HM hst hout hbel hok hcl sf hA hB
   go_wp2_with fail
   have hdo := mDo_any (.agg #[.slice A k9 c, .slice E l d, .slice D i9 f9]) (fileS o da db 3) ⟨4, 0, 1, (o : Int), (da.size : Int), ⟨#[]⟩, ⟨#[]⟩, ⟨#[]⟩⟩ wr HS0.out.weak (by show (0 : Nat) ≤ _; omega) (by show (0 : Nat) ≤ _; omega) (by show (0 : Nat) ≤ _; omega)
   obtain ⟨R1, hR1⟩ : ∃ R, doV (fileS o da db 3) ⟨4, 0, 1, (o : Int), (da.size : Int), ⟨#[]⟩, ⟨#[]⟩, ⟨#[]⟩⟩ = R := ⟨_, rfl⟩
   rw [hR1] at hdo
   have HR1E := Lib.hid hR1
   refine hdo.mono ?_
   clear hdo hR1
   rintro e1 x1 ⟨v1, rv1, rfl, hst, ⟨F1, f1, p1, rfl, hokF, hnF⟩, hb1⟩
   obtain ⟨A1, n1, c1, E1, m1, d1, D1, k1, g1, rfl, hIk, hDk, -⟩ := hst.at_
   obtain ⟨U1, w1, hU1, hV1, hy1, hyz1, ho, hr, hb⟩ := box_sr x1 (.slice A1 n1 c1) (.slice E1 m1 d1) (.slice D1 k1 g1) R1.2.code R1.2.fd R1.2.num R1.2.dir R1.2.data F1 f1 p1
   have hbb : Below wr.heap.size wr w1 := Cv.next hb1 hb
   replace HO0 := Lib.hid (HO0.out.mv hbb)
   replace HS0 := Lib.hid (HS0.out.below hbb)
   replace HB := Lib.hid (Cv.next HB.out hbb)
   have hxz1 := hb1.size
   have HR1 := Lib.hid hr
   have hsz1 := hbb.size
   clear hst hb1 ho hr hb hbb hokF hnF hIk hDk
   obtain ⟨i0, i1, i2, _⟩ := HO0.out.get
   go_wp2_with fail
   have hdo := mDo_any (.agg #[.slice A k9 c, .slice E l d, .slice D i9 f9]) (fileS o da db 3) ⟨4, 0, 0, 0, (db.size : Int), ⟨#[]⟩, ⟨#[]⟩, ⟨#[]⟩⟩ w1 HS0.out.weak (by show (0 : Nat) ≤ _; omega) (by show (0 : Nat) ≤ _; omega) (by show (0 : Nat) ≤ _; omega)
   obtain ⟨R2, hR2⟩ : ∃ R, doV (fileS o da db 3) ⟨4, 0, 0, 0, (db.size : Int), ⟨#[]⟩, ⟨#[]⟩, ⟨#[]⟩⟩ = R := ⟨_, rfl⟩
   rw [hR2] at hdo
   have HR2E := Lib.hid hR2
   refine hdo.mono ?_
   clear hdo hR2
   rintro e2 x2 ⟨v2, rv2, rfl, hst, ⟨F2, f2, p2, rfl, hokF, hnF⟩, hb1⟩
   obtain ⟨A2, n2, c2, E2, m2, d2, D2, k2, g2, rfl, hIk, hDk, -⟩ := hst.at_
   obtain ⟨U2, w2, hU2, hV2, hy1, hyz2, ho, hr, hb⟩ := box_sr x2 (.slice A2 n2 c2) (.slice E2 m2 d2) (.slice D2 k2 g2) R2.2.code R2.2.fd R2.2.num R2.2.dir R2.2.data F2 f2 p2
   have hbb : Below w1.heap.size w1 w2 := Cv.next hb1 hb
   replace HO0 := Lib.hid (HO0.out.mv hbb)
   replace HR1 := Lib.hid (HR1.out.mv hbb)
   replace HS0 := Lib.hid (HS0.out.below hbb)
   replace HB := Lib.hid (Cv.next HB.out hbb)
   clear i0 i1 i2
   have hxz2 := hb1.size
   have HR2 := Lib.hid hr
   have hsz2 := hbb.size
   clear hst hb1 ho hr hb hbb hokF hnF hIk hDk
   obtain ⟨i0, i1, i2, _⟩ := HO0.out.get
   have f1 : R1.2.data = da := by rw [← HR1E.out, HRA.out]
   have f2 : R2.2.data = db := by rw [← HR2E.out, HRB.out]
   obtain ⟨u0, u1, u2, u3, u4, u5, _⟩ := HR1.out.get
   obtain ⟨v0, v1, v2, v3, v4, v5, _⟩ := HR2.out.get
   rw [f1] at u4
   rw [f2] at v4
   clear f1 f2
   go_wp2_with fail
   have HL := Lib.hid (links_2 opn2 (txt (wroteL digsL 0 db.data.toList)) (txt (wroteL [] o da.data.toList)))
   refine (links_any _ (fileS o da db 3) 2 _ HS0.out.weak).mono ?_
   rintro e9 w9 ⟨rfl, hb9⟩
   have HB9 := Lib.hid (Cv.next HB.out hb9)
   have hL : linkI (fileS o da db 3).inos 2 = 1 := HL.out
   rw [hL]
   clear hb9 hL
   go_wp2_with fail
   go_ret
   exact ⟨rfl, HB9.out⟩
end Go.Proofs.YtndcloohcfhejaaGreat
