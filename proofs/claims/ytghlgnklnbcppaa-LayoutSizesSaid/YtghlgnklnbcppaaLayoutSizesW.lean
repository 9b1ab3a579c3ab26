/- The walk of the law LayoutSizes. -/
import Derived.Test.YtghlgnklnbcppaaM41
import Derived.Test.YtghlgnklnbcppaaDoRound
namespace Go.Proofs.Ytghlgnklnbcppaa
open Go.RowKit
set_option linter.unusedVariables false
set_option linter.unusedSimpArgs false
/-- One Do of the document, whatever the drawn region makes first. -/
theorem Do_round_any (n m q : Nat) (h1 : 1 ≤ n) (h8 : n ≤ 8) (hm : m ≤ 256) (hq : q < 3) (v : Value) (w u : World) (h : StAt none w v (stQ n m q)) (hu : Below w.heap.size w u) :
    Calls Try.prog 10 #[v, caV (callQ m q)] u fun e w' => ∃ A k c E l d D i f r, e = .returned (.tuple #[.agg #[.slice A k c, .slice E l d, .slice D i f], resV r]) ∧ StAt (some w.heap.size) w' (.agg #[.slice A k c, .slice E l d, .slice D i f]) (stQ n m (q + 1)) ∧ Below u.heap.size u w' ∧ Below w.heap.size w w' :=
  (Do_round n m q h1 h8 hm hq v u (h.below hu)).mono fun e w' ⟨v', r, he, hst, hb⟩ => by
    obtain ⟨A, k, c, E, l, d, D, i, f, rfl, _⟩ := hst.at_
    exact ⟨A, k, c, E, l, d, D, i, f, r, he, hst.lower hu.size, hb, hu.trans (hb.mono hu.size)⟩
def cellsQ (m : Nat) : Array Value := #[.int .i64 0, .int .i64 0, .int .i64 0, .int .i64 0, .int .i64 0, .string ⟨#[47, 97]⟩, .string ⟨#[]⟩, .string ⟨#[]⟩, .int .i64 2, .int .i64 0, .int .i64 0, .int .i64 0, .int .i64 0, .string ⟨#[47, 97]⟩, .string ⟨#[]⟩, .string ⟨#[]⟩, .int .i64 6, .int .i64 0, .int .i64 0, .int .i64 0, .int .i64 (m : Int), .string ⟨#[]⟩, .string ⟨#[]⟩, .string ⟨#[]⟩]
def CallsIn (w : World) (b m : Nat) : Prop := w.heap[b]? = some (.cells (cellsQ m) 28 (0, 0))
theorem CallsIn.get {w : World} {b m : Nat} (h : CallsIn w b m) (q : Nat) (hq : q < 3) : w.cell? ⟨b, q * 8, none⟩ = some (.int .i64 (callQ m q).kind) ∧ w.cell? ⟨b, q * 8 + 1, none⟩ = some (.int .i64 (callQ m q).core) ∧ w.cell? ⟨b, q * 8 + 2, none⟩ = some (.int .i64 (callQ m q).fd) ∧ w.cell? ⟨b, q * 8 + 3, none⟩ = some (.int .i64 (callQ m q).off) ∧ w.cell? ⟨b, q * 8 + 4, none⟩ = some (.int .i64 (callQ m q).num) ∧
    w.cell? ⟨b, q * 8 + 5, none⟩ = some (.string (callQ m q).path) ∧ w.cell? ⟨b, q * 8 + 6, none⟩ = some (.string (callQ m q).path2) ∧ w.cell? ⟨b, q * 8 + 7, none⟩ = some (.string (callQ m q).data) := by
  have : q = 0 ∨ q = 1 ∨ q = 2 := by omega
  rcases this with e | e | e <;> (subst e; refine ⟨?_, ?_, ?_, ?_, ?_, ?_, ?_, ?_⟩ <;> (rw [cell_of_row w b _ _ _ (0, 0) h]; rfl))
set_option maxRecDepth 100000 in
set_option maxHeartbeats 4000000 in
theorem layoutSizes_walk (k : Int) (h0 : (Lit.int .i64 k).wf = true) (cores : Int) (h1 : (Lit.int .i64 cores).wf = true) (w : World) :
    Calls Try.prog 4 #[.int .i64 k, .int .i64 cores] w fun e w' => e = .returned (.bool true) ∧ Below w.heap.size w w' := by
  obtain ⟨m, hm, hmk⟩ := Cv.tmod_u64 k 256 (by omega)
  rw [show ((256 : Nat) : Int) = 256 from rfl] at hmk
  obtain ⟨c7, hc7, hcc⟩ := Cv.and_i64 cores 7 (by omega)
  rw [show ((7 : Nat) : Int) = 7 from rfl] at hcc
  have hcv : IntKind.i64.wrap (m : Int) = (m : Int) := IntWalk.i64_in _ (by omega)
  have hcv2 : IntKind.i64.wrap (1 + (c7 : Int)) = 1 + (c7 : Int) := IntWalk.i64_in _ (by omega)
  clear h0 h1
  go_enter Try.func4, Try.ntmps4
  go_wp2_with fail
  refine (awake19 _).mono ?_
  rintro e w1 ⟨rfl, hb1⟩
  go_wp2_with fail
  refine (new_any (1 + c7) (by omega) (by omega) w1).mono ?_
  rintro e w2 ⟨v2, rfl, hst2, hb2⟩
  obtain ⟨A2, n2, c2, E2, m2, d2, D2, k2, e2, rfl, _⟩ := hst2.at_
  have HB2 := Lib.hid (Cv.next hb1 hb2)
  have HST2 := Lib.hid hst2.weak
  clear hb1 hb2 hst2
  go_wp2_with fail
  obtain ⟨N, hN⟩ : ∃ N, 1 + c7 = N := ⟨_, rfl⟩
  have hN1 : 1 ≤ N := by omega
  have hN8 : N ≤ 8 := by omega
  rw [hN] at HST2
  have HM := Lib.hid hm
  go_loopw [9] (fun j wr => ∃ (q : Nat) (v : Value), j = .int .i64 q ∧ q ≤ 3 ∧ StAt none wr v (stQ N m q) ∧ CallsIn wr (w2.heap.size + 1) m ∧ (∃ A k c E l d D i f, v = .agg #[.slice A k c, .slice E l d, .slice D i f] ∧ OutAt wr w2.heap.size (.slice A k c) (.slice E l d) (.slice D i f)) ∧ Below w2.heap.size w2 wr) (fun j _ => 3 - (intOf j).toNat)
  case atStart =>
    refine ⟨0, _, rfl, by omega, HST2.out.below ?_, row_new (w2.alloc _) _ _ (by simp), ⟨A2, n2, c2, E2, m2, d2, D2, k2, e2, rfl, ?_⟩, ?_⟩
    · exact ((Below.refl _ _).alloc (Nat.le_refl _) _).alloc (by simp) _
    · exact row_past (heap_alloc_new w2 _) (by simp)
    · exact ((Below.refl _ _).alloc (Nat.le_refl _) _).alloc (by simp) _
  case round =>
    obtain ⟨q, v, rfl, hq, hst, hcl, ⟨A, k9, c, E, l, d, D, i9, f9, rfl, hout⟩, hbel⟩ := hrel
    have HB := Lib.hid hbel
    have HST := Lib.hid hst
    have HOUT := Lib.hid hout
    have HCL := Lib.hid hcl
    have hsz := hbel.size
    have hl6 : w2.heap.size < wr.heap.size := (Array.getElem?_eq_some_iff.1 hout).1
    have hl7 : w2.heap.size + 1 < wr.heap.size := (Array.getElem?_eq_some_iff.1 hcl).1
    obtain ⟨s0, s1, s2, sf⟩ := hout.get
    by_cases hlt : q < 3
    · obtain ⟨k0, k1, k2, k3, k4, k5, k6, k7⟩ := hcl.get q hlt
      have q0 : (0 : Int) ≤ (q : Int) := by omega
      have q1 : (q : Int) < 3 := by omega
      have HC := Lib.hid (fun u => Do_round_any N m q hN1 hN8 (by omega) hlt _ wr u hst)
      clear hbel hst hout hcl sf
      go_upto_region 9 with fail
      go_cut [10] (fun p wx => ∃ b A k c E l d D i f, p = .pointer (some ⟨b, 0, .none⟩) ∧ OutAt wx b (.slice A k c) (.slice E l d) (.slice D i f) ∧ StAt (some wr.heap.size) wx (.agg #[.slice A k c, .slice E l d, .slice D i f]) (stQ N m (q + 1)) ∧ Below wr.heap.size wr wx ∧ wr.heap.size ≤ b)
      case first =>
        have q2 : (q : Int).toNat = q := by omega
        have z1 : wr.heap.size ≠ w2.heap.size := by omega
        have z2 : wr.heap.size ≠ w2.heap.size + 1 := by omega
        have z3 : wr.heap.size + 1 ≠ w2.heap.size := by omega
        have z4 : wr.heap.size + 1 ≠ w2.heap.size + 1 := by omega
        go_region_held3 (fun w' => w'.cell? ⟨w2.heap.size, 0, none⟩ = some (.slice A k9 c) ∧ w'.cell? ⟨w2.heap.size, 1, none⟩ = some (.slice E l d) ∧ w'.cell? ⟨w2.heap.size, 2, none⟩ = some (.slice D i9 f9) ∧
          w'.cell? ⟨w2.heap.size + 1, q * 8, none⟩ = some (.int .i64 (callQ m q).kind) ∧ w'.cell? ⟨w2.heap.size + 1, q * 8 + 1, none⟩ = some (.int .i64 (callQ m q).core) ∧ w'.cell? ⟨w2.heap.size + 1, q * 8 + 2, none⟩ = some (.int .i64 (callQ m q).fd) ∧ w'.cell? ⟨w2.heap.size + 1, q * 8 + 3, none⟩ = some (.int .i64 (callQ m q).off) ∧
          w'.cell? ⟨w2.heap.size + 1, q * 8 + 4, none⟩ = some (.int .i64 (callQ m q).num) ∧ w'.cell? ⟨w2.heap.size + 1, q * 8 + 5, none⟩ = some (.string (callQ m q).path) ∧ w'.cell? ⟨w2.heap.size + 1, q * 8 + 6, none⟩ = some (.string (callQ m q).path2) ∧ w'.cell? ⟨w2.heap.size + 1, q * 8 + 7, none⟩ = some (.string (callQ m q).data))
          (first | go_keep | (trace_state; fail))
          ((go_at_call 10; refine (HC.out _ (by first | exact Cv.drewN_below (Below.refl _ _) 1 | exact (Cv.drewN_below (Below.refl _ _) 1).alloc (by simp) _ | exact ((Cv.drewN_below (Below.refl _ _) 1).alloc (by simp) _).alloc (by simp) _)).mono ?_; rintro e5 w5 ⟨A5, n5, c5, E5, m5, d5, D5, i5, f5, r5, rfl, hst5, hb5, hbw5⟩; unfold resV; have g0 := (hbw5.cell (p := ⟨w2.heap.size, 0, none⟩) hl6).trans s0; have g1 := (hbw5.cell (p := ⟨w2.heap.size, 1, none⟩) hl6).trans s1; have g2 := (hbw5.cell (p := ⟨w2.heap.size, 2, none⟩) hl6).trans s2; have j0 := (hbw5.cell (p := ⟨w2.heap.size + 1, q * 8, none⟩) hl7).trans k0; have j1 := (hbw5.cell (p := ⟨w2.heap.size + 1, q * 8 + 1, none⟩) hl7).trans k1; have j2 := (hbw5.cell (p := ⟨w2.heap.size + 1, q * 8 + 2, none⟩) hl7).trans k2; have j3 := (hbw5.cell (p := ⟨w2.heap.size + 1, q * 8 + 3, none⟩) hl7).trans k3; have j4 := (hbw5.cell (p := ⟨w2.heap.size + 1, q * 8 + 4, none⟩) hl7).trans k4; have j5 := (hbw5.cell (p := ⟨w2.heap.size + 1, q * 8 + 5, none⟩) hl7).trans k5; have j6 := (hbw5.cell (p := ⟨w2.heap.size + 1, q * 8 + 6, none⟩) hl7).trans k6; have j7 := (hbw5.cell (p := ⟨w2.heap.size + 1, q * 8 + 7, none⟩) hl7).trans k7; (first | (have am := row_kept hb5 (al2a wr (.cells #[.slice none 0 0, .slice none 0 0, .slice none 0 0] 26) (.cells #[.int .i64 0, .int .i64 0, .int .i64 0, .bool false, .string ⟨#[]⟩, .slice none 0 0] 37)); have an := row_kept hb5 (al2b wr (.cells #[.slice none 0 0, .slice none 0 0, .slice none 0 0] 26) (.cells #[.int .i64 0, .int .i64 0, .int .i64 0, .bool false, .string ⟨#[]⟩, .slice none 0 0] 37)); obtain ⟨m0, m1, m2', mf⟩ := OutAt.get am; obtain ⟨n0', n1', n2', n3', n4', n5', nf⟩ := ResAt.get an; have lm := (Array.getElem?_eq_some_iff.1 am).1; have ln := (Array.getElem?_eq_some_iff.1 an).1; have nm : w5.heap.size ≠ wr.heap.size := Nat.ne_of_gt lm; have HAM := Lib.hid am; have nm' := Ne.symm nm; have y1 : w5.heap.size ≠ w2.heap.size := (by omega); have y2 : w5.heap.size ≠ w2.heap.size + 1 := (by omega); have nn : w5.heap.size ≠ wr.heap.size + 1 := Nat.ne_of_gt ln; have nn' := Ne.symm nn; have HAN := Lib.hid an; clear am an) | (have am := row_kept hb5 (al2a wr (.cells #[.int .i64 0, .int .i64 0, .int .i64 0, .bool false, .string ⟨#[]⟩, .slice none 0 0] 37) (.cells #[.slice none 0 0, .slice none 0 0, .slice none 0 0] 26)); have an := row_kept hb5 (al2b wr (.cells #[.int .i64 0, .int .i64 0, .int .i64 0, .bool false, .string ⟨#[]⟩, .slice none 0 0] 37) (.cells #[.slice none 0 0, .slice none 0 0, .slice none 0 0] 26)); obtain ⟨m0, m1, m2', mf⟩ := OutAt.get an; obtain ⟨n0', n1', n2', n3', n4', n5', nf⟩ := ResAt.get am; have lm := (Array.getElem?_eq_some_iff.1 am).1; have ln := (Array.getElem?_eq_some_iff.1 an).1; have nm : w5.heap.size ≠ wr.heap.size := Nat.ne_of_gt lm; have HAM := Lib.hid am; have nm' := Ne.symm nm; have y1 : w5.heap.size ≠ w2.heap.size := (by omega); have y2 : w5.heap.size ≠ w2.heap.size + 1 := (by omega); have nn : w5.heap.size ≠ wr.heap.size + 1 := Nat.ne_of_gt ln; have nn' := Ne.symm nn; have HAN := Lib.hid an; clear am an) | (have am := row_kept hb5 (al1 wr (.cells #[.slice none 0 0, .slice none 0 0, .slice none 0 0] 26)); obtain ⟨m0, m1, m2', mf⟩ := OutAt.get am; have lm := (Array.getElem?_eq_some_iff.1 am).1; have nm : w5.heap.size ≠ wr.heap.size := Nat.ne_of_gt lm; have HAM := Lib.hid am; have nm' := Ne.symm nm; have y1 : w5.heap.size ≠ w2.heap.size := (by omega); have y2 : w5.heap.size ≠ w2.heap.size + 1 := (by omega); clear am) | (have am := row_kept hb5 (al1 wr (.cells #[.int .i64 0, .int .i64 0, .int .i64 0, .bool false, .string ⟨#[]⟩, .slice none 0 0] 37)); obtain ⟨m0, m1, m2', m3, m4, m5', mf⟩ := ResAt.get am; have lm := (Array.getElem?_eq_some_iff.1 am).1; have nm : w5.heap.size ≠ wr.heap.size := Nat.ne_of_gt lm; have HAM := Lib.hid am; have nm' := Ne.symm nm; have y1 : w5.heap.size ≠ w2.heap.size := (by omega); have y2 : w5.heap.size ≠ w2.heap.size + 1 := (by omega); clear am) | skip)))
        all_goals (
          go_wp2_with fail
          go_meet
          clear HB HST HC HCL HOUT HST2 HB2
          first
            | with_reducible exact ⟨_, A5, n5, c5, E5, m5, d5, D5, i5, f5, rfl, round1 hst5 hbw5⟩
            | with_reducible exact ⟨_, A5, n5, c5, E5, m5, d5, D5, i5, f5, rfl, round2 hst5 hbw5⟩
            | with_reducible exact ⟨_, A5, n5, c5, E5, m5, d5, D5, i5, f5, rfl, round3 hst5 hbw5 HAM.out⟩
            | with_reducible exact ⟨_, A5, n5, c5, E5, m5, d5, D5, i5, f5, rfl, round5 hst5 hbw5 HAM.out⟩
            | with_reducible exact ⟨_, A5, n5, c5, E5, m5, d5, D5, i5, f5, rfl, round4 hst5 hbw5 HAM.out HAN.out⟩
            | with_reducible exact ⟨_, A5, n5, c5, E5, m5, d5, D5, i5, f5, rfl, round6 hst5 hbw5 HAM.out HAN.out⟩)
      case rest =>
        obtain ⟨b, A5, n5, c5, E5, m5, d5, D5, i5, f5, rfl, ho5, hst5, hb5, hle⟩ := hcut
        have hrow : OutAt wc w2.heap.size _ _ _ := (hb5.block w2.heap.size hl6).trans HOUT.out
        have hcl5 : CallsIn wc (w2.heap.size + 1) m := (hb5.block (w2.heap.size + 1) hl7).trans HCL.out
        obtain ⟨s0', s1', s2', sf'⟩ := hrow.get
        obtain ⟨y0, y1, y2, _⟩ := ho5.get
        have hne : b ≠ w2.heap.size := by omega
        have hne' := Ne.symm hne
        have HR := Lib.hid hrow
        have HST5 := Lib.hid hst5
        have HB5 := Lib.hid (HB.out.trans (hb5.mono hsz))
        have HCL5 := Lib.hid hcl5
        clear hrow hst5 hb5 hcl5 ho5 s0 s1 s2
        go_wp2_with fail
        go_roundw
        case rel =>
          refine ⟨q + 1, _, by go_num, by omega, (HST5.out.set3 HR.out _ _ _).weak, row_far3 HCL5.out (ne_down _) _ _ _, ⟨A5, n5, c5, E5, m5, d5, D5, i5, f5, rfl, row_three HR.out _ _ _⟩, below_set3 HB5.out (Nat.le_refl _) _ _ _⟩
        case measure => simp [intOf]; omega
    · have e3 : q = 3 := by omega
      subst e3
      clear hbel hst hout hcl sf
      have hm1 : m + 1 ≤ 256 := by omega
      obtain ⟨L1, hL1⟩ : ∃ L, (sealL (headL (stF N [dsF] (zerosB m)).made (stF N [dsF] (zerosB m)).inos)).length = L := ⟨_, rfl⟩
      obtain ⟨L2, hL2⟩ : ∃ L, (sealL (headL (stF N [dsF] (zerosB (m + 1))).made (stF N [dsF] (zerosB (m + 1))).inos)).length = L := ⟨_, rfl⟩
      have hmore := head_more N m hN1 hN8 (by omega)
      have hlen := head_len N m hN1 hN8
      have hns := numL_size m (by omega)
      have hns2 : (numL m).length ≤ 2 := by rw [hns]; split <;> omega
      rw [hL1, hL2] at hmore
      rw [hL1] at hlen
      have hL1b : L1 ≤ 1000 := by omega
      have HL1 := Lib.hid hL1
      have HL2 := Lib.hid hL2
      have HMAY1 := Lib.hid (may_file N hN1 hN8 _ (.inr rfl) (zerosB m) (by rw [zerosB_size]; omega))
      have HMAY2 := Lib.hid (may_file N hN1 hN8 _ (.inr rfl) (zerosB (m + 1)) (by rw [zerosB_size]; omega))
      have HMAYN := Lib.hid (show mayV stNone = false by decide +kernel)
      clear hL1 hL2 hlen hns hns2
      go_wp2_with fail
      refine (Do_trunc N (m + 1) m hN1 hN8 (by omega) hm1 _ _ HST.out).mono ?_
      rintro e w5 ⟨v5, rfl, hst5, hb5⟩
      obtain ⟨A5, n5, c5, E5, m5, d5, D5, i5, f5, rfl, _⟩ := hst5.at_
      have g0 := (hb5.cell (p := ⟨w2.heap.size, 0, none⟩) hl6).trans s0
      have g1 := (hb5.cell (p := ⟨w2.heap.size, 1, none⟩) hl6).trans s1
      have g2 := (hb5.cell (p := ⟨w2.heap.size, 2, none⟩) hl6).trans s2
      have HST5 := Lib.hid hst5.weak
      have HST6 := Lib.hid (HST.out.below hb5)
      have HB5 := Lib.hid (HB2.out.trans ((HB.out.trans (hb5.mono hsz)).mono HB2.out.size))
      have hl8 : w2.heap.size < w5.heap.size := Nat.lt_of_lt_of_le hl6 hb5.size
      clear hst5 hb5 s0 s1 s2
      unfold resV
      by_cases h127 : m = 127
      · have q7 : ((m : Int) == 127) = true := by rw [beq_iff_eq]; omega
        rw [if_pos h127] at hmore
        clear h127
        go_wp2_with fail
        obtain ⟨W6, hW6⟩ : ∃ W, (w5.alloc (.cells #[.slice A5 n5 c5, .slice E5 m5 d5, .slice D5 i5 f5] 26)).alloc (.cells #[.int .i64 0, .int .i64 0, .int .i64 0, .bool false, .string ⟨#[]⟩, .slice none 0 0] 37) = W := ⟨_, rfl⟩
        have hal : Below w5.heap.size w5 W6 := by rw [← hW6]; exact ((Below.refl _ _).alloc (Nat.le_refl _) _).alloc (by simp) _
        have hro : OutAt W6 w5.heap.size (.slice A5 n5 c5) (.slice E5 m5 d5) (.slice D5 i5 f5) := by rw [← hW6]; exact row_past (row_new w5 _ _ rfl) (sz_lt _ _)
        obtain ⟨y0, y1, y2, _⟩ := hro.get
        have x0 := (hal.cell (p := ⟨w2.heap.size, 0, none⟩) hl8).trans g0
        have x1 := (hal.cell (p := ⟨w2.heap.size, 1, none⟩) hl8).trans g1
        have x2 := (hal.cell (p := ⟨w2.heap.size, 2, none⟩) hl8).trans g2
        have HST7 := Lib.hid (HST5.out.below hal)
        have HST8 := Lib.hid (HST6.out.below hal)
        have HB6 := Lib.hid (Cv.next HB5.out hal)
        rw [hW6]
        have hS2 : ∀ X : Ext W6, Calls Try.prog 13 #[.agg #[.slice A5 n5 c5, .slice E5 m5 d5, .slice D5 i5 f5]] X.w fun e w' => e = .returned (.int .i64 (L2 : Nat)) ∧ Below X.w.heap.size X.w w' := fun X => by
          have := size_all _ (stF N [dsF] (zerosB (m + 1))) X.w (HST7.out.below X.bel) HMAY2.out (del_file N _)
          rw [HL2.out] at this
          exact this
        have hS1 : ∀ X : Ext W6, Calls Try.prog 13 #[.agg #[.slice A k9 c, .slice E l d, .slice D i9 f9]] X.w fun e w' => e = .returned (.int .i64 (L1 : Nat)) ∧ Below X.w.heap.size X.w w' := fun X => by
          have := size_all _ (stF N [dsF] (zerosB m)) X.w (HST8.out.below X.bel) HMAY1.out (del_file N _)
          rw [HL1.out] at this
          exact this
        have hS0 : ∀ X : Ext W6, Calls Try.prog 13 #[.agg #[.slice none 0 0, .slice none 0 0, .slice none 0 0]] X.w fun e w' => e = .returned (.int .i64 0) ∧ Below X.w.heap.size X.w w' := fun X => size_bad _ stNone X.w (stNone_at _) HMAYN.out
        have HS2 := Lib.hid hS2
        have HS1 := Lib.hid hS1
        have HS0 := Lib.hid hS0
        have e1 : IntKind.i64.wrap ((L1 : Int) + 2) = (L1 : Int) + 2 := IntWalk.i64_in _ (by omega)
        have e2 : ((L2 : Int) == (L1 : Int) + 2) = true := by rw [beq_iff_eq]; omega
        have hX : ∀ (X : Ext W6) (p : Addr), (W6.cell? p).isSome = true → X.w.cell? p = W6.cell? p := fun X p h => X.cell p h
        clear hS2 hS1 hS0 hW6 g0 g1 g2 hro hal
        refine wp_region_ext (by kernel_rfl) (by kernel_rfl) ?_
        repeat (go_big_quiet_step (first | (go_at_call 13; rename_i X; first | with_reducible exact Calls.ext_of (HS2.out X) | with_reducible exact Calls.ext_of (HS1.out X) | with_reducible exact Calls.ext_of (HS0.out X))))
        refine wpQuiet_nil ?_
        rintro w9 ⟨X, rfl⟩
        have HBX := Lib.hid (Cv.next HB6.out X.bel)
        clear hX
        go_wp2_with fail
        go_ret
        exact ⟨rfl, HBX.out⟩
      · have q7 : ((m : Int) == 127) = false := by rw [beq_eq_false_iff_ne]; omega
        rw [if_neg h127] at hmore
        clear h127
        go_wp2_with fail
        obtain ⟨W6, hW6⟩ : ∃ W, (w5.alloc (.cells #[.slice A5 n5 c5, .slice E5 m5 d5, .slice D5 i5 f5] 26)).alloc (.cells #[.int .i64 0, .int .i64 0, .int .i64 0, .bool false, .string ⟨#[]⟩, .slice none 0 0] 37) = W := ⟨_, rfl⟩
        have hal : Below w5.heap.size w5 W6 := by rw [← hW6]; exact ((Below.refl _ _).alloc (Nat.le_refl _) _).alloc (by simp) _
        have hro : OutAt W6 w5.heap.size (.slice A5 n5 c5) (.slice E5 m5 d5) (.slice D5 i5 f5) := by rw [← hW6]; exact row_past (row_new w5 _ _ rfl) (sz_lt _ _)
        obtain ⟨y0, y1, y2, _⟩ := hro.get
        have x0 := (hal.cell (p := ⟨w2.heap.size, 0, none⟩) hl8).trans g0
        have x1 := (hal.cell (p := ⟨w2.heap.size, 1, none⟩) hl8).trans g1
        have x2 := (hal.cell (p := ⟨w2.heap.size, 2, none⟩) hl8).trans g2
        have HST7 := Lib.hid (HST5.out.below hal)
        have HST8 := Lib.hid (HST6.out.below hal)
        have HB6 := Lib.hid (Cv.next HB5.out hal)
        rw [hW6]
        have hS2 : ∀ X : Ext W6, Calls Try.prog 13 #[.agg #[.slice A5 n5 c5, .slice E5 m5 d5, .slice D5 i5 f5]] X.w fun e w' => e = .returned (.int .i64 (L2 : Nat)) ∧ Below X.w.heap.size X.w w' := fun X => by
          have := size_all _ (stF N [dsF] (zerosB (m + 1))) X.w (HST7.out.below X.bel) HMAY2.out (del_file N _)
          rw [HL2.out] at this
          exact this
        have hS1 : ∀ X : Ext W6, Calls Try.prog 13 #[.agg #[.slice A k9 c, .slice E l d, .slice D i9 f9]] X.w fun e w' => e = .returned (.int .i64 (L1 : Nat)) ∧ Below X.w.heap.size X.w w' := fun X => by
          have := size_all _ (stF N [dsF] (zerosB m)) X.w (HST8.out.below X.bel) HMAY1.out (del_file N _)
          rw [HL1.out] at this
          exact this
        have hS0 : ∀ X : Ext W6, Calls Try.prog 13 #[.agg #[.slice none 0 0, .slice none 0 0, .slice none 0 0]] X.w fun e w' => e = .returned (.int .i64 0) ∧ Below X.w.heap.size X.w w' := fun X => size_bad _ stNone X.w (stNone_at _) HMAYN.out
        have HS2 := Lib.hid hS2
        have HS1 := Lib.hid hS1
        have HS0 := Lib.hid hS0
        have e1 : IntKind.i64.wrap ((L1 : Int) + 1) = (L1 : Int) + 1 := IntWalk.i64_in _ (by omega)
        have e2 : ((L2 : Int) == (L1 : Int) + 1) = true := by rw [beq_iff_eq]; omega
        have hX : ∀ (X : Ext W6) (p : Addr), (W6.cell? p).isSome = true → X.w.cell? p = W6.cell? p := fun X p h => X.cell p h
        clear hS2 hS1 hS0 hW6 g0 g1 g2 hro hal
        refine wp_region_ext (by kernel_rfl) (by kernel_rfl) ?_
        repeat (go_big_quiet_step (first | (go_at_call 13; rename_i X; first | with_reducible exact Calls.ext_of (HS2.out X) | with_reducible exact Calls.ext_of (HS1.out X) | with_reducible exact Calls.ext_of (HS0.out X))))
        refine wpQuiet_nil ?_
        rintro w9 ⟨X, rfl⟩
        have HBX := Lib.hid (Cv.next HB6.out X.bel)
        clear hX
        go_wp2_with fail
        go_ret
        exact ⟨rfl, HBX.out⟩
end Go.Proofs.Ytghlgnklnbcppaa
