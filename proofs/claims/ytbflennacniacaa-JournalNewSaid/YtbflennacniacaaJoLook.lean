/- journal.Journal.look, by its contract. -/
import Derived.Test.YtbflennacniacaaJoLook0
namespace Go.Proofs.Ytbflennacniacaa
open Go.RowKit
set_option linter.unusedVariables false
theorem quiet_b {P : Program} {f : FuncId} {args : Array Value} {w : World} {n : Nat} {v : Value}
    (h : Calls P f args (w.drewN n) fun e w' => e = .returned v ∧ ∃ m, w' = (w.drewN n).drewN m) : Calls P f args (w.drewN n) fun e w'' => e = .returned v ∧ ∃ m, w'' = w.drewN m :=
  h.mono fun _ _ hh => by
    obtain ⟨he, m, hm⟩ := hh
    exact ⟨he, n + m, by rw [hm, World.drewN_drewN]⟩
theorem owns_below {w w' : World} {base : Nat} {e : TypeId} {size n : Nat} {v : Value} {xs : List Value} (h : w.ownsRow base e size v n xs) (hb : Below w.heap.size w w') : w'.ownsRow base e size v n xs :=
  h.kept (row := .none) ⟨hb.os, hb.tape, hb.output, hb.size, fun i hi _ => hb.block i hi⟩ (by cases hv : v.ownBlock <;> simp)
theorem owns_drewN {w : World} {base : Nat} {e : TypeId} {size n : Nat} {v : Value} {xs : List Value} (h : w.ownsRow base e size v n xs) (m : Nat) : (w.drewN m).ownsRow base e size v n xs := h
theorem reads_word (w : World) (b x : Nat) (t : TypeId) (hb : b = w.heap.size) : Reads (w.alloc (.cells #[.int .u64 (x : Int)] t)) (some ⟨b, 0, .none⟩) 1 ([x].map fun x : Nat => Value.int .u64 (x : Int)) := by
  refine ⟨rfl, fun _ => ⟨b, 0, rfl, by rw [hb]; simp, fun i hi => ?_⟩⟩
  obtain rfl : i = 0 := by omega
  subst hb
  exact (World.cell?_alloc_mark w _ _ (0, 0) _).trans rfl
theorem ByteRow_take {w : World} {g : Nat} {l : List UInt8} (h : Cv.ByteRow w g l) (k : Nat) : Cv.ByteRow w g (l.take k) :=
  ⟨h.1, fun i hi => by
    have hil : i < l.length := by rw [List.length_take] at hi; omega
    have hik : i < k := by rw [List.length_take] at hi; omega
    obtain ⟨c1, c2⟩ := h.2 i hil
    refine ⟨?_, c2⟩
    rw [c1]
    simp [List.getD_eq_getElem?_getD, hik]⟩
set_option maxRecDepth 100000 in
set_option maxHeartbeats 8000000 in
theorem look_any (w0 wz w : World) (Z : Nat → Prop) (j a : Nat) (J : JD) (M : PM) (k : Nat) (h : Jour w0 wz w Z j a J M) (hk : k ≤ 1) (hw8 : 64 ≤ J.words ∧ J.words ≤ 8192) (hs : J.start ≤ 65536) (hin : baseN J k + halfN J.words ≤ M.n * 8) (hf : Words M.seen) :
    Calls Try.prog 62 #[.pointer (some ⟨j, 0, .none⟩), .int .i64 k] w fun e w' => e = .returned (lookV (lookP (fun i => (M.seen i).toNat) (baseN J k) (halfN J.words))) ∧ Below w.heap.size w w' := by
  have hw : 64 ≤ J.words ∧ J.words ≤ 65536 := by omega
  have hhb : 32 ≤ halfN J.words ∧ halfN J.words ≤ 4096 := by unfold halfN; omega
  obtain ⟨V, hV⟩ : ∃ V, lookV (lookP (fun i => (M.seen i).toNat) (baseN J k) (halfN J.words)) = V := ⟨_, rfl⟩
  rw [hV]
  have HV := Lib.hid hV
  obtain ⟨c0, c1, c2, _⟩ := h.cells
  have HJ := Lib.hid h
  have hjl := h.jlt
  have HBASE := Lib.hid (fun (w1 : World) (h1 : w1.cell? ⟨j, 1, .none⟩ = some (.int .i64 (J.start : Nat))) (h2 : w1.cell? ⟨j, 2, .none⟩ = some (.int .i64 (J.words : Nat))) => base_any w1 j J.start J.words k h1 h2 hw.2 hs hk)
  have HROOM := Lib.hid (fun (w1 : World) (h2 : w1.cell? ⟨j, 2, .none⟩ = some (.int .i64 (J.words : Nat))) => room_any w1 j J.words h2 hw.2 hw.1)
  obtain ⟨B, hB⟩ : ∃ B, baseN J k = B := ⟨_, rfl⟩
  have hB' : J.start + k * halfN J.words = B := hB
  rw [hB'] at HBASE
  rw [hB] at hin HV
  obtain ⟨N, hN⟩ : ∃ N, M.n * 8 = N := ⟨_, rfl⟩
  have hNb : N ≤ 65536 := by
    obtain ⟨F, _, hm, _⟩ := h.mem
    have := hm.size
    omega
  rw [hN] at hin
  have HN := Lib.hid hN
  have HF := Lib.hid hf
  clear h hV hB hB' hN hf
  obtain ⟨H, hH⟩ : ∃ H, halfN J.words = H := ⟨_, rfl⟩
  rw [hH] at hin HV hhb HROOM
  have HH := Lib.hid hH
  clear hH
  obtain ⟨f, hfd⟩ : ∃ f, M.seen = f := ⟨_, rfl⟩
  rw [hfd] at HV HF
  have HFD := Lib.hid hfd
  clear hfd
  go_enter Try.func62, Try.ntmps62
  go_wp2_with fail
  go_loopw [13] (fun i wr => ∃ n : Nat, n ≤ 5 ∧ i = .int .i64 n ∧ RowT 104 wr w.heap.size 5 (headI f B n) ∧ Below w.heap.size w wr) (fun i _ => 5 - (intOf i).toNat)
  case atStart =>
    refine ⟨0, by omega, rfl, ⟨_, heap_alloc_new w _, rfl, fun i hi => ?_⟩, (Below.refl _ _).alloc (Nat.le_refl _) _⟩
    have : i = 0 ∨ i = 1 ∨ i = 2 ∨ i = 3 ∨ i = 4 := by omega
    rcases this with e | e | e | e | e <;> (subst e; rfl)
  case round =>
    obtain ⟨n, hn, rfl, hrow, hbel⟩ := hrel
    have HR := Lib.hid hrow
    have HB := Lib.hid hbel
    have d0 := cell_later hbel c0
    have d1 := cell_later hbel c1
    have d2 := cell_later hbel c2
    clear hrow hbel
    by_cases hlt : n < 5
    · have q1 : decide ((n : Int) < 5) = true := by simp; omega
      obtain ⟨old, hold⟩ : ∃ v, wr.cell? ⟨w.heap.size, n, .none⟩ = some v := ⟨_, HR.out.cell n hlt⟩
      have hfr : wr.frozen? ⟨w.heap.size, n, .none⟩ = false := HR.out.frozen n
      have hne : j ≠ w.heap.size := by omega
      have hne2 : w.heap.size ≠ j := by omega
      have hld := load_in (M := M) (p := B + n) (by rw [HN.out]; omega)
      have hpl := place_in (n := M.n) (p := B + n) (by rw [HN.out]; omega)
      rw [HFD.out] at hld
      obtain ⟨x, hx⟩ : ∃ x, f (B + n) = x := ⟨_, rfl⟩
      rw [hx] at hld
      have hcast : ((B + n : Nat) : Int) = (B : Int) + (n : Int) := by omega
      rw [hcast] at hld hpl
      have hlt0 : (0 : Int) ≤ (n : Int) := by omega
      have hlt5 : (n : Int) < 5 := by omega
      have hup := headI_upd f B n
      rw [hx] at hup
      have HLD := Lib.hid hld
      have HPL := Lib.hid hpl
      have HUP := Lib.hid hup
      have hwr : IntKind.i64.wrap ((B : Int) + (n : Int)) = (B : Int) + (n : Int) := by rw [IntKind.wrap_i64]; omega
      clear hx hld hpl hup hcast
      go_wp2_with fail
      go_region_held3 (fun w' => w'.cell? ⟨j, 0, none⟩ = some (.pointer (some ⟨a, 0, none⟩)) ∧ w'.cell? ⟨j, 1, none⟩ = some (.int .i64 (J.start : Nat)) ∧ w'.cell? ⟨j, 2, none⟩ = some (.int .i64 (J.words : Nat)))
        (first
          | go_keep
          | (refine ⟨?_, ?_, ?_⟩ <;> go_keep))
        (first
          | (go_at_call 63; refine (HBASE.out wr.drew d1 d2).mono ?_; rintro e1 w1 ⟨rfl, n1, rfl⟩)
          | (go_at_call 21; refine (load_j ((HJ.out.below HB.out).drewN (1 + n1)) _ _ _ HLD.out HPL.out).mono ?_; rintro e2 w2 ⟨rfl, rfl⟩))
      have hrow2 := (HR.out.drewN (1 + n1)).set n x
      rw [HUP.out] at hrow2
      have hbel2 : Below w.heap.size w ((wr.drewN (1 + n1)).setCell ⟨w.heap.size, n, .none⟩ (.int .u64 x)) := (Cv.drewN_below HB.out _).setCell (by simp) _
      obtain ⟨W2, hW2⟩ : ∃ W2, (wr.drewN (1 + n1)).setCell ⟨w.heap.size, n, .none⟩ (.int .u64 x) = W2 := ⟨_, rfl⟩
      rw [hW2] at hrow2 hbel2 ⊢
      have HR2 := Lib.hid hrow2
      have HB2 := Lib.hid hbel2
      clear hW2 hrow2 hbel2 hwr
      go_wp2_with fail
      exact ⟨⟨n + 1, by omega, by go_num, HR2.out, HB2.out⟩, by simp [intOf]; omega⟩
    · obtain rfl : n = 5 := by omega
      have hcl : ∀ i, i < 5 → wr.cell? ⟨w.heap.size, i, .none⟩ = some (.int .u64 (f (B + i))) := fun i hi => by
        rw [HR.out.cell i hi]
        unfold headI
        rw [if_pos hi]
      have hx : ∀ i, ∃ x : Nat, f i = (x : Int) ∧ x < 18446744073709551616 ∧ (f i).toNat = x := fun i => ⟨(f i).toNat, by have := HF.out i; omega, by have := HF.out i; omega, rfl⟩
      obtain ⟨x0, y0, b0, t0⟩ := hx B
      obtain ⟨x1, y1, b1, t1⟩ := hx (B + 1)
      obtain ⟨x2, y2, b2, t2⟩ := hx (B + 2)
      obtain ⟨x3, y3, b3, t3⟩ := hx (B + 3)
      obtain ⟨x4, y4, b4, t4⟩ := hx (B + 4)
      have l0 := hcl 0 (by omega)
      have l1 := hcl 1 (by omega)
      have l2 := hcl 2 (by omega)
      have l3 := hcl 3 (by omega)
      have l4 := hcl 4 (by omega)
      rw [Nat.add_zero, y0] at l0
      rw [y1] at l1
      rw [y2] at l2
      rw [y3] at l3
      rw [y4] at l4
      clear hcl hx y0 y1 y2 y3 y4 HR hlt
      have HB1 := Lib.hid b1
      have HB3 := Lib.hid b3
      have HB4 := Lib.hid b4
      have HB0 := Lib.hid b0
      have HB2 := Lib.hid b2
      clear b0 b1 b2 b3 b4
      obtain ⟨g, hg⟩ : ∃ g, (fun i => (f i).toNat) = g := ⟨_, rfl⟩
      rw [hg] at HV
      have hg' : ∀ i, (f i).toNat = g i := fun i => by rw [← hg]
      rw [hg'] at t0 t1 t2 t3 t4
      have hdef := HV.out
      have HG' := Lib.hid hg'
      clear hg hg'
      by_cases cA : x0 = magicN
      · have q0 : ((x0 : Int) != 7165066905520534131) = false := by
          rw [bne_eq_false_iff_eq, cA]
          rfl
        obtain ⟨R, hR⟩ : ∃ R, (H - 8) * 8 = R := ⟨_, rfl⟩
        have hRb : R ≤ 32704 := by omega
        have hmin : min ((H - 8) * 8) 65536 = R := by rw [hR]; omega
        rw [hR] at HROOM
        by_cases cB : x2 ≤ R
        · have q1 : decide ((R : Int) < (x2 : Int)) = false := by simp; omega
          have q1n : decide (R < x2) = false := by simpa using cB
          have hmn : (if (65536 : Int) < (R : Int) then (65536 : Int) else (R : Int)) = R := if_neg (by omega)
          have hwr : IntKind.u64.wrap (R : Int) = (R : Int) := by rw [IntKind.wrap_u64]; omega
          obtain ⟨D, hD⟩ : ∃ D, digitsL [x0, x1, x2, x3] = D := ⟨_, rfl⟩
          have hDl : D.length = 32 := by rw [← hD, digitsL_len]; rfl
          obtain ⟨DS, hDS⟩ : ∃ DS, sumN D = DS := ⟨_, rfl⟩
          have HSUM : Hid (∀ w1, Calls Try.prog 66 #[.string ⟨D.toArray⟩] w1 fun e w' => e = .returned (.int .u64 (DS : Int)) ∧ w1 = w') := Lib.hid fun w1 => by
            have := sum_any ⟨D.toArray⟩ w1 (by unfold maxLen; show D.toArray.size ≤ _; simp; omega)
            rw [show (ByteArray.mk D.toArray).data.toList = D from by simp, hDS] at this
            exact this
          have HREAD : Hid (Reads wr (some ⟨w.heap.size, 0, .none⟩) 4 ([x0, x1, x2, x3].map fun x : Nat => Value.int .u64 (x : Int))) := Lib.hid ⟨rfl, fun _ => ⟨_, _, rfl, lt_of_cell3 l0, fun i hi => by
            have : i = 0 ∨ i = 1 ∨ i = 2 ∨ i = 3 := by omega
            rcases this with e | e | e | e <;> subst e
            · rw [l0]; rfl
            · rw [l1]; rfl
            · rw [l2]; rfl
            · rw [l3]; rfl⟩⟩
          have HXS : Hid (∀ x ∈ [x0, x1, x2, x3], x < 18446744073709551616) := Lib.hid fun x hx => by
            simp at hx
            rcases hx with rfl | rfl | rfl | rfl
            · exact HB0.out
            · exact HB1.out
            · exact HB2.out
            · exact HB3.out
          have HDD := Lib.hid hD
          have HDS := Lib.hid hDS
          have hsz1 : w.heap.size < wr.heap.size := lt_of_cell3 l0
          have hok : headOk g B H = decide (DS = x4) := by
            unfold headOk
            rw [t0, t1, t2, t3, t4, hmin, hD, hDS, cA]
            have e1 : decide (x2 ≤ R) = true := by simpa using cB
            rw [e1]
            simp
            rw [Bool.eq_iff_iff]
            simp
          have HOK := Lib.hid hok
          have HGG : Hid (g B = x0 ∧ g (B + 1) = x1 ∧ g (B + 2) = x2 ∧ g (B + 3) = x3) := Lib.hid ⟨t0, t1, t2, t3⟩
          have HCA := Lib.hid cA
          have hx2H : x2 + 64 ≤ 8 * H := by omega
          clear hD hDS hDl hok t0 t1 t2 t3 t4 hdef cA hR hmin
          by_cases cC : DS = x4
          · have q2 : ((DS : Int) != (x4 : Int)) = false := by rw [bne_eq_false_iff_eq]; omega
            have hokt : headOk g B H = true := by rw [HOK.out]; simpa using cC
            have HOKT := Lib.hid hokt
            clear hokt cC
            go_wp2_with fail
            go_region_held3 (fun w' => w'.cell? ⟨w.heap.size, 0, none⟩ = some (.int .u64 (x0 : Int)) ∧ w'.cell? ⟨w.heap.size, 2, none⟩ = some (.int .u64 (x2 : Int)) ∧ w'.cell? ⟨w.heap.size, 4, none⟩ = some (.int .u64 (x4 : Int)) ∧ w'.cell? ⟨j, 2, none⟩ = some (.int .i64 (J.words : Nat)))
              (first
                | go_keep
                | (refine ⟨?_, ?_, ?_, ?_⟩ <;> go_keep)
                | (go_split_ands
                   refine ⟨?_, ?_, ?_, ?_⟩ <;> exact cell_later hb5 (by assumption)))
              (first
                | (go_at_call 68; refine (HROOM.out wr.drew d2).mono ?_; rintro e3 w3 ⟨rfl, rfl⟩)
                | (go_at_call 67; refine (digits_any _ _ _ _ wr.drew (HREAD.out.drewN 1) HXS.out (by omega)).mono ?_; rintro e5 w5 ⟨rfl, hb5⟩; rw [HDD.out])
                | (go_at_call 66; refine (HSUM.out _).mono ?_; rintro e6 w6 ⟨rfl, rfl⟩))
            have k1 := cell_later hb5 (show wr.drew.cell? _ = _ from l1)
            have k2 := cell_later hb5 (show wr.drew.cell? _ = _ from l2)
            have k3 := cell_later hb5 (show wr.drew.cell? _ = _ from l3)
            have hb6 : Below w.heap.size w w5 := (Cv.drewN_below HB.out 1).trans (hb5.mono HB.out.size)
            have HB6 := Lib.hid hb6
            obtain ⟨L, hL⟩ : ∃ L, (x2 + 7) / 8 = L := ⟨_, rfl⟩
            have hwi : IntKind.i64.wrap (x2 : Int) = (x2 : Int) := by rw [IntKind.wrap_i64]; omega
            have e8 : ((x2 : Int) + 8 - 1).tdiv 8 = (L : Int) := by
              rw [show ((x2 : Int) + 8 - 1) = ((x2 + 7 : Nat) : Int) from by omega]
              show ((((x2 + 7) / 8 : Nat)) : Int) = _
              rw [hL]
            have hLb : L ≤ 4088 ∧ x2 ≤ 8 * L ∧ L + 8 ≤ H := by omega
            have HL := Lib.hid hL
            clear hb5 hb6 hL l0 l1 l2 l3 l4 d0 d1 d2 q0 q1 q1n q2 hmn hwr
            obtain ⟨i0, hi, hz0, hz1, hz2⟩ := info_parts infoU8
            obtain ⟨wd, hwd⟩ : ∃ wd : Nat → Nat, (fun i => g (B + 8 + i)) = wd := ⟨_, rfl⟩
            have HWD := Lib.hid hwd
            clear hwd
            go_wp2_with fail
            go_loopw [8, 61] (fun v i W => ∃ n : Nat, n ≤ L ∧ i = .int .i64 n ∧ W.ownsRow w5.heap.size 5 1 v (8 * n) (byteV (digitsL ((List.range n).map wd))) ∧ Below w5.heap.size w5 W) (fun _ i _ => L - (intOf i).toNat)
            case atStart => exact ⟨0, by omega, rfl, ⟨by simp [digitsL, byteV], .inl ⟨rfl, rfl⟩⟩, Below.refl _ _⟩
            case round =>
              obtain ⟨n, hn, rfl, hown, hbel⟩ := hrel
              have HO := Lib.hid hown
              have HBW := Lib.hid hbel
              clear hown hbel
              have hww : Below w.heap.size w wr := HB6.out.trans (HBW.out.mono HB6.out.size)
              have HWW := Lib.hid hww
              by_cases hlt : n < L
              · have q5 : decide (n < L) = true := by simpa using hlt
                have hld := load_in (M := M) (p := B + 8 + n) (by rw [HN.out]; omega)
                have hpl := place_in (n := M.n) (p := B + 8 + n) (by rw [HN.out]; omega)
                rw [HFD.out] at hld
                obtain ⟨x, hx1, hx2⟩ : ∃ x : Nat, f (B + 8 + n) = (x : Int) ∧ x < 18446744073709551616 := ⟨(f (B + 8 + n)).toNat, by have := HF.out (B + 8 + n); omega, by have := HF.out (B + 8 + n); omega⟩
                have hwx : wd n = x := by
                  rw [← HWD.out]
                  show g (B + 8 + n) = x
                  rw [← HG'.out, hx1]
                  rfl
                rw [hx1] at hld
                have hcast : ((B + 8 + n : Nat) : Int) = (B : Int) + 8 + (n : Int) := by omega
                rw [hcast] at hld hpl
                have HLD := Lib.hid hld
                have HPL := Lib.hid hpl
                have HX2 := Lib.hid hx2
                have hrange : digitsL ((List.range (n + 1)).map wd) = digitsL ((List.range n).map wd) ++ digitsL [x] := by
                  rw [List.range_succ, List.map_append, digitsL_append]
                  simp [hwx]
                obtain ⟨E, hE⟩ : ∃ E, digitsL [x] = E := ⟨_, rfl⟩
                have hEl : E.length = 8 := by rw [← hE, digitsL_len]; rfl
                have hbv : byteV (digitsL ((List.range (n + 1)).map wd)) = byteV (digitsL ((List.range n).map wd)) ++ Go.Lib.strCells ⟨E.toArray⟩ := by
                  rw [hrange, hE]
                  unfold byteV Go.Lib.strCells
                  rw [List.map_append]
                have HBV := Lib.hid hbv
                have HE := Lib.hid hE
                have d0 := cell_later hww c0
                have d1 := cell_later hww c1
                have d2 := cell_later hww c2
                have HJW := Lib.hid (HJ.out.below hww)
                have hw1 : IntKind.i64.wrap ((B : Int) + 8) = (B : Int) + 8 := by rw [IntKind.wrap_i64]; omega
                have hw2 : IntKind.i64.wrap ((B : Int) + 8 + (n : Int)) = (B : Int) + 8 + (n : Int) := by rw [IntKind.wrap_i64]; omega
                clear hld hpl hx1 hx2 hwx hcast hrange hE hww hbv
                go_wp2_with fail
                go_quiet ((first | (go_at_call 63; exact quiet_b (HBASE.out (wr.drewN _) d1 d2)) | (go_at_call 21; exact quiet_l (load_j (HJW.out.drewN _) _ _ _ HLD.out HPL.out))))
                clear hw1 hw2
                go_wp2_with fail
                refine (digits_any _ 1 1 [x] _ (reads_word _ _ x _ (by simp)) (fun y hy => by simp at hy; subst hy; exact HX2.out) (by omega)).mono ?_
                rintro e7 w7 ⟨rfl, hb7⟩
                rw [HE.out]
                have hox := owns_below ((owns_drewN HO.out nq).alloc (.cells #[.int .u64 (x : Int)] 29)) hb7
                have hb8 : Below w5.heap.size w5 w7 := ((Cv.drewN_below HBW.out nq).alloc HBW.out.size _).trans (hb7.mono (by simp; exact Nat.le_succ_of_le HBW.out.size))
                have HOX := Lib.hid hox
                have HB8 := Lib.hid hb8
                clear hox hb7 hb8
                have hes : (ByteArray.mk E.toArray).size = 8 := by show E.toArray.size = 8; simpa using hEl
                have HES := Lib.hid hes
                clear hes
                go_wp2_with (at_builtin; refine Go.Lib.wpList_append_own_string _ rfl _ _ 59 9 rfl w5.heap.size 5 i0 Try.underlying59 Try.underlying9 hi hz0 hz1 hz2 _ _ _ rfl HOX.out _ rfl ?ca1 ?ca2 ?ca3 ?_)
                case ca1 => rw [HES.out]; unfold maxLen; omega
                case ca2 => rw [HES.out]; omega
                case ca3 => exact HB8.out.size
                intro v' w8 hown' hgrow _
                have hb9 : Below w5.heap.size w5 w8 := HB8.out.grown hgrow HB8.out.size fun y hy => (HOX.out.lt y hy).1
                have hown3 : w8.ownsRow w5.heap.size 5 1 v' (8 * (n + 1)) (byteV (digitsL ((List.range (n + 1)).map wd))) := by
                  try rw [HES.out] at hown'
                  exact (congrArg (fun l => w8.ownsRow w5.heap.size 5 1 v' (8 * n + 8) l) HBV.out).mpr hown'
                have HO3 := Lib.hid hown3
                have HB9 := Lib.hid hb9
                clear hown' hgrow hb9 hown3
                go_wp2_with fail
                first | exact ⟨⟨n + 1, by omega, by go_num, HO3.out, HB9.out⟩, by simp [intOf]; omega⟩ | ((repeat apply Exists.intro); exact ⟨⟨⟨n + 1, by omega, by go_num, HO3.out, HB9.out⟩, by simp [intOf]; omega⟩, rfl⟩)
              · obtain rfl : n = L := by omega
                have q5 : decide (n < n) = false := by simp
                clear hlt
                obtain ⟨T, hT⟩ : ∃ T, (digitsL ((List.range n).map wd)).take x2 = T := ⟨_, rfl⟩
                have hTl : T.length = x2 := by rw [← hT, List.length_take, digitsL_len]; simp; omega
                have htext : textL g B x2 = T := by
                  unfold textL
                  rw [HL.out, ← hT]
                  show (digitsL ((List.range n).map fun i => g (B + 8 + i))).take x2 = _
                  rw [HWD.out]
                obtain ⟨TS, hTS⟩ : ∃ TS, sumN T = TS := ⟨_, rfl⟩
                have HSM : Hid (∀ w1, Calls Try.prog 66 #[.string ⟨T.toArray⟩] w1 fun e w' => e = .returned (.int .u64 (TS : Int)) ∧ w1 = w') := Lib.hid fun w1 => by
                  have := sum_any ⟨T.toArray⟩ w1 (by unfold maxLen; show T.toArray.size ≤ _; simp; omega)
                  rw [show (ByteArray.mk T.toArray).data.toList = T from by simp, hTS] at this
                  exact this
                have hlook : lookP g B H = if decide (TS = x3) = true then some (x1, T) else none := by
                  obtain ⟨g0, g1, g2, g3⟩ := HGG.out
                  unfold lookP
                  rw [HOKT.out, g1, g2, g3, htext, hTS]
                  by_cases e : TS = x3 <;> simp [e]
                have HLK := Lib.hid hlook
                have m1 := cell_later HBW.out k1
                have m3 := cell_later HBW.out k3
                have hconv : (∃ g0 cap, u8 = .slice (some ⟨g0, 0, .none⟩) (8 * n) cap ∧ x2 ≤ cap ∧ (convert 59 9 (.slice (some ⟨g0, 0, .none⟩) x2 cap)).run Try.prog wr = .ok (.string ⟨T.toArray⟩) wr) ∨ (u8 = .slice .none 0 0 ∧ x2 = 0 ∧ T = []) := by
                  rcases ByteRow.of_owns HO.out (by rw [digitsL_len]; simp) with ⟨hv, hnil⟩ | ⟨g0, cap, hv, hrow, _⟩
                  · right
                    have : (digitsL ((List.range n).map wd)).length = 0 := by rw [hnil]; rfl
                    rw [digitsL_len] at this
                    simp at this
                    refine ⟨hv, by omega, ?_⟩
                    apply List.eq_nil_of_length_eq_zero
                    omega
                  · left
                    refine ⟨g0, cap, hv, ?_, ?_⟩
                    · rcases HO.out.2 with ⟨hv2, _⟩ | ⟨g2, cap2, cur, hv2, _, _, hnc, _⟩
                      · rw [hv] at hv2
                        cases hv2
                      · rw [hv] at hv2
                        injection hv2 with _ _ hcc
                        omega
                    · rw [← hT]
                      exact Cv.back_of (ByteRow_take hrow x2) x2 cap (by rw [hT]; exact hTl)
                clear hT hTl htext hTS hlook
                have tail : ∀ (b3 : Bool), decide (TS = x3) = b3 → ((TS : Int) != (x3 : Int)) = !b3 := fun b3 hb => by
                  rw [← hb]
                  by_cases e : TS = x3
                  · rw [e]; simp
                  · rw [show decide (TS = x3) = false from by simpa using e, Bool.not_false, bne_iff_ne]
                    omega
                rcases hconv with ⟨g0, cap, rfl, hcap, hcv⟩ | ⟨rfl, hx20, hTn⟩
                · obtain ⟨b3, hb3⟩ : ∃ b, decide (TS = x3) = b := ⟨_, rfl⟩
                  have q6 := tail b3 hb3
                  have HB3' := Lib.hid hb3
                  clear hb3 tail hww
                  cases b3 with
                  | true =>
                    rw [Bool.not_true] at q6
                    have HD : Hid (lookV (some (x1, T)) = V) := Lib.hid (by rw [← HV.out, HLK.out, HB3'.out]; rfl)
                    go_wp2_with fail
                    go_quiet ((go_at_call 66; exact quiet_l (HSM.out (wr.drewN _))))
                    go_wp2_with fail
                    go_ret
                    exact ⟨by rw [← HD.out]; rfl, Cv.drewN_below HWW.out _⟩
                  | false =>
                    rw [Bool.not_false] at q6
                    have HD : Hid (lookV none = V) := Lib.hid (by rw [← HV.out, HLK.out, HB3'.out]; rfl)
                    go_wp2_with fail
                    go_quiet ((go_at_call 66; exact quiet_l (HSM.out (wr.drewN _))))
                    go_wp2_with fail
                    go_ret
                    exact ⟨by rw [← HD.out]; rfl, Cv.drewN_below HWW.out _⟩
                · have hcv : (convert 59 9 (.slice .none 0 0)).run Try.prog wr = .ok (.string ⟨T.toArray⟩) wr := by rw [hTn]; exact conv_none wr
                  subst hx20
                  obtain ⟨b3, hb3⟩ : ∃ b, decide (TS = x3) = b := ⟨_, rfl⟩
                  have q6 := tail b3 hb3
                  have HB3' := Lib.hid hb3
                  clear hb3 tail hww hTn
                  cases b3 with
                  | true =>
                    rw [Bool.not_true] at q6
                    have HD : Hid (lookV (some (x1, T)) = V) := Lib.hid (by rw [← HV.out, HLK.out, HB3'.out]; rfl)
                    go_wp2_with fail
                    go_quiet ((go_at_call 66; exact quiet_l (HSM.out (wr.drewN _))))
                    go_wp2_with fail
                    go_ret
                    exact ⟨by rw [← HD.out]; rfl, Cv.drewN_below HWW.out _⟩
                  | false =>
                    rw [Bool.not_false] at q6
                    have HD : Hid (lookV none = V) := Lib.hid (by rw [← HV.out, HLK.out, HB3'.out]; rfl)
                    go_wp2_with fail
                    go_quiet ((go_at_call 66; exact quiet_l (HSM.out (wr.drewN _))))
                    go_wp2_with fail
                    go_ret
                    exact ⟨by rw [← HD.out]; rfl, Cv.drewN_below HWW.out _⟩
          · have q2 : ((DS : Int) != (x4 : Int)) = true := by rw [bne_iff_ne]; omega
            have hno : lookP g B H = none := by
              unfold lookP
              rw [HOK.out, show decide (DS = x4) = false from by simpa using cC]
              rfl
            have HD : Hid (lookV none = V) := Lib.hid (by rw [← hno]; exact HV.out)
            clear hno cC
            go_wp2_with fail
            go_region_held3 (fun w' => w'.cell? ⟨w.heap.size, 0, none⟩ = some (.int .u64 (x0 : Int)) ∧ w'.cell? ⟨w.heap.size, 2, none⟩ = some (.int .u64 (x2 : Int)) ∧ w'.cell? ⟨w.heap.size, 4, none⟩ = some (.int .u64 (x4 : Int)) ∧ w'.cell? ⟨j, 2, none⟩ = some (.int .i64 (J.words : Nat)))
              (first
                | go_keep
                | (refine ⟨?_, ?_, ?_, ?_⟩ <;> go_keep)
                | (go_split_ands
                   refine ⟨?_, ?_, ?_, ?_⟩ <;> exact cell_later hb5 (by assumption)))
              (first
                | (go_at_call 68; refine (HROOM.out wr.drew d2).mono ?_; rintro e3 w3 ⟨rfl, rfl⟩)
                | (go_at_call 67; refine (digits_any _ _ _ _ wr.drew (HREAD.out.drewN 1) HXS.out (by omega)).mono ?_; rintro e5 w5 ⟨rfl, hb5⟩; rw [HDD.out])
                | (go_at_call 66; refine (HSUM.out _).mono ?_; rintro e6 w6 ⟨rfl, rfl⟩))
            have HB5 := Lib.hid hb5
            clear hb5
            go_wp2_with fail
            go_ret
            exact ⟨by rw [← HD.out]; rfl, (Cv.drewN_below HB.out 1).trans (HB5.out.mono HB.out.size)⟩
        · have q1 : decide ((R : Int) < (x2 : Int)) = true := by simp; omega
          have hno : lookP g B H = none := by
            unfold lookP headOk
            rw [t2, hmin, show decide (x2 ≤ R) = false from by simpa using cB]
            simp
          rw [hno] at hdef
          have HD := Lib.hid hdef
          have hmn : (if (65536 : Int) < (R : Int) then (65536 : Int) else (R : Int)) = R := if_neg (by omega)
          have hwr : IntKind.u64.wrap (R : Int) = (R : Int) := by rw [IntKind.wrap_u64]; omega
          clear hdef t0 t1 t2 t3 t4 cA hR hmin
          go_wp2_with fail
          go_quiet ((go_at_call 68; exact quiet_l (HROOM.out (wr.drewN _) d2)))
          go_wp2_with fail
          go_ret
          exact ⟨by rw [← HD.out]; rfl, Cv.drewN_below HB.out _⟩
      · have q0 : ((x0 : Int) != 7165066905520534131) = true := by
          rw [bne_iff_ne]
          intro e
          exact cA (by unfold magicN; omega)
        have hno : lookP g B H = none := by
          unfold lookP headOk
          rw [t0, show (x0 == magicN) = false from by simpa using cA]
          rfl
        rw [hno] at hdef
        have HD := Lib.hid hdef
        clear hdef t0 t1 t2 t3 t4 cA
        go_wp2_with fail
        go_quiet (fail)
        go_wp2_with fail
        go_ret
        exact ⟨by rw [← HD.out]; rfl, Cv.drewN_below HB.out _⟩
end Go.Proofs.Ytbflennacniacaa
