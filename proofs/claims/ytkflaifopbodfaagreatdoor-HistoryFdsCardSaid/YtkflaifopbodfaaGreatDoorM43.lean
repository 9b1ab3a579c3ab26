/- Parts of the proof, side by side: HistAhead, HistRun, HistAsk. -/
import Derived.Test.YtkflaifopbodfaaGreatDoorM39
import Derived.Test.YtkflaifopbodfaaGreatDoorM01
import Derived.Test.YtkflaifopbodfaaGreatDoorM42
import Derived.Test.YtkflaifopbodfaaGreatDoorM34
import Derived.Test.YtkflaifopbodfaaGreatDoorM09
set_option linter.unusedVariables false
set_option linter.unusedSimpArgs false
namespace Go.Proofs.YtkflaifopbodfaaGreatDoor
open Go.RowKit
theorem aheadL_drop {d q : Nat} {b : Int} {ops : List Op} {o : Op} (h : ops[q]? = some o) : aheadL d b (ops.drop q) q = ((!d.testBit q && decide (o.fin ≠ -1) && decide (o.fin ≤ b)) || aheadL d b (ops.drop (q + 1)) (q + 1)) := by
 rw [List.drop_eq_getElem_cons (List.getElem?_eq_some_iff.1 h).1, aheadL, (List.getElem?_eq_some_iff.1 h).2]
set_option maxRecDepth 100000 in
set_option maxHeartbeats 4000000 in
theorem ahead_any (p : Nat) (B : Option Addr) (n cap fm : Nat) (lb : ByteArray) (d i : Nat) (ops : List Op) (oi : Op) (w : World) (hse : SeAt w p B n cap fm lb) (ho : OpsAt w B n ops) (hoi : ops[i]? = some oi) (hn9 : n ≤ 10) (hd : d < 1024) :
  Calls Tryz.prog 23 #[.pointer (some ⟨p, 0, none⟩), .int .i64 d, .int .i64 i] w fun e w' => e = .returned (.bool (aheadL d oi.beg ops 0)) ∧ Below w.heap.size w w' := by
 obtain ⟨p0, p1, p2⟩ := hse.get
 have hlp := hse.lt
 have hil : i < n := by rw [← ho.1]; exact (List.getElem?_eq_some_iff.1 hoi).1
 obtain ⟨g, off, hA, hg, hall⟩ := ho.2 (by omega)
 subst hA
 obtain ⟨_, _, _, _, _, _, _, _, _, _, _, _, _, _, _, _, _, _, _, _, _, bi, _⟩ := (hall i oi hoi).get
 have HSE := Lib.hid hse
 have HO := Lib.hid ho
 have HL := Lib.hid ho.1
 clear hse ho hall
 obtain ⟨R, hR⟩ : ∃ R, aheadL d oi.beg ops 0 = R := ⟨_, rfl⟩
 rw [hR]
 have HR := Lib.hid hR
 have i0 : (0 : Int) ≤ (i : Int) := by omega
 have i1 : (i : Int) < (n : Int) := by omega
 have i2 : (i : Int).toNat = i := by omega
 clear hR hoi
 go_enter Tryz.func23, Tryz.ntmps23
 go_wp2_with fail
 go_loopw [14] (fun j wr => ∃ q : Nat, j = .int .i64 q ∧ q ≤ n ∧ aheadL d oi.beg (ops.drop q) q = R ∧ Below w.heap.size w wr) (fun j _ => n - (intOf j).toNat)
 case atStart => exact ⟨0, rfl, by omega, HR.out, Below.refl _ _⟩
 case round =>
  obtain ⟨q, rfl, hq, hrest, hb⟩ := hrel
  have HREST := Lib.hid hrest
  have HB := Lib.hid hb
  clear hrest
  by_cases hlt : q < n
  ·obtain ⟨g', off', o, hA2, hg', hoq, hat⟩ := (HO.out.below hb).get q hlt
   injection hA2 with hA2
   injection hA2 with hA2 hA3
   subst hA2 hA3
   obtain ⟨F, f, f9, hok, hnm, hoo, hg2, c0, c1, c2, c3, c4, c5, c6, c7, c8, c9, c10, c11, c12, c13, c14, c15⟩ := hat.get
   obtain ⟨W, hW, hal, hz, d0, d1, d2, d3, d4, d5, d6, d7, d8, d9, d10, d11, d12, d13, d14, d15⟩ := box_op wr o F f f9
   have HB2 := Lib.hid (HB.out.trans (hal.mono HB.out.size))
   have hbx := Cv.next HB.out hal
   have x0 := (hbx.cell (p := ⟨p, 0, none⟩) hlp).trans p0
   have bx := (hbx.cell (p := ⟨g, off + i * 16 + 14, none⟩) hg).trans bi
   have HOQ := Lib.hid hoq
   have q0 : (0 : Int) ≤ (q : Int) := by omega
   have q1 : (q : Int) < (n : Int) := by omega
   have q2 : (q : Int).toNat = q := by omega
   have hst := aheadL_drop (d := d) (b := oi.beg) hoq
   rw [HREST.out] at hst
   have HST := Lib.hid hst
   clear hb hoq hat hok hnm hoo hst hal hbx
   have hbit := bit_i64 d q hd
   cases htb : d.testBit q
   ·rw [htb] at hbit
    have hbit0 : bits .and .i64 ((d : Int) / 2 ^ q) 1 = 0 := by rw [hbit]; rfl
    have HTB := Lib.hid htb
    clear htb hbit
    by_cases h6 : o.fin = -1
    ·have h6' : (o.fin != -1) = false := by rw [bne_eq_false_iff_eq]; exact h6
     have H6 := Lib.hid h6
     clear h6
     go_wp2_with fail
     try rw [hW]
     have hX := @Ext.cell W
     refine wre ?_
     repeat (go_big_quiet_step (fail))
     refine wpQuiet_nil ?_
     rintro w9 ⟨X, rfl⟩
     have HBX := Lib.hid (HB2.out.trans (X.bel.mono HB2.out.size))
     clear hX
     go_wp2_with fail
     go_roundw
     case rel => exact ⟨q + 1, by go_num, by omega, by have h9 := HST.out; rw [HTB.out, decide_eq_false (show ¬ o.fin ≠ -1 from fun h => h H6.out)] at h9; simpa using h9.symm, HBX.out⟩
     case measure => simp [intOf]; omega
    ·have h6' : (o.fin != -1) = true := by rw [bne_iff_ne]; exact h6
     have H6 := Lib.hid h6
     clear h6
     by_cases h7 : o.fin ≤ oi.beg
     ·have hr0 : R = true := by rw [HST.out, HTB.out, decide_eq_true H6.out, decide_eq_true h7]; rfl
      subst hr0
      go_wp2_with fail
      try rw [hW]
      have hX := @Ext.cell W
      refine wre ?_
      repeat (go_big_quiet_step (fail))
      refine wpQuiet_nil ?_
      rintro w9 ⟨X, rfl⟩
      have HBX := Lib.hid (HB2.out.trans (X.bel.mono HB2.out.size))
      clear hX
      go_wp2_with fail
      go_ret
      exact ⟨rfl, HBX.out⟩
     ·have H7 := Lib.hid (decide_eq_false h7)
      go_wp2_with fail
      try rw [hW]
      have hX := @Ext.cell W
      refine wre ?_
      repeat (go_big_quiet_step (fail))
      refine wpQuiet_nil ?_
      rintro w9 ⟨X, rfl⟩
      have HBX := Lib.hid (HB2.out.trans (X.bel.mono HB2.out.size))
      clear hX
      go_wp2_with fail
      go_roundw
      case rel => exact ⟨q + 1, by go_num, by omega, by have h9 := HST.out; rw [H7.out] at h9; simpa using h9.symm, HBX.out⟩
      case measure => simp [intOf]; omega
   ·rw [htb] at hbit
    have hbit0 : bits .and .i64 ((d : Int) / 2 ^ q) 1 = 1 := by rw [hbit]; rfl
    have HTB := Lib.hid htb
    clear htb hbit
    go_wp2_with fail
    try rw [hW]
    have hX := @Ext.cell W
    refine wre ?_
    repeat (go_big_quiet_step (fail))
    refine wpQuiet_nil ?_
    rintro w9 ⟨X, rfl⟩
    have HBX := Lib.hid (HB2.out.trans (X.bel.mono HB2.out.size))
    clear hX
    go_wp2_with fail
    go_roundw
    case rel => exact ⟨q + 1, by go_num, by omega, by have h9 := HST.out; rw [HTB.out] at h9; simpa using h9.symm, HBX.out⟩
    case measure => simp [intOf]; omega
  ·have hqn : q = n := by omega
   have hr0 : R = false := by
    have h9 := HREST.out
    rw [hqn, ← HL.out, List.drop_length] at h9
    exact h9.symm
   subst hr0
   clear hb
   go_wp2_with fail
   go_ret
   exact ⟨rfl, HB.out⟩
end Go.Proofs.YtkflaifopbodfaaGreatDoor
namespace Go.Proofs.YtkflaifopbodfaaGreatDoor
open Go.RowKit Go.Maps
def capM : Nat → Nat
 | 0 => 0
 | f + 1 => capN f
theorem capN_M (f : Nat) : capN f = 1 + 10 * capM f := by cases f <;> rfl
theorem anyL_drop {d q : Nat} {s : St} {g : St → Nat → Bool} {ops : List Op} {o : Op} (h : ops[q]? = some o) : anyL ops s d g (ops.drop q) q = ((!d.testBit q && !aheadL d o.beg ops 0 && (nextV s o).2 && g (nextV s o).1 (d ||| 2 ^ q)) || anyL ops s d g (ops.drop (q + 1)) (q + 1)) := by
 rw [List.drop_eq_getElem_cons (List.getElem?_eq_some_iff.1 h).1, anyL, (List.getElem?_eq_some_iff.1 h).2]
theorem or_i64 (d q : Nat) (hd : d < 1024) (hq : q < 10) : bits .or .i64 (d : Int) (IntKind.i64.wrap (2 ^ q)) = ((d ||| 2 ^ q : Nat) : Int) := by
 have hp : 2 ^ q < 2 ^ 10 := Nat.pow_lt_pow_right (by decide) hq
 have hor : d ||| 2 ^ q < 2 ^ 10 := Nat.or_lt_two_pow hd hp
 rw [show (2 : Int) ^ q = ((2 ^ q : Nat) : Int) by rw [Int.natCast_pow]; rfl]
 generalize 2 ^ q = x at hp hor ⊢
 rw [IntWalk.i64_in _ (by omega)]
 show IntKind.i64.wrap ((BitVec.ofInt 64 (d : Int) ||| BitVec.ofInt 64 (x : Int)).toNat : Int) = _
 have h1 : (BitVec.ofInt 64 (d : Int) ||| BitVec.ofInt 64 (x : Int)).toNat = d ||| x := by
  rw [BitVec.toNat_or, BitVec.ofInt_natCast, BitVec.ofInt_natCast, BitVec.toNat_ofNat, BitVec.toNat_ofNat, Nat.mod_eq_of_lt (by omega), Nat.mod_eq_of_lt (by omega)]
 rw [h1, IntWalk.i64_in _ (by omega)]
theorem roundA {wr w5 : World} {a b c v : Value} {s : St} {B : Nat} (h : StAt (some B) w5 v s) (hb : Below wr.heap.size wr w5) :
  OutAt (w5.alloc (.cells #[a, b, c] 27)) w5.heap.size a b c ∧ StAt (some B) (w5.alloc (.cells #[a, b, c] 27)) v s ∧ Below wr.heap.size wr (w5.alloc (.cells #[a, b, c] 27)) ∧ wr.heap.size ≤ w5.heap.size :=
 ⟨heap_alloc_new w5 _, h.alloc _, hb.alloc hb.size _, hb.size⟩
theorem roundB {wr w5 : World} {a b c v : Value} {s : St} {B : Nat} (h : StAt (some B) w5 v s) (hb : Below wr.heap.size wr w5) (h0 : w5.heap[wr.heap.size]? = some (.cells #[.slice none 0 0, .slice none 0 0, .slice none 0 0] 27)) :
  OutAt (((w5.setCell ⟨wr.heap.size, 0, none⟩ a).setCell ⟨wr.heap.size, 1, none⟩ b).setCell ⟨wr.heap.size, 2, none⟩ c) wr.heap.size a b c ∧ StAt (some B) (((w5.setCell ⟨wr.heap.size, 0, none⟩ a).setCell ⟨wr.heap.size, 1, none⟩ b).setCell ⟨wr.heap.size, 2, none⟩ c) v s ∧ Below wr.heap.size wr (((w5.setCell ⟨wr.heap.size, 0, none⟩ a).setCell ⟨wr.heap.size, 1, none⟩ b).setCell ⟨wr.heap.size, 2, none⟩ c) ∧ wr.heap.size ≤ wr.heap.size :=
 ⟨row_three h0 _ _ _, h.set3 h0 _ _ _, below_set3 hb (Nat.le_refl _) _ _ _, Nat.le_refl _⟩
def RunOk (f : Nat) : Prop := ∀ (p fm : Nat) (B : Option Addr) (n cap : Nat) (lb : ByteArray) (d m : Nat) (v : Value) (s : St) (ops : List Op) (w : World), leftN n d = f → SeAt w p B n cap fm lb → OpsAt w B n ops → StAt none w v s → mayV s = true → Tab w → n ≤ 10 → d < 2 ^ n → VainAt w fm m ops lb.data.toList → m + capN f ≤ 100000000000 →
 Calls Tryz.prog 16 #[.pointer (some ⟨p, 0, none⟩), v, .int .i64 d] w fun e w' => e = .returned (.bool (rowD ops lb.data.toList s d)) ∧ VainAt w' fm (m + capN f) ops lb.data.toList ∧ Past w w' ∧ Below fm w w'
set_option maxRecDepth 100000 in
set_option maxHeartbeats 8000000 in
theorem run_step (f0 : Nat) (IH : ∀ f', f' + 1 = f0 → RunOk f') : RunOk f0 := by
 intro p fm B n cap lb d m v s ops w hf0 hse ho hs hm hT hn9 hd hv hcap
 obtain ⟨A, n', c', E, l, d', D, k, e, rfl, _⟩ := hs.at_
 obtain ⟨W, hW, a0, a1, a2, hal, hlt0⟩ := box_st w A n' c' E l d' D k e
 have hse' := hse.go hal
 obtain ⟨p0, p1, p2⟩ := hse'.get
 have hlp := hse'.lt
 have hd9 : d < 1024 := Nat.lt_of_lt_of_le hd (show 2 ^ n ≤ 2 ^ 10 from Nat.pow_le_pow_right (by decide) hn9)
 have HIH := Lib.hid IH
 have HF := Lib.hid hf0
 have HD := Lib.hid hd
 have HV := Lib.hid (hv.below hal)
 have HFM := Lib.hid hv.lt
 have HSE := Lib.hid hse'
 have HS := Lib.hid (hs.below hal)
 have HO := Lib.hid (ho.below hal)
 have HT := Lib.hid (hT.below hal)
 have HB0 := Lib.hid hal
 have HL := Lib.hid ho.1
 have HM := Lib.hid hm
 have HG := Lib.hid ((good_iff s).1 hm)
 have HCAP := Lib.hid hcap
 obtain ⟨last, hlast⟩ : ∃ l, lb.data.toList = l := ⟨_, rfl⟩
 have HLA := Lib.hid hlast
 clear IH hf0 hse hse' ho hs hm hT hal hv hcap hd
 obtain ⟨R0, hR0⟩ : ∃ R, overV ops lb.data.toList s d = R := ⟨_, rfl⟩
 obtain ⟨R, hR⟩ : ∃ R, anyL ops s d (rowD ops lb.data.toList) ops 0 = R := ⟨_, rfl⟩
 have hov : rowD ops lb.data.toList s d = (R0 || R) := by rw [rowD_eq, hR0, hR]
 have HRD := Lib.hid hov
 rw [hov]
 have HR0 := Lib.hid hR0
 have HR := Lib.hid hR
 clear hR hov hR0
 go_enter Tryz.func16, Tryz.ntmps16
 go_wp2_with fail
 have h1 := over_any p _ s B n cap fm lb d ops W HSE.out HO.out HS.out HM.out HT.out hn9 hd9
 rw [HR0.out] at h1
 refine h1.mono ?_
 clear h1
 rintro e w1 ⟨rfl, hb1⟩
 have HB1 := Lib.hid hb1
 have HV1 := Lib.hid (HV.out.below hb1)
 cases R0
 case true =>
  clear hb1
  go_wp2_with fail
  go_ret
  refine ⟨rfl, HV1.out.mono (Nat.le_add_right _ _), Past.of_below (Cv.next HB0.out HB1.out), (Cv.next HB0.out HB1.out).mono (Nat.le_of_lt HFM.out)⟩
 case false =>
  have x0 := (hb1.cell (p := ⟨p, 0, none⟩) hlp).trans p0
  have x1 := (hb1.cell (p := ⟨p, 1, none⟩) hlp).trans p1
  have x2 := (hb1.cell (p := ⟨p, 2, none⟩) hlp).trans p2
  have y0 := (hb1.cell (p := ⟨w.heap.size, 0, none⟩) hlt0).trans a0
  have y1 := (hb1.cell (p := ⟨w.heap.size, 1, none⟩) hlt0).trans a1
  have y2 := (hb1.cell (p := ⟨w.heap.size, 2, none⟩) hlt0).trans a2
  clear hb1
  go_wp2_with fail
  refine (key_any ⟨p, 0, none⟩ _ s d w1 (HS.out.below HB1.out) HM.out (HT.out.below HB1.out) hd9).mono ?_
  rintro e w2 ⟨K, rfl, hK, hKs, hb2⟩
  have HB2 := Lib.hid (Cv.next HB1.out hb2)
  have hlp2 := Nat.lt_of_lt_of_le hlp HB1.out.size
  have hlt2 := Nat.lt_of_lt_of_le hlt0 HB1.out.size
  have z0 := (hb2.cell (p := ⟨p, 0, none⟩) hlp2).trans x0
  have z1 := (hb2.cell (p := ⟨p, 1, none⟩) hlp2).trans x1
  have z2 := (hb2.cell (p := ⟨p, 2, none⟩) hlp2).trans x2
  have t0 := (hb2.cell (p := ⟨w.heap.size, 0, none⟩) hlt2).trans y0
  have t1 := (hb2.cell (p := ⟨w.heap.size, 1, none⟩) hlt2).trans y1
  have t2 := (hb2.cell (p := ⟨w.heap.size, 2, none⟩) hlt2).trans y2
  have HV2 := Lib.hid (HV1.out.below hb2)
  have HK := Lib.hid hK
  have HKS := Lib.hid hKs
  obtain ⟨b, hrun, hbv⟩ := HV2.out.look K hKs HG.out (by rw [HL.out]; exact HD.out) (by rw [HL.out]; exact hn9) hK
  have HBV := Lib.hid hbv
  clear x0 x1 x2 y0 y1 y2 hb2 hK hKs hbv
  cases b
  case true =>
   have hr0 : R = false := by
    have h9 := HBV.out rfl
    rw [HRD.out] at h9
    exact h9
   subst hr0
   go_wp2_with fail
   go_ret
   refine ⟨rfl, HV2.out.mono (Nat.le_add_right _ _), Past.of_below (Cv.next HB0.out HB2.out), (Cv.next HB0.out HB2.out).mono (Nat.le_of_lt HFM.out)⟩
  case false =>
   clear HBV
   go_wp2_with fail
   clear hrun
   go_loopw [30] (fun j wr => ∃ q : Nat, j = .int .i64 q ∧ q ≤ n ∧ anyL ops s d (rowD ops lb.data.toList) (ops.drop q) q = R ∧ VainAt wr fm (m + q * capM f0) ops lb.data.toList ∧ Past w2 wr ∧ Below fm w2 wr) (fun j _ => n - (intOf j).toNat)
   case atStart => exact ⟨0, rfl, by omega, HR.out, HV2.out.mono (Nat.le_add_right _ _), Past.refl _, Below.refl _ _⟩
   case round =>
    obtain ⟨q, rfl, hq, hrest, hvr, hpa, hbf⟩ := hrel
    have HREST := Lib.hid hrest
    have HVR := Lib.hid hvr
    have HPA := Lib.hid hpa
    have HBF := Lib.hid hbf
    have HP0 := Lib.hid ((Past.of_below (Cv.next HB0.out HB2.out)).trans hpa)
    have x0 := hpa.cell z0
    have x1 := hpa.cell z1
    have x2 := hpa.cell z2
    have y0 := hpa.cell t0
    have y1 := hpa.cell t1
    have y2 := hpa.cell t2
    have hlpr := World.block_lt_of_cell? wr ⟨p, 0, none⟩ x0
    have hltr := World.block_lt_of_cell? wr ⟨w.heap.size, 0, none⟩ y0
    clear hrest hvr hpa hbf
    by_cases hlt : q < n
    ·obtain ⟨g, off, o, rfl, hg, hoq, hat⟩ := ((HO.out.below HB2.out).past HPA.out).get q hlt
     have HOQ := Lib.hid hoq
     have HAT := Lib.hid hat
     have hst := anyL_drop (d := d) (s := s) (g := rowD ops lb.data.toList) hoq
     rw [HREST.out] at hst
     have HST := Lib.hid hst
     have q0 : (0 : Int) ≤ (q : Int) := by omega
     have q1 : (q : Int) < (n : Int) := by omega
     have q2 : (q : Int).toNat = q := by omega
     clear hst hoq hat
     have hmore : Hid (∀ w9, Below wr.heap.size wr w9 → VainAt w9 fm (m + (q + 1) * capM f0) ops lb.data.toList ∧ Past w2 w9 ∧ Below fm w2 w9) := Lib.hid (fun w9 h9 => ⟨(HVR.out.below h9).mono (by rw [Nat.succ_mul]; omega), HPA.out.trans (Past.of_below h9), HBF.out.trans (h9.mono (Nat.le_of_lt HVR.out.lt))⟩)
     have hbit := bit_i64 d q hd9
     cases htb : d.testBit q
     ·rw [htb] at hbit
      have hbit0 : bits .and .i64 ((d : Int) / 2 ^ q) 1 = 0 := by rw [hbit]; rfl
      have HTB := Lib.hid htb
      clear htb hbit
      go_wp2_with fail
      have h1 := ahead_any p _ n cap fm lb d q ops o wr (HSE.out.past ((Past.of_below HB2.out).trans HPA.out)) ((HO.out.below HB2.out).past HPA.out) HOQ.out hn9 hd9
      obtain ⟨A9, hA9⟩ : ∃ b, aheadL d o.beg ops 0 = b := ⟨_, rfl⟩
      rw [hA9] at h1
      have HA9 := Lib.hid hA9
      clear hA9 hbit0
      refine h1.mono ?_
      clear h1
      rintro e w3 ⟨rfl, hb3⟩
      have HB3 := Lib.hid hb3
      cases A9
      case true =>
       clear hb3
       go_wp2_with fail
       go_roundw
       case rel => exact ⟨q + 1, by go_num, hlt, by have h9 := HST.out; rw [HTB.out, HA9.out] at h9; simpa using h9.symm, hmore.out _ HB3.out⟩
       case measure => simp [intOf]; omega
      case false =>
       have u0 := (hb3.cell (p := ⟨p, 0, none⟩) hlpr).trans x0
       have u1 := (hb3.cell (p := ⟨p, 1, none⟩) hlpr).trans x1
       have u2 := (hb3.cell (p := ⟨p, 2, none⟩) hlpr).trans x2
       have v0 := (hb3.cell (p := ⟨w.heap.size, 0, none⟩) hltr).trans y0
       have v1 := (hb3.cell (p := ⟨w.heap.size, 1, none⟩) hltr).trans y1
       have v2 := (hb3.cell (p := ⟨w.heap.size, 2, none⟩) hltr).trans y2
       have hlp3 := Nat.lt_of_lt_of_le hlpr hb3.size
       have hlt3 := Nat.lt_of_lt_of_le hltr hb3.size
       clear x0 x1 x2 y0 y1 y2 hb3
       go_wp2_with fail
       obtain ⟨NS, NB, hN⟩ : ∃ a b, nextV s o = (a, b) := ⟨_, _, rfl⟩
       have HN := Lib.hid hN
       have hz1 : w3.heap.size ≠ w.heap.size := Nat.ne_of_gt hlt3
       have hz2 : w3.heap.size ≠ p := Nat.ne_of_gt hlp3
       have hz1' := Ne.symm hz1
       have hz2' := Ne.symm hz2
       have HST3 := Lib.hid ((((HS.out.below HB2.out).past HPA.out).below HB3.out))
       have HAT3 := Lib.hid (HAT.out.below HB3.out)
       have hc : ∀ u : World, Below w3.heap.size w3 u → Calls Tryz.prog 24 #[.agg #[.slice A n' c', .slice E l d', .slice D k e], .pointer (some ⟨g, off + q * 16, none⟩)] u fun e w' => ∃ A k c E l d D i f, e = .returned (.tuple #[.agg #[.slice A k c, .slice E l d, .slice D i f], .bool NB]) ∧ StAt (some w3.heap.size) w' (.agg #[.slice A k c, .slice E l d, .slice D i f]) NS ∧ Below u.heap.size u w' ∧ Below w3.heap.size w3 w' := fun u hu => by
        have h1 := hnext_any _ s g (off + q * 16) o u (HST3.out.below hu) (HAT3.out.below hu)
        rw [HN.out] at h1
        refine h1.mono ?_
        rintro e w' ⟨v', rfl, hst, hb⟩
        obtain ⟨A, k, c, E, l, d, D, i, f, rfl, _⟩ := hst.at_
        exact ⟨A, k, c, E, l, d, D, i, f, rfl, hst.lower hu.size, hb, hu.trans (hb.mono hu.size)⟩
       have HC := Lib.hid hc
       have HB3S := Lib.hid (Below.refl w3.heap.size w3)
       clear hc hN
       go_cut [9, 10] (fun pp pb wx => ∃ b A k c E l d D i f, pp = .pointer (some ⟨b, 0, .none⟩) ∧ pb = .bool NB ∧ OutAt wx b (.slice A k c) (.slice E l d) (.slice D i f) ∧ StAt (some w3.heap.size) wx (.agg #[.slice A k c, .slice E l d, .slice D i f]) NS ∧ Below w3.heap.size w3 wx ∧ w3.heap.size ≤ b)
       case first =>
        go_region_held3 (fun w' => w'.cell? ⟨w.heap.size, 0, none⟩ = some (.slice A n' c') ∧ w'.cell? ⟨w.heap.size, 1, none⟩ = some (.slice E l d') ∧ w'.cell? ⟨w.heap.size, 2, none⟩ = some (.slice D k e) ∧ w'.cell? ⟨p, 0, none⟩ = some (.slice (some ⟨g, off, none⟩) n cap))
         (first | go_keep | (trace_state; fail))
         ((go_at_call 24; refine (HC.out _ (by first | exact Cv.drewN_below (Below.refl _ _) 1 | exact (Cv.drewN_below (Below.refl _ _) 1).alloc (by simp) _)).mono ?_; rintro e5 w5 ⟨A5, n5, c5, E5, m5, d5, D5, i5, f5, rfl, hst5, hb5, hbw5⟩; have e0 := (hbw5.cell (p := ⟨w.heap.size, 0, none⟩) hlt3).trans v0; have e1 := (hbw5.cell (p := ⟨w.heap.size, 1, none⟩) hlt3).trans v1; have e2 := (hbw5.cell (p := ⟨w.heap.size, 2, none⟩) hlt3).trans v2; have e3 := (hbw5.cell (p := ⟨p, 0, none⟩) hlp3).trans u0; (first | (have am := row_kept hb5 (al1 w3 (.cells #[.slice none 0 0, .slice none 0 0, .slice none 0 0] 27)); obtain ⟨m0, m1, m2, mf⟩ := OutAt.get am; have lm := (Array.getElem?_eq_some_iff.1 am).1; have nm : w5.heap.size ≠ w3.heap.size := Nat.ne_of_gt lm; have HAM := Lib.hid am; clear am) | skip); have hs5 := hbw5.size; have y1 : w5.heap.size ≠ w.heap.size := (by omega); have y2 : w5.heap.size ≠ p := (by omega)))
        all_goals (
         go_wp2_with fail
         go_meet
         first
          | exact ⟨_, A5, n5, c5, E5, m5, d5, D5, i5, f5, rfl, rfl, roundA hst5 hbw5⟩
          | exact ⟨_, A5, n5, c5, E5, m5, d5, D5, i5, f5, rfl, rfl, roundB hst5 hbw5 HAM.out⟩)
       case rest =>
        obtain ⟨b, A5, n5, c5, E5, m5, d5, D5, i5, f5, rfl, rfl, ho5, hst5, hb5, hle⟩ := hcut
        obtain ⟨y0, y1, y2, yf⟩ := OutAt.get ho5
        have x0 := (hb5.cell (p := ⟨p, 0, none⟩) hlp3).trans u0
        have x1 := (hb5.cell (p := ⟨p, 1, none⟩) hlp3).trans u1
        have HB5 := Lib.hid (Cv.next HB3.out hb5)
        have HST5 := Lib.hid hst5
        cases NB
        case false =>
         clear ho5 hst5 hb5
         go_wp2_with fail
         have hX := @Ext.cell wc
         refine wre ?_
         repeat (go_big_quiet_step (fail))
         refine wpQuiet_nil ?_
         rintro w9 ⟨X, rfl⟩
         have HBX := Lib.hid (Cv.next HB5.out X.bel)
         clear hX
         go_wp2_with fail
         go_roundw
         case rel => exact ⟨q + 1, by go_num, hlt, by have h9 := HST.out; rw [HTB.out, HA9.out, HN.out] at h9; simpa using h9.symm, hmore.out _ HBX.out⟩
         case measure => simp [intOf]; omega
        case true =>
         have hlb5 := (Array.getElem?_eq_some_iff.1 ho5).1
         have hlf := leftN_set (n := n) hlt HTB.out
         have HM5 := Lib.hid ((good_iff NS).2 (by have h9 := HG.out.next o; rw [HN.out] at h9; exact h9))
         obtain ⟨RR, hRR⟩ : ∃ r, rowD ops lb.data.toList NS (d ||| 2 ^ q) = r := ⟨_, rfl⟩
         have HRR := Lib.hid hRR
         have hcm : (q + 1) * capM f0 ≤ 10 * capM f0 := Nat.mul_le_mul_right _ (by omega)
         have hcm2 : (q + 1) * capM f0 = q * capM f0 + capM f0 := Nat.succ_mul q (capM f0)
         have hcn := capN_M f0
         have hcf : capN (leftN n (d ||| 2 ^ q)) = capM f0 := by rw [← HF.out, ← hlf]; rfl
         have hcp := HCAP.out
         have HEQ := Lib.hid (show m + q * capM f0 + capN (leftN n (d ||| 2 ^ q)) = m + (q + 1) * capM f0 by rw [hcf, hcm2]; omega)
         have HLE := Lib.hid (show m + q * capM f0 + capN (leftN n (d ||| 2 ^ q)) ≤ 100000000000 by rw [hcf]; omega)
         have HLF := Lib.hid (show leftN n (d ||| 2 ^ q) + 1 = f0 by rw [hlf]; exact HF.out)
         have HSL := Lib.hid (set_lt HD.out hlt)
         have HPW := Lib.hid (Past.of_below HB5.out)
         have hc : ∀ u : World, Below wc.heap.size wc u → Calls Tryz.prog 16 #[.pointer (some ⟨p, 0, none⟩), .agg #[.slice A5 n5 c5, .slice E5 m5 d5, .slice D5 i5 f5], .int .i64 (bits .or .i64 (d : Int) (IntKind.i64.wrap (2 ^ q)))] u fun e w' => e = .returned (.bool RR) ∧ VainAt w' fm (m + (q + 1) * capM f0) ops lb.data.toList ∧ Past wc w' ∧ Past w2 w' ∧ Below fm w2 w' := fun u hu => by
          have h1 := HIH.out _ HLF.out p fm _ n cap lb (d ||| 2 ^ q) (m + q * capM f0) _ NS ops u rfl ((((HSE.out.past (Past.of_below HB2.out)).past HPA.out).past HPW.out).past (Past.of_below hu)) ((((HO.out.below HB2.out).past HPA.out).past HPW.out).below hu) (HST5.out.weak.below hu) HM5.out ((((HT.out.below HB2.out).past HPA.out).past HPW.out).below hu) hn9 HSL.out ((HVR.out.below HB5.out).below hu) HLE.out
          rw [HRR.out, HEQ.out, ← or_i64 d q hd9 (by omega)] at h1
          refine h1.mono ?_
          rintro e w' ⟨rfl, hv, hp, hf⟩
          exact ⟨rfl, hv, (Past.of_below hu).trans hp, (HPA.out.trans HPW.out).trans ((Past.of_below hu).trans hp), ((HBF.out.trans (HB5.out.mono (Nat.le_of_lt HVR.out.lt))).trans (hu.mono (Nat.le_of_lt (HVR.out.below HB5.out).lt))).trans hf⟩
         have HRC := Lib.hid hc
         clear ho5 hst5 hb5 hRR hc hcm hcm2 hcn hcf hcp hlf
         go_wp2_with fail
         go_region_held3 (fun w' => w'.cell? ⟨b, 0, none⟩ = some (.slice A5 n5 c5) ∧ w'.cell? ⟨b, 1, none⟩ = some (.slice E5 m5 d5) ∧ w'.cell? ⟨b, 2, none⟩ = some (.slice D5 i5 f5))
          (first | go_keep | (trace_state; fail))
          ((go_at_call 16; refine (HRC.out _ (by first | exact Cv.drewN_below (Below.refl _ _) 1)).mono ?_; rintro e6 w6 ⟨rfl, hv6, hq6, hp6, hf6⟩; have e0 := hq6.cell y0; have e1 := hq6.cell y1; have e2 := hq6.cell y2))
         have HV6 := Lib.hid hv6
         have HP6 := Lib.hid hp6
         have HF6 := Lib.hid hf6
         clear hv6 hp6 hf6 hq6
         cases RR
         case false =>
          go_wp2_with fail
          go_roundw
          case rel => exact ⟨q + 1, by go_num, hlt, by have h9 := HST.out; rw [HTB.out, HA9.out, HN.out, HRR.out] at h9; simpa using h9.symm, HV6.out, HP6.out, HF6.out⟩
          case measure => simp [intOf]; omega
         case true =>
          have hr0 : R = true := by rw [HST.out, HTB.out, HA9.out, HN.out, HRR.out]; rfl
          subst hr0
          go_wp2_with fail
          go_ret
          refine ⟨rfl, HV6.out.mono ?_, (Past.of_below (Cv.next HB0.out HB2.out)).trans HP6.out, ((Cv.next HB0.out HB2.out).mono (Nat.le_of_lt HFM.out)).trans HF6.out⟩
          have hcm : (q + 1) * capM f0 ≤ 10 * capM f0 := Nat.mul_le_mul_right _ (by omega)
          rw [capN_M]
          omega
     ·rw [htb] at hbit
      have hbit0 : bits .and .i64 ((d : Int) / 2 ^ q) 1 = 1 := by rw [hbit]; rfl
      have HTB := Lib.hid htb
      clear htb hbit
      go_wp2_with fail
      go_roundw
      case rel => exact ⟨q + 1, by go_num, by omega, by have h9 := HST.out; rw [HTB.out] at h9; simpa using h9.symm, hmore.out _ (Below.refl _ _)⟩
      case measure => simp [intOf]; omega
    ·have hqn : q = n := by omega
     have hr0 : R = false := by
      have h9 := HREST.out
      rw [hqn, ← HL.out, List.drop_length] at h9
      exact h9.symm
     subst hr0
     have hrf : rowD ops lb.data.toList s d = false := HRD.out
     obtain ⟨D9, hm9, hown, hvain⟩ := HVR.out
     obtain ⟨es9, ck9, hes9⟩ : ∃ es ck, wr.heap[fm]? = some (.map es ck) := by
      obtain ⟨es, ck, h, _⟩ := hown
      exact ⟨es, ck, h⟩
     have HES9 := Lib.hid hes9
     have HVN := Lib.hid (Vain.put hm9 hvain HG.out (by rw [HL.out]; exact HD.out) hrf)
     have HM9 := Lib.hid hm9
     clear hes9 hrf hvain hm9
     have hcm : q * capM f0 ≤ 10 * capM f0 := Nat.mul_le_mul_right _ (by omega)
     have hcn := capN_M f0
     have hcp := HCAP.out
     have hml : m + q * capM f0 < 9223372036854775807 := by omega
     have HCM := Lib.hid hcm
     clear hcm hcn hcp
     go_wp2_with (at_mapUpdate; refine wpList_mapUpdate_own _ rfl _ _ _ 57 rfl 9 4 (string_keyed Tryz.underlying9) Tryz.underlying57 _ fm _ D9 rfl hown (by unfold maxLen; omega) _ _ _ rfl rfl (WideMaps.keyOf_string_mk Tryz.underlying9 (s := K) (by have := HKS.out; unfold maxLen; omega)) _ [] (plainElem_bool Tryz.underlying4 true) ?_)
     intro w7 hown7 hgrow7
     have HO7 := Lib.hid hown7
     have HG7 := Lib.hid hgrow7
     clear hown hown7 hgrow7
     go_wp2_with fail
     go_ret
     refine ⟨rfl, ⟨D9.put (.string K.data.toList) (.lit (.bool true)), HM9.out.put _ _, HO7.out.mono ?_, by rw [HK.out]; exact HVN.out⟩, ((Past.of_below (Cv.next HB0.out HB2.out)).trans HPA.out).trans (Past.of_map HG7.out HES9.out), (((Cv.next HB0.out HB2.out).mono (Nat.le_of_lt HFM.out)).trans HBF.out).grown HG7.out (Nat.le_of_lt HVR.out.lt) (fun k hk => by injection hk with hk; omega)⟩
     rw [capN_M]
     have := HCM.out
     have : n * capM f0 ≤ 10 * capM f0 := Nat.mul_le_mul_right _ hn9
     omega
theorem run_any : ∀ f, RunOk f
 | 0 => run_step 0 (fun f' h => absurd h (by omega))
 | f + 1 => run_step (f + 1) (fun f' h => by
  have : f' = f := by omega
  subst this
  exact run_any f')
end Go.Proofs.YtkflaifopbodfaaGreatDoor
namespace Go.Proofs.YtkflaifopbodfaaGreatDoor
open Go.RowKit
def askV (s : St) (ops : List Op) : Int := if mayV s = false then 2500 else if ops.all opMay = false then 2500 else if 10 < ops.length then 2501 else 0
theorem take_all {ops : List Op} {q : Nat} {o : Op} (h : ops[q]? = some o) : (ops.take (q + 1)).all opMay = ((ops.take q).all opMay && opMay o) := by
 rw [List.take_add_one, h, List.all_append]
 simp
theorem all_no {ops : List Op} {q : Nat} {o : Op} (h : ops[q]? = some o) (ho : opMay o = false) : ops.all opMay = false := by
 rw [List.all_eq_false]
 exact ⟨o, List.mem_of_getElem? h, by rw [ho]; simp⟩
theorem PtrAt.st {w : World} {p : Nat} {s : St} (h : PtrAt w p s) : ∃ A n c E m d D k e, OutAt w p (.slice A n c) (.slice E m d) (.slice D k e) ∧ StAt none w (.agg #[.slice A n c, .slice E m d, .slice D k e]) s := by
 obtain ⟨⟨A, n, c, E, m, d, D, k, e, h1, h2, h3, h4, h5, h6, h7⟩, hz⟩ := h
 exact ⟨A, n, c, E, m, d, D, k, e, h1, ⟨⟨A, n, c, E, m, d, D, k, e, rfl, h2, h3, h4, h5, h6, h7⟩, hz⟩⟩
set_option maxRecDepth 100000 in
set_option maxHeartbeats 4000000 in
theorem asked_any (p : Nat) (s : St) (B : Option Addr) (n cap : Nat) (ops : List Op) (w : World) (hp : PtrAt w p s) (ho : OpsAt w B n ops) (hn9 : n ≤ 1099511627776) :
  Calls Tryz.prog 15 #[.pointer (some ⟨p, 0, none⟩), .slice B n cap] w fun e w' => e = .returned (.int .i64 (askV s ops)) ∧ Below w.heap.size w w' := by
 obtain ⟨A, n', c', E, m, d, D, k, e, hr, hs⟩ := hp.st
 obtain ⟨p0, p1, p2, _⟩ := hr.get
 have HS := Lib.hid hs
 have HO := Lib.hid ho
 have HL := Lib.hid ho.1
 clear hr hs hp ho
 obtain ⟨R, hR⟩ : ∃ R, askV s ops = R := ⟨_, rfl⟩
 rw [hR]
 unfold askV at hR
 have HR := Lib.hid hR
 clear hR
 go_enter Tryz.func15, Tryz.ntmps15
 go_wp2_with fail
 have h1 := mmay_any _ s w HS.out
 obtain ⟨M, hM⟩ : ∃ M, mayV s = M := ⟨_, rfl⟩
 rw [hM] at h1
 refine h1.mono ?_
 clear h1
 rintro e1 w1 ⟨rfl, hb1⟩
 have HB1 := Lib.hid hb1
 clear hb1
 cases M
 ·have hr0 : R = 2500 := by rw [← HR.out, if_pos hM]
  subst hr0
  clear hM
  go_wp2_with fail
  go_ret
  exact ⟨rfl, HB1.out⟩
 have hR2 : (if ops.all opMay = false then (2500 : Int) else if 10 < ops.length then 2501 else 0) = R := by have h9 := HR.out; rwa [if_neg (show ¬ mayV s = false by rw [hM]; simp)] at h9
 have HR2 := Lib.hid hR2
 clear hR2 hM HR
 go_wp2_with fail
 go_loopw [14] (fun j wr => ∃ q : Nat, j = .int .i64 q ∧ q ≤ n ∧ (ops.take q).all opMay = true ∧ Below w.heap.size w wr) (fun j _ => n - (intOf j).toNat)
 case atStart => exact ⟨0, rfl, by omega, by simp, HB1.out⟩
 case round =>
  obtain ⟨q, rfl, hq, hall, hb⟩ := hrel
  have HB := Lib.hid hb
  have HALL := Lib.hid hall
  clear hall
  by_cases hlt : q < n
  ·obtain ⟨g, off, o, rfl, hg, hoq, hat⟩ := (HO.out.below hb).get q hlt
   obtain ⟨F, f, f9, hok, hnm, hoo, hg2, c0, c1, c2, c3, c4, c5, c6, c7, c8, c9, c10, c11, c12, c13, c14, c15⟩ := hat.get
   obtain ⟨W, hW, hal, hz, d0, d1, d2, d3, d4, d5, d6, d7, d8, d9, d10, d11, d12, d13, d14, d15⟩ := box_op wr o F f f9
   have HC := Lib.hid (hmay_any o F f f9 W hok (hnm.below hal) hoo.rn)
   have HB2 := Lib.hid (Cv.next hb hal)
   have HOQ := Lib.hid hoq
   have q0 : (0 : Int) ≤ (q : Int) := by omega
   have q1 : (q : Int) < (n : Int) := by omega
   have q2 : (q : Int).toNat = q := by omega
   clear hb hoq hat hok hnm hoo hal
   go_wp2_with fail
   try rw [hW]
   obtain ⟨M, hM⟩ : ∃ M, opMay o = M := ⟨_, rfl⟩
   have h1 := HC.out
   rw [hM] at h1
   refine h1.mono ?_
   clear h1
   rintro e2 w2 ⟨rfl, hb2⟩
   have HB3 := Lib.hid (Cv.next HB2.out hb2)
   clear hb2
   have HM := Lib.hid hM
   clear hM
   cases M
   ·have hr0 : R = 2500 := by rw [← HR2.out, if_pos (all_no HOQ.out HM.out)]
    subst hr0
    go_wp2_with fail
    go_ret
    exact ⟨rfl, HB3.out⟩
   ·go_wp2_with fail
    go_roundw
    case rel => exact ⟨q + 1, by go_num, by omega, by rw [take_all HOQ.out, HALL.out, HM.out]; rfl, HB3.out⟩
    case measure => simp [intOf]; omega
  ·have hqn : q = n := by omega
   have hall2 : ops.all opMay = true := by
    have := HALL.out
    rwa [hqn, ← HL.out, List.take_length] at this
   have hR3 : (if 10 < n then (2501 : Int) else 0) = R := by have h9 := HR2.out; rwa [if_neg (show ¬ ops.all opMay = false by rw [hall2]; simp), HL.out] at h9
   have HR3 := Lib.hid hR3
   clear hR3 hall2 hb
   by_cases h10 : 10 < n
   ·have hr0 : R = 2501 := by rw [← HR3.out, if_pos h10]
    subst hr0
    go_wp2_with fail
    go_ret
    exact ⟨rfl, HB.out⟩
   ·have hr0 : R = 0 := by rw [← HR3.out, if_neg h10]
    subst hr0
    go_wp2_with fail
    go_ret
    exact ⟨rfl, HB.out⟩
end Go.Proofs.YtkflaifopbodfaaGreatDoor
