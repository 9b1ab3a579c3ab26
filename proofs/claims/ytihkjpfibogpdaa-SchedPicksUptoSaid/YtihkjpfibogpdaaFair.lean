/- sched.Fair, by its contract. -/
import Derived.Test.YtihkjpfibogpdaaFairInv
import Derived.WalkKit
namespace Go.Proofs.Ytihkjpfibogpdaa
open Go.RowKit
open Go.Maps (IsMap atKey_put_same atKey_put_other int_keyed keyOf_int_mk)
set_option linter.unusedVariables false
theorem map_int_keyed : Go.Maps.Keyed Try.prog 3 := int_keyed Try.underlying3
theorem zero_int (w : World) : (zeroValue 3).run Try.prog w = .ok (.int .i64 0) w := by kernel_rfl
abbrev wfI (a : Int) : Prop := (Lit.int .i64 a).wf = true
theorem wf_nat (k : Nat) (h : k ≤ 9223372036854775807) : wfI (k : Int) := by
  show (decide (IntKind.i64.min ≤ (k : Int)) && decide ((k : Int) ≤ IntKind.i64.max)) = true
  rw [Bool.and_eq_true, decide_eq_true_eq, decide_eq_true_eq]
  have h1 : IntKind.i64.min = -9223372036854775808 := by decide
  have h2 : IntKind.i64.max = 9223372036854775807 := by decide
  rw [h1, h2]
  omega
/-- The row inside a step: the cores below q are done. -/
def midf (f : Nat → Nat) (r : List Bool) (q : Nat) : Nat → Nat := fun j => if j < q then (if r.getD j false then f j + 1 else 0) else f j
theorem midf_zero (f : Nat → Nat) (r : List Bool) : midf f r 0 = f := by
  funext j
  simp [midf]
theorem midf_at (f : Nat → Nat) (r : List Bool) (q : Nat) : midf f r q q = f q := by simp [midf]
theorem midf_next (f : Nat → Nat) (r : List Bool) (q : Nat) : upd (midf f r q) q (if r.getD q false then f q + 1 else 0) = midf f r (q + 1) := by
  funext j
  unfold upd midf
  by_cases h : j = q
  · subst h
    have h3 : j < j + 1 := by omega
    simp [h3]
  · rw [if_neg h]
    by_cases h2 : j < q
    · have h3 : j < q + 1 := by omega
      simp [h2, h3]
    · have h3 : ¬ j < q + 1 := by omega
      simp [h2, h3]
theorem upd_upd (f : Nat → Nat) (q x y : Nat) : upd (upd f q x) q y = upd f q y := by
  funext j
  unfold upd
  by_cases h : j = q
  · rw [if_pos h, if_pos h]
  · rw [if_neg h, if_neg h, if_neg h]
theorem midf_true (f : Nat → Nat) (r : List Bool) (q : Nat) (h : r.getD q false = true) : upd (midf f r q) q (f q + 1) = midf f r (q + 1) := by
  have := midf_next f r q
  rwa [if_pos h] at this
theorem midf_false (f : Nat → Nat) (r : List Bool) (q : Nat) (h : r.getD q false = false) : upd (midf f r q) q 0 = midf f r (q + 1) := by
  have := midf_next f r q
  rw [h] at this
  exact this
theorem getD_out (r : List Bool) (q : Nat) (h : r.length ≤ q) : r.getD q false = false := by
  rw [List.getD_eq_getElem?_getD, List.getElem?_eq_none h]
  rfl
theorem midf_full (rows : List (List Bool)) (k L : Nat) (hL : (rows.getD k []).length ≤ L) (hz : ∀ j, L ≤ j → midf (runs rows k) (rows.getD k []) L j = 0) : midf (runs rows k) (rows.getD k []) L = runs rows (k + 1) := by
  funext j
  by_cases h : j < L
  · simp [midf, h, runs, rdy]
  · rw [hz j (by omega)]
    have := getD_out (rows.getD k []) j (by omega)
    unfold runs rdy
    rw [this]
    rfl
theorem Reads.get {w : World} {A : Option Addr} {n : Nat} {vs : List Value} (h : Reads w A n vs) (j : Nat) (hj : j < n) {x : Value} (hx : vs[j]? = some x) : ∃ g off, A = some ⟨g, off, .none⟩ ∧ g < w.heap.size ∧ w.cell? ⟨g, off + j, .none⟩ = some x := by
  obtain ⟨g, off, h1, h2, h3⟩ := h.2 (by omega)
  exact ⟨g, off, h1, h2, (h3 j hj).trans hx⟩
theorem infoI : (Try.prog.info? 3).map (fun i => (i.zero, i.size, i.bytes)) = some (some (.int .i64 0), 1, 8) := by kernel_rfl
set_option maxRecDepth 100000 in
set_option maxHeartbeats 4000000 in
theorem fair_any (A B : Option Addr) (n m c d : Nat) (rows : List (List Bool)) (ps : List Int) (win : Int) (w : World) (hr : Rows w A n rows) (hp : Reads w B m (ps.map (Value.int .i64)))
    (hn : n ≤ 9223372036854775806) (hm : m ≤ 140737488355328) (hps : ∀ p ∈ ps, wfI p) (hwin : wfI win) :
    Calls Try.prog 52 #[.slice A n c, .slice B m d, .int .i64 win] w fun e w' => e = .returned (.bool (fairV rows ps win)) ∧ Below w.heap.size w w' := by
  have hiff := fairV_iff rows ps win
  obtain ⟨R, hR⟩ : ∃ R, fairV rows ps win = R := ⟨_, rfl⟩
  rw [hR] at hiff ⊢
  have hln : rows.length = n := hr.1
  have hlm : ps.length = m := by simpa using hp.1
  have hrl := hr.2.1
  unfold Fairly at hiff
  rw [hln, hlm] at hiff
  obtain ⟨S, hS⟩ : ∃ S, min n m = S := ⟨_, rfl⟩
  have hSn : S ≤ n := by omega
  have hSm : S ≤ m := by omega
  have hmin : (if m < n then (m : Int) else (n : Int)) = (S : Int) := by split <;> omega
  have hmin2 : (if (m : Int) < (n : Int) then (m : Int) else (n : Int)) = (S : Int) := by split <;> omega
  rw [hS] at hiff
  clear hS
  have HI := Lib.hid hiff
  have HR := Lib.hid hr
  have HP := Lib.hid hp
  have HW := Lib.hid hps
  have HL := Lib.hid hrl
  clear hiff hR hr hp hps hrl
  have hmm := @run_makeMap Try.prog
  obtain ⟨i0, hi, hz0, hz1, hz2⟩ := info_parts infoI
  go_enter Try.func52, Try.ntmps52
  by_cases hw1 : win < 1
  · have hR0 : R = true := HI.out.2 fun h => absurd h (by omega)
    subst hR0
    go_wp2_with fail
    go_ret
    exact ⟨rfl, Below.refl _ _⟩
  by_cases hw2 : (S : Int) < win
  · have hR0 : R = true := HI.out.2 fun _ h => absurd h (by omega)
    subst hR0
    go_wp2_with fail
    go_ret
    exact ⟨rfl, Below.refl _ _⟩
  obtain ⟨W, rfl⟩ : ∃ W : Nat, win = (W : Int) := ⟨win.toNat, by omega⟩
  have hW1 : 1 ≤ W := by omega
  have hWS : W ≤ S := by omega
  have HI2 : Hid (R = true ↔ ∀ i, i < S → ∀ c, ¬ missed rows ps W i c) := Lib.hid (by
    have h := HI.out
    constructor
    · intro hR; exact h.1 hR (by omega) (by omega)
    · intro hR; exact h.2 fun _ _ => hR)
  clear HI hmin2
  go_wp2_with fail
  go_loopw [8, 10, 11, 12, 13, 14, 15, 30] (fun v _ _ _ _ _ _ i wr => ∃ (k L : Nat), k ≤ S ∧ i = .int .i64 k ∧ FI w wr k (lastP ps k) v L (runs rows k) ∧ L ≤ 17592186043904 ∧ (∀ i, i < k → ∀ c, ¬ missed rows ps W i c))
    (fun _ _ _ _ _ _ _ i _ => S - (intOf i).toNat)
  case atStart => exact ⟨0, 0, by omega, rfl, FI.begin w, by omega, fun i h => absurd h (by omega)⟩
  case round =>
    obtain ⟨k, L, hk, rfl, hfi, hL, hok⟩ := hrel
    have HOK := Lib.hid hok
    clear hok
    by_cases hlt : k < S
    · obtain ⟨p, hpk⟩ : ∃ p, ps.getD k 0 = p := ⟨_, rfl⟩
      have hkp : k < ps.length := by omega
      have hpk2 : (ps.map (Value.int .i64))[k]? = some (.int .i64 p) := by
        rw [List.getElem?_map, List.getElem?_eq_getElem hkp]
        simp [← hpk, hkp]
      have hwfp : wfI p := HW.out p (by rw [← hpk]; simp [hkp])
      obtain ⟨g2, off2, rfl, hg2, hc2⟩ := HP.out.get k (by omega) hpk2
      have ck := (hfi.below.cell (p := ⟨g2, off2 + k, .none⟩) hg2).trans hc2
      obtain ⟨D, hD, hat, hown⟩ := hfi.map
      have HF := Lib.hid hfi
      have HAT := Lib.hid hat
      have Hpk := Lib.hid hpk
      clear hfi hat hpk hpk2 hc2
      go_wp2_with (at_mapUpdate; refine wpList_mapUpdate_own _ rfl _ _ _ 54 rfl 3 3 map_int_keyed Try.underlying54 _ w.heap.size k _ rfl hown (by unfold maxLen; omega) _ _ _ rfl rfl (keyOf_int_mk Try.underlying3 hwfp) _ [] (plainElem_int Try.underlying3 (a := ((k + 1 : Nat) : Int)) ?wfx) ?_)
      case wfx => exact wf_nat _ (by omega)
      intro w1 hown1 hgrow1
      have hfi1 := HF.out.picked hD HAT.out hown1 hgrow1
      have elast : (fun c : Nat => if p = (c : Int) then k + 1 else lastP ps k c) = lastP ps (k + 1) := by
        funext c
        simp only [lastP, Hpk.out]
      rw [elast] at hfi1
      obtain ⟨r, hrk⟩ : ∃ r, rows.getD k [] = r := ⟨_, rfl⟩
      obtain ⟨g1, off1, rfl, hg1, hc1⟩ := HR.out.2.2 (by omega)
      obtain ⟨rB, rl, rc, cr, hRr⟩ := hc1 k (by omega)
      rw [hrk] at hRr
      have hrl : r.length = rl := by simpa using hRr.1
      have hrl2 : rl ≤ 17592186043904 := by
        rw [← hrl, ← hrk]
        have hkn : k < rows.length := by omega
        simp [hkn]
        exact HL.out _ (by simp)
      have ck1 := (hfi1.below.cell (p := ⟨g1, off1 + k, .none⟩) hg1).trans cr
      have HRr := Lib.hid hRr
      have HF1 := Lib.hid hfi1
      have Hrk := Lib.hid hrk
      have Hrl := Lib.hid hrl
      clear HF HAT hD hown hown1 hgrow1 hfi1 elast hrk hc1 cr hRr hrl ck
      go_wp2_with fail
      go_loopw [8, 11, 12, 45] (fun v _ _ i wr2 => ∃ (q L2 : Nat), q ≤ rl ∧ i = .int .i64 q ∧ L2 ≤ 17592186043904 ∧ q ≤ L2 ∧ (L2 = L ∨ L2 = q) ∧ FI w wr2 (k + 1) (lastP ps (k + 1)) v L2 (midf (runs rows k) r q))
        (fun _ _ _ i _ => rl - (intOf i).toNat)
      case atStart => exact ⟨0, L, by omega, rfl, hL, by omega, .inl rfl, by rw [midf_zero]; exact HF1.out⟩
      case round =>
        obtain ⟨q, L2, hq, rfl, hL2, hqL, hL2c, hfi2⟩ := hrel
        by_cases hqr : q < rl
        · have hqb : q < r.length := by rw [Hrl.out]; exact hqr
          obtain ⟨b, hb⟩ : ∃ b, r[q] = b := ⟨_, rfl⟩
          have hbq : r.getD q false = b := by simp [hqb, hb]
          have hbv : (r.map Value.bool)[q]? = some (.bool b) := by rw [List.getElem?_map, List.getElem?_eq_getElem hqb, hb]; rfl
          obtain ⟨g3, off3, rfl, hg3, hc3⟩ := HRr.out.get q hqr hbv
          have cb := (hfi2.below.cell (p := ⟨g3, off3 + q, .none⟩) hg3).trans hc3
          have Hbq := Lib.hid hbq
          clear hb hbq hbv hc3
          by_cases hqL2 : L2 = q
          · have hq2 := hqL2.symm
            subst hq2
            have HF2 := Lib.hid hfi2
            obtain ⟨Av, cap, rfl, _⟩ := hfi2.form
            clear hfi2
            go_wp2_with (at_builtin; refine wpList_append_own _ rfl _ _ 39 rfl (w.heap.size + 1) 3 i0 (.int .i64 0) 1 8 Try.underlying39 hi hz0 hz1 hz2 rfl (by decide) _ q _ rfl (HF2.out.alloc _).row ⟨wr.heap.size, 0, .none⟩ 1 1 [.int .i64 0] rfl rfl ?ca1 ?ca2 ?ca3 ?ca4 ?ca5 ?_)
            case ca2 => rfl
            case ca3 => unfold maxLen; omega
            case ca4 => omega
            case ca5 => have := HF2.out.lt; simp; omega
            intro v' w2 hown' hgrow _
            have hfi3 := (HF2.out.alloc _).pushed hown' hgrow
            have cb2 : w2.cell? ⟨g3, off3 + q, .none⟩ = some (.bool b) := (hfi3.below.cell (p := ⟨g3, off3 + q, .none⟩) hg3).trans ((HF2.out.below.cell (p := ⟨g3, off3 + q, .none⟩) hg3).symm.trans cb)
            clear hown' hgrow HF2 cb
            obtain ⟨Av, cap, rfl, hform⟩ := hfi3.form
            obtain ⟨g, rfl, hgB, hcell, hfro, _⟩ := hform (by omega)
            have cq := hcell q (by omega)
            rw [midf_at] at cq
            have fq := hfro q
            obtain ⟨x, hx⟩ : ∃ x, runs rows k q = x := ⟨_, rfl⟩
            have hxk : x ≤ k := by rw [← hx]; exact runs_le rows q k
            rw [hx] at cq
            have HX := Lib.hid hx
            have HF3 := Lib.hid hfi3
            clear hform hcell hfro hx hfi3
            cases b with
            | true =>
              go_wp2_with fail
              go_roundw
              case rel =>
                refine ⟨q + 1, q + 1, by omega, by go_num, by omega, by omega, .inr rfl, ?_⟩
                have h := HF3.out.set q (x + 1) (by omega)
                rw [← HX.out, midf_true _ _ _ Hbq.out, HX.out] at h
                exact h
              case measure => simp [intOf]; omega
            | false =>
              go_wp2_with fail
              go_roundw
              case rel =>
                refine ⟨q + 1, q + 1, by omega, by go_num, by omega, by omega, .inr rfl, ?_⟩
                have h := (HF3.out.set q (x + 1) (by omega)).set q 0 (by omega)
                rw [upd_upd, midf_false _ _ _ Hbq.out] at h
                exact h
              case measure => simp [intOf]; omega
          · have hqL3 : q < L2 := by omega
            have hL2e : L2 = L := by omega
            obtain ⟨Av, cap, rfl, hform⟩ := hfi2.form
            obtain ⟨g, rfl, hgB, hcell, hfro, _⟩ := hform (by omega)
            have cq := hcell q (by omega)
            rw [midf_at] at cq
            have fq := hfro q
            obtain ⟨x, hx⟩ : ∃ x, runs rows k q = x := ⟨_, rfl⟩
            have hxk : x ≤ k := by rw [← hx]; exact runs_le rows q k
            rw [hx] at cq
            have HX := Lib.hid hx
            have HF3 := Lib.hid hfi2
            clear hform hcell hfro hx hfi2
            cases b with
            | true =>
              go_wp2_with fail
              go_roundw
              case rel =>
                refine ⟨q + 1, L2, by omega, by go_num, by omega, by omega, .inl hL2e, ?_⟩
                have h := HF3.out.set q (x + 1) (by omega)
                rw [← HX.out, midf_true _ _ _ Hbq.out, HX.out] at h
                exact h
              case measure => simp [intOf]; omega
            | false =>
              go_wp2_with fail
              go_roundw
              case rel =>
                refine ⟨q + 1, L2, by omega, by go_num, by omega, by omega, .inl hL2e, ?_⟩
                have h := (HF3.out.set q (x + 1) (by omega)).set q 0 (by omega)
                rw [upd_upd, midf_false _ _ _ Hbq.out] at h
                exact h
              case measure => simp [intOf]; omega
        · obtain rfl : q = rl := by omega
          obtain ⟨Av, cap, rfl, hform⟩ := hfi2.form
          have ck2 := (hfi2.below.cell (p := ⟨g1, off1 + k, .none⟩) hg1).trans ((HF1.out.below.cell (p := ⟨g1, off1 + k, .none⟩) hg1).symm.trans ck1)
          have HF2 := Lib.hid hfi2
          clear hform hfi2
          go_wp2_with fail
          go_loopw [13] (fun i wr3 => ∃ (t : Nat), q ≤ t ∧ t ≤ L2 ∧ i = .int .i64 t ∧ FI w wr3 (k + 1) (lastP ps (k + 1)) (.slice Av L2 cap) L2 (midf (runs rows k) r t))
            (fun i _ => L2 - (intOf i).toNat)
          case atStart => exact ⟨q, by omega, by omega, rfl, HF2.out⟩
          case round =>
            obtain ⟨t, htq, htL, rfl, hfi3⟩ := hrel
            by_cases hlt2 : t < L2
            · obtain ⟨Av2, cap2, e2, hform⟩ := hfi3.form
              injection e2 with e3 e4 e5
              subst e3 e5
              obtain ⟨g, rfl, hgB, hcell, hfro, _⟩ := hform (by omega)
              have cq := hcell t (by omega)
              have fq := hfro t
              obtain ⟨x, hx⟩ : ∃ x, midf (runs rows k) r t t = x := ⟨_, rfl⟩
              rw [hx] at cq
              have HF3 := Lib.hid hfi3
              have hbt : r.getD t false = false := getD_out r t (by rw [Hrl.out]; omega)
              have HBT := Lib.hid hbt
              clear hform hcell hfro hx hfi3 hbt
              go_wp2_with fail
              go_roundw
              case rel =>
                refine ⟨t + 1, by omega, by omega, by go_num, ?_⟩
                have h := HF3.out.set t 0 (by omega)
                rw [midf_false _ _ _ HBT.out] at h
                exact h
              case measure => simp [intOf]; omega
            · obtain rfl : t = L2 := by omega
              have hfull : midf (runs rows k) r t = runs rows (k + 1) := by
                rw [← Hrk.out]
                exact midf_full rows k t (by rw [Hrk.out, Hrl.out]; omega) (fun j hj => by rw [Hrk.out]; exact hfi3.zero j hj)
              rw [hfull] at hfi3
              obtain ⟨D2, hD2, hat2, hown2⟩ := hfi3.map
              obtain ⟨Av2, cap2, e2, hform⟩ := hfi3.form
              injection e2 with e3 e4 e5
              subst e3 e5
              have HF4 := Lib.hid hfi3
              have HAT := Lib.hid hat2
              have HFM := Lib.hid hform
              clear hfi3 hform hat2 hfull e4
              go_wp2_with fail
              go_loop [14, 15, 85] (fun _ _ i => ∃ q2 : Nat, q2 ≤ t ∧ i = .int .i64 q2 ∧ ∀ c, c < q2 → ¬ missed rows ps W k c) (fun _ _ i => t - (intOf i).toNat)
              case atStart => exact ⟨0, by omega, rfl, fun c h => absurd h (by omega)⟩
              case round =>
                obtain ⟨q2, hq2, rfl, hno⟩ := hrel
                have HNO := Lib.hid hno
                clear hno
                by_cases hq2t : q2 < t
                · obtain ⟨g, rfl, hgB, hcell, _, _⟩ := HFM.out (by omega)
                  have cq := hcell q2 hq2t
                  obtain ⟨x, hx⟩ : ∃ x, runs rows (k + 1) q2 = x := ⟨_, rfl⟩
                  obtain ⟨y, hy⟩ : ∃ y, lastP ps (k + 1) q2 = y := ⟨_, rfl⟩
                  have hxk : x ≤ k + 1 := by rw [← hx]; exact runs_le rows q2 (k + 1)
                  have hyk : y ≤ k + 1 := by rw [← hy]; exact lastP_le ps q2 (k + 1)
                  have hat3 := HAT.out q2
                  rw [hx] at cq
                  rw [hy] at hat3
                  have hmis : missed rows ps W k q2 ↔ W ≤ x ∧ y ≤ k + 1 - W := by unfold missed; rw [hx, hy]
                  have HM := Lib.hid hmis
                  have HA3 := Lib.hid hat3
                  clear hcell hx hy hmis hat3
                  by_cases h1 : W ≤ x
                  · obtain ⟨cv, hrun, hcv, _⟩ := hown2.lookup_int map_int_keyed Try.underlying54 Try.underlying3 (zero_int _) (keyOf_int_mk Try.underlying3 (wf_nat q2 (by omega)))
                    have hce : cv = (y : Int) := by
                      rw [HA3.out] at hcv
                      injection hcv with h; injection h with _ h; exact h.symm
                    subst hce
                    clear hcv
                    by_cases h2 : y ≤ k + 1 - W
                    · have hR0 : R = false := by
                        rw [Bool.eq_false_iff]
                        intro hR
                        exact HI2.out.1 hR k hlt q2 (HM.out.2 ⟨h1, h2⟩)
                      subst hR0
                      go_wp2_with fail
                      go_ret
                      exact ⟨rfl, HF4.out.below⟩
                    · go_wp2_with fail
                      go_round
                      case rel =>
                        refine ⟨q2 + 1, by omega, by go_num, fun c hc => ?_⟩
                        by_cases e : c = q2
                        · subst e
                          intro h; have := HM.out.1 h; omega
                        · exact HNO.out c (by omega)
                      case measure => simp [intOf]; omega
                  · go_wp2_with fail
                    go_round
                    case rel =>
                      refine ⟨q2 + 1, by omega, by go_num, fun c hc => ?_⟩
                      by_cases e : c = q2
                      · subst e
                        intro h; have := HM.out.1 h; omega
                      · exact HNO.out c (by omega)
                    case measure => simp [intOf]; omega
                · obtain rfl : q2 = t := by omega
                  have HZ := Lib.hid HF4.out.zero
                  have HL2 := Lib.hid hL2
                  clear hL2 hL2c hqL htq htL hlt2 hq2t hrl2 hL hown2
                  go_wp2_with fail
                  go_roundw
                  case rel =>
                    refine ⟨k + 1, q2, by omega, by go_num, HF4.out, HL2.out, fun i hi c => ?_⟩
                    by_cases e : i = k
                    · subst e
                      by_cases hc : c < q2
                      · exact HNO.out c (by omega)
                      · intro h
                        have h1 := h.1
                        rw [HZ.out c (by omega)] at h1
                        omega
                    · exact HOK.out i (by omega) c
                  case measure => simp only [intOf]; omega
    · obtain rfl : k = S := by omega
      have hR0 : R = true := HI2.out.2 HOK.out
      subst hR0
      go_wp2_with fail
      go_ret
      exact ⟨rfl, hfi.below⟩
end Go.Proofs.Ytihkjpfibogpdaa
