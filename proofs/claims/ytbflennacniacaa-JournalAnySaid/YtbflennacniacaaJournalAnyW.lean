/- The walk of the law JournalAny. -/
import Derived.Test.YtbflennacniacaaAwake21
import Derived.Test.YtbflennacniacaaReads
namespace Go.Proofs.Ytbflennacniacaa
open Go.RowKit
set_option linter.unusedVariables false
/-- What Open finds, put may go on from. -/
theorem open_weak {M : PM} {f : Nat → Nat} {start words : Nat} (hc : Clean M M.n f) (hmay : mayB M.n start words = true) (hn : M.n ≤ 1024) (hb : (openP M start words).2 = true) : Weak (openP M start words).1 M f := by
  obtain ⟨hfit, h8⟩ := may_fit hmay hn 0
  have hf := hc.words.2
  have hk := findS_keeps f (jd0 start words 0) 2
  unfold openP at hb ⊢
  rw [hf] at hb ⊢
  refine ⟨hc, hfit.of_eq hk, findS_area f _ (by show 0 ≤ 1; omega) 2 (by omega), by rw [hk.1]; exact h8, findS_turn f _ hc.small (by show 0 < 18446744073709551616; omega) 2, fun t s => ?_⟩
  have hbs : ∀ a, baseN (findS f (jd0 start words 0) 2).1 a = baseN (jd0 start words 0) a := fun a => by unfold baseN; rw [hk.1, hk.2]
  rw [hbs, hk.2]
  revert hb
  show (findN (lookP f (baseN (jd0 start words 0) 1) (halfN words)) (findN (lookP f (baseN (jd0 start words 0) 0) (halfN words)) (jd0 start words 0, false) 0) 1).2 = true →
    lookP f (baseN (jd0 start words 0) (findN (lookP f (baseN (jd0 start words 0) 1) (halfN words)) (findN (lookP f (baseN (jd0 start words 0) 0) (halfN words)) (jd0 start words 0, false) 0) 1).1.area) (halfN words) = some (t, s) →
    t = (findN (lookP f (baseN (jd0 start words 0) 1) (halfN words)) (findN (lookP f (baseN (jd0 start words 0) 0) (halfN words)) (jd0 start words 0, false) 0) 1).1.turn
  obtain ⟨g, hg⟩ : ∃ g : Nat → Option (Nat × List UInt8), (fun a => lookP f (baseN (jd0 start words 0) a) (halfN words)) = g := ⟨_, rfl⟩
  have hg' : ∀ a, lookP f (baseN (jd0 start words 0) a) (halfN words) = g a := fun a => by rw [← hg]
  rw [hg', hg', hg']
  cases h0 : g 0 with
  | none =>
    cases h1 : g 1 with
    | none =>
      intro e
      exact absurd e (by simp [findN])
    | some ts =>
      obtain ⟨t1, s1⟩ := ts
      intro _
      show g 1 = some (t, s) → t = t1
      rw [h1]
      intro e
      injection e with e
      injection e with e _
      exact e.symm
  | some ts =>
    obtain ⟨t0, s0⟩ := ts
    have e0 : findN (some (t0, s0)) (jd0 start words 0, false) 0 = ((jd0 start words 0).found 0 t0 s0, true) := rfl
    rw [e0]
    cases h1 : g 1 with
    | none =>
      intro _
      show g 0 = some (t, s) → t = t0
      rw [h0]
      intro e
      injection e with e
      injection e with e _
      exact e.symm
    | some ts =>
      obtain ⟨t1, s1⟩ := ts
      intro _
      unfold findN
      by_cases hnw : newer t1 t0 = true
      · have e2 : newer t1 ((jd0 start words 0).found 0 t0 s0).turn = true := hnw
        simp only [e2]
        show g 1 = some (t, s) → t = t1
        rw [h1]
        intro e
        injection e with e
        injection e with e _
        exact e.symm
      · have e2 : newer t1 ((jd0 start words 0).found 0 t0 s0).turn = false := by rw [Bool.eq_false_iff]; exact hnw
        simp only [e2]
        show g 0 = some (t, s) → t = t0
        rw [h0]
        intro e
        injection e with e
        injection e with e _
        exact e.symm
def u64s (zs : List Int) : List Nat := zs.map fun z => (IntKind.u64.wrap z).toNat
theorem u64s_at (zs : List Int) (i : Nat) (hi : i < zs.length) : IntKind.u64.wrap (zs.getD i 0) = (((u64s zs).getD i 0 : Nat) : Int) := by
  have h1 : (u64s zs).getD i 0 = (IntKind.u64.wrap (zs.getD i 0)).toNat := by
    unfold u64s
    rw [List.getD_eq_getElem?_getD, List.getElem?_map, List.getD_eq_getElem?_getD, List.getElem?_eq_getElem hi]
    rfl
  rw [h1]
  have := (Cv.wrap_u64_any (zs.getD i 0))
  obtain ⟨y, _, hy⟩ := this
  rw [hy]
  rfl
theorem u64s_lt (zs : List Int) (i : Nat) : (u64s zs).getD i 0 < 18446744073709551616 := by
  by_cases hi : i < zs.length
  · have h1 := u64s_at zs i hi
    obtain ⟨y, hy1, hy⟩ := Cv.wrap_u64_any (zs.getD i 0)
    rw [hy] at h1
    have : y = (u64s zs).getD i 0 := by exact_mod_cast h1
    omega
  · have : (u64s zs).getD i 0 = 0 := by
      rw [List.getD_eq_getElem?_getD, List.getElem?_eq_none (by unfold u64s; simp; omega)]
      rfl
    omega
def anyF (xs : List Nat) (m : Nat) : Nat → Nat := fun j => if j < m then xs.getD j 0 else 0
theorem any_clean (zs : List Int) (m : Nat) (hm : m ≤ 160) : Clean (flushL (stH (PM.fresh 20) 0 (u64s zs) m) 0 20).fence 20 (anyF (u64s zs) m) := by
  have h1 := (Clean.fresh 20).clm.stH 0 (u64s zs) m (by omega)
  have e1 : runS (fun _ => ((0 : Nat) : Int)) 0 m (fun i => (((u64s zs).getD i 0 : Nat) : Int)) = fun j => ((anyF (u64s zs) m j : Nat) : Int) := by
    funext j
    unfold runS anyF
    by_cases c : j < m
    · rw [if_pos ⟨by omega, by omega⟩, if_pos c, Nat.sub_zero]
    · rw [if_neg (by omega), if_neg c]
  rw [e1] at h1
  have h2 := h1.flushP 0 160 (by omega)
  have e2 : (fun j => if 0 ≤ j / 8 ∧ j / 8 < 0 + (160 + 7) / 8 then ((anyF (u64s zs) m j : Nat) : Int) else ((0 : Nat) : Int)) = fun j => ((anyF (u64s zs) m j : Nat) : Int) := by
    funext j
    by_cases c : 0 ≤ j / 8 ∧ j / 8 < 0 + (160 + 7) / 8
    · rw [if_pos c]
    · rw [if_neg c]
      unfold anyF
      rw [if_neg (by omega)]
  rw [e2] at h2
  exact ⟨h2, fun j => by
    unfold anyF
    split
    · exact u64s_lt zs j
    · omega⟩
def again : ByteArray := ⟨#[97, 103, 97, 105, 110]⟩
theorem Live.store {w0 w : World} {a : Nat} {M : PM} (h : Live w0 w a M) (p v : Int) (K : Nat) (ho : M.ok K) (hK : K ≤ 1099511627776) :
    Calls Try.prog 17 #[.pointer (some ⟨a, 0, .none⟩), .int .i64 p, .int .u64 v] w fun e w' => e = .returned (.int .i64 (placeV M.n p)) ∧ Live w0 w' a (M.store p v) := store_live h p v _ K rfl ho hK
set_option maxRecDepth 100000 in
set_option maxHeartbeats 8000000 in
theorem journalAny_walk (w : World) (A : Option Addr) (n c : Nat) (zs : List Int) (hr : Reads w A n (zs.map (Value.int .i64))) (hz : ∀ x ∈ zs, (Lit.int .i64 x).wf = true) (hm : n ≤ maxLen) (from_ : Int) (h1 : (Lit.int .i64 from_).wf = true) :
    Calls Try.prog 11 #[.slice A n c, .int .i64 from_] w fun e w' => e = .returned (.bool true) ∧ Below w.heap.size w w' := by
  obtain ⟨r, hr3, hfr⟩ := Cv.and_i64 from_ 3 (by omega)
  rw [show ((3 : Nat) : Int) = 3 from rfl] at hfr
  have hmay : mayB 20 ((8 * r : Nat) : Int) (96 : Nat) = true := by
    have : r = 0 ∨ r = 1 ∨ r = 2 ∨ r = 3 := by omega
    rcases this with e | e | e | e <;> subst e <;> decide +kernel
  unfold maxLen at hm
  have HR := Lib.hid hr
  have hlen : zs.length = n := by simpa using hr.1
  have HLEN := Lib.hid hlen
  have HMAY := Lib.hid hmay
  clear h1 hz hr hlen hmay
  go_enter Try.func11, Try.ntmps11
  go_wp2_with fail
  refine (awake21 _).mono ?_
  rintro e w1 ⟨rfl, hb1⟩
  go_wp2_with fail
  refine (new_live 20 w w1 hb1 (by omega) (by omega) 160 rfl).mono ?_
  rintro e w2 ⟨p, rfl, _, g1, _⟩
  have G1 : Hid (Live w w2 p (stH (PM.fresh 20) 0 (u64s zs) 0)) := Lib.hid g1
  clear g1 hb1
  obtain ⟨m, hmn⟩ : ∃ m, min n 160 = m := ⟨_, rfl⟩
  have hmle : m ≤ n ∧ m ≤ 160 ∧ (m < n → m = 160) := by omega
  clear hmn
  go_wp2_with fail
  go_loopw [7] (fun i wr => ∃ j : Nat, j ≤ m ∧ i = .int .i64 j ∧ Live w wr p (stH (PM.fresh 20) 0 (u64s zs) j)) (fun i _ => m - (intOf i).toNat)
  case atStart => exact ⟨0, by omega, rfl, G1.out⟩
  case round =>
    obtain ⟨j, hj, rfl, hl⟩ := hrel
    have HL := Lib.hid hl
    have HOK := Lib.hid (stH_ok (PM.ok.fresh 20) 0 (u64s zs) j)
    clear hl
    by_cases hlt : j < m
    · obtain ⟨g, off, rfl, _, hc⟩ := (HR.out.below HL.out.bel).2 (by omega)
      have hjl : j < zs.length := by rw [HLEN.out]; omega
      have hc1 := hc j (by omega)
      rw [List.getElem?_map, List.getElem?_eq_getElem hjl, Option.map_some] at hc1
      have hxe := u64s_at zs j hjl
      have hgd : zs.getD j 0 = zs[j] := by rw [List.getD_eq_getElem?_getD, List.getElem?_eq_getElem hjl]; rfl
      rw [hgd] at hxe
      obtain ⟨x, hx⟩ : ∃ x, zs[j] = x := ⟨_, rfl⟩
      rw [hx] at hc1 hxe
      have q1 : decide (j < n) = true := by simp; omega
      have q2 : decide ((j : Int) < 160) = true := by simp; omega
      have hnx : stH (PM.fresh 20) 0 (u64s zs) (j + 1) = (stH (PM.fresh 20) 0 (u64s zs) j).store (j : Int) (IntKind.u64.wrap x) := by
        show (stH (PM.fresh 20) 0 (u64s zs) j).store ((0 + j : Nat) : Int) _ = _
        rw [Nat.zero_add, ← hxe]
      have HNX := Lib.hid hnx
      clear hx hnx hc hxe hgd
      go_wp2_with fail
      refine (Live.store HL.out (j : Int) _ _ HOK.out (by omega)).mono ?_
      rintro e w3 ⟨rfl, g3⟩
      have G3 : Hid (Live w w3 p (stH (PM.fresh 20) 0 (u64s zs) (j + 1))) := Lib.hid (by rw [HNX.out]; exact g3)
      clear g3
      go_wp2_with fail
      exact ⟨⟨j + 1, by omega, by go_num, G3.out⟩, by simp [intOf]; omega⟩
    · obtain rfl : j = m := by omega
      have hstop : decide (j < n) = false ∨ (decide (j < n) = true ∧ decide ((j : Int) < 160) = false) := by
        simp only [decide_eq_true_eq, decide_eq_false_iff_not]
        omega
      clear hlt
      obtain ⟨M1, hM1⟩ : ∃ M1, stH (PM.fresh 20) 0 (u64s zs) j = M1 := ⟨_, rfl⟩
      have hcl := any_clean zs j (by omega)
      rw [hM1] at HOK hcl
      have G2 : Hid (Live w wr p (flushL M1 0 0)) := Lib.hid (by rw [← hM1]; exact HL.out)
      have HCL := Lib.hid hcl
      clear HL hM1 hcl
      rcases hstop with q1 | ⟨q1, q2⟩
      all_goals
        go_wp2_with fail
        go_loopw [8] (fun i wr => ∃ b : Nat, b ≤ 20 ∧ i = .int .i64 b ∧ Live w wr p (flushL M1 0 b)) (fun i _ => 20 - (intOf i).toNat)
        case atStart => exact ⟨0, by omega, rfl, G2.out⟩
        case round =>
          obtain ⟨b, hb, rfl, hl⟩ := hrel
          have HL := Lib.hid hl
          have HO2 := Lib.hid (flushL_ok HOK.out 0 b)
          clear hl
          by_cases hlt : b < 20
          · have q3 : decide ((b : Int) < 20) = true := by simp; omega
            go_wp2_with fail
            refine (flush_live HL.out (b : Int) _ _ rfl HO2.out (by omega)).mono ?_
            rintro e w3 ⟨rfl, g3⟩
            have G3 : Hid (Live w w3 p (flushL M1 0 (b + 1))) := Lib.hid (by
              show Live w w3 p ((flushL M1 0 b).flush ((0 + b : Nat) : Int))
              rw [Nat.zero_add]
              exact g3)
            clear g3
            go_wp2_with fail
            exact ⟨⟨b + 1, by omega, by go_num, G3.out⟩, by simp [intOf]; omega⟩
          · obtain rfl : b = 20 := by omega
            clear hlt
            go_wp2_with fail
            refine (fence_live HL.out _ HO2.out (by omega)).mono ?_
            rintro e w3 ⟨rfl, g3⟩
            have hok3 := HO2.out.fence
            obtain ⟨M3, hM3⟩ : ∃ M3, (flushL M1 0 20).fence = M3 := ⟨_, rfl⟩
            have hc3 := HCL.out
            rw [hM3] at g3 hok3 hc3
            have G3 := Lib.hid g3
            have HC3 := Lib.hid hc3
            have HO3 := Lib.hid (hok3.mono (show _ ≤ 1000 by omega))
            have hn3 : M3.n = 20 := hc3.clm.n
            have HN3 := Lib.hid hn3
            clear g3 hok3 hc3 hM3 hn3 HO2 HCL HL G2
            go_wp2_with fail
            refine (stores_live G3.out _ rfl).mono ?_
            rintro e w4 ⟨rfl, rfl⟩
            go_wp2_with fail
            have hst8 : (8 * (r : Int)) = ((8 * r : Nat) : Int) := by omega
            have HST8 := Lib.hid hst8
            clear hst8
            have HMAY3 : Hid (mayB M3.n ((8 * r : Nat) : Int) (96 : Nat) = true) := Lib.hid (by rw [HN3.out]; exact HMAY.out)
            obtain ⟨b0, hb0⟩ : ∃ b0, (openP M3 (8 * r) 96).2 = b0 := ⟨_, rfl⟩
            have HB0 := Lib.hid hb0
            clear hb0
            have HC3' : Hid (Clean M3 M3.n (anyF (u64s zs) j)) := Lib.hid (by rw [HN3.out]; exact HC3.out)
            cases b0 with
            | false =>
              refine (open_j w w3 w3 _ p M3 (8 * r) 96 _ _ HST8.out rfl G3.out.held HMAY3.out (by rw [HN3.out]; omega) HC3.out.words.1 false HB0.out).mono ?_
              rintro e w5 ⟨y, rfl, _, h5⟩
              have H5 := Lib.hid h5.held.live
              clear h5
              go_wp2_with (go_at_call 22; refine (num21 _ _).mono ?_; rintro e w' ⟨rfl, rfl⟩)
              refine (stores_live H5.out _ rfl).mono ?_
              rintro e w6 ⟨rfl, rfl⟩
              go_wp2_with fail
              go_ret
              exact ⟨rfl, H5.out.bel⟩
            | true =>
              have hwk := open_weak HC3'.out HMAY3.out (by rw [HN3.out]; omega) HB0.out
              have hkp : (openP M3 (8 * r) 96).1.start = 8 * r ∧ (openP M3 (8 * r) 96).1.words = 96 := findS_keeps (seenN M3) (jd0 (8 * r) 96 0) 2
              obtain ⟨J1, hJ1⟩ : ∃ J1, (openP M3 (8 * r) 96).1 = J1 := ⟨_, rfl⟩
              rw [hJ1] at hwk hkp
              have hpg := put_good hwk again (by rw [hkp.2]; decide)
              have hgc := hpg.1.crash 0
              have hop := open_good hgc
              have hk2 : (J1.put again).start = 8 * r ∧ (J1.put again).words = 96 := hkp
              rw [hk2.1, hk2.2] at hop
              have HJ1 := Lib.hid hJ1
              have HWK := Lib.hid hwk
              have HKP := Lib.hid hkp
              have HPG := Lib.hid hpg
              have HGC := Lib.hid hgc
              have HOP := Lib.hid hop
              clear hJ1 hwk hkp hpg hgc hop hk2
              refine (open_j w w3 w3 _ p M3 (8 * r) 96 _ _ HST8.out rfl G3.out.held HMAY3.out (by rw [HN3.out]; omega) HC3.out.words.1 true HB0.out).mono ?_
              rw [HJ1.out]
              rintro e w5 ⟨y, rfl, _, h5⟩
              have H5 := Lib.hid h5
              clear h5
              go_wp2_with (go_at_call 22; refine (num21 _ _).mono ?_; rintro e w' ⟨rfl, rfl⟩)
              refine (write_j w w3 w5 _ y p J1 M3 again H5.out HWK.out.fit HWK.out.area HWK.out.start8 (by rw [HKP.out.2]; decide) 1000 HO3.out (by omega)).mono ?_
              rintro e w6 ⟨rfl, h6⟩
              have H6 := Lib.hid h6.held
              clear h6
              go_wp2_with fail
              refine (crash_h H6.out 0).mono ?_
              rintro e w7 ⟨rfl, h7⟩
              have H7 := Lib.hid h7
              clear h7
              have hn7 : ((writeM J1 M3 again).crash 0).n = 20 := by rw [PM.crash_n, HPG.out.2]; exact HN3.out
              have HN7 := Lib.hid hn7
              clear hn7
              go_wp2_with fail
              refine (open_j w w6 w7 _ p ((writeM J1 M3 again).crash 0) (8 * r) 96 _ _ HST8.out rfl H7.out (by rw [HN7.out]; exact HMAY.out) (by rw [HN7.out]; omega) HGC.out.clean.words.1 true (by rw [HOP.out])).mono ?_
              rw [HOP.out]
              rintro e w8 ⟨z, rfl, _, h8⟩
              have H8 := Lib.hid h8
              clear h8
              go_wp2_with (go_at_call 22; refine (num21 _ _).mono ?_; rintro e w' ⟨rfl, rfl⟩)
              refine (read_j w8 z p (J1.put again) ⟨#[97, 103, 97, 105, 110]⟩ rfl H8.out.blk).mono ?_
              rintro e w9 ⟨rfl, rfl⟩
              go_wp2_with fail
              go_ret
              exact ⟨rfl, H8.out.bel⟩
end Go.Proofs.Ytbflennacniacaa
