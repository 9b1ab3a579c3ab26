/- The walk of the law JournalKeeps. -/
import Derived.Test.YtbflennacniacaaZeros
import Derived.Test.YtbflennacniacaaDecimal
import Derived.Test.YtbflennacniacaaPmCopy
namespace Go.Proofs.Ytbflennacniacaa
open Go.RowKit
set_option linter.unusedVariables false
theorem copy_h {w0 wz w : World} {Z : Nat → Prop} {a : Nat} {M : PM} (h : Held w0 wz w Z a M) :
    Calls Try.prog 28 #[.pointer (some ⟨a, 0, .none⟩)] w fun e w' => ∃ c : Nat, e = .returned (.pointer (some ⟨c, 0, .none⟩)) ∧ Live w w' c M := by
  obtain ⟨⟨F, rfl, h2, h3⟩, h4, h7⟩ := h
  exact (copy_any F M w h2).mono fun e w' ⟨F', he, hm, hb, hk⟩ => ⟨F'.a, he, F', rfl, hm, hb, hk⟩
theorem zeros_65 (w : World) : ∃ w', (Instr.makeSlice 59 (.int .i64 65) (.int .i64 65)).run Try.prog w = .ok (.slice (some ⟨w.heap.size, 0, .none⟩) 65 65) w' ∧ Below w.heap.size w w' ∧
    (convert 59 9 (.slice (some ⟨w.heap.size, 0, .none⟩) 65 65)).run Try.prog w' = .ok (.string (zeros 65)) w' := zeros_make 65 (by omega) w
def KeepInv (w wz wr : World) (j a : Nat) (K : Nat) : Prop := ∃ (J : JD) (M : PM) (f : Nat → Nat), Jour w wz wr (fun _ => False) j a J M ∧ Good J M f ∧ (J.start = 0 ∧ J.words = 64) ∧ M.n = 8 ∧ M.ok K
set_option maxRecDepth 100000 in
set_option maxHeartbeats 8000000 in
theorem journalKeeps_walk (s : ByteArray) (hs : s.size ≤ maxLen) (many : Int) (h1 : (Lit.int .i64 many).wf = true) (w : World) :
    Calls Try.prog 12 #[.string s, .int .i64 many] w fun e w' => e = .returned (.bool true) ∧ Below w.heap.size w w' := by
  unfold maxLen at hs
  obtain ⟨k, hk, hkm⟩ := Cv.and_i64 many 31 (by omega)
  rw [show ((31 : Nat) : Int) = 31 from rfl] at hkm
  have hmay : mayB 8 (0 : Nat) (64 : Nat) = true := by decide +kernel
  have hg := new_good (M := PM.fresh 8) (Clean.fresh 8) (start := 0) (words := 64) hmay (by show 8 ≤ 1024; omega)
  have hkp := newJ_keeps (PM.fresh 8) 0 64
  have hok := newM_ok (PM.ok.fresh 8) 0 64
  have HG := Lib.hid hg
  have HKP := Lib.hid hkp
  have HOK := Lib.hid hok
  have HMAY := Lib.hid hmay
  obtain ⟨U, hU, hUs⟩ : ∃ U : ByteArray, U.size ≤ 60 ∧ ((60 < s.size ∧ U = s.extract 0 60) ∨ (s.size ≤ 60 ∧ U = s)) := by
    by_cases h : 60 < s.size
    · exact ⟨s.extract 0 60, by rw [ByteArray.size_extract]; omega, .inl ⟨h, rfl⟩⟩
    · exact ⟨s, by omega, .inr ⟨by omega, rfl⟩⟩
  clear h1 hmay hg hkp hok
  have hcase : (decide ((60 : Int) < (s.size : Int)) = true ∧ 60 < s.size ∧ s.extract 0 60 = U) ∨ (decide ((60 : Int) < (s.size : Int)) = false ∧ s.size ≤ 60 ∧ U = s) := by
    rcases hUs with ⟨h, e⟩ | ⟨h, e⟩
    · exact .inl ⟨by simp; omega, h, e.symm⟩
    · exact .inr ⟨by simp; omega, h, e⟩
  clear hUs
  rcases hcase with ⟨q0, hbg, hcut⟩ | ⟨q0, hbg, rfl⟩
  all_goals
    go_enter Try.func12, Try.ntmps12
    go_wp2_with fail
    refine (awake21 _).mono ?_
    rintro e w1 ⟨rfl, hb1⟩
    go_wp2_with fail
    refine (new_live 8 w w1 hb1 (by omega) (by omega) 64 rfl).mono ?_
    rintro e w2 ⟨a, rfl, _, g1, _⟩
    have H1 := Lib.hid g1.held
    clear g1 hb1
    go_wp2_with fail
    refine (new_j w w2 w2 _ a (PM.fresh 8) 0 64 _ _ rfl rfl H1.out HMAY.out (by show 8 ≤ 1024; omega) (Clean.fresh 8).words.1 0 (PM.ok.fresh 8) (by omega)).mono ?_
    rintro e w3 ⟨j, rfl, _, h3⟩
    have hinv : KeepInv w w2 w3 j a (20000 + 20000 * 0) := ⟨_, _, _, h3, HG.out.1, HKP.out, HG.out.2, HOK.out⟩
    have HI := Lib.hid hinv
    clear h3 hinv
    go_wp2_with fail
    go_loopw [10] (fun i wr => ∃ n : Nat, n ≤ 1 + k ∧ i = .int .i64 n ∧ KeepInv w w2 wr j a (20000 + 20000 * n)) (fun i _ => 1 + k - (intOf i).toNat)
    case atStart => exact ⟨0, by omega, rfl, HI.out⟩
    case round =>
      obtain ⟨n, hn, rfl, hinv⟩ := hrel
      obtain ⟨J, M, f, hj, hgd, hsw, hMn, hMok⟩ := hinv
      have HJ := Lib.hid hj
      have HGD := Lib.hid hgd
      have HSW := Lib.hid hsw
      have HMN := Lib.hid hMn
      have HMOK := Lib.hid hMok
      clear hj hgd hsw hMn hMok
      by_cases hlt : n < 1 + k
      · have q1 : decide ((n : Int) < 1 + (k : Int)) = true := by simp; omega
        obtain ⟨V, hV⟩ : ∃ V, U ++ decB n = V := ⟨_, rfl⟩
        have hds := decB_size n
        have hVs : V.size ≤ 62 := by rw [← hV, ByteArray.size_append]; have := decB_size n; omega
        have hpg := put_good HGD.out.weak V (by rw [HSW.out.2]; omega)
        have hgc := hpg.1.crash (-1)
        have hop := open_good hgc
        have hsw2 : (J.put V).start = 0 ∧ (J.put V).words = 64 := HSW.out
        rw [hsw2.1, hsw2.2] at hop
        have HPG := Lib.hid hpg
        have HGC := Lib.hid hgc
        have HOP := Lib.hid hop
        have HV := Lib.hid hV
        clear hpg hgc hop hsw2 hV
        go_wp2_with fail
        refine (decimal_any n (by omega) _).mono ?_
        rintro e w4 ⟨rfl, hb4⟩
        have HJ4 := Lib.hid (HJ.out.below hb4)
        clear hb4
        go_wp2_with fail
        rw [HV.out]
        refine (write_j w w2 w4 _ j a J M V HJ4.out HGD.out.fit HGD.out.area HGD.out.start8 (by rw [HSW.out.2]; omega) _ HMOK.out (by omega)).mono ?_
        rintro e w5 ⟨rfl, h5⟩
        obtain ⟨w6, hmk, hb6, hcv⟩ := zeros_65 w5
        have HJ6 := Lib.hid (h5.below hb6)
        clear h5 hb6
        go_wp2_with fail
        refine (write_big w w2 w6 _ j a (J.put V) (writeM J M V) (zeros 65) HJ6.out HPG.out.1.fit.words (by rw [zeros_size]; show 2 * J.words - 64 < 65; rw [HSW.out.2]; omega) (by rw [zeros_size]; unfold maxLen; omega)).mono ?_
        rintro e w7 ⟨rfl, rfl⟩
        go_wp2_with fail
        refine (copy_h HJ6.out.held).mono ?_
        rintro e w8 ⟨c, rfl, h8⟩
        have H8 := Lib.hid h8.held
        clear h8
        go_wp2_with fail
        refine (crash_h H8.out (-1)).mono ?_
        rintro e w9 ⟨rfl, h9⟩
        have H9 := Lib.hid h9
        clear h9
        have hnc : ((writeM J M V).crash (-1)).n = 8 := by rw [PM.crash_n, HPG.out.2]; exact HMN.out
        have HNC := Lib.hid hnc
        clear hnc
        go_wp2_with fail
        refine (open_j w6 w8 w9 _ c ((writeM J M V).crash (-1)) 0 64 _ _ rfl rfl H9.out (by rw [HNC.out]; exact HMAY.out) (by rw [HNC.out]; omega) HGC.out.clean.words.1 true (by rw [HOP.out])).mono ?_
        rw [HOP.out]
        rintro e wa ⟨kk, rfl, _, ha⟩
        have HA := Lib.hid ha
        have HJA := Lib.hid (HJ6.out.below ha.bel)
        clear ha
        go_wp2_with (go_at_call 22; refine (num21 _ _).mono ?_; rintro e w' ⟨rfl, rfl⟩)
        refine (read_j wa kk c (J.put V) V rfl HA.out.blk).mono ?_
        rintro e wb ⟨rfl, rfl⟩
        go_wp2_with fail
        refine (decimal_any n (by omega) _).mono ?_
        rintro e wc ⟨rfl, hbc⟩
        have HAC := Lib.hid (HA.out.below hbc)
        have HJC := Lib.hid (HJA.out.below hbc)
        have hVo := HV.out
        clear hbc
        go_wp2_with fail
        refine (read_j wc j a (J.put V) V rfl HJC.out.blk).mono ?_
        rintro e wd ⟨rfl, rfl⟩
        go_wp2_with fail
        refine (read_j wc kk c (J.put V) V rfl HAC.out.blk).mono ?_
        rintro e wd ⟨rfl, rfl⟩
        clear hVo
        have hinv2 : KeepInv w w2 wc j a (20000 + 20000 * (n + 1)) := ⟨J.put V, writeM J M V, _, HJC.out, HPG.out.1, HSW.out, HPG.out.2.trans HMN.out, by rw [show 20000 + 20000 * (n + 1) = 20000 + 20000 * n + 20000 from by omega]; exact writeM_ok HMOK.out J V (by omega)⟩
        have HI2 := Lib.hid hinv2
        clear hinv2
        go_wp2_with fail
        exact ⟨⟨n + 1, by omega, by go_num, HI2.out⟩, by simp [intOf]; omega⟩
      · obtain rfl : n = 1 + k := by omega
        have q1 : decide (((1 + k : Nat) : Int) < 1 + (k : Int)) = false := by simp
        clear hlt
        go_wp2_with (go_at_call 22; refine (num21 _ _).mono ?_; rintro e w' ⟨rfl, rfl⟩)
        go_ret
        exact ⟨rfl, HJ.out.bel⟩
end Go.Proofs.Ytbflennacniacaa
