/- The walk of the law JournalSizes. -/
import Derived.Test.YtbflennacniacaaZeros
namespace Go.Proofs.Ytbflennacniacaa
open Go.RowKit
set_option linter.unusedVariables false
theorem mod300 (x : Int) : -300 < x.tmod 300 ∧ x.tmod 300 < 300 := by
  have := Int.tmod_lt_of_pos x (b := 300) (by omega)
  have := Int.lt_tmod_of_pos x (b := 300) (by omega)
  omega
theorem mayB_iff (n : Nat) (start words : Int) : mayB n start words = true ↔ 0 ≤ start ∧ start.tmod 8 = 0 ∧ 64 ≤ words ∧ words ≤ (n * 8 : Nat) ∧ start ≤ (n * 8 : Nat) - words := by
  unfold mayB
  simp only [Bool.and_eq_true, decide_eq_true_eq]
set_option maxRecDepth 100000 in
set_option maxHeartbeats 4000000 in
theorem journalSizes_walk (from_ : Int) (h0 : (Lit.int .i64 from_).wf = true) (words : Int) (h1 : (Lit.int .i64 words).wf = true) (many : Int) (h2 : (Lit.int .i64 many).wf = true) (w : World) :
    Calls Try.prog 9 #[.int .i64 from_, .int .i64 words, .int .i64 many] w fun e w' => e = .returned (.bool true) ∧ Below w.heap.size w w' := by
  obtain ⟨k, hk, hkm⟩ := Cv.and_i64 many 1023 (by omega)
  rw [show ((1023 : Nat) : Int) = 1023 from rfl] at hkm
  obtain ⟨f, hf⟩ : ∃ f, from_.tmod 300 = f := ⟨_, rfl⟩
  obtain ⟨v, hv⟩ : ∃ v, words.tmod 300 = v := ⟨_, rfl⟩
  have hfb := mod300 from_
  have hvb := mod300 words
  rw [hf] at hfb
  rw [hv] at hvb
  clear h0 h1 h2
  cases hmay : mayB 32 f v with
  | false =>
    have hno : ¬ (0 ≤ f ∧ f.tmod 8 = 0 ∧ 64 ≤ v ∧ v ≤ 256 ∧ f ≤ 256 - v) := by
      intro hh
      have := (mayB_iff 32 f v).2 hh
      rw [hmay] at this
      cases this
    obtain ⟨r, hr⟩ : ∃ r, f.tmod 8 = r := ⟨_, rfl⟩
    rw [hr] at hno
    have HMAY := Lib.hid hmay
    clear hmay
    have hcase : decide (f < 0) = true ∨ (decide (f < 0) = false ∧ (r != 0) = true) ∨ (decide (f < 0) = false ∧ (r != 0) = false ∧ decide (v < 64) = true) ∨ (decide (f < 0) = false ∧ (r != 0) = false ∧ decide (v < 64) = false ∧ decide (256 < f) = true) ∨ (decide (f < 0) = false ∧ (r != 0) = false ∧ decide (v < 64) = false ∧ decide (256 < f) = false ∧ decide (256 - f < v) = true) := by
      simp only [decide_eq_true_eq, decide_eq_false_iff_not, bne_iff_ne, bne_eq_false_iff_eq]
      omega
    clear hno
    rcases hcase with q1 | ⟨q1, q2⟩ | ⟨q1, q2, q3⟩ | ⟨q1, q2, q3, q4⟩ | ⟨q1, q2, q3, q4, q5⟩
    all_goals
      go_enter Try.func9, Try.ntmps9
      go_wp2_with fail
      refine (awake21 _).mono ?_
      rintro e w1 ⟨rfl, hb1⟩
      go_wp2_with fail
      refine (new_live 32 w w1 hb1 (by omega) (by omega) 256 rfl).mono ?_
      rintro e w2 ⟨a, rfl, _, g1, _⟩
      have H1 := Lib.hid g1.held
      clear g1 hb1
      go_wp2_with fail
      refine (new_not w w2 w2 _ a _ f v H1.out HMAY.out (by omega)).mono ?_
      rintro e w3 ⟨rfl, rfl⟩
      go_wp2_with (go_at_call 22; refine (num21 _ _).mono ?_; rintro e w' ⟨rfl, rfl⟩)
      go_ret
      exact ⟨rfl, H1.out.bel⟩
  | true =>
    obtain ⟨t1, t2, t3, t4, t5⟩ := (mayB_iff 32 f v).1 hmay
    obtain ⟨S, hS⟩ : ∃ S : Nat, f = (S : Int) := ⟨f.toNat, by omega⟩
    obtain ⟨W, hW⟩ : ∃ W : Nat, v = (W : Int) := ⟨v.toNat, by omega⟩
    subst hS hW
    have t4' : W ≤ 256 := by omega
    have t5' : S + W ≤ 256 := by omega
    have p1 : decide ((S : Int) < 0) = false := by simp
    have p2 : ((0 : Int) != 0) = false := rfl
    have p3 : decide ((W : Int) < 64) = false := by simp; omega
    have p4 : decide (256 < (S : Int)) = false := by simp; omega
    have p5 : decide (256 - (S : Int) < (W : Int)) = false := by simp; omega
    have hg := new_good (M := PM.fresh 32) (Clean.fresh 32) hmay (by show 32 ≤ 1024; omega)
    have hkp := newJ_keeps (PM.fresh 32) S W
    obtain ⟨J1, hJ1⟩ : ∃ J1, (newJ (PM.fresh 32) S W).put ByteArray.empty = J1 := ⟨_, rfl⟩
    obtain ⟨M1, hM1⟩ : ∃ M1, newM (PM.fresh 32) S W = M1 := ⟨_, rfl⟩
    have hok : M1.ok 20000 := by rw [← hM1]; exact newM_ok (PM.ok.fresh 32) S W
    rw [hJ1, hM1] at hg
    rw [hJ1] at hkp
    have HG := Lib.hid hg.1
    have HKP := Lib.hid hkp
    have HOK := Lib.hid hok
    have HJ1 := Lib.hid hJ1
    have HM1 := Lib.hid hM1
    have HMAY := Lib.hid hmay
    clear hmay hg hkp hok hJ1 hM1 t4 t5 t1
    by_cases hbig : k ≤ 2 * W - 64
    · have p6 : decide ((k : Int) ≤ 2 * (W : Int) - 64) = true := by simp; omega
      go_enter Try.func9, Try.ntmps9
      go_wp2_with fail
      refine (awake21 _).mono ?_
      rintro e w1 ⟨rfl, hb1⟩
      go_wp2_with fail
      refine (new_live 32 w w1 hb1 (by omega) (by omega) 256 rfl).mono ?_
      rintro e w2 ⟨a, rfl, _, g1, _⟩
      have H1 := Lib.hid g1.held
      clear g1 hb1
      go_wp2_with fail
      refine (new_j w w2 w2 _ a (PM.fresh 32) S W _ _ rfl rfl H1.out HMAY.out (by show 32 ≤ 1024; omega) (Clean.fresh 32).words.1 0 (PM.ok.fresh 32) (by omega)).mono ?_
      rw [HJ1.out, HM1.out]
      rintro e w3 ⟨j, rfl, _, h3⟩
      have H3 := Lib.hid h3
      obtain ⟨w4, hmk, hb4, hcv⟩ := zeros_make k (by omega) w3
      have H4 := Lib.hid (h3.below hb4)
      clear h3 hb4
      go_wp2_with fail
      refine (write_j w w2 w4 _ j a J1 M1 (zeros k) H4.out HG.out.fit HG.out.area HG.out.start8 (by rw [HKP.out.2, zeros_size]; exact hbig) 20000 HOK.out (by omega)).mono ?_
      rintro e w5 ⟨rfl, h5⟩
      have H5 := Lib.hid h5
      clear h5
      go_wp2_with (go_at_call 22; refine (num21 _ _).mono ?_; rintro e w' ⟨rfl, rfl⟩)
      go_ret
      exact ⟨rfl, H5.out.bel⟩
    · have p6 : decide ((k : Int) ≤ 2 * (W : Int) - 64) = false := by simp; omega
      go_enter Try.func9, Try.ntmps9
      go_wp2_with fail
      refine (awake21 _).mono ?_
      rintro e w1 ⟨rfl, hb1⟩
      go_wp2_with fail
      refine (new_live 32 w w1 hb1 (by omega) (by omega) 256 rfl).mono ?_
      rintro e w2 ⟨a, rfl, _, g1, _⟩
      have H1 := Lib.hid g1.held
      clear g1 hb1
      go_wp2_with fail
      refine (new_j w w2 w2 _ a (PM.fresh 32) S W _ _ rfl rfl H1.out HMAY.out (by show 32 ≤ 1024; omega) (Clean.fresh 32).words.1 0 (PM.ok.fresh 32) (by omega)).mono ?_
      rw [HJ1.out, HM1.out]
      rintro e w3 ⟨j, rfl, _, h3⟩
      obtain ⟨w4, hmk, hb4, hcv⟩ := zeros_make k (by omega) w3
      have H4 := Lib.hid (h3.below hb4)
      clear h3 hb4
      go_wp2_with fail
      refine (write_big w w2 w4 _ j a J1 M1 (zeros k) H4.out HG.out.fit.words (by rw [HKP.out.2, zeros_size]; omega) (by rw [zeros_size]; unfold maxLen; omega)).mono ?_
      rintro e w5 ⟨rfl, rfl⟩
      go_wp2_with (go_at_call 22; refine (num21 _ _).mono ?_; rintro e w' ⟨rfl, rfl⟩)
      go_ret
      exact ⟨rfl, H4.out.bel⟩
end Go.Proofs.Ytbflennacniacaa
