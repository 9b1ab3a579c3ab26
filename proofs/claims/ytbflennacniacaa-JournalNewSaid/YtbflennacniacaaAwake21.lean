/- What the laws of chapter 21 ask of every program: awake. -/
import Derived.Test.YtbflennacniacaaJoGood
namespace Go.Proofs.Ytbflennacniacaa
open Go.RowKit
set_option linter.unusedVariables false
theorem newM_ok {M : PM} {K : Nat} (h : M.ok K) (start words : Nat) : (newM M start words).ok (K + 20000) := putM_ok h _ _ [] (by simp)
theorem writeM_ok {M : PM} {K : Nat} (h : M.ok K) (J : JD) (s : ByteArray) (hs : s.size ≤ 65536) : (writeM J M s).ok (K + 20000) := putM_ok h _ _ _ (by simpa using hs)
theorem newJ_keeps (M : PM) (start words : Nat) : ((newJ M start words).put ByteArray.empty).start = start ∧ ((newJ M start words).put ByteArray.empty).words = words := findS_keeps (seenN M) (jd0 start words 1) 2
/-- Nothing lies in a memory that was made just now. -/
theorem open_fresh (n start words : Nat) : (openP (PM.fresh n) start words).2 = false := by
  unfold openP
  rw [(Clean.fresh n).words.2]
  show (findN (lookP (fun _ => 0) (baseN (jd0 start words 0) 1) (halfN words)) (findN (lookP (fun _ => 0) (baseN (jd0 start words 0) 0) (halfN words)) (jd0 start words 0, false) 0) 1).2 = false
  rw [look_zero _ _ _ rfl, look_zero _ _ _ rfl]
  rfl
theorem num21 (n : Int) (w : World) : Calls Try.prog 22 #[.int .i64 n] w fun e w' => e = .returned (.int .i64 n) ∧ w = w' := num1_any n w
def hello : ByteArray := ⟨#[104, 101, 108, 108, 111]⟩
set_option maxRecDepth 100000 in
set_option maxHeartbeats 4000000 in
theorem awake21 (w : World) : Calls Try.prog 32 #[] w fun e w' => e = .returned (.bool true) ∧ Below w.heap.size w w' := by
  have hmay : mayB 32 (8 : Nat) (200 : Nat) = true := by decide +kernel
  have hmay4 : mayB 32 4 200 = false := by decide +kernel
  have hg1 := new_good (M := PM.fresh 32) (Clean.fresh 32) (start := 8) (words := 200) hmay (by show 32 ≤ 1024; omega)
  have hk1 := newJ_keeps (PM.fresh 32) 8 200
  obtain ⟨J1, hJ1⟩ : ∃ J1, (newJ (PM.fresh 32) 8 200).put ByteArray.empty = J1 := ⟨_, rfl⟩
  obtain ⟨M1, hM1⟩ : ∃ M1, newM (PM.fresh 32) 8 200 = M1 := ⟨_, rfl⟩
  have hok1 : M1.ok 20000 := by rw [← hM1]; exact newM_ok (PM.ok.fresh 32) 8 200
  rw [hJ1, hM1] at hg1
  rw [hJ1] at hk1
  have hw1 := put_good hg1.1.weak hello (by rw [hk1.2]; decide)
  have hg2 := hw1.1.crash 0
  have hopen := open_good hg2
  have hk2 : (J1.put hello).start = 8 ∧ (J1.put hello).words = 200 := hk1
  rw [hk2.1, hk2.2] at hopen
  have hok2 : (writeM J1 M1 hello).ok 40000 := writeM_ok hok1 J1 hello (by decide)
  have HG1 := Lib.hid hg1
  have HK1 := Lib.hid hk1
  have HW1 := Lib.hid hw1
  have HG2 := Lib.hid hg2
  have HOP := Lib.hid hopen
  have HOK1 := Lib.hid hok1
  have HJ1 := Lib.hid hJ1
  have HM1 := Lib.hid hM1
  have HMAY := Lib.hid hmay
  have HMAY4 := Lib.hid hmay4
  clear hmay hmay4 hg1 hk1 hJ1 hM1 hok1 hw1 hg2 hopen hk2 hok2
  go_enter Try.func32, Try.ntmps32
  go_wp2_with fail
  refine (new_live 32 w _ (Below.refl _ _) (by omega) (by omega) 256 rfl).mono ?_
  rintro e w1 ⟨a, rfl, _, h1, _⟩
  have H1 := Lib.hid h1.held
  clear h1
  go_wp2_with fail
  refine (new_j w w1 w1 _ a (PM.fresh 32) 8 200 8 200 rfl rfl H1.out HMAY.out (by show 32 ≤ 1024; omega) (Clean.fresh 32).words.1 0 (PM.ok.fresh 32) (by omega)).mono ?_
  rw [HJ1.out, HM1.out]
  rintro e w2 ⟨j, rfl, _, h2⟩
  have H2 := Lib.hid h2
  clear h2 H1
  go_wp2_with fail
  refine (write_j w w1 w2 _ j a J1 M1 hello H2.out HG1.out.1.fit HG1.out.1.area HG1.out.1.start8 (by rw [HK1.out.2]; decide) 20000 HOK1.out (by omega)).mono ?_
  rintro e w3 ⟨rfl, h3⟩
  have H3 := Lib.hid h3
  have H3h := Lib.hid h3.held
  clear h3 H2
  go_wp2_with fail
  refine (crash_h H3h.out 0).mono ?_
  rintro e w4 ⟨rfl, h4⟩
  have H4 := Lib.hid h4
  clear h4
  have hn2 : ((writeM J1 M1 hello).crash 0).n = 32 := by rw [PM.crash_n, HW1.out.2, HG1.out.2]; rfl
  have HN2 := Lib.hid hn2
  clear hn2
  go_wp2_with fail
  refine (open_j w w3 w4 _ a ((writeM J1 M1 hello).crash 0) 8 200 8 200 rfl rfl H4.out (by rw [HN2.out]; exact HMAY.out) (by rw [HN2.out]; omega) HG2.out.clean.words.1 true (by rw [HOP.out])).mono ?_
  rw [HOP.out]
  rintro e w5 ⟨k, rfl, hk5, h5⟩
  have hjb : w5.heap[j]? = some (jblk a (J1.put hello)) := (h5.zblock j (.inr rfl)).trans H3.out.blk
  have H5 := Lib.hid h5
  have HJB := Lib.hid hjb
  clear h5 hjb
  go_wp2_with fail
  refine (new_live 32 w5 w5 (Below.refl _ _) (by omega) (by omega) 256 rfl).mono ?_
  rintro e w6 ⟨o, rfl, _, h6, _⟩
  have H6 := Lib.hid h6.held
  clear h6
  go_wp2_with fail
  refine (open_j w5 w6 w6 _ o (PM.fresh 32) 8 200 8 200 rfl rfl H6.out HMAY.out (by show 32 ≤ 1024; omega) (Clean.fresh 32).words.1 false (open_fresh 32 8 200)).mono ?_
  rintro e w7 ⟨x, rfl, _, h7⟩
  have hb7 : Below w5.heap.size w5 w7 := h7.bel
  have h8 := H5.out.below hb7
  have hj8 : w7.heap[j]? = some (jblk a (J1.put hello)) := (hb7.block j (Array.getElem?_eq_some_iff.1 HJB.out).1).trans HJB.out
  have H8 := Lib.hid h8
  have HJ8 := Lib.hid hj8
  clear h7 hb7 h8 hj8
  go_wp2_with fail
  refine (new_not w w7 w7 _ a _ 4 200 H8.out.held (by rw [HN2.out]; exact HMAY4.out) (by omega)).mono ?_
  rintro e w8 ⟨rfl, rfl⟩
  go_wp2_with (first | (go_at_call 22; refine (num21 _ _).mono ?_; rintro e w' ⟨rfl, rfl⟩) | fail)
  refine (read_j w7 j a (J1.put hello) ⟨#[104, 101, 108, 108, 111]⟩ rfl HJ8.out).mono ?_
  rintro e w9 ⟨rfl, rfl⟩
  go_wp2_with (first | (go_at_call 22; refine (num21 _ _).mono ?_; rintro e w' ⟨rfl, rfl⟩) | fail)
  refine (read_j w7 k a (J1.put hello) ⟨#[104, 101, 108, 108, 111]⟩ rfl H8.out.blk).mono ?_
  rintro e w9 ⟨rfl, rfl⟩
  go_wp2_with (first | (go_at_call 22; refine (num21 _ _).mono ?_; rintro e w' ⟨rfl, rfl⟩) | fail)
  go_ret
  exact ⟨rfl, H8.out.bel⟩
end Go.Proofs.Ytbflennacniacaa
