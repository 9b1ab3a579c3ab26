/- The walks of the laws SchedFairs and SchedWide. -/
import Derived.Test.YtihkjpfibogpdabAwake3
import Derived.Test.YtihkjpfibogpdabRefFair
import Derived.Test.YtihkjpfibogpdabOpenRows
namespace Go.Proofs.Ytihkjpfibogpdab.Fairs
open Go.RowKit
set_option linter.unusedVariables false
set_option maxRecDepth 100000 in
set_option maxHeartbeats 2000000 in
theorem walk (W : World) (A : Option Addr) (n c : Nat) (rows : List (List Bool)) (hr : Rows W A n rows) (hn : n ≤ 1048576) (B : Option Addr) (m d : Nat) (ps : List Int) (hp : Reads W B m (ps.map (Value.int .i64)))
    (hw : ∀ x ∈ ps, (Lit.int .i64 x).wf = true) (hm : m ≤ 1048576) (win : Int) (hwin : (Lit.int .i64 win).wf = true) :
    Calls Try.prog 3 #[.slice A n c, .slice B m d, .int .i64 win] W fun e w' => e = .returned (.bool true) ∧ Below W.heap.size W w' := by
  have HR := Lib.hid hr
  have HP := Lib.hid hp
  have HW := Lib.hid hw
  have HN := Lib.hid hwin
  clear hr hp hw hwin
  obtain ⟨R, hR⟩ : ∃ R, fairV rows ps win = R := ⟨_, rfl⟩
  have HF := Lib.hid hR
  clear hR
  go_enter Try.func3, Try.ntmps3
  go_wp2_with fail
  refine (fair_any A B n m c d rows ps win W HR.out HP.out (by omega) (by omega) HW.out HN.out).mono ?_
  rintro e w1 ⟨rfl, hb1⟩
  rw [HF.out]
  go_wp2_with fail
  refine (reffair_any A B n m c d rows ps win w1 (HR.out.below hb1) (HP.out.below hb1) (by omega) (by omega)).mono ?_
  rintro e w2 ⟨rfl, rfl⟩
  rw [HF.out]
  go_wp2_with fail
  refine (awake3 _).mono ?_
  rintro e w3 ⟨rfl, hb3⟩
  go_wp2_with fail
  go_ret
  exact ⟨rfl, Cv.next hb1 hb3⟩
set_option maxRecDepth 100000 in
set_option maxHeartbeats 2000000 in
theorem wide (W : World) (A : Option Addr) (n c : Nat) (rows : List (List Bool)) (hr : Rows W A n rows) (hn : n ≤ 1048576) (B : Option Addr) (m d : Nat) (ps : List Int) (hp : Reads W B m (ps.map (Value.int .i64)))
    (hw : ∀ x ∈ ps, (Lit.int .i64 x).wf = true) (hm : m ≤ 1048576) (win : Int) (hwin : (Lit.int .i64 win).wf = true) (more : Int) (hmore : (Lit.int .i64 more).wf = true) :
    Calls Try.prog 6 #[.slice A n c, .slice B m d, .int .i64 win, .int .i64 more] W fun e w' => e = .returned (.bool true) ∧ Below W.heap.size W w' := by
  obtain ⟨k0, hk0, hck⟩ := Cv.and_i64 win 7 (by omega)
  rw [show ((7 : Nat) : Int) = 7 from rfl] at hck
  obtain ⟨m0, hm0, hdm⟩ := Cv.and_i64 more 7 (by omega)
  rw [show ((7 : Nat) : Int) = 7 from rfl] at hdm
  obtain ⟨k, hk⟩ : ∃ k : Nat, k = k0 + 1 := ⟨_, rfl⟩
  have hk1 : (1 : Int) + (k0 : Int) = (k : Int) := by omega
  obtain ⟨q, hq⟩ : ∃ q : Nat, q = m0 + 1 := ⟨_, rfl⟩
  have hq1 : (1 : Int) + (m0 : Int) = (q : Int) := by omega
  obtain ⟨s, hs⟩ : ∃ s : Nat, s = k + q := ⟨_, rfl⟩
  have hs1 : (k : Int) + (q : Int) = (s : Int) := by omega
  have hkr : 1 ≤ k ∧ k ≤ 8 := by omega
  have hqr : 1 ≤ q ∧ q ≤ 8 := by omega
  have hsr : s ≤ 16 := by omega
  have hz : fairV rows ps 0 = true := (fairV_iff _ _ _).2 (fairly_zero _ _ (by omega))
  obtain ⟨R, hR⟩ : ∃ R, fairV rows ps (k : Int) = R := ⟨_, rfl⟩
  have hwd : R = true → fairV rows ps (s : Int) = true := by
    intro h
    rw [← hR, fairV_iff] at h
    rw [fairV_iff]
    have := fairly_wide (m := (q : Int)) (by omega) (by omega) h
    rwa [hs1] at this
  have HR := Lib.hid hr
  have HP := Lib.hid hp
  have HW := Lib.hid hw
  have HF := Lib.hid hR
  have HZ := Lib.hid hz
  have HD := Lib.hid hwd
  clear hr hp hw hwin hmore hR hz hwd hk hq hs hk0 hm0
  go_enter Try.func6, Try.ntmps6
  go_wp2_with fail
  refine (awake3 _).mono ?_
  rintro e w1 ⟨rfl, hb1⟩
  go_wp2_with fail
  refine (fair_any A B n m c d rows ps (k : Int) w1 (HR.out.below hb1) (HP.out.below hb1) (by omega) (by omega) HW.out (wf_nat _ (by omega))).mono ?_
  rintro e w2 ⟨rfl, hb2⟩
  rw [HF.out]
  cases R with
  | false =>
    go_wp2_with fail
    go_ret
    exact ⟨rfl, Cv.next hb1 hb2⟩
  | true =>
    go_wp2_with fail
    refine (fair_any A B n m c d rows ps (s : Int) w2 ((HR.out.below hb1).below hb2) ((HP.out.below hb1).below hb2) (by omega) (by omega) HW.out (wf_nat _ (by omega))).mono ?_
    rintro e w3 ⟨rfl, hb3⟩
    rw [HD.out (by trivial)]
    go_wp2_with fail
    refine (fair_any A B n m c d rows ps 0 w3 (((HR.out.below hb1).below hb2).below hb3) (((HP.out.below hb1).below hb2).below hb3) (by omega) (by omega) HW.out (wf_nat 0 (by omega))).mono ?_
    rintro e w4 ⟨rfl, hb4⟩
    rw [HZ.out]
    go_wp2_with fail
    go_ret
    exact ⟨rfl, Cv.next (Cv.next (Cv.next hb1 hb2) hb3) hb4⟩
end Go.Proofs.Ytihkjpfibogpdab.Fairs
