/- journal: New, Open, Write, Read, each by its contract. -/
import Derived.Test.YtbflennacniacaaJoOps
namespace Go.Proofs.Ytbflennacniacaa
open Go.RowKit
set_option linter.unusedVariables false
def jd0 (start words area : Nat) : JD := { start := start, words := words, area := area, turn := 0, text := ByteArray.empty }
theorem findS_area (f : Nat → Nat) (J : JD) (hJ : J.area ≤ 1) (k : Nat) (hk : k ≤ 2) : (findS f J k).1.area ≤ 1 := by
  induction k with
  | zero => exact hJ
  | succ k ih =>
    have h := ih (by omega)
    show (findN (lookP f (baseN J k) (halfN J.words)) (findS f J k) k).1.area ≤ 1
    unfold findN
    split
    · exact h
    · split
      · show k ≤ 1
        omega
      · exact h
theorem may_fit {M : PM} {start words : Nat} (h : mayB M.n start words = true) (hn : M.n ≤ 1024) (area : Nat) : JFit (jd0 start words area) M ∧ start % 8 = 0 := by
  unfold mayB at h
  simp only [Bool.and_eq_true, decide_eq_true_eq] at h
  obtain ⟨h1, h2, h3, h4, h5⟩ := h
  have h8 : start % 8 = 0 := by
    have e : ((start : Int)).tmod 8 = ((start % 8 : Nat) : Int) := rfl
    rw [e] at h2
    omega
  refine ⟨⟨⟨by show 64 ≤ words; omega, by show words ≤ 8192; omega⟩, by show start ≤ 65536; omega, fun k hk => ?_⟩, h8⟩
  show start + k * halfN words + halfN words ≤ M.n * 8
  have hh : 2 * halfN words ≤ words := by unfold halfN; omega
  have : k * halfN words ≤ halfN words := by
    have := Nat.mul_le_mul_right (halfN words) hk
    omega
  omega
theorem JFit.of_eq {J J' : JD} {M : PM} (h : JFit J M) (e : J'.start = J.start ∧ J'.words = J.words) : JFit J' M :=
  ⟨by rw [e.2]; exact h.words, by rw [e.1]; exact h.start, fun k hk => by
    have := h.room k hk
    unfold baseN at this ⊢
    rw [e.1, e.2]
    exact this⟩
/-- What New makes of a memory. -/
def newJ (M : PM) (start words : Nat) : JD := (findS (seenN M) (jd0 start words 1) 2).1
def newM (M : PM) (start words : Nat) : PM := putM M (baseN (newJ M start words) (1 - (newJ M start words).area) / 8) (turn1 (newJ M start words).turn) []
set_option maxRecDepth 100000 in
set_option maxHeartbeats 2000000 in
theorem new_j (w0 wz w : World) (Z : Nat → Prop) (a : Nat) (M : PM) (start words : Nat) (x y : Int) (hx : x = (start : Int)) (hy : y = (words : Int)) (h : Held w0 wz w Z a M) (hmay : mayB M.n start words = true) (hn : M.n ≤ 1024) (hf : Words M.seen) (K : Nat) (ho : M.ok K) (hK : K ≤ 274877906944) :
    Calls Try.prog 33 #[.pointer (some ⟨a, 0, .none⟩), .int .i64 x, .int .i64 y] w fun e w' => ∃ j, e = .returned (.tuple #[.pointer (some ⟨j, 0, .none⟩), .int .i64 0]) ∧ w.heap.size ≤ j ∧ Jour w0 wz w' Z j a ((newJ M start words).put ByteArray.empty) (newM M start words) := by
  subst hx hy
  obtain ⟨hfit, h8⟩ := may_fit hmay hn 1
  have hsb := hfit.start
  have hsb2 : start ≤ 65536 := hsb
  have hm := may_any w0 wz w Z a M start words h (by omega)
  rw [hmay, if_pos rfl] at hm
  have HMAY := Lib.hid hm
  have hmk := h.make (jd0 start words 1)
  have HMK := Lib.hid hmk
  have hkeep := findS_keeps (seenN M) (jd0 start words 1) 2
  have harea := findS_area (seenN M) (jd0 start words 1) (by show 1 ≤ 1; omega) 2 (by omega)
  have HFIT := Lib.hid hfit
  have hfit2 : JFit (newJ M start words) M := hfit.of_eq hkeep
  have HFIT2 := Lib.hid hfit2
  have h82 : (newJ M start words).start % 8 = 0 := by
    show (findS (seenN M) (jd0 start words 1) 2).1.start % 8 = 0
    rw [hkeep.1]
    exact h8
  have HAREA : Hid ((newJ M start words).area ≤ 1) := Lib.hid harea
  have H82 := Lib.hid h82
  have HF := Lib.hid hf
  clear h hmay hm hmk hkeep harea hfit hfit2 h82 h8 hsb hf
  go_enter Try.func33, Try.ntmps33
  go_wp2_with fail
  refine HMAY.out.mono ?_
  rintro e w1 ⟨rfl, rfl⟩
  go_wp2_with fail
  refine (find_any w0 wz _ Z w.heap.size a (jd0 start words 1) M HMK.out HFIT.out HF.out).mono ?_
  rintro e w2 ⟨rfl, hj⟩
  have HJ : Hid (Jour w0 wz w2 Z w.heap.size a (newJ M start words) M) := Lib.hid hj
  clear hj
  go_wp2_with fail
  refine (put_any w0 wz w2 Z w.heap.size a (newJ M start words) M ByteArray.empty K HJ.out HFIT2.out HAREA.out H82.out (by decide) ho hK).mono ?_
  rintro e w3 ⟨rfl, hj⟩
  have HJ3 : Hid (Jour w0 wz w3 Z w.heap.size a ((newJ M start words).put ByteArray.empty) (newM M start words)) := Lib.hid hj
  clear hj
  go_wp2_with fail
  go_ret2
  exact ⟨_, rfl, Nat.le_refl _, HJ3.out⟩
set_option maxHeartbeats 1000000 in
theorem new_not (w0 wz w : World) (Z : Nat → Prop) (a : Nat) (M : PM) (x y : Int) (h : Held w0 wz w Z a M) (hmay : mayB M.n x y = false) (hx : -9223372036854775808 ≤ x ∧ x ≤ 9223372036854775807) :
    Calls Try.prog 33 #[.pointer (some ⟨a, 0, .none⟩), .int .i64 x, .int .i64 y] w fun e w' => e = .returned (.tuple #[.pointer .none, .int .i64 2100]) ∧ w = w' := by
  have hm := may_any w0 wz w Z a M x y h hx
  rw [hmay, if_neg (by simp)] at hm
  have HMAY := Lib.hid hm
  clear h hmay hm hx
  go_enter Try.func33, Try.ntmps33
  go_wp2_with fail
  refine HMAY.out.mono ?_
  rintro e w1 ⟨rfl, rfl⟩
  go_wp2_with fail
  go_ret2
  exact ⟨rfl, rfl⟩
/-- What Open finds. -/
def openP (M : PM) (start words : Nat) : JD × Bool := findS (seenN M) (jd0 start words 0) 2
set_option maxRecDepth 100000 in
set_option maxHeartbeats 2000000 in
theorem open_j (w0 wz w : World) (Z : Nat → Prop) (a : Nat) (M : PM) (start words : Nat) (x y : Int) (hx : x = (start : Int)) (hy : y = (words : Int)) (h : Held w0 wz w Z a M) (hmay : mayB M.n start words = true) (hn : M.n ≤ 1024) (hf : Words M.seen) (b : Bool) (hb : (openP M start words).2 = b) :
    Calls Try.prog 35 #[.pointer (some ⟨a, 0, .none⟩), .int .i64 x, .int .i64 y] w fun e w' => ∃ j, e = .returned (.tuple #[if b then .pointer (some ⟨j, 0, .none⟩) else .pointer .none, .int .i64 (if b then 0 else 2102)]) ∧ w.heap.size ≤ j ∧ Jour w0 wz w' Z j a (openP M start words).1 M := by
  subst hx hy
  obtain ⟨hfit, h8⟩ := may_fit hmay hn 0
  have hsb := hfit.start
  have hsb2 : start ≤ 65536 := hsb
  have hm := may_any w0 wz w Z a M start words h (by omega)
  rw [hmay, if_pos rfl] at hm
  have HMAY := Lib.hid hm
  have HMK := Lib.hid (h.make (jd0 start words 0))
  have HFIT := Lib.hid hfit
  have HF := Lib.hid hf
  have HB : Hid ((findS (seenN M) (jd0 start words 0) 2).2 = b) := Lib.hid hb
  clear h hmay hm hfit h8 hsb hf hb
  cases b with
  | true =>
    go_enter Try.func35, Try.ntmps35
    go_wp2_with fail
    refine HMAY.out.mono ?_
    rintro e w1 ⟨rfl, rfl⟩
    go_wp2_with fail
    refine (find_any w0 wz _ Z w.heap.size a (jd0 start words 0) M HMK.out HFIT.out HF.out).mono ?_
    rintro e w2 ⟨rfl, hj⟩
    rw [HB.out]
    have HJ : Hid (Jour w0 wz w2 Z w.heap.size a (openP M start words).1 M) := Lib.hid hj
    clear hj
    go_wp2_with fail
    go_ret2
    exact ⟨_, rfl, Nat.le_refl _, HJ.out⟩
  | false =>
    go_enter Try.func35, Try.ntmps35
    go_wp2_with fail
    refine HMAY.out.mono ?_
    rintro e w1 ⟨rfl, rfl⟩
    go_wp2_with fail
    refine (find_any w0 wz _ Z w.heap.size a (jd0 start words 0) M HMK.out HFIT.out HF.out).mono ?_
    rintro e w2 ⟨rfl, hj⟩
    rw [HB.out]
    have HJ : Hid (Jour w0 wz w2 Z w.heap.size a (openP M start words).1 M) := Lib.hid hj
    clear hj
    go_wp2_with fail
    go_ret2
    first | exact ⟨_, rfl, Nat.le_refl _, HJ.out⟩ | exact ⟨rfl, _, Nat.le_refl _, HJ.out⟩
theorem read_j (w : World) (j a : Nat) (J : JD) (s : ByteArray) (hs : J.text = s) (h : w.heap[j]? = some (jblk a J)) :
    Calls Try.prog 36 #[.pointer (some ⟨j, 0, .none⟩)] w fun e w' => e = .returned (.string s) ∧ w = w' := by
  have c5 : w.cell? ⟨j, 5, .none⟩ = some (.string s) := by
    unfold jblk at h
    rw [cell_of_row w j 5 _ _ (0, 0) h, ← hs]
    rfl
  clear h hs
  go_enter Try.func36, Try.ntmps36
  go_wp2_with fail
  go_ret
  exact ⟨rfl, rfl⟩
set_option maxHeartbeats 1000000 in
theorem write_big (w0 wz w : World) (Z : Nat → Prop) (j a : Nat) (J : JD) (M : PM) (s : ByteArray) (h : Jour w0 wz w Z j a J M) (hw : 64 ≤ J.words ∧ J.words ≤ 8192) (hs : 2 * J.words - 64 < s.size) (hl : s.size ≤ maxLen) :
    Calls Try.prog 34 #[.pointer (some ⟨j, 0, .none⟩), .string s] w fun e w' => e = .returned (.int .i64 2101) ∧ w = w' := by
  obtain ⟨_, _, c2, _⟩ := h.cells
  unfold maxLen at hl
  have q1 : decide (2 * (J.words : Int) - 64 < (s.size : Int)) = true := by simp; omega
  clear h
  go_enter Try.func34, Try.ntmps34
  go_wp2_with fail
  go_ret
  exact ⟨rfl, rfl⟩
def writeM (J : JD) (M : PM) (s : ByteArray) : PM := putM M (baseN J (1 - J.area) / 8) (turn1 J.turn) s.data.toList
set_option maxHeartbeats 1000000 in
theorem write_j (w0 wz w : World) (Z : Nat → Prop) (j a : Nat) (J : JD) (M : PM) (s : ByteArray) (h : Jour w0 wz w Z j a J M) (hfit : JFit J M) (ha : J.area ≤ 1) (h8 : J.start % 8 = 0) (hs : s.size ≤ 2 * J.words - 64) (K : Nat) (ho : M.ok K) (hK : K ≤ 274877906944) :
    Calls Try.prog 34 #[.pointer (some ⟨j, 0, .none⟩), .string s] w fun e w' => e = .returned (.int .i64 0) ∧ Jour w0 wz w' Z j a (J.put s) (writeM J M s) := by
  obtain ⟨_, _, c2, _⟩ := h.cells
  have hw := hfit.words
  have q1 : decide (2 * (J.words : Int) - 64 < (s.size : Int)) = false := by simp; omega
  have q2 : decide ((65536 : Int) < (s.size : Int)) = false := by simp; omega
  have HP := Lib.hid (put_any w0 wz w Z j a J M s K h hfit ha h8 (by omega) ho hK)
  clear h hfit ha h8
  go_enter Try.func34, Try.ntmps34
  go_wp2_with fail
  refine HP.out.mono ?_
  rintro e w1 ⟨rfl, hj⟩
  have HJ := Lib.hid hj
  clear hj
  go_wp2_with fail
  go_ret
  exact ⟨rfl, HJ.out⟩
end Go.Proofs.Ytbflennacniacaa
