/- path.Parse on any text, and small functions about paths, each by its contract. -/
import Derived.Test.YtihkjpfibogpdabParse
namespace Go.Proofs.Ytihkjpfibogpdab
open Go.RowKit
set_option linter.unusedVariables false
set_option maxHeartbeats 1000000 in
theorem parse_any (s : ByteArray) (w : World) (hs : s.size ≤ 140737488355328) :
    Calls Try.prog 18 #[.string s] w (Parsed s w) := by
  have hsz : s.data.toList.length = s.size := rfl
  have htl := ByteArray.toList_eq s
  by_cases h64 : 64 < s.size
  · have hp := parse_64 (l := s.data.toList) (by omega)
    have HP := Lib.hid hp
    clear hp htl hsz
    go_enter Try.func18, Try.ntmps18
    go_wp2_with fail
    go_ret2
    exact ⟨_, [], 1101, rfl, HP.out, World.ownsRow_nil _ _ _ _, fun _ => rfl, Below.refl _ _⟩
  by_cases hh : s.data.toList.head? = some 47
  · obtain ⟨hp0, hb0⟩ := (path_head s).1 hh
    by_cases h1 : s.size = 1
    · have hp := parse_root (l := s.data.toList) (by omega) hh (by omega)
      have he : s.toList = [47] := by
        rw [htl]
        match hl : s.data.toList, hh with
        | [a], hh => simp at hh; rw [hh]
        | a :: b :: r, _ => rw [hl] at hsz; simp at hsz; omega
      have HP := Lib.hid hp
      have H1 := Lib.hid h1
      have q1 : ((s.size : Int) == 1) = true := by rw [beq_iff_eq]; omega
      have he0 : s.toList.isEmpty = false := by rw [he]; rfl
      have he1 : ¬ s.toList = [] := by rw [he]; simp
      clear he
      have h1' : s.size ≤ 64 := by omega
      clear hp htl hsz hh h1
      go_enter Try.func18, Try.ntmps18
      go_wp2_with fail
      go_ret2
      exact ⟨_, [], 0, rfl, HP.out, World.ownsRow_nil _ _ _ _, fun _ => rfl, Below.refl _ _⟩
    · exact (parse_long s w hs (by omega) ⟨hp0, hb0⟩ h1).mono fun _ _ h => h
  · have hp := parse_form (l := s.data.toList) (by omega) hh
    have HP := Lib.hid hp
    by_cases h0 : s.size = 0
    · have he : s.toList = [] := by rw [htl]; exact List.eq_nil_of_length_eq_zero (by omega)
      have h0' : s.size ≤ 64 := by omega
      clear hp htl hsz hh h0
      go_enter Try.func18, Try.ntmps18
      go_wp2_with fail
      go_ret2
      exact ⟨_, [], 1100, rfl, HP.out, World.ownsRow_nil _ _ _ _, fun _ => rfl, Below.refl _ _⟩
    · have hp0 : 0 < s.size := by omega
      have hne := no_head_ne hp0 hh
      have he0 : s.toList.isEmpty = false := by
        rw [htl]
        cases e : s.data.toList with
        | nil => rw [e] at hsz; simp at hsz; omega
        | cons a l => rfl
      have he1 : ¬ s.toList = [] := by intro e; rw [e] at he0; simp at he0
      clear hp htl hsz hh h0
      go_enter Try.func18, Try.ntmps18
      go_wp2_with fail
      go_ret2
      exact ⟨_, [], 1100, rfl, HP.out, World.ownsRow_nil _ _ _ _, fun _ => rfl, Below.refl _ _⟩

/-- A call's code for an error of a path. -/
def codeN (n : Nat) : Nat := if n = 0 then 0 else if n = 1101 ∨ n = 1102 then 6 else 9
set_option maxHeartbeats 400000 in
theorem code_any (n : Nat) (hn : n ≤ 65536) (w : World) : Calls Try.prog 21 #[.int .i64 (n : Int)] w fun e w' => e = .returned (.int .i64 (codeN n : Int)) ∧ w = w' := by
  by_cases h0 : n = 0
  · subst h0
    go_enter Try.func21, Try.ntmps21
    go_wp2
    go_ret
    exact ⟨rfl, rfl⟩
  by_cases h1 : n = 1101
  · subst h1
    go_enter Try.func21, Try.ntmps21
    go_wp2
    go_ret
    exact ⟨rfl, rfl⟩
  by_cases h2 : n = 1102
  · subst h2
    go_enter Try.func21, Try.ntmps21
    go_wp2
    go_ret
    exact ⟨rfl, rfl⟩
  · have hc : codeN n = 9 := by unfold codeN; rw [if_neg h0, if_neg (by omega)]
    rw [hc]
    have q0 : ((n : Int) == 0) = false := by rw [beq_eq_false_iff_ne]; omega
    have q1 : ((n : Int) == 1101) = false := by rw [beq_eq_false_iff_ne]; omega
    have q2 : ((n : Int) == 1102) = false := by rw [beq_eq_false_iff_ne]; omega
    go_enter Try.func21, Try.ntmps21
    go_wp2
    go_ret
    exact ⟨rfl, rfl⟩
set_option maxHeartbeats 400000 in
theorem refcode_any (n : Nat) (hn : n ≤ 65536) (w : World) : Calls Try.prog 22 #[.int .i64 (n : Int)] w fun e w' => e = .returned (.int .i64 (codeN n : Int)) ∧ w = w' := by
  by_cases h0 : n = 0
  · subst h0
    go_enter Try.func22, Try.ntmps22
    go_wp2
    go_ret
    exact ⟨rfl, rfl⟩
  by_cases h1 : n = 1101
  · subst h1
    go_enter Try.func22, Try.ntmps22
    go_wp2
    go_ret
    exact ⟨rfl, rfl⟩
  by_cases h2 : n = 1102
  · subst h2
    go_enter Try.func22, Try.ntmps22
    go_wp2
    go_ret
    exact ⟨rfl, rfl⟩
  · have hc : codeN n = 9 := by unfold codeN; rw [if_neg h0, if_neg (by omega)]
    rw [hc]
    have q0 : ((n : Int) == 0) = false := by rw [beq_eq_false_iff_ne]; omega
    have q1 : ((n : Int) == 1101) = false := by rw [beq_eq_false_iff_ne]; omega
    have q2 : ((n : Int) == 1102) = false := by rw [beq_eq_false_iff_ne]; omega
    go_enter Try.func22, Try.ntmps22
    go_wp2
    go_ret
    exact ⟨rfl, rfl⟩
end Go.Proofs.Ytihkjpfibogpdab
