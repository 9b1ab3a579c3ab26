/- The walk of the law PathCodes. -/
import Derived.Test.YtihkjpfibogpdabAwake11
namespace Go.Proofs.Ytihkjpfibogpdab
open Go.RowKit
set_option linter.unusedVariables false
def codeI (n : Int) : Int := if n = 0 then 0 else if n = 1101 ∨ n = 1102 then 6 else 9
set_option maxHeartbeats 400000 in
theorem codeI_any (n : Int) (w : World) : Calls Try.prog 21 #[.int .i64 n] w fun e w' => e = .returned (.int .i64 (codeI n)) ∧ w = w' := by
  by_cases h0 : n = 0
  · subst h0
    go_enter Try.func21, Try.ntmps21
    go_wp2
    go_ret
    exact ⟨rfl, rfl⟩
  by_cases h1 : n = 1101
  · subst h1
    go_enter Try.func21, Try.ntmps21
    go_wp2
    go_ret
    exact ⟨rfl, rfl⟩
  by_cases h2 : n = 1102
  · subst h2
    go_enter Try.func21, Try.ntmps21
    go_wp2
    go_ret
    exact ⟨rfl, rfl⟩
  · have hc : codeI n = 9 := by unfold codeI; rw [if_neg h0, if_neg (by omega)]
    rw [hc]
    have q0 : (n == 0) = false := by rw [beq_eq_false_iff_ne]; omega
    have q1 : (n == 1101) = false := by rw [beq_eq_false_iff_ne]; omega
    have q2 : (n == 1102) = false := by rw [beq_eq_false_iff_ne]; omega
    go_enter Try.func21, Try.ntmps21
    go_wp2
    go_ret
    exact ⟨rfl, rfl⟩
theorem quiet_l {P : Program} {f : FuncId} {args : Array Value} {w : World} {n : Nat} {v : Value}
    (h : Calls P f args (w.drewN n) fun e w' => e = .returned v ∧ w.drewN n = w') : Calls P f args (w.drewN n) fun e w'' => e = .returned v ∧ ∃ m, w'' = w.drewN m :=
  h.mono fun _ _ hh => ⟨hh.1, n, hh.2.symm⟩
theorem codeI_0 : codeI 0 = 0 := rfl
theorem codeI_1100 : codeI 1100 = 9 := rfl
theorem codeI_1101 : codeI 1101 = 6 := rfl
theorem codeI_1102 : codeI 1102 = 6 := rfl
set_option maxRecDepth 100000 in
set_option maxHeartbeats 4000000 in
theorem pathCodes_walk (r : Int) (hr : (Lit.int .i64 r).wf = true) (w : World) :
    Calls Try.prog 11 #[.int .i64 r] w fun e w' => e = .returned (.bool true) ∧ Below w.heap.size w w' := by
  obtain ⟨k, hk, hkr⟩ := Cv.tmod_u64 r 6 (by omega)
  rw [show ((6 : Nat) : Int) = 6 from rfl] at hkr
  go_enter Try.func11, Try.ntmps11
  go_wp2_with fail
  refine (awake11 _).mono ?_
  rintro e w1 ⟨rfl, hb1⟩
  match k, hk with
  | 0, _ =>
    go_wp2_with fail
    refine (parse_lit _ [] 1100 (by decide +kernel) (by decide +kernel) _).mono ?_
    rintro e w2 ⟨A2, c2, rfl, _, _, _, _, hb2⟩
    go_wp2_with fail
    refine (parse_lit _ [[97], [98]] 0 (by decide +kernel) (by decide +kernel) _).mono ?_
    rintro e w3 ⟨A3, c3, rfl, _, _, _, _, hb3⟩
    have hb23 := Cv.next hb2 hb3
    have hc : w3.cell? ⟨w1.heap.size + 1, 0, none⟩ = some (.int .i64 9) := by
      rw [hb23.cell (p := ⟨w1.heap.size + 1, 0, none⟩) (by simp)]
      have hs : w1.heap.size + 1 = (w1.alloc (.cells #[.string ⟨#[]⟩, .string ⟨#[120]⟩, .string ⟨#[47, 97, 47]⟩, .string ⟨#[47, 46]⟩, .string ⟨#[47, 97, 98, 99, 100, 101, 102, 103, 104, 105, 106, 107, 108, 109, 110]⟩, .string ⟨#[47, 97, 47, 98, 47, 99, 47, 100, 47, 101]⟩] 9)).heap.size := by simp
      rw [hs]
      exact World.cell?_alloc_mark _ _ _ (0, 0) _
    have hbb : Below w1.heap.size w1 w3 := Cv.next (Cv.next ((Below.refl _ _).alloc (Nat.le_refl _) _) ((Below.refl _ _).alloc (Nat.le_refl _) _)) hb23
    have r0 := codeI_0
    have r1 := codeI_1100
    have HB := Lib.hid hbb
    clear hbb hb23 hb2 hb3
    go_wp2_with fail
    go_quiet ((first | (go_at_call 17; exact quiet_l (numv_any _ _)) | (go_at_call 21; exact quiet_l (codeI_any _ _))))
    go_wp2
    go_ret
    exact ⟨rfl, Cv.next hb1 (Cv.drewN_below HB.out _)⟩
  | 1, _ =>
    go_wp2_with fail
    refine (parse_lit _ [] 1100 (by decide +kernel) (by decide +kernel) _).mono ?_
    rintro e w2 ⟨A2, c2, rfl, _, _, _, _, hb2⟩
    go_wp2_with fail
    refine (parse_lit _ [[97], [98]] 0 (by decide +kernel) (by decide +kernel) _).mono ?_
    rintro e w3 ⟨A3, c3, rfl, _, _, _, _, hb3⟩
    have hb23 := Cv.next hb2 hb3
    have hc : w3.cell? ⟨w1.heap.size + 1, 1, none⟩ = some (.int .i64 9) := by
      rw [hb23.cell (p := ⟨w1.heap.size + 1, 1, none⟩) (by simp)]
      have hs : w1.heap.size + 1 = (w1.alloc (.cells #[.string ⟨#[]⟩, .string ⟨#[120]⟩, .string ⟨#[47, 97, 47]⟩, .string ⟨#[47, 46]⟩, .string ⟨#[47, 97, 98, 99, 100, 101, 102, 103, 104, 105, 106, 107, 108, 109, 110]⟩, .string ⟨#[47, 97, 47, 98, 47, 99, 47, 100, 47, 101]⟩] 9)).heap.size := by simp
      rw [hs]
      exact World.cell?_alloc_mark _ _ _ (0, 0) _
    have hbb : Below w1.heap.size w1 w3 := Cv.next (Cv.next ((Below.refl _ _).alloc (Nat.le_refl _) _) ((Below.refl _ _).alloc (Nat.le_refl _) _)) hb23
    have r0 := codeI_0
    have r1 := codeI_1100
    have HB := Lib.hid hbb
    clear hbb hb23 hb2 hb3
    go_wp2_with fail
    go_quiet ((first | (go_at_call 17; exact quiet_l (numv_any _ _)) | (go_at_call 21; exact quiet_l (codeI_any _ _))))
    go_wp2
    go_ret
    exact ⟨rfl, Cv.next hb1 (Cv.drewN_below HB.out _)⟩
  | 2, _ =>
    go_wp2_with fail
    refine (parse_lit _ [] 1100 (by decide +kernel) (by decide +kernel) _).mono ?_
    rintro e w2 ⟨A2, c2, rfl, _, _, _, _, hb2⟩
    go_wp2_with fail
    refine (parse_lit _ [[97], [98]] 0 (by decide +kernel) (by decide +kernel) _).mono ?_
    rintro e w3 ⟨A3, c3, rfl, _, _, _, _, hb3⟩
    have hb23 := Cv.next hb2 hb3
    have hc : w3.cell? ⟨w1.heap.size + 1, 2, none⟩ = some (.int .i64 9) := by
      rw [hb23.cell (p := ⟨w1.heap.size + 1, 2, none⟩) (by simp)]
      have hs : w1.heap.size + 1 = (w1.alloc (.cells #[.string ⟨#[]⟩, .string ⟨#[120]⟩, .string ⟨#[47, 97, 47]⟩, .string ⟨#[47, 46]⟩, .string ⟨#[47, 97, 98, 99, 100, 101, 102, 103, 104, 105, 106, 107, 108, 109, 110]⟩, .string ⟨#[47, 97, 47, 98, 47, 99, 47, 100, 47, 101]⟩] 9)).heap.size := by simp
      rw [hs]
      exact World.cell?_alloc_mark _ _ _ (0, 0) _
    have hbb : Below w1.heap.size w1 w3 := Cv.next (Cv.next ((Below.refl _ _).alloc (Nat.le_refl _) _) ((Below.refl _ _).alloc (Nat.le_refl _) _)) hb23
    have r0 := codeI_0
    have r1 := codeI_1100
    have HB := Lib.hid hbb
    clear hbb hb23 hb2 hb3
    go_wp2_with fail
    go_quiet ((first | (go_at_call 17; exact quiet_l (numv_any _ _)) | (go_at_call 21; exact quiet_l (codeI_any _ _))))
    go_wp2
    go_ret
    exact ⟨rfl, Cv.next hb1 (Cv.drewN_below HB.out _)⟩
  | 3, _ =>
    go_wp2_with fail
    refine (parse_lit _ [] 1100 (by decide +kernel) (by decide +kernel) _).mono ?_
    rintro e w2 ⟨A2, c2, rfl, _, _, _, _, hb2⟩
    go_wp2_with fail
    refine (parse_lit _ [[97], [98]] 0 (by decide +kernel) (by decide +kernel) _).mono ?_
    rintro e w3 ⟨A3, c3, rfl, _, _, _, _, hb3⟩
    have hb23 := Cv.next hb2 hb3
    have hc : w3.cell? ⟨w1.heap.size + 1, 3, none⟩ = some (.int .i64 9) := by
      rw [hb23.cell (p := ⟨w1.heap.size + 1, 3, none⟩) (by simp)]
      have hs : w1.heap.size + 1 = (w1.alloc (.cells #[.string ⟨#[]⟩, .string ⟨#[120]⟩, .string ⟨#[47, 97, 47]⟩, .string ⟨#[47, 46]⟩, .string ⟨#[47, 97, 98, 99, 100, 101, 102, 103, 104, 105, 106, 107, 108, 109, 110]⟩, .string ⟨#[47, 97, 47, 98, 47, 99, 47, 100, 47, 101]⟩] 9)).heap.size := by simp
      rw [hs]
      exact World.cell?_alloc_mark _ _ _ (0, 0) _
    have hbb : Below w1.heap.size w1 w3 := Cv.next (Cv.next ((Below.refl _ _).alloc (Nat.le_refl _) _) ((Below.refl _ _).alloc (Nat.le_refl _) _)) hb23
    have r0 := codeI_0
    have r1 := codeI_1100
    have HB := Lib.hid hbb
    clear hbb hb23 hb2 hb3
    go_wp2_with fail
    go_quiet ((first | (go_at_call 17; exact quiet_l (numv_any _ _)) | (go_at_call 21; exact quiet_l (codeI_any _ _))))
    go_wp2
    go_ret
    exact ⟨rfl, Cv.next hb1 (Cv.drewN_below HB.out _)⟩
  | 4, _ =>
    go_wp2_with fail
    refine (parse_lit _ [] 1101 (by decide +kernel) (by decide +kernel) _).mono ?_
    rintro e w2 ⟨A2, c2, rfl, _, _, _, _, hb2⟩
    go_wp2_with fail
    refine (parse_lit _ [[97], [98]] 0 (by decide +kernel) (by decide +kernel) _).mono ?_
    rintro e w3 ⟨A3, c3, rfl, _, _, _, _, hb3⟩
    have hb23 := Cv.next hb2 hb3
    have hc : w3.cell? ⟨w1.heap.size + 1, 4, none⟩ = some (.int .i64 6) := by
      rw [hb23.cell (p := ⟨w1.heap.size + 1, 4, none⟩) (by simp)]
      have hs : w1.heap.size + 1 = (w1.alloc (.cells #[.string ⟨#[]⟩, .string ⟨#[120]⟩, .string ⟨#[47, 97, 47]⟩, .string ⟨#[47, 46]⟩, .string ⟨#[47, 97, 98, 99, 100, 101, 102, 103, 104, 105, 106, 107, 108, 109, 110]⟩, .string ⟨#[47, 97, 47, 98, 47, 99, 47, 100, 47, 101]⟩] 9)).heap.size := by simp
      rw [hs]
      exact World.cell?_alloc_mark _ _ _ (0, 0) _
    have hbb : Below w1.heap.size w1 w3 := Cv.next (Cv.next ((Below.refl _ _).alloc (Nat.le_refl _) _) ((Below.refl _ _).alloc (Nat.le_refl _) _)) hb23
    have r0 := codeI_0
    have r1 := codeI_1101
    have HB := Lib.hid hbb
    clear hbb hb23 hb2 hb3
    go_wp2_with fail
    go_quiet ((first | (go_at_call 17; exact quiet_l (numv_any _ _)) | (go_at_call 21; exact quiet_l (codeI_any _ _))))
    go_wp2
    go_ret
    exact ⟨rfl, Cv.next hb1 (Cv.drewN_below HB.out _)⟩
  | 5, _ =>
    go_wp2_with fail
    refine (parse_lit _ [] 1102 (by decide +kernel) (by decide +kernel) _).mono ?_
    rintro e w2 ⟨A2, c2, rfl, _, _, _, _, hb2⟩
    go_wp2_with fail
    refine (parse_lit _ [[97], [98]] 0 (by decide +kernel) (by decide +kernel) _).mono ?_
    rintro e w3 ⟨A3, c3, rfl, _, _, _, _, hb3⟩
    have hb23 := Cv.next hb2 hb3
    have hc : w3.cell? ⟨w1.heap.size + 1, 5, none⟩ = some (.int .i64 6) := by
      rw [hb23.cell (p := ⟨w1.heap.size + 1, 5, none⟩) (by simp)]
      have hs : w1.heap.size + 1 = (w1.alloc (.cells #[.string ⟨#[]⟩, .string ⟨#[120]⟩, .string ⟨#[47, 97, 47]⟩, .string ⟨#[47, 46]⟩, .string ⟨#[47, 97, 98, 99, 100, 101, 102, 103, 104, 105, 106, 107, 108, 109, 110]⟩, .string ⟨#[47, 97, 47, 98, 47, 99, 47, 100, 47, 101]⟩] 9)).heap.size := by simp
      rw [hs]
      exact World.cell?_alloc_mark _ _ _ (0, 0) _
    have hbb : Below w1.heap.size w1 w3 := Cv.next (Cv.next ((Below.refl _ _).alloc (Nat.le_refl _) _) ((Below.refl _ _).alloc (Nat.le_refl _) _)) hb23
    have r0 := codeI_0
    have r1 := codeI_1102
    have HB := Lib.hid hbb
    clear hbb hb23 hb2 hb3
    go_wp2_with fail
    go_quiet ((first | (go_at_call 17; exact quiet_l (numv_any _ _)) | (go_at_call 21; exact quiet_l (codeI_any _ _))))
    go_wp2
    go_ret
    exact ⟨rfl, Cv.next hb1 (Cv.drewN_below HB.out _)⟩
end Go.Proofs.Ytihkjpfibogpdab
