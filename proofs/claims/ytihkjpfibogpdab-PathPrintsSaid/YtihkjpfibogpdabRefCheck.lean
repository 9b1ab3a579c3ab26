/- The reference's Check, by its contract. -/
import Derived.Test.YtihkjpfibogpdabRune1
namespace Go.Proofs.Ytihkjpfibogpdab
open Go.RowKit
set_option linter.unusedVariables false
theorem checkL_long {l : List UInt8} (h : 12 < l.length) : checkL l = 801 := if_pos h
theorem checkL_dots {l : List UInt8} (h : ¬ 12 < l.length) (k : l = [] ∨ l = [46] ∨ l = [46, 46]) : checkL l = 800 := by unfold checkL; rw [if_neg h, if_pos k]
theorem checkL_else {l : List UInt8} (h : ¬ 12 < l.length) (k : ¬ (l = [] ∨ l = [46] ∨ l = [46, 46])) : checkL l = if anyBad l then 800 else 0 := by unfold checkL; rw [if_neg h, if_neg k]
theorem runeBad_iff (p : Nat × Nat) : runeBad p = true ↔ (p.1 = 47 ∨ p.1 < 32 ∨ p.1 = 127 ∨ badRune p = true) := by
  unfold runeBad
  simp [or_assoc]
set_option maxHeartbeats 1000000 in
theorem refcheck_any (s : ByteArray) (w : World) (hs : s.size ≤ 140737488355328) :
    Calls Try.prog 32 #[.string s] w fun e w' => e = .returned (.int .i64 ((checkL s.data.toList : Nat) : Int)) ∧ w = w' := by
  have hsz : s.data.toList.length = s.size := rfl
  have htl := ByteArray.toList_eq s
  by_cases hlong : 12 < s.size
  · rw [checkL_long (by omega)]
    clear htl hsz
    go_enter Try.func32, Try.ntmps32
    go_wp2_with fail
    go_ret
    exact ⟨rfl, rfl⟩
  by_cases hdots : s.data.toList = [] ∨ s.data.toList = [46] ∨ s.data.toList = [46, 46]
  · rw [checkL_dots (by omega) hdots]
    rw [← htl] at hdots
    clear htl hsz
    rcases hdots with h | h | h
    · go_enter Try.func32, Try.ntmps32
      go_wp2_with fail
      go_ret
      exact ⟨rfl, rfl⟩
    · go_enter Try.func32, Try.ntmps32
      go_wp2_with fail
      go_ret
      exact ⟨rfl, rfl⟩
    · go_enter Try.func32, Try.ntmps32
      go_wp2_with fail
      go_ret
      exact ⟨rfl, rfl⟩
  rw [checkL_else (by omega) hdots]
  obtain ⟨R, hR⟩ : ∃ R, (if anyBad s.data.toList = true then 800 else 0) = R := ⟨_, rfl⟩
  rw [hR]
  have HR := Lib.hid hR
  clear hR
  have hd0 : s.toList.isEmpty = false := by rw [htl]; simpa using fun e => hdots (.inl e)
  have hd1 : (s.toList == [46]) = false := by rw [htl, beq_eq_false_iff_ne]; exact fun e => hdots (.inr (.inl e))
  have hd2 : (s.toList == [46, 46]) = false := by rw [htl, beq_eq_false_iff_ne]; exact fun e => hdots (.inr (.inr e))
  have he0 : ¬ s.toList = [] := by rw [htl]; exact fun e => hdots (.inl e)
  have he1 : ¬ s.toList = [46] := by rw [htl]; exact fun e => hdots (.inr (.inl e))
  have he2 : ¬ s.toList = [46, 46] := by rw [htl]; exact fun e => hdots (.inr (.inr e))
  clear htl hsz hdots
  go_enter Try.func32, Try.ntmps32
  go_wp2_with fail
  clear hd0 hd1 hd2 he0 he1 he2
  go_loop [3] (fun i => ∃ (pos : Nat), i = .int .i64 pos ∧ pos ≤ s.size ∧ anyBad (s.data.toList.drop pos) = anyBad s.data.toList) (fun i => s.size - (intOf i).toNat)
  case atStart => exact ⟨0, rfl, by omega, by simp⟩
  case round =>
    obtain ⟨pos, rfl, hps, hc⟩ := hrel
    by_cases hp : pos < s.size
    · have hw := decodeL_width (s.data.toList.drop pos)
      have hf := decodeL_fits _ (drop_ne hp)
      rw [List.length_drop] at hf
      have hsz : s.data.toList.length = s.size := rfl
      rw [hsz] at hf
      have hcc := anyBad_cons _ (drop_ne hp)
      rw [hcc] at hc
      have Hc := Lib.hid hc
      clear hcc hc hsz
      go_wp2_with fail
      refine (rune1_at s pos hp _ hs).mono ?_
      rintro e w' ⟨c, k, rfl, hc1, hk1, hk2, rfl⟩
      have hk1' : k ≤ 4 := by omega
      have Hk1 := Lib.hid hk1
      by_cases hb : runeBad (decodeL (s.data.toList.drop pos)) = true
      · have hbad : anyBad s.data.toList = true := by rw [← Hc.out, hb]; rfl
        rw [runeBad_iff, ← hc1, ← hk2] at hb
        have HB := Lib.hid hbad
        clear hc1 hk1 hk2 hbad
        by_cases c0 : k = 0
        · subst c0
          go_wp2
          go_ret
          exact ⟨retv_int (by have := HR.out; rw [if_pos HB.out] at this; omega), rfl⟩
        · by_cases c1 : c = 47
          · subst c1
            go_wp2
            go_ret
            exact ⟨retv_int (by have := HR.out; rw [if_pos HB.out] at this; omega), rfl⟩
          · by_cases c2 : c < 32
            · clear hb
              go_wp2
              go_ret
              exact ⟨retv_int (by have := HR.out; rw [if_pos HB.out] at this; omega), rfl⟩
            · obtain rfl : c = 127 := by omega
              go_wp2
              go_ret
              exact ⟨retv_int (by have := HR.out; rw [if_pos HB.out] at this; omega), rfl⟩
      · have hn : anyBad (s.data.toList.drop (pos + (decodeL (s.data.toList.drop pos)).2)) = anyBad s.data.toList := by
          rw [← Hc.out, Bool.eq_false_iff.2 hb, List.drop_drop]; rfl
        rw [runeBad_iff, ← hc1, ← hk2] at hb
        have c0 : 1 ≤ k := by omega
        have c1 : ¬ c = 47 := by omega
        have c2 : ¬ c < 32 := by omega
        have c3 : ¬ c = 127 := by omega
        have q0 : ((k : Int) == 0) = false := by rw [beq_eq_false_iff_ne]; omega
        have q1 : ((c : Int) == 47) = false := by rw [beq_eq_false_iff_ne]; omega
        have q3 : ((c : Int) == 127) = false := by rw [beq_eq_false_iff_ne]; omega
        have q2 : decide ((c : Int) < 32) = false := by simp; omega
        have HN := Lib.hid hn
        clear hc1 hk1 hk2 hb hn
        go_wp2
        go_round
        case rel => exact ⟨pos + (decodeL (s.data.toList.drop pos)).2, valv_int (by have := Hk1.out; omega), by omega, HN.out⟩
        case measure => simp [intOf]; omega
    · rw [drop_all hp, anyBad_nil] at hc
      have Hc := Lib.hid hc
      clear hc
      go_wp2
      go_ret
      exact ⟨retv_int (by have := HR.out; rw [if_neg (by rw [← Hc.out]; simp)] at this; omega), rfl⟩
end Go.Proofs.Ytihkjpfibogpdab
