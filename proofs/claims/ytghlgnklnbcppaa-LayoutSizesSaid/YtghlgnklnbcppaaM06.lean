/- Parts of the proof, side by side: RefCheck, Check, May. -/
import Derived.Test.YtghlgnklnbcppaaM05
set_option linter.unusedVariables false
set_option linter.unusedSimpArgs false
/- The reference's Check, by its contract. -/
namespace Go.Proofs.Ytghlgnklnbcppaa
open Go.RowKit
set_option linter.unusedVariables false
theorem checkL_long {l : List UInt8} (h : 12 < l.length) : checkL l = 801 := if_pos h
theorem checkL_dots {l : List UInt8} (h : ¬ 12 < l.length) (k : l = [] ∨ l = [46] ∨ l = [46, 46]) : checkL l = 800 := by unfold checkL; rw [if_neg h, if_pos k]
theorem checkL_else {l : List UInt8} (h : ¬ 12 < l.length) (k : ¬ (l = [] ∨ l = [46] ∨ l = [46, 46])) : checkL l = if anyBad l then 800 else 0 := by unfold checkL; rw [if_neg h, if_neg k]
theorem runeBad_iff (p : Nat × Nat) : runeBad p = true ↔ (p.1 = 47 ∨ p.1 < 32 ∨ p.1 = 127 ∨ badRune p = true) := by
  unfold runeBad
  simp [or_assoc]
set_option maxHeartbeats 1000000 in
theorem refcheck_any (s : ByteArray) (w : World) (hs : s.size ≤ 140737488355328) :
    Calls Try.prog 144 #[.string s] w fun e w' => e = .returned (.int .i64 ((checkL s.data.toList : Nat) : Int)) ∧ w = w' := by
  have hsz : s.data.toList.length = s.size := rfl
  have htl := ByteArray.toList_eq s
  by_cases hlong : 12 < s.size
  · rw [checkL_long (by omega)]
    clear htl hsz
    go_enter Try.func144, Try.ntmps144
    go_wp2_with fail
    go_ret
    exact ⟨rfl, rfl⟩
  by_cases hdots : s.data.toList = [] ∨ s.data.toList = [46] ∨ s.data.toList = [46, 46]
  · rw [checkL_dots (by omega) hdots]
    rw [← htl] at hdots
    clear htl hsz
    rcases hdots with h | h | h
    · go_enter Try.func144, Try.ntmps144
      go_wp2_with fail
      go_ret
      exact ⟨rfl, rfl⟩
    · go_enter Try.func144, Try.ntmps144
      go_wp2_with fail
      go_ret
      exact ⟨rfl, rfl⟩
    · go_enter Try.func144, Try.ntmps144
      go_wp2_with fail
      go_ret
      exact ⟨rfl, rfl⟩
  rw [checkL_else (by omega) hdots]
  obtain ⟨R, hR⟩ : ∃ R, (if anyBad s.data.toList = true then 800 else 0) = R := ⟨_, rfl⟩
  rw [hR]
  have HR := Lib.hid hR
  clear hR
  have hd0 : s.toList.isEmpty = false := by rw [htl]; simpa using fun e => hdots (.inl e)
  have hd1 : (s.toList == [46]) = false := by rw [htl, beq_eq_false_iff_ne]; exact fun e => hdots (.inr (.inl e))
  have hd2 : (s.toList == [46, 46]) = false := by rw [htl, beq_eq_false_iff_ne]; exact fun e => hdots (.inr (.inr e))
  have he0 : ¬ s.toList = [] := by rw [htl]; exact fun e => hdots (.inl e)
  have he1 : ¬ s.toList = [46] := by rw [htl]; exact fun e => hdots (.inr (.inl e))
  have he2 : ¬ s.toList = [46, 46] := by rw [htl]; exact fun e => hdots (.inr (.inr e))
  clear htl hsz hdots
  go_enter Try.func144, Try.ntmps144
  go_wp2_with fail
  clear hd0 hd1 hd2 he0 he1 he2
  go_loop [3] (fun i => ∃ (pos : Nat), i = .int .i64 pos ∧ pos ≤ s.size ∧ anyBad (s.data.toList.drop pos) = anyBad s.data.toList) (fun i => s.size - (intOf i).toNat)
  case atStart => exact ⟨0, rfl, by omega, by simp⟩
  case round =>
    obtain ⟨pos, rfl, hps, hc⟩ := hrel
    by_cases hp : pos < s.size
    · have hw := decodeL_width (s.data.toList.drop pos)
      have hf := decodeL_fits _ (drop_ne hp)
      rw [List.length_drop] at hf
      have hsz : s.data.toList.length = s.size := rfl
      rw [hsz] at hf
      have hcc := anyBad_cons _ (drop_ne hp)
      rw [hcc] at hc
      have Hc := Lib.hid hc
      clear hcc hc hsz
      go_wp2_with fail
      refine (rune1_at s pos hp _ hs).mono ?_
      rintro e w' ⟨c, k, rfl, hc1, hk1, hk2, rfl⟩
      have hk1' : k ≤ 4 := by omega
      have Hk1 := Lib.hid hk1
      by_cases hb : runeBad (decodeL (s.data.toList.drop pos)) = true
      · have hbad : anyBad s.data.toList = true := by rw [← Hc.out, hb]; rfl
        rw [runeBad_iff, ← hc1, ← hk2] at hb
        have HB := Lib.hid hbad
        clear hc1 hk1 hk2 hbad
        by_cases c0 : k = 0
        · subst c0
          go_wp2
          go_ret
          exact ⟨retv_int (by have := HR.out; rw [if_pos HB.out] at this; omega), rfl⟩
        · by_cases c1 : c = 47
          · subst c1
            go_wp2
            go_ret
            exact ⟨retv_int (by have := HR.out; rw [if_pos HB.out] at this; omega), rfl⟩
          · by_cases c2 : c < 32
            · clear hb
              go_wp2
              go_ret
              exact ⟨retv_int (by have := HR.out; rw [if_pos HB.out] at this; omega), rfl⟩
            · obtain rfl : c = 127 := by omega
              go_wp2
              go_ret
              exact ⟨retv_int (by have := HR.out; rw [if_pos HB.out] at this; omega), rfl⟩
      · have hn : anyBad (s.data.toList.drop (pos + (decodeL (s.data.toList.drop pos)).2)) = anyBad s.data.toList := by
          rw [← Hc.out, Bool.eq_false_iff.2 hb, List.drop_drop]; rfl
        rw [runeBad_iff, ← hc1, ← hk2] at hb
        have c0 : 1 ≤ k := by omega
        have c1 : ¬ c = 47 := by omega
        have c2 : ¬ c < 32 := by omega
        have c3 : ¬ c = 127 := by omega
        have q0 : ((k : Int) == 0) = false := by rw [beq_eq_false_iff_ne]; omega
        have q1 : ((c : Int) == 47) = false := by rw [beq_eq_false_iff_ne]; omega
        have q3 : ((c : Int) == 127) = false := by rw [beq_eq_false_iff_ne]; omega
        have q2 : decide ((c : Int) < 32) = false := by simp; omega
        have HN := Lib.hid hn
        clear hc1 hk1 hk2 hb hn
        go_wp2
        go_round
        case rel => exact ⟨pos + (decodeL (s.data.toList.drop pos)).2, valv_int (by have := Hk1.out; omega), by omega, HN.out⟩
        case measure => simp [intOf]; omega
    · rw [drop_all hp, anyBad_nil] at hc
      have Hc := Lib.hid hc
      clear hc
      go_wp2
      go_ret
      exact ⟨retv_int (by have := HR.out; rw [if_neg (by rw [← Hc.out]; simp)] at this; omega), rfl⟩
end Go.Proofs.Ytghlgnklnbcppaa

/- name.Check, by its contract. -/
namespace Go.Proofs.Ytghlgnklnbcppaa
open Go.RowKit
set_option linter.unusedVariables false
set_option maxHeartbeats 400000 in
theorem hasPrefix_yes (t p : ByteArray) (w : World) (ht : t.size ≤ maxLen) (h : p.size ≤ t.size) (e : (t.extract 0 p.size).toList = p.toList) :
    Calls Try.prog 93 #[.string t, .string p] w fun e w' => e = .returned (.bool true) ∧ w = w' := by
  unfold maxLen at ht
  have hp : p.size ≤ 9223372036854775807 := by omega
  go_enter Try.func93, Try.ntmps93
  go_wp2
  go_ret
  exact ⟨rfl, rfl⟩
set_option maxHeartbeats 400000 in
theorem hasPrefix_no (t p : ByteArray) (w : World) (ht : t.size ≤ maxLen) (hp : p.size ≤ maxLen) (e : ¬ (p.size ≤ t.size ∧ (t.extract 0 p.size).toList = p.toList)) :
    Calls Try.prog 93 #[.string t, .string p] w fun e w' => e = .returned (.bool false) ∧ w = w' := by
  unfold maxLen at ht hp
  by_cases h : p.size ≤ t.size
  · have e2 : ((t.extract 0 p.size).toList == p.toList) = false := by rw [beq_eq_false_iff_ne]; exact fun h2 => e ⟨h, h2⟩
    clear e
    go_enter Try.func93, Try.ntmps93
    go_wp2
    go_ret
    exact ⟨rfl, rfl⟩
  · clear e
    go_enter Try.func93, Try.ntmps93
    go_wp2
    go_ret
    exact ⟨rfl, rfl⟩
theorem decodeN_valid (n b0 b1 b2 b3 : Nat) : (Lib.decodeN n b0 b1 b2 b3).1 < 55296 ∨ 57344 ≤ (Lib.decodeN n b0 b1 b2 b3).1 := by
  unfold Lib.decodeN
  repeat' split
  all_goals (simp only; omega)
theorem decodeN_ffd (n b0 b1 b2 b3 : Nat) (h0 : b0 < 256) (h1 : b1 < 256) (h2 : b2 < 256) (h : (Lib.decodeN n b0 b1 b2 b3).1 = 65533) :
    (Lib.decodeN n b0 b1 b2 b3).2 = 1 ↔ ¬ (3 ≤ n ∧ b0 = 239 ∧ b1 = 191 ∧ b2 = 189) := by
  unfold Lib.decodeN at h ⊢
  repeat' split
  all_goals (simp_all; try omega)
theorem enc_eq (c : Nat) (hv : c < 55296 ∨ 57344 ≤ c) (hc : c ≤ 1114111) : (Utf8.encode (c : Int)).toList = [239, 191, 189] ↔ c = 65533 := by
  have hval : Utf8.valid (c : Int) = true := by unfold Utf8.valid; simp; omega
  rw [ByteArray.toList_eq]
  unfold Utf8.encode
  simp only [hval, if_true, Int.toNat_natCast]
  by_cases h1 : c < 128
  · rw [if_pos h1]; simp; omega
  rw [if_neg h1]
  by_cases h2 : c < 2048
  · rw [if_pos h2]; simp; omega
  rw [if_neg h2]
  by_cases h3 : c < 65536
  · rw [if_pos h3]
    simp only [List.cons.injEq, and_true, ← UInt8.toNat_inj, UInt8.toNat_ofNat']
    simp
    omega
  · rw [if_neg h3]; simp; omega
theorem take3 (l : List UInt8) : l.take 3 = [239, 191, 189] ↔ (3 ≤ l.length ∧ (l.getD 0 0).toNat = 239 ∧ (l.getD 1 0).toNat = 191 ∧ (l.getD 2 0).toNat = 189) := by
  match l with
  | [] => simp
  | [a] => simp
  | [a, b] => simp
  | a :: b :: c :: r =>
    simp [← UInt8.toNat_inj]
theorem ffd_bad (l : List UInt8) (h : (decodeL l).1 = 65533) : badRune (decodeL l) = true ↔ ¬ l.take 3 = [239, 191, 189] := by
  rw [take3, ← decodeN_ffd l.length _ _ _ _ (l.getD 0 0).toNat_lt (l.getD 1 0).toNat_lt (l.getD 2 0).toNat_lt h]
  unfold badRune
  show _ ↔ (decodeL l).2 = 1
  simp [h]
set_option maxHeartbeats 1000000 in
theorem check_any (s : ByteArray) (w : World) (hs : s.size ≤ 140737488355328) :
    Calls Try.prog 115 #[.string s] w fun e w' => e = .returned (.int .i64 ((checkL s.data.toList : Nat) : Int)) ∧ Below w.heap.size w w' := by
  have hsz : s.data.toList.length = s.size := rfl
  have htl := ByteArray.toList_eq s
  by_cases hlong : 12 < s.size
  · rw [checkL_long (by omega)]
    clear htl hsz
    go_enter Try.func115, Try.ntmps115
    go_wp2_with fail
    go_ret
    exact ⟨rfl, Below.refl _ _⟩
  by_cases hdots : s.data.toList = [] ∨ s.data.toList = [46] ∨ s.data.toList = [46, 46]
  · rw [checkL_dots (by omega) hdots]
    rw [← htl] at hdots
    clear htl hsz
    rcases hdots with h | h | h
    all_goals
      go_enter Try.func115, Try.ntmps115
      go_wp2_with fail
      go_ret
      exact ⟨rfl, Below.refl _ _⟩
  rw [checkL_else (by omega) hdots]
  obtain ⟨R, hR⟩ : ∃ R, (if anyBad s.data.toList = true then 800 else 0) = R := ⟨_, rfl⟩
  rw [hR]
  have HR := Lib.hid hR
  clear hR
  have hd0 : s.toList.isEmpty = false := by rw [htl]; simpa using fun e => hdots (.inl e)
  have hd1 : (s.toList == [46]) = false := by rw [htl, beq_eq_false_iff_ne]; exact fun e => hdots (.inr (.inl e))
  have hd2 : (s.toList == [46, 46]) = false := by rw [htl, beq_eq_false_iff_ne]; exact fun e => hdots (.inr (.inr e))
  have he0 : ¬ s.toList = [] := by rw [htl]; exact fun e => hdots (.inl e)
  have he1 : ¬ s.toList = [46] := by rw [htl]; exact fun e => hdots (.inr (.inl e))
  have he2 : ¬ s.toList = [46, 46] := by rw [htl]; exact fun e => hdots (.inr (.inr e))
  have Htl := Lib.hid htl
  clear htl hsz hdots
  go_enter Try.func115, Try.ntmps115
  go_wp2_with fail
  clear hd0 hd1 hd2 he0 he1 he2
  go_loopw [3, 4] (fun _ _ w' => ∃ (pos : Nat), w' = w.iter s pos ∧ anyBad (s.data.toList.drop pos) = anyBad s.data.toList) (fun _ _ w' => s.size - w'.iterPos w.heap.size)
  case atStart => exact ⟨0, rfl, by simp⟩
  case round =>
    obtain ⟨pos, rfl, hc⟩ := hrel
    by_cases hp : pos < s.size
    · have hd := decode_list s pos
      have hw := decodeL_width (s.data.toList.drop pos)
      have hle := decodeL_le (s.data.toList.drop pos)
      have hvl := decodeN_valid (s.data.toList.drop pos).length ((s.data.toList.drop pos).getD 0 0).toNat ((s.data.toList.drop pos).getD 1 0).toNat ((s.data.toList.drop pos).getD 2 0).toNat ((s.data.toList.drop pos).getD 3 0).toNat
      have hff := ffd_bad (s.data.toList.drop pos)
      have hcc := anyBad_cons _ (drop_ne hp)
      rw [hcc] at hc
      have hnx : ∀ ty, (Instr.next (.pointer (some ⟨w.heap.size, 0, none⟩)) true ty).run Try.prog (w.iter s pos) = _ := fun ty => run_next_any w s pos ty hp
      rw [hd] at hnx
      change (decodeL (s.data.toList.drop pos)).1 < 55296 ∨ 57344 ≤ (decodeL (s.data.toList.drop pos)).1 at hvl
      obtain ⟨q, hq⟩ : ∃ q, decodeL (s.data.toList.drop pos) = q := ⟨_, rfl⟩
      rw [hq] at hnx hvl hle hw hff hc
      obtain ⟨c, v⟩ := q
      simp only at hnx hvl hle hw hff hc
      have henc := enc_eq c hvl hle
      have Hc := Lib.hid hc
      have Henc := Lib.hid henc
      have Hff := Lib.hid hff
      clear hd hcc hc hq henc hff
      by_cases c1 : c = 47
      · subst c1
        go_wp2
        go_ret
        exact ⟨retv_int (by have := HR.out; rw [if_pos (by rw [← Hc.out, show runeBad _ = true from (runeBad_iff _).2 (by simp; try omega)]; rfl)] at this; omega), below_iter _ _ _⟩
      by_cases c2 : c < 32
      · go_wp2
        go_ret
        exact ⟨retv_int (by have := HR.out; rw [if_pos (by rw [← Hc.out, show runeBad _ = true from (runeBad_iff _).2 (by simp; try omega)]; rfl)] at this; omega), below_iter _ _ _⟩
      by_cases c3 : c = 127
      · subst c3
        go_wp2
        go_ret
        exact ⟨retv_int (by have := HR.out; rw [if_pos (by rw [← Hc.out, show runeBad _ = true from (runeBad_iff _).2 (by simp; try omega)]; rfl)] at this; omega), below_iter _ _ _⟩
      have q1 : ((c : Int) == 47) = false := by rw [beq_eq_false_iff_ne]; omega
      have q3 : ((c : Int) == 127) = false := by rw [beq_eq_false_iff_ne]; omega
      have q2 : decide ((c : Int) < 32) = false := by simp; omega
      by_cases c4 : c = 65533
      · have q4 : ((Utf8.encode (c : Int)).toList == [239, 191, 189]) = true := by rw [beq_iff_eq]; exact Henc.out.2 c4
        have hex0 : (s.extract pos s.size).size = s.size - pos := by simp
        have hexl : (s.extract pos s.size).size ≤ maxLen := by rw [hex0]; unfold maxLen; omega
        have hex3 : ((s.extract pos s.size).extract 0 3).toList = (s.data.toList.drop pos).take 3 := by
          rw [ByteArray.toList_eq]
          simp [List.extract_eq_take_drop]
          omega
        by_cases c5 : (s.data.toList.drop pos).take 3 = [239, 191, 189]
        · have hlen : 3 ≤ s.size - pos := by
            have := congrArg List.length c5
            rw [List.length_take, List.length_drop] at this
            have hsz : s.data.toList.length = s.size := rfl
            simp at this
            omega
          have C4 := Lib.hid c4
          have C5 := Lib.hid c5
          have H3 := Lib.hid hex3
          have H0 := Lib.hid hex0
          clear c4 c5 hex3 hex0
          go_wp2_with fail
          refine (hasPrefix_yes _ _ _ hexl (by rw [H0.out]; exact hlen) (by rw [show (ByteArray.mk #[239, 191, 189]).size = 3 from rfl, H3.out, C5.out]; rw [ByteArray.toList_eq])).mono ?_
          rintro e w' ⟨rfl, rfl⟩
          go_wp2
          go_roundw
          case rel => exact ⟨pos + v, rfl, by
            have hb : ¬ badRune (c, v) = true := fun e => (Hff.out C4.out).1 e C5.out
            rw [← Hc.out, show runeBad _ = false from Bool.eq_false_iff.2 (fun e => by rw [runeBad_iff] at e; simp only [hb] at e; simp at e; omega), List.drop_drop]; rfl⟩
          case measure => simp; omega
        · have hno : ¬ ((ByteArray.mk #[239, 191, 189]).size ≤ (s.extract pos s.size).size ∧ ((s.extract pos s.size).extract 0 (ByteArray.mk #[239, 191, 189]).size).toList = (ByteArray.mk #[239, 191, 189]).toList) := by
            rw [show (ByteArray.mk #[239, 191, 189]).size = 3 from rfl, hex3, ByteArray.toList_eq]
            exact fun e => c5 e.2
          have C4 := Lib.hid c4
          have C5 := Lib.hid c5
          have HN := Lib.hid hno
          clear c4 c5 hex3 hex0 hno
          go_wp2_with fail
          refine (hasPrefix_no _ _ _ hexl (by rw [show (ByteArray.mk #[239, 191, 189]).size = 3 from rfl]; unfold maxLen; omega) HN.out).mono ?_
          rintro e w' ⟨rfl, rfl⟩
          have hbad : badRune (c, v) = true := (Hff.out C4.out).2 C5.out
          have HB := Lib.hid hbad
          clear hbad
          go_wp2
          go_ret
          exact ⟨retv_int (by have := HR.out; rw [if_pos (by rw [← Hc.out, show runeBad _ = true from (runeBad_iff _).2 (.inr (.inr (.inr HB.out)))]; rfl)] at this; omega), below_iter _ _ _⟩
      · have q4 : ((Utf8.encode (c : Int)).toList == [239, 191, 189]) = false := by rw [beq_eq_false_iff_ne]; exact fun e => c4 (Henc.out.1 e)
        go_wp2_with fail
        go_roundw
        case rel => exact ⟨pos + v, rfl, by rw [← Hc.out, show runeBad _ = false from Bool.eq_false_iff.2 (fun e => by rw [runeBad_iff] at e; simp [badRune] at e; omega), List.drop_drop]; rfl⟩
        case measure => simp; omega
    · have hnx : ∀ ty, (Instr.next (.pointer (some ⟨w.heap.size, 0, none⟩)) true ty).run Try.prog (w.iter s pos) = _ := fun ty => run_next_end w s pos ty hp
      rw [drop_all hp, anyBad_nil] at hc
      have Hc := Lib.hid hc
      clear hc
      go_wp2
      go_ret
      exact ⟨retv_int (by have := HR.out; rw [if_neg (by rw [← Hc.out]; simp)] at this; omega), below_iter _ _ _⟩
end Go.Proofs.Ytghlgnklnbcppaa

/- name.May by its contract; Check and May at texts that are known. -/
namespace Go.Proofs.Ytghlgnklnbcppaa
open Go.RowKit
set_option linter.unusedVariables false
def mayL (l : List UInt8) : Bool := checkL l == 0
theorem below_next8 {a b c : World} (h : Below a.heap.size a b) (k : Below b.heap.size b c) : Below a.heap.size a c := h.trans (k.mono h.size)
theorem retv_bool {a b : Bool} (h : a = b) : Ending.returned (.bool a) = .returned (.bool b) := by rw [h]
theorem numv_any (n : Int) (w : World) : Calls Try.prog 9 #[.int .i64 n] w fun e w' => e = .returned (.int .i64 n) ∧ w = w' := by
  go_enter Try.func9, Try.ntmps9
  go_wp2
  go_ret
  exact ⟨rfl, rfl⟩
set_option maxHeartbeats 400000 in
theorem may_any (s : ByteArray) (w : World) (hs : s.size ≤ 140737488355328) :
    Calls Try.prog 138 #[.string s] w fun e w' => e = .returned (.bool (mayL s.data.toList)) ∧ Below w.heap.size w w' := by
  go_enter Try.func138, Try.ntmps138
  go_wp2_with fail
  refine (check_any s _ hs).mono ?_
  rintro e w1 ⟨rfl, hb⟩
  go_wp2
  go_ret
  refine ⟨retv_bool ?_, hb⟩
  unfold mayL
  rw [Bool.eq_iff_iff, beq_iff_eq, beq_iff_eq]
  omega
theorem check_lit (s : ByteArray) (n : Nat) (hs : s.size ≤ 140737488355328) (h : checkL s.data.toList = n) (w : World) :
    Calls Try.prog 115 #[.string s] w fun e w' => e = .returned (.int .i64 (n : Int)) ∧ Below w.heap.size w w' :=
  (check_any s w hs).mono fun e w' ⟨he, hb⟩ => ⟨by rw [he, h], hb⟩
theorem may_lit (s : ByteArray) (b : Bool) (hs : s.size ≤ 140737488355328) (h : mayL s.data.toList = b) (w : World) :
    Calls Try.prog 138 #[.string s] w fun e w' => e = .returned (.bool b) ∧ Below w.heap.size w w' :=
  (may_any s w hs).mono fun e w' ⟨he, hb⟩ => ⟨by rw [he, h], hb⟩
end Go.Proofs.Ytghlgnklnbcppaa
