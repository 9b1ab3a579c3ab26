/- Parts of the proof, side by side: MoFind2, MoMade, Check, May, MoEnts, MoEnts2. -/
import Derived.Test.YtghlgnklnbcppaaM05
import Derived.Test.YtghlgnklnbcppaaM04
set_option linter.unusedVariables false
set_option linter.unusedSimpArgs false
set_option linter.unusedVariables false
set_option linter.unusedSimpArgs false
namespace Go.Proofs.Ytghlgnklnbcppaa
open Go.RowKit
theorem PtrAt.val {w : World} {p : Nat} {s : St} (h : PtrAt w p s) : ∃ A n c E m d D k e, p < w.heap.size ∧ w.cell? ⟨p, 0, none⟩ = some (.slice A n c) ∧ w.cell? ⟨p, 1, none⟩ = some (.slice E m d) ∧ w.cell? ⟨p, 2, none⟩ = some (.slice D k e) ∧
  InosAt none w A n s.inos ∧ DescsAt none w E m s.opn ∧ IntsAt none w D k s.made ∧ n ≤ 1099511627776 ∧ m ≤ 1099511627776 ∧ k ≤ 1099511627776 := by
 obtain ⟨⟨A, n, c, E, m, d, D, k, e, h1, h2, h3, h4, h5, h6, h7⟩, hz⟩ := h
 have hbig := hz.big
 have l1 := h2.1
 have l2 := h3.1
 have l3 := h4.1
 refine ⟨A, n, c, E, m, d, D, k, e, (Array.getElem?_eq_some_iff.1 h1).1, ?_, ?_, ?_, h2, h3, h4, by omega, by omega, by omega⟩ <;> (rw [cell_of_row w p _ _ _ (0, 0) h1]; rfl)
set_option maxRecDepth 100000 in
set_option maxHeartbeats 4000000 in
theorem mfind_any (p : Nat) (s : St) (num : Int) (w : World) (h : PtrAt w p s) (hr : RiseI s.inos) :
  Calls Try.prog 90 #[.pointer (some ⟨p, 0, .none⟩), .int .i64 num] w fun e w' => e = .returned (.int .i64 (atV s.inos num)) ∧ Below w.heap.size w w' := by
 obtain ⟨A, n, c, E, m, d, D, k, e, hp, c0, c1, c2, hI, hD, hM, hn, _, _⟩ := h.val
 obtain ⟨R, hR⟩ : ∃ R, atV s.inos num = R := ⟨_, rfl⟩
 rw [hR]
 go_enter Try.func90, Try.ntmps90
 go_wp2_with fail
 refine (bsearch_any s.inos A n c num w hI hn hr).mono ?_
 rintro e1 w1 ⟨i, b, rfl, hb, hat⟩
 rw [hR] at hat
 cases b
 ·rw [if_neg (by decide)] at hat
  subst hat
  go_wp2_with fail
  go_ret
  exact ⟨rfl, hb⟩
 ·rw [if_pos rfl] at hat
  subst hat
  go_wp2_with fail
  go_ret
  exact ⟨rfl, hb⟩
end Go.Proofs.Ytghlgnklnbcppaa

set_option linter.unusedVariables false
set_option linter.unusedSimpArgs false
namespace Go.Proofs.Ytghlgnklnbcppaa
open Go.RowKit
theorem made1_any (x : Int) (w : World) : Calls Try.prog 87 #[.int .i64 x] w fun e w' => e = .returned (.bool (decide (x < 0) || decide (32 < x))) ∧ w = w' := by
 go_enter Try.func87, Try.ntmps87
 by_cases h1 : x < 0
 ·have q1 : decide (x < 0) = true := decide_eq_true h1
  go_wp2_with fail
  go_ret
  exact ⟨by rw [q1]; rfl, rfl⟩
 ·have q1 : decide (x < 0) = false := decide_eq_false h1
  go_wp2_with fail
  go_ret
  exact ⟨by first | rfl | (rw [q1]; rfl), rfl⟩
set_option maxRecDepth 100000 in
set_option maxHeartbeats 4000000 in
theorem indexmade_any (xs : List Int) (A : Option Addr) (n c : Nat) (w : World) (hI : IntsAt none w A n xs) (hn : n ≤ 1099511627776) :
  Calls Try.prog 135 #[.slice A n c, .func (.func 87) #[] #[]] w fun e w' => ∃ r : Int, e = .returned (.int .i64 r) ∧ w = w' ∧ (madeG xs = decide (r < 0)) := by
 obtain ⟨R, hR⟩ : ∃ R, madeG xs = R := ⟨_, rfl⟩
 rw [hR]
 have HI := Lib.hid hI
 have HR := Lib.hid hR
 clear hI hR
 go_enter Try.func135, Try.ntmps135
 go_wp2_with fail
 go_loop [8] (fun j => ∃ q : Nat, j = .int .i64 q ∧ q ≤ n ∧ madeG (xs.drop q) = R) (fun j => n - (intOf j).toNat)
 case atStart => exact ⟨0, rfl, by omega, HR.out⟩
 case round =>
  obtain ⟨q, rfl, hq, hc⟩ := hrel
  by_cases hlt : q < n
  ·obtain ⟨g, off, x, rfl, hg, hx, hd, hmem, c0⟩ := HI.out.get q hlt
   rw [hd, madeG] at hc
   have HC := Lib.hid hc
   have k0 : (0 : Int) ≤ (q : Int) := by omega
   clear hc hd hmem hx
   go_wp2_with fail
   refine (made1_any x _).mono ?_
   rintro e5 w5 ⟨rfl, rfl⟩
   obtain ⟨bb, hbb⟩ : ∃ bb, (decide (x < 0) || decide (32 < x)) = bb := ⟨_, rfl⟩
   rw [hbb]
   have hc := HC.out
   cases bb
   ·have hnx : ¬(x < 0 ∨ 32 < x) := by
     rw [Bool.or_eq_false_iff, decide_eq_false_iff_not, decide_eq_false_iff_not] at hbb
     omega
    rw [if_neg hnx] at hc
    have HC2 := Lib.hid hc
    clear hc hbb
    go_wp2_with fail
    go_round
    case rel => exact ⟨q + 1, by go_num, by omega, HC2.out⟩
    case measure => simp [intOf]; omega
   ·have hnx : x < 0 ∨ 32 < x := by
     rw [Bool.or_eq_true, decide_eq_true_eq, decide_eq_true_eq] at hbb
     exact hbb
    rw [if_pos hnx] at hc
    have HC2 := Lib.hid hc
    clear hc hbb
    go_wp2_with fail
    go_ret
    refine ⟨(q : Int), rfl, rfl, ?_⟩
    rw [← HC2.out, decide_eq_false (show ¬ (q : Int) < 0 by omega)]
  ·have hnil : xs.drop q = [] := List.drop_eq_nil_of_le (by have := HI.out.1; omega)
   rw [hnil, madeG] at hc
   have HC := Lib.hid hc
   clear hc hnil
   go_wp2_with fail
   go_ret
   exact ⟨-1, rfl, rfl, HC.out.symm⟩
theorem containsmade_any (xs : List Int) (A : Option Addr) (n c : Nat) (w : World) (hI : IntsAt none w A n xs) (hn : n ≤ 1099511627776) :
  Calls Try.prog 86 #[.slice A n c, .func (.func 87) #[] #[]] w fun e w' => e = .returned (.bool (!madeG xs)) ∧ w = w' := by
 go_enter Try.func86, Try.ntmps86
 go_wp2_with fail
 refine (indexmade_any xs A n c w hI hn).mono ?_
 rintro e5 w5 ⟨r, rfl, rfl, hr⟩
 by_cases h0 : 0 ≤ r
 ·have q0 : decide ((0 : Int) ≤ r) = true := decide_eq_true h0
  go_wp2_with fail
  go_ret
  exact ⟨by rw [hr, decide_eq_false (by omega)]; rfl, rfl⟩
 ·have q0 : decide ((0 : Int) ≤ r) = false := decide_eq_false h0
  go_wp2_with fail
  go_ret
  exact ⟨by rw [hr, decide_eq_true (by omega)]; rfl, rfl⟩
def mMadeV (s : St) : Bool := decide (1 ≤ s.made.length) && decide (s.made.length ≤ 8) && madeG s.made
set_option maxRecDepth 100000 in
set_option maxHeartbeats 4000000 in
theorem maymade_any (p : Nat) (s : St) (w : World) (h : PtrAt w p s) :
  Calls Try.prog 48 #[.pointer (some ⟨p, 0, .none⟩)] w fun e w' => e = .returned (.bool (mMadeV s)) ∧ w = w' := by
 obtain ⟨A, n, c, E, m, d, D, k, e, hp, c0, c1, c2, hI, hD, hM, hn, _, hk⟩ := h.val
 have hkl := hM.1
 go_enter Try.func48, Try.ntmps48
 unfold mMadeV
 by_cases h1 : 1 ≤ k
 ·by_cases h8 : k ≤ 8
  ·have q1 : decide ((k : Int) < 1) = false := by rw [decide_eq_false_iff_not]; omega
   have q8 : decide ((8 : Int) < (k : Int)) = false := by rw [decide_eq_false_iff_not]; omega
   go_wp2_with fail
   refine (containsmade_any s.made D k e _ hM hk).mono ?_
   rintro e5 w5 ⟨rfl, rfl⟩
   go_wp2_with fail
   go_ret
   exact ⟨by rw [decide_eq_true (show 1 ≤ s.made.length by omega), decide_eq_true (show s.made.length ≤ 8 by omega)]; simp, rfl⟩
  ·have q1 : decide ((k : Int) < 1) = false := by rw [decide_eq_false_iff_not]; omega
   have q8 : decide ((8 : Int) < (k : Int)) = true := by rw [decide_eq_true_eq]; omega
   go_wp2_with fail
   go_ret
   exact ⟨by rw [decide_eq_false (show ¬ s.made.length ≤ 8 by omega)]; simp, rfl⟩
 ·have q1 : decide ((k : Int) < 1) = true := by rw [decide_eq_true_eq]; omega
  go_wp2_with fail
  go_ret
  exact ⟨by rw [decide_eq_false (show ¬ 1 ≤ s.made.length by omega)]; simp, rfl⟩
theorem core_any (num : Int) (h1 : -9223372036854775808 ≤ num) (h2 : num ≤ 9223372036854775807) (w : World) :
  Calls Try.prog 136 #[.int .i64 num] w fun e w' => e = .returned (.int .i64 (if num < 2 then -1 else (num - 2) % 8)) ∧ w = w' := by
 go_enter Try.func136, Try.ntmps136
 by_cases h : num < 2
 ·have q : decide (num < 2) = true := decide_eq_true h
  rw [if_pos h]
  go_wp2_with fail
  go_ret
  exact ⟨rfl, rfl⟩
 ·have q : decide (num < 2) = false := decide_eq_false h
  rw [if_neg h]
  have e1 : (num - 2).tmod 8 = (num - 2) % 8 := Int.tmod_eq_emod_of_nonneg (by omega)
  have w1 : IntKind.i64.wrap (num - 2) = num - 2 := by rw [IntKind.wrap_i64]; omega
  have w2 : IntKind.i64.wrap ((num - 2) % 8) = (num - 2) % 8 := by rw [IntKind.wrap_i64]; omega
  go_wp2_with fail
  go_ret
  exact ⟨rfl, rfl⟩
theorem made_any (num : Int) (h1 : 2 ≤ num) (h2 : num ≤ 9223372036854775807) (w : World) :
  Calls Try.prog 137 #[.int .i64 num] w fun e w' => e = .returned (.int .i64 ((num - 2) / 8)) ∧ w = w' := by
 go_enter Try.func137, Try.ntmps137
 have e1 : (num - 2).tdiv 8 = (num - 2) / 8 := Int.tdiv_eq_ediv_of_nonneg (by omega)
 have w1 : IntKind.i64.wrap (num - 2) = num - 2 := by rw [IntKind.wrap_i64]; omega
 have w2 : IntKind.i64.wrap ((num - 2) / 8) = (num - 2) / 8 := by rw [IntKind.wrap_i64]; omega
 go_wp2_with fail
 go_ret
 exact ⟨rfl, rfl⟩
end Go.Proofs.Ytghlgnklnbcppaa

set_option linter.unusedVariables false
set_option linter.unusedSimpArgs false
namespace Go.Proofs.Ytghlgnklnbcppaa
open Go.RowKit
set_option maxHeartbeats 400000 in
theorem hasPrefix_yes (t p : ByteArray) (w : World) (ht : t.size ≤ maxLen) (h : p.size ≤ t.size) (e : (t.extract 0 p.size).toList = p.toList) :
  Calls Try.prog 93 #[.string t, .string p] w fun e w' => e = .returned (.bool true) ∧ w = w' := by
 unfold maxLen at ht
 have hp : p.size ≤ 9223372036854775807 := by omega
 go_enter Try.func93, Try.ntmps93
 go_wp2
 go_ret
 exact ⟨rfl, rfl⟩
set_option maxHeartbeats 400000 in
theorem hasPrefix_no (t p : ByteArray) (w : World) (ht : t.size ≤ maxLen) (hp : p.size ≤ maxLen) (e : ¬ (p.size ≤ t.size ∧ (t.extract 0 p.size).toList = p.toList)) :
  Calls Try.prog 93 #[.string t, .string p] w fun e w' => e = .returned (.bool false) ∧ w = w' := by
 unfold maxLen at ht hp
 by_cases h : p.size ≤ t.size
 ·have e2 : ((t.extract 0 p.size).toList == p.toList) = false := by rw [beq_eq_false_iff_ne]; exact fun h2 => e ⟨h, h2⟩
  clear e
  go_enter Try.func93, Try.ntmps93
  go_wp2
  go_ret
  exact ⟨rfl, rfl⟩
 ·clear e
  go_enter Try.func93, Try.ntmps93
  go_wp2
  go_ret
  exact ⟨rfl, rfl⟩
theorem decodeN_valid (n b0 b1 b2 b3 : Nat) : (Lib.decodeN n b0 b1 b2 b3).1 < 55296 ∨ 57344 ≤ (Lib.decodeN n b0 b1 b2 b3).1 := by
 unfold Lib.decodeN
 repeat' split
 all_goals (simp only; omega)
theorem decodeN_ffd (n b0 b1 b2 b3 : Nat) (h0 : b0 < 256) (h1 : b1 < 256) (h2 : b2 < 256) (h : (Lib.decodeN n b0 b1 b2 b3).1 = 65533) :
  (Lib.decodeN n b0 b1 b2 b3).2 = 1 ↔ ¬ (3 ≤ n ∧ b0 = 239 ∧ b1 = 191 ∧ b2 = 189) := by
 unfold Lib.decodeN at h ⊢
 repeat' split
 all_goals (simp_all; try omega)
theorem enc_eq (c : Nat) (hv : c < 55296 ∨ 57344 ≤ c) (hc : c ≤ 1114111) : (Utf8.encode (c : Int)).toList = [239, 191, 189] ↔ c = 65533 := by
 have hval : Utf8.valid (c : Int) = true := by unfold Utf8.valid; simp; omega
 rw [ByteArray.toList_eq]
 unfold Utf8.encode
 simp only [hval, if_true, Int.toNat_natCast]
 by_cases h1 : c < 128
 ·rw [if_pos h1]; simp; omega
 rw [if_neg h1]
 by_cases h2 : c < 2048
 ·rw [if_pos h2]; simp; omega
 rw [if_neg h2]
 by_cases h3 : c < 65536
 ·rw [if_pos h3]
  simp only [List.cons.injEq, and_true, ← UInt8.toNat_inj, UInt8.toNat_ofNat']
  simp
  omega
 ·rw [if_neg h3]; simp; omega
theorem take3 (l : List UInt8) : l.take 3 = [239, 191, 189] ↔ (3 ≤ l.length ∧ (l.getD 0 0).toNat = 239 ∧ (l.getD 1 0).toNat = 191 ∧ (l.getD 2 0).toNat = 189) := by
 match l with
 | [] => simp
 | [a] => simp
 | [a, b] => simp
 | a :: b :: c :: r =>
  simp [← UInt8.toNat_inj]
theorem ffd_bad (l : List UInt8) (h : (decodeL l).1 = 65533) : badRune (decodeL l) = true ↔ ¬ l.take 3 = [239, 191, 189] := by
 rw [take3, ← decodeN_ffd l.length _ _ _ _ (l.getD 0 0).toNat_lt (l.getD 1 0).toNat_lt (l.getD 2 0).toNat_lt h]
 unfold badRune
 show _ ↔ (decodeL l).2 = 1
 simp [h]
set_option maxHeartbeats 1000000 in
theorem check_any (s : ByteArray) (w : World) (hs : s.size ≤ 140737488355328) :
  Calls Try.prog 115 #[.string s] w fun e w' => e = .returned (.int .i64 ((checkL s.data.toList : Nat) : Int)) ∧ Below w.heap.size w w' := by
 have hsz : s.data.toList.length = s.size := rfl
 have htl := ByteArray.toList_eq s
 by_cases hlong : 12 < s.size
 ·rw [checkL_long (by omega)]
  clear htl hsz
  go_enter Try.func115, Try.ntmps115
  go_wp2_with fail
  go_ret
  exact ⟨rfl, Below.refl _ _⟩
 by_cases hdots : s.data.toList = [] ∨ s.data.toList = [46] ∨ s.data.toList = [46, 46]
 ·rw [checkL_dots (by omega) hdots]
  rw [← htl] at hdots
  clear htl hsz
  rcases hdots with h | h | h
  all_goals
   go_enter Try.func115, Try.ntmps115
   go_wp2_with fail
   go_ret
   exact ⟨rfl, Below.refl _ _⟩
 rw [checkL_else (by omega) hdots]
 obtain ⟨R, hR⟩ : ∃ R, (if anyBad s.data.toList = true then 800 else 0) = R := ⟨_, rfl⟩
 rw [hR]
 have HR := Lib.hid hR
 clear hR
 have hd0 : s.toList.isEmpty = false := by rw [htl]; simpa using fun e => hdots (.inl e)
 have hd1 : (s.toList == [46]) = false := by rw [htl, beq_eq_false_iff_ne]; exact fun e => hdots (.inr (.inl e))
 have hd2 : (s.toList == [46, 46]) = false := by rw [htl, beq_eq_false_iff_ne]; exact fun e => hdots (.inr (.inr e))
 have he0 : ¬ s.toList = [] := by rw [htl]; exact fun e => hdots (.inl e)
 have he1 : ¬ s.toList = [46] := by rw [htl]; exact fun e => hdots (.inr (.inl e))
 have he2 : ¬ s.toList = [46, 46] := by rw [htl]; exact fun e => hdots (.inr (.inr e))
 have Htl := Lib.hid htl
 clear htl hsz hdots
 go_enter Try.func115, Try.ntmps115
 go_wp2_with fail
 clear hd0 hd1 hd2 he0 he1 he2
 go_loopw [3, 4] (fun _ _ w' => ∃ (pos : Nat), w' = w.iter s pos ∧ anyBad (s.data.toList.drop pos) = anyBad s.data.toList) (fun _ _ w' => s.size - w'.iterPos w.heap.size)
 case atStart => exact ⟨0, rfl, by simp⟩
 case round =>
  obtain ⟨pos, rfl, hc⟩ := hrel
  by_cases hp : pos < s.size
  ·have hd := decode_list s pos
   have hw := decodeL_width (s.data.toList.drop pos)
   have hle := decodeL_le (s.data.toList.drop pos)
   have hvl := decodeN_valid (s.data.toList.drop pos).length ((s.data.toList.drop pos).getD 0 0).toNat ((s.data.toList.drop pos).getD 1 0).toNat ((s.data.toList.drop pos).getD 2 0).toNat ((s.data.toList.drop pos).getD 3 0).toNat
   have hff := ffd_bad (s.data.toList.drop pos)
   have hcc := anyBad_cons _ (drop_ne hp)
   rw [hcc] at hc
   have hnx : ∀ ty, (Instr.next (.pointer (some ⟨w.heap.size, 0, none⟩)) true ty).run Try.prog (w.iter s pos) = _ := fun ty => run_next_any w s pos ty hp
   rw [hd] at hnx
   change (decodeL (s.data.toList.drop pos)).1 < 55296 ∨ 57344 ≤ (decodeL (s.data.toList.drop pos)).1 at hvl
   obtain ⟨q, hq⟩ : ∃ q, decodeL (s.data.toList.drop pos) = q := ⟨_, rfl⟩
   rw [hq] at hnx hvl hle hw hff hc
   obtain ⟨c, v⟩ := q
   simp only at hnx hvl hle hw hff hc
   have henc := enc_eq c hvl hle
   have Hc := Lib.hid hc
   have Henc := Lib.hid henc
   have Hff := Lib.hid hff
   clear hd hcc hc hq henc hff
   by_cases c1 : c = 47
   ·subst c1
    go_wp2
    go_ret
    exact ⟨retv_int (by have := HR.out; rw [if_pos (by rw [← Hc.out, show runeBad _ = true from (runeBad_iff _).2 (by simp; try omega)]; rfl)] at this; omega), below_iter _ _ _⟩
   by_cases c2 : c < 32
   ·go_wp2
    go_ret
    exact ⟨retv_int (by have := HR.out; rw [if_pos (by rw [← Hc.out, show runeBad _ = true from (runeBad_iff _).2 (by simp; try omega)]; rfl)] at this; omega), below_iter _ _ _⟩
   by_cases c3 : c = 127
   ·subst c3
    go_wp2
    go_ret
    exact ⟨retv_int (by have := HR.out; rw [if_pos (by rw [← Hc.out, show runeBad _ = true from (runeBad_iff _).2 (by simp; try omega)]; rfl)] at this; omega), below_iter _ _ _⟩
   have q1 : ((c : Int) == 47) = false := by rw [beq_eq_false_iff_ne]; omega
   have q3 : ((c : Int) == 127) = false := by rw [beq_eq_false_iff_ne]; omega
   have q2 : decide ((c : Int) < 32) = false := by simp; omega
   by_cases c4 : c = 65533
   ·have q4 : ((Utf8.encode (c : Int)).toList == [239, 191, 189]) = true := by rw [beq_iff_eq]; exact Henc.out.2 c4
    have hex0 : (s.extract pos s.size).size = s.size - pos := by simp
    have hexl : (s.extract pos s.size).size ≤ maxLen := by rw [hex0]; unfold maxLen; omega
    have hex3 : ((s.extract pos s.size).extract 0 3).toList = (s.data.toList.drop pos).take 3 := by
     rw [ByteArray.toList_eq]
     simp [List.extract_eq_take_drop]
     omega
    by_cases c5 : (s.data.toList.drop pos).take 3 = [239, 191, 189]
    ·have hlen : 3 ≤ s.size - pos := by
      have := congrArg List.length c5
      rw [List.length_take, List.length_drop] at this
      have hsz : s.data.toList.length = s.size := rfl
      simp at this
      omega
     have C4 := Lib.hid c4
     have C5 := Lib.hid c5
     have H3 := Lib.hid hex3
     have H0 := Lib.hid hex0
     clear c4 c5 hex3 hex0
     go_wp2_with fail
     refine (hasPrefix_yes _ _ _ hexl (by rw [H0.out]; exact hlen) (by rw [show (ByteArray.mk #[239, 191, 189]).size = 3 from rfl, H3.out, C5.out]; rw [ByteArray.toList_eq])).mono ?_
     rintro e w' ⟨rfl, rfl⟩
     go_wp2
     go_roundw
     case rel => exact ⟨pos + v, rfl, by
      have hb : ¬ badRune (c, v) = true := fun e => (Hff.out C4.out).1 e C5.out
      rw [← Hc.out, show runeBad _ = false from Bool.eq_false_iff.2 (fun e => by rw [runeBad_iff] at e; simp only [hb] at e; simp at e; omega), List.drop_drop]; rfl⟩
     case measure => simp; omega
    ·have hno : ¬ ((ByteArray.mk #[239, 191, 189]).size ≤ (s.extract pos s.size).size ∧ ((s.extract pos s.size).extract 0 (ByteArray.mk #[239, 191, 189]).size).toList = (ByteArray.mk #[239, 191, 189]).toList) := by
      rw [show (ByteArray.mk #[239, 191, 189]).size = 3 from rfl, hex3, ByteArray.toList_eq]
      exact fun e => c5 e.2
     have C4 := Lib.hid c4
     have C5 := Lib.hid c5
     have HN := Lib.hid hno
     clear c4 c5 hex3 hex0 hno
     go_wp2_with fail
     refine (hasPrefix_no _ _ _ hexl (by rw [show (ByteArray.mk #[239, 191, 189]).size = 3 from rfl]; unfold maxLen; omega) HN.out).mono ?_
     rintro e w' ⟨rfl, rfl⟩
     have hbad : badRune (c, v) = true := (Hff.out C4.out).2 C5.out
     have HB := Lib.hid hbad
     clear hbad
     go_wp2
     go_ret
     exact ⟨retv_int (by have := HR.out; rw [if_pos (by rw [← Hc.out, show runeBad _ = true from (runeBad_iff _).2 (.inr (.inr (.inr HB.out)))]; rfl)] at this; omega), below_iter _ _ _⟩
   ·have q4 : ((Utf8.encode (c : Int)).toList == [239, 191, 189]) = false := by rw [beq_eq_false_iff_ne]; exact fun e => c4 (Henc.out.1 e)
    go_wp2_with fail
    go_roundw
    case rel => exact ⟨pos + v, rfl, by rw [← Hc.out, show runeBad _ = false from Bool.eq_false_iff.2 (fun e => by rw [runeBad_iff] at e; simp [badRune] at e; omega), List.drop_drop]; rfl⟩
    case measure => simp; omega
  ·have hnx : ∀ ty, (Instr.next (.pointer (some ⟨w.heap.size, 0, none⟩)) true ty).run Try.prog (w.iter s pos) = _ := fun ty => run_next_end w s pos ty hp
   rw [drop_all hp, anyBad_nil] at hc
   have Hc := Lib.hid hc
   clear hc
   go_wp2
   go_ret
   exact ⟨retv_int (by have := HR.out; rw [if_neg (by rw [← Hc.out]; simp)] at this; omega), below_iter _ _ _⟩
end Go.Proofs.Ytghlgnklnbcppaa

set_option linter.unusedVariables false
set_option linter.unusedSimpArgs false
namespace Go.Proofs.Ytghlgnklnbcppaa
open Go.RowKit
def mayL (l : List UInt8) : Bool := checkL l == 0
theorem retv_bool {a b : Bool} (h : a = b) : Ending.returned (.bool a) = .returned (.bool b) := by rw [h]
set_option maxHeartbeats 400000 in
theorem may_any (s : ByteArray) (w : World) (hs : s.size ≤ 140737488355328) :
  Calls Try.prog 138 #[.string s] w fun e w' => e = .returned (.bool (mayL s.data.toList)) ∧ Below w.heap.size w w' := by
 go_enter Try.func138, Try.ntmps138
 go_wp2_with fail
 refine (check_any s _ hs).mono ?_
 rintro e w1 ⟨rfl, hb⟩
 go_wp2
 go_ret
 refine ⟨retv_bool ?_, hb⟩
 unfold mayL
 rw [Bool.eq_iff_iff, beq_iff_eq, beq_iff_eq]
 omega
end Go.Proofs.Ytghlgnklnbcppaa

set_option linter.unusedVariables false
set_option linter.unusedSimpArgs false
namespace Go.Proofs.Ytghlgnklnbcppaa
open Go.RowKit
theorem bytesLess_eq : ∀ (a b : List UInt8), Op.bytesLess a b = ltB a b
 | [], [] => rfl
 | [], _ :: _ => rfl
 | _ :: _, [] => rfl
 | a :: al, b :: bl => by
  unfold Op.bytesLess ltB
  rw [bytesLess_eq al bl]
  by_cases h : a = b
  ·subst h
   rw [if_pos rfl]
   simp
  ·rw [if_neg h]
   have : (a == b) = false := by rw [beq_eq_false_iff_ne]; exact h
   simp [this]
theorem bucketm_any (s : ByteArray) (w : World) (hs : s.size ≤ maxLen) :
  Calls Try.prog 139 #[.string s] w fun e w' => e = .returned (.int .i64 ((bktB s : Nat) : Int)) ∧ Below w.heap.size w w' := by
 have h1 : hashL s.data.toList % 8 < 8 := Nat.mod_lt _ (by omega)
 obtain ⟨H, hH⟩ : ∃ H, hashL s.data.toList = H := ⟨_, rfl⟩
 have hb : bktB s = H % 8 := by unfold bktB; rw [hH]
 rw [hb]
 go_enter Try.func139, Try.ntmps139
 go_wp2_with fail
 refine (hash_any s _ hs).mono ?_
 rintro e w1 ⟨rfl, hbl⟩
 rw [hH]
 have e1 : (H : Int).tmod 8 = ((H % 8 : Nat) : Int) := rfl
 go_wp2_with fail
 go_ret
 exact ⟨by first | rfl | simp, hbl⟩
set_option maxRecDepth 100000 in
set_option maxHeartbeats 4000000 in
theorem maynum_any (p : Nat) (s : St) (num : Int) (w : World) (h : PtrAt w p s) (h1 : -9223372036854775808 ≤ num) (h2 : num ≤ 9223372036854775807) :
  Calls Try.prog 88 #[.pointer (some ⟨p, 0, .none⟩), .int .i64 num] w fun e w' => e = .returned (.bool (givenV s.made num)) ∧ Below w.heap.size w w' := by
 obtain ⟨A, n, c, E, m, d, D, k, e, hp, c0, c1, c2, hI, hD, hM, hn, _, hk⟩ := h.val
 have hkl := hM.1
 obtain ⟨R, hR⟩ : ∃ R, givenV s.made num = R := ⟨_, rfl⟩
 rw [hR]
 unfold givenV at hR
 have hX : ∀ (X : Ext w) (p : Addr), (w.cell? p).isSome = true → X.w.cell? p = w.cell? p := fun X p h => X.cell p h
 go_enter Try.func88, Try.ntmps88
 go_wp2_with fail
 refine (core_any num h1 h2 _).mono ?_
 rintro e1 w1 ⟨rfl, rfl⟩
 by_cases hnum : num < 2
 ·rw [if_pos hnum] at hR ⊢
  subst hR
  go_wp2_with fail
  refine wp_region_ext (by kernel_rfl) (by kernel_rfl) ?_
  repeat (go_big_quiet_step (fail))
  refine wpQuiet_nil ?_
  rintro w7 ⟨X, rfl⟩
  go_wp2_with fail
  go_ret
  exact ⟨rfl, X.bel⟩
 ·rw [if_neg hnum] at hR ⊢
  obtain ⟨C, hC⟩ : ∃ C : Nat, (num - 2) % 8 = (C : Int) := ⟨((num - 2) % 8).toNat, by omega⟩
  obtain ⟨Q, hQ⟩ : ∃ Q : Int, (num - 2) / 8 = Q := ⟨_, rfl⟩
  rw [hC, hQ, Int.toNat_natCast] at hR
  rw [hC]
  have q0 : decide ((0 : Int) ≤ (C : Int)) = true := by rw [decide_eq_true_eq]; omega
  by_cases hlt : C < k
  ·have q1 : decide ((C : Int) < (k : Int)) = true := by rw [decide_eq_true_eq]; omega
   obtain ⟨g, off, x, rfl, hg, hx, hd, hmem, cx⟩ := hM.get C hlt
   have hgd : s.made.getD C 0 = x := by rw [List.getD_eq_getElem?_getD, hx]; rfl
   rw [hgd, decide_eq_true (show (C : Int) < (s.made.length : Int) by omega), Bool.true_and] at hR
   subst hR
   have k0 : (0 : Int) ≤ (C : Int) := by omega
   have k1 : (C : Int) < (k : Int) := by omega
   clear hd hx hmem hgd hI hD hM
   go_wp2_with fail
   refine wp_region_ext (by kernel_rfl) (by kernel_rfl) ?_
   repeat (go_big_quiet_step (first | (go_at_call 137; exact Calls.ext_of_same (by have := made_any num (by omega) h2; rw [hQ] at this; exact this _))))
   refine wpQuiet_nil ?_
   rintro w7 ⟨X, rfl⟩
   go_wp2_with fail
   go_ret
   exact ⟨rfl, X.bel⟩
  ·have q1 : decide ((C : Int) < (k : Int)) = false := by rw [decide_eq_false_iff_not]; omega
   rw [decide_eq_false (show ¬ (C : Int) < (s.made.length : Int) by omega), Bool.false_and] at hR
   subst hR
   go_wp2_with fail
   refine wp_region_ext (by kernel_rfl) (by kernel_rfl) ?_
   repeat (go_big_quiet_step (fail))
   refine wpQuiet_nil ?_
   rintro w7 ⟨X, rfl⟩
   go_wp2_with fail
   go_ret
   exact ⟨rfl, X.bel⟩
def ManyT (w : World) (M : Nat) (f : Nat → Nat) : Prop := ∃ (cur : Array Value) (t : TypeId), w.heap[M]? = some (.cells cur t (0, 0)) ∧ ∀ j, j < 8 → cur[j]? = some (.int .i64 (f j : Nat))
theorem ManyT.lt {w : World} {M : Nat} {f : Nat → Nat} (h : ManyT w M f) : M < w.heap.size := by
 obtain ⟨cur, t, hh, _⟩ := h
 exact (Array.getElem?_eq_some_iff.1 hh).1
theorem ManyT.below {w w' : World} {M : Nat} {f : Nat → Nat} (h : ManyT w M f) (hb : Below w.heap.size w w') : ManyT w' M f := by
 have hl := h.lt
 obtain ⟨cur, t, hh, hc⟩ := h
 exact ⟨cur, t, (hb.block M hl).trans hh, hc⟩
theorem ManyT.get {w : World} {M : Nat} {f : Nat → Nat} (h : ManyT w M f) (j : Nat) (hj : j < 8) : w.cell? ⟨M, j, .none⟩ = some (.int .i64 (f j : Nat)) ∧ w.frozen? ⟨M, j, .none⟩ = false := by
 obtain ⟨cur, t, hh, hc⟩ := h
 exact ⟨by rw [cell_of_row w M j cur _ (0, 0) hh]; exact hc j hj, frozen_of_row w M j cur _ hh⟩
theorem ManyT.set {w : World} {M : Nat} {f : Nat → Nat} (h : ManyT w M f) (b : Nat) (hb : b < 8) : ManyT (w.setCell ⟨M, b, .none⟩ (.int .i64 ((f b : Int) + 1))) M (fun j => if j = b then f j + 1 else f j) := by
 obtain ⟨cur, t, hh, hc⟩ := h
 refine ⟨_, t, heap_setCell_same w M b cur _ _ hh, fun j hj => ?_⟩
 rw [Array.getElem?_setIfInBounds]
 by_cases e : b = j
 ·subst e
  have : b < cur.size := (Array.getElem?_eq_some_iff.1 (hc b hb)).1
  simp [this]
 ·have e2 : ¬ j = b := fun h => e h.symm
  simp only [e, e2, if_false]
  exact hc j hj
theorem many_arr (w : World) (t : TypeId) : ∃ W, w.alloc (.cells #[.int .i64 0, .int .i64 0, .int .i64 0, .int .i64 0, .int .i64 0, .int .i64 0, .int .i64 0, .int .i64 0] t) = W ∧ ManyT W w.heap.size (fun _ => 0) ∧ Below w.heap.size w W := by
 refine ⟨_, rfl, ⟨_, t, heap_alloc_new w _, fun j hj => ?_⟩, (Below.refl _ _).alloc (Nat.le_refl _) _⟩
 have : j = 0 ∨ j = 1 ∨ j = 2 ∨ j = 3 ∨ j = 4 ∨ j = 5 ∨ j = 6 ∨ j = 7 := by omega
 rcases this with h | h | h | h | h | h | h | h <;> subst h <;> rfl
end Go.Proofs.Ytghlgnklnbcppaa

set_option linter.unusedVariables false
set_option linter.unusedSimpArgs false
namespace Go.Proofs.Ytghlgnklnbcppaa
open Go.RowKit
set_option maxRecDepth 100000 in
set_option maxHeartbeats 8000000 in
theorem mayents_any (p : Nat) (s : St) (es : List En) (E : Option Addr) (m2 d2 : Nat) (w : World) (h : PtrAt w p s) (hr : RiseI s.inos) (hE : EntsAt none w E m2 es) (hm2 : m2 ≤ 1099511627776) (htx : ∀ e ∈ es, e.name.size ≤ 140737488355328) :
  Calls Try.prog 89 #[.pointer (some ⟨p, 0, .none⟩), .slice E m2 d2] w fun e w' => e = .returned (.bool (entsV s.inos es)) ∧ Below w.heap.size w w' := by
 obtain ⟨R, hR⟩ : ∃ R, entsV s.inos es = R := ⟨_, rfl⟩
 rw [hR]
 unfold entsV at hR
 obtain ⟨V, hV, hmany, hal3⟩ := many_arr w 176
 have HP := Lib.hid h
 have HRI := Lib.hid hr
 have HE := Lib.hid hE
 have HAL3 := Lib.hid hal3
 have HR := Lib.hid hR
 have HTX := Lib.hid htx
 have HMY := Lib.hid hmany
 clear h hr hE hal3 hR htx hmany
 go_enter Try.func89, Try.ntmps89
 go_wp2_with fail
 clear hV
 go_loopw [11] (fun i wr => ∃ (k : Nat) (f : Nat → Nat), i = .int .i64 k ∧ k ≤ m2 ∧ Below w.heap.size w wr ∧ ManyT wr w.heap.size f ∧ (∀ j, f j ≤ k) ∧ entsG s.inos (es.drop k) (prevN es k) f = R) (fun i _ => m2 - (intOf i).toNat)
 case atStart => exact ⟨0, fun _ => 0, rfl, by omega, HAL3.out, HMY.out, fun _ => Nat.le_refl _, HR.out⟩
 case round =>
  obtain ⟨k, f, rfl, hk, hbel, hmy, hfk, hc⟩ := hrel
  have HB := Lib.hid hbel
  have HM := Lib.hid hmy
  have HF := Lib.hid hfk
  have HPr := Lib.hid (HP.out.below hbel)
  have HEr := Lib.hid (HE.out.below hbel)
  clear hbel hmy hfk
  by_cases hlt : k < m2
  ·obtain ⟨g, off, y, rfl, hg, hy, hd, hmem, e0, e1⟩ := HEr.out.get k hlt
   rw [hd, entsG] at hc
   have hsz := HTX.out y hmem
   have k0 : (0 : Int) ≤ (k : Int) := by omega
   have k1 : (k : Int) < (m2 : Int) := by omega
   obtain ⟨BD, hBD⟩ : ∃ BD, entBad s.inos (prevN es k) y = BD := ⟨_, rfl⟩
   rw [hBD] at hc
   have HBD := Lib.hid hBD
   have HC := Lib.hid hc
   have HY := Lib.hid hy
   clear hBD
   clear hc hd hmem hy
   obtain ⟨V2, hV2, v0, v1, hal4, hlt4⟩ := box_en wr y.name y.num
   have HAL4 := Lib.hid hal4
   have HPV := Lib.hid (HPr.out.below hal4)
   have HEV := Lib.hid (HEr.out.below hal4)
   clear hal4
   go_upto_region 5 with fail
   have hx : ∀ (X : Ext V2) (p : Addr), (V2.cell? p).isSome = true → X.w.cell? p = V2.cell? p := fun X p h => X.cell p h
   clear hV2 e0 e1
   obtain ⟨CK, hCK⟩ : ∃ CK, mayL y.name.data.toList = CK := ⟨_, rfl⟩
   have HCK := Lib.hid hCK
   obtain ⟨FD, hFD⟩ : ∃ FD, atV s.inos y.num = FD := ⟨_, rfl⟩
   have HFD := Lib.hid hFD
   have hbd : BD = (!CK || (match prevN es k with | none => false | some q => !ltN q y.name) || decide (y.num = 1) || decide (FD < 0)) := by
    rw [← HBD.out, ← hCK, ← hFD]; unfold entBad chkB mayL
    cases hz : checkL y.name.data.toList <;> rfl
   have HBB := Lib.hid hbd
   clear hCK hFD hbd
   go_cut [46] (fun c wx => c = .bool BD ∧ ∃ X : Ext V2, wx = X.w)
   case first =>
    obtain ⟨N1, hN1⟩ : ∃ N1, (y.num == 1) = N1 := ⟨_, rfl⟩
    have hN1' : decide (y.num = 1) = N1 := by rw [← hN1]; rfl
    have HN1 := Lib.hid hN1'
    obtain ⟨F0, hF0⟩ : ∃ F0, decide (FD < 0) = F0 := ⟨_, rfl⟩
    have HF0 := Lib.hid hF0
    by_cases hk0 : k = 0
    ·have q1 : decide ((0 : Int) < (k : Int)) = false := by rw [decide_eq_false_iff_not]; omega
     have q1n : decide (0 < k) = false := by rw [decide_eq_false_iff_not]; omega
     have hp : prevN es k = none := if_pos hk0
     have HBC := HBB.out
     rw [hp, HN1.out, HF0.out] at HBC
     have HBX := Lib.hid HBC
     clear HBC hp hk0
     cases CK <;> cases N1 <;> (
      refine wp_region_ext (by kernel_rfl) (by kernel_rfl) ?_
      repeat (go_big_quiet_step (first | (go_at_call 138; rename_i X; exact Calls.ext_of (by have := may_any y.name X.w hsz; rw [HCK.out] at this; exact this)) | (go_at_call 90; rename_i X; exact Calls.ext_of (by have := mfind_any p s y.num X.w (HPV.out.below X.bel) HRI.out; rw [HFD.out] at this; exact this))))
      refine wpQuiet_nil ?_
      rintro w7 ⟨X, rfl⟩
      go_wp2_with fail
      go_meet
      exact ⟨congrArg Value.bool (by rw [HBX.out]; simp), X, rfl⟩)
    ·obtain ⟨j, rfl⟩ : ∃ j, k = j + 1 := ⟨k - 1, by omega⟩
     have q1 : decide ((0 : Int) < ((j + 1 : Nat) : Int)) = true := by rw [decide_eq_true_eq]; omega
     have q1b : decide ((0 : Int) < (j : Int) + 1) = true := by rw [decide_eq_true_eq]; omega
     obtain ⟨g', off', y', hA', hg', hy', _, hmem', f0, f1⟩ := HEV.out.get j (by omega)
     injection hA' with hA'
     injection hA' with hA1 hA2
     subst hA1 hA2
     have hp : prevN es (j + 1) = some y'.name := by unfold prevN; rw [if_neg (by omega), Nat.add_sub_cancel, hy']; rfl
     have j0 : (0 : Int) ≤ (j : Int) := by omega
     have j1 : (j : Int) < (m2 : Int) := by omega
     have jw : IntKind.i64.wrap ((j : Int) + 1 - 1) = (j : Int) := by rw [IntKind.wrap_i64]; omega
     obtain ⟨LT, hLT⟩ : ∃ LT, Op.bytesLess y'.name.toList y.name.toList = LT := ⟨_, rfl⟩
     have hlt2 : ltN y'.name y.name = LT := by unfold ltN; rw [← hLT, bytesLess_eq, ByteArray.toList_eq, ByteArray.toList_eq]
     have HBC := HBB.out
     rw [hp, HN1.out, HF0.out] at HBC
     dsimp only at HBC
     rw [hlt2] at HBC
     have HBX := Lib.hid HBC
     clear HBC hp hy' hmem' hk0 hlt2
     cases CK <;> cases LT <;> cases N1 <;> (
      refine wp_region_ext (by kernel_rfl) (by kernel_rfl) ?_
      repeat (go_big_quiet_step (first | (go_at_call 138; rename_i X; exact Calls.ext_of (by have := may_any y.name X.w hsz; rw [HCK.out] at this; exact this)) | (go_at_call 90; rename_i X; exact Calls.ext_of (by have := mfind_any p s y.num X.w (HPV.out.below X.bel) HRI.out; rw [HFD.out] at this; exact this))))
      refine wpQuiet_nil ?_
      rintro w7 ⟨X, rfl⟩
      go_wp2_with fail
      go_meet
      exact ⟨congrArg Value.bool (by rw [HBX.out]; simp), X, rfl⟩)
   case rest =>
    obtain ⟨rfl, X, rfl⟩ := hcut
    generalize hZe : X.w = Z
    have hZ : Below V2.heap.size V2 Z := by rw [← hZe]; exact X.bel
    clear hZe X
    have hbx := Cv.next HAL4.out hZ
    have e0 := (hZ.cell (p := ⟨wr.heap.size, 0, .none⟩) hlt4).trans v0
    have HMZ := Lib.hid (HM.out.below hbx)
    have HWZ := Lib.hid (Cv.next HB.out hbx)
    clear hx v0 v1 hbx hZ HBB
    cases BD
    rotate_left
    ·have hr := HC.out
     rw [if_pos rfl] at hr
     have HR2 := Lib.hid hr
     clear hr
     go_wp2_with fail
     go_ret
     exact ⟨Cv.ret_bool HR2.out, HWZ.out⟩
    ·have hr := HC.out
     rw [if_neg (by simp)] at hr
     obtain ⟨b, hb⟩ : ∃ b, bktB y.name = b := ⟨_, rfl⟩
     rw [hb] at hr
     have hb8 : b < 8 := by rw [← hb]; exact bktB_lt _
     have HBK := Lib.hid hb
     have HR2 := Lib.hid hr
     clear hr hb
     go_wp2_with fail
     refine (bucketm_any y.name _ (Nat.le_trans hsz (by unfold maxLen; omega))).mono ?_
     rintro e w2 ⟨rfl, hb2⟩
     rw [HBK.out]
     have hbx := hb2
     have HMZ2 := Lib.hid (HMZ.out.below hb2)
     have HWZ2 := Lib.hid (Cv.next HWZ.out hb2)
     have hfb := HF.out b
     obtain ⟨cb, fz⟩ := HMZ2.out.get b hb8
     have b0 : (0 : Int) ≤ (b : Int) := by omega
     have b8 : (b : Int) < 8 := by omega
     have wf : IntKind.i64.wrap ((f b : Int) + 1) = (f b : Int) + 1 := by rw [IntKind.wrap_i64]; omega
     clear hbx hb2 e0
     by_cases h4 : 4 < f b + 1
     ·have hr := HR2.out
      rw [if_pos h4] at hr
      have HR3 := Lib.hid hr
      have q4 : decide ((4 : Int) < (f b : Int) + 1) = true := by simp; omega
      clear hr
      go_wp2_with fail
      go_ret
      exact ⟨Cv.ret_bool HR3.out, HWZ2.out.setCell (Nat.le_refl _) _⟩
     ·have hr := HR2.out
      rw [if_neg h4] at hr
      have HR3 := Lib.hid hr
      have q4 : decide ((4 : Int) < (f b : Int) + 1) = false := by simp; omega
      clear hr
      go_wp2_with fail
      go_roundw
      case rel => exact ⟨k + 1, fun j => if j = b then f j + 1 else f j, by go_num, by omega, HWZ2.out.setCell (Nat.le_refl _) _, HMZ2.out.set b hb8, fun j => by have := HF.out j; simp only; split <;> omega, by
       have e : prevN es (k + 1) = some y.name := by unfold prevN; rw [if_neg (by omega), Nat.add_sub_cancel, HY.out]; rfl
       rw [e]
       exact HR3.out⟩
      case measure => simp [intOf]; omega
  ·have : es.drop k = [] := List.drop_eq_nil_of_le (by have := HEr.out.1; omega)
   rw [this, entsG] at hc
   have HC := Lib.hid hc
   clear hc this
   go_wp2_with fail
   go_ret
   exact ⟨Cv.ret_bool HC.out, HB.out⟩
end Go.Proofs.Ytghlgnklnbcppaa
