/- Parts of the proof, side by side: Check, May, MoEnts. -/
import Derived.Test.YthhceopnnappgaaGreatM06
import Derived.Test.YthhceopnnappgaaGreatM14
import Derived.Test.YthhceopnnappgaaGreatFsEnts
set_option linter.unusedVariables false
set_option linter.unusedSimpArgs false
namespace Go.Proofs.YthhceopnnappgaaGreat
open Go.RowKit
set_option maxHeartbeats 400000 in
theorem hasPrefix_yes (t p : ByteArray) (w : World) (ht : t.size ≤ maxLen) (h : p.size ≤ t.size) (e : (t.extract 0 p.size).toList = p.toList) :
  Calls Tryz.prog 83 #[.string t, .string p] w fun e w' => e = .returned (.bool true) ∧ w = w' := by
 unfold maxLen at ht
 have hp : p.size ≤ 9223372036854775807 := by omega
 go_enter Tryz.func83, Tryz.ntmps83
 go_wp2
 go_ret
 exact ⟨rfl, rfl⟩
set_option maxHeartbeats 400000 in
theorem hasPrefix_no (t p : ByteArray) (w : World) (ht : t.size ≤ maxLen) (hp : p.size ≤ maxLen) (e : ¬ (p.size ≤ t.size ∧ (t.extract 0 p.size).toList = p.toList)) :
  Calls Tryz.prog 83 #[.string t, .string p] w fun e w' => e = .returned (.bool false) ∧ w = w' := by
 unfold maxLen at ht hp
 by_cases h : p.size ≤ t.size
 ·have e2 : ((t.extract 0 p.size).toList == p.toList) = false := by rw [beq_eq_false_iff_ne]; exact fun h2 => e ⟨h, h2⟩
  clear e
  go_enter Tryz.func83, Tryz.ntmps83
  go_wp2
  go_ret
  exact ⟨rfl, rfl⟩
 ·clear e
  go_enter Tryz.func83, Tryz.ntmps83
  go_wp2
  go_ret
  exact ⟨rfl, rfl⟩
theorem decodeN_valid (n b0 b1 b2 b3 : Nat) : (Lib.decodeN n b0 b1 b2 b3).1 < 55296 ∨ 57344 ≤ (Lib.decodeN n b0 b1 b2 b3).1 := by
 unfold Lib.decodeN
 repeat' split
 all_goals (simp only; omega)
theorem decodeN_ffd (n b0 b1 b2 b3 : Nat) (h0 : b0 < 256) (h1 : b1 < 256) (h2 : b2 < 256) (h : (Lib.decodeN n b0 b1 b2 b3).1 = 65533) :
  (Lib.decodeN n b0 b1 b2 b3).2 = 1 ↔ ¬ (3 ≤ n ∧ b0 = 239 ∧ b1 = 191 ∧ b2 = 189) := by
 unfold Lib.decodeN at h ⊢
 repeat' split
 all_goals (simp_all; try omega)
theorem enc_eq (c : Nat) (hv : c < 55296 ∨ 57344 ≤ c) (hc : c ≤ 1114111) : (Utf8.encode (c : Int)).toList = [239, 191, 189] ↔ c = 65533 := by
 have hval : Utf8.valid (c : Int) = true := by unfold Utf8.valid; simp; omega
 rw [ByteArray.toList_eq]
 unfold Utf8.encode
 simp only [hval, if_true, Int.toNat_natCast]
 by_cases h1 : c < 128
 ·rw [if_pos h1]; simp; omega
 rw [if_neg h1]
 by_cases h2 : c < 2048
 ·rw [if_pos h2]; simp; omega
 rw [if_neg h2]
 by_cases h3 : c < 65536
 ·rw [if_pos h3]
  simp only [List.cons.injEq, and_true, ← UInt8.toNat_inj, UInt8.toNat_ofNat']
  simp
  omega
 ·rw [if_neg h3]; simp; omega
theorem take3 (l : List UInt8) : l.take 3 = [239, 191, 189] ↔ (3 ≤ l.length ∧ (l.getD 0 0).toNat = 239 ∧ (l.getD 1 0).toNat = 191 ∧ (l.getD 2 0).toNat = 189) := by
 match l with
 | [] => simp
 | [a] => simp
 | [a, b] => simp
 | a :: b :: c :: r =>
  simp [← UInt8.toNat_inj]
theorem ffd_bad (l : List UInt8) (h : (decodeL l).1 = 65533) : badRune (decodeL l) = true ↔ ¬ l.take 3 = [239, 191, 189] := by
 rw [take3, ← decodeN_ffd l.length _ _ _ _ (l.getD 0 0).toNat_lt (l.getD 1 0).toNat_lt (l.getD 2 0).toNat_lt h]
 unfold badRune
 show _ ↔ (decodeL l).2 = 1
 simp [h]
set_option maxHeartbeats 1000000 in
theorem check_any (s : ByteArray) (w : World) (hs : s.size ≤ 140737488355328) :
  Calls Tryz.prog 111 #[.string s] w fun e w' => e = .returned (.int .i64 ((checkL s.data.toList : Nat) : Int)) ∧ Below w.heap.size w w' := by
 have hsz : s.data.toList.length = s.size := rfl
 have htl := ByteArray.toList_eq s
 by_cases hlong : 12 < s.size
 ·rw [checkL_long (by omega)]
  clear htl hsz
  go_enter Tryz.func111, Tryz.ntmps111
  go_wp2_with fail
  go_ret
  exact ⟨rfl, Below.refl _ _⟩
 by_cases hdots : s.data.toList = [] ∨ s.data.toList = [46] ∨ s.data.toList = [46, 46]
 ·rw [checkL_dots (by omega) hdots]
  rw [← htl] at hdots
  clear htl hsz
  rcases hdots with h | h | h
  all_goals
   go_enter Tryz.func111, Tryz.ntmps111
   go_wp2_with fail
   go_ret
   exact ⟨rfl, Below.refl _ _⟩
 rw [checkL_else (by omega) hdots]
 obtain ⟨R, hR⟩ : ∃ R, (if anyBad s.data.toList = true then 800 else 0) = R := ⟨_, rfl⟩
 rw [hR]
 have HR := Lib.hid hR
 clear hR
 have hd0 : s.toList.isEmpty = false := by rw [htl]; simpa using fun e => hdots (.inl e)
 have hd1 : (s.toList == [46]) = false := by rw [htl, beq_eq_false_iff_ne]; exact fun e => hdots (.inr (.inl e))
 have hd2 : (s.toList == [46, 46]) = false := by rw [htl, beq_eq_false_iff_ne]; exact fun e => hdots (.inr (.inr e))
 have he0 : ¬ s.toList = [] := by rw [htl]; exact fun e => hdots (.inl e)
 have he1 : ¬ s.toList = [46] := by rw [htl]; exact fun e => hdots (.inr (.inl e))
 have he2 : ¬ s.toList = [46, 46] := by rw [htl]; exact fun e => hdots (.inr (.inr e))
 have Htl := Lib.hid htl
 clear htl hsz hdots
 go_enter Tryz.func111, Tryz.ntmps111
 go_wp2_with fail
 clear hd0 hd1 hd2 he0 he1 he2
 go_loopw [3, 4] (fun _ _ w' => ∃ (pos : Nat), w' = w.iter s pos ∧ anyBad (s.data.toList.drop pos) = anyBad s.data.toList) (fun _ _ w' => s.size - w'.iterPos w.heap.size)
 case atStart => exact ⟨0, rfl, by simp⟩
 case round =>
  obtain ⟨pos, rfl, hc⟩ := hrel
  by_cases hp : pos < s.size
  ·have hd := decode_list s pos
   have hw := decodeL_width (s.data.toList.drop pos)
   have hle := decodeL_le (s.data.toList.drop pos)
   have hvl := decodeN_valid (s.data.toList.drop pos).length ((s.data.toList.drop pos).getD 0 0).toNat ((s.data.toList.drop pos).getD 1 0).toNat ((s.data.toList.drop pos).getD 2 0).toNat ((s.data.toList.drop pos).getD 3 0).toNat
   have hff := ffd_bad (s.data.toList.drop pos)
   have hcc := anyBad_cons _ (drop_ne hp)
   rw [hcc] at hc
   have hnx : ∀ ty, (Instr.next (.pointer (some ⟨w.heap.size, 0, none⟩)) true ty).run Tryz.prog (w.iter s pos) = _ := fun ty => run_next_any w s pos ty hp
   rw [hd] at hnx
   change (decodeL (s.data.toList.drop pos)).1 < 55296 ∨ 57344 ≤ (decodeL (s.data.toList.drop pos)).1 at hvl
   obtain ⟨q, hq⟩ : ∃ q, decodeL (s.data.toList.drop pos) = q := ⟨_, rfl⟩
   rw [hq] at hnx hvl hle hw hff hc
   obtain ⟨c, v⟩ := q
   simp only at hnx hvl hle hw hff hc
   have henc := enc_eq c hvl hle
   have Hc := Lib.hid hc
   have Henc := Lib.hid henc
   have Hff := Lib.hid hff
   clear hd hcc hc hq henc hff
   by_cases c1 : c = 47
   ·subst c1
    go_wp2
    go_ret
    exact ⟨retv_int (by have := HR.out; rw [if_pos (by rw [← Hc.out, show runeBad _ = true from (runeBad_iff _).2 (by simp; try omega)]; rfl)] at this; omega), below_iter _ _ _⟩
   by_cases c2 : c < 32
   ·go_wp2
    go_ret
    exact ⟨retv_int (by have := HR.out; rw [if_pos (by rw [← Hc.out, show runeBad _ = true from (runeBad_iff _).2 (by simp; try omega)]; rfl)] at this; omega), below_iter _ _ _⟩
   by_cases c3 : c = 127
   ·subst c3
    go_wp2
    go_ret
    exact ⟨retv_int (by have := HR.out; rw [if_pos (by rw [← Hc.out, show runeBad _ = true from (runeBad_iff _).2 (by simp; try omega)]; rfl)] at this; omega), below_iter _ _ _⟩
   have q1 : ((c : Int) == 47) = false := by rw [beq_eq_false_iff_ne]; omega
   have q3 : ((c : Int) == 127) = false := by rw [beq_eq_false_iff_ne]; omega
   have q2 : decide ((c : Int) < 32) = false := by simp; omega
   by_cases c4 : c = 65533
   ·have q4 : ((Utf8.encode (c : Int)).toList == [239, 191, 189]) = true := by rw [beq_iff_eq]; exact Henc.out.2 c4
    have hex0 : (s.extract pos s.size).size = s.size - pos := by simp
    have hexl : (s.extract pos s.size).size ≤ maxLen := by rw [hex0]; unfold maxLen; omega
    have hex3 : ((s.extract pos s.size).extract 0 3).toList = (s.data.toList.drop pos).take 3 := by
     rw [ByteArray.toList_eq]
     simp [List.extract_eq_take_drop]
     omega
    by_cases c5 : (s.data.toList.drop pos).take 3 = [239, 191, 189]
    ·have hlen : 3 ≤ s.size - pos := by
      have := congrArg List.length c5
      rw [List.length_take, List.length_drop] at this
      have hsz : s.data.toList.length = s.size := rfl
      simp at this
      omega
     have C4 := Lib.hid c4
     have C5 := Lib.hid c5
     have H3 := Lib.hid hex3
     have H0 := Lib.hid hex0
     clear c4 c5 hex3 hex0
     go_wp2_with fail
     refine (hasPrefix_yes _ _ _ hexl (by rw [H0.out]; exact hlen) (by rw [show (ByteArray.mk #[239, 191, 189]).size = 3 from rfl, H3.out, C5.out]; rw [ByteArray.toList_eq])).mono ?_
     rintro e w' ⟨rfl, rfl⟩
     go_wp2
     go_roundw
     case rel => exact ⟨pos + v, rfl, by
      have hb : ¬ badRune (c, v) = true := fun e => (Hff.out C4.out).1 e C5.out
      rw [← Hc.out, show runeBad _ = false from Bool.eq_false_iff.2 (fun e => by rw [runeBad_iff] at e; simp only [hb] at e; simp at e; omega), List.drop_drop]; rfl⟩
     case measure => simp; omega
    ·have hno : ¬ ((ByteArray.mk #[239, 191, 189]).size ≤ (s.extract pos s.size).size ∧ ((s.extract pos s.size).extract 0 (ByteArray.mk #[239, 191, 189]).size).toList = (ByteArray.mk #[239, 191, 189]).toList) := by
      rw [show (ByteArray.mk #[239, 191, 189]).size = 3 from rfl, hex3, ByteArray.toList_eq]
      exact fun e => c5 e.2
     have C4 := Lib.hid c4
     have C5 := Lib.hid c5
     have HN := Lib.hid hno
     clear c4 c5 hex3 hex0 hno
     go_wp2_with fail
     refine (hasPrefix_no _ _ _ hexl (by rw [show (ByteArray.mk #[239, 191, 189]).size = 3 from rfl]; unfold maxLen; omega) HN.out).mono ?_
     rintro e w' ⟨rfl, rfl⟩
     have hbad : badRune (c, v) = true := (Hff.out C4.out).2 C5.out
     have HB := Lib.hid hbad
     clear hbad
     go_wp2
     go_ret
     exact ⟨retv_int (by have := HR.out; rw [if_pos (by rw [← Hc.out, show runeBad _ = true from (runeBad_iff _).2 (.inr (.inr (.inr HB.out)))]; rfl)] at this; omega), below_iter _ _ _⟩
   ·have q4 : ((Utf8.encode (c : Int)).toList == [239, 191, 189]) = false := by rw [beq_eq_false_iff_ne]; exact fun e => c4 (Henc.out.1 e)
    go_wp2_with fail
    go_roundw
    case rel => exact ⟨pos + v, rfl, by rw [← Hc.out, show runeBad _ = false from Bool.eq_false_iff.2 (fun e => by rw [runeBad_iff] at e; simp [badRune] at e; omega), List.drop_drop]; rfl⟩
    case measure => simp; omega
  ·have hnx : ∀ ty, (Instr.next (.pointer (some ⟨w.heap.size, 0, none⟩)) true ty).run Tryz.prog (w.iter s pos) = _ := fun ty => run_next_end w s pos ty hp
   rw [drop_all hp, anyBad_nil] at hc
   have Hc := Lib.hid hc
   clear hc
   go_wp2
   go_ret
   exact ⟨retv_int (by have := HR.out; rw [if_neg (by rw [← Hc.out]; simp)] at this; omega), below_iter _ _ _⟩
end Go.Proofs.YthhceopnnappgaaGreat
namespace Go.Proofs.YthhceopnnappgaaGreat
open Go.RowKit
def mayL (l : List UInt8) : Bool := checkL l == 0
theorem retv_bool {a b : Bool} (h : a = b) : Ending.returned (.bool a) = .returned (.bool b) := by rw [h]
set_option maxHeartbeats 400000 in
theorem may_any (s : ByteArray) (w : World) (hs : s.size ≤ 140737488355328) :
  Calls Tryz.prog 89 #[.string s] w fun e w' => e = .returned (.bool (mayL s.data.toList)) ∧ Below w.heap.size w w' := by
 go_enter Tryz.func89, Tryz.ntmps89
 go_wp2_with fail
 refine (check_any s _ hs).mono ?_
 rintro e w1 ⟨rfl, hb⟩
 go_wp2
 go_ret
 refine ⟨retv_bool ?_, hb⟩
 unfold mayL
 rw [Bool.eq_iff_iff, beq_iff_eq, beq_iff_eq]
 omega
theorem bytesLess_eq : ∀ (a b : List UInt8), Op.bytesLess a b = ltB a b
 | [], [] => rfl
 | [], _ :: _ => rfl
 | _ :: _, [] => rfl
 | a :: al, b :: bl => by
  unfold Op.bytesLess ltB
  rw [bytesLess_eq al bl]
  by_cases h : a = b
  ·subst h
   rw [if_pos rfl]
   simp
  ·rw [if_neg h]
   have : (a == b) = false := by rw [beq_eq_false_iff_ne]; exact h
   simp [this]
theorem bucketm_any (s : ByteArray) (w : World) (hs : s.size ≤ maxLen) :
  Calls Tryz.prog 90 #[.string s] w fun e w' => e = .returned (.int .i64 ((bktB s : Nat) : Int)) ∧ Below w.heap.size w w' := by
 have h1 : hashL s.data.toList % 8 < 8 := Nat.mod_lt _ (by omega)
 obtain ⟨H, hH⟩ : ∃ H, hashL s.data.toList = H := ⟨_, rfl⟩
 have hb : bktB s = H % 8 := by unfold bktB; rw [hH]
 rw [hb]
 go_enter Tryz.func90, Tryz.ntmps90
 go_wp2_with fail
 refine (hash_any s _ hs).mono ?_
 rintro e w1 ⟨rfl, hbl⟩
 rw [hH]
 have e1 : (H : Int).tmod 8 = ((H % 8 : Nat) : Int) := rfl
 go_wp2_with fail
 go_ret
 exact ⟨by first | rfl | simp, hbl⟩
set_option maxRecDepth 100000 in
set_option maxHeartbeats 4000000 in
theorem maynum_any (p : Nat) (s : St) (num : Int) (w : World) (h : PtrAt w p s) (h1 : -9223372036854775808 ≤ num) (h2 : num ≤ 9223372036854775807) :
  Calls Tryz.prog 66 #[.pointer (some ⟨p, 0, .none⟩), .int .i64 num] w fun e w' => e = .returned (.bool (givenV s.made num)) ∧ Below w.heap.size w w' := by
 obtain ⟨A, n, c, E, m, d, D, k, e, hp, c0, c1, c2, hI, hD, hM, hn, _, hk⟩ := h.val
 have hkl := hM.1
 obtain ⟨R, hR⟩ : ∃ R, givenV s.made num = R := ⟨_, rfl⟩
 rw [hR]
 unfold givenV at hR
 have hX : ∀ (X : Ext w) (p : Addr), (w.cell? p).isSome = true → X.w.cell? p = w.cell? p := fun X p h => X.cell p h
 go_enter Tryz.func66, Tryz.ntmps66
 go_wp2_with fail
 refine (core_any num h1 h2 _).mono ?_
 rintro e1 w1 ⟨rfl, rfl⟩
 by_cases hnum : num < 2
 ·rw [if_pos hnum] at hR ⊢
  subst hR
  go_wp2_with fail
  refine wp_region_ext (by kernel_rfl) (by kernel_rfl) ?_
  repeat (go_big_quiet_step (fail))
  refine wpQuiet_nil ?_
  rintro w7 ⟨X, rfl⟩
  go_wp2_with fail
  go_ret
  exact ⟨rfl, X.bel⟩
 ·rw [if_neg hnum] at hR ⊢
  obtain ⟨C, hC⟩ : ∃ C : Nat, (num - 2) % 8 = (C : Int) := ⟨((num - 2) % 8).toNat, by omega⟩
  obtain ⟨Q, hQ⟩ : ∃ Q : Int, (num - 2) / 8 = Q := ⟨_, rfl⟩
  rw [hC, hQ, Int.toNat_natCast] at hR
  rw [hC]
  have q0 : decide ((0 : Int) ≤ (C : Int)) = true := by rw [decide_eq_true_eq]; omega
  by_cases hlt : C < k
  ·have q1 : decide ((C : Int) < (k : Int)) = true := by rw [decide_eq_true_eq]; omega
   obtain ⟨g, off, x, rfl, hg, hx, hd, hmem, cx⟩ := hM.get C hlt
   have hgd : s.made.getD C 0 = x := by rw [List.getD_eq_getElem?_getD, hx]; rfl
   rw [hgd, decide_eq_true (show (C : Int) < (s.made.length : Int) by omega), Bool.true_and] at hR
   subst hR
   have k0 : (0 : Int) ≤ (C : Int) := by omega
   have k1 : (C : Int) < (k : Int) := by omega
   clear hd hx hmem hgd hI hD hM
   go_wp2_with fail
   refine wp_region_ext (by kernel_rfl) (by kernel_rfl) ?_
   repeat (go_big_quiet_step (first | (go_at_call 88; exact Calls.ext_of_same (by have := made_any num (by omega) h2; rw [hQ] at this; exact this _))))
   refine wpQuiet_nil ?_
   rintro w7 ⟨X, rfl⟩
   go_wp2_with fail
   go_ret
   exact ⟨rfl, X.bel⟩
  ·have q1 : decide ((C : Int) < (k : Int)) = false := by rw [decide_eq_false_iff_not]; omega
   rw [decide_eq_false (show ¬ (C : Int) < (s.made.length : Int) by omega), Bool.false_and] at hR
   subst hR
   go_wp2_with fail
   refine wp_region_ext (by kernel_rfl) (by kernel_rfl) ?_
   repeat (go_big_quiet_step (fail))
   refine wpQuiet_nil ?_
   rintro w7 ⟨X, rfl⟩
   go_wp2_with fail
   go_ret
   exact ⟨rfl, X.bel⟩
def ManyT (w : World) (M : Nat) (f : Nat → Nat) : Prop := ∃ (cur : Array Value) (t : TypeId), w.heap[M]? = some (.cells cur t (0, 0)) ∧ ∀ j, j < 8 → cur[j]? = some (.int .i64 (f j : Nat))
theorem ManyT.lt {w : World} {M : Nat} {f : Nat → Nat} (h : ManyT w M f) : M < w.heap.size := by
 obtain ⟨cur, t, hh, _⟩ := h
 exact (Array.getElem?_eq_some_iff.1 hh).1
theorem ManyT.below {w w' : World} {M : Nat} {f : Nat → Nat} (h : ManyT w M f) (hb : Below w.heap.size w w') : ManyT w' M f := by
 have hl := h.lt
 obtain ⟨cur, t, hh, hc⟩ := h
 exact ⟨cur, t, (hb.block M hl).trans hh, hc⟩
theorem ManyT.get {w : World} {M : Nat} {f : Nat → Nat} (h : ManyT w M f) (j : Nat) (hj : j < 8) : w.cell? ⟨M, j, .none⟩ = some (.int .i64 (f j : Nat)) ∧ w.frozen? ⟨M, j, .none⟩ = false := by
 obtain ⟨cur, t, hh, hc⟩ := h
 exact ⟨by rw [cell_of_row w M j cur _ (0, 0) hh]; exact hc j hj, frozen_of_row w M j cur _ hh⟩
theorem ManyT.set {w : World} {M : Nat} {f : Nat → Nat} (h : ManyT w M f) (b : Nat) (hb : b < 8) : ManyT (w.setCell ⟨M, b, .none⟩ (.int .i64 ((f b : Int) + 1))) M (fun j => if j = b then f j + 1 else f j) := by
 obtain ⟨cur, t, hh, hc⟩ := h
 refine ⟨_, t, heap_setCell_same w M b cur _ _ hh, fun j hj => ?_⟩
 rw [Array.getElem?_setIfInBounds]
 by_cases e : b = j
 ·subst e
  have : b < cur.size := (Array.getElem?_eq_some_iff.1 (hc b hb)).1
  simp [this]
 ·have e2 : ¬ j = b := fun h => e h.symm
  simp only [e, e2, if_false]
  exact hc j hj
theorem many_arr (w : World) (t : TypeId) : ∃ W, w.alloc (.cells #[.int .i64 0, .int .i64 0, .int .i64 0, .int .i64 0, .int .i64 0, .int .i64 0, .int .i64 0, .int .i64 0] t) = W ∧ ManyT W w.heap.size (fun _ => 0) ∧ Below w.heap.size w W := by
 refine ⟨_, rfl, ⟨_, t, heap_alloc_new w _, fun j hj => ?_⟩, (Below.refl _ _).alloc (Nat.le_refl _) _⟩
 have : j = 0 ∨ j = 1 ∨ j = 2 ∨ j = 3 ∨ j = 4 ∨ j = 5 ∨ j = 6 ∨ j = 7 := by omega
 rcases this with h | h | h | h | h | h | h | h <;> subst h <;> rfl
end Go.Proofs.YthhceopnnappgaaGreat
