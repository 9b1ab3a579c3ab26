/- Parts of the proof, side by side: FsBelow, NameBase, Rune1, NameHash, RefHash, RefCheck. -/
import Derived.Test.YthhceopnnappgaaGreatM02
import Derived.Test.YthhceopnnappgaaGreatRows
import Derived.Test.YthhceopnnappgaaGreatM00
import Derived.WalkKit
import Derived.WalkSpells
import Derived.WalkLawsBesides
import Derived.Lib.Hide
import Derived.Laws.RangeAny
set_option linter.unusedVariables false
set_option linter.unusedSimpArgs false
namespace Go.Proofs.YthhceopnnappgaaGreat
open Go.RowKit
theorem drop_cons (s : ByteArray) (k : Nat) (h : k < s.size) : s.data.toList.drop k = s[k] :: s.data.toList.drop (k + 1) := by
 rw [List.drop_eq_getElem_cons (by simpa using h)]
 rfl
theorem drop_end (s : ByteArray) (k : Nat) (h : ¬ k < s.size) : s.data.toList.drop k = [] := List.drop_eq_nil_of_le (by
 have : s.data.toList.length = s.size := rfl
 omega)
set_option maxHeartbeats 2000000 in
theorem ltn_any (a b : ByteArray) (w : World) (ha : a.size ≤ 140737488355328) (hb : b.size ≤ 140737488355328) :
  Calls Tryz.prog 74 #[.string a, .string b] w fun e w' => e = .returned (.bool (ltN a b)) ∧ ∃ q, w' = w.drewN q := by
 obtain ⟨R, hR⟩ : ∃ R, ltN a b = R := ⟨_, rfl⟩
 rw [hR]
 unfold ltN at hR
 have HR := Lib.hid hR
 clear hR
 go_enter Tryz.func74, Tryz.ntmps74
 go_wp2_with fail
 go_loopw [5] (fun i wr => ∃ k q : Nat, i = .int .i64 k ∧ k ≤ a.size ∧ k ≤ b.size ∧ wr = w.drewN q ∧ ltB (a.data.toList.drop k) (b.data.toList.drop k) = R) (fun i _ => a.size - (intOf i).toNat)
 case atStart => exact ⟨0, 0, rfl, by omega, by omega, rfl, HR.out⟩
 case round =>
  obtain ⟨k, q, rfl, hka, hkb, rfl, hc⟩ := hrel
  by_cases hla : k < a.size
  ·by_cases hlb : k < b.size
   ·rw [drop_cons a k hla, drop_cons b k hlb, ltB] at hc
    have k0 : (0 : Int) ≤ (k : Int) := by omega
    have k1 : (k : Int) < (a.size : Int) := by omega
    have k2 : (k : Int) < (b.size : Int) := by omega
    by_cases hq : a[k] = b[k]
    ·rw [if_pos hq] at hc
     have Hc := Lib.hid hc
     have qq : ((a[k].toNat : Int) != (b[k].toNat : Int)) = false := by rw [hq]; simp
     clear hc
     go_wp2_with fail
     go_quiet (fail)
     go_wp2_with fail
     go_roundw
     case rel => exact ⟨k + 1, _, by go_num, by omega, by omega, rfl, Hc.out⟩
     case measure => simp [intOf]; omega
    ·rw [if_neg hq] at hc
     have Hc := Lib.hid hc
     have hne : ¬ a[k].toNat = b[k].toNat := fun e => hq (UInt8.toNat_inj.1 e)
     have qq : ((a[k].toNat : Int) != (b[k].toNat : Int)) = true := by rw [bne_iff_ne]; omega
     clear hc
     go_wp2_with fail
     go_quiet (fail)
     go_wp2_with fail
     go_quiet (fail)
     go_wp2_with fail
     go_ret
     refine ⟨Cv.ret_bool ?_, _, by rw [World.drewN_drewN, World.drewN_drewN]⟩
     rw [← Hc.out]
     simp [UInt8.lt_iff_toNat_lt]
   ·rw [drop_cons a k hla, drop_end b k hlb, ltB] at hc
    have e : b.size = k := by omega
    have Hc := Lib.hid hc
    have q1 : decide (k < b.size) = false := by simp; omega
    clear hc
    go_wp2_with fail
    go_ret
    refine ⟨Cv.ret_bool ?_, _, rfl⟩
    rw [← Hc.out]
    simp
    omega
  ·have e : a.size = k := by omega
   rw [drop_end a k hla] at hc
   have Hc := Lib.hid hc
   clear hc
   go_wp2_with fail
   go_ret
   refine ⟨Cv.ret_bool ?_, _, rfl⟩
   rw [← Hc.out]
   by_cases hlb : k < b.size
   ·rw [drop_cons b k hlb, ltB]
    simp
    omega
   ·rw [drop_end b k hlb, ltB]
    simp
    omega
theorem drop_ne {s : ByteArray} {p : Nat} (h : p < s.size) : s.data.toList.drop p ≠ [] := by
 intro e
 have e2 := congrArg List.length e
 have e3 : s.size = s.data.toList.length := rfl
 rw [List.length_drop] at e2
 simp only [List.length_nil] at e2
 omega
theorem drop_all {s : ByteArray} {p : Nat} (h : ¬ p < s.size) : s.data.toList.drop p = [] := by
 apply List.drop_eq_nil_of_le
 have e3 : s.size = s.data.toList.length := rfl
 omega
theorem retv_int {k : IntKind} {a b : Int} (h : a = b) : Ending.returned (.int k a) = .returned (.int k b) := by rw [h]
theorem valv_int {k : IntKind} {a b : Int} (h : a = b) : Value.int k a = .int k b := by rw [h]
theorem below_iter (w : World) (s : ByteArray) (p : Nat) : Below w.heap.size w (w.iter s p) := (Below.refl _ _).alloc (Nat.le_refl _) _
theorem getD_at {s : ByteArray} {i : Nat} (h : i < s.size) : s.data.toList.getD i 0 = s[i] := by
 have h' : i < s.data.size := h
 rw [List.getD_eq_getElem?_getD, Array.getElem?_toList, Array.getElem?_eq_getElem h']
 rfl
set_option maxHeartbeats 400000 in
theorem next_any (s : ByteArray) (i : Int) (h0 : 0 ≤ i) (h1 : i ≤ 9223372036854775806) (w : World) (hs : s.size ≤ maxLen) :
  Calls Tryz.prog 113 #[.string s, .int .i64 i] w fun e w' => e = .returned (.int .i64 (nextL s.data.toList i.toNat)) ∧ w = w' := by
 unfold maxLen at hs
 obtain ⟨n, rfl⟩ := Int.eq_ofNat_of_zero_le h0
 rw [Int.toNat_natCast]
 have hsz : s.data.toList.length = s.size := rfl
 by_cases hn : n < s.size
 ·have hg := getD_at hn
  obtain ⟨v, hv⟩ : ∃ v : UInt8, s[n] = v := ⟨_, rfl⟩
  have hvl := v.toNat_lt
  have e : nextL s.data.toList n = if 128 ≤ v.toNat ∧ v.toNat ≤ 191 then (v.toNat : Int) - 128 else -1 := by
   unfold nextL
   rw [hsz, hg, hv]
   simp [hn]
  rw [e]
  clear e hg hsz
  by_cases c1 : v.toNat < 128
  ·rw [if_neg (by omega)]
   go_enter Tryz.func113, Tryz.ntmps113
   go_wp2
   go_ret
   exact ⟨rfl, rfl⟩
  ·by_cases c2 : v.toNat ≤ 191
   ·rw [if_pos (by omega)]
    go_enter Tryz.func113, Tryz.ntmps113
    go_wp2
    go_ret
    exact ⟨rfl, rfl⟩
   ·rw [if_neg (by omega)]
    go_enter Tryz.func113, Tryz.ntmps113
    go_wp2
    go_ret
    exact ⟨rfl, rfl⟩
 ·have e : nextL s.data.toList n = -1 := by unfold nextL; rw [if_neg (by omega)]
  rw [e]
  clear e hsz
  go_enter Tryz.func113, Tryz.ntmps113
  go_wp2
  go_ret
  exact ⟨rfl, rfl⟩
theorem ret2_pair {x y : Int} {q : Int × Int} (h : (x, y) = q) : Ending.returned (.tuple #[.int .i64 x, .int .i64 y]) = .returned (.tuple #[.int .i64 q.1, .int .i64 q.2]) := by rw [← h]
set_option maxRecDepth 100000 in
set_option maxHeartbeats 1000000 in
theorem rune1_any (s : ByteArray) (p : Nat) (hp : p < s.size) (w : World) (hs : s.size ≤ 140737488355328) :
  Calls Tryz.prog 94 #[.string s, .int .i64 (p : Int)] w fun e w' => e = .returned (.tuple #[.int .i64 ((rune1L (s.data.toList.drop p)).1 : Int), .int .i64 ((rune1L (s.data.toList.drop p)).2 : Int)]) ∧ w = w' := by
 have hl := rune1_list _ (drop_ne hp)
 simp only [nextL_drop] at hl
 have hg : (s.data.toList.drop p).getD 0 0 = s[p] := by
  rw [← getD_at hp]; simp [List.getD_eq_getElem?_getD, List.getElem?_drop]
 rw [hg] at hl
 obtain ⟨v, hv⟩ : ∃ v : UInt8, s[p] = v := ⟨_, rfl⟩
 have hvl := v.toNat_lt
 rw [hv] at hl
 obtain ⟨a, ha⟩ : ∃ a, nextL s.data.toList (p + 1) = a := ⟨_, rfl⟩
 obtain ⟨b, hb⟩ : ∃ a, nextL s.data.toList (p + 2) = a := ⟨_, rfl⟩
 obtain ⟨d, hd⟩ : ∃ a, nextL s.data.toList (p + 3) = a := ⟨_, rfl⟩
 have ra := nextL_range s.data.toList (p + 1)
 have rb := nextL_range s.data.toList (p + 2)
 have rd := nextL_range s.data.toList (p + 3)
 rw [ha] at ra hl
 rw [hb] at rb hl
 rw [hd] at rd hl
 have hl1 := congrArg Prod.fst hl
 have hl2 := congrArg Prod.snd hl
 simp only at hl1 hl2
 rw [← hl1, ← hl2]
 clear hl hl1 hl2 hg
 have HA := Lib.hid ha
 have HB := Lib.hid hb
 have HD := Lib.hid hd
 clear ha hb hd
 go_enter Tryz.func94, Tryz.ntmps94
 go_wp2_with fail
 refine (next_any s _ (by omega) (by omega) _ (by unfold maxLen; omega)).mono ?_
 rintro e w' ⟨rfl, rfl⟩
 rw [show ((p : Int) + 1).toNat = p + 1 by omega, HA.out]
 go_wp2_with fail
 refine (next_any s _ (by omega) (by omega) _ (by unfold maxLen; omega)).mono ?_
 rintro e w' ⟨rfl, rfl⟩
 rw [show ((p : Int) + 2).toNat = p + 2 by omega, HB.out]
 go_wp2_with fail
 refine (next_any s _ (by omega) (by omega) _ (by unfold maxLen; omega)).mono ?_
 rintro e w' ⟨rfl, rfl⟩
 rw [show ((p : Int) + 3).toNat = p + 3 by omega, HD.out]
 go_wp2_with fail
 all_goals
  go_ret2
  refine ⟨ret2_pair ?_, rfl⟩
  unfold rune1I
  repeat' split
  all_goals first | rfl | (exfalso; omega) | exact pair_eq (by omega) (by omega)
theorem rune1L_spec (l : List UInt8) : (rune1L l).1 = (decodeL l).1 ∧ max (rune1L l).2 1 = (decodeL l).2 ∧ ((rune1L l).2 = 0 ↔ badRune (decodeL l) = true) := by
 have hw := decodeL_width l
 unfold rune1L
 by_cases h : badRune (decodeL l) = true
 ·rw [if_pos h]
  have h' := h
  unfold badRune at h'
  simp at h'
  refine ⟨h'.1.symm, ?_, ?_⟩
  ·rw [h'.2]; rfl
  ·simp [h]
 ·rw [if_neg h]
  refine ⟨rfl, Nat.max_eq_left hw.1, ?_⟩
  constructor
  ·intro e; omega
  ·intro e; exact absurd e h
theorem rune1_at (s : ByteArray) (p : Nat) (hp : p < s.size) (w : World) (hs : s.size ≤ 140737488355328) :
  Calls Tryz.prog 94 #[.string s, .int .i64 (p : Int)] w fun e w' => ∃ c k : Nat, e = .returned (.tuple #[.int .i64 (c : Int), .int .i64 (k : Int)]) ∧ c = (decodeL (s.data.toList.drop p)).1 ∧ max k 1 = (decodeL (s.data.toList.drop p)).2 ∧ (k = 0 ↔ badRune (decodeL (s.data.toList.drop p)) = true) ∧ w = w' :=
 (rune1_any s p hp w hs).mono fun e w' hh => ⟨_, _, hh.1, (rune1L_spec _).1, (rune1L_spec _).2.1, (rune1L_spec _).2.2, hh.2⟩
set_option maxHeartbeats 400000 in
theorem hash_any (s : ByteArray) (w : World) (hs : s.size ≤ maxLen) :
  Calls Tryz.prog 112 #[.string s] w fun e w' => e = .returned (.int .i64 ((hashL s.data.toList : Nat) : Int)) ∧ Below w.heap.size w w' := by
 unfold maxLen at hs
 go_enter Tryz.func112, Tryz.ntmps112
 go_wp2
 go_loopw [3] (fun n w' => ∃ (pos acc : Nat), w' = w.iter s pos ∧ n = .int .u32 acc ∧ acc < 4294967296 ∧ hashFrom (s.data.toList.drop pos) acc = hashL s.data.toList) (fun _ w' => s.size - w'.iterPos w.heap.size)
 case atStart => exact ⟨0, 7, rfl, rfl, by omega, by simp [hashL]⟩
 case round =>
  obtain ⟨pos, acc, rfl, rfl, hacc, hc⟩ := hrel
  by_cases hp : pos < s.size
  ·have hd := decode_list s pos
   have hw := decodeL_width (s.data.toList.drop pos)
   have hle := decodeL_le (s.data.toList.drop pos)
   have hcc := hashFrom_cons _ acc (drop_ne hp)
   rw [hcc, ← hd] at hc
   rw [← hd] at hw hle
   have hnx : ∀ ty, (Instr.next (.pointer (some ⟨w.heap.size, 0, none⟩)) true ty).run Tryz.prog (w.iter s pos) = _ := fun ty => run_next_any w s pos ty hp
   have Hc := Lib.hid hc
   clear hd hcc hc
   go_wp2
   go_roundw
   case rel => exact ⟨pos + (Utf8.decode s pos).2, hashStep acc (Utf8.decode s pos), rfl, valv_int (by unfold hashStep; omega), hashStep_lt _ _, by have := Hc.out; rw [List.drop_drop] at this; exact this⟩
   case measure => simp; omega
  ·have hnx : ∀ ty, (Instr.next (.pointer (some ⟨w.heap.size, 0, none⟩)) true ty).run Tryz.prog (w.iter s pos) = _ := fun ty => run_next_end w s pos ty hp
   rw [drop_all hp] at hc
   have Hc := Lib.hid hc
   clear hc
   go_wp2
   go_ret
   exact ⟨retv_int (by have := Hc.out; rw [hashFrom_nil] at this; omega), below_iter _ _ _⟩
set_option maxHeartbeats 400000 in
theorem refhash_any (s : ByteArray) (w : World) (hs : s.size ≤ 140737488355328) :
  Calls Tryz.prog 95 #[.string s] w fun e w' => e = .returned (.int .i64 ((hashL s.data.toList : Nat) : Int)) ∧ w = w' := by
 go_enter Tryz.func95, Tryz.ntmps95
 go_wp2_with fail
 go_loop [3, 4] (fun n i => ∃ (pos acc : Nat), i = .int .i64 pos ∧ n = .int .i64 acc ∧ pos ≤ s.size ∧ acc < 4294967296 ∧ hashFrom (s.data.toList.drop pos) acc = hashL s.data.toList) (fun _ i => s.size - (intOf i).toNat)
 case atStart => exact ⟨0, 7, rfl, rfl, by omega, by omega, by simp [hashL]⟩
 case round =>
  obtain ⟨pos, acc, rfl, rfl, hps, hacc, hc⟩ := hrel
  by_cases hp : pos < s.size
  ·have hw := decodeL_width (s.data.toList.drop pos)
   have hle := decodeL_le (s.data.toList.drop pos)
   have hf := decodeL_fits _ (drop_ne hp)
   rw [List.length_drop] at hf
   have hsz : s.data.toList.length = s.size := rfl
   rw [hsz] at hf
   have hcc := hashFrom_cons _ acc (drop_ne hp)
   rw [hcc] at hc
   have Hc := Lib.hid hc
   clear hcc hc hsz
   go_wp2_with fail
   refine (rune1_at s pos hp _ hs).mono ?_
   rintro e w' ⟨c, k, rfl, hc1, hk1, hk2, rfl⟩
   have hk1' : k ≤ 4 := by omega
   have hcle : c ≤ 1114111 := by omega
   have Hc1 := Lib.hid hc1
   have Hk1 := Lib.hid hk1
   clear hc1 hk1 hk2
   by_cases hk0 : 1 ≤ k
   ·go_wp2
    go_round
    case rel => exact ⟨pos + (decodeL (s.data.toList.drop pos)).2, hashStep acc (decodeL (s.data.toList.drop pos)), valv_int (by have := Hk1.out; omega), valv_int (by have := Hc1.out; unfold hashStep; omega), by omega, hashStep_lt _ _, by have := Hc.out; rw [List.drop_drop] at this; exact this⟩
    case measure => simp [intOf]; omega
   ·obtain rfl : k = 0 := by omega
    go_wp2
    go_round
    case rel => exact ⟨pos + (decodeL (s.data.toList.drop pos)).2, hashStep acc (decodeL (s.data.toList.drop pos)), valv_int (by have := Hk1.out; omega), valv_int (by have := Hc1.out; unfold hashStep; omega), by omega, hashStep_lt _ _, by have := Hc.out; rw [List.drop_drop] at this; exact this⟩
    case measure => simp [intOf]; omega
  ·rw [drop_all hp] at hc
   have Hc := Lib.hid hc
   clear hc
   go_wp2
   go_ret
   exact ⟨retv_int (by have := Hc.out; rw [hashFrom_nil] at this; omega), rfl⟩
set_option maxHeartbeats 400000 in
theorem refbucket_any (s : ByteArray) (w : World) (hs : s.size ≤ 140737488355328) :
  Calls Tryz.prog 75 #[.string s] w fun e w' => e = .returned (.int .i64 ((hashL s.data.toList % 8 : Nat) : Int)) ∧ w = w' := by
 have hh := hashL_lt s.data.toList
 go_enter Tryz.func75, Tryz.ntmps75
 go_wp2_with fail
 refine (refhash_any s _ hs).mono ?_
 rintro e w' ⟨rfl, rfl⟩
 go_wp2
 go_ret
 exact ⟨retv_int (by omega), rfl⟩
theorem checkL_long {l : List UInt8} (h : 12 < l.length) : checkL l = 801 := if_pos h
theorem checkL_dots {l : List UInt8} (h : ¬ 12 < l.length) (k : l = [] ∨ l = [46] ∨ l = [46, 46]) : checkL l = 800 := by unfold checkL; rw [if_neg h, if_pos k]
theorem checkL_else {l : List UInt8} (h : ¬ 12 < l.length) (k : ¬ (l = [] ∨ l = [46] ∨ l = [46, 46])) : checkL l = if anyBad l then 800 else 0 := by unfold checkL; rw [if_neg h, if_neg k]
theorem runeBad_iff (p : Nat × Nat) : runeBad p = true ↔ (p.1 = 47 ∨ p.1 < 32 ∨ p.1 = 127 ∨ badRune p = true) := by
 unfold runeBad
 simp [or_assoc]
set_option maxHeartbeats 1000000 in
theorem refcheck_any (s : ByteArray) (w : World) (hs : s.size ≤ 140737488355328) :
  Calls Tryz.prog 73 #[.string s] w fun e w' => e = .returned (.int .i64 ((checkL s.data.toList : Nat) : Int)) ∧ w = w' := by
 have hsz : s.data.toList.length = s.size := rfl
 have htl := ByteArray.toList_eq s
 by_cases hlong : 12 < s.size
 ·rw [checkL_long (by omega)]
  clear htl hsz
  go_enter Tryz.func73, Tryz.ntmps73
  go_wp2_with fail
  go_ret
  exact ⟨rfl, rfl⟩
 by_cases hdots : s.data.toList = [] ∨ s.data.toList = [46] ∨ s.data.toList = [46, 46]
 ·rw [checkL_dots (by omega) hdots]
  rw [← htl] at hdots
  clear htl hsz
  rcases hdots with h | h | h
  ·go_enter Tryz.func73, Tryz.ntmps73
   go_wp2_with fail
   go_ret
   exact ⟨rfl, rfl⟩
  ·go_enter Tryz.func73, Tryz.ntmps73
   go_wp2_with fail
   go_ret
   exact ⟨rfl, rfl⟩
  ·go_enter Tryz.func73, Tryz.ntmps73
   go_wp2_with fail
   go_ret
   exact ⟨rfl, rfl⟩
 rw [checkL_else (by omega) hdots]
 obtain ⟨R, hR⟩ : ∃ R, (if anyBad s.data.toList = true then 800 else 0) = R := ⟨_, rfl⟩
 rw [hR]
 have HR := Lib.hid hR
 clear hR
 have hd0 : s.toList.isEmpty = false := by rw [htl]; simpa using fun e => hdots (.inl e)
 have hd1 : (s.toList == [46]) = false := by rw [htl, beq_eq_false_iff_ne]; exact fun e => hdots (.inr (.inl e))
 have hd2 : (s.toList == [46, 46]) = false := by rw [htl, beq_eq_false_iff_ne]; exact fun e => hdots (.inr (.inr e))
 have he0 : ¬ s.toList = [] := by rw [htl]; exact fun e => hdots (.inl e)
 have he1 : ¬ s.toList = [46] := by rw [htl]; exact fun e => hdots (.inr (.inl e))
 have he2 : ¬ s.toList = [46, 46] := by rw [htl]; exact fun e => hdots (.inr (.inr e))
 clear htl hsz hdots
 go_enter Tryz.func73, Tryz.ntmps73
 go_wp2_with fail
 clear hd0 hd1 hd2 he0 he1 he2
 go_loop [3] (fun i => ∃ (pos : Nat), i = .int .i64 pos ∧ pos ≤ s.size ∧ anyBad (s.data.toList.drop pos) = anyBad s.data.toList) (fun i => s.size - (intOf i).toNat)
 case atStart => exact ⟨0, rfl, by omega, by simp⟩
 case round =>
  obtain ⟨pos, rfl, hps, hc⟩ := hrel
  by_cases hp : pos < s.size
  ·have hw := decodeL_width (s.data.toList.drop pos)
   have hf := decodeL_fits _ (drop_ne hp)
   rw [List.length_drop] at hf
   have hsz : s.data.toList.length = s.size := rfl
   rw [hsz] at hf
   have hcc := anyBad_cons _ (drop_ne hp)
   rw [hcc] at hc
   have Hc := Lib.hid hc
   clear hcc hc hsz
   go_wp2_with fail
   refine (rune1_at s pos hp _ hs).mono ?_
   rintro e w' ⟨c, k, rfl, hc1, hk1, hk2, rfl⟩
   have hk1' : k ≤ 4 := by omega
   have Hk1 := Lib.hid hk1
   by_cases hb : runeBad (decodeL (s.data.toList.drop pos)) = true
   ·have hbad : anyBad s.data.toList = true := by rw [← Hc.out, hb]; rfl
    rw [runeBad_iff, ← hc1, ← hk2] at hb
    have HB := Lib.hid hbad
    clear hc1 hk1 hk2 hbad
    by_cases c0 : k = 0
    ·subst c0
     go_wp2
     go_ret
     exact ⟨retv_int (by have := HR.out; rw [if_pos HB.out] at this; omega), rfl⟩
    ·by_cases c1 : c = 47
     ·subst c1
      go_wp2
      go_ret
      exact ⟨retv_int (by have := HR.out; rw [if_pos HB.out] at this; omega), rfl⟩
     ·by_cases c2 : c < 32
      ·clear hb
       go_wp2
       go_ret
       exact ⟨retv_int (by have := HR.out; rw [if_pos HB.out] at this; omega), rfl⟩
      ·obtain rfl : c = 127 := by omega
       go_wp2
       go_ret
       exact ⟨retv_int (by have := HR.out; rw [if_pos HB.out] at this; omega), rfl⟩
   ·have hn : anyBad (s.data.toList.drop (pos + (decodeL (s.data.toList.drop pos)).2)) = anyBad s.data.toList := by
     rw [← Hc.out, Bool.eq_false_iff.2 hb, List.drop_drop]; rfl
    rw [runeBad_iff, ← hc1, ← hk2] at hb
    have c0 : 1 ≤ k := by omega
    have c1 : ¬ c = 47 := by omega
    have c2 : ¬ c < 32 := by omega
    have c3 : ¬ c = 127 := by omega
    have q0 : ((k : Int) == 0) = false := by rw [beq_eq_false_iff_ne]; omega
    have q1 : ((c : Int) == 47) = false := by rw [beq_eq_false_iff_ne]; omega
    have q3 : ((c : Int) == 127) = false := by rw [beq_eq_false_iff_ne]; omega
    have q2 : decide ((c : Int) < 32) = false := by simp; omega
    have HN := Lib.hid hn
    clear hc1 hk1 hk2 hb hn
    go_wp2
    go_round
    case rel => exact ⟨pos + (decodeL (s.data.toList.drop pos)).2, valv_int (by have := Hk1.out; omega), by omega, HN.out⟩
    case measure => simp [intOf]; omega
  ·rw [drop_all hp, anyBad_nil] at hc
   have Hc := Lib.hid hc
   clear hc
   go_wp2
   go_ret
   exact ⟨retv_int (by have := HR.out; rw [if_neg (by rw [← Hc.out]; simp)] at this; omega), rfl⟩
end Go.Proofs.YthhceopnnappgaaGreat
