/- Parts of the proof, side by side: FsPlain2, NameBase, Rune1, RefCheck. -/
import Derived.Test.YthhceopnnappgaaGreatDoorM00
import Derived.Test.YthhceopnnappgaaGreatDoorM04
import Derived.Test.YthhceopnnappgaaGreatDoorRows
import Derived.WalkKit
import Derived.WalkSpells
import Derived.WalkLawsBesides
import Derived.Lib.Hide
import Derived.Laws.RangeAny
set_option linter.unusedVariables false
set_option linter.unusedSimpArgs false
namespace Go.Proofs.YthhceopnnappgaaGreatDoor
def txt (l : List UInt8) : ByteArray := ⟨l.toArray⟩
def walkG (is : List Ino) : List (List UInt8) → Int → Int × Int
 | [], at_ => (at_, 0)
 | n :: ns, at_ =>
  match inoAt is (atV is at_) with
  | none => (0, 0)
  | some x => if x.dir = false then (0, 7) else if entV is at_ (txt n) = 0 then (0, 1) else walkG is ns (entV is at_ (txt n))
def codeP (n : Nat) : Int := if n = 0 then 0 else if n = 1101 ∨ n = 1102 then 6 else 9
def dirAt (is : List Ino) (num : Int) : Bool := match inoAt is (atV is num) with | none => false | some x => x.dir
def parentV (is : List Ino) (path : ByteArray) : Int × ByteArray × Int :=
 if (parseL path.data.toList).2 ≠ 0 then (0, txt [], codeP (parseL path.data.toList).2)
 else if (parseL path.data.toList).1 = [] then (0, txt [], 9)
 else if (walkG is (parseL path.data.toList).1.dropLast 1).2 ≠ 0 then (0, txt [], (walkG is (parseL path.data.toList).1.dropLast 1).2)
 else if dirAt is (walkG is (parseL path.data.toList).1.dropLast 1).1 = false then (0, txt [], 7)
 else ((walkG is (parseL path.data.toList).1.dropLast 1).1, txt ((parseL path.data.toList).1.getLastD []), 0)
def fullE : List En → ByteArray → ByteArray → Nat
 | [], _, _ => 0
 | e :: es, name, but => (if e.name ≠ but ∧ bktB e.name = bktB name then 1 else 0) + fullE es name but
def fullV (is : List Ino) (dir : Int) (name but : ByteArray) : Bool := match inoAt is (atV is dir) with | none => false | some x => decide (4 ≤ fullE x.ents name but)
def putE : List En → ByteArray → Int → List En
 | [], name, num => [⟨name, num⟩]
 | e :: es, name, num => if ltN name e.name then ⟨name, num⟩ :: e :: es else e :: putE es name num
def setEnts (is : List Ino) (num : Int) (f : List En → List En) : List Ino := is.modify (atV is num).toNat fun x => { x with ents := f x.ents }
def putI : List Ino → Ino → List Ino
 | [], y => [y]
 | x :: xs, y => if y.num < x.num then y :: x :: xs else x :: putI xs y
structure Ca where
 kind : Int
 core : Int
 fd : Int
 off : Int
 num : Int
 path : ByteArray
 path2 : ByteArray
 data : ByteArray
structure Re where
 code : Int := 0
 fd : Int := 0
 num : Int := 0
 dir : Bool := false
 data : ByteArray := ⟨#[]⟩
 names : List ByteArray := []
def make1V (s : St) (c : Ca) : St × Re :=
 if (parentV s.inos c.path).2.2 ≠ 0 then (s, { code := (parentV s.inos c.path).2.2 })
 else if entV s.inos (parentV s.inos c.path).1 (parentV s.inos c.path).2.1 ≠ 0 then (s, { code := 2 })
 else if fullV s.inos (parentV s.inos c.path).1 (parentV s.inos c.path).2.1 (txt []) = true ∨ 32 ≤ s.made.getD c.core.toNat 0 then (s, { code := 5 })
 else ({ s with made := s.made.set c.core.toNat (s.made.getD c.core.toNat 0 + 1), inos := putI (setEnts s.inos (parentV s.inos c.path).1 fun es => putE es (parentV s.inos c.path).2.1 (2 + c.core + 8 * s.made.getD c.core.toNat 0)) ⟨2 + c.core + 8 * s.made.getD c.core.toNat 0, decide (c.kind = 1), [], txt []⟩ }, {})
def newV (cores : Nat) : St := ⟨[⟨1, true, [], txt []⟩], [], List.replicate cores 0⟩
theorem scan_len : ∀ (r cur : List UInt8) (out : List (List UInt8)), (scanP r cur out).1.length ≤ 4
 | [], _, out => by unfold scanP; split <;> simp <;> omega
 | b :: r, cur, out => by
  unfold scanP
  split
  ·split
   ·exact scan_len r _ _
   ·split <;> simp
  ·exact scan_len r _ _
theorem scan_err : ∀ (r cur : List UInt8) (out : List (List UInt8)), (scanP r cur out).2 ≤ 1102
 | [], _, out => by unfold scanP; split <;> simp
 | b :: r, cur, out => by
  unfold scanP
  split
  ·split
   ·exact scan_err r _ _
   ·split <;> simp
  ·exact scan_err r _ _
theorem parse_err (l : List UInt8) : (parseL l).2 ≤ 1102 := by
 unfold parseL
 split
 ·simp
 ·split
  ·simp
  ·split
   ·simp
   ·exact scan_err _ _ _
theorem parse_len (l : List UInt8) : (parseL l).1.length ≤ 4 := by
 unfold parseL
 split
 ·simp
 ·split
  ·simp
  ·split
   ·simp
   ·exact scan_len _ _ _
end Go.Proofs.YthhceopnnappgaaGreatDoor
namespace Go.Proofs.YthhceopnnappgaaGreatDoor
open Go.RowKit
theorem drop_ne {s : ByteArray} {p : Nat} (h : p < s.size) : s.data.toList.drop p ≠ [] := by
 intro e
 have e2 := congrArg List.length e
 have e3 : s.size = s.data.toList.length := rfl
 rw [List.length_drop] at e2
 simp only [List.length_nil] at e2
 omega
theorem drop_all {s : ByteArray} {p : Nat} (h : ¬ p < s.size) : s.data.toList.drop p = [] := by
 apply List.drop_eq_nil_of_le
 have e3 : s.size = s.data.toList.length := rfl
 omega
theorem retv_int {k : IntKind} {a b : Int} (h : a = b) : Ending.returned (.int k a) = .returned (.int k b) := by rw [h]
theorem valv_int {k : IntKind} {a b : Int} (h : a = b) : Value.int k a = .int k b := by rw [h]
theorem below_iter (w : World) (s : ByteArray) (p : Nat) : Below w.heap.size w (w.iter s p) := (Below.refl _ _).alloc (Nat.le_refl _) _
theorem getD_at {s : ByteArray} {i : Nat} (h : i < s.size) : s.data.toList.getD i 0 = s[i] := by
 have h' : i < s.data.size := h
 rw [List.getD_eq_getElem?_getD, Array.getElem?_toList, Array.getElem?_eq_getElem h']
 rfl
set_option maxHeartbeats 400000 in
theorem next_any (s : ByteArray) (i : Int) (h0 : 0 ≤ i) (h1 : i ≤ 9223372036854775806) (w : World) (hs : s.size ≤ maxLen) :
  Calls Tryz.prog 110 #[.string s, .int .i64 i] w fun e w' => e = .returned (.int .i64 (nextL s.data.toList i.toNat)) ∧ w = w' := by
 unfold maxLen at hs
 obtain ⟨n, rfl⟩ := Int.eq_ofNat_of_zero_le h0
 rw [Int.toNat_natCast]
 have hsz : s.data.toList.length = s.size := rfl
 by_cases hn : n < s.size
 ·have hg := getD_at hn
  obtain ⟨v, hv⟩ : ∃ v : UInt8, s[n] = v := ⟨_, rfl⟩
  have hvl := v.toNat_lt
  have e : nextL s.data.toList n = if 128 ≤ v.toNat ∧ v.toNat ≤ 191 then (v.toNat : Int) - 128 else -1 := by
   unfold nextL
   rw [hsz, hg, hv]
   simp [hn]
  rw [e]
  clear e hg hsz
  by_cases c1 : v.toNat < 128
  ·rw [if_neg (by omega)]
   go_enter Tryz.func110, Tryz.ntmps110
   go_wp2
   go_ret
   exact ⟨rfl, rfl⟩
  ·by_cases c2 : v.toNat ≤ 191
   ·rw [if_pos (by omega)]
    go_enter Tryz.func110, Tryz.ntmps110
    go_wp2
    go_ret
    exact ⟨rfl, rfl⟩
   ·rw [if_neg (by omega)]
    go_enter Tryz.func110, Tryz.ntmps110
    go_wp2
    go_ret
    exact ⟨rfl, rfl⟩
 ·have e : nextL s.data.toList n = -1 := by unfold nextL; rw [if_neg (by omega)]
  rw [e]
  clear e hsz
  go_enter Tryz.func110, Tryz.ntmps110
  go_wp2
  go_ret
  exact ⟨rfl, rfl⟩
theorem ret2_pair {x y : Int} {q : Int × Int} (h : (x, y) = q) : Ending.returned (.tuple #[.int .i64 x, .int .i64 y]) = .returned (.tuple #[.int .i64 q.1, .int .i64 q.2]) := by rw [← h]
set_option maxRecDepth 100000 in
set_option maxHeartbeats 1000000 in
theorem rune1_any (s : ByteArray) (p : Nat) (hp : p < s.size) (w : World) (hs : s.size ≤ 140737488355328) :
  Calls Tryz.prog 83 #[.string s, .int .i64 (p : Int)] w fun e w' => e = .returned (.tuple #[.int .i64 ((rune1L (s.data.toList.drop p)).1 : Int), .int .i64 ((rune1L (s.data.toList.drop p)).2 : Int)]) ∧ w = w' := by
 have hl := rune1_list _ (drop_ne hp)
 simp only [nextL_drop] at hl
 have hg : (s.data.toList.drop p).getD 0 0 = s[p] := by
  rw [← getD_at hp]; simp [List.getD_eq_getElem?_getD, List.getElem?_drop]
 rw [hg] at hl
 obtain ⟨v, hv⟩ : ∃ v : UInt8, s[p] = v := ⟨_, rfl⟩
 have hvl := v.toNat_lt
 rw [hv] at hl
 obtain ⟨a, ha⟩ : ∃ a, nextL s.data.toList (p + 1) = a := ⟨_, rfl⟩
 obtain ⟨b, hb⟩ : ∃ a, nextL s.data.toList (p + 2) = a := ⟨_, rfl⟩
 obtain ⟨d, hd⟩ : ∃ a, nextL s.data.toList (p + 3) = a := ⟨_, rfl⟩
 have ra := nextL_range s.data.toList (p + 1)
 have rb := nextL_range s.data.toList (p + 2)
 have rd := nextL_range s.data.toList (p + 3)
 rw [ha] at ra hl
 rw [hb] at rb hl
 rw [hd] at rd hl
 have hl1 := congrArg Prod.fst hl
 have hl2 := congrArg Prod.snd hl
 simp only at hl1 hl2
 rw [← hl1, ← hl2]
 clear hl hl1 hl2 hg
 have HA := Lib.hid ha
 have HB := Lib.hid hb
 have HD := Lib.hid hd
 clear ha hb hd
 go_enter Tryz.func83, Tryz.ntmps83
 go_wp2_with fail
 refine (next_any s _ (by omega) (by omega) _ (by unfold maxLen; omega)).mono ?_
 rintro e w' ⟨rfl, rfl⟩
 rw [show ((p : Int) + 1).toNat = p + 1 by omega, HA.out]
 go_wp2_with fail
 refine (next_any s _ (by omega) (by omega) _ (by unfold maxLen; omega)).mono ?_
 rintro e w' ⟨rfl, rfl⟩
 rw [show ((p : Int) + 2).toNat = p + 2 by omega, HB.out]
 go_wp2_with fail
 refine (next_any s _ (by omega) (by omega) _ (by unfold maxLen; omega)).mono ?_
 rintro e w' ⟨rfl, rfl⟩
 rw [show ((p : Int) + 3).toNat = p + 3 by omega, HD.out]
 go_wp2_with fail
 all_goals
  go_ret2
  refine ⟨ret2_pair ?_, rfl⟩
  unfold rune1I
  repeat' split
  all_goals first | rfl | (exfalso; omega) | exact pair_eq (by omega) (by omega)
theorem rune1L_spec (l : List UInt8) : (rune1L l).1 = (decodeL l).1 ∧ max (rune1L l).2 1 = (decodeL l).2 ∧ ((rune1L l).2 = 0 ↔ badRune (decodeL l) = true) := by
 have hw := decodeL_width l
 unfold rune1L
 by_cases h : badRune (decodeL l) = true
 ·rw [if_pos h]
  have h' := h
  unfold badRune at h'
  simp at h'
  refine ⟨h'.1.symm, ?_, ?_⟩
  ·rw [h'.2]; rfl
  ·simp [h]
 ·rw [if_neg h]
  refine ⟨rfl, Nat.max_eq_left hw.1, ?_⟩
  constructor
  ·intro e; omega
  ·intro e; exact absurd e h
theorem rune1_at (s : ByteArray) (p : Nat) (hp : p < s.size) (w : World) (hs : s.size ≤ 140737488355328) :
  Calls Tryz.prog 83 #[.string s, .int .i64 (p : Int)] w fun e w' => ∃ c k : Nat, e = .returned (.tuple #[.int .i64 (c : Int), .int .i64 (k : Int)]) ∧ c = (decodeL (s.data.toList.drop p)).1 ∧ max k 1 = (decodeL (s.data.toList.drop p)).2 ∧ (k = 0 ↔ badRune (decodeL (s.data.toList.drop p)) = true) ∧ w = w' :=
 (rune1_any s p hp w hs).mono fun e w' hh => ⟨_, _, hh.1, (rune1L_spec _).1, (rune1L_spec _).2.1, (rune1L_spec _).2.2, hh.2⟩
theorem checkL_long {l : List UInt8} (h : 12 < l.length) : checkL l = 801 := if_pos h
theorem checkL_dots {l : List UInt8} (h : ¬ 12 < l.length) (k : l = [] ∨ l = [46] ∨ l = [46, 46]) : checkL l = 800 := by unfold checkL; rw [if_neg h, if_pos k]
theorem checkL_else {l : List UInt8} (h : ¬ 12 < l.length) (k : ¬ (l = [] ∨ l = [46] ∨ l = [46, 46])) : checkL l = if anyBad l then 800 else 0 := by unfold checkL; rw [if_neg h, if_neg k]
theorem runeBad_iff (p : Nat × Nat) : runeBad p = true ↔ (p.1 = 47 ∨ p.1 < 32 ∨ p.1 = 127 ∨ badRune p = true) := by
 unfold runeBad
 simp [or_assoc]
set_option maxHeartbeats 1000000 in
theorem refcheck_any (s : ByteArray) (w : World) (hs : s.size ≤ 140737488355328) :
  Calls Tryz.prog 58 #[.string s] w fun e w' => e = .returned (.int .i64 ((checkL s.data.toList : Nat) : Int)) ∧ w = w' := by
 have hsz : s.data.toList.length = s.size := rfl
 have htl := ByteArray.toList_eq s
 by_cases hlong : 12 < s.size
 ·rw [checkL_long (by omega)]
  clear htl hsz
  go_enter Tryz.func58, Tryz.ntmps58
  go_wp2_with fail
  go_ret
  exact ⟨rfl, rfl⟩
 by_cases hdots : s.data.toList = [] ∨ s.data.toList = [46] ∨ s.data.toList = [46, 46]
 ·rw [checkL_dots (by omega) hdots]
  rw [← htl] at hdots
  clear htl hsz
  rcases hdots with h | h | h
  ·go_enter Tryz.func58, Tryz.ntmps58
   go_wp2_with fail
   go_ret
   exact ⟨rfl, rfl⟩
  ·go_enter Tryz.func58, Tryz.ntmps58
   go_wp2_with fail
   go_ret
   exact ⟨rfl, rfl⟩
  ·go_enter Tryz.func58, Tryz.ntmps58
   go_wp2_with fail
   go_ret
   exact ⟨rfl, rfl⟩
 rw [checkL_else (by omega) hdots]
 obtain ⟨R, hR⟩ : ∃ R, (if anyBad s.data.toList = true then 800 else 0) = R := ⟨_, rfl⟩
 rw [hR]
 have HR := Lib.hid hR
 clear hR
 have hd0 : s.toList.isEmpty = false := by rw [htl]; simpa using fun e => hdots (.inl e)
 have hd1 : (s.toList == [46]) = false := by rw [htl, beq_eq_false_iff_ne]; exact fun e => hdots (.inr (.inl e))
 have hd2 : (s.toList == [46, 46]) = false := by rw [htl, beq_eq_false_iff_ne]; exact fun e => hdots (.inr (.inr e))
 have he0 : ¬ s.toList = [] := by rw [htl]; exact fun e => hdots (.inl e)
 have he1 : ¬ s.toList = [46] := by rw [htl]; exact fun e => hdots (.inr (.inl e))
 have he2 : ¬ s.toList = [46, 46] := by rw [htl]; exact fun e => hdots (.inr (.inr e))
 clear htl hsz hdots
 go_enter Tryz.func58, Tryz.ntmps58
 go_wp2_with fail
 clear hd0 hd1 hd2 he0 he1 he2
 go_loop [3] (fun i => ∃ (pos : Nat), i = .int .i64 pos ∧ pos ≤ s.size ∧ anyBad (s.data.toList.drop pos) = anyBad s.data.toList) (fun i => s.size - (intOf i).toNat)
 case atStart => exact ⟨0, rfl, by omega, by simp⟩
 case round =>
  obtain ⟨pos, rfl, hps, hc⟩ := hrel
  by_cases hp : pos < s.size
  ·have hw := decodeL_width (s.data.toList.drop pos)
   have hf := decodeL_fits _ (drop_ne hp)
   rw [List.length_drop] at hf
   have hsz : s.data.toList.length = s.size := rfl
   rw [hsz] at hf
   have hcc := anyBad_cons _ (drop_ne hp)
   rw [hcc] at hc
   have Hc := Lib.hid hc
   clear hcc hc hsz
   go_wp2_with fail
   refine (rune1_at s pos hp _ hs).mono ?_
   rintro e w' ⟨c, k, rfl, hc1, hk1, hk2, rfl⟩
   have hk1' : k ≤ 4 := by omega
   have Hk1 := Lib.hid hk1
   by_cases hb : runeBad (decodeL (s.data.toList.drop pos)) = true
   ·have hbad : anyBad s.data.toList = true := by rw [← Hc.out, hb]; rfl
    rw [runeBad_iff, ← hc1, ← hk2] at hb
    have HB := Lib.hid hbad
    clear hc1 hk1 hk2 hbad
    by_cases c0 : k = 0
    ·subst c0
     go_wp2
     go_ret
     exact ⟨retv_int (by have := HR.out; rw [if_pos HB.out] at this; omega), rfl⟩
    ·by_cases c1 : c = 47
     ·subst c1
      go_wp2
      go_ret
      exact ⟨retv_int (by have := HR.out; rw [if_pos HB.out] at this; omega), rfl⟩
     ·by_cases c2 : c < 32
      ·clear hb
       go_wp2
       go_ret
       exact ⟨retv_int (by have := HR.out; rw [if_pos HB.out] at this; omega), rfl⟩
      ·obtain rfl : c = 127 := by omega
       go_wp2
       go_ret
       exact ⟨retv_int (by have := HR.out; rw [if_pos HB.out] at this; omega), rfl⟩
   ·have hn : anyBad (s.data.toList.drop (pos + (decodeL (s.data.toList.drop pos)).2)) = anyBad s.data.toList := by
     rw [← Hc.out, Bool.eq_false_iff.2 hb, List.drop_drop]; rfl
    rw [runeBad_iff, ← hc1, ← hk2] at hb
    have c0 : 1 ≤ k := by omega
    have c1 : ¬ c = 47 := by omega
    have c2 : ¬ c < 32 := by omega
    have c3 : ¬ c = 127 := by omega
    have q0 : ((k : Int) == 0) = false := by rw [beq_eq_false_iff_ne]; omega
    have q1 : ((c : Int) == 47) = false := by rw [beq_eq_false_iff_ne]; omega
    have q3 : ((c : Int) == 127) = false := by rw [beq_eq_false_iff_ne]; omega
    have q2 : decide ((c : Int) < 32) = false := by simp; omega
    have HN := Lib.hid hn
    clear hc1 hk1 hk2 hb hn
    go_wp2
    go_round
    case rel => exact ⟨pos + (decodeL (s.data.toList.drop pos)).2, valv_int (by have := Hk1.out; omega), by omega, HN.out⟩
    case measure => simp [intOf]; omega
  ·rw [drop_all hp, anyBad_nil] at hc
   have Hc := Lib.hid hc
   clear hc
   go_wp2
   go_ret
   exact ⟨retv_int (by have := HR.out; rw [if_neg (by rw [← Hc.out]; simp)] at this; omega), rfl⟩
end Go.Proofs.YthhceopnnappgaaGreatDoor
