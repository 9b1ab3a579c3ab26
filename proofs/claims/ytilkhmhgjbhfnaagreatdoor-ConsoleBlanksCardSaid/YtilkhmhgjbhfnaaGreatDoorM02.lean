/- Parts of the proof, side by side: FsPlain2, NameBase, Rune1, RefCheck, Check, May, RefParse, FsWalk, FsParent. -/
import Derived.Test.YtilkhmhgjbhfnaaGreatDoorM00
import Derived.Test.YtilkhmhgjbhfnaaGreatDoorM01
import Derived.Test.YtilkhmhgjbhfnaaGreatDoorRows
import Derived.WalkKit
import Derived.WalkSpells
import Derived.WalkLawsBesides
import Derived.Lib.Hide
import Derived.Laws.RangeAny
import Derived.OwnWalk
import Derived.Deep.RegionHeld3
set_option linter.unusedVariables false
set_option linter.unusedSimpArgs false
namespace Go.Proofs.YtilkhmhgjbhfnaaGreatDoor
def txt (l : List UInt8) : ByteArray := ⟨l.toArray⟩
def walkG (is : List Ino) : List (List UInt8) → Int → Int × Int
 | [], at_ => (at_, 0)
 | n :: ns, at_ =>
  match inoAt is (atV is at_) with
  | none => (0, 0)
  | some x => if x.dir = false then (0, 7) else if entV is at_ (txt n) = 0 then (0, 1) else walkG is ns (entV is at_ (txt n))
def codeP (n : Nat) : Int := if n = 0 then 0 else if n = 1101 ∨ n = 1102 then 6 else 9
def findV (is : List Ino) (path : ByteArray) : Int × Int :=
 if (parseL path.data.toList).2 ≠ 0 then (0, codeP (parseL path.data.toList).2) else walkG is (parseL path.data.toList).1 1
def dirAt (is : List Ino) (num : Int) : Bool := match inoAt is (atV is num) with | none => false | some x => x.dir
def parentV (is : List Ino) (path : ByteArray) : Int × ByteArray × Int :=
 if (parseL path.data.toList).2 ≠ 0 then (0, txt [], codeP (parseL path.data.toList).2)
 else if (parseL path.data.toList).1 = [] then (0, txt [], 9)
 else if (walkG is (parseL path.data.toList).1.dropLast 1).2 ≠ 0 then (0, txt [], (walkG is (parseL path.data.toList).1.dropLast 1).2)
 else if dirAt is (walkG is (parseL path.data.toList).1.dropLast 1).1 = false then (0, txt [], 7)
 else ((walkG is (parseL path.data.toList).1.dropLast 1).1, txt ((parseL path.data.toList).1.getLastD []), 0)
def fullE : List En → ByteArray → ByteArray → Nat
 | [], _, _ => 0
 | e :: es, name, but => (if e.name ≠ but ∧ bktB e.name = bktB name then 1 else 0) + fullE es name but
def fullV (is : List Ino) (dir : Int) (name but : ByteArray) : Bool := match inoAt is (atV is dir) with | none => false | some x => decide (4 ≤ fullE x.ents name but)
def putE : List En → ByteArray → Int → List En
 | [], name, num => [⟨name, num⟩]
 | e :: es, name, num => if ltN name e.name then ⟨name, num⟩ :: e :: es else e :: putE es name num
def dropE : List En → ByteArray → List En
 | [], _ => []
 | e :: es, name => if e.name = name then dropE es name else e :: dropE es name
def setEnts (is : List Ino) (num : Int) (f : List En → List En) : List Ino := is.modify (atV is num).toNat fun x => { x with ents := f x.ents }
def setData (is : List Ino) (num : Int) (d : ByteArray) : List Ino := is.modify (atV is num).toNat fun x => { x with data := d }
def putI : List Ino → Ino → List Ino
 | [], y => [y]
 | x :: xs, y => if y.num < x.num then y :: x :: xs else x :: putI xs y
def dropI : List Ino → Int → List Ino
 | [], _ => []
 | x :: xs, num => if x.num = num then dropI xs num else x :: dropI xs num
def putD : List Ds → Ds → List Ds
 | [], y => [y]
 | d :: ds, y => if y.core < d.core ∨ (d.core = y.core ∧ y.fd < d.fd) then y :: d :: ds else d :: putD ds y
def dropD : List Ds → Int → Int → List Ds
 | [], _, _ => []
 | d :: ds, core, fd => if d.core = core ∧ d.fd = fd then dropD ds core fd else d :: dropD ds core fd
def sweepV (s : St) (num : Int) : St := if 0 < linkI s.inos num ∨ openB s.opn num = true then s else { s with inos := dropI s.inos num }
structure Ca where
 kind : Int
 core : Int
 fd : Int
 off : Int
 num : Int
 path : ByteArray
 path2 : ByteArray
 data : ByteArray
structure Re where
 code : Int := 0
 fd : Int := 0
 num : Int := 0
 dir : Bool := false
 data : ByteArray := ⟨#[]⟩
 names : List ByteArray := []
def make1V (s : St) (c : Ca) : St × Re :=
 if (parentV s.inos c.path).2.2 ≠ 0 then (s, { code := (parentV s.inos c.path).2.2 })
 else if entV s.inos (parentV s.inos c.path).1 (parentV s.inos c.path).2.1 ≠ 0 then (s, { code := 2 })
 else if fullV s.inos (parentV s.inos c.path).1 (parentV s.inos c.path).2.1 (txt []) = true ∨ 32 ≤ s.made.getD c.core.toNat 0 then (s, { code := 5 })
 else ({ s with made := s.made.set c.core.toNat (s.made.getD c.core.toNat 0 + 1), inos := putI (setEnts s.inos (parentV s.inos c.path).1 fun es => putE es (parentV s.inos c.path).2.1 (2 + c.core + 8 * s.made.getD c.core.toNat 0)) ⟨2 + c.core + 8 * s.made.getD c.core.toNat 0, decide (c.kind = 1), [], txt []⟩ }, {})
def freeFd (ds : List Ds) (core : Int) : Nat := if fdV ds core 0 = 0 then 0 else if fdV ds core 1 = 0 then 1 else if fdV ds core 2 = 0 then 2 else if fdV ds core 3 = 0 then 3 else 4
def openedV (s : St) (c : Ca) (want : Int) : St × Re × Bool :=
 if (findV s.inos c.path).2 ≠ 0 then (s, { code := (findV s.inos c.path).2 }, true)
 else if dirAt s.inos (findV s.inos c.path).1 = true then (s, { code := 8 }, true)
 else if freeFd s.opn c.core = 4 then (s, { code := 10 }, true)
 else if 0 ≤ want then
  if 4 ≤ want ∨ fdV s.opn c.core want ≠ 0 then (s, {}, false)
  else ({ s with opn := putD s.opn ⟨c.core, want, (findV s.inos c.path).1⟩ }, { fd := want }, true)
 else ({ s with opn := putD s.opn ⟨c.core, freeFd s.opn c.core, (findV s.inos c.path).1⟩ }, { fd := freeFd s.opn c.core }, true)
def sizedL (l : List UInt8) (k : Nat) : List UInt8 := (l ++ List.replicate k 0).take k
def layL (l : List UInt8) (off : Nat) (d : List UInt8) : List UInt8 := (sizedL l (max l.length (off + d.length))).take off ++ d ++ (sizedL l (max l.length (off + d.length))).drop (off + d.length)
def dataAt (is : List Ino) (num : Int) : ByteArray := match inoAt is (atV is num) with | none => txt [] | some x => x.data
def byFdV (s : St) (c : Ca) : St × Re :=
 if fdV s.opn c.core c.fd = 0 then (s, { code := 4 })
 else if c.kind = 3 then (sweepV { s with opn := dropD s.opn c.core c.fd } (fdV s.opn c.core c.fd), {})
 else if c.kind = 4 then
  if c.off < 0 ∨ 256 < c.off ∨ c.num < 0 ∨ 256 < c.num then (s, { code := 9 })
  else (s, { data := txt (((dataAt s.inos (fdV s.opn c.core c.fd)).data.toList.drop c.off.toNat).take c.num.toNat) })
 else if c.kind = 5 then
  if c.off < 0 ∨ 256 < c.off ∨ 256 < c.data.size then (s, { code := 9 })
  else if 256 < c.off + c.data.size then (s, { code := 5 })
  else if c.data.size = 0 then (s, {})
  else ({ s with inos := setData s.inos (fdV s.opn c.core c.fd) (txt (layL (dataAt s.inos (fdV s.opn c.core c.fd)).data.toList c.off.toNat c.data.data.toList)) }, { num := c.data.size })
 else if c.kind = 6 then
  if c.num < 0 ∨ 256 < c.num then (s, { code := 9 })
  else ({ s with inos := setData s.inos (fdV s.opn c.core c.fd) (txt (sizedL (dataAt s.inos (fdV s.opn c.core c.fd)).data.toList c.num.toNat)) }, {})
 else if c.kind = 7 then (s, { num := (dataAt s.inos (fdV s.opn c.core c.fd)).size })
 else (s, {})
def linkV (s : St) (c : Ca) : St × Re :=
 if (findV s.inos c.path).2 ≠ 0 then (s, { code := (findV s.inos c.path).2 })
 else if dirAt s.inos (findV s.inos c.path).1 = true then (s, { code := 8 })
 else if (parentV s.inos c.path2).2.2 ≠ 0 then (s, { code := (parentV s.inos c.path2).2.2 })
 else if entV s.inos (parentV s.inos c.path2).1 (parentV s.inos c.path2).2.1 ≠ 0 then (s, { code := 2 })
 else if fullV s.inos (parentV s.inos c.path2).1 (parentV s.inos c.path2).2.1 (txt []) = true then (s, { code := 5 })
 else ({ s with inos := setEnts s.inos (parentV s.inos c.path2).1 fun es => putE es (parentV s.inos c.path2).2.1 (findV s.inos c.path).1 }, {})
def withinF (is : List Ino) (dir : Int) : Nat → Int → Bool
 | 0, _ => false
 | n + 1, top => if dir = top then true else match inoAt is (atV is top) with | none => false | some x => x.ents.any fun e => dirAt is e.num && withinF is dir n e.num
def withinV (is : List Ino) (dir top : Int) : Bool := withinF is dir (1 + is.length) top
def renameV (s : St) (c : Ca) (dir : Int) (name : ByteArray) (num : Int) : St × Re :=
 if (parentV s.inos c.path2).2.2 ≠ 0 then (s, { code := (parentV s.inos c.path2).2.2 })
 else if dirAt s.inos num = true ∧ withinV s.inos (parentV s.inos c.path2).1 num = true then (s, { code := 9 })
 else if entV s.inos (parentV s.inos c.path2).1 (parentV s.inos c.path2).2.1 ≠ 0 then (s, { code := 2 })
 else if fullV s.inos (parentV s.inos c.path2).1 (parentV s.inos c.path2).2.1 (if (parentV s.inos c.path2).1 = dir then name else txt []) = true then (s, { code := 5 })
 else ({ s with inos := setEnts (setEnts s.inos dir fun es => dropE es name) (parentV s.inos c.path2).1 fun es => putE es (parentV s.inos c.path2).2.1 num }, {})
def entsOf (is : List Ino) (num : Int) : List En := match inoAt is (atV is num) with | none => [] | some x => x.ents
def namesV (s : St) (c : Ca) : St × Re :=
 if c.kind = 8 then linkV s c
 else if (parentV s.inos c.path).2.2 ≠ 0 then (s, { code := (parentV s.inos c.path).2.2 })
 else if entV s.inos (parentV s.inos c.path).1 (parentV s.inos c.path).2.1 = 0 then (s, { code := 1 })
 else if c.kind = 11 then renameV s c (parentV s.inos c.path).1 (parentV s.inos c.path).2.1 (entV s.inos (parentV s.inos c.path).1 (parentV s.inos c.path).2.1)
 else if c.kind = 9 ∧ dirAt s.inos (entV s.inos (parentV s.inos c.path).1 (parentV s.inos c.path).2.1) = true then (s, { code := 8 })
 else if c.kind = 10 ∧ dirAt s.inos (entV s.inos (parentV s.inos c.path).1 (parentV s.inos c.path).2.1) = false then (s, { code := 7 })
 else if c.kind = 10 ∧ entsOf s.inos (entV s.inos (parentV s.inos c.path).1 (parentV s.inos c.path).2.1) ≠ [] then (s, { code := 3 })
 else (sweepV { s with inos := setEnts s.inos (parentV s.inos c.path).1 fun es => dropE es (parentV s.inos c.path).2.1 } (entV s.inos (parentV s.inos c.path).1 (parentV s.inos c.path).2.1), {})
def looksV (s : St) (c : Ca) : Re :=
 if (findV s.inos c.path).2 ≠ 0 then { code := (findV s.inos c.path).2 }
 else if c.kind = 12 then if dirAt s.inos (findV s.inos c.path).1 = false then { code := 7 } else { names := (entsOf s.inos (findV s.inos c.path).1).map (·.name) }
 else if c.kind = 13 then { dir := dirAt s.inos (findV s.inos c.path).1, num := (dataAt s.inos (findV s.inos c.path).1).size }
 else if dirAt s.inos (findV s.inos c.path).1 = true then { code := 8 }
 else { num := linkI s.inos (findV s.inos c.path).1 }
def doF (s : St) (c : Ca) (want : Int) : St × Re × Bool :=
 if mayV s = false ∨ c.core < 0 ∨ (s.made.length : Int) ≤ c.core ∨ c.kind < 0 ∨ 16 < c.kind then (s, { code := 9 }, true)
 else if c.kind ≤ 1 then ((make1V s c).1, (make1V s c).2, true)
 else if c.kind = 2 then openedV s c want
 else if c.kind ≤ 7 ∨ c.kind = 15 then ((byFdV s c).1, (byFdV s c).2, true)
 else if c.kind ≤ 11 then ((namesV s c).1, (namesV s c).2, true)
 else if c.kind ≤ 14 then (s, looksV s c, true)
 else (s, {}, true)
def doV (s : St) (c : Ca) : St × Re := ((doF s c (-1)).1, (doF s c (-1)).2.1)
def newV (cores : Nat) : St := ⟨[⟨1, true, [], txt []⟩], [], List.replicate cores 0⟩
theorem scan_len : ∀ (r cur : List UInt8) (out : List (List UInt8)), (scanP r cur out).1.length ≤ 4
 | [], _, out => by unfold scanP; split <;> simp <;> omega
 | b :: r, cur, out => by
  unfold scanP
  split
  ·split
   ·exact scan_len r _ _
   ·split <;> simp
  ·exact scan_len r _ _
theorem scan_err : ∀ (r cur : List UInt8) (out : List (List UInt8)), (scanP r cur out).2 ≤ 1102
 | [], _, out => by unfold scanP; split <;> simp
 | b :: r, cur, out => by
  unfold scanP
  split
  ·split
   ·exact scan_err r _ _
   ·split <;> simp
  ·exact scan_err r _ _
theorem parse_err (l : List UInt8) : (parseL l).2 ≤ 1102 := by
 unfold parseL
 split
 ·simp
 ·split
  ·simp
  ·split
   ·simp
   ·exact scan_err _ _ _
theorem parse_len (l : List UInt8) : (parseL l).1.length ≤ 4 := by
 unfold parseL
 split
 ·simp
 ·split
  ·simp
  ·split
   ·simp
   ·exact scan_len _ _ _
end Go.Proofs.YtilkhmhgjbhfnaaGreatDoor
namespace Go.Proofs.YtilkhmhgjbhfnaaGreatDoor
open Go.RowKit
theorem drop_ne {s : ByteArray} {p : Nat} (h : p < s.size) : s.data.toList.drop p ≠ [] := by
 intro e
 have e2 := congrArg List.length e
 have e3 : s.size = s.data.toList.length := rfl
 rw [List.length_drop] at e2
 simp only [List.length_nil] at e2
 omega
theorem drop_all {s : ByteArray} {p : Nat} (h : ¬ p < s.size) : s.data.toList.drop p = [] := by
 apply List.drop_eq_nil_of_le
 have e3 : s.size = s.data.toList.length := rfl
 omega
theorem retv_int {k : IntKind} {a b : Int} (h : a = b) : Ending.returned (.int k a) = .returned (.int k b) := by rw [h]
theorem valv_int {k : IntKind} {a b : Int} (h : a = b) : Value.int k a = .int k b := by rw [h]
theorem below_iter (w : World) (s : ByteArray) (p : Nat) : Below w.heap.size w (w.iter s p) := (Below.refl _ _).alloc (Nat.le_refl _) _
theorem getD_at {s : ByteArray} {i : Nat} (h : i < s.size) : s.data.toList.getD i 0 = s[i] := by
 have h' : i < s.data.size := h
 rw [List.getD_eq_getElem?_getD, Array.getElem?_toList, Array.getElem?_eq_getElem h']
 rfl
theorem checkL_long {l : List UInt8} (h : 12 < l.length) : checkL l = 801 := if_pos h
theorem checkL_dots {l : List UInt8} (h : ¬ 12 < l.length) (k : l = [] ∨ l = [46] ∨ l = [46, 46]) : checkL l = 800 := by unfold checkL; rw [if_neg h, if_pos k]
theorem checkL_else {l : List UInt8} (h : ¬ 12 < l.length) (k : ¬ (l = [] ∨ l = [46] ∨ l = [46, 46])) : checkL l = if anyBad l then 800 else 0 := by unfold checkL; rw [if_neg h, if_neg k]
theorem runeBad_iff (p : Nat × Nat) : runeBad p = true ↔ (p.1 = 47 ∨ p.1 < 32 ∨ p.1 = 127 ∨ badRune p = true) := by
 unfold runeBad
 simp [or_assoc]
set_option maxHeartbeats 400000 in
theorem hasPrefix_yes (t p : ByteArray) (w : World) (ht : t.size ≤ maxLen) (h : p.size ≤ t.size) (e : (t.extract 0 p.size).toList = p.toList) :
  Calls Tryz.prog 224 #[.string t, .string p] w fun e w' => e = .returned (.bool true) ∧ w = w' := by
 unfold maxLen at ht
 have hp : p.size ≤ 9223372036854775807 := by omega
 go_enter Tryz.func224, Tryz.ntmps224
 go_wp2
 go_ret
 exact ⟨rfl, rfl⟩
set_option maxHeartbeats 400000 in
theorem hasPrefix_no (t p : ByteArray) (w : World) (ht : t.size ≤ maxLen) (hp : p.size ≤ maxLen) (e : ¬ (p.size ≤ t.size ∧ (t.extract 0 p.size).toList = p.toList)) :
  Calls Tryz.prog 224 #[.string t, .string p] w fun e w' => e = .returned (.bool false) ∧ w = w' := by
 unfold maxLen at ht hp
 by_cases h : p.size ≤ t.size
 ·have e2 : ((t.extract 0 p.size).toList == p.toList) = false := by rw [beq_eq_false_iff_ne]; exact fun h2 => e ⟨h, h2⟩
  clear e
  go_enter Tryz.func224, Tryz.ntmps224
  go_wp2
  go_ret
  exact ⟨rfl, rfl⟩
 ·clear e
  go_enter Tryz.func224, Tryz.ntmps224
  go_wp2
  go_ret
  exact ⟨rfl, rfl⟩
theorem decodeN_valid (n b0 b1 b2 b3 : Nat) : (Lib.decodeN n b0 b1 b2 b3).1 < 55296 ∨ 57344 ≤ (Lib.decodeN n b0 b1 b2 b3).1 := by
 unfold Lib.decodeN
 repeat' split
 all_goals (simp only; omega)
theorem decodeN_ffd (n b0 b1 b2 b3 : Nat) (h0 : b0 < 256) (h1 : b1 < 256) (h2 : b2 < 256) (h : (Lib.decodeN n b0 b1 b2 b3).1 = 65533) :
  (Lib.decodeN n b0 b1 b2 b3).2 = 1 ↔ ¬ (3 ≤ n ∧ b0 = 239 ∧ b1 = 191 ∧ b2 = 189) := by
 unfold Lib.decodeN at h ⊢
 repeat' split
 all_goals (simp_all; try omega)
theorem enc_eq (c : Nat) (hv : c < 55296 ∨ 57344 ≤ c) (hc : c ≤ 1114111) : (Utf8.encode (c : Int)).toList = [239, 191, 189] ↔ c = 65533 := by
 have hval : Utf8.valid (c : Int) = true := by unfold Utf8.valid; simp; omega
 rw [ByteArray.toList_eq]
 unfold Utf8.encode
 simp only [hval, if_true, Int.toNat_natCast]
 by_cases h1 : c < 128
 ·rw [if_pos h1]; simp; omega
 rw [if_neg h1]
 by_cases h2 : c < 2048
 ·rw [if_pos h2]; simp; omega
 rw [if_neg h2]
 by_cases h3 : c < 65536
 ·rw [if_pos h3]
  simp only [List.cons.injEq, and_true, ← UInt8.toNat_inj, UInt8.toNat_ofNat']
  simp
  omega
 ·rw [if_neg h3]; simp; omega
theorem take3 (l : List UInt8) : l.take 3 = [239, 191, 189] ↔ (3 ≤ l.length ∧ (l.getD 0 0).toNat = 239 ∧ (l.getD 1 0).toNat = 191 ∧ (l.getD 2 0).toNat = 189) := by
 match l with
 | [] => simp
 | [a] => simp
 | [a, b] => simp
 | a :: b :: c :: r =>
  simp [← UInt8.toNat_inj]
theorem ffd_bad (l : List UInt8) (h : (decodeL l).1 = 65533) : badRune (decodeL l) = true ↔ ¬ l.take 3 = [239, 191, 189] := by
 rw [take3, ← decodeN_ffd l.length _ _ _ _ (l.getD 0 0).toNat_lt (l.getD 1 0).toNat_lt (l.getD 2 0).toNat_lt h]
 unfold badRune
 show _ ↔ (decodeL l).2 = 1
 simp [h]
set_option maxHeartbeats 1000000 in
theorem check_any (s : ByteArray) (w : World) (hs : s.size ≤ 140737488355328) :
  Calls Tryz.prog 217 #[.string s] w fun e w' => e = .returned (.int .i64 ((checkL s.data.toList : Nat) : Int)) ∧ Below w.heap.size w w' := by
 have hsz : s.data.toList.length = s.size := rfl
 have htl := ByteArray.toList_eq s
 by_cases hlong : 12 < s.size
 ·rw [checkL_long (by omega)]
  clear htl hsz
  go_enter Tryz.func217, Tryz.ntmps217
  go_wp2_with fail
  go_ret
  exact ⟨rfl, Below.refl _ _⟩
 by_cases hdots : s.data.toList = [] ∨ s.data.toList = [46] ∨ s.data.toList = [46, 46]
 ·rw [checkL_dots (by omega) hdots]
  rw [← htl] at hdots
  clear htl hsz
  rcases hdots with h | h | h
  all_goals
   go_enter Tryz.func217, Tryz.ntmps217
   go_wp2_with fail
   go_ret
   exact ⟨rfl, Below.refl _ _⟩
 rw [checkL_else (by omega) hdots]
 obtain ⟨R, hR⟩ : ∃ R, (if anyBad s.data.toList = true then 800 else 0) = R := ⟨_, rfl⟩
 rw [hR]
 have HR := Lib.hid hR
 clear hR
 have hd0 : s.toList.isEmpty = false := by rw [htl]; simpa using fun e => hdots (.inl e)
 have hd1 : (s.toList == [46]) = false := by rw [htl, beq_eq_false_iff_ne]; exact fun e => hdots (.inr (.inl e))
 have hd2 : (s.toList == [46, 46]) = false := by rw [htl, beq_eq_false_iff_ne]; exact fun e => hdots (.inr (.inr e))
 have he0 : ¬ s.toList = [] := by rw [htl]; exact fun e => hdots (.inl e)
 have he1 : ¬ s.toList = [46] := by rw [htl]; exact fun e => hdots (.inr (.inl e))
 have he2 : ¬ s.toList = [46, 46] := by rw [htl]; exact fun e => hdots (.inr (.inr e))
 have Htl := Lib.hid htl
 clear htl hsz hdots
 go_enter Tryz.func217, Tryz.ntmps217
 go_wp2_with fail
 clear hd0 hd1 hd2 he0 he1 he2
 go_loopw [3, 4] (fun _ _ w' => ∃ (pos : Nat), w' = w.iter s pos ∧ anyBad (s.data.toList.drop pos) = anyBad s.data.toList) (fun _ _ w' => s.size - w'.iterPos w.heap.size)
 case atStart => exact ⟨0, rfl, by simp⟩
 case round =>
  obtain ⟨pos, rfl, hc⟩ := hrel
  by_cases hp : pos < s.size
  ·have hd := decode_list s pos
   have hw := decodeL_width (s.data.toList.drop pos)
   have hle := decodeL_le (s.data.toList.drop pos)
   have hvl := decodeN_valid (s.data.toList.drop pos).length ((s.data.toList.drop pos).getD 0 0).toNat ((s.data.toList.drop pos).getD 1 0).toNat ((s.data.toList.drop pos).getD 2 0).toNat ((s.data.toList.drop pos).getD 3 0).toNat
   have hff := ffd_bad (s.data.toList.drop pos)
   have hcc := anyBad_cons _ (drop_ne hp)
   rw [hcc] at hc
   have hnx : ∀ ty, (Instr.next (.pointer (some ⟨w.heap.size, 0, none⟩)) true ty).run Tryz.prog (w.iter s pos) = _ := fun ty => run_next_any w s pos ty hp
   rw [hd] at hnx
   change (decodeL (s.data.toList.drop pos)).1 < 55296 ∨ 57344 ≤ (decodeL (s.data.toList.drop pos)).1 at hvl
   obtain ⟨q, hq⟩ : ∃ q, decodeL (s.data.toList.drop pos) = q := ⟨_, rfl⟩
   rw [hq] at hnx hvl hle hw hff hc
   obtain ⟨c, v⟩ := q
   simp only at hnx hvl hle hw hff hc
   have henc := enc_eq c hvl hle
   have Hc := Lib.hid hc
   have Henc := Lib.hid henc
   have Hff := Lib.hid hff
   clear hd hcc hc hq henc hff
   by_cases c1 : c = 47
   ·subst c1
    go_wp2
    go_ret
    exact ⟨retv_int (by have := HR.out; rw [if_pos (by rw [← Hc.out, show runeBad _ = true from (runeBad_iff _).2 (by simp; try omega)]; rfl)] at this; omega), below_iter _ _ _⟩
   by_cases c2 : c < 32
   ·go_wp2
    go_ret
    exact ⟨retv_int (by have := HR.out; rw [if_pos (by rw [← Hc.out, show runeBad _ = true from (runeBad_iff _).2 (by simp; try omega)]; rfl)] at this; omega), below_iter _ _ _⟩
   by_cases c3 : c = 127
   ·subst c3
    go_wp2
    go_ret
    exact ⟨retv_int (by have := HR.out; rw [if_pos (by rw [← Hc.out, show runeBad _ = true from (runeBad_iff _).2 (by simp; try omega)]; rfl)] at this; omega), below_iter _ _ _⟩
   have q1 : ((c : Int) == 47) = false := by rw [beq_eq_false_iff_ne]; omega
   have q3 : ((c : Int) == 127) = false := by rw [beq_eq_false_iff_ne]; omega
   have q2 : decide ((c : Int) < 32) = false := by simp; omega
   by_cases c4 : c = 65533
   ·have q4 : ((Utf8.encode (c : Int)).toList == [239, 191, 189]) = true := by rw [beq_iff_eq]; exact Henc.out.2 c4
    have hex0 : (s.extract pos s.size).size = s.size - pos := by simp
    have hexl : (s.extract pos s.size).size ≤ maxLen := by rw [hex0]; unfold maxLen; omega
    have hex3 : ((s.extract pos s.size).extract 0 3).toList = (s.data.toList.drop pos).take 3 := by
     rw [ByteArray.toList_eq]
     simp [List.extract_eq_take_drop]
     omega
    by_cases c5 : (s.data.toList.drop pos).take 3 = [239, 191, 189]
    ·have hlen : 3 ≤ s.size - pos := by
      have := congrArg List.length c5
      rw [List.length_take, List.length_drop] at this
      have hsz : s.data.toList.length = s.size := rfl
      simp at this
      omega
     have C4 := Lib.hid c4
     have C5 := Lib.hid c5
     have H3 := Lib.hid hex3
     have H0 := Lib.hid hex0
     clear c4 c5 hex3 hex0
     go_wp2_with fail
     refine (hasPrefix_yes _ _ _ hexl (by rw [H0.out]; exact hlen) (by rw [show (ByteArray.mk #[239, 191, 189]).size = 3 from rfl, H3.out, C5.out]; rw [ByteArray.toList_eq])).mono ?_
     rintro e w' ⟨rfl, rfl⟩
     go_wp2
     go_roundw
     case rel => exact ⟨pos + v, rfl, by
      have hb : ¬ badRune (c, v) = true := fun e => (Hff.out C4.out).1 e C5.out
      rw [← Hc.out, show runeBad _ = false from Bool.eq_false_iff.2 (fun e => by rw [runeBad_iff] at e; simp only [hb] at e; simp at e; omega), List.drop_drop]; rfl⟩
     case measure => simp; omega
    ·have hno : ¬ ((ByteArray.mk #[239, 191, 189]).size ≤ (s.extract pos s.size).size ∧ ((s.extract pos s.size).extract 0 (ByteArray.mk #[239, 191, 189]).size).toList = (ByteArray.mk #[239, 191, 189]).toList) := by
      rw [show (ByteArray.mk #[239, 191, 189]).size = 3 from rfl, hex3, ByteArray.toList_eq]
      exact fun e => c5 e.2
     have C4 := Lib.hid c4
     have C5 := Lib.hid c5
     have HN := Lib.hid hno
     clear c4 c5 hex3 hex0 hno
     go_wp2_with fail
     refine (hasPrefix_no _ _ _ hexl (by rw [show (ByteArray.mk #[239, 191, 189]).size = 3 from rfl]; unfold maxLen; omega) HN.out).mono ?_
     rintro e w' ⟨rfl, rfl⟩
     have hbad : badRune (c, v) = true := (Hff.out C4.out).2 C5.out
     have HB := Lib.hid hbad
     clear hbad
     go_wp2
     go_ret
     exact ⟨retv_int (by have := HR.out; rw [if_pos (by rw [← Hc.out, show runeBad _ = true from (runeBad_iff _).2 (.inr (.inr (.inr HB.out)))]; rfl)] at this; omega), below_iter _ _ _⟩
   ·have q4 : ((Utf8.encode (c : Int)).toList == [239, 191, 189]) = false := by rw [beq_eq_false_iff_ne]; exact fun e => c4 (Henc.out.1 e)
    go_wp2_with fail
    go_roundw
    case rel => exact ⟨pos + v, rfl, by rw [← Hc.out, show runeBad _ = false from Bool.eq_false_iff.2 (fun e => by rw [runeBad_iff] at e; simp [badRune] at e; omega), List.drop_drop]; rfl⟩
    case measure => simp; omega
  ·have hnx : ∀ ty, (Instr.next (.pointer (some ⟨w.heap.size, 0, none⟩)) true ty).run Tryz.prog (w.iter s pos) = _ := fun ty => run_next_end w s pos ty hp
   rw [drop_all hp, anyBad_nil] at hc
   have Hc := Lib.hid hc
   clear hc
   go_wp2
   go_ret
   exact ⟨retv_int (by have := HR.out; rw [if_neg (by rw [← Hc.out]; simp)] at this; omega), below_iter _ _ _⟩
def mayL (l : List UInt8) : Bool := checkL l == 0
theorem retv_bool {a b : Bool} (h : a = b) : Ending.returned (.bool a) = .returned (.bool b) := by rw [h]
set_option maxHeartbeats 400000 in
theorem may_any (s : ByteArray) (w : World) (hs : s.size ≤ 140737488355328) :
  Calls Tryz.prog 206 #[.string s] w fun e w' => e = .returned (.bool (mayL s.data.toList)) ∧ Below w.heap.size w w' := by
 go_enter Tryz.func206, Tryz.ntmps206
 go_wp2_with fail
 refine (check_any s _ hs).mono ?_
 rintro e w1 ⟨rfl, hb⟩
 go_wp2
 go_ret
 refine ⟨retv_bool ?_, hb⟩
 unfold mayL
 rw [Bool.eq_iff_iff, beq_iff_eq, beq_iff_eq]
 omega
theorem check_lit (s : ByteArray) (n : Nat) (hs : s.size ≤ 140737488355328) (h : checkL s.data.toList = n) (w : World) :
  Calls Tryz.prog 217 #[.string s] w fun e w' => e = .returned (.int .i64 (n : Int)) ∧ Below w.heap.size w w' :=
 (check_any s w hs).mono fun e w' ⟨he, hb⟩ => ⟨by rw [he, h], hb⟩
theorem infoS : (Tryz.prog.info? 9).map (fun i => (i.zero, i.size, i.bytes)) = some (some (.string ⟨#[]⟩), 1, 16) := by kernel_rfl
def strV (l : List UInt8) : Value := .string ⟨l.toArray⟩
def Names (B : Nat) (w' : World) (v : Value) (out : List (List UInt8)) : Prop := w'.ownsRow B 9 1 v out.length (out.map strV)
theorem names_push {B : Nat} {w' : World} {v' : Value} {out : List (List UInt8)} {cur : List UInt8} (h : w'.ownsRow B 9 1 v' (out.length + 1) (out.map strV ++ [strV cur])) : Names B w' v' (out ++ [cur]) := by
 unfold Names
 simpa using h
theorem names_shape {B : Nat} {w' : World} {v : Value} {out : List (List UInt8)} (h : Names B w' v out) : ∃ A c, v = .slice A out.length c := by
 rcases h.2 with ⟨rfl, hx⟩ | ⟨g, cap, cur, rfl, _⟩
 ·have : out = [] := by simpa using hx
  subst this
  exact ⟨_, _, rfl⟩
 ·exact ⟨_, _, rfl⟩
theorem own_ge {B : Nat} {w' : World} {v : Value} {out : List (List UInt8)} (h : Names B w' v out) : ∀ k, v.ownBlock = some k → B ≤ k := by
 intro k hk
 rcases h.2 with ⟨rfl, hx⟩ | ⟨g, cap, cur, rfl, hg, _⟩
 ·simp [Value.ownBlock] at hk
 ·simp [Value.ownBlock] at hk
  omega
def Parsed (s : ByteArray) (w : World) (e : Ending) (w' : World) : Prop :=
 ∃ (v : Value) (out : List (List UInt8)) (n : Nat), e = .returned (.tuple #[v, .int .i64 (n : Int)]) ∧ parseL s.data.toList = (out, n) ∧ Names w.heap.size w' v out ∧ (n ≠ 0 → v = .slice none 0 0) ∧ Below w.heap.size w w'
theorem parse_64 {l : List UInt8} (h : 64 < l.length) : parseL l = ([], 1101) := if_pos h
theorem parse_form {l : List UInt8} (h : ¬ 64 < l.length) (k : ¬ l.head? = some 47) : parseL l = ([], 1100) := by unfold parseL; rw [if_neg h, if_pos k]
theorem parse_root {l : List UInt8} (h : ¬ 64 < l.length) (k : l.head? = some 47) (e : l.length = 1) : parseL l = ([], 0) := by unfold parseL; rw [if_neg h, if_neg (fun c => c k), if_pos e]
theorem no_head_ne {s : ByteArray} (hp : 0 < s.size) (k : ¬ s.data.toList.head? = some 47) : ((s[0].toNat : Int) != 47) = true := by
 rw [bne_iff_ne]
 intro e
 exact k ((path_head s).2 ⟨hp, UInt8.toNat_inj.1 (by show s[0].toNat = 47; omega)⟩)
def NmAt (w : World) (A : Option Addr) (n : Nat) (ts : List (List UInt8)) : Prop :=
 ts.length = n ∧ (0 < n → ∃ g off, A = some ⟨g, off, none⟩ ∧ g < w.heap.size ∧ ∀ j, j < n → w.cell? ⟨g, off + j, none⟩ = some (strV (ts.getD j [])))
theorem NmAt.below {w w' : World} {A : Option Addr} {n : Nat} {ts : List (List UInt8)} (h : NmAt w A n ts) (hb : Below w.heap.size w w') : NmAt w' A n ts :=
 ⟨h.1, fun hn => by
  obtain ⟨g, off, hA, hg, hc⟩ := h.2 hn
  exact ⟨g, off, hA, Nat.lt_of_lt_of_le hg hb.size, fun j hj => (hb.cell (p := ⟨g, off + j, none⟩) hg).trans (hc j hj)⟩⟩
theorem NmAt.init {w : World} {A : Option Addr} {n : Nat} {ts : List (List UInt8)} (h : NmAt w A (n + 1) ts) : NmAt w A n ts.dropLast :=
 ⟨by rw [List.length_dropLast, h.1]; omega, fun hn => by
  obtain ⟨g, off, hA, hg, hc⟩ := h.2 (by omega)
  refine ⟨g, off, hA, hg, fun j hj => ?_⟩
  rw [hc j (by omega)]
  congr 2
  have hl := h.1
  rw [List.getD_eq_getElem?_getD, List.getD_eq_getElem?_getD, List.getElem?_dropLast, if_pos (by omega)]⟩
theorem NmAt.of_names {B : Nat} {w : World} {v : Value} {out : List (List UInt8)} (h : Names B w v out) : ∃ A c, v = .slice A out.length c ∧ out.length ≤ c ∧ NmAt w A out.length out := by
 obtain ⟨A, c, hv, hc, hn, hg⟩ := row_any h (by decide)
 refine ⟨A, c, hv, hc, rfl, fun h0 => ?_⟩
 obtain ⟨g, hA, hlt, hm, hcell⟩ := hg h0
 refine ⟨g, 0, hA, hlt, fun j hj => ?_⟩
 rw [Nat.zero_add, hcell j (by omega)]
 simp [hj]
def Whole (is : List Ino) : Prop := 0 ≤ atV is 1 ∧ ∀ x ∈ is, ∀ e ∈ x.ents, 0 ≤ atV is e.num
theorem entG_mem : ∀ (es : List En) (n : ByteArray), entG es n = 0 ∨ ∃ e ∈ es, e.num = entG es n
 | [], _ => .inl rfl
 | e :: es, n => by
  unfold entG
  by_cases h : e.name = n
  ·rw [if_pos h]; exact .inr ⟨e, by simp, rfl⟩
  ·rw [if_neg h]
   rcases entG_mem es n with h1 | ⟨y, hy, h1⟩
   ·exact .inl h1
   ·exact .inr ⟨y, by simp [hy], h1⟩
theorem atV_some {is : List Ino} {t : Int} (h : 0 ≤ atV is t) : ∃ (k : Nat) (x : Ino), atV is t = (k : Int) ∧ is[k]? = some x ∧ x.num = t := by
 rcases atV_cases is t with ⟨h1, _⟩ | ⟨k, x, h1, h2, h3, _⟩
 ·omega
 ·exact ⟨k, x, h1, h2, h3⟩
theorem entV_whole {is : List Ino} (hw : Whole is) {dir : Int} {name : ByteArray} (h : entV is dir name ≠ 0) : 0 ≤ atV is (entV is dir name) := by
 unfold entV at h ⊢
 cases hx : inoAt is (atV is dir) with
 | none => rw [hx] at h; exact absurd rfl h
 | some x =>
  rw [hx] at h
  simp only at h ⊢
  obtain ⟨j, _, hj⟩ := inoAt_some hx
  rcases entG_mem x.ents name with h1 | ⟨e, he, h1⟩
  ·exact absurd h1 h
  ·rw [← h1]
   exact hw.2 x (List.mem_of_getElem? hj) e he
theorem walkG_some {is : List Ino} (hw : Whole is) : ∀ (ns : List (List UInt8)) (t : Int), 0 ≤ atV is t → (walkG is ns t).2 = 0 → 0 ≤ atV is (walkG is ns t).1
 | [], t, ht, _ => ht
 | n :: ns, t, ht, hc => by
  obtain ⟨k, x, hk, hx, _⟩ := atV_some ht
  unfold walkG at hc ⊢
  rw [hk, inoAt_nat, hx] at hc ⊢
  simp only at hc ⊢
  by_cases hd : x.dir = false
  ·rw [if_pos hd] at hc; cases hc
  ·rw [if_neg hd] at hc ⊢
   by_cases he : entV is t (txt n) = 0
   ·rw [if_pos he] at hc; cases hc
   ·rw [if_neg he] at hc ⊢
    exact walkG_some hw ns _ (entV_whole hw he) hc
end Go.Proofs.YtilkhmhgjbhfnaaGreatDoor
