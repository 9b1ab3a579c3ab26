/- Parts of the proof, side by side: FsPlain2, RefParse. -/
import Derived.Test.YtghlgnklnbcppaaM00
import Derived.Test.YtghlgnklnbcppaaM15
import Derived.Test.YtghlgnklnbcppaaM06
set_option linter.unusedVariables false
set_option linter.unusedSimpArgs false
set_option linter.unusedVariables false
set_option linter.unusedSimpArgs false
namespace Go.Proofs.Ytghlgnklnbcppaa
def txt (l : List UInt8) : ByteArray := ⟨l.toArray⟩
def walkG (is : List Ino) : List (List UInt8) → Int → Int × Int
 | [], at_ => (at_, 0)
 | n :: ns, at_ =>
  match inoAt is (atV is at_) with
  | none => (0, 0)
  | some x => if x.dir = false then (0, 7) else if entV is at_ (txt n) = 0 then (0, 1) else walkG is ns (entV is at_ (txt n))
def codeP (n : Nat) : Int := if n = 0 then 0 else if n = 1101 ∨ n = 1102 then 6 else 9
def findV (is : List Ino) (path : ByteArray) : Int × Int :=
 if (parseL path.data.toList).2 ≠ 0 then (0, codeP (parseL path.data.toList).2) else walkG is (parseL path.data.toList).1 1
def dirAt (is : List Ino) (num : Int) : Bool := match inoAt is (atV is num) with | none => false | some x => x.dir
def parentV (is : List Ino) (path : ByteArray) : Int × ByteArray × Int :=
 if (parseL path.data.toList).2 ≠ 0 then (0, txt [], codeP (parseL path.data.toList).2)
 else if (parseL path.data.toList).1 = [] then (0, txt [], 9)
 else if (walkG is (parseL path.data.toList).1.dropLast 1).2 ≠ 0 then (0, txt [], (walkG is (parseL path.data.toList).1.dropLast 1).2)
 else if dirAt is (walkG is (parseL path.data.toList).1.dropLast 1).1 = false then (0, txt [], 7)
 else ((walkG is (parseL path.data.toList).1.dropLast 1).1, txt ((parseL path.data.toList).1.getLastD []), 0)
def fullE : List En → ByteArray → ByteArray → Nat
 | [], _, _ => 0
 | e :: es, name, but => (if e.name ≠ but ∧ bktB e.name = bktB name then 1 else 0) + fullE es name but
def fullV (is : List Ino) (dir : Int) (name but : ByteArray) : Bool := match inoAt is (atV is dir) with | none => false | some x => decide (4 ≤ fullE x.ents name but)
def putE : List En → ByteArray → Int → List En
 | [], name, num => [⟨name, num⟩]
 | e :: es, name, num => if ltN name e.name then ⟨name, num⟩ :: e :: es else e :: putE es name num
def dropE : List En → ByteArray → List En
 | [], _ => []
 | e :: es, name => if e.name = name then dropE es name else e :: dropE es name
def setEnts (is : List Ino) (num : Int) (f : List En → List En) : List Ino := is.modify (atV is num).toNat fun x => { x with ents := f x.ents }
def setData (is : List Ino) (num : Int) (d : ByteArray) : List Ino := is.modify (atV is num).toNat fun x => { x with data := d }
def putI : List Ino → Ino → List Ino
 | [], y => [y]
 | x :: xs, y => if y.num < x.num then y :: x :: xs else x :: putI xs y
def dropI : List Ino → Int → List Ino
 | [], _ => []
 | x :: xs, num => if x.num = num then dropI xs num else x :: dropI xs num
def putD : List Ds → Ds → List Ds
 | [], y => [y]
 | d :: ds, y => if y.core < d.core ∨ (d.core = y.core ∧ y.fd < d.fd) then y :: d :: ds else d :: putD ds y
def dropD : List Ds → Int → Int → List Ds
 | [], _, _ => []
 | d :: ds, core, fd => if d.core = core ∧ d.fd = fd then dropD ds core fd else d :: dropD ds core fd
def sweepV (s : St) (num : Int) : St := if 0 < linkI s.inos num ∨ openB s.opn num = true then s else { s with inos := dropI s.inos num }
structure Ca where
 kind : Int
 core : Int
 fd : Int
 off : Int
 num : Int
 path : ByteArray
 path2 : ByteArray
 data : ByteArray
structure Re where
 code : Int := 0
 fd : Int := 0
 num : Int := 0
 dir : Bool := false
 data : ByteArray := ⟨#[]⟩
 names : List ByteArray := []
def make1V (s : St) (c : Ca) : St × Re :=
 if (parentV s.inos c.path).2.2 ≠ 0 then (s, { code := (parentV s.inos c.path).2.2 })
 else if entV s.inos (parentV s.inos c.path).1 (parentV s.inos c.path).2.1 ≠ 0 then (s, { code := 2 })
 else if fullV s.inos (parentV s.inos c.path).1 (parentV s.inos c.path).2.1 (txt []) = true ∨ 32 ≤ s.made.getD c.core.toNat 0 then (s, { code := 5 })
 else ({ s with made := s.made.set c.core.toNat (s.made.getD c.core.toNat 0 + 1), inos := putI (setEnts s.inos (parentV s.inos c.path).1 fun es => putE es (parentV s.inos c.path).2.1 (2 + c.core + 8 * s.made.getD c.core.toNat 0)) ⟨2 + c.core + 8 * s.made.getD c.core.toNat 0, decide (c.kind = 1), [], txt []⟩ }, {})
def freeFd (ds : List Ds) (core : Int) : Nat := if fdV ds core 0 = 0 then 0 else if fdV ds core 1 = 0 then 1 else if fdV ds core 2 = 0 then 2 else if fdV ds core 3 = 0 then 3 else 4
def openedV (s : St) (c : Ca) (want : Int) : St × Re × Bool :=
 if (findV s.inos c.path).2 ≠ 0 then (s, { code := (findV s.inos c.path).2 }, true)
 else if dirAt s.inos (findV s.inos c.path).1 = true then (s, { code := 8 }, true)
 else if freeFd s.opn c.core = 4 then (s, { code := 10 }, true)
 else if 0 ≤ want then
  if 4 ≤ want ∨ fdV s.opn c.core want ≠ 0 then (s, {}, false)
  else ({ s with opn := putD s.opn ⟨c.core, want, (findV s.inos c.path).1⟩ }, { fd := want }, true)
 else ({ s with opn := putD s.opn ⟨c.core, freeFd s.opn c.core, (findV s.inos c.path).1⟩ }, { fd := freeFd s.opn c.core }, true)
def sizedL (l : List UInt8) (k : Nat) : List UInt8 := (l ++ List.replicate k 0).take k
def layL (l : List UInt8) (off : Nat) (d : List UInt8) : List UInt8 := (sizedL l (max l.length (off + d.length))).take off ++ d ++ (sizedL l (max l.length (off + d.length))).drop (off + d.length)
def dataAt (is : List Ino) (num : Int) : ByteArray := match inoAt is (atV is num) with | none => txt [] | some x => x.data
def byFdV (s : St) (c : Ca) : St × Re :=
 if fdV s.opn c.core c.fd = 0 then (s, { code := 4 })
 else if c.kind = 3 then (sweepV { s with opn := dropD s.opn c.core c.fd } (fdV s.opn c.core c.fd), {})
 else if c.kind = 4 then
  if c.off < 0 ∨ 256 < c.off ∨ c.num < 0 ∨ 256 < c.num then (s, { code := 9 })
  else (s, { data := txt (((dataAt s.inos (fdV s.opn c.core c.fd)).data.toList.drop c.off.toNat).take c.num.toNat) })
 else if c.kind = 5 then
  if c.off < 0 ∨ 256 < c.off ∨ 256 < c.data.size then (s, { code := 9 })
  else if 256 < c.off + c.data.size then (s, { code := 5 })
  else if c.data.size = 0 then (s, {})
  else ({ s with inos := setData s.inos (fdV s.opn c.core c.fd) (txt (layL (dataAt s.inos (fdV s.opn c.core c.fd)).data.toList c.off.toNat c.data.data.toList)) }, { num := c.data.size })
 else if c.kind = 6 then
  if c.num < 0 ∨ 256 < c.num then (s, { code := 9 })
  else ({ s with inos := setData s.inos (fdV s.opn c.core c.fd) (txt (sizedL (dataAt s.inos (fdV s.opn c.core c.fd)).data.toList c.num.toNat)) }, {})
 else if c.kind = 7 then (s, { num := (dataAt s.inos (fdV s.opn c.core c.fd)).size })
 else (s, {})
def linkV (s : St) (c : Ca) : St × Re :=
 if (findV s.inos c.path).2 ≠ 0 then (s, { code := (findV s.inos c.path).2 })
 else if dirAt s.inos (findV s.inos c.path).1 = true then (s, { code := 8 })
 else if (parentV s.inos c.path2).2.2 ≠ 0 then (s, { code := (parentV s.inos c.path2).2.2 })
 else if entV s.inos (parentV s.inos c.path2).1 (parentV s.inos c.path2).2.1 ≠ 0 then (s, { code := 2 })
 else if fullV s.inos (parentV s.inos c.path2).1 (parentV s.inos c.path2).2.1 (txt []) = true then (s, { code := 5 })
 else ({ s with inos := setEnts s.inos (parentV s.inos c.path2).1 fun es => putE es (parentV s.inos c.path2).2.1 (findV s.inos c.path).1 }, {})
def withinF (is : List Ino) (dir : Int) : Nat → Int → Bool
 | 0, _ => false
 | n + 1, top => if dir = top then true else match inoAt is (atV is top) with | none => false | some x => x.ents.any fun e => dirAt is e.num && withinF is dir n e.num
def withinV (is : List Ino) (dir top : Int) : Bool := withinF is dir (1 + is.length) top
def renameV (s : St) (c : Ca) (dir : Int) (name : ByteArray) (num : Int) : St × Re :=
 if (parentV s.inos c.path2).2.2 ≠ 0 then (s, { code := (parentV s.inos c.path2).2.2 })
 else if dirAt s.inos num = true ∧ withinV s.inos (parentV s.inos c.path2).1 num = true then (s, { code := 9 })
 else if entV s.inos (parentV s.inos c.path2).1 (parentV s.inos c.path2).2.1 ≠ 0 then (s, { code := 2 })
 else if fullV s.inos (parentV s.inos c.path2).1 (parentV s.inos c.path2).2.1 (if (parentV s.inos c.path2).1 = dir then name else txt []) = true then (s, { code := 5 })
 else ({ s with inos := setEnts (setEnts s.inos dir fun es => dropE es name) (parentV s.inos c.path2).1 fun es => putE es (parentV s.inos c.path2).2.1 num }, {})
def entsOf (is : List Ino) (num : Int) : List En := match inoAt is (atV is num) with | none => [] | some x => x.ents
def namesV (s : St) (c : Ca) : St × Re :=
 if c.kind = 8 then linkV s c
 else if (parentV s.inos c.path).2.2 ≠ 0 then (s, { code := (parentV s.inos c.path).2.2 })
 else if entV s.inos (parentV s.inos c.path).1 (parentV s.inos c.path).2.1 = 0 then (s, { code := 1 })
 else if c.kind = 11 then renameV s c (parentV s.inos c.path).1 (parentV s.inos c.path).2.1 (entV s.inos (parentV s.inos c.path).1 (parentV s.inos c.path).2.1)
 else if c.kind = 9 ∧ dirAt s.inos (entV s.inos (parentV s.inos c.path).1 (parentV s.inos c.path).2.1) = true then (s, { code := 8 })
 else if c.kind = 10 ∧ dirAt s.inos (entV s.inos (parentV s.inos c.path).1 (parentV s.inos c.path).2.1) = false then (s, { code := 7 })
 else if c.kind = 10 ∧ entsOf s.inos (entV s.inos (parentV s.inos c.path).1 (parentV s.inos c.path).2.1) ≠ [] then (s, { code := 3 })
 else (sweepV { s with inos := setEnts s.inos (parentV s.inos c.path).1 fun es => dropE es (parentV s.inos c.path).2.1 } (entV s.inos (parentV s.inos c.path).1 (parentV s.inos c.path).2.1), {})
def looksV (s : St) (c : Ca) : Re :=
 if (findV s.inos c.path).2 ≠ 0 then { code := (findV s.inos c.path).2 }
 else if c.kind = 12 then if dirAt s.inos (findV s.inos c.path).1 = false then { code := 7 } else { names := (entsOf s.inos (findV s.inos c.path).1).map (·.name) }
 else if c.kind = 13 then { dir := dirAt s.inos (findV s.inos c.path).1, num := (dataAt s.inos (findV s.inos c.path).1).size }
 else if dirAt s.inos (findV s.inos c.path).1 = true then { code := 8 }
 else { num := linkI s.inos (findV s.inos c.path).1 }
def doF (s : St) (c : Ca) (want : Int) : St × Re × Bool :=
 if mayV s = false ∨ c.core < 0 ∨ (s.made.length : Int) ≤ c.core ∨ c.kind < 0 ∨ 16 < c.kind then (s, { code := 9 }, true)
 else if c.kind ≤ 1 then ((make1V s c).1, (make1V s c).2, true)
 else if c.kind = 2 then openedV s c want
 else if c.kind ≤ 7 ∨ c.kind = 15 then ((byFdV s c).1, (byFdV s c).2, true)
 else if c.kind ≤ 11 then ((namesV s c).1, (namesV s c).2, true)
 else if c.kind ≤ 14 then (s, looksV s c, true)
 else (s, {}, true)
def doV (s : St) (c : Ca) : St × Re := ((doF s c (-1)).1, (doF s c (-1)).2.1)
def newV (cores : Nat) : St := ⟨[⟨1, true, [], txt []⟩], [], List.replicate cores 0⟩
theorem scan_len : ∀ (r cur : List UInt8) (out : List (List UInt8)), (scanP r cur out).1.length ≤ 4
 | [], _, out => by unfold scanP; split <;> simp <;> omega
 | b :: r, cur, out => by
  unfold scanP
  split
  ·split
   ·exact scan_len r _ _
   ·split <;> simp
  ·exact scan_len r _ _
theorem scan_err : ∀ (r cur : List UInt8) (out : List (List UInt8)), (scanP r cur out).2 ≤ 1102
 | [], _, out => by unfold scanP; split <;> simp
 | b :: r, cur, out => by
  unfold scanP
  split
  ·split
   ·exact scan_err r _ _
   ·split <;> simp
  ·exact scan_err r _ _
theorem parse_err (l : List UInt8) : (parseL l).2 ≤ 1102 := by
 unfold parseL
 split
 ·simp
 ·split
  ·simp
  ·split
   ·simp
   ·exact scan_err _ _ _
theorem parse_len (l : List UInt8) : (parseL l).1.length ≤ 4 := by
 unfold parseL
 split
 ·simp
 ·split
  ·simp
  ·split
   ·simp
   ·exact scan_len _ _ _
end Go.Proofs.Ytghlgnklnbcppaa

set_option linter.unusedVariables false
set_option linter.unusedSimpArgs false
namespace Go.Proofs.Ytghlgnklnbcppaa
open Go.RowKit
theorem infoS : (Try.prog.info? 9).map (fun i => (i.zero, i.size, i.bytes)) = some (some (.string ⟨#[]⟩), 1, 16) := by kernel_rfl
def strV (l : List UInt8) : Value := .string ⟨l.toArray⟩
theorem refcheck_lit (s : ByteArray) (n : Nat) (hs : s.size ≤ 140737488355328) (h : checkL s.data.toList = n) (w : World) :
  Calls Try.prog 144 #[.string s] w fun e w' => e = .returned (.int .i64 (n : Int)) ∧ w = w' :=
 (refcheck_any s w hs).mono fun e w' ⟨he, hb⟩ => ⟨by rw [he, h], hb⟩
def Names (B : Nat) (w' : World) (v : Value) (out : List (List UInt8)) : Prop := w'.ownsRow B 9 1 v out.length (out.map strV)
theorem names_push {B : Nat} {w' : World} {v' : Value} {out : List (List UInt8)} {cur : List UInt8} (h : w'.ownsRow B 9 1 v' (out.length + 1) (out.map strV ++ [strV cur])) : Names B w' v' (out ++ [cur]) := by
 unfold Names
 simpa using h
theorem names_shape {B : Nat} {w' : World} {v : Value} {out : List (List UInt8)} (h : Names B w' v out) : ∃ A c, v = .slice A out.length c := by
 rcases h.2 with ⟨rfl, hx⟩ | ⟨g, cap, cur, rfl, _⟩
 ·have : out = [] := by simpa using hx
  subst this
  exact ⟨_, _, rfl⟩
 ·exact ⟨_, _, rfl⟩
theorem own_ge {B : Nat} {w' : World} {v : Value} {out : List (List UInt8)} (h : Names B w' v out) : ∀ k, v.ownBlock = some k → B ≤ k := by
 intro k hk
 rcases h.2 with ⟨rfl, hx⟩ | ⟨g, cap, cur, rfl, hg, _⟩
 ·simp [Value.ownBlock] at hk
 ·simp [Value.ownBlock] at hk
  omega
set_option maxRecDepth 100000 in
set_option maxHeartbeats 2000000 in
theorem refparse_long (s : ByteArray) (w : World) (hs : s.size ≤ 140737488355328) (h0 : s.size ≤ 64) (hd : ∃ h : 0 < s.size, s[0] = 47) (h1 : ¬ s.size = 1) :
  Calls Try.prog 147 #[.string s] w fun e w' => ∃ (v : Value) (out : List (List UInt8)) (n : Nat), e = .returned (.tuple #[v, .int .i64 (n : Int)]) ∧ parseL s.data.toList = (out, n) ∧ Names w.heap.size w' v out ∧ (n ≠ 0 → v = .slice none 0 0) ∧ Below w.heap.size w w' := by
 obtain ⟨hp, hb0⟩ := hd
 have hsz : s.data.toList.length = s.size := rfl
 have hpar : parseL s.data.toList = scanP (s.data.toList.drop 1 ++ [47]) [] [] := by
  unfold parseL
  rw [if_neg (by omega), if_neg (fun e => e ((path_head s).2 ⟨hp, hb0⟩)), if_neg (by omega)]
 have htl := ByteArray.toList_eq s
 have he0 : s.toList.isEmpty = false := by
  rw [htl]
  cases e : s.data.toList with
  | nil => rw [e] at hsz; simp at hsz; omega
  | cons a l => rfl
 have he1 : ¬ s.toList = [] := by intro e; rw [e] at he0; simp at he0
 have he2 : (s.toList == [47]) = false := by
  rw [beq_eq_false_iff_ne, htl]
  intro e
  rw [e] at hsz
  simp at hsz
  omega
 obtain ⟨i0, hi, hz0, hz1, hz2⟩ := info_parts infoS
 obtain ⟨R, hR⟩ : ∃ R, parseL s.data.toList = R := ⟨_, rfl⟩
 rw [hpar] at hR
 have HR := Lib.hid hR
 have Hpar := Lib.hid hpar
 clear htl hsz hpar hR
 go_enter Try.func147, Try.ntmps147
 go_wp2_with fail
 go_loopw [4, 5, 6] (fun v fr i wr => ∃ (p j : Nat) (out : List (List UInt8)), fr = .int .i64 p ∧ i = .int .i64 j ∧ 1 ≤ p ∧ p ≤ j ∧ j ≤ s.size + 1 ∧ out.length ≤ j ∧ Names w.heap.size wr v out ∧ Below w.heap.size w wr ∧ scanP ((s.data.toList ++ [47]).drop j) (piece s.data.toList p j) out = R) (fun _ _ i _ => s.size + 1 - (intOf i).toNat)
 case atStart => exact ⟨1, 1, [], rfl, rfl, by omega, by omega, by omega, by simp, World.ownsRow_nil _ _ _ _, Below.refl _ _, by
  rw [piece_self, ← HR.out, List.drop_append_of_le_length (by have : s.data.toList.length = s.size := rfl; omega)]⟩
 case round =>
  obtain ⟨p, j, out, rfl, rfl, hp1, hpj, hj, hol, hown, hbel, hscan⟩ := hrel
  obtain ⟨A, c, rfl⟩ := names_shape hown
  have hlen : s.data.toList.length = s.size := rfl
  have Hlen := Lib.hid hlen
  clear hlen
  by_cases hend : j = s.size + 1
  ·rw [drop_out _ _ (by rw [Hlen.out]; exact hend), scanP_nil] at hscan
   have Hs := Lib.hid hscan
   have Hown := Lib.hid hown
   have Hbel := Lib.hid hbel
   have Hend := Lib.hid hend
   have hj1 : s.size < j := by omega
   clear hscan hown hbel hend
   by_cases hdeep : 4 < out.length
   ·go_wp2_with fail
    go_ret2
    exact ⟨_, [], 1102, rfl, by rw [Hpar.out, HR.out, ← Hs.out, if_pos hdeep], World.ownsRow_nil _ _ _ _, fun _ => rfl, Hbel.out⟩
   ·go_wp2_with fail
    go_ret2
    exact ⟨_, out, 0, rfl, by rw [Hpar.out, HR.out, ← Hs.out, if_neg hdeep], Hown.out, fun h => absurd rfl h, Hbel.out⟩
  ·by_cases hcut : j < s.size ∧ ¬ s.data.toList.getD j 0 = 47
   ·obtain ⟨hlt, hne⟩ := hcut
    have hg := getD_at hlt
    have qne : ((s[j].toNat : Int) != 47) = true := by
     rw [bne_iff_ne]
     intro e
     apply hne
     rw [hg]
     exact UInt8.toNat_inj.1 (by show s[j].toNat = 47; omega)
    have hg2 : s.data.toList[j]'(by rw [Hlen.out]; exact hlt) = s[j] := rfl
    rw [drop_in _ _ (by rw [Hlen.out]; exact hlt), scanP_other _ _ _ _ (by rw [hg2, ← hg]; exact hne), ← piece_succ _ _ _ hpj] at hscan
    have Hs := Lib.hid hscan
    have Hown := Lib.hid hown
    have Hbel := Lib.hid hbel
    clear hscan hown hbel hg hg2 hne
    go_wp2_with fail
    go_roundw
    case rel => exact ⟨p, j + 1, out, rfl, by go_num, hp1, by omega, by omega, by omega, Hown.out, Hbel.out, Hs.out⟩
    case measure => simp [intOf] <;> omega
   ·have hdrop : (s.data.toList ++ [47]).drop j = 47 :: (s.data.toList ++ [47]).drop (j + 1) := by
     by_cases hlt : j < s.size
     ·have h47 : s.data.toList.getD j 0 = 47 := by
       rcases Classical.em (s.data.toList.getD j 0 = 47) with h | h
       ·exact h
       ·exact absurd ⟨hlt, h⟩ hcut
      have h48 : s.data.toList[j]'(by rw [Hlen.out]; exact hlt) = 47 := by
       rw [getD_at hlt] at h47; exact h47
      rw [drop_in _ _ (by rw [Hlen.out]; exact hlt), h48]
     ·exact drop_at _ _ (by rw [Hlen.out]; omega)
    rw [hdrop] at hscan
    have hj2 : j ≤ s.size := by omega
    have hps : (s.extract p j).size ≤ 64 := by simp; omega
    have hpc : (s.extract p j).data.toList = piece s.data.toList p j := by rw [extract_piece]
    have Hs := Lib.hid hscan
    have Hown := Lib.hid hown
    have Hbel := Lib.hid hbel
    have Hpc := Lib.hid hpc
    have Hd := Lib.hid hdrop
    have Hcut := Lib.hid hcut
    clear hscan hown hbel hpc hdrop hcut hend
    by_cases hlt : j < s.size
    ·have qeq : ((s[j].toNat : Int) != 47) = false := by
      rcases Classical.em (s.data.toList.getD j 0 = 47) with h | h
      ·rw [getD_at hlt] at h; rw [h]; rfl
      ·exact absurd ⟨hlt, h⟩ Hcut.out
     go_wp2_with fail
     rcases checkL_cases (piece s.data.toList p j) with hk | hk | hk
     ·refine (refcheck_lit _ 0 (by omega) (by rw [Hpc.out]; exact hk) _).mono ?_
      rintro e w' ⟨rfl, rfl⟩
      have Hk := Lib.hid hk
      clear hk
      go_wp2_with (at_builtin; refine wpList_append_own _ rfl _ _ 35 rfl w.heap.size 9 i0 (.string ⟨#[]⟩) 1 16 Try.underlying35 hi hz0 hz1 hz2 rfl (by decide) _ _ _ rfl (Hown.out.alloc _) ⟨wr.heap.size, 0, none⟩ 1 1 [.string (s.extract p j)] rfl rfl ?ca1 ?ca2 ?ca3 ?ca4 ?ca5 ?_)
      case ca1 => exact cell_one_new _ _ _
      case ca2 => intro u hu; simp at hu; subst hu; rfl
      case ca3 => unfold maxLen; omega
      case ca4 => omega
      case ca5 => have := Hbel.out.size; simp; omega
      intro v' w1 hown' hgrow _
      have hpush : Names w.heap.size w1 v' (out ++ [piece s.data.toList p j]) := names_push (by rw [extract_piece] at hown'; exact hown')
      have hb1 := ((Hbel.out.alloc (Hbel.out.size) _).grown hgrow (by have := Hbel.out.size; simp; omega) (own_ge Hown.out))
      have HP := Lib.hid hpush
      have HB := Lib.hid hb1
      clear hown' hgrow hpush hb1
      go_wp2
      go_roundw
      case rel => exact ⟨j + 1, j + 1, out ++ [piece s.data.toList p j], by go_num, by go_num, by omega, by omega, by omega, by simp; omega, HP.out, HB.out, by rw [piece_self, ← Hs.out, scanP_ok _ _ _ Hk.out]⟩
      case measure => simp [intOf] <;> omega
     ·refine (refcheck_lit _ 800 (by omega) (by rw [Hpc.out]; exact hk) _).mono ?_
      rintro e w' ⟨rfl, rfl⟩
      have Hk := Lib.hid hk
      clear hk
      go_wp2_with fail
      go_ret2
      exact ⟨_, [], 1100, rfl, by rw [Hpar.out, HR.out, ← Hs.out, scanP_form _ _ _ Hk.out], World.ownsRow_nil _ _ _ _, fun _ => rfl, Hbel.out⟩
     ·refine (refcheck_lit _ 801 (by omega) (by rw [Hpc.out]; exact hk) _).mono ?_
      rintro e w' ⟨rfl, rfl⟩
      have Hk := Lib.hid hk
      clear hk
      go_wp2_with fail
      go_ret2
      exact ⟨_, [], 1101, rfl, by rw [Hpar.out, HR.out, ← Hs.out, scanP_long _ _ _ Hk.out], World.ownsRow_nil _ _ _ _, fun _ => rfl, Hbel.out⟩
    ·have hje : j = s.size := by omega
     subst hje
     go_wp2_with fail
     rcases checkL_cases (piece s.data.toList p s.size) with hk | hk | hk
     ·refine (refcheck_lit _ 0 (by omega) (by rw [Hpc.out]; exact hk) _).mono ?_
      rintro e w' ⟨rfl, rfl⟩
      have Hk := Lib.hid hk
      clear hk
      go_wp2_with (at_builtin; refine wpList_append_own _ rfl _ _ 35 rfl w.heap.size 9 i0 (.string ⟨#[]⟩) 1 16 Try.underlying35 hi hz0 hz1 hz2 rfl (by decide) _ _ _ rfl (Hown.out.alloc _) ⟨wr.heap.size, 0, none⟩ 1 1 [.string (s.extract p s.size)] rfl rfl ?cb1 ?cb2 ?cb3 ?cb4 ?cb5 ?_)
      case cb1 => exact cell_one_new _ _ _
      case cb2 => intro u hu; simp at hu; subst hu; rfl
      case cb3 => unfold maxLen; omega
      case cb4 => omega
      case cb5 => have := Hbel.out.size; simp; omega
      intro v' w1 hown' hgrow _
      have hpush : Names w.heap.size w1 v' (out ++ [piece s.data.toList p s.size]) := names_push (by rw [extract_piece] at hown'; exact hown')
      have hb1 := ((Hbel.out.alloc (Hbel.out.size) _).grown hgrow (by have := Hbel.out.size; simp; omega) (own_ge Hown.out))
      have HP := Lib.hid hpush
      have HB := Lib.hid hb1
      clear hown' hgrow hpush hb1
      go_wp2
      go_roundw
      case rel => exact ⟨s.size + 1, s.size + 1, out ++ [piece s.data.toList p s.size], by go_num, by go_num, by omega, by omega, by omega, by simp; omega, HP.out, HB.out, by rw [piece_self, ← Hs.out, scanP_ok _ _ _ Hk.out]⟩
      case measure => simp [intOf] <;> omega
     ·refine (refcheck_lit _ 800 (by omega) (by rw [Hpc.out]; exact hk) _).mono ?_
      rintro e w' ⟨rfl, rfl⟩
      have Hk := Lib.hid hk
      clear hk
      go_wp2_with fail
      go_ret2
      exact ⟨_, [], 1100, rfl, by rw [Hpar.out, HR.out, ← Hs.out, scanP_form _ _ _ Hk.out], World.ownsRow_nil _ _ _ _, fun _ => rfl, Hbel.out⟩
     ·refine (refcheck_lit _ 801 (by omega) (by rw [Hpc.out]; exact hk) _).mono ?_
      rintro e w' ⟨rfl, rfl⟩
      have Hk := Lib.hid hk
      clear hk
      go_wp2_with fail
      go_ret2
      exact ⟨_, [], 1101, rfl, by rw [Hpar.out, HR.out, ← Hs.out, scanP_long _ _ _ Hk.out], World.ownsRow_nil _ _ _ _, fun _ => rfl, Hbel.out⟩
def Parsed (s : ByteArray) (w : World) (e : Ending) (w' : World) : Prop :=
 ∃ (v : Value) (out : List (List UInt8)) (n : Nat), e = .returned (.tuple #[v, .int .i64 (n : Int)]) ∧ parseL s.data.toList = (out, n) ∧ Names w.heap.size w' v out ∧ (n ≠ 0 → v = .slice none 0 0) ∧ Below w.heap.size w w'
theorem parse_64 {l : List UInt8} (h : 64 < l.length) : parseL l = ([], 1101) := if_pos h
theorem parse_form {l : List UInt8} (h : ¬ 64 < l.length) (k : ¬ l.head? = some 47) : parseL l = ([], 1100) := by unfold parseL; rw [if_neg h, if_pos k]
theorem parse_root {l : List UInt8} (h : ¬ 64 < l.length) (k : l.head? = some 47) (e : l.length = 1) : parseL l = ([], 0) := by unfold parseL; rw [if_neg h, if_neg (fun c => c k), if_pos e]
theorem no_head_ne {s : ByteArray} (hp : 0 < s.size) (k : ¬ s.data.toList.head? = some 47) : ((s[0].toNat : Int) != 47) = true := by
 rw [bne_iff_ne]
 intro e
 exact k ((path_head s).2 ⟨hp, UInt8.toNat_inj.1 (by show s[0].toNat = 47; omega)⟩)
set_option maxHeartbeats 1000000 in
theorem refparse_any (s : ByteArray) (w : World) (hs : s.size ≤ 140737488355328) :
  Calls Try.prog 147 #[.string s] w (Parsed s w) := by
 have hsz : s.data.toList.length = s.size := rfl
 have htl := ByteArray.toList_eq s
 by_cases h64 : 64 < s.size
 ·have hp := parse_64 (l := s.data.toList) (by omega)
  have HP := Lib.hid hp
  clear hp htl hsz
  go_enter Try.func147, Try.ntmps147
  go_wp2_with fail
  go_ret2
  exact ⟨_, [], 1101, rfl, HP.out, World.ownsRow_nil _ _ _ _, fun _ => rfl, Below.refl _ _⟩
 by_cases hh : s.data.toList.head? = some 47
 ·obtain ⟨hp0, hb0⟩ := (path_head s).1 hh
  by_cases h1 : s.size = 1
  ·have hp := parse_root (l := s.data.toList) (by omega) hh (by omega)
   have he : s.toList = [47] := by
    rw [htl]
    match hl : s.data.toList, hh with
    | [a], hh => simp at hh; rw [hh]
    | a :: b :: r, _ => rw [hl] at hsz; simp at hsz; omega
   have HP := Lib.hid hp
   have H1 := Lib.hid h1
   have h1' : s.size ≤ 64 := by omega
   clear hp htl hsz hh h1
   go_enter Try.func147, Try.ntmps147
   go_wp2_with fail
   go_ret2
   exact ⟨_, [], 0, rfl, HP.out, World.ownsRow_nil _ _ _ _, fun _ => rfl, Below.refl _ _⟩
  ·exact (refparse_long s w hs (by omega) ⟨hp0, hb0⟩ h1).mono fun _ _ h => h
 ·have hp := parse_form (l := s.data.toList) (by omega) hh
  have HP := Lib.hid hp
  by_cases h0 : s.size = 0
  ·have he : s.toList = [] := by rw [htl]; exact List.eq_nil_of_length_eq_zero (by omega)
   have h0' : s.size ≤ 64 := by omega
   clear hp htl hsz hh h0
   go_enter Try.func147, Try.ntmps147
   go_wp2_with fail
   go_ret2
   exact ⟨_, [], 1100, rfl, HP.out, World.ownsRow_nil _ _ _ _, fun _ => rfl, Below.refl _ _⟩
  ·have hp0 : 0 < s.size := by omega
   have hne := no_head_ne hp0 hh
   have he0 : s.toList.isEmpty = false := by
    rw [htl]
    cases e : s.data.toList with
    | nil => rw [e] at hsz; simp at hsz; omega
    | cons a l => rfl
   have he1 : ¬ s.toList = [] := by intro e; rw [e] at he0; simp at he0
   clear hp htl hsz hh h0
   go_enter Try.func147, Try.ntmps147
   go_wp2_with fail
   go_ret2
   exact ⟨_, [], 1100, rfl, HP.out, World.ownsRow_nil _ _ _ _, fun _ => rfl, Below.refl _ _⟩
end Go.Proofs.Ytghlgnklnbcppaa
