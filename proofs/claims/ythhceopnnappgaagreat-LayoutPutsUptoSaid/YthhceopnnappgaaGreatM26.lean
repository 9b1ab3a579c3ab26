/- Parts of the proof, side by side: PlainPath, FsPlain2, RefParse. -/
import Derived.Test.YthhceopnnappgaaGreatM00
import Derived.Test.YthhceopnnappgaaGreatM15
set_option linter.unusedVariables false
set_option linter.unusedSimpArgs false
namespace Go.Proofs.YthhceopnnappgaaGreat
theorem checkL_cases (l : List UInt8) : checkL l = 0 ∨ checkL l = 800 ∨ checkL l = 801 := by
 unfold checkL
 split
 ·exact Or.inr (Or.inr rfl)
 ·split
  ·exact Or.inr (Or.inl rfl)
  ·split
   ·exact Or.inr (Or.inl rfl)
   ·exact Or.inl rfl
def scanP : List UInt8 → List UInt8 → List (List UInt8) → List (List UInt8) × Nat
 | [], _, out => if 4 < out.length then ([], 1102) else (out, 0)
 | b :: r, cur, out => if b = 47 then (if checkL cur = 0 then scanP r [] (out ++ [cur]) else if checkL cur = 801 then ([], 1101) else ([], 1100)) else scanP r (cur ++ [b]) out
def parseL (l : List UInt8) : List (List UInt8) × Nat :=
 if 64 < l.length then ([], 1101) else if ¬ l.head? = some 47 then ([], 1100) else if l.length = 1 then ([], 0) else scanP (l.drop 1 ++ [47]) [] []
theorem scanP_nil (cur : List UInt8) (out : List (List UInt8)) : scanP [] cur out = if 4 < out.length then ([], 1102) else (out, 0) := rfl
theorem scanP_other (b : UInt8) (r cur : List UInt8) (out : List (List UInt8)) (h : ¬ b = 47) : scanP (b :: r) cur out = scanP r (cur ++ [b]) out := by
 show (if b = 47 then _ else _) = _
 rw [if_neg h]
theorem scanP_ok (r cur : List UInt8) (out : List (List UInt8)) (h : checkL cur = 0) : scanP (47 :: r) cur out = scanP r [] (out ++ [cur]) := by
 show (if (47 : UInt8) = 47 then _ else _) = _
 rw [if_pos rfl, if_pos h]
theorem scanP_long (r cur : List UInt8) (out : List (List UInt8)) (h : checkL cur = 801) : scanP (47 :: r) cur out = ([], 1101) := by
 show (if (47 : UInt8) = 47 then _ else _) = _
 rw [if_pos rfl, if_neg (by omega), if_pos h]
theorem scanP_form (r cur : List UInt8) (out : List (List UInt8)) (h : checkL cur = 800) : scanP (47 :: r) cur out = ([], 1100) := by
 show (if (47 : UInt8) = 47 then _ else _) = _
 rw [if_pos rfl, if_neg (by omega), if_neg (by omega)]
def piece (l : List UInt8) (i j : Nat) : List UInt8 := (l.take j).drop i
theorem piece_self (l : List UInt8) (i : Nat) : piece l i i = [] := by
 unfold piece
 exact List.drop_eq_nil_of_le (by rw [List.length_take]; omega)
theorem piece_succ (l : List UInt8) (i j : Nat) (hij : i ≤ j) (hj : j < l.length) : piece l i (j + 1) = piece l i j ++ [l[j]] := by
 unfold piece
 rw [List.take_succ_eq_append_getElem hj, List.drop_append_of_le_length (by rw [List.length_take]; omega)]
theorem extract_piece (s : ByteArray) (i j : Nat) : s.extract i j = ⟨(piece s.data.toList i j).toArray⟩ := by
 apply ByteArray.ext
 apply Array.ext'
 simp [piece, List.extract_eq_take_drop, List.drop_take]
theorem drop_in (l : List UInt8) (j : Nat) (h : j < l.length) : (l ++ [47]).drop j = l[j] :: (l ++ [47]).drop (j + 1) := by
 rw [List.drop_eq_getElem_cons (by simp; omega)]
 rw [List.getElem_append_left h]
theorem drop_at (l : List UInt8) (j : Nat) (h : j = l.length) : (l ++ [47]).drop j = 47 :: (l ++ [47]).drop (j + 1) := by
 subst h
 simp
theorem drop_out (l : List UInt8) (j : Nat) (h : j = l.length + 1) : (l ++ [47]).drop j = [] := by
 subst h
 simp
theorem path_head (s : ByteArray) : s.data.toList.head? = some 47 ↔ ∃ h : 0 < s.size, s[0] = 47 := by
 constructor
 ·intro h
  have hl : 0 < s.data.toList.length := by
   cases e : s.data.toList with
   | nil => rw [e] at h; simp at h
   | cons a l => simp
  have hs : 0 < s.size := hl
  refine ⟨hs, ?_⟩
  rw [List.head?_eq_getElem?, List.getElem?_eq_getElem hl] at h
  exact Option.some.inj h
 ·rintro ⟨h, e⟩
  have hl : 0 < s.data.toList.length := h
  rw [List.head?_eq_getElem?, List.getElem?_eq_getElem hl]
  exact congrArg some e
def txt (l : List UInt8) : ByteArray := ⟨l.toArray⟩
def walkG (is : List Ino) : List (List UInt8) → Int → Int × Int
 | [], at_ => (at_, 0)
 | n :: ns, at_ =>
  match inoAt is (atV is at_) with
  | none => (0, 0)
  | some x => if x.dir = false then (0, 7) else if entV is at_ (txt n) = 0 then (0, 1) else walkG is ns (entV is at_ (txt n))
def codeP (n : Nat) : Int := if n = 0 then 0 else if n = 1101 ∨ n = 1102 then 6 else 9
def dirAt (is : List Ino) (num : Int) : Bool := match inoAt is (atV is num) with | none => false | some x => x.dir
def parentV (is : List Ino) (path : ByteArray) : Int × ByteArray × Int :=
 if (parseL path.data.toList).2 ≠ 0 then (0, txt [], codeP (parseL path.data.toList).2)
 else if (parseL path.data.toList).1 = [] then (0, txt [], 9)
 else if (walkG is (parseL path.data.toList).1.dropLast 1).2 ≠ 0 then (0, txt [], (walkG is (parseL path.data.toList).1.dropLast 1).2)
 else if dirAt is (walkG is (parseL path.data.toList).1.dropLast 1).1 = false then (0, txt [], 7)
 else ((walkG is (parseL path.data.toList).1.dropLast 1).1, txt ((parseL path.data.toList).1.getLastD []), 0)
def fullE : List En → ByteArray → ByteArray → Nat
 | [], _, _ => 0
 | e :: es, name, but => (if e.name ≠ but ∧ bktB e.name = bktB name then 1 else 0) + fullE es name but
def fullV (is : List Ino) (dir : Int) (name but : ByteArray) : Bool := match inoAt is (atV is dir) with | none => false | some x => decide (4 ≤ fullE x.ents name but)
def putE : List En → ByteArray → Int → List En
 | [], name, num => [⟨name, num⟩]
 | e :: es, name, num => if ltN name e.name then ⟨name, num⟩ :: e :: es else e :: putE es name num
def dropE : List En → ByteArray → List En
 | [], _ => []
 | e :: es, name => if e.name = name then dropE es name else e :: dropE es name
def setEnts (is : List Ino) (num : Int) (f : List En → List En) : List Ino := is.modify (atV is num).toNat fun x => { x with ents := f x.ents }
def setData (is : List Ino) (num : Int) (d : ByteArray) : List Ino := is.modify (atV is num).toNat fun x => { x with data := d }
def putI : List Ino → Ino → List Ino
 | [], y => [y]
 | x :: xs, y => if y.num < x.num then y :: x :: xs else x :: putI xs y
def dropI : List Ino → Int → List Ino
 | [], _ => []
 | x :: xs, num => if x.num = num then dropI xs num else x :: dropI xs num
def sweepV (s : St) (num : Int) : St := if 0 < linkI s.inos num ∨ openB s.opn num = true then s else { s with inos := dropI s.inos num }
structure Ca where
 kind : Int
 core : Int
 fd : Int
 off : Int
 num : Int
 path : ByteArray
 path2 : ByteArray
 data : ByteArray
structure Re where
 code : Int := 0
 fd : Int := 0
 num : Int := 0
 dir : Bool := false
 data : ByteArray := ⟨#[]⟩
 names : List ByteArray := []
def make1V (s : St) (c : Ca) : St × Re :=
 if (parentV s.inos c.path).2.2 ≠ 0 then (s, { code := (parentV s.inos c.path).2.2 })
 else if entV s.inos (parentV s.inos c.path).1 (parentV s.inos c.path).2.1 ≠ 0 then (s, { code := 2 })
 else if fullV s.inos (parentV s.inos c.path).1 (parentV s.inos c.path).2.1 (txt []) = true ∨ 32 ≤ s.made.getD c.core.toNat 0 then (s, { code := 5 })
 else ({ s with made := s.made.set c.core.toNat (s.made.getD c.core.toNat 0 + 1), inos := putI (setEnts s.inos (parentV s.inos c.path).1 fun es => putE es (parentV s.inos c.path).2.1 (2 + c.core + 8 * s.made.getD c.core.toNat 0)) ⟨2 + c.core + 8 * s.made.getD c.core.toNat 0, decide (c.kind = 1), [], txt []⟩ }, {})
def newV (cores : Nat) : St := ⟨[⟨1, true, [], txt []⟩], [], List.replicate cores 0⟩
theorem scan_len : ∀ (r cur : List UInt8) (out : List (List UInt8)), (scanP r cur out).1.length ≤ 4
 | [], _, out => by unfold scanP; split <;> simp <;> omega
 | b :: r, cur, out => by
  unfold scanP
  split
  ·split
   ·exact scan_len r _ _
   ·split <;> simp
  ·exact scan_len r _ _
theorem scan_err : ∀ (r cur : List UInt8) (out : List (List UInt8)), (scanP r cur out).2 ≤ 1102
 | [], _, out => by unfold scanP; split <;> simp
 | b :: r, cur, out => by
  unfold scanP
  split
  ·split
   ·exact scan_err r _ _
   ·split <;> simp
  ·exact scan_err r _ _
theorem parse_err (l : List UInt8) : (parseL l).2 ≤ 1102 := by
 unfold parseL
 split
 ·simp
 ·split
  ·simp
  ·split
   ·simp
   ·exact scan_err _ _ _
theorem parse_len (l : List UInt8) : (parseL l).1.length ≤ 4 := by
 unfold parseL
 split
 ·simp
 ·split
  ·simp
  ·split
   ·simp
   ·exact scan_len _ _ _
end Go.Proofs.YthhceopnnappgaaGreat
namespace Go.Proofs.YthhceopnnappgaaGreat
open Go.RowKit
theorem infoS : (Tryz.prog.info? 9).map (fun i => (i.zero, i.size, i.bytes)) = some (some (.string ⟨#[]⟩), 1, 16) := by kernel_rfl
def strV (l : List UInt8) : Value := .string ⟨l.toArray⟩
theorem refcheck_lit (s : ByteArray) (n : Nat) (hs : s.size ≤ 140737488355328) (h : checkL s.data.toList = n) (w : World) :
  Calls Tryz.prog 73 #[.string s] w fun e w' => e = .returned (.int .i64 (n : Int)) ∧ w = w' :=
 (refcheck_any s w hs).mono fun e w' ⟨he, hb⟩ => ⟨by rw [he, h], hb⟩
def Names (B : Nat) (w' : World) (v : Value) (out : List (List UInt8)) : Prop := w'.ownsRow B 9 1 v out.length (out.map strV)
theorem names_push {B : Nat} {w' : World} {v' : Value} {out : List (List UInt8)} {cur : List UInt8} (h : w'.ownsRow B 9 1 v' (out.length + 1) (out.map strV ++ [strV cur])) : Names B w' v' (out ++ [cur]) := by
 unfold Names
 simpa using h
theorem names_shape {B : Nat} {w' : World} {v : Value} {out : List (List UInt8)} (h : Names B w' v out) : ∃ A c, v = .slice A out.length c := by
 rcases h.2 with ⟨rfl, hx⟩ | ⟨g, cap, cur, rfl, _⟩
 ·have : out = [] := by simpa using hx
  subst this
  exact ⟨_, _, rfl⟩
 ·exact ⟨_, _, rfl⟩
theorem own_ge {B : Nat} {w' : World} {v : Value} {out : List (List UInt8)} (h : Names B w' v out) : ∀ k, v.ownBlock = some k → B ≤ k := by
 intro k hk
 rcases h.2 with ⟨rfl, hx⟩ | ⟨g, cap, cur, rfl, hg, _⟩
 ·simp [Value.ownBlock] at hk
 ·simp [Value.ownBlock] at hk
  omega
set_option maxRecDepth 100000 in
set_option maxHeartbeats 2000000 in
theorem refparse_long (s : ByteArray) (w : World) (hs : s.size ≤ 140737488355328) (h0 : s.size ≤ 64) (hd : ∃ h : 0 < s.size, s[0] = 47) (h1 : ¬ s.size = 1) :
  Calls Tryz.prog 114 #[.string s] w fun e w' => ∃ (v : Value) (out : List (List UInt8)) (n : Nat), e = .returned (.tuple #[v, .int .i64 (n : Int)]) ∧ parseL s.data.toList = (out, n) ∧ Names w.heap.size w' v out ∧ (n ≠ 0 → v = .slice none 0 0) ∧ Below w.heap.size w w' := by
 obtain ⟨hp, hb0⟩ := hd
 have hsz : s.data.toList.length = s.size := rfl
 have hpar : parseL s.data.toList = scanP (s.data.toList.drop 1 ++ [47]) [] [] := by
  unfold parseL
  rw [if_neg (by omega), if_neg (fun e => e ((path_head s).2 ⟨hp, hb0⟩)), if_neg (by omega)]
 have htl := ByteArray.toList_eq s
 have he0 : s.toList.isEmpty = false := by
  rw [htl]
  cases e : s.data.toList with
  | nil => rw [e] at hsz; simp at hsz; omega
  | cons a l => rfl
 have he1 : ¬ s.toList = [] := by intro e; rw [e] at he0; simp at he0
 have he2 : (s.toList == [47]) = false := by
  rw [beq_eq_false_iff_ne, htl]
  intro e
  rw [e] at hsz
  simp at hsz
  omega
 obtain ⟨i0, hi, hz0, hz1, hz2⟩ := info_parts infoS
 obtain ⟨R, hR⟩ : ∃ R, parseL s.data.toList = R := ⟨_, rfl⟩
 rw [hpar] at hR
 have HR := Lib.hid hR
 have Hpar := Lib.hid hpar
 clear htl hsz hpar hR
 go_enter Tryz.func114, Tryz.ntmps114
 go_wp2_with fail
 go_loopw [4, 5, 6] (fun v fr i wr => ∃ (p j : Nat) (out : List (List UInt8)), fr = .int .i64 p ∧ i = .int .i64 j ∧ 1 ≤ p ∧ p ≤ j ∧ j ≤ s.size + 1 ∧ out.length ≤ j ∧ Names w.heap.size wr v out ∧ Below w.heap.size w wr ∧ scanP ((s.data.toList ++ [47]).drop j) (piece s.data.toList p j) out = R) (fun _ _ i _ => s.size + 1 - (intOf i).toNat)
 case atStart => exact ⟨1, 1, [], rfl, rfl, by omega, by omega, by omega, by simp, World.ownsRow_nil _ _ _ _, Below.refl _ _, by
  rw [piece_self, ← HR.out, List.drop_append_of_le_length (by have : s.data.toList.length = s.size := rfl; omega)]⟩
 case round =>
  obtain ⟨p, j, out, rfl, rfl, hp1, hpj, hj, hol, hown, hbel, hscan⟩ := hrel
  obtain ⟨A, c, rfl⟩ := names_shape hown
  have hlen : s.data.toList.length = s.size := rfl
  have Hlen := Lib.hid hlen
  clear hlen
  by_cases hend : j = s.size + 1
  ·rw [drop_out _ _ (by rw [Hlen.out]; exact hend), scanP_nil] at hscan
   have Hs := Lib.hid hscan
   have Hown := Lib.hid hown
   have Hbel := Lib.hid hbel
   have Hend := Lib.hid hend
   have hj1 : s.size < j := by omega
   clear hscan hown hbel hend
   by_cases hdeep : 4 < out.length
   ·go_wp2_with fail
    go_ret2
    exact ⟨_, [], 1102, rfl, by rw [Hpar.out, HR.out, ← Hs.out, if_pos hdeep], World.ownsRow_nil _ _ _ _, fun _ => rfl, Hbel.out⟩
   ·go_wp2_with fail
    go_ret2
    exact ⟨_, out, 0, rfl, by rw [Hpar.out, HR.out, ← Hs.out, if_neg hdeep], Hown.out, fun h => absurd rfl h, Hbel.out⟩
  ·by_cases hcut : j < s.size ∧ ¬ s.data.toList.getD j 0 = 47
   ·obtain ⟨hlt, hne⟩ := hcut
    have hg := getD_at hlt
    have qne : ((s[j].toNat : Int) != 47) = true := by
     rw [bne_iff_ne]
     intro e
     apply hne
     rw [hg]
     exact UInt8.toNat_inj.1 (by show s[j].toNat = 47; omega)
    have hg2 : s.data.toList[j]'(by rw [Hlen.out]; exact hlt) = s[j] := rfl
    rw [drop_in _ _ (by rw [Hlen.out]; exact hlt), scanP_other _ _ _ _ (by rw [hg2, ← hg]; exact hne), ← piece_succ _ _ _ hpj] at hscan
    have Hs := Lib.hid hscan
    have Hown := Lib.hid hown
    have Hbel := Lib.hid hbel
    clear hscan hown hbel hg hg2 hne
    go_wp2_with fail
    go_roundw
    case rel => exact ⟨p, j + 1, out, rfl, by go_num, hp1, by omega, by omega, by omega, Hown.out, Hbel.out, Hs.out⟩
    case measure => simp [intOf] <;> omega
   ·have hdrop : (s.data.toList ++ [47]).drop j = 47 :: (s.data.toList ++ [47]).drop (j + 1) := by
     by_cases hlt : j < s.size
     ·have h47 : s.data.toList.getD j 0 = 47 := by
       rcases Classical.em (s.data.toList.getD j 0 = 47) with h | h
       ·exact h
       ·exact absurd ⟨hlt, h⟩ hcut
      have h48 : s.data.toList[j]'(by rw [Hlen.out]; exact hlt) = 47 := by
       rw [getD_at hlt] at h47; exact h47
      rw [drop_in _ _ (by rw [Hlen.out]; exact hlt), h48]
     ·exact drop_at _ _ (by rw [Hlen.out]; omega)
    rw [hdrop] at hscan
    have hj2 : j ≤ s.size := by omega
    have hps : (s.extract p j).size ≤ 64 := by simp; omega
    have hpc : (s.extract p j).data.toList = piece s.data.toList p j := by rw [extract_piece]
    have Hs := Lib.hid hscan
    have Hown := Lib.hid hown
    have Hbel := Lib.hid hbel
    have Hpc := Lib.hid hpc
    have Hd := Lib.hid hdrop
    have Hcut := Lib.hid hcut
    clear hscan hown hbel hpc hdrop hcut hend
    by_cases hlt : j < s.size
    ·have qeq : ((s[j].toNat : Int) != 47) = false := by
      rcases Classical.em (s.data.toList.getD j 0 = 47) with h | h
      ·rw [getD_at hlt] at h; rw [h]; rfl
      ·exact absurd ⟨hlt, h⟩ Hcut.out
     go_wp2_with fail
     rcases checkL_cases (piece s.data.toList p j) with hk | hk | hk
     ·refine (refcheck_lit _ 0 (by omega) (by rw [Hpc.out]; exact hk) _).mono ?_
      rintro e w' ⟨rfl, rfl⟩
      have Hk := Lib.hid hk
      clear hk
      go_wp2_with (at_builtin; refine wpList_append_own _ rfl _ _ 76 rfl w.heap.size 9 i0 (.string ⟨#[]⟩) 1 16 Tryz.underlying76 hi hz0 hz1 hz2 rfl (by decide) _ _ _ rfl (Hown.out.alloc _) ⟨wr.heap.size, 0, none⟩ 1 1 [.string (s.extract p j)] rfl rfl ?ca1 ?ca2 ?ca3 ?ca4 ?ca5 ?_)
      case ca1 => exact cell_one_new _ _ _
      case ca2 => intro u hu; simp at hu; subst hu; rfl
      case ca3 => unfold maxLen; omega
      case ca4 => omega
      case ca5 => have := Hbel.out.size; simp; omega
      intro v' w1 hown' hgrow _
      have hpush : Names w.heap.size w1 v' (out ++ [piece s.data.toList p j]) := names_push (by rw [extract_piece] at hown'; exact hown')
      have hb1 := ((Hbel.out.alloc (Hbel.out.size) _).grown hgrow (by have := Hbel.out.size; simp; omega) (own_ge Hown.out))
      have HP := Lib.hid hpush
      have HB := Lib.hid hb1
      clear hown' hgrow hpush hb1
      go_wp2
      go_roundw
      case rel => exact ⟨j + 1, j + 1, out ++ [piece s.data.toList p j], by go_num, by go_num, by omega, by omega, by omega, by simp; omega, HP.out, HB.out, by rw [piece_self, ← Hs.out, scanP_ok _ _ _ Hk.out]⟩
      case measure => simp [intOf] <;> omega
     ·refine (refcheck_lit _ 800 (by omega) (by rw [Hpc.out]; exact hk) _).mono ?_
      rintro e w' ⟨rfl, rfl⟩
      have Hk := Lib.hid hk
      clear hk
      go_wp2_with fail
      go_ret2
      exact ⟨_, [], 1100, rfl, by rw [Hpar.out, HR.out, ← Hs.out, scanP_form _ _ _ Hk.out], World.ownsRow_nil _ _ _ _, fun _ => rfl, Hbel.out⟩
     ·refine (refcheck_lit _ 801 (by omega) (by rw [Hpc.out]; exact hk) _).mono ?_
      rintro e w' ⟨rfl, rfl⟩
      have Hk := Lib.hid hk
      clear hk
      go_wp2_with fail
      go_ret2
      exact ⟨_, [], 1101, rfl, by rw [Hpar.out, HR.out, ← Hs.out, scanP_long _ _ _ Hk.out], World.ownsRow_nil _ _ _ _, fun _ => rfl, Hbel.out⟩
    ·have hje : j = s.size := by omega
     subst hje
     go_wp2_with fail
     rcases checkL_cases (piece s.data.toList p s.size) with hk | hk | hk
     ·refine (refcheck_lit _ 0 (by omega) (by rw [Hpc.out]; exact hk) _).mono ?_
      rintro e w' ⟨rfl, rfl⟩
      have Hk := Lib.hid hk
      clear hk
      go_wp2_with (at_builtin; refine wpList_append_own _ rfl _ _ 76 rfl w.heap.size 9 i0 (.string ⟨#[]⟩) 1 16 Tryz.underlying76 hi hz0 hz1 hz2 rfl (by decide) _ _ _ rfl (Hown.out.alloc _) ⟨wr.heap.size, 0, none⟩ 1 1 [.string (s.extract p s.size)] rfl rfl ?cb1 ?cb2 ?cb3 ?cb4 ?cb5 ?_)
      case cb1 => exact cell_one_new _ _ _
      case cb2 => intro u hu; simp at hu; subst hu; rfl
      case cb3 => unfold maxLen; omega
      case cb4 => omega
      case cb5 => have := Hbel.out.size; simp; omega
      intro v' w1 hown' hgrow _
      have hpush : Names w.heap.size w1 v' (out ++ [piece s.data.toList p s.size]) := names_push (by rw [extract_piece] at hown'; exact hown')
      have hb1 := ((Hbel.out.alloc (Hbel.out.size) _).grown hgrow (by have := Hbel.out.size; simp; omega) (own_ge Hown.out))
      have HP := Lib.hid hpush
      have HB := Lib.hid hb1
      clear hown' hgrow hpush hb1
      go_wp2
      go_roundw
      case rel => exact ⟨s.size + 1, s.size + 1, out ++ [piece s.data.toList p s.size], by go_num, by go_num, by omega, by omega, by omega, by simp; omega, HP.out, HB.out, by rw [piece_self, ← Hs.out, scanP_ok _ _ _ Hk.out]⟩
      case measure => simp [intOf] <;> omega
     ·refine (refcheck_lit _ 800 (by omega) (by rw [Hpc.out]; exact hk) _).mono ?_
      rintro e w' ⟨rfl, rfl⟩
      have Hk := Lib.hid hk
      clear hk
      go_wp2_with fail
      go_ret2
      exact ⟨_, [], 1100, rfl, by rw [Hpar.out, HR.out, ← Hs.out, scanP_form _ _ _ Hk.out], World.ownsRow_nil _ _ _ _, fun _ => rfl, Hbel.out⟩
     ·refine (refcheck_lit _ 801 (by omega) (by rw [Hpc.out]; exact hk) _).mono ?_
      rintro e w' ⟨rfl, rfl⟩
      have Hk := Lib.hid hk
      clear hk
      go_wp2_with fail
      go_ret2
      exact ⟨_, [], 1101, rfl, by rw [Hpar.out, HR.out, ← Hs.out, scanP_long _ _ _ Hk.out], World.ownsRow_nil _ _ _ _, fun _ => rfl, Hbel.out⟩
def Parsed (s : ByteArray) (w : World) (e : Ending) (w' : World) : Prop :=
 ∃ (v : Value) (out : List (List UInt8)) (n : Nat), e = .returned (.tuple #[v, .int .i64 (n : Int)]) ∧ parseL s.data.toList = (out, n) ∧ Names w.heap.size w' v out ∧ (n ≠ 0 → v = .slice none 0 0) ∧ Below w.heap.size w w'
theorem parse_64 {l : List UInt8} (h : 64 < l.length) : parseL l = ([], 1101) := if_pos h
theorem parse_form {l : List UInt8} (h : ¬ 64 < l.length) (k : ¬ l.head? = some 47) : parseL l = ([], 1100) := by unfold parseL; rw [if_neg h, if_pos k]
theorem parse_root {l : List UInt8} (h : ¬ 64 < l.length) (k : l.head? = some 47) (e : l.length = 1) : parseL l = ([], 0) := by unfold parseL; rw [if_neg h, if_neg (fun c => c k), if_pos e]
theorem no_head_ne {s : ByteArray} (hp : 0 < s.size) (k : ¬ s.data.toList.head? = some 47) : ((s[0].toNat : Int) != 47) = true := by
 rw [bne_iff_ne]
 intro e
 exact k ((path_head s).2 ⟨hp, UInt8.toNat_inj.1 (by show s[0].toNat = 47; omega)⟩)
set_option maxHeartbeats 1000000 in
theorem refparse_any (s : ByteArray) (w : World) (hs : s.size ≤ 140737488355328) :
  Calls Tryz.prog 114 #[.string s] w (Parsed s w) := by
 have hsz : s.data.toList.length = s.size := rfl
 have htl := ByteArray.toList_eq s
 by_cases h64 : 64 < s.size
 ·have hp := parse_64 (l := s.data.toList) (by omega)
  have HP := Lib.hid hp
  clear hp htl hsz
  go_enter Tryz.func114, Tryz.ntmps114
  go_wp2_with fail
  go_ret2
  exact ⟨_, [], 1101, rfl, HP.out, World.ownsRow_nil _ _ _ _, fun _ => rfl, Below.refl _ _⟩
 by_cases hh : s.data.toList.head? = some 47
 ·obtain ⟨hp0, hb0⟩ := (path_head s).1 hh
  by_cases h1 : s.size = 1
  ·have hp := parse_root (l := s.data.toList) (by omega) hh (by omega)
   have he : s.toList = [47] := by
    rw [htl]
    match hl : s.data.toList, hh with
    | [a], hh => simp at hh; rw [hh]
    | a :: b :: r, _ => rw [hl] at hsz; simp at hsz; omega
   have HP := Lib.hid hp
   have H1 := Lib.hid h1
   have h1' : s.size ≤ 64 := by omega
   clear hp htl hsz hh h1
   go_enter Tryz.func114, Tryz.ntmps114
   go_wp2_with fail
   go_ret2
   exact ⟨_, [], 0, rfl, HP.out, World.ownsRow_nil _ _ _ _, fun _ => rfl, Below.refl _ _⟩
  ·exact (refparse_long s w hs (by omega) ⟨hp0, hb0⟩ h1).mono fun _ _ h => h
 ·have hp := parse_form (l := s.data.toList) (by omega) hh
  have HP := Lib.hid hp
  by_cases h0 : s.size = 0
  ·have he : s.toList = [] := by rw [htl]; exact List.eq_nil_of_length_eq_zero (by omega)
   have h0' : s.size ≤ 64 := by omega
   clear hp htl hsz hh h0
   go_enter Tryz.func114, Tryz.ntmps114
   go_wp2_with fail
   go_ret2
   exact ⟨_, [], 1100, rfl, HP.out, World.ownsRow_nil _ _ _ _, fun _ => rfl, Below.refl _ _⟩
  ·have hp0 : 0 < s.size := by omega
   have hne := no_head_ne hp0 hh
   have he0 : s.toList.isEmpty = false := by
    rw [htl]
    cases e : s.data.toList with
    | nil => rw [e] at hsz; simp at hsz; omega
    | cons a l => rfl
   have he1 : ¬ s.toList = [] := by intro e; rw [e] at he0; simp at he0
   clear hp htl hsz hh h0
   go_enter Tryz.func114, Tryz.ntmps114
   go_wp2_with fail
   go_ret2
   exact ⟨_, [], 1100, rfl, HP.out, World.ownsRow_nil _ _ _ _, fun _ => rfl, Below.refl _ _⟩
end Go.Proofs.YthhceopnnappgaaGreat
