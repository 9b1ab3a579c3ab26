/- The reference's Parse, by its contract: what it answers on any text; the names lie in new memory. -/
import Derived.Test.YthhceopnnappgaaGreatDoorM06
import Derived.Test.YthhceopnnappgaaGreatDoorM04
import Derived.Test.YthhceopnnappgaaGreatDoorM00
set_option linter.unusedVariables false
set_option linter.unusedSimpArgs false
namespace Go.Proofs.YthhceopnnappgaaGreatDoor
open Go.RowKit
theorem infoS : (Tryz.prog.info? 9).map (fun i => (i.zero, i.size, i.bytes)) = some (some (.string ⟨#[]⟩), 1, 16) := by kernel_rfl
def strV (l : List UInt8) : Value := .string ⟨l.toArray⟩
theorem refcheck_lit (s : ByteArray) (n : Nat) (hs : s.size ≤ 140737488355328) (h : checkL s.data.toList = n) (w : World) :
  Calls Tryz.prog 58 #[.string s] w fun e w' => e = .returned (.int .i64 (n : Int)) ∧ w = w' :=
 (refcheck_any s w hs).mono fun e w' ⟨he, hb⟩ => ⟨by rw [he, h], hb⟩
def Names (B : Nat) (w' : World) (v : Value) (out : List (List UInt8)) : Prop := w'.ownsRow B 9 1 v out.length (out.map strV)
theorem names_push {B : Nat} {w' : World} {v' : Value} {out : List (List UInt8)} {cur : List UInt8} (h : w'.ownsRow B 9 1 v' (out.length + 1) (out.map strV ++ [strV cur])) : Names B w' v' (out ++ [cur]) := by
 unfold Names
 simpa using h
theorem names_shape {B : Nat} {w' : World} {v : Value} {out : List (List UInt8)} (h : Names B w' v out) : ∃ A c, v = .slice A out.length c := by
 rcases h.2 with ⟨rfl, hx⟩ | ⟨g, cap, cur, rfl, _⟩
 ·have : out = [] := by simpa using hx
  subst this
  exact ⟨_, _, rfl⟩
 ·exact ⟨_, _, rfl⟩
theorem own_ge {B : Nat} {w' : World} {v : Value} {out : List (List UInt8)} (h : Names B w' v out) : ∀ k, v.ownBlock = some k → B ≤ k := by
 intro k hk
 rcases h.2 with ⟨rfl, hx⟩ | ⟨g, cap, cur, rfl, hg, _⟩
 ·simp [Value.ownBlock] at hk
 ·simp [Value.ownBlock] at hk
  omega
set_option maxRecDepth 100000 in
set_option maxHeartbeats 2000000 in
theorem refparse_long (s : ByteArray) (w : World) (hs : s.size ≤ 140737488355328) (h0 : s.size ≤ 64) (hd : ∃ h : 0 < s.size, s[0] = 47) (h1 : ¬ s.size = 1) :
  Calls Tryz.prog 111 #[.string s] w fun e w' => ∃ (v : Value) (out : List (List UInt8)) (n : Nat), e = .returned (.tuple #[v, .int .i64 (n : Int)]) ∧ parseL s.data.toList = (out, n) ∧ Names w.heap.size w' v out ∧ (n ≠ 0 → v = .slice none 0 0) ∧ Below w.heap.size w w' := by
 obtain ⟨hp, hb0⟩ := hd
 have hsz : s.data.toList.length = s.size := rfl
 have hpar : parseL s.data.toList = scanP (s.data.toList.drop 1 ++ [47]) [] [] := by
  unfold parseL
  rw [if_neg (by omega), if_neg (fun e => e ((path_head s).2 ⟨hp, hb0⟩)), if_neg (by omega)]
 have htl := ByteArray.toList_eq s
 have he0 : s.toList.isEmpty = false := by
  rw [htl]
  cases e : s.data.toList with
  | nil => rw [e] at hsz; simp at hsz; omega
  | cons a l => rfl
 have he1 : ¬ s.toList = [] := by intro e; rw [e] at he0; simp at he0
 have he2 : (s.toList == [47]) = false := by
  rw [beq_eq_false_iff_ne, htl]
  intro e
  rw [e] at hsz
  simp at hsz
  omega
 obtain ⟨i0, hi, hz0, hz1, hz2⟩ := info_parts infoS
 obtain ⟨R, hR⟩ : ∃ R, parseL s.data.toList = R := ⟨_, rfl⟩
 rw [hpar] at hR
 have HR := Lib.hid hR
 have Hpar := Lib.hid hpar
 clear htl hsz hpar hR
 go_enter Tryz.func111, Tryz.ntmps111
 go_wp2_with fail
 go_loopw [4, 5, 6] (fun v fr i wr => ∃ (p j : Nat) (out : List (List UInt8)), fr = .int .i64 p ∧ i = .int .i64 j ∧ 1 ≤ p ∧ p ≤ j ∧ j ≤ s.size + 1 ∧ out.length ≤ j ∧ Names w.heap.size wr v out ∧ Below w.heap.size w wr ∧ scanP ((s.data.toList ++ [47]).drop j) (piece s.data.toList p j) out = R) (fun _ _ i _ => s.size + 1 - (intOf i).toNat)
 case atStart => exact ⟨1, 1, [], rfl, rfl, by omega, by omega, by omega, by simp, World.ownsRow_nil _ _ _ _, Below.refl _ _, by
  rw [piece_self, ← HR.out, List.drop_append_of_le_length (by have : s.data.toList.length = s.size := rfl; omega)]⟩
 case round =>
  obtain ⟨p, j, out, rfl, rfl, hp1, hpj, hj, hol, hown, hbel, hscan⟩ := hrel
  obtain ⟨A, c, rfl⟩ := names_shape hown
  have hlen : s.data.toList.length = s.size := rfl
  have Hlen := Lib.hid hlen
  clear hlen
  by_cases hend : j = s.size + 1
  ·rw [drop_out _ _ (by rw [Hlen.out]; exact hend), scanP_nil] at hscan
   have Hs := Lib.hid hscan
   have Hown := Lib.hid hown
   have Hbel := Lib.hid hbel
   have Hend := Lib.hid hend
   have hj1 : s.size < j := by omega
   clear hscan hown hbel hend
   by_cases hdeep : 4 < out.length
   ·go_wp2_with fail
    go_ret2
    exact ⟨_, [], 1102, rfl, by rw [Hpar.out, HR.out, ← Hs.out, if_pos hdeep], World.ownsRow_nil _ _ _ _, fun _ => rfl, Hbel.out⟩
   ·go_wp2_with fail
    go_ret2
    exact ⟨_, out, 0, rfl, by rw [Hpar.out, HR.out, ← Hs.out, if_neg hdeep], Hown.out, fun h => absurd rfl h, Hbel.out⟩
  ·by_cases hcut : j < s.size ∧ ¬ s.data.toList.getD j 0 = 47
   ·obtain ⟨hlt, hne⟩ := hcut
    have hg := getD_at hlt
    have qne : ((s[j].toNat : Int) != 47) = true := by
     rw [bne_iff_ne]
     intro e
     apply hne
     rw [hg]
     exact UInt8.toNat_inj.1 (by show s[j].toNat = 47; omega)
    have hg2 : s.data.toList[j]'(by rw [Hlen.out]; exact hlt) = s[j] := rfl
    rw [drop_in _ _ (by rw [Hlen.out]; exact hlt), scanP_other _ _ _ _ (by rw [hg2, ← hg]; exact hne), ← piece_succ _ _ _ hpj] at hscan
    have Hs := Lib.hid hscan
    have Hown := Lib.hid hown
    have Hbel := Lib.hid hbel
    clear hscan hown hbel hg hg2 hne
    go_wp2_with fail
    go_roundw
    case rel => exact ⟨p, j + 1, out, rfl, by go_num, hp1, by omega, by omega, by omega, Hown.out, Hbel.out, Hs.out⟩
    case measure => simp [intOf] <;> omega
   ·have hdrop : (s.data.toList ++ [47]).drop j = 47 :: (s.data.toList ++ [47]).drop (j + 1) := by
     by_cases hlt : j < s.size
     ·have h47 : s.data.toList.getD j 0 = 47 := by
       rcases Classical.em (s.data.toList.getD j 0 = 47) with h | h
       ·exact h
       ·exact absurd ⟨hlt, h⟩ hcut
      have h48 : s.data.toList[j]'(by rw [Hlen.out]; exact hlt) = 47 := by
       rw [getD_at hlt] at h47; exact h47
      rw [drop_in _ _ (by rw [Hlen.out]; exact hlt), h48]
     ·exact drop_at _ _ (by rw [Hlen.out]; omega)
    rw [hdrop] at hscan
    have hj2 : j ≤ s.size := by omega
    have hps : (s.extract p j).size ≤ 64 := by simp; omega
    have hpc : (s.extract p j).data.toList = piece s.data.toList p j := by rw [extract_piece]
    have Hs := Lib.hid hscan
    have Hown := Lib.hid hown
    have Hbel := Lib.hid hbel
    have Hpc := Lib.hid hpc
    have Hd := Lib.hid hdrop
    have Hcut := Lib.hid hcut
    clear hscan hown hbel hpc hdrop hcut hend
    by_cases hlt : j < s.size
    ·have qeq : ((s[j].toNat : Int) != 47) = false := by
      rcases Classical.em (s.data.toList.getD j 0 = 47) with h | h
      ·rw [getD_at hlt] at h; rw [h]; rfl
      ·exact absurd ⟨hlt, h⟩ Hcut.out
     go_wp2_with fail
     rcases checkL_cases (piece s.data.toList p j) with hk | hk | hk
     ·refine (refcheck_lit _ 0 (by omega) (by rw [Hpc.out]; exact hk) _).mono ?_
      rintro e w' ⟨rfl, rfl⟩
      have Hk := Lib.hid hk
      clear hk
      go_wp2_with (at_builtin; refine wpList_append_own _ rfl _ _ 42 rfl w.heap.size 9 i0 (.string ⟨#[]⟩) 1 16 Tryz.underlying42 hi hz0 hz1 hz2 rfl (by decide) _ _ _ rfl (Hown.out.alloc _) ⟨wr.heap.size, 0, none⟩ 1 1 [.string (s.extract p j)] rfl rfl ?ca1 ?ca2 ?ca3 ?ca4 ?ca5 ?_)
      case ca1 => exact cell_one_new _ _ _
      case ca2 => intro u hu; simp at hu; subst hu; rfl
      case ca3 => unfold maxLen; omega
      case ca4 => omega
      case ca5 => have := Hbel.out.size; simp; omega
      intro v' w1 hown' hgrow _
      have hpush : Names w.heap.size w1 v' (out ++ [piece s.data.toList p j]) := names_push (by rw [extract_piece] at hown'; exact hown')
      have hb1 := ((Hbel.out.alloc (Hbel.out.size) _).grown hgrow (by have := Hbel.out.size; simp; omega) (own_ge Hown.out))
      have HP := Lib.hid hpush
      have HB := Lib.hid hb1
      clear hown' hgrow hpush hb1
      go_wp2
      go_roundw
      case rel => exact ⟨j + 1, j + 1, out ++ [piece s.data.toList p j], by go_num, by go_num, by omega, by omega, by omega, by simp; omega, HP.out, HB.out, by rw [piece_self, ← Hs.out, scanP_ok _ _ _ Hk.out]⟩
      case measure => simp [intOf] <;> omega
     ·refine (refcheck_lit _ 800 (by omega) (by rw [Hpc.out]; exact hk) _).mono ?_
      rintro e w' ⟨rfl, rfl⟩
      have Hk := Lib.hid hk
      clear hk
      go_wp2_with fail
      go_ret2
      exact ⟨_, [], 1100, rfl, by rw [Hpar.out, HR.out, ← Hs.out, scanP_form _ _ _ Hk.out], World.ownsRow_nil _ _ _ _, fun _ => rfl, Hbel.out⟩
     ·refine (refcheck_lit _ 801 (by omega) (by rw [Hpc.out]; exact hk) _).mono ?_
      rintro e w' ⟨rfl, rfl⟩
      have Hk := Lib.hid hk
      clear hk
      go_wp2_with fail
      go_ret2
      exact ⟨_, [], 1101, rfl, by rw [Hpar.out, HR.out, ← Hs.out, scanP_long _ _ _ Hk.out], World.ownsRow_nil _ _ _ _, fun _ => rfl, Hbel.out⟩
    ·have hje : j = s.size := by omega
     subst hje
     go_wp2_with fail
     rcases checkL_cases (piece s.data.toList p s.size) with hk | hk | hk
     ·refine (refcheck_lit _ 0 (by omega) (by rw [Hpc.out]; exact hk) _).mono ?_
      rintro e w' ⟨rfl, rfl⟩
      have Hk := Lib.hid hk
      clear hk
      go_wp2_with (at_builtin; refine wpList_append_own _ rfl _ _ 42 rfl w.heap.size 9 i0 (.string ⟨#[]⟩) 1 16 Tryz.underlying42 hi hz0 hz1 hz2 rfl (by decide) _ _ _ rfl (Hown.out.alloc _) ⟨wr.heap.size, 0, none⟩ 1 1 [.string (s.extract p s.size)] rfl rfl ?cb1 ?cb2 ?cb3 ?cb4 ?cb5 ?_)
      case cb1 => exact cell_one_new _ _ _
      case cb2 => intro u hu; simp at hu; subst hu; rfl
      case cb3 => unfold maxLen; omega
      case cb4 => omega
      case cb5 => have := Hbel.out.size; simp; omega
      intro v' w1 hown' hgrow _
      have hpush : Names w.heap.size w1 v' (out ++ [piece s.data.toList p s.size]) := names_push (by rw [extract_piece] at hown'; exact hown')
      have hb1 := ((Hbel.out.alloc (Hbel.out.size) _).grown hgrow (by have := Hbel.out.size; simp; omega) (own_ge Hown.out))
      have HP := Lib.hid hpush
      have HB := Lib.hid hb1
      clear hown' hgrow hpush hb1
      go_wp2
      go_roundw
      case rel => exact ⟨s.size + 1, s.size + 1, out ++ [piece s.data.toList p s.size], by go_num, by go_num, by omega, by omega, by omega, by simp; omega, HP.out, HB.out, by rw [piece_self, ← Hs.out, scanP_ok _ _ _ Hk.out]⟩
      case measure => simp [intOf] <;> omega
     ·refine (refcheck_lit _ 800 (by omega) (by rw [Hpc.out]; exact hk) _).mono ?_
      rintro e w' ⟨rfl, rfl⟩
      have Hk := Lib.hid hk
      clear hk
      go_wp2_with fail
      go_ret2
      exact ⟨_, [], 1100, rfl, by rw [Hpar.out, HR.out, ← Hs.out, scanP_form _ _ _ Hk.out], World.ownsRow_nil _ _ _ _, fun _ => rfl, Hbel.out⟩
     ·refine (refcheck_lit _ 801 (by omega) (by rw [Hpc.out]; exact hk) _).mono ?_
      rintro e w' ⟨rfl, rfl⟩
      have Hk := Lib.hid hk
      clear hk
      go_wp2_with fail
      go_ret2
      exact ⟨_, [], 1101, rfl, by rw [Hpar.out, HR.out, ← Hs.out, scanP_long _ _ _ Hk.out], World.ownsRow_nil _ _ _ _, fun _ => rfl, Hbel.out⟩
def Parsed (s : ByteArray) (w : World) (e : Ending) (w' : World) : Prop :=
 ∃ (v : Value) (out : List (List UInt8)) (n : Nat), e = .returned (.tuple #[v, .int .i64 (n : Int)]) ∧ parseL s.data.toList = (out, n) ∧ Names w.heap.size w' v out ∧ (n ≠ 0 → v = .slice none 0 0) ∧ Below w.heap.size w w'
theorem parse_64 {l : List UInt8} (h : 64 < l.length) : parseL l = ([], 1101) := if_pos h
theorem parse_form {l : List UInt8} (h : ¬ 64 < l.length) (k : ¬ l.head? = some 47) : parseL l = ([], 1100) := by unfold parseL; rw [if_neg h, if_pos k]
theorem parse_root {l : List UInt8} (h : ¬ 64 < l.length) (k : l.head? = some 47) (e : l.length = 1) : parseL l = ([], 0) := by unfold parseL; rw [if_neg h, if_neg (fun c => c k), if_pos e]
theorem no_head_ne {s : ByteArray} (hp : 0 < s.size) (k : ¬ s.data.toList.head? = some 47) : ((s[0].toNat : Int) != 47) = true := by
 rw [bne_iff_ne]
 intro e
 exact k ((path_head s).2 ⟨hp, UInt8.toNat_inj.1 (by show s[0].toNat = 47; omega)⟩)
set_option maxHeartbeats 1000000 in
theorem refparse_any (s : ByteArray) (w : World) (hs : s.size ≤ 140737488355328) :
  Calls Tryz.prog 111 #[.string s] w (Parsed s w) := by
 have hsz : s.data.toList.length = s.size := rfl
 have htl := ByteArray.toList_eq s
 by_cases h64 : 64 < s.size
 ·have hp := parse_64 (l := s.data.toList) (by omega)
  have HP := Lib.hid hp
  clear hp htl hsz
  go_enter Tryz.func111, Tryz.ntmps111
  go_wp2_with fail
  go_ret2
  exact ⟨_, [], 1101, rfl, HP.out, World.ownsRow_nil _ _ _ _, fun _ => rfl, Below.refl _ _⟩
 by_cases hh : s.data.toList.head? = some 47
 ·obtain ⟨hp0, hb0⟩ := (path_head s).1 hh
  by_cases h1 : s.size = 1
  ·have hp := parse_root (l := s.data.toList) (by omega) hh (by omega)
   have he : s.toList = [47] := by
    rw [htl]
    match hl : s.data.toList, hh with
    | [a], hh => simp at hh; rw [hh]
    | a :: b :: r, _ => rw [hl] at hsz; simp at hsz; omega
   have HP := Lib.hid hp
   have H1 := Lib.hid h1
   have h1' : s.size ≤ 64 := by omega
   clear hp htl hsz hh h1
   go_enter Tryz.func111, Tryz.ntmps111
   go_wp2_with fail
   go_ret2
   exact ⟨_, [], 0, rfl, HP.out, World.ownsRow_nil _ _ _ _, fun _ => rfl, Below.refl _ _⟩
  ·exact (refparse_long s w hs (by omega) ⟨hp0, hb0⟩ h1).mono fun _ _ h => h
 ·have hp := parse_form (l := s.data.toList) (by omega) hh
  have HP := Lib.hid hp
  by_cases h0 : s.size = 0
  ·have he : s.toList = [] := by rw [htl]; exact List.eq_nil_of_length_eq_zero (by omega)
   have h0' : s.size ≤ 64 := by omega
   clear hp htl hsz hh h0
   go_enter Tryz.func111, Tryz.ntmps111
   go_wp2_with fail
   go_ret2
   exact ⟨_, [], 1100, rfl, HP.out, World.ownsRow_nil _ _ _ _, fun _ => rfl, Below.refl _ _⟩
  ·have hp0 : 0 < s.size := by omega
   have hne := no_head_ne hp0 hh
   have he0 : s.toList.isEmpty = false := by
    rw [htl]
    cases e : s.data.toList with
    | nil => rw [e] at hsz; simp at hsz; omega
    | cons a l => rfl
   have he1 : ¬ s.toList = [] := by intro e; rw [e] at he0; simp at he0
   clear hp htl hsz hh h0
   go_enter Tryz.func111, Tryz.ntmps111
   go_wp2_with fail
   go_ret2
   exact ⟨_, [], 1100, rfl, HP.out, World.ownsRow_nil _ _ _ _, fun _ => rfl, Below.refl _ _⟩
end Go.Proofs.YthhceopnnappgaaGreatDoor
