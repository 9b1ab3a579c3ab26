/- Parts of the proof, side by side: Check, May, RefParse, FsWalk, FsParent, StOwn, FsPut, FsDrop, NameHash. -/
import Derived.Test.YtilkhmhgjbhfnaaGreatDoorM01
import Derived.Test.YtilkhmhgjbhfnaaGreatDoorM00
import Derived.OwnWalk
import Derived.Deep.RegionHeld3
import Derived.Laws.Rows
import Derived.Handy
set_option linter.unusedVariables false
set_option linter.unusedSimpArgs false
namespace Go.Proofs.YtilkhmhgjbhfnaaGreatDoor
open Go.RowKit
set_option maxHeartbeats 400000 in
theorem hasPrefix_yes (t p : ByteArray) (w : World) (ht : t.size ≤ maxLen) (h : p.size ≤ t.size) (e : (t.extract 0 p.size).toList = p.toList) :
  Calls Tryz.prog 224 #[.string t, .string p] w fun e w' => e = .returned (.bool true) ∧ w = w' := by
 unfold maxLen at ht
 have hp : p.size ≤ 9223372036854775807 := by omega
 go_enter Tryz.func224, Tryz.ntmps224
 go_wp2
 go_ret
 exact ⟨rfl, rfl⟩
set_option maxHeartbeats 400000 in
theorem hasPrefix_no (t p : ByteArray) (w : World) (ht : t.size ≤ maxLen) (hp : p.size ≤ maxLen) (e : ¬ (p.size ≤ t.size ∧ (t.extract 0 p.size).toList = p.toList)) :
  Calls Tryz.prog 224 #[.string t, .string p] w fun e w' => e = .returned (.bool false) ∧ w = w' := by
 unfold maxLen at ht hp
 by_cases h : p.size ≤ t.size
 ·have e2 : ((t.extract 0 p.size).toList == p.toList) = false := by rw [beq_eq_false_iff_ne]; exact fun h2 => e ⟨h, h2⟩
  clear e
  go_enter Tryz.func224, Tryz.ntmps224
  go_wp2
  go_ret
  exact ⟨rfl, rfl⟩
 ·clear e
  go_enter Tryz.func224, Tryz.ntmps224
  go_wp2
  go_ret
  exact ⟨rfl, rfl⟩
theorem decodeN_valid (n b0 b1 b2 b3 : Nat) : (Lib.decodeN n b0 b1 b2 b3).1 < 55296 ∨ 57344 ≤ (Lib.decodeN n b0 b1 b2 b3).1 := by
 unfold Lib.decodeN
 repeat' split
 all_goals (simp only; omega)
theorem decodeN_ffd (n b0 b1 b2 b3 : Nat) (h0 : b0 < 256) (h1 : b1 < 256) (h2 : b2 < 256) (h : (Lib.decodeN n b0 b1 b2 b3).1 = 65533) :
  (Lib.decodeN n b0 b1 b2 b3).2 = 1 ↔ ¬ (3 ≤ n ∧ b0 = 239 ∧ b1 = 191 ∧ b2 = 189) := by
 unfold Lib.decodeN at h ⊢
 repeat' split
 all_goals (simp_all; try omega)
theorem enc_eq (c : Nat) (hv : c < 55296 ∨ 57344 ≤ c) (hc : c ≤ 1114111) : (Utf8.encode (c : Int)).toList = [239, 191, 189] ↔ c = 65533 := by
 have hval : Utf8.valid (c : Int) = true := by unfold Utf8.valid; simp; omega
 rw [ByteArray.toList_eq]
 unfold Utf8.encode
 simp only [hval, if_true, Int.toNat_natCast]
 by_cases h1 : c < 128
 ·rw [if_pos h1]; simp; omega
 rw [if_neg h1]
 by_cases h2 : c < 2048
 ·rw [if_pos h2]; simp; omega
 rw [if_neg h2]
 by_cases h3 : c < 65536
 ·rw [if_pos h3]
  simp only [List.cons.injEq, and_true, ← UInt8.toNat_inj, UInt8.toNat_ofNat']
  simp
  omega
 ·rw [if_neg h3]; simp; omega
theorem take3 (l : List UInt8) : l.take 3 = [239, 191, 189] ↔ (3 ≤ l.length ∧ (l.getD 0 0).toNat = 239 ∧ (l.getD 1 0).toNat = 191 ∧ (l.getD 2 0).toNat = 189) := by
 match l with
 | [] => simp
 | [a] => simp
 | [a, b] => simp
 | a :: b :: c :: r =>
  simp [← UInt8.toNat_inj]
theorem ffd_bad (l : List UInt8) (h : (decodeL l).1 = 65533) : badRune (decodeL l) = true ↔ ¬ l.take 3 = [239, 191, 189] := by
 rw [take3, ← decodeN_ffd l.length _ _ _ _ (l.getD 0 0).toNat_lt (l.getD 1 0).toNat_lt (l.getD 2 0).toNat_lt h]
 unfold badRune
 show _ ↔ (decodeL l).2 = 1
 simp [h]
set_option maxHeartbeats 1000000 in
theorem check_any (s : ByteArray) (w : World) (hs : s.size ≤ 140737488355328) :
  Calls Tryz.prog 217 #[.string s] w fun e w' => e = .returned (.int .i64 ((checkL s.data.toList : Nat) : Int)) ∧ Below w.heap.size w w' := by
 have hsz : s.data.toList.length = s.size := rfl
 have htl := ByteArray.toList_eq s
 by_cases hlong : 12 < s.size
 ·rw [checkL_long (by omega)]
  clear htl hsz
  go_enter Tryz.func217, Tryz.ntmps217
  go_wp2_with fail
  go_ret
  exact ⟨rfl, Below.refl _ _⟩
 by_cases hdots : s.data.toList = [] ∨ s.data.toList = [46] ∨ s.data.toList = [46, 46]
 ·rw [checkL_dots (by omega) hdots]
  rw [← htl] at hdots
  clear htl hsz
  rcases hdots with h | h | h
  all_goals
   go_enter Tryz.func217, Tryz.ntmps217
   go_wp2_with fail
   go_ret
   exact ⟨rfl, Below.refl _ _⟩
 rw [checkL_else (by omega) hdots]
 obtain ⟨R, hR⟩ : ∃ R, (if anyBad s.data.toList = true then 800 else 0) = R := ⟨_, rfl⟩
 rw [hR]
 have HR := Lib.hid hR
 clear hR
 have hd0 : s.toList.isEmpty = false := by rw [htl]; simpa using fun e => hdots (.inl e)
 have hd1 : (s.toList == [46]) = false := by rw [htl, beq_eq_false_iff_ne]; exact fun e => hdots (.inr (.inl e))
 have hd2 : (s.toList == [46, 46]) = false := by rw [htl, beq_eq_false_iff_ne]; exact fun e => hdots (.inr (.inr e))
 have he0 : ¬ s.toList = [] := by rw [htl]; exact fun e => hdots (.inl e)
 have he1 : ¬ s.toList = [46] := by rw [htl]; exact fun e => hdots (.inr (.inl e))
 have he2 : ¬ s.toList = [46, 46] := by rw [htl]; exact fun e => hdots (.inr (.inr e))
 have Htl := Lib.hid htl
 clear htl hsz hdots
 go_enter Tryz.func217, Tryz.ntmps217
 go_wp2_with fail
 clear hd0 hd1 hd2 he0 he1 he2
 go_loopw [3, 4] (fun _ _ w' => ∃ (pos : Nat), w' = w.iter s pos ∧ anyBad (s.data.toList.drop pos) = anyBad s.data.toList) (fun _ _ w' => s.size - w'.iterPos w.heap.size)
 case atStart => exact ⟨0, rfl, by simp⟩
 case round =>
  obtain ⟨pos, rfl, hc⟩ := hrel
  by_cases hp : pos < s.size
  ·have hd := decode_list s pos
   have hw := decodeL_width (s.data.toList.drop pos)
   have hle := decodeL_le (s.data.toList.drop pos)
   have hvl := decodeN_valid (s.data.toList.drop pos).length ((s.data.toList.drop pos).getD 0 0).toNat ((s.data.toList.drop pos).getD 1 0).toNat ((s.data.toList.drop pos).getD 2 0).toNat ((s.data.toList.drop pos).getD 3 0).toNat
   have hff := ffd_bad (s.data.toList.drop pos)
   have hcc := anyBad_cons _ (drop_ne hp)
   rw [hcc] at hc
   have hnx : ∀ ty, (Instr.next (.pointer (some ⟨w.heap.size, 0, none⟩)) true ty).run Tryz.prog (w.iter s pos) = _ := fun ty => run_next_any w s pos ty hp
   rw [hd] at hnx
   change (decodeL (s.data.toList.drop pos)).1 < 55296 ∨ 57344 ≤ (decodeL (s.data.toList.drop pos)).1 at hvl
   obtain ⟨q, hq⟩ : ∃ q, decodeL (s.data.toList.drop pos) = q := ⟨_, rfl⟩
   rw [hq] at hnx hvl hle hw hff hc
   obtain ⟨c, v⟩ := q
   simp only at hnx hvl hle hw hff hc
   have henc := enc_eq c hvl hle
   have Hc := Lib.hid hc
   have Henc := Lib.hid henc
   have Hff := Lib.hid hff
   clear hd hcc hc hq henc hff
   by_cases c1 : c = 47
   ·subst c1
    go_wp2
    go_ret
    exact ⟨retv_int (by have := HR.out; rw [if_pos (by rw [← Hc.out, show runeBad _ = true from (runeBad_iff _).2 (by simp; try omega)]; rfl)] at this; omega), below_iter _ _ _⟩
   by_cases c2 : c < 32
   ·go_wp2
    go_ret
    exact ⟨retv_int (by have := HR.out; rw [if_pos (by rw [← Hc.out, show runeBad _ = true from (runeBad_iff _).2 (by simp; try omega)]; rfl)] at this; omega), below_iter _ _ _⟩
   by_cases c3 : c = 127
   ·subst c3
    go_wp2
    go_ret
    exact ⟨retv_int (by have := HR.out; rw [if_pos (by rw [← Hc.out, show runeBad _ = true from (runeBad_iff _).2 (by simp; try omega)]; rfl)] at this; omega), below_iter _ _ _⟩
   have q1 : ((c : Int) == 47) = false := by rw [beq_eq_false_iff_ne]; omega
   have q3 : ((c : Int) == 127) = false := by rw [beq_eq_false_iff_ne]; omega
   have q2 : decide ((c : Int) < 32) = false := by simp; omega
   by_cases c4 : c = 65533
   ·have q4 : ((Utf8.encode (c : Int)).toList == [239, 191, 189]) = true := by rw [beq_iff_eq]; exact Henc.out.2 c4
    have hex0 : (s.extract pos s.size).size = s.size - pos := by simp
    have hexl : (s.extract pos s.size).size ≤ maxLen := by rw [hex0]; unfold maxLen; omega
    have hex3 : ((s.extract pos s.size).extract 0 3).toList = (s.data.toList.drop pos).take 3 := by
     rw [ByteArray.toList_eq]
     simp [List.extract_eq_take_drop]
     omega
    by_cases c5 : (s.data.toList.drop pos).take 3 = [239, 191, 189]
    ·have hlen : 3 ≤ s.size - pos := by
      have := congrArg List.length c5
      rw [List.length_take, List.length_drop] at this
      have hsz : s.data.toList.length = s.size := rfl
      simp at this
      omega
     have C4 := Lib.hid c4
     have C5 := Lib.hid c5
     have H3 := Lib.hid hex3
     have H0 := Lib.hid hex0
     clear c4 c5 hex3 hex0
     go_wp2_with fail
     refine (hasPrefix_yes _ _ _ hexl (by rw [H0.out]; exact hlen) (by rw [show (ByteArray.mk #[239, 191, 189]).size = 3 from rfl, H3.out, C5.out]; rw [ByteArray.toList_eq])).mono ?_
     rintro e w' ⟨rfl, rfl⟩
     go_wp2
     go_roundw
     case rel => exact ⟨pos + v, rfl, by
      have hb : ¬ badRune (c, v) = true := fun e => (Hff.out C4.out).1 e C5.out
      rw [← Hc.out, show runeBad _ = false from Bool.eq_false_iff.2 (fun e => by rw [runeBad_iff] at e; simp only [hb] at e; simp at e; omega), List.drop_drop]; rfl⟩
     case measure => simp; omega
    ·have hno : ¬ ((ByteArray.mk #[239, 191, 189]).size ≤ (s.extract pos s.size).size ∧ ((s.extract pos s.size).extract 0 (ByteArray.mk #[239, 191, 189]).size).toList = (ByteArray.mk #[239, 191, 189]).toList) := by
      rw [show (ByteArray.mk #[239, 191, 189]).size = 3 from rfl, hex3, ByteArray.toList_eq]
      exact fun e => c5 e.2
     have C4 := Lib.hid c4
     have C5 := Lib.hid c5
     have HN := Lib.hid hno
     clear c4 c5 hex3 hex0 hno
     go_wp2_with fail
     refine (hasPrefix_no _ _ _ hexl (by rw [show (ByteArray.mk #[239, 191, 189]).size = 3 from rfl]; unfold maxLen; omega) HN.out).mono ?_
     rintro e w' ⟨rfl, rfl⟩
     have hbad : badRune (c, v) = true := (Hff.out C4.out).2 C5.out
     have HB := Lib.hid hbad
     clear hbad
     go_wp2
     go_ret
     exact ⟨retv_int (by have := HR.out; rw [if_pos (by rw [← Hc.out, show runeBad _ = true from (runeBad_iff _).2 (.inr (.inr (.inr HB.out)))]; rfl)] at this; omega), below_iter _ _ _⟩
   ·have q4 : ((Utf8.encode (c : Int)).toList == [239, 191, 189]) = false := by rw [beq_eq_false_iff_ne]; exact fun e => c4 (Henc.out.1 e)
    go_wp2_with fail
    go_roundw
    case rel => exact ⟨pos + v, rfl, by rw [← Hc.out, show runeBad _ = false from Bool.eq_false_iff.2 (fun e => by rw [runeBad_iff] at e; simp [badRune] at e; omega), List.drop_drop]; rfl⟩
    case measure => simp; omega
  ·have hnx : ∀ ty, (Instr.next (.pointer (some ⟨w.heap.size, 0, none⟩)) true ty).run Tryz.prog (w.iter s pos) = _ := fun ty => run_next_end w s pos ty hp
   rw [drop_all hp, anyBad_nil] at hc
   have Hc := Lib.hid hc
   clear hc
   go_wp2
   go_ret
   exact ⟨retv_int (by have := HR.out; rw [if_neg (by rw [← Hc.out]; simp)] at this; omega), below_iter _ _ _⟩
end Go.Proofs.YtilkhmhgjbhfnaaGreatDoor
namespace Go.Proofs.YtilkhmhgjbhfnaaGreatDoor
open Go.RowKit
def mayL (l : List UInt8) : Bool := checkL l == 0
theorem retv_bool {a b : Bool} (h : a = b) : Ending.returned (.bool a) = .returned (.bool b) := by rw [h]
set_option maxHeartbeats 400000 in
theorem may_any (s : ByteArray) (w : World) (hs : s.size ≤ 140737488355328) :
  Calls Tryz.prog 206 #[.string s] w fun e w' => e = .returned (.bool (mayL s.data.toList)) ∧ Below w.heap.size w w' := by
 go_enter Tryz.func206, Tryz.ntmps206
 go_wp2_with fail
 refine (check_any s _ hs).mono ?_
 rintro e w1 ⟨rfl, hb⟩
 go_wp2
 go_ret
 refine ⟨retv_bool ?_, hb⟩
 unfold mayL
 rw [Bool.eq_iff_iff, beq_iff_eq, beq_iff_eq]
 omega
theorem check_lit (s : ByteArray) (n : Nat) (hs : s.size ≤ 140737488355328) (h : checkL s.data.toList = n) (w : World) :
  Calls Tryz.prog 217 #[.string s] w fun e w' => e = .returned (.int .i64 (n : Int)) ∧ Below w.heap.size w w' :=
 (check_any s w hs).mono fun e w' ⟨he, hb⟩ => ⟨by rw [he, h], hb⟩
theorem infoS : (Tryz.prog.info? 9).map (fun i => (i.zero, i.size, i.bytes)) = some (some (.string ⟨#[]⟩), 1, 16) := by kernel_rfl
def strV (l : List UInt8) : Value := .string ⟨l.toArray⟩
def Names (B : Nat) (w' : World) (v : Value) (out : List (List UInt8)) : Prop := w'.ownsRow B 9 1 v out.length (out.map strV)
theorem names_push {B : Nat} {w' : World} {v' : Value} {out : List (List UInt8)} {cur : List UInt8} (h : w'.ownsRow B 9 1 v' (out.length + 1) (out.map strV ++ [strV cur])) : Names B w' v' (out ++ [cur]) := by
 unfold Names
 simpa using h
theorem names_shape {B : Nat} {w' : World} {v : Value} {out : List (List UInt8)} (h : Names B w' v out) : ∃ A c, v = .slice A out.length c := by
 rcases h.2 with ⟨rfl, hx⟩ | ⟨g, cap, cur, rfl, _⟩
 ·have : out = [] := by simpa using hx
  subst this
  exact ⟨_, _, rfl⟩
 ·exact ⟨_, _, rfl⟩
theorem own_ge {B : Nat} {w' : World} {v : Value} {out : List (List UInt8)} (h : Names B w' v out) : ∀ k, v.ownBlock = some k → B ≤ k := by
 intro k hk
 rcases h.2 with ⟨rfl, hx⟩ | ⟨g, cap, cur, rfl, hg, _⟩
 ·simp [Value.ownBlock] at hk
 ·simp [Value.ownBlock] at hk
  omega
def Parsed (s : ByteArray) (w : World) (e : Ending) (w' : World) : Prop :=
 ∃ (v : Value) (out : List (List UInt8)) (n : Nat), e = .returned (.tuple #[v, .int .i64 (n : Int)]) ∧ parseL s.data.toList = (out, n) ∧ Names w.heap.size w' v out ∧ (n ≠ 0 → v = .slice none 0 0) ∧ Below w.heap.size w w'
theorem parse_64 {l : List UInt8} (h : 64 < l.length) : parseL l = ([], 1101) := if_pos h
theorem parse_form {l : List UInt8} (h : ¬ 64 < l.length) (k : ¬ l.head? = some 47) : parseL l = ([], 1100) := by unfold parseL; rw [if_neg h, if_pos k]
theorem parse_root {l : List UInt8} (h : ¬ 64 < l.length) (k : l.head? = some 47) (e : l.length = 1) : parseL l = ([], 0) := by unfold parseL; rw [if_neg h, if_neg (fun c => c k), if_pos e]
theorem no_head_ne {s : ByteArray} (hp : 0 < s.size) (k : ¬ s.data.toList.head? = some 47) : ((s[0].toNat : Int) != 47) = true := by
 rw [bne_iff_ne]
 intro e
 exact k ((path_head s).2 ⟨hp, UInt8.toNat_inj.1 (by show s[0].toNat = 47; omega)⟩)
def NmAt (w : World) (A : Option Addr) (n : Nat) (ts : List (List UInt8)) : Prop :=
 ts.length = n ∧ (0 < n → ∃ g off, A = some ⟨g, off, none⟩ ∧ g < w.heap.size ∧ ∀ j, j < n → w.cell? ⟨g, off + j, none⟩ = some (strV (ts.getD j [])))
theorem NmAt.below {w w' : World} {A : Option Addr} {n : Nat} {ts : List (List UInt8)} (h : NmAt w A n ts) (hb : Below w.heap.size w w') : NmAt w' A n ts :=
 ⟨h.1, fun hn => by
  obtain ⟨g, off, hA, hg, hc⟩ := h.2 hn
  exact ⟨g, off, hA, Nat.lt_of_lt_of_le hg hb.size, fun j hj => (hb.cell (p := ⟨g, off + j, none⟩) hg).trans (hc j hj)⟩⟩
theorem NmAt.init {w : World} {A : Option Addr} {n : Nat} {ts : List (List UInt8)} (h : NmAt w A (n + 1) ts) : NmAt w A n ts.dropLast :=
 ⟨by rw [List.length_dropLast, h.1]; omega, fun hn => by
  obtain ⟨g, off, hA, hg, hc⟩ := h.2 (by omega)
  refine ⟨g, off, hA, hg, fun j hj => ?_⟩
  rw [hc j (by omega)]
  congr 2
  have hl := h.1
  rw [List.getD_eq_getElem?_getD, List.getD_eq_getElem?_getD, List.getElem?_dropLast, if_pos (by omega)]⟩
theorem NmAt.of_names {B : Nat} {w : World} {v : Value} {out : List (List UInt8)} (h : Names B w v out) : ∃ A c, v = .slice A out.length c ∧ out.length ≤ c ∧ NmAt w A out.length out := by
 obtain ⟨A, c, hv, hc, hn, hg⟩ := row_any h (by decide)
 refine ⟨A, c, hv, hc, rfl, fun h0 => ?_⟩
 obtain ⟨g, hA, hlt, hm, hcell⟩ := hg h0
 refine ⟨g, 0, hA, hlt, fun j hj => ?_⟩
 rw [Nat.zero_add, hcell j (by omega)]
 simp [hj]
def Whole (is : List Ino) : Prop := 0 ≤ atV is 1 ∧ ∀ x ∈ is, ∀ e ∈ x.ents, 0 ≤ atV is e.num
theorem entG_mem : ∀ (es : List En) (n : ByteArray), entG es n = 0 ∨ ∃ e ∈ es, e.num = entG es n
 | [], _ => .inl rfl
 | e :: es, n => by
  unfold entG
  by_cases h : e.name = n
  ·rw [if_pos h]; exact .inr ⟨e, by simp, rfl⟩
  ·rw [if_neg h]
   rcases entG_mem es n with h1 | ⟨y, hy, h1⟩
   ·exact .inl h1
   ·exact .inr ⟨y, by simp [hy], h1⟩
theorem atV_some {is : List Ino} {t : Int} (h : 0 ≤ atV is t) : ∃ (k : Nat) (x : Ino), atV is t = (k : Int) ∧ is[k]? = some x ∧ x.num = t := by
 rcases atV_cases is t with ⟨h1, _⟩ | ⟨k, x, h1, h2, h3, _⟩
 ·omega
 ·exact ⟨k, x, h1, h2, h3⟩
theorem entV_whole {is : List Ino} (hw : Whole is) {dir : Int} {name : ByteArray} (h : entV is dir name ≠ 0) : 0 ≤ atV is (entV is dir name) := by
 unfold entV at h ⊢
 cases hx : inoAt is (atV is dir) with
 | none => rw [hx] at h; exact absurd rfl h
 | some x =>
  rw [hx] at h
  simp only at h ⊢
  obtain ⟨j, _, hj⟩ := inoAt_some hx
  rcases entG_mem x.ents name with h1 | ⟨e, he, h1⟩
  ·exact absurd h1 h
  ·rw [← h1]
   exact hw.2 x (List.mem_of_getElem? hj) e he
theorem walkG_some {is : List Ino} (hw : Whole is) : ∀ (ns : List (List UInt8)) (t : Int), 0 ≤ atV is t → (walkG is ns t).2 = 0 → 0 ≤ atV is (walkG is ns t).1
 | [], t, ht, _ => ht
 | n :: ns, t, ht, hc => by
  obtain ⟨k, x, hk, hx, _⟩ := atV_some ht
  unfold walkG at hc ⊢
  rw [hk, inoAt_nat, hx] at hc ⊢
  simp only at hc ⊢
  by_cases hd : x.dir = false
  ·rw [if_pos hd] at hc; cases hc
  ·rw [if_neg hd] at hc ⊢
   by_cases he : entV is t (txt n) = 0
   ·rw [if_pos he] at hc; cases hc
   ·rw [if_neg he] at hc ⊢
    exact walkG_some hw ns _ (entV_whole hw he) hc
structure KeepT (t : TypeId) (w w' : World) : Prop where
 size : w.heap.size ≤ w'.heap.size
 same : ∀ (b : Nat) (cur : Array Value), w.heap[b]? = some (.cells cur t (0, 0)) → w'.heap[b]? = w.heap[b]?
theorem KeepT.below {t : TypeId} {w w' : World} (h : Below w.heap.size w w') : KeepT t w w' := ⟨h.size, fun b cur hb => h.block b (Array.getElem?_eq_some_iff.1 hb).1⟩
theorem KeepT.set {w : World} {g k : Nat} {u : Value} {cur : Array Value} {t t' : TypeId} (h : w.heap[g]? = some (.cells cur t' (0, 0))) (hne : t' ≠ t) : KeepT t w (w.setCell ⟨g, k, none⟩ u) :=
 ⟨by simp [World.setCell], fun b c hb => Below.heap_setCell w ⟨g, k, none⟩ u b (fun e => by
  have e2 : b = g := e
  subst e2
  rw [h] at hb
  injection hb with hb
  injection hb with _ hb _
  exact hne hb)⟩
theorem KeepT.mine {t : TypeId} {w w' : World} {B g : Nat} (h : KeepT t w w') (hm : Mine (some B) t w g) : Mine (some B) t w' g ∧ w'.heap[g]? = w.heap[g]? := by
 obtain ⟨h1, cur, h2⟩ := hm B rfl
 refine ⟨fun C hC => ?_, h.same g cur h2⟩
 cases hC
 exact ⟨h1, cur, (h.same g cur h2).trans h2⟩
theorem cell_same {w w' : World} {g : Nat} (h : w'.heap[g]? = w.heap[g]?) (j : Nat) : w'.cell? ⟨g, j, none⟩ = w.cell? ⟨g, j, none⟩ := by
 unfold World.cell?
 simp only [h]
theorem EntsAt.keep {B : Nat} {w w' : World} {A : Option Addr} {n : Nat} {es : List En} (h : EntsAt (some B) w A n es) (hk : KeepT 131 w w') : EntsAt (some B) w' A n es :=
 ⟨h.1, fun hn => by
  obtain ⟨g, off, hA, hg, hm, hc⟩ := h.2 hn
  obtain ⟨m1, m2⟩ := hk.mine hm
  exact ⟨g, off, hA, Nat.lt_of_lt_of_le hg hk.size, m1, fun j e he => ⟨(cell_same m2 _).trans (hc j e he).1, (cell_same m2 _).trans (hc j e he).2⟩⟩⟩
theorem DescsAt.keep {B : Nat} {w w' : World} {A : Option Addr} {n : Nat} {ds : List Ds} (h : DescsAt (some B) w A n ds) (hk : KeepT 97 w w') : DescsAt (some B) w' A n ds :=
 ⟨h.1, fun hn => by
  obtain ⟨g, off, hA, hg, hm, hc⟩ := h.2 hn
  obtain ⟨m1, m2⟩ := hk.mine hm
  exact ⟨g, off, hA, Nat.lt_of_lt_of_le hg hk.size, m1, fun j e he => ⟨(cell_same m2 _).trans (hc j e he).1, (cell_same m2 _).trans (hc j e he).2.1, (cell_same m2 _).trans (hc j e he).2.2⟩⟩⟩
theorem IntsAt.keep {B : Nat} {w w' : World} {A : Option Addr} {n : Nat} {xs : List Int} (h : IntsAt (some B) w A n xs) (hk : KeepT 3 w w') : IntsAt (some B) w' A n xs :=
 ⟨h.1, fun hn => by
  obtain ⟨g, off, hA, hg, hm, hc⟩ := h.2 hn
  obtain ⟨m1, m2⟩ := hk.mine hm
  exact ⟨g, off, hA, Nat.lt_of_lt_of_le hg hk.size, m1, fun j x hx => (cell_same m2 _).trans (hc j x hx)⟩⟩
theorem InosAt.keep {B : Nat} {w w' : World} {A : Option Addr} {n : Nat} {is : List Ino} (h : InosAt (some B) w A n is) (hk : KeepT 65 w w') (he : KeepT 131 w w') : InosAt (some B) w' A n is :=
 ⟨h.1, fun hn => by
  obtain ⟨g, off, hA, hg, hm, hc⟩ := h.2 hn
  obtain ⟨m1, m2⟩ := hk.mine hm
  refine ⟨g, off, hA, Nat.lt_of_lt_of_le hg hk.size, m1, fun j x hx => ?_⟩
  obtain ⟨h1, h2, ⟨E, m, c, h3, h4, h5⟩, h6⟩ := hc j x hx
  exact ⟨(cell_same m2 _).trans h1, (cell_same m2 _).trans h2, ⟨E, m, c, (cell_same m2 _).trans h3, h4, h5.keep he⟩, (cell_same m2 _).trans h6⟩⟩
structure Own (B : Nat) (w : World) (p : Nat) (s : St) : Prop where
 at_ : ∃ A n c E m d D k e, B ≤ p ∧ w.heap[p]? = some (.cells #[.slice A n c, .slice E m d, .slice D k e] 31 (0, 0)) ∧ InosAt (some B) w A n s.inos ∧ DescsAt (some B) w E m s.opn ∧ IntsAt (some B) w D k s.made ∧ SlOk A n c ∧ SlOk E m d ∧ SlOk D k e
 sized : Sized s
theorem Own.below {B : Nat} {w w' : World} {p : Nat} {s : St} (h : Own B w p s) (hb : Below w.heap.size w w') : Own B w' p s := by
 obtain ⟨⟨A, n, c, E, m, d, D, k, e, h0, h1, h2, h3, h4, h5, h6, h7⟩, hz⟩ := h
 exact ⟨⟨A, n, c, E, m, d, D, k, e, h0, (hb.block p (Array.getElem?_eq_some_iff.1 h1).1).trans h1, h2.below hb, h3.below hb, h4.below hb, h5, h6, h7⟩, hz⟩
theorem Own.drewN {B : Nat} {w : World} {p : Nat} {s : St} (h : Own B w p s) (q : Nat) : Own B (w.drewN q) p s := ⟨h.at_, h.sized⟩
theorem Own.val {B : Nat} {w : World} {p : Nat} {s : St} (h : Own B w p s) : ∃ A n c E m d D k e, B ≤ p ∧ p < w.heap.size ∧ w.cell? ⟨p, 0, none⟩ = some (.slice A n c) ∧ w.cell? ⟨p, 1, none⟩ = some (.slice E m d) ∧ w.cell? ⟨p, 2, none⟩ = some (.slice D k e) ∧ (∀ j, w.frozen? ⟨p, j, none⟩ = false) ∧
  StAt (some B) w (.agg #[.slice A n c, .slice E m d, .slice D k e]) s ∧ InosAt (some B) w A n s.inos ∧ DescsAt (some B) w E m s.opn ∧ IntsAt (some B) w D k s.made := by
 obtain ⟨⟨A, n, c, E, m, d, D, k, e, h0, h1, h2, h3, h4, h5, h6, h7⟩, hz⟩ := h
 refine ⟨A, n, c, E, m, d, D, k, e, h0, (Array.getElem?_eq_some_iff.1 h1).1, ?_, ?_, ?_, fun j => frozen_of_row w p j _ _ h1, ⟨⟨A, n, c, E, m, d, D, k, e, rfl, h2, h3, h4, h5, h6, h7⟩, hz⟩, h2, h3, h4⟩ <;> (rw [cell_of_row w p _ _ _ (0, 0) h1]; rfl)
theorem InosAt.set {B : Nat} {w : World} {g off n : Nat} {is : List Ino} (h : InosAt (some B) w (some ⟨g, off, none⟩) n is) (i a : Nat) (x y : Ino) (u : Value) (hx : is[i]? = some x) (ha : a = 2 ∨ a = 3) (hnum : y.num = x.num) (hdir : y.dir = x.dir)
  (h2 : a = 2 → y.data = x.data ∧ ∃ A m c, u = .slice A m c ∧ SlOk A m c ∧ EntsAt (some B) w A m y.ents) (h3 : a = 3 → u = .string y.data ∧ y.ents = x.ents) :
  InosAt (some B) (w.setCell ⟨g, off + i * 4 + a, none⟩ u) (some ⟨g, off, none⟩) n (is.set i y) := by
 refine ⟨by rw [List.length_set]; exact h.1, fun hn => ?_⟩
 obtain ⟨g', off', hA, hg, hm, hc⟩ := h.2 hn
 injection hA with hA
 injection hA with hA1 hA2
 subst hA1 hA2
 obtain ⟨hB, cur, hcur⟩ := hm B rfl
 have hkE : KeepT 131 w (w.setCell ⟨g, off + i * 4 + a, none⟩ u) := KeepT.set hcur (by decide)
 have other : ∀ k, k ≠ off + i * 4 + a → (w.setCell ⟨g, off + i * 4 + a, none⟩ u).cell? ⟨g, k, none⟩ = w.cell? ⟨g, k, none⟩ := fun k hk => by
  rw [World.cell?_setCell_other _ _ _ _ (fun e => by injection e with _ e; exact hk e.symm)]
 have hil : i < is.length := (List.getElem?_eq_some_iff.1 hx).1
 have same : (w.setCell ⟨g, off + i * 4 + a, none⟩ u).cell? ⟨g, off + i * 4 + a, none⟩ = some u := by
  obtain ⟨_, _, ⟨E, m, c, q3, _⟩, q4⟩ := hc i x hx
  rcases ha with rfl | rfl
  ·exact World.cell?_setCell_same' _ _ _ (by rw [q3]; rfl)
  ·exact World.cell?_setCell_same' _ _ _ (by rw [q4]; rfl)
 refine ⟨g, off, rfl, by simpa [World.setCell] using hg, fun C hC => ?_, fun j z hz => ?_⟩
 ·cases hC
  exact ⟨hB, _, heap_setCell_same w g _ _ _ _ hcur⟩
 ·rw [List.getElem?_set] at hz
  by_cases hj : i = j
  ·subst hj
   rw [if_pos rfl, if_pos hil] at hz
   injection hz with hz
   subst hz
   obtain ⟨q1, q2, ⟨E, m, c, q3, q5, q6⟩, q4⟩ := hc i x hx
   rcases ha with rfl | rfl
   ·obtain ⟨hd, A', m', c', hu, hmc, hE⟩ := h2 rfl
    refine ⟨?_, ?_, ⟨A', m', c', ?_, hmc, hE.keep hkE⟩, ?_⟩
    ·rw [other _ (by omega), hnum]; exact q1
    ·rw [other _ (by omega), hdir]; exact q2
    ·rw [same, hu]
    ·rw [other _ (by omega), hd]; exact q4
   ·obtain ⟨hu, hE⟩ := h3 rfl
    refine ⟨?_, ?_, ⟨E, m, c, ?_, q5, ?_⟩, ?_⟩
    ·rw [other _ (by omega), hnum]; exact q1
    ·rw [other _ (by omega), hdir]; exact q2
    ·rw [other _ (by omega)]; exact q3
    ·rw [hE]; exact q6.keep hkE
    ·rw [same, hu]
  ·rw [if_neg hj] at hz
   obtain ⟨q1, q2, ⟨E, m, c, q3, q5, q6⟩, q4⟩ := hc j z hz
   have ha4 : a < 4 := by rcases ha with rfl | rfl <;> decide
   refine ⟨?_, ?_, ⟨E, m, c, ?_, q5, q6.keep hkE⟩, ?_⟩
   ·rw [other _ (by omega)]; exact q1
   ·rw [other _ (by omega)]; exact q2
   ·rw [other _ (by omega)]; exact q3
   ·rw [other _ (by omega)]; exact q4
theorem IntsAt.set {B : Nat} {w : World} {g off n : Nat} {xs : List Int} (h : IntsAt (some B) w (some ⟨g, off, none⟩) n xs) (i : Nat) (y : Int) (hi : i < n) : IntsAt (some B) (w.setCell ⟨g, off + i, none⟩ (.int .i64 y)) (some ⟨g, off, none⟩) n (xs.set i y) := by
 refine ⟨by rw [List.length_set]; exact h.1, fun hn => ?_⟩
 obtain ⟨g', off', hA, hg, hm, hc⟩ := h.2 hn
 injection hA with hA
 injection hA with hA1 hA2
 subst hA1 hA2
 obtain ⟨hB, cur, hcur⟩ := hm B rfl
 have hil : i < xs.length := by rw [h.1]; exact hi
 refine ⟨g, off, rfl, by simpa [World.setCell] using hg, fun C hC => ?_, fun j z hz => ?_⟩
 ·cases hC
  exact ⟨hB, _, heap_setCell_same w g _ _ _ _ hcur⟩
 ·rw [List.getElem?_set] at hz
  by_cases hj : i = j
  ·subst hj
   rw [if_pos rfl, if_pos hil] at hz
   injection hz with hz
   subst hz
   exact World.cell?_setCell_same' _ _ _ (by rw [hc i _ (List.getElem?_eq_getElem hil)]; rfl)
  ·rw [if_neg hj] at hz
   rw [World.cell?_setCell_other _ _ _ _ (fun e => by injection e with _ e; omega)]
   exact hc j z hz
theorem InosAt.free {B : Nat} {w : World} {g off n : Nat} {is : List Ino} (h : InosAt (some B) w (some ⟨g, off, none⟩) n is) (hn : 0 < n) : B ≤ g ∧ ∀ j, w.frozen? ⟨g, j, none⟩ = false := by
 obtain ⟨g', off', hA, hg, hm, hc⟩ := h.2 hn
 injection hA with hA
 injection hA with hA1 hA2
 subst hA1 hA2
 obtain ⟨hB, cur, hcur⟩ := hm B rfl
 exact ⟨hB, fun j => frozen_of_row w g j _ _ hcur⟩
theorem IntsAt.free {B : Nat} {w : World} {g off n : Nat} {xs : List Int} (h : IntsAt (some B) w (some ⟨g, off, none⟩) n xs) (hn : 0 < n) : B ≤ g ∧ ∀ j, w.frozen? ⟨g, j, none⟩ = false := by
 obtain ⟨g', off', hA, hg, hm, hc⟩ := h.2 hn
 injection hA with hA
 injection hA with hA1 hA2
 subst hA1 hA2
 obtain ⟨hB, cur, hcur⟩ := hm B rfl
 exact ⟨hB, fun j => frozen_of_row w g j _ _ hcur⟩
theorem EntsAt.mono {B B' : Nat} {w : World} {A : Option Addr} {n : Nat} {es : List En} (h : EntsAt (some B) w A n es) (hb : B' ≤ B) : EntsAt (some B') w A n es :=
 ⟨h.1, fun hn => by
  obtain ⟨g, off, hA, hg, hm, hc⟩ := h.2 hn
  exact ⟨g, off, hA, hg, hm.mono hb, hc⟩⟩
theorem DescsAt.mono {B B' : Nat} {w : World} {A : Option Addr} {n : Nat} {ds : List Ds} (h : DescsAt (some B) w A n ds) (hb : B' ≤ B) : DescsAt (some B') w A n ds :=
 ⟨h.1, fun hn => by
  obtain ⟨g, off, hA, hg, hm, hc⟩ := h.2 hn
  exact ⟨g, off, hA, hg, hm.mono hb, hc⟩⟩
theorem IntsAt.mono {B B' : Nat} {w : World} {A : Option Addr} {n : Nat} {xs : List Int} (h : IntsAt (some B) w A n xs) (hb : B' ≤ B) : IntsAt (some B') w A n xs :=
 ⟨h.1, fun hn => by
  obtain ⟨g, off, hA, hg, hm, hc⟩ := h.2 hn
  exact ⟨g, off, hA, hg, hm.mono hb, hc⟩⟩
theorem InosAt.mono {B B' : Nat} {w : World} {A : Option Addr} {n : Nat} {is : List Ino} (h : InosAt (some B) w A n is) (hb : B' ≤ B) : InosAt (some B') w A n is :=
 ⟨h.1, fun hn => by
  obtain ⟨g, off, hA, hg, hm, hc⟩ := h.2 hn
  refine ⟨g, off, hA, hg, hm.mono hb, fun j x hx => ?_⟩
  obtain ⟨h1, h2, ⟨E, m, c, h3, h4, h5⟩, h6⟩ := hc j x hx
  exact ⟨h1, h2, ⟨E, m, c, h3, h4, h5.mono hb⟩, h6⟩⟩
theorem modify_set {α : Type} (f : α → α) (l : List α) (i : Nat) (x : α) (h : l[i]? = some x) : l.modify i f = l.set i (f x) := by
 apply List.ext_getElem?
 intro j
 rw [List.getElem?_modify, List.getElem?_set]
 by_cases e : i = j
 ·subst e
  have hl : i < l.length := (List.getElem?_eq_some_iff.1 h).1
  simp [hl, (List.getElem?_eq_some_iff.1 h).2]
 ·cases hj : l[j]? <;> simp [e, hj]
structure Aside (p : Nat) (w w' : World) : Prop where
 size : w.heap.size ≤ w'.heap.size
 same : ∀ (b : Nat) (cur : Array Value) (t : TypeId), w.heap[b]? = some (.cells cur t (0, 0)) → 65 ≠ t → 3 ≠ t → b ≠ p → w'.heap[b]? = w.heap[b]?
theorem Aside.below {p : Nat} {w w' : World} (h : Below w.heap.size w w') : Aside p w w' := ⟨h.size, fun b cur t hb _ _ _ => h.block b (Array.getElem?_eq_some_iff.1 hb).1⟩
theorem Aside.trans {p : Nat} {a b c : World} (h : Aside p a b) (k : Aside p b c) : Aside p a c :=
 ⟨Nat.le_trans h.size k.size, fun x cur t hx h1 h2 h3 => (k.same x cur t ((h.same x cur t hx h1 h2 h3).trans hx) h1 h2 h3).trans (h.same x cur t hx h1 h2 h3)⟩
theorem Aside.set {p : Nat} {w : World} {g k : Nat} {u : Value} {cur : Array Value} {t : TypeId} (h : w.heap[g]? = some (.cells cur t (0, 0))) (ht : t = 65 ∨ t = 3 ∨ g = p) : Aside p w (w.setCell ⟨g, k, none⟩ u) :=
 ⟨by simp [World.setCell], fun b c t' hb h1 h2 h3 => Below.heap_setCell w ⟨g, k, none⟩ u b (fun e => by
  have e2 : b = g := e
  subst e2
  rw [h] at hb
  injection hb with hb
  injection hb with _ hb _
  rcases ht with ht | ht | ht
  ·exact h1 (ht.symm.trans hb)
  ·exact h2 (ht.symm.trans hb)
  ·exact h3 ht)⟩
theorem putE_len : ∀ (es : List En) (name : ByteArray) (num : Int), (putE es name num).length = es.length + 1
 | [], _, _ => rfl
 | e :: es, name, num => by
  unfold putE
  split
  ·simp
  ·rw [List.length_cons, putE_len es, List.length_cons]
theorem dropE_len : ∀ (es : List En) (name : ByteArray), (dropE es name).length ≤ es.length
 | [], _ => Nat.le_refl _
 | e :: es, name => by
  unfold dropE
  have := dropE_len es name
  split <;> simp <;> omega
set_option maxHeartbeats 400000 in
theorem hash_any (s : ByteArray) (w : World) (hs : s.size ≤ maxLen) :
  Calls Tryz.prog 34 #[.string s] w fun e w' => e = .returned (.int .i64 ((hashL s.data.toList : Nat) : Int)) ∧ Below w.heap.size w w' := by
 unfold maxLen at hs
 go_enter Tryz.func34, Tryz.ntmps34
 go_wp2
 go_loopw [3] (fun n w' => ∃ (pos acc : Nat), w' = w.iter s pos ∧ n = .int .u32 acc ∧ acc < 4294967296 ∧ hashFrom (s.data.toList.drop pos) acc = hashL s.data.toList) (fun _ w' => s.size - w'.iterPos w.heap.size)
 case atStart => exact ⟨0, 7, rfl, rfl, by omega, by simp [hashL]⟩
 case round =>
  obtain ⟨pos, acc, rfl, rfl, hacc, hc⟩ := hrel
  by_cases hp : pos < s.size
  ·have hd := decode_list s pos
   have hw := decodeL_width (s.data.toList.drop pos)
   have hle := decodeL_le (s.data.toList.drop pos)
   have hcc := hashFrom_cons _ acc (drop_ne hp)
   rw [hcc, ← hd] at hc
   rw [← hd] at hw hle
   have hnx : ∀ ty, (Instr.next (.pointer (some ⟨w.heap.size, 0, none⟩)) true ty).run Tryz.prog (w.iter s pos) = _ := fun ty => run_next_any w s pos ty hp
   have Hc := Lib.hid hc
   clear hd hcc hc
   go_wp2
   go_roundw
   case rel => exact ⟨pos + (Utf8.decode s pos).2, hashStep acc (Utf8.decode s pos), rfl, valv_int (by unfold hashStep; omega), hashStep_lt _ _, by have := Hc.out; rw [List.drop_drop] at this; exact this⟩
   case measure => simp; omega
  ·have hnx : ∀ ty, (Instr.next (.pointer (some ⟨w.heap.size, 0, none⟩)) true ty).run Tryz.prog (w.iter s pos) = _ := fun ty => run_next_end w s pos ty hp
   rw [drop_all hp] at hc
   have Hc := Lib.hid hc
   clear hc
   go_wp2
   go_ret
   exact ⟨retv_int (by have := Hc.out; rw [hashFrom_nil] at this; omega), below_iter _ _ _⟩
end Go.Proofs.YtilkhmhgjbhfnaaGreatDoor
