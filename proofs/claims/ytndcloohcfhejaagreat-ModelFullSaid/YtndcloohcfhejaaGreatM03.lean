/- Parts of the proof, side by side: RefCheck, Check, May, RefParse, FsWalk, FsParent, NameHash, RefHash, FsEnts. -/
import Derived.Test.YtndcloohcfhejaaGreatM02
import Derived.Test.YtndcloohcfhejaaGreatM00
import Derived.OwnWalk
import Derived.Deep.RegionHeld3
import Derived.Test.YtndcloohcfhejaaGreatM01
import Derived.Deep.Cut
import Derived.Deep.DeepCutAuto
set_option linter.unusedVariables false
set_option linter.unusedSimpArgs false
namespace Go.Proofs.YtndcloohcfhejaaGreat
open Go.RowKit
theorem checkL_long {l : List UInt8} (h : 12 < l.length) : checkL l = 801 := if_pos h
theorem checkL_dots {l : List UInt8} (h : ¬ 12 < l.length) (k : l = [] ∨ l = [46] ∨ l = [46, 46]) : checkL l = 800 := by unfold checkL; rw [if_neg h, if_pos k]
theorem checkL_else {l : List UInt8} (h : ¬ 12 < l.length) (k : ¬ (l = [] ∨ l = [46] ∨ l = [46, 46])) : checkL l = if anyBad l then 800 else 0 := by unfold checkL; rw [if_neg h, if_neg k]
theorem runeBad_iff (p : Nat × Nat) : runeBad p = true ↔ (p.1 = 47 ∨ p.1 < 32 ∨ p.1 = 127 ∨ badRune p = true) := by
 unfold runeBad
 simp [or_assoc]
set_option maxHeartbeats 400000 in
theorem hasPrefix_yes (t p : ByteArray) (w : World) (ht : t.size ≤ maxLen) (h : p.size ≤ t.size) (e : (t.extract 0 p.size).toList = p.toList) :
  Calls Tryz.prog 103 #[.string t, .string p] w fun e w' => e = .returned (.bool true) ∧ w = w' := by
 unfold maxLen at ht
 have hp : p.size ≤ 9223372036854775807 := by omega
 go_enter Tryz.func103, Tryz.ntmps103
 go_wp2
 go_ret
 exact ⟨rfl, rfl⟩
set_option maxHeartbeats 400000 in
theorem hasPrefix_no (t p : ByteArray) (w : World) (ht : t.size ≤ maxLen) (hp : p.size ≤ maxLen) (e : ¬ (p.size ≤ t.size ∧ (t.extract 0 p.size).toList = p.toList)) :
  Calls Tryz.prog 103 #[.string t, .string p] w fun e w' => e = .returned (.bool false) ∧ w = w' := by
 unfold maxLen at ht hp
 by_cases h : p.size ≤ t.size
 ·have e2 : ((t.extract 0 p.size).toList == p.toList) = false := by rw [beq_eq_false_iff_ne]; exact fun h2 => e ⟨h, h2⟩
  clear e
  go_enter Tryz.func103, Tryz.ntmps103
  go_wp2
  go_ret
  exact ⟨rfl, rfl⟩
 ·clear e
  go_enter Tryz.func103, Tryz.ntmps103
  go_wp2
  go_ret
  exact ⟨rfl, rfl⟩
theorem decodeN_valid (n b0 b1 b2 b3 : Nat) : (Lib.decodeN n b0 b1 b2 b3).1 < 55296 ∨ 57344 ≤ (Lib.decodeN n b0 b1 b2 b3).1 := by
 unfold Lib.decodeN
 repeat' split
 all_goals (simp only; omega)
theorem decodeN_ffd (n b0 b1 b2 b3 : Nat) (h0 : b0 < 256) (h1 : b1 < 256) (h2 : b2 < 256) (h : (Lib.decodeN n b0 b1 b2 b3).1 = 65533) :
  (Lib.decodeN n b0 b1 b2 b3).2 = 1 ↔ ¬ (3 ≤ n ∧ b0 = 239 ∧ b1 = 191 ∧ b2 = 189) := by
 unfold Lib.decodeN at h ⊢
 repeat' split
 all_goals (simp_all; try omega)
theorem enc_eq (c : Nat) (hv : c < 55296 ∨ 57344 ≤ c) (hc : c ≤ 1114111) : (Utf8.encode (c : Int)).toList = [239, 191, 189] ↔ c = 65533 := by
 have hval : Utf8.valid (c : Int) = true := by unfold Utf8.valid; simp; omega
 rw [ByteArray.toList_eq]
 unfold Utf8.encode
 simp only [hval, if_true, Int.toNat_natCast]
 by_cases h1 : c < 128
 ·rw [if_pos h1]; simp; omega
 rw [if_neg h1]
 by_cases h2 : c < 2048
 ·rw [if_pos h2]; simp; omega
 rw [if_neg h2]
 by_cases h3 : c < 65536
 ·rw [if_pos h3]
  simp only [List.cons.injEq, and_true, ← UInt8.toNat_inj, UInt8.toNat_ofNat']
  simp
  omega
 ·rw [if_neg h3]; simp; omega
theorem take3 (l : List UInt8) : l.take 3 = [239, 191, 189] ↔ (3 ≤ l.length ∧ (l.getD 0 0).toNat = 239 ∧ (l.getD 1 0).toNat = 191 ∧ (l.getD 2 0).toNat = 189) := by
 match l with
 | [] => simp
 | [a] => simp
 | [a, b] => simp
 | a :: b :: c :: r =>
  simp [← UInt8.toNat_inj]
theorem ffd_bad (l : List UInt8) (h : (decodeL l).1 = 65533) : badRune (decodeL l) = true ↔ ¬ l.take 3 = [239, 191, 189] := by
 rw [take3, ← decodeN_ffd l.length _ _ _ _ (l.getD 0 0).toNat_lt (l.getD 1 0).toNat_lt (l.getD 2 0).toNat_lt h]
 unfold badRune
 show _ ↔ (decodeL l).2 = 1
 simp [h]
set_option maxHeartbeats 1000000 in
theorem check_any (s : ByteArray) (w : World) (hs : s.size ≤ 140737488355328) :
  Calls Tryz.prog 66 #[.string s] w fun e w' => e = .returned (.int .i64 ((checkL s.data.toList : Nat) : Int)) ∧ Below w.heap.size w w' := by
 have hsz : s.data.toList.length = s.size := rfl
 have htl := ByteArray.toList_eq s
 by_cases hlong : 12 < s.size
 ·rw [checkL_long (by omega)]
  clear htl hsz
  go_enter Tryz.func66, Tryz.ntmps66
  go_wp2_with fail
  go_ret
  exact ⟨rfl, Below.refl _ _⟩
 by_cases hdots : s.data.toList = [] ∨ s.data.toList = [46] ∨ s.data.toList = [46, 46]
 ·rw [checkL_dots (by omega) hdots]
  rw [← htl] at hdots
  clear htl hsz
  rcases hdots with h | h | h
  all_goals
   go_enter Tryz.func66, Tryz.ntmps66
   go_wp2_with fail
   go_ret
   exact ⟨rfl, Below.refl _ _⟩
 rw [checkL_else (by omega) hdots]
 obtain ⟨R, hR⟩ : ∃ R, (if anyBad s.data.toList = true then 800 else 0) = R := ⟨_, rfl⟩
 rw [hR]
 have HR := Lib.hid hR
 clear hR
 have hd0 : s.toList.isEmpty = false := by rw [htl]; simpa using fun e => hdots (.inl e)
 have hd1 : (s.toList == [46]) = false := by rw [htl, beq_eq_false_iff_ne]; exact fun e => hdots (.inr (.inl e))
 have hd2 : (s.toList == [46, 46]) = false := by rw [htl, beq_eq_false_iff_ne]; exact fun e => hdots (.inr (.inr e))
 have he0 : ¬ s.toList = [] := by rw [htl]; exact fun e => hdots (.inl e)
 have he1 : ¬ s.toList = [46] := by rw [htl]; exact fun e => hdots (.inr (.inl e))
 have he2 : ¬ s.toList = [46, 46] := by rw [htl]; exact fun e => hdots (.inr (.inr e))
 have Htl := Lib.hid htl
 clear htl hsz hdots
 go_enter Tryz.func66, Tryz.ntmps66
 go_wp2_with fail
 clear hd0 hd1 hd2 he0 he1 he2
 go_loopw [3, 4] (fun _ _ w' => ∃ (pos : Nat), w' = w.iter s pos ∧ anyBad (s.data.toList.drop pos) = anyBad s.data.toList) (fun _ _ w' => s.size - w'.iterPos w.heap.size)
 case atStart => exact ⟨0, rfl, by simp⟩
 case round =>
  obtain ⟨pos, rfl, hc⟩ := hrel
  by_cases hp : pos < s.size
  ·have hd := decode_list s pos
   have hw := decodeL_width (s.data.toList.drop pos)
   have hle := decodeL_le (s.data.toList.drop pos)
   have hvl := decodeN_valid (s.data.toList.drop pos).length ((s.data.toList.drop pos).getD 0 0).toNat ((s.data.toList.drop pos).getD 1 0).toNat ((s.data.toList.drop pos).getD 2 0).toNat ((s.data.toList.drop pos).getD 3 0).toNat
   have hff := ffd_bad (s.data.toList.drop pos)
   have hcc := anyBad_cons _ (drop_ne hp)
   rw [hcc] at hc
   have hnx : ∀ ty, (Instr.next (.pointer (some ⟨w.heap.size, 0, none⟩)) true ty).run Tryz.prog (w.iter s pos) = _ := fun ty => run_next_any w s pos ty hp
   rw [hd] at hnx
   change (decodeL (s.data.toList.drop pos)).1 < 55296 ∨ 57344 ≤ (decodeL (s.data.toList.drop pos)).1 at hvl
   obtain ⟨q, hq⟩ : ∃ q, decodeL (s.data.toList.drop pos) = q := ⟨_, rfl⟩
   rw [hq] at hnx hvl hle hw hff hc
   obtain ⟨c, v⟩ := q
   simp only at hnx hvl hle hw hff hc
   have henc := enc_eq c hvl hle
   have Hc := Lib.hid hc
   have Henc := Lib.hid henc
   have Hff := Lib.hid hff
   clear hd hcc hc hq henc hff
   by_cases c1 : c = 47
   ·subst c1
    go_wp2
    go_ret
    exact ⟨retv_int (by have := HR.out; rw [if_pos (by rw [← Hc.out, show runeBad _ = true from (runeBad_iff _).2 (by simp; try omega)]; rfl)] at this; omega), below_iter _ _ _⟩
   by_cases c2 : c < 32
   ·go_wp2
    go_ret
    exact ⟨retv_int (by have := HR.out; rw [if_pos (by rw [← Hc.out, show runeBad _ = true from (runeBad_iff _).2 (by simp; try omega)]; rfl)] at this; omega), below_iter _ _ _⟩
   by_cases c3 : c = 127
   ·subst c3
    go_wp2
    go_ret
    exact ⟨retv_int (by have := HR.out; rw [if_pos (by rw [← Hc.out, show runeBad _ = true from (runeBad_iff _).2 (by simp; try omega)]; rfl)] at this; omega), below_iter _ _ _⟩
   have q1 : ((c : Int) == 47) = false := by rw [beq_eq_false_iff_ne]; omega
   have q3 : ((c : Int) == 127) = false := by rw [beq_eq_false_iff_ne]; omega
   have q2 : decide ((c : Int) < 32) = false := by simp; omega
   by_cases c4 : c = 65533
   ·have q4 : ((Utf8.encode (c : Int)).toList == [239, 191, 189]) = true := by rw [beq_iff_eq]; exact Henc.out.2 c4
    have hex0 : (s.extract pos s.size).size = s.size - pos := by simp
    have hexl : (s.extract pos s.size).size ≤ maxLen := by rw [hex0]; unfold maxLen; omega
    have hex3 : ((s.extract pos s.size).extract 0 3).toList = (s.data.toList.drop pos).take 3 := by
     rw [ByteArray.toList_eq]
     simp [List.extract_eq_take_drop]
     omega
    by_cases c5 : (s.data.toList.drop pos).take 3 = [239, 191, 189]
    ·have hlen : 3 ≤ s.size - pos := by
      have := congrArg List.length c5
      rw [List.length_take, List.length_drop] at this
      have hsz : s.data.toList.length = s.size := rfl
      simp at this
      omega
     have C4 := Lib.hid c4
     have C5 := Lib.hid c5
     have H3 := Lib.hid hex3
     have H0 := Lib.hid hex0
     clear c4 c5 hex3 hex0
     go_wp2_with fail
     refine (hasPrefix_yes _ _ _ hexl (by rw [H0.out]; exact hlen) (by rw [show (ByteArray.mk #[239, 191, 189]).size = 3 from rfl, H3.out, C5.out]; rw [ByteArray.toList_eq])).mono ?_
     rintro e w' ⟨rfl, rfl⟩
     go_wp2
     go_roundw
     case rel => exact ⟨pos + v, rfl, by
      have hb : ¬ badRune (c, v) = true := fun e => (Hff.out C4.out).1 e C5.out
      rw [← Hc.out, show runeBad _ = false from Bool.eq_false_iff.2 (fun e => by rw [runeBad_iff] at e; simp only [hb] at e; simp at e; omega), List.drop_drop]; rfl⟩
     case measure => simp; omega
    ·have hno : ¬ ((ByteArray.mk #[239, 191, 189]).size ≤ (s.extract pos s.size).size ∧ ((s.extract pos s.size).extract 0 (ByteArray.mk #[239, 191, 189]).size).toList = (ByteArray.mk #[239, 191, 189]).toList) := by
      rw [show (ByteArray.mk #[239, 191, 189]).size = 3 from rfl, hex3, ByteArray.toList_eq]
      exact fun e => c5 e.2
     have C4 := Lib.hid c4
     have C5 := Lib.hid c5
     have HN := Lib.hid hno
     clear c4 c5 hex3 hex0 hno
     go_wp2_with fail
     refine (hasPrefix_no _ _ _ hexl (by rw [show (ByteArray.mk #[239, 191, 189]).size = 3 from rfl]; unfold maxLen; omega) HN.out).mono ?_
     rintro e w' ⟨rfl, rfl⟩
     have hbad : badRune (c, v) = true := (Hff.out C4.out).2 C5.out
     have HB := Lib.hid hbad
     clear hbad
     go_wp2
     go_ret
     exact ⟨retv_int (by have := HR.out; rw [if_pos (by rw [← Hc.out, show runeBad _ = true from (runeBad_iff _).2 (.inr (.inr (.inr HB.out)))]; rfl)] at this; omega), below_iter _ _ _⟩
   ·have q4 : ((Utf8.encode (c : Int)).toList == [239, 191, 189]) = false := by rw [beq_eq_false_iff_ne]; exact fun e => c4 (Henc.out.1 e)
    go_wp2_with fail
    go_roundw
    case rel => exact ⟨pos + v, rfl, by rw [← Hc.out, show runeBad _ = false from Bool.eq_false_iff.2 (fun e => by rw [runeBad_iff] at e; simp [badRune] at e; omega), List.drop_drop]; rfl⟩
    case measure => simp; omega
  ·have hnx : ∀ ty, (Instr.next (.pointer (some ⟨w.heap.size, 0, none⟩)) true ty).run Tryz.prog (w.iter s pos) = _ := fun ty => run_next_end w s pos ty hp
   rw [drop_all hp, anyBad_nil] at hc
   have Hc := Lib.hid hc
   clear hc
   go_wp2
   go_ret
   exact ⟨retv_int (by have := HR.out; rw [if_neg (by rw [← Hc.out]; simp)] at this; omega), below_iter _ _ _⟩
def mayL (l : List UInt8) : Bool := checkL l == 0
theorem retv_bool {a b : Bool} (h : a = b) : Ending.returned (.bool a) = .returned (.bool b) := by rw [h]
set_option maxHeartbeats 400000 in
theorem may_any (s : ByteArray) (w : World) (hs : s.size ≤ 140737488355328) :
  Calls Tryz.prog 111 #[.string s] w fun e w' => e = .returned (.bool (mayL s.data.toList)) ∧ Below w.heap.size w w' := by
 go_enter Tryz.func111, Tryz.ntmps111
 go_wp2_with fail
 refine (check_any s _ hs).mono ?_
 rintro e w1 ⟨rfl, hb⟩
 go_wp2
 go_ret
 refine ⟨retv_bool ?_, hb⟩
 unfold mayL
 rw [Bool.eq_iff_iff, beq_iff_eq, beq_iff_eq]
 omega
theorem check_lit (s : ByteArray) (n : Nat) (hs : s.size ≤ 140737488355328) (h : checkL s.data.toList = n) (w : World) :
  Calls Tryz.prog 66 #[.string s] w fun e w' => e = .returned (.int .i64 (n : Int)) ∧ Below w.heap.size w w' :=
 (check_any s w hs).mono fun e w' ⟨he, hb⟩ => ⟨by rw [he, h], hb⟩
theorem infoS : (Tryz.prog.info? 9).map (fun i => (i.zero, i.size, i.bytes)) = some (some (.string ⟨#[]⟩), 1, 16) := by kernel_rfl
def strV (l : List UInt8) : Value := .string ⟨l.toArray⟩
def Names (B : Nat) (w' : World) (v : Value) (out : List (List UInt8)) : Prop := w'.ownsRow B 9 1 v out.length (out.map strV)
theorem names_push {B : Nat} {w' : World} {v' : Value} {out : List (List UInt8)} {cur : List UInt8} (h : w'.ownsRow B 9 1 v' (out.length + 1) (out.map strV ++ [strV cur])) : Names B w' v' (out ++ [cur]) := by
 unfold Names
 simpa using h
theorem names_shape {B : Nat} {w' : World} {v : Value} {out : List (List UInt8)} (h : Names B w' v out) : ∃ A c, v = .slice A out.length c := by
 rcases h.2 with ⟨rfl, hx⟩ | ⟨g, cap, cur, rfl, _⟩
 ·have : out = [] := by simpa using hx
  subst this
  exact ⟨_, _, rfl⟩
 ·exact ⟨_, _, rfl⟩
theorem own_ge {B : Nat} {w' : World} {v : Value} {out : List (List UInt8)} (h : Names B w' v out) : ∀ k, v.ownBlock = some k → B ≤ k := by
 intro k hk
 rcases h.2 with ⟨rfl, hx⟩ | ⟨g, cap, cur, rfl, hg, _⟩
 ·simp [Value.ownBlock] at hk
 ·simp [Value.ownBlock] at hk
  omega
def Parsed (s : ByteArray) (w : World) (e : Ending) (w' : World) : Prop :=
 ∃ (v : Value) (out : List (List UInt8)) (n : Nat), e = .returned (.tuple #[v, .int .i64 (n : Int)]) ∧ parseL s.data.toList = (out, n) ∧ Names w.heap.size w' v out ∧ (n ≠ 0 → v = .slice none 0 0) ∧ Below w.heap.size w w'
theorem parse_64 {l : List UInt8} (h : 64 < l.length) : parseL l = ([], 1101) := if_pos h
theorem parse_form {l : List UInt8} (h : ¬ 64 < l.length) (k : ¬ l.head? = some 47) : parseL l = ([], 1100) := by unfold parseL; rw [if_neg h, if_pos k]
theorem parse_root {l : List UInt8} (h : ¬ 64 < l.length) (k : l.head? = some 47) (e : l.length = 1) : parseL l = ([], 0) := by unfold parseL; rw [if_neg h, if_neg (fun c => c k), if_pos e]
theorem no_head_ne {s : ByteArray} (hp : 0 < s.size) (k : ¬ s.data.toList.head? = some 47) : ((s[0].toNat : Int) != 47) = true := by
 rw [bne_iff_ne]
 intro e
 exact k ((path_head s).2 ⟨hp, UInt8.toNat_inj.1 (by show s[0].toNat = 47; omega)⟩)
def NmAt (w : World) (A : Option Addr) (n : Nat) (ts : List (List UInt8)) : Prop :=
 ts.length = n ∧ (0 < n → ∃ g off, A = some ⟨g, off, none⟩ ∧ g < w.heap.size ∧ ∀ j, j < n → w.cell? ⟨g, off + j, none⟩ = some (strV (ts.getD j [])))
theorem NmAt.below {w w' : World} {A : Option Addr} {n : Nat} {ts : List (List UInt8)} (h : NmAt w A n ts) (hb : Below w.heap.size w w') : NmAt w' A n ts :=
 ⟨h.1, fun hn => by
  obtain ⟨g, off, hA, hg, hc⟩ := h.2 hn
  exact ⟨g, off, hA, Nat.lt_of_lt_of_le hg hb.size, fun j hj => (hb.cell (p := ⟨g, off + j, none⟩) hg).trans (hc j hj)⟩⟩
theorem NmAt.init {w : World} {A : Option Addr} {n : Nat} {ts : List (List UInt8)} (h : NmAt w A (n + 1) ts) : NmAt w A n ts.dropLast :=
 ⟨by rw [List.length_dropLast, h.1]; omega, fun hn => by
  obtain ⟨g, off, hA, hg, hc⟩ := h.2 (by omega)
  refine ⟨g, off, hA, hg, fun j hj => ?_⟩
  rw [hc j (by omega)]
  congr 2
  have hl := h.1
  rw [List.getD_eq_getElem?_getD, List.getD_eq_getElem?_getD, List.getElem?_dropLast, if_pos (by omega)]⟩
theorem NmAt.of_names {B : Nat} {w : World} {v : Value} {out : List (List UInt8)} (h : Names B w v out) : ∃ A c, v = .slice A out.length c ∧ out.length ≤ c ∧ NmAt w A out.length out := by
 obtain ⟨A, c, hv, hc, hn, hg⟩ := row_any h (by decide)
 refine ⟨A, c, hv, hc, rfl, fun h0 => ?_⟩
 obtain ⟨g, hA, hlt, hm, hcell⟩ := hg h0
 refine ⟨g, 0, hA, hlt, fun j hj => ?_⟩
 rw [Nat.zero_add, hcell j (by omega)]
 simp [hj]
def Whole (is : List Ino) : Prop := 0 ≤ atV is 1 ∧ ∀ x ∈ is, ∀ e ∈ x.ents, 0 ≤ atV is e.num
theorem entG_mem : ∀ (es : List En) (n : ByteArray), entG es n = 0 ∨ ∃ e ∈ es, e.num = entG es n
 | [], _ => .inl rfl
 | e :: es, n => by
  unfold entG
  by_cases h : e.name = n
  ·rw [if_pos h]; exact .inr ⟨e, by simp, rfl⟩
  ·rw [if_neg h]
   rcases entG_mem es n with h1 | ⟨y, hy, h1⟩
   ·exact .inl h1
   ·exact .inr ⟨y, by simp [hy], h1⟩
theorem atV_some {is : List Ino} {t : Int} (h : 0 ≤ atV is t) : ∃ (k : Nat) (x : Ino), atV is t = (k : Int) ∧ is[k]? = some x ∧ x.num = t := by
 rcases atV_cases is t with ⟨h1, _⟩ | ⟨k, x, h1, h2, h3, _⟩
 ·omega
 ·exact ⟨k, x, h1, h2, h3⟩
theorem entV_whole {is : List Ino} (hw : Whole is) {dir : Int} {name : ByteArray} (h : entV is dir name ≠ 0) : 0 ≤ atV is (entV is dir name) := by
 unfold entV at h ⊢
 cases hx : inoAt is (atV is dir) with
 | none => rw [hx] at h; exact absurd rfl h
 | some x =>
  rw [hx] at h
  simp only at h ⊢
  obtain ⟨j, _, hj⟩ := inoAt_some hx
  rcases entG_mem x.ents name with h1 | ⟨e, he, h1⟩
  ·exact absurd h1 h
  ·rw [← h1]
   exact hw.2 x (List.mem_of_getElem? hj) e he
theorem walkG_some {is : List Ino} (hw : Whole is) : ∀ (ns : List (List UInt8)) (t : Int), 0 ≤ atV is t → (walkG is ns t).2 = 0 → 0 ≤ atV is (walkG is ns t).1
 | [], t, ht, _ => ht
 | n :: ns, t, ht, hc => by
  obtain ⟨k, x, hk, hx, _⟩ := atV_some ht
  unfold walkG at hc ⊢
  rw [hk, inoAt_nat, hx] at hc ⊢
  simp only at hc ⊢
  by_cases hd : x.dir = false
  ·rw [if_pos hd] at hc; cases hc
  ·rw [if_neg hd] at hc ⊢
   by_cases he : entV is t (txt n) = 0
   ·rw [if_pos he] at hc; cases hc
   ·rw [if_neg he] at hc ⊢
    exact walkG_some hw ns _ (entV_whole hw he) hc
set_option maxHeartbeats 400000 in
theorem hash_any (s : ByteArray) (w : World) (hs : s.size ≤ maxLen) :
  Calls Tryz.prog 139 #[.string s] w fun e w' => e = .returned (.int .i64 ((hashL s.data.toList : Nat) : Int)) ∧ Below w.heap.size w w' := by
 unfold maxLen at hs
 go_enter Tryz.func139, Tryz.ntmps139
 go_wp2
 go_loopw [3] (fun n w' => ∃ (pos acc : Nat), w' = w.iter s pos ∧ n = .int .u32 acc ∧ acc < 4294967296 ∧ hashFrom (s.data.toList.drop pos) acc = hashL s.data.toList) (fun _ w' => s.size - w'.iterPos w.heap.size)
 case atStart => exact ⟨0, 7, rfl, rfl, by omega, by simp [hashL]⟩
 case round =>
  obtain ⟨pos, acc, rfl, rfl, hacc, hc⟩ := hrel
  by_cases hp : pos < s.size
  ·have hd := decode_list s pos
   have hw := decodeL_width (s.data.toList.drop pos)
   have hle := decodeL_le (s.data.toList.drop pos)
   have hcc := hashFrom_cons _ acc (drop_ne hp)
   rw [hcc, ← hd] at hc
   rw [← hd] at hw hle
   have hnx : ∀ ty, (Instr.next (.pointer (some ⟨w.heap.size, 0, none⟩)) true ty).run Tryz.prog (w.iter s pos) = _ := fun ty => run_next_any w s pos ty hp
   have Hc := Lib.hid hc
   clear hd hcc hc
   go_wp2
   go_roundw
   case rel => exact ⟨pos + (Utf8.decode s pos).2, hashStep acc (Utf8.decode s pos), rfl, valv_int (by unfold hashStep; omega), hashStep_lt _ _, by have := Hc.out; rw [List.drop_drop] at this; exact this⟩
   case measure => simp; omega
  ·have hnx : ∀ ty, (Instr.next (.pointer (some ⟨w.heap.size, 0, none⟩)) true ty).run Tryz.prog (w.iter s pos) = _ := fun ty => run_next_end w s pos ty hp
   rw [drop_all hp] at hc
   have Hc := Lib.hid hc
   clear hc
   go_wp2
   go_ret
   exact ⟨retv_int (by have := Hc.out; rw [hashFrom_nil] at this; omega), below_iter _ _ _⟩
set_option maxHeartbeats 400000 in
theorem refhash_any (s : ByteArray) (w : World) (hs : s.size ≤ 140737488355328) :
  Calls Tryz.prog 39 #[.string s] w fun e w' => e = .returned (.int .i64 ((hashL s.data.toList : Nat) : Int)) ∧ w = w' := by
 go_enter Tryz.func39, Tryz.ntmps39
 go_wp2_with fail
 go_loop [3, 4] (fun n i => ∃ (pos acc : Nat), i = .int .i64 pos ∧ n = .int .i64 acc ∧ pos ≤ s.size ∧ acc < 4294967296 ∧ hashFrom (s.data.toList.drop pos) acc = hashL s.data.toList) (fun _ i => s.size - (intOf i).toNat)
 case atStart => exact ⟨0, 7, rfl, rfl, by omega, by omega, by simp [hashL]⟩
 case round =>
  obtain ⟨pos, acc, rfl, rfl, hps, hacc, hc⟩ := hrel
  by_cases hp : pos < s.size
  ·have hw := decodeL_width (s.data.toList.drop pos)
   have hle := decodeL_le (s.data.toList.drop pos)
   have hf := decodeL_fits _ (drop_ne hp)
   rw [List.length_drop] at hf
   have hsz : s.data.toList.length = s.size := rfl
   rw [hsz] at hf
   have hcc := hashFrom_cons _ acc (drop_ne hp)
   rw [hcc] at hc
   have Hc := Lib.hid hc
   clear hcc hc hsz
   go_wp2_with fail
   refine (rune1_at s pos hp _ hs).mono ?_
   rintro e w' ⟨c, k, rfl, hc1, hk1, hk2, rfl⟩
   have hk1' : k ≤ 4 := by omega
   have hcle : c ≤ 1114111 := by omega
   have Hc1 := Lib.hid hc1
   have Hk1 := Lib.hid hk1
   clear hc1 hk1 hk2
   by_cases hk0 : 1 ≤ k
   ·go_wp2
    go_round
    case rel => exact ⟨pos + (decodeL (s.data.toList.drop pos)).2, hashStep acc (decodeL (s.data.toList.drop pos)), valv_int (by have := Hk1.out; omega), valv_int (by have := Hc1.out; unfold hashStep; omega), by omega, hashStep_lt _ _, by have := Hc.out; rw [List.drop_drop] at this; exact this⟩
    case measure => simp [intOf]; omega
   ·obtain rfl : k = 0 := by omega
    go_wp2
    go_round
    case rel => exact ⟨pos + (decodeL (s.data.toList.drop pos)).2, hashStep acc (decodeL (s.data.toList.drop pos)), valv_int (by have := Hk1.out; omega), valv_int (by have := Hc1.out; unfold hashStep; omega), by omega, hashStep_lt _ _, by have := Hc.out; rw [List.drop_drop] at this; exact this⟩
    case measure => simp [intOf]; omega
  ·rw [drop_all hp] at hc
   have Hc := Lib.hid hc
   clear hc
   go_wp2
   go_ret
   exact ⟨retv_int (by have := Hc.out; rw [hashFrom_nil] at this; omega), rfl⟩
set_option maxHeartbeats 400000 in
theorem refbucket_any (s : ByteArray) (w : World) (hs : s.size ≤ 140737488355328) :
  Calls Tryz.prog 23 #[.string s] w fun e w' => e = .returned (.int .i64 ((hashL s.data.toList % 8 : Nat) : Int)) ∧ w = w' := by
 have hh := hashL_lt s.data.toList
 go_enter Tryz.func23, Tryz.ntmps23
 go_wp2_with fail
 refine (refhash_any s _ hs).mono ?_
 rintro e w' ⟨rfl, rfl⟩
 go_wp2
 go_ret
 exact ⟨retv_int (by omega), rfl⟩
theorem box_ino (w : World) (num : Int) (dir : Bool) (E : Option Addr) (m d : Nat) (data : ByteArray) : ∃ W, w.alloc (.cells #[.int .i64 num, .bool dir, .slice E m d, .string data] 75) = W ∧ W.cell? ⟨w.heap.size, 0, .none⟩ = some (.int .i64 num) ∧ W.cell? ⟨w.heap.size, 1, .none⟩ = some (.bool dir) ∧ W.cell? ⟨w.heap.size, 2, .none⟩ = some (.slice E m d) ∧ W.cell? ⟨w.heap.size, 3, .none⟩ = some (.string data) ∧ Below w.heap.size w W ∧ w.heap.size < W.heap.size := by
 refine ⟨_, rfl, ?_, ?_, ?_, ?_, (Below.refl _ _).alloc (Nat.le_refl _) _, by simp⟩
 ·exact (World.cell?_alloc_mark w _ _ (0, 0) _).trans rfl
 ·exact (World.cell?_alloc_mark w _ _ (0, 0) _).trans rfl
 ·exact (World.cell?_alloc_mark w _ _ (0, 0) _).trans rfl
 ·exact (World.cell?_alloc_mark w _ _ (0, 0) _).trans rfl
theorem box_en (w : World) (name : ByteArray) (num : Int) : ∃ W, w.alloc (.cells #[.string name, .int .i64 num] 77) = W ∧ W.cell? ⟨w.heap.size, 0, .none⟩ = some (.string name) ∧ W.cell? ⟨w.heap.size, 1, .none⟩ = some (.int .i64 num) ∧ Below w.heap.size w W ∧ w.heap.size < W.heap.size := by
 refine ⟨_, rfl, ?_, ?_, (Below.refl _ _).alloc (Nat.le_refl _) _, by simp⟩
 ·exact (World.cell?_alloc_mark w _ _ (0, 0) _).trans rfl
 ·exact (World.cell?_alloc_mark w _ _ (0, 0) _).trans rfl
def prevN (es : List En) (k : Nat) : Option ByteArray := if k = 0 then none else (es[k - 1]?).map (·.name)
theorem bktB_lt (s : ByteArray) : bktB s < 8 := Nat.mod_lt _ (by omega)
end Go.Proofs.YtndcloohcfhejaaGreat
