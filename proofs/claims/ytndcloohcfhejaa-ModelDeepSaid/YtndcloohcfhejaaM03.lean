/- Parts of the proof, side by side: RefParse, FsWalk, FsParent, NameHash, FsEnts, FsEqual, MoFind, MoFind2, MoMade. -/
import Derived.Test.YtndcloohcfhejaaM02
import Derived.Test.YtndcloohcfhejaaM01
import Derived.Test.YtndcloohcfhejaaM00
import Derived.OwnWalk
import Derived.Deep.RegionHeld3
import Derived.Deep.Cut
import Derived.Deep.DeepCutAuto
import Derived.Handy
import Derived.Laws.StructEq
set_option linter.unusedVariables false
set_option linter.unusedSimpArgs false
namespace Go.Proofs.Ytndcloohcfhejaa
open Go.RowKit
theorem infoS : (Try.prog.info? 9).map (fun i => (i.zero, i.size, i.bytes)) = some (some (.string ⟨#[]⟩), 1, 16) := by kernel_rfl
def strV (l : List UInt8) : Value := .string ⟨l.toArray⟩
def Names (B : Nat) (w' : World) (v : Value) (out : List (List UInt8)) : Prop := w'.ownsRow B 9 1 v out.length (out.map strV)
theorem names_push {B : Nat} {w' : World} {v' : Value} {out : List (List UInt8)} {cur : List UInt8} (h : w'.ownsRow B 9 1 v' (out.length + 1) (out.map strV ++ [strV cur])) : Names B w' v' (out ++ [cur]) := by
 unfold Names
 simpa using h
theorem names_shape {B : Nat} {w' : World} {v : Value} {out : List (List UInt8)} (h : Names B w' v out) : ∃ A c, v = .slice A out.length c := by
 rcases h.2 with ⟨rfl, hx⟩ | ⟨g, cap, cur, rfl, _⟩
 ·have : out = [] := by simpa using hx
  subst this
  exact ⟨_, _, rfl⟩
 ·exact ⟨_, _, rfl⟩
theorem own_ge {B : Nat} {w' : World} {v : Value} {out : List (List UInt8)} (h : Names B w' v out) : ∀ k, v.ownBlock = some k → B ≤ k := by
 intro k hk
 rcases h.2 with ⟨rfl, hx⟩ | ⟨g, cap, cur, rfl, hg, _⟩
 ·simp [Value.ownBlock] at hk
 ·simp [Value.ownBlock] at hk
  omega
def Parsed (s : ByteArray) (w : World) (e : Ending) (w' : World) : Prop :=
 ∃ (v : Value) (out : List (List UInt8)) (n : Nat), e = .returned (.tuple #[v, .int .i64 (n : Int)]) ∧ parseL s.data.toList = (out, n) ∧ Names w.heap.size w' v out ∧ (n ≠ 0 → v = .slice none 0 0) ∧ Below w.heap.size w w'
theorem parse_64 {l : List UInt8} (h : 64 < l.length) : parseL l = ([], 1101) := if_pos h
theorem parse_form {l : List UInt8} (h : ¬ 64 < l.length) (k : ¬ l.head? = some 47) : parseL l = ([], 1100) := by unfold parseL; rw [if_neg h, if_pos k]
theorem parse_root {l : List UInt8} (h : ¬ 64 < l.length) (k : l.head? = some 47) (e : l.length = 1) : parseL l = ([], 0) := by unfold parseL; rw [if_neg h, if_neg (fun c => c k), if_pos e]
theorem no_head_ne {s : ByteArray} (hp : 0 < s.size) (k : ¬ s.data.toList.head? = some 47) : ((s[0].toNat : Int) != 47) = true := by
 rw [bne_iff_ne]
 intro e
 exact k ((path_head s).2 ⟨hp, UInt8.toNat_inj.1 (by show s[0].toNat = 47; omega)⟩)
def NmAt (w : World) (A : Option Addr) (n : Nat) (ts : List (List UInt8)) : Prop :=
 ts.length = n ∧ (0 < n → ∃ g off, A = some ⟨g, off, none⟩ ∧ g < w.heap.size ∧ ∀ j, j < n → w.cell? ⟨g, off + j, none⟩ = some (strV (ts.getD j [])))
theorem NmAt.below {w w' : World} {A : Option Addr} {n : Nat} {ts : List (List UInt8)} (h : NmAt w A n ts) (hb : Below w.heap.size w w') : NmAt w' A n ts :=
 ⟨h.1, fun hn => by
  obtain ⟨g, off, hA, hg, hc⟩ := h.2 hn
  exact ⟨g, off, hA, Nat.lt_of_lt_of_le hg hb.size, fun j hj => (hb.cell (p := ⟨g, off + j, none⟩) hg).trans (hc j hj)⟩⟩
theorem NmAt.init {w : World} {A : Option Addr} {n : Nat} {ts : List (List UInt8)} (h : NmAt w A (n + 1) ts) : NmAt w A n ts.dropLast :=
 ⟨by rw [List.length_dropLast, h.1]; omega, fun hn => by
  obtain ⟨g, off, hA, hg, hc⟩ := h.2 (by omega)
  refine ⟨g, off, hA, hg, fun j hj => ?_⟩
  rw [hc j (by omega)]
  congr 2
  have hl := h.1
  rw [List.getD_eq_getElem?_getD, List.getD_eq_getElem?_getD, List.getElem?_dropLast, if_pos (by omega)]⟩
theorem NmAt.of_names {B : Nat} {w : World} {v : Value} {out : List (List UInt8)} (h : Names B w v out) : ∃ A c, v = .slice A out.length c ∧ out.length ≤ c ∧ NmAt w A out.length out := by
 obtain ⟨A, c, hv, hc, hn, hg⟩ := row_any h (by decide)
 refine ⟨A, c, hv, hc, rfl, fun h0 => ?_⟩
 obtain ⟨g, hA, hlt, hm, hcell⟩ := hg h0
 refine ⟨g, 0, hA, hlt, fun j hj => ?_⟩
 rw [Nat.zero_add, hcell j (by omega)]
 simp [hj]
def Whole (is : List Ino) : Prop := 0 ≤ atV is 1 ∧ ∀ x ∈ is, ∀ e ∈ x.ents, 0 ≤ atV is e.num
theorem entG_mem : ∀ (es : List En) (n : ByteArray), entG es n = 0 ∨ ∃ e ∈ es, e.num = entG es n
 | [], _ => .inl rfl
 | e :: es, n => by
  unfold entG
  by_cases h : e.name = n
  ·rw [if_pos h]; exact .inr ⟨e, by simp, rfl⟩
  ·rw [if_neg h]
   rcases entG_mem es n with h1 | ⟨y, hy, h1⟩
   ·exact .inl h1
   ·exact .inr ⟨y, by simp [hy], h1⟩
theorem atV_some {is : List Ino} {t : Int} (h : 0 ≤ atV is t) : ∃ (k : Nat) (x : Ino), atV is t = (k : Int) ∧ is[k]? = some x ∧ x.num = t := by
 rcases atV_cases is t with ⟨h1, _⟩ | ⟨k, x, h1, h2, h3, _⟩
 ·omega
 ·exact ⟨k, x, h1, h2, h3⟩
theorem entV_whole {is : List Ino} (hw : Whole is) {dir : Int} {name : ByteArray} (h : entV is dir name ≠ 0) : 0 ≤ atV is (entV is dir name) := by
 unfold entV at h ⊢
 cases hx : inoAt is (atV is dir) with
 | none => rw [hx] at h; exact absurd rfl h
 | some x =>
  rw [hx] at h
  simp only at h ⊢
  obtain ⟨j, _, hj⟩ := inoAt_some hx
  rcases entG_mem x.ents name with h1 | ⟨e, he, h1⟩
  ·exact absurd h1 h
  ·rw [← h1]
   exact hw.2 x (List.mem_of_getElem? hj) e he
theorem walkG_some {is : List Ino} (hw : Whole is) : ∀ (ns : List (List UInt8)) (t : Int), 0 ≤ atV is t → (walkG is ns t).2 = 0 → 0 ≤ atV is (walkG is ns t).1
 | [], t, ht, _ => ht
 | n :: ns, t, ht, hc => by
  obtain ⟨k, x, hk, hx, _⟩ := atV_some ht
  unfold walkG at hc ⊢
  rw [hk, inoAt_nat, hx] at hc ⊢
  simp only at hc ⊢
  by_cases hd : x.dir = false
  ·rw [if_pos hd] at hc; cases hc
  ·rw [if_neg hd] at hc ⊢
   by_cases he : entV is t (txt n) = 0
   ·rw [if_pos he] at hc; cases hc
   ·rw [if_neg he] at hc ⊢
    exact walkG_some hw ns _ (entV_whole hw he) hc
set_option maxHeartbeats 400000 in
theorem hash_any (s : ByteArray) (w : World) (hs : s.size ≤ maxLen) :
  Calls Try.prog 93 #[.string s] w fun e w' => e = .returned (.int .i64 ((hashL s.data.toList : Nat) : Int)) ∧ Below w.heap.size w w' := by
 unfold maxLen at hs
 go_enter Try.func93, Try.ntmps93
 go_wp2
 go_loopw [3] (fun n w' => ∃ (pos acc : Nat), w' = w.iter s pos ∧ n = .int .u32 acc ∧ acc < 4294967296 ∧ hashFrom (s.data.toList.drop pos) acc = hashL s.data.toList) (fun _ w' => s.size - w'.iterPos w.heap.size)
 case atStart => exact ⟨0, 7, rfl, rfl, by omega, by simp [hashL]⟩
 case round =>
  obtain ⟨pos, acc, rfl, rfl, hacc, hc⟩ := hrel
  by_cases hp : pos < s.size
  ·have hd := decode_list s pos
   have hw := decodeL_width (s.data.toList.drop pos)
   have hle := decodeL_le (s.data.toList.drop pos)
   have hcc := hashFrom_cons _ acc (drop_ne hp)
   rw [hcc, ← hd] at hc
   rw [← hd] at hw hle
   have hnx : ∀ ty, (Instr.next (.pointer (some ⟨w.heap.size, 0, none⟩)) true ty).run Try.prog (w.iter s pos) = _ := fun ty => run_next_any w s pos ty hp
   have Hc := Lib.hid hc
   clear hd hcc hc
   go_wp2
   go_roundw
   case rel => exact ⟨pos + (Utf8.decode s pos).2, hashStep acc (Utf8.decode s pos), rfl, valv_int (by unfold hashStep; omega), hashStep_lt _ _, by have := Hc.out; rw [List.drop_drop] at this; exact this⟩
   case measure => simp; omega
  ·have hnx : ∀ ty, (Instr.next (.pointer (some ⟨w.heap.size, 0, none⟩)) true ty).run Try.prog (w.iter s pos) = _ := fun ty => run_next_end w s pos ty hp
   rw [drop_all hp] at hc
   have Hc := Lib.hid hc
   clear hc
   go_wp2
   go_ret
   exact ⟨retv_int (by have := Hc.out; rw [hashFrom_nil] at this; omega), below_iter _ _ _⟩
theorem box_ino (w : World) (num : Int) (dir : Bool) (E : Option Addr) (m d : Nat) (data : ByteArray) : ∃ W, w.alloc (.cells #[.int .i64 num, .bool dir, .slice E m d, .string data] 52) = W ∧ W.cell? ⟨w.heap.size, 0, .none⟩ = some (.int .i64 num) ∧ W.cell? ⟨w.heap.size, 1, .none⟩ = some (.bool dir) ∧ W.cell? ⟨w.heap.size, 2, .none⟩ = some (.slice E m d) ∧ W.cell? ⟨w.heap.size, 3, .none⟩ = some (.string data) ∧ Below w.heap.size w W ∧ w.heap.size < W.heap.size := by
 refine ⟨_, rfl, ?_, ?_, ?_, ?_, (Below.refl _ _).alloc (Nat.le_refl _) _, by simp⟩
 ·exact (World.cell?_alloc_mark w _ _ (0, 0) _).trans rfl
 ·exact (World.cell?_alloc_mark w _ _ (0, 0) _).trans rfl
 ·exact (World.cell?_alloc_mark w _ _ (0, 0) _).trans rfl
 ·exact (World.cell?_alloc_mark w _ _ (0, 0) _).trans rfl
theorem box_en (w : World) (name : ByteArray) (num : Int) : ∃ W, w.alloc (.cells #[.string name, .int .i64 num] 75) = W ∧ W.cell? ⟨w.heap.size, 0, .none⟩ = some (.string name) ∧ W.cell? ⟨w.heap.size, 1, .none⟩ = some (.int .i64 num) ∧ Below w.heap.size w W ∧ w.heap.size < W.heap.size := by
 refine ⟨_, rfl, ?_, ?_, (Below.refl _ _).alloc (Nat.le_refl _) _, by simp⟩
 ·exact (World.cell?_alloc_mark w _ _ (0, 0) _).trans rfl
 ·exact (World.cell?_alloc_mark w _ _ (0, 0) _).trans rfl
def prevN (es : List En) (k : Nat) : Option ByteArray := if k = 0 then none else (es[k - 1]?).map (·.name)
theorem bktB_lt (s : ByteArray) : bktB s < 8 := Nat.mod_lt _ (by omega)
deriving instance DecidableEq for En
deriving instance DecidableEq for Ino
deriving instance DecidableEq for Ds
deriving instance DecidableEq for St
def RiseI (is : List Ino) : Prop := ∀ (i j : Nat) (x y : Ino), i < j → is[i]? = some x → is[j]? = some y → x.num < y.num
structure PtrAt (w : World) (p : Nat) (s : St) : Prop where
 at_ : ∃ A n c E m d D k e, w.heap[p]? = some (.cells #[.slice A n c, .slice E m d, .slice D k e] 27 (0, 0)) ∧ InosAt none w A n s.inos ∧ DescsAt none w E m s.opn ∧ IntsAt none w D k s.made ∧ SlOk A n c ∧ SlOk E m d ∧ SlOk D k e
 sized : Sized s
theorem PtrAt.below {w w' : World} {p : Nat} {s : St} (h : PtrAt w p s) (hb : Below w.heap.size w w') : PtrAt w' p s := by
 obtain ⟨⟨A, n, c, E, m, d, D, k, e, h1, h2, h3, h4, h5, h6, h7⟩, hz⟩ := h
 exact ⟨⟨A, n, c, E, m, d, D, k, e, (hb.block p (Array.getElem?_eq_some_iff.1 h1).1).trans h1, h2.below hb, h3.below hb, h4.below hb, h5, h6, h7⟩, hz⟩
theorem atV_none {is : List Ino} {num : Int} (h : ∀ x ∈ is, x.num ≠ num) : atV is num = -1 := by
 rcases atV_cases is num with ⟨h1, _⟩ | ⟨k, x, _, h2, h3, _⟩
 ·exact h1
 ·exact absurd h3 (h x (List.mem_of_getElem? h2))
theorem atV_of_rise {is : List Ino} {num : Int} {j : Nat} {x : Ino} (hr : RiseI is) (hx : is[j]? = some x) (hn : x.num = num) : atV is num = (j : Int) := by
 rcases atV_cases is num with ⟨h1, h2⟩ | ⟨k, y, h1, h2, h3, _⟩
 ·exact absurd hn (h2 x (List.mem_of_getElem? hx))
 ·rw [h1]
  by_cases e1 : k < j
  ·have := hr k j y x e1 h2 hx; omega
  ·by_cases e2 : j < k
   ·have := hr j k x y e2 hx h2; omega
   ·congr 1; omega
def cmpI (a b : Int) : Int := if a < b then -1 else if b < a then 1 else 0
theorem cmp_any (x1 x2 x3 x4 : Value) (num a : Int) (w : World) (h1 : x1 = .int .i64 a) :
  Calls Try.prog 79 #[.agg #[x1, x2, x3, x4], .int .i64 num] w fun e w' => e = .returned (.int .i64 (cmpI a num)) ∧ Below w.heap.size w w' := by
 subst h1
 go_enter Try.func79, Try.ntmps79
 unfold cmpI
 by_cases h1 : a < num
 ·rw [if_pos h1]
  have q1 : decide (a < num) = true := decide_eq_true h1
  go_wp2_with fail
  go_ret
  exact ⟨rfl, (Below.refl _ _).alloc (Nat.le_refl _) _⟩
 ·have q1 : decide (a < num) = false := decide_eq_false h1
  rw [if_neg h1]
  by_cases h2 : num < a
  ·rw [if_pos h2]
   have q2 : decide (num < a) = true := decide_eq_true h2
   go_wp2_with fail
   go_ret
   exact ⟨rfl, (Below.refl _ _).alloc (Nat.le_refl _) _⟩
  ·rw [if_neg h2]
   have q2 : decide (num < a) = false := decide_eq_false h2
   go_wp2_with fail
   go_ret
   exact ⟨rfl, (Below.refl _ _).alloc (Nat.le_refl _) _⟩
set_option maxRecDepth 100000 in
set_option maxHeartbeats 4000000 in
theorem bsearch_any (is : List Ino) (A : Option Addr) (n c : Nat) (num : Int) (w : World) (hI : InosAt none w A n is) (hn : n ≤ 1099511627776) (hr : RiseI is) :
  Calls Try.prog 62 #[.slice A n c, .int .i64 num, .func (.func 79) #[] #[]] w fun e w' => ∃ i b, e = .returned (.tuple #[.int .i64 (i : Nat), .bool b]) ∧ Below w.heap.size w w' ∧ atV is num = if b then (i : Int) else -1 := by
 have HI := Lib.hid hI
 go_enter Try.func62, Try.ntmps62
 clear hI
 go_wp2_with fail
 go_loopw [9, 10] (fun iv jv wr => ∃ i j : Nat, iv = .int .i64 i ∧ jv = .int .i64 j ∧ i ≤ j ∧ j ≤ n ∧ (∀ (k : Nat) (x : Ino), k < i → is[k]? = some x → x.num < num) ∧ (∀ (k : Nat) (x : Ino), j ≤ k → is[k]? = some x → num ≤ x.num) ∧ Below w.heap.size w wr) (fun iv jv _ => (intOf jv).toNat - (intOf iv).toNat)
 case atStart => exact ⟨0, n, rfl, rfl, by omega, by omega, fun k x hk => by omega, fun k x hk hx => by have := (List.getElem?_eq_some_iff.1 hx).1; have := HI.out.1; omega, Below.refl _ _⟩
 case round =>
  obtain ⟨i, j, rfl, rfl, hij, hjn, hlo, hhi, hbel⟩ := hrel
  have HB := Lib.hid hbel
  have HIr := Lib.hid (HI.out.below hbel)
  have HLO := Lib.hid hlo
  have HHI := Lib.hid hhi
  clear hbel hlo hhi
  by_cases hlt : i < j
  ·obtain ⟨h, hh⟩ : ∃ h, (i + j) / 2 = h := ⟨_, rfl⟩
   have hh1 : i ≤ h := by omega
   have hh2 : h < j := by omega
   obtain ⟨g, off, x, E, m, d, rfl, hg, hx, hd, hmem, c0, c1, c2, c3, hok, hE⟩ := HIr.out.get h (by omega)
   have HHH := Lib.hid hh
   have hx2 : is[h]? = some x := hx
   have HX := Lib.hid hx2
   have HRR := Lib.hid hr
   have HHH2 : Hid (h < j) := Lib.hid hh2
   clear hx2
   go_wp2_with fail
   refine (cmp_any _ _ _ _ num x.num _ rfl).mono ?_
   rintro e5 w5 ⟨rfl, hb5⟩
   have e2 : ((i : Int) + (j : Int)) / 2 = (h : Int) := by have := HHH.out; omega
   rw [e2]
   have HB5 := Lib.hid (HB.out.trans (hb5.mono HB.out.size))
   clear hb5 c0 c1 c2 c3
   by_cases hc : x.num < num
   ·have q1 : cmpI x.num num = -1 := by unfold cmpI; rw [if_pos hc]
    rw [q1]
    clear q1
    go_wp2_with fail
    go_roundw
    case rel => exact ⟨h + 1, j, by go_num, rfl, by omega, hjn, fun k y hk hy => by
     by_cases e : k = h
     ·subst e
      have := HX.out
      rw [hy] at this
      cases this
      exact hc
     ·have := HRR.out k h y x (by omega) hy HX.out
      omega, HHI.out, HB5.out⟩
    case measure => simp [intOf]; omega
   ·have q1 : decide (cmpI x.num num < 0) = false := by unfold cmpI; rw [if_neg hc]; split <;> rfl
    go_wp2_with fail
    go_roundw
    case rel => exact ⟨i, h, rfl, rfl, hh1, by omega, HLO.out, fun k y hk hy => by
     by_cases e : k = h
     ·subst e
      have := HX.out
      rw [hy] at this
      cases this
      omega
     ·have := HRR.out h k x y (by omega) HX.out hy
      omega, HB5.out⟩
    case measure => simp [intOf]; omega
  ·have eij : j = i := by omega
   subst eij
   by_cases hin : j < n
   ·obtain ⟨g, off, x, E, m, d, rfl, hg, hx, hd, hmem, c0, c1, c2, c3, hok, hE⟩ := HIr.out.get j hin
    have HX := Lib.hid hx
    have HRR := Lib.hid hr
    go_wp2_with fail
    refine (cmp_any _ _ _ _ num x.num _ rfl).mono ?_
    rintro e5 w5 ⟨rfl, hb5⟩
    have HB5 := Lib.hid (HB.out.trans (hb5.mono HB.out.size))
    clear hb5 c0 c1 c2 c3
    by_cases hc : x.num = num
    ·have q1 : cmpI x.num num = 0 := by unfold cmpI; rw [if_neg (by omega), if_neg (by omega)]
     rw [q1]
     clear q1
     go_wp2_with fail
     go_ret2
     refine ⟨j, true, rfl, HB5.out, ?_⟩
     rw [if_pos rfl]
     exact atV_of_rise HRR.out HX.out hc
    ·have q1 : (cmpI x.num num == 0) = false := by unfold cmpI; rw [beq_eq_false_iff_ne]; split; omega; split <;> omega
     go_wp2_with fail
     go_ret2
     refine ⟨j, false, rfl, HB5.out, ?_⟩
     rw [if_neg (by decide)]
     refine atV_none fun y hy => ?_
     obtain ⟨k, hk⟩ := List.getElem?_of_mem hy
     by_cases e1 : k < j
     ·have := HLO.out k y e1 hk; omega
     ·by_cases e2 : k = j
      ·subst e2
       have := HX.out
       rw [hk] at this
       cases this
       exact hc
      ·have h1 := HRR.out j k x y (by omega) HX.out hk
       have h2 := HHI.out j x (by omega) HX.out
       omega
   ·have q1 : decide ((j : Int) < (n : Int)) = false := by rw [decide_eq_false_iff_not]; omega
    clear hlt
    go_wp2_with fail
    go_ret2
    refine ⟨j, false, rfl, HB.out, ?_⟩
    rw [if_neg (by decide)]
    refine atV_none fun y hy => ?_
    obtain ⟨k, hk⟩ := List.getElem?_of_mem hy
    have h1 := (List.getElem?_eq_some_iff.1 hk).1
    have h2 := HIr.out.1
    have := HLO.out k y (by omega) hk
    omega
theorem PtrAt.val {w : World} {p : Nat} {s : St} (h : PtrAt w p s) : ∃ A n c E m d D k e, p < w.heap.size ∧ w.cell? ⟨p, 0, none⟩ = some (.slice A n c) ∧ w.cell? ⟨p, 1, none⟩ = some (.slice E m d) ∧ w.cell? ⟨p, 2, none⟩ = some (.slice D k e) ∧
  InosAt none w A n s.inos ∧ DescsAt none w E m s.opn ∧ IntsAt none w D k s.made ∧ n ≤ 1099511627776 ∧ m ≤ 1099511627776 ∧ k ≤ 1099511627776 := by
 obtain ⟨⟨A, n, c, E, m, d, D, k, e, h1, h2, h3, h4, h5, h6, h7⟩, hz⟩ := h
 have hbig := hz.big
 have l1 := h2.1
 have l2 := h3.1
 have l3 := h4.1
 refine ⟨A, n, c, E, m, d, D, k, e, (Array.getElem?_eq_some_iff.1 h1).1, ?_, ?_, ?_, h2, h3, h4, by omega, by omega, by omega⟩ <;> (rw [cell_of_row w p _ _ _ (0, 0) h1]; rfl)
set_option maxRecDepth 100000 in
set_option maxHeartbeats 4000000 in
theorem mfind_any (p : Nat) (s : St) (num : Int) (w : World) (h : PtrAt w p s) (hr : RiseI s.inos) :
  Calls Try.prog 51 #[.pointer (some ⟨p, 0, .none⟩), .int .i64 num] w fun e w' => e = .returned (.int .i64 (atV s.inos num)) ∧ Below w.heap.size w w' := by
 obtain ⟨A, n, c, E, m, d, D, k, e, hp, c0, c1, c2, hI, hD, hM, hn, _, _⟩ := h.val
 obtain ⟨R, hR⟩ : ∃ R, atV s.inos num = R := ⟨_, rfl⟩
 rw [hR]
 go_enter Try.func51, Try.ntmps51
 go_wp2_with fail
 refine (bsearch_any s.inos A n c num w hI hn hr).mono ?_
 rintro e1 w1 ⟨i, b, rfl, hb, hat⟩
 rw [hR] at hat
 cases b
 ·rw [if_neg (by decide)] at hat
  subst hat
  go_wp2_with fail
  go_ret
  exact ⟨rfl, hb⟩
 ·rw [if_pos rfl] at hat
  subst hat
  go_wp2_with fail
  go_ret
  exact ⟨rfl, hb⟩
theorem made1_any (x : Int) (w : World) : Calls Try.prog 53 #[.int .i64 x] w fun e w' => e = .returned (.bool (decide (x < 0) || decide (32 < x))) ∧ w = w' := by
 go_enter Try.func53, Try.ntmps53
 by_cases h1 : x < 0
 ·have q1 : decide (x < 0) = true := decide_eq_true h1
  go_wp2_with fail
  go_ret
  exact ⟨by rw [q1]; rfl, rfl⟩
 ·have q1 : decide (x < 0) = false := decide_eq_false h1
  go_wp2_with fail
  go_ret
  exact ⟨by first | rfl | (rw [q1]; rfl), rfl⟩
set_option maxRecDepth 100000 in
set_option maxHeartbeats 4000000 in
theorem indexmade_any (xs : List Int) (A : Option Addr) (n c : Nat) (w : World) (hI : IntsAt none w A n xs) (hn : n ≤ 1099511627776) :
  Calls Try.prog 80 #[.slice A n c, .func (.func 53) #[] #[]] w fun e w' => ∃ r : Int, e = .returned (.int .i64 r) ∧ w = w' ∧ (madeG xs = decide (r < 0)) := by
 obtain ⟨R, hR⟩ : ∃ R, madeG xs = R := ⟨_, rfl⟩
 rw [hR]
 have HI := Lib.hid hI
 have HR := Lib.hid hR
 clear hI hR
 go_enter Try.func80, Try.ntmps80
 go_wp2_with fail
 go_loop [8] (fun j => ∃ q : Nat, j = .int .i64 q ∧ q ≤ n ∧ madeG (xs.drop q) = R) (fun j => n - (intOf j).toNat)
 case atStart => exact ⟨0, rfl, by omega, HR.out⟩
 case round =>
  obtain ⟨q, rfl, hq, hc⟩ := hrel
  by_cases hlt : q < n
  ·obtain ⟨g, off, x, rfl, hg, hx, hd, hmem, c0⟩ := HI.out.get q hlt
   rw [hd, madeG] at hc
   have HC := Lib.hid hc
   have k0 : (0 : Int) ≤ (q : Int) := by omega
   clear hc hd hmem hx
   go_wp2_with fail
   refine (made1_any x _).mono ?_
   rintro e5 w5 ⟨rfl, rfl⟩
   obtain ⟨bb, hbb⟩ : ∃ bb, (decide (x < 0) || decide (32 < x)) = bb := ⟨_, rfl⟩
   rw [hbb]
   have hc := HC.out
   cases bb
   ·have hnx : ¬(x < 0 ∨ 32 < x) := by
     rw [Bool.or_eq_false_iff, decide_eq_false_iff_not, decide_eq_false_iff_not] at hbb
     omega
    rw [if_neg hnx] at hc
    have HC2 := Lib.hid hc
    clear hc hbb
    go_wp2_with fail
    go_round
    case rel => exact ⟨q + 1, by go_num, by omega, HC2.out⟩
    case measure => simp [intOf]; omega
   ·have hnx : x < 0 ∨ 32 < x := by
     rw [Bool.or_eq_true, decide_eq_true_eq, decide_eq_true_eq] at hbb
     exact hbb
    rw [if_pos hnx] at hc
    have HC2 := Lib.hid hc
    clear hc hbb
    go_wp2_with fail
    go_ret
    refine ⟨(q : Int), rfl, rfl, ?_⟩
    rw [← HC2.out, decide_eq_false (show ¬ (q : Int) < 0 by omega)]
  ·have hnil : xs.drop q = [] := List.drop_eq_nil_of_le (by have := HI.out.1; omega)
   rw [hnil, madeG] at hc
   have HC := Lib.hid hc
   clear hc hnil
   go_wp2_with fail
   go_ret
   exact ⟨-1, rfl, rfl, HC.out.symm⟩
theorem containsmade_any (xs : List Int) (A : Option Addr) (n c : Nat) (w : World) (hI : IntsAt none w A n xs) (hn : n ≤ 1099511627776) :
  Calls Try.prog 52 #[.slice A n c, .func (.func 53) #[] #[]] w fun e w' => e = .returned (.bool (!madeG xs)) ∧ w = w' := by
 go_enter Try.func52, Try.ntmps52
 go_wp2_with fail
 refine (indexmade_any xs A n c w hI hn).mono ?_
 rintro e5 w5 ⟨r, rfl, rfl, hr⟩
 by_cases h0 : 0 ≤ r
 ·have q0 : decide ((0 : Int) ≤ r) = true := decide_eq_true h0
  go_wp2_with fail
  go_ret
  exact ⟨by rw [hr, decide_eq_false (by omega)]; rfl, rfl⟩
 ·have q0 : decide ((0 : Int) ≤ r) = false := decide_eq_false h0
  go_wp2_with fail
  go_ret
  exact ⟨by rw [hr, decide_eq_true (by omega)]; rfl, rfl⟩
def mMadeV (s : St) : Bool := decide (1 ≤ s.made.length) && decide (s.made.length ≤ 8) && madeG s.made
set_option maxRecDepth 100000 in
set_option maxHeartbeats 4000000 in
theorem maymade_any (p : Nat) (s : St) (w : World) (h : PtrAt w p s) :
  Calls Try.prog 28 #[.pointer (some ⟨p, 0, .none⟩)] w fun e w' => e = .returned (.bool (mMadeV s)) ∧ w = w' := by
 obtain ⟨A, n, c, E, m, d, D, k, e, hp, c0, c1, c2, hI, hD, hM, hn, _, hk⟩ := h.val
 have hkl := hM.1
 go_enter Try.func28, Try.ntmps28
 unfold mMadeV
 by_cases h1 : 1 ≤ k
 ·by_cases h8 : k ≤ 8
  ·have q1 : decide ((k : Int) < 1) = false := by rw [decide_eq_false_iff_not]; omega
   have q8 : decide ((8 : Int) < (k : Int)) = false := by rw [decide_eq_false_iff_not]; omega
   go_wp2_with fail
   refine (containsmade_any s.made D k e _ hM hk).mono ?_
   rintro e5 w5 ⟨rfl, rfl⟩
   go_wp2_with fail
   go_ret
   exact ⟨by rw [decide_eq_true (show 1 ≤ s.made.length by omega), decide_eq_true (show s.made.length ≤ 8 by omega)]; simp, rfl⟩
  ·have q1 : decide ((k : Int) < 1) = false := by rw [decide_eq_false_iff_not]; omega
   have q8 : decide ((8 : Int) < (k : Int)) = true := by rw [decide_eq_true_eq]; omega
   go_wp2_with fail
   go_ret
   exact ⟨by rw [decide_eq_false (show ¬ s.made.length ≤ 8 by omega)]; simp, rfl⟩
 ·have q1 : decide ((k : Int) < 1) = true := by rw [decide_eq_true_eq]; omega
  go_wp2_with fail
  go_ret
  exact ⟨by rw [decide_eq_false (show ¬ 1 ≤ s.made.length by omega)]; simp, rfl⟩
theorem core_any (num : Int) (h1 : -9223372036854775808 ≤ num) (h2 : num ≤ 9223372036854775807) (w : World) :
  Calls Try.prog 81 #[.int .i64 num] w fun e w' => e = .returned (.int .i64 (if num < 2 then -1 else (num - 2) % 8)) ∧ w = w' := by
 go_enter Try.func81, Try.ntmps81
 by_cases h : num < 2
 ·have q : decide (num < 2) = true := decide_eq_true h
  rw [if_pos h]
  go_wp2_with fail
  go_ret
  exact ⟨rfl, rfl⟩
 ·have q : decide (num < 2) = false := decide_eq_false h
  rw [if_neg h]
  have e1 : (num - 2).tmod 8 = (num - 2) % 8 := Int.tmod_eq_emod_of_nonneg (by omega)
  have w1 : IntKind.i64.wrap (num - 2) = num - 2 := by rw [IntKind.wrap_i64]; omega
  have w2 : IntKind.i64.wrap ((num - 2) % 8) = (num - 2) % 8 := by rw [IntKind.wrap_i64]; omega
  go_wp2_with fail
  go_ret
  exact ⟨rfl, rfl⟩
theorem made_any (num : Int) (h1 : 2 ≤ num) (h2 : num ≤ 9223372036854775807) (w : World) :
  Calls Try.prog 82 #[.int .i64 num] w fun e w' => e = .returned (.int .i64 ((num - 2) / 8)) ∧ w = w' := by
 go_enter Try.func82, Try.ntmps82
 have e1 : (num - 2).tdiv 8 = (num - 2) / 8 := Int.tdiv_eq_ediv_of_nonneg (by omega)
 have w1 : IntKind.i64.wrap (num - 2) = num - 2 := by rw [IntKind.wrap_i64]; omega
 have w2 : IntKind.i64.wrap ((num - 2) / 8) = (num - 2) / 8 := by rw [IntKind.wrap_i64]; omega
 go_wp2_with fail
 go_ret
 exact ⟨rfl, rfl⟩
end Go.Proofs.Ytndcloohcfhejaa
