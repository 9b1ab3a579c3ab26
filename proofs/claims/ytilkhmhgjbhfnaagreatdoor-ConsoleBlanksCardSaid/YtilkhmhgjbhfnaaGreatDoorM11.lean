/- Parts of the proof, side by side: MoWalk, MoRw, MoOwn. -/
import Derived.Test.YtilkhmhgjbhfnaaGreatDoorM05
import Derived.Test.YtilkhmhgjbhfnaaGreatDoorM10
import Derived.Test.YtilkhmhgjbhfnaaGreatDoorM02
import Derived.Test.YtilkhmhgjbhfnaaGreatDoorM03
import Derived.Shelf.Spec.SlicesInsert
import Derived.Lib.AppendZerosOnto
set_option linter.unusedVariables false
set_option linter.unusedSimpArgs false
namespace Go.Proofs.YtilkhmhgjbhfnaaGreatDoor
open Go.RowKit
def placeG (is : List Ino) (r : Int × Int) : Int := if r.2 = 0 then atV is r.1 else 0
set_option maxRecDepth 100000 in
set_option maxHeartbeats 8000000 in
theorem mwalk_any (p : Nat) (s : St) (T : Option Addr) (m3 d3 : Nat) (names : List (List UInt8)) (w : World) (h : PtrAt w p s) (hg : Good s) (hnm : NmAt w T m3 names) (hm3 : m3 ≤ 65536) :
  Calls Tryz.prog 185 #[.pointer (some ⟨p, 0, .none⟩), .slice T m3 d3] w fun e w' => e = .returned (.tuple #[.int .i64 (placeG s.inos (walkG s.inos names 1)), .int .i64 (walkG s.inos names 1).2]) ∧ Below w.heap.size w w' ∧ ((walkG s.inos names 1).2 = 0 → ∃ (i : Nat) (x : Ino), placeG s.inos (walkG s.inos names 1) = (i : Int) ∧ s.inos[i]? = some x ∧ x.num = (walkG s.inos names 1).1) := by
 obtain ⟨A, n, c, E, m, d, D, k, e, hp, c0, _, _, hI, _, _, hn, _, _⟩ := h.val
 obtain ⟨R, hR⟩ : ∃ R, walkG s.inos names 1 = R := ⟨_, rfl⟩
 rw [hR]
 obtain ⟨r0, hr0, hr0n, hr0d⟩ := hg.root
 have HP := Lib.hid h
 have HI := Lib.hid hI
 have HNM := Lib.hid hnm
 have HR := Lib.hid hR
 have HG := Lib.hid hg
 have HC0 := Lib.hid c0
 clear hI hR hnm hg h c0
 go_enter Tryz.func185, Tryz.ntmps185
 go_wp2_with fail
 go_loopw [6, 13] (fun a j wr => ∃ (q i : Nat) (x : Ino), a = .int .i64 i ∧ j = .int .i64 q ∧ q ≤ m3 ∧ Below w.heap.size w wr ∧ s.inos[i]? = some x ∧ walkG s.inos (names.drop q) x.num = R) (fun _ j _ => m3 - (intOf j).toNat)
 case atStart => exact ⟨0, 0, r0, rfl, rfl, by omega, Below.refl _ _, hr0, by rw [hr0n]; exact HR.out⟩
 case round =>
  obtain ⟨q, i, x, rfl, rfl, hq, hbel, hx, hc⟩ := hrel
  have z0 := (hbel.cell (p := ⟨p, 0, .none⟩) hp).trans HC0.out
  have HB := Lib.hid hbel
  have hpr : p < wr.heap.size := Nat.lt_of_lt_of_le hp hbel.size
  have HPr := Lib.hid (HP.out.below hbel)
  have HIr := Lib.hid (HI.out.below hbel)
  have HNr := Lib.hid (HNM.out.below hbel)
  have HX := Lib.hid hx
  have hin : i < n := by have := (List.getElem?_eq_some_iff.1 hx).1; have := HI.out.1; omega
  have hat : atV s.inos x.num = (i : Int) := HG.out.idx hx
  have HAT0 := Lib.hid hat
  clear hbel hx
  by_cases hlt : q < m3
  ·have hql : q < names.length := by have := HNM.out.1; omega
   have hd := List.drop_eq_getElem_cons hql
   rw [hd, walkG, hat, inoAt_nat, HX.out] at hc
   simp only at hc
   rw [entV_at hat HX.out] at hc
   have HC := Lib.hid hc
   obtain ⟨g, off, x', E3, m2, d2, rfl, hg, hx', _, hmem, _, c1, c2, hmd, hE, _⟩ := HIr.out.get i hin
   have ex : x = x' := by have := HX.out; rw [hx'] at this; exact (Option.some.inj this).symm
   subst ex
   obtain ⟨gn, on, hA, hgn, hcn⟩ := HNr.out.2 (by omega)
   have n0 := hcn q hlt
   subst hA
   have q0 : (0 : Int) ≤ (q : Int) := by omega
   have q1 : (q : Int) < (m3 : Int) := by omega
   have i0' : (0 : Int) ≤ (i : Int) := by omega
   have i9 : (i : Int) < (n : Int) := by omega
   obtain ⟨NM, hNM⟩ : ∃ NM, names.getD q [] = NM := ⟨_, rfl⟩
   have hNM2 : names[q] = NM := by rw [← hNM, List.getD_eq_getElem?_getD, List.getElem?_eq_getElem hql]; rfl
   rw [hNM] at n0
   have HNMq := Lib.hid hNM2
   have HE := Lib.hid hE
   have hm2 : m2 ≤ 1099511627776 := by
    have h1 := hE.1
    have h2 := HG.out.ents_len hmem
    omega
   have HMEM := Lib.hid hmem
   have HRE := Lib.hid (HG.out.riseE hmem)
   clear hc hd hx' hE hmd hcn hNM hNM2 hmem hat
   cases hdir : x.dir
   ·have hr := HC.out
    rw [if_pos hdir] at hr
    have HR2 := Lib.hid hr
    rw [hdir] at c1
    clear hr hdir
    go_wp2_with fail
    go_ret2
    refine ⟨by rw [← HR2.out]; rfl, HB.out, fun h0 => ?_⟩
    rw [← HR2.out] at h0
    cases h0
   ·have hr := HC.out
    rw [if_neg (by rw [hdir]; simp), HNMq.out] at hr
    have HR2 := Lib.hid hr
    rw [hdir] at c1
    clear hr hdir
    have hstr : strV NM = .string (txt NM) := rfl
    rw [hstr] at n0
    clear hstr
    go_wp2_with fail
    refine (mentry_any x.ents E3 m2 d2 (txt NM) _ HE.out hm2 HRE.out).mono ?_
    rintro e5 w5 ⟨i5, b5, rfl, hb5, hpos⟩
    have HB5 := Lib.hid (Cv.next HB.out hb5)
    have y0 := (hb5.cell (p := ⟨p, 0, .none⟩) hpr).trans z0
    have HP5 := Lib.hid (HPr.out.below hb5)
    obtain ⟨g', off', x', E3', m2', d2', hgg, hg', hx', _, _, _, _, c2', _, hE5, _⟩ := (HIr.out.below hb5).get i hin
    have ex : x = x' := by have := HX.out; rw [hx'] at this; exact (Option.some.inj this).symm
    subst ex
    injection hgg with hgg
    injection hgg with hgg1 hgg2
    subst hgg1 hgg2
    have cc := (hb5.cell (p := ⟨g, off + i * 4 + 2, .none⟩) hg).trans c2
    rw [cc] at c2'
    injection c2' with c2'
    injection c2' with e1 e2 e3
    subst e1 e2 e3
    have HE5 := Lib.hid hE5
    rcases HG.out.entIs HMEM.out hpos with ⟨rfl, hz⟩ | ⟨rfl, hz, en, hen, henn, _⟩
    ·have hr := HR2.out
     rw [if_pos hz] at hr
     have HR3 := Lib.hid hr
     clear hr hz hpos c2 c1 z0 n0 hb5 hx' hE5
     go_wp2_with fail
     go_ret2
     refine ⟨by rw [← HR3.out]; rfl, HB5.out, fun h0 => ?_⟩
     rw [← HR3.out] at h0
     cases h0
    ·have hr := HR2.out
     rw [if_neg hz] at hr
     have hi5 : i5 < m2 := by have := (List.getElem?_eq_some_iff.1 hen).1; have := HE5.out.1; omega
     obtain ⟨ge, oe, en', hEE, hge, hen', _, hem, f0, f1⟩ := HE5.out.get i5 hi5
     have ex : en = en' := by rw [hen] at hen'; exact Option.some.inj hen'
     subst ex
     subst hEE
     have j0 : (0 : Int) ≤ (i5 : Int) := by omega
     have j1 : (i5 : Int) < (m2 : Int) := by omega
     obtain ⟨k6, x6, hat6, hx6, hxn6⟩ := atV_some (HG.out.entNum HMEM.out hem).2
     rw [← henn, ← hxn6] at hr
     have HR3 := Lib.hid hr
     have HX6 := Lib.hid hx6
     have HAT6 := Lib.hid hat6
     clear hr hz hpos c2 c1 z0 n0 hb5 hx' hE5 hen hen' henn hx6 hat6 hem hxn6
     go_wp2_with fail
     refine (mfind_any p s en.num _ HP5.out HG.out.riseI).mono ?_
     rintro e7 w7 ⟨rfl, hb7⟩
     rw [HAT6.out]
     have HB7 := Lib.hid (Cv.next HB5.out hb7)
     clear hb7 f0 f1 y0
     go_wp2_with fail
     go_roundw
     case rel => exact ⟨q + 1, k6, x6, rfl, by go_num, by omega, HB7.out, HX6.out, HR3.out⟩
     case measure => simp [intOf]; omega
  ·have hnil : names.drop q = [] := List.drop_eq_nil_of_le (by have := HNM.out.1; omega)
   rw [hnil, walkG] at hc
   have HC := Lib.hid hc
   have q9 : decide ((q : Int) < (m3 : Int)) = false := by rw [decide_eq_false_iff_not]; omega
   clear hc hnil
   go_wp2_with fail
   go_ret2
   refine ⟨by rw [← HC.out]; show _ = Ending.returned (.tuple #[.int .i64 (atV s.inos x.num), _]); rw [HAT0.out]; rfl, HB.out, fun _ => ⟨i, x, by rw [← HC.out]; exact HAT0.out, HX.out, by rw [← HC.out]⟩⟩
def layV (l : List Value) (o : Nat) (vs : List Value) : List Value := l.take o ++ vs ++ l.drop (o + vs.length)
theorem layV_len {l : List Value} {o : Nat} {vs : List Value} (h : o + vs.length ≤ l.length) : (layV l o vs).length = l.length := by
 unfold layV
 rw [List.length_append, List.length_append, List.length_take, List.length_drop]
 omega
theorem layV_take {l : List Value} {o : Nat} {vs : List Value} (h : o ≤ l.length) : (layV l o vs).take (o + vs.length) = l.take o ++ vs := by
 unfold layV
 rw [List.append_assoc, ← List.append_assoc, List.take_left']
 rw [List.length_append, List.length_take]
 omega
theorem ins_grow {l A x D : List Value} {p : Nat} (hA : l.take p = A) (hp : p + x.length + D.length ≤ l.length) : (layV (layV l p x) (p + x.length) D).take (p + x.length + D.length) = A ++ x ++ D := by
 have h1 := layV_len (l := l) (o := p) (vs := x) (by omega)
 rw [layV_take (by omega), layV_take (by omega), hA]
theorem ins_shift {l A x D : List Value} {p : Nat} (hA : l.take p = A) (hp : p + x.length + D.length ≤ l.length) : (layV (layV l (p + x.length) D) p x).take (p + x.length + D.length) = A ++ x ++ D := by
 have h1 := layV_len (l := l) (o := p + x.length) (vs := D) (by omega)
 obtain ⟨M, hM⟩ : ∃ M, layV l (p + x.length) D = M := ⟨_, rfl⟩
 have t1 : M.take p = A := by
  rw [← hM, layV, List.append_assoc, List.take_append_of_le_length (by rw [List.length_take]; omega), List.take_take, Nat.min_eq_left (by omega), hA]
 have t2 : (M.drop (p + x.length)).take D.length = D := by
  rw [← hM, layV, List.append_assoc, List.drop_left' (by rw [List.length_take]; omega), List.take_left]
 rw [hM] at h1 ⊢
 have hl : A.length = p := by rw [← hA, List.length_take]; omega
 rw [layV, t1, List.take_append, List.take_of_length_le (by rw [List.length_append]; omega), List.length_append, hl, Nat.add_sub_cancel_left, t2]
theorem layV_size {cur : Array Value} {o : Nat} {vs : List Value} (h : o + vs.length ≤ cur.size) : (layV cur.toList o vs).toArray.size = cur.size := by
 rw [List.size_toArray, layV_len (by rw [Array.length_toList]; exact h), Array.length_toList]
theorem layV_before {l : List Value} {o : Nat} {vs : List Value} (h : o ≤ l.length) : (layV l o vs).take o = l.take o := by
 unfold layV
 rw [List.append_assoc]
 exact List.take_left' (by rw [List.length_take]; omega)
theorem step_append_runI {P : Program} {ops : Array Oper} {o : Oper} {a : Act} {w : World} {K : Act → World → Prop} {Q : Exit → Act → World → Prop} {E : Prop}
  (hg : o.guard = none) (s x : Operand) (t : TypeId) (hop : o.op = Op.call { callee := Callee.builtin Builtin.append, args := #[s, x], argTypes := #[t, t] })
  (v u : Value) (hs : a.eval s = v) (hx : a.eval x = u) {v' : Value} {w' : World} (hr : (Builtin.append_ #[t, t] o.type #[v, u]).run P w = .ok v' w') (hK : K (a.put o.dst v') w') :
  if Region.wanted o (yielded ops a.tmps) = true then Oper.wp P o a w K Q else E := by
 have hw : Region.wanted o (yielded ops a.tmps) = true := by simp [Region.wanted, hg]
 rw [if_pos hw]
 unfold Oper.wp
 simp [execOp, hop, resolve, invoke, builtin, hs, hx, hr, Result.andThen]
 exact hK
theorem run_copy_rowK {P : Program} (w : World) (dT sT ty elem : TypeId) (k g o dLen dCap : Nat) (a : Addr) (sLen sCap : Nat) (cur : Array Value) (t : TypeId) (cs : List Value)
  (hu : P.underlying dT = some (.slice elem)) (hs : (P.info? elem).map (·.size) = some k)
  (hg : w.heap[g]? = some (.cells cur t (0, 0))) (hn : cs.length = Nat.min sLen dLen * k)
  (hsrc : ∀ j v, cs[j]? = some v → w.cell? (a.add j) = some v) (hfit : o + cs.length ≤ cur.size) (h1 : ∀ v ∈ cs, v.oneCell' = true) :
  (Builtin.copy_ #[dT, sT] ty #[.slice (some ⟨g, o, none⟩) dLen dCap, .slice (some a) sLen sCap]).run P w = .ok (goInt (Nat.min sLen dLen)) (w.setRow g (layV cur.toList o cs).toArray) := by
 have hl := run_firstCells_some (P := P) w k (Nat.min sLen dLen) a sLen sCap cs hn hsrc
 have hst := run_storeCells_at P g o t cs 0 cur w hg (by simpa using hfit) h1
 cases hq : P.info? elem with
 | none => simp [hq] at hs
 | some i =>
  have hi : i.size = k := by simpa [hq] using hs
  simp [Builtin.copy_, run_underlying hu, Builtin.lenOf, sizeOf, typeInfo, hq, hi, hl, hst, layV]
theorem zeroCells_one (z : Array Value) : (Builtin.zeroCells z 1).toList = z.toList := by
 apply List.ext_getElem
 ·simp [Builtin.zeroCells]
 ·intro i h1 h2
  have h3 : i < z.size := by simpa using h2
  simp [Builtin.zeroCells, Nat.mod_eq_of_lt h3, h3]
theorem run_clear_rowK {P : Program} (w : World) (t e ty : TypeId) (z : Value) (zs : List Value) (ht : P.underlying t = some (.slice e)) (hv : ∀ w, (zeroValue e).run P w = .ok z w) (hz : z.cells.toList = zs) (g o c : Nat) (cur : Array Value) (te : TypeId)
  (hg : w.heap[g]? = some (.cells cur te (0, 0))) (hfit : o + zs.length ≤ cur.size) (h1 : ∀ v ∈ zs, v.oneCell' = true) :
  (Builtin.clear_ #[t] ty #[.slice (some ⟨g, o, none⟩) 1 c]).run P w = .ok (.tuple #[]) (w.setRow g (layV cur.toList o zs).toArray) := by
 have hst := run_storeCells_at P g o te zs 0 cur w hg (by simpa using hfit) h1
 have hzc : (Builtin.zeroCells z.cells 1).toList = zs := by rw [zeroCells_one, hz]
 simp [Builtin.clear_, run_underlying ht, hv, hzc, hst, layV]
theorem row_cells {w : World} {g : Nat} {cur : Array Value} {t : TypeId} (hg : w.heap[g]? = some (.cells cur t (0, 0))) (o : Nat) (cs : List Value) (h : ∀ j v, cs[j]? = some v → cur[o + j]? = some v) : ∀ j v, cs[j]? = some v → w.cell? ((⟨g, o, none⟩ : Addr).add j) = some v := fun j v hj => by
 rw [Addr.add_lit, cell_of_row w g _ _ _ (0, 0) hg]
 exact h j v hj
theorem rw_setRow {w : World} {g : Nat} {cur : Array Value} : w.grownBy (w.setRow g cur) (some g) := ⟨rfl, rfl, rfl, by simp, fun k _ hk => setRow_other w g k _ (fun e => hk (by rw [e]))⟩
theorem rw_drew {w w' : World} {r : Option Nat} (h : w.drew.grownBy w' r) : w.grownBy w' r := ⟨h.os, h.tape, h.output, h.size, h.block⟩
theorem rw_none {a b : World} {r : Option Nat} (h : Below a.heap.size a b) : a.grownBy b r := ⟨h.os, h.tape, h.output, h.size, fun i hi _ => h.block i hi⟩
theorem rw_below {B : Nat} {a b : World} {r : Option Nat} (h : a.grownBy b r) (hB : B ≤ a.heap.size) (hr : ∀ k, r = some k → B ≤ k) : Below B a b := ⟨h.os, h.tape, h.output, h.size, fun k hk => h.block k (by omega) (fun e => by have := hr k e.symm; omega)⟩
def RowAt (B : Nat) (w : World) (e : TypeId) (k : Nat) (v : Value) (n : Nat) (xs : List Value) : Prop :=
 xs.length = n * k ∧ ((∃ A, v = .slice A 0 0 ∧ n = 0) ∨ ∃ g cap cur, v = .slice (some ⟨g, 0, none⟩) n cap ∧ 0 < cap ∧ B ≤ g ∧ w.heap[g]? = some (.cells cur e (0, 0)) ∧ n ≤ cap ∧ cap ≤ maxLen ∧ cur.size = cap * k ∧ cur.toList.take (n * k) = xs)
def rowBlk : Value → Option Nat
 | .slice (some a) _ c => if c = 0 then none else some a.block
 | _ => none
theorem RowAt.of_own {B : Nat} {w : World} {e : TypeId} {k : Nat} {v : Value} {n : Nat} {xs : List Value} (h : w.ownsRow B e k v n xs) : RowAt B w e k v n xs := by
 refine ⟨h.1, ?_⟩
 rcases h.2 with ⟨rfl, rfl⟩ | ⟨g, cap, cur, rfl, hb, hg, hnc, hcm, hcs, ht⟩
 ·exact .inl ⟨none, rfl, rfl⟩
 ·by_cases h0 : cap = 0
  ·subst h0
   have : n = 0 := by omega
   subst this
   exact .inl ⟨_, rfl, rfl⟩
  ·exact .inr ⟨g, cap, cur, rfl, by omega, hb, hg, hnc, hcm, hcs, ht⟩
theorem RowAt.blk {B : Nat} {w : World} {e : TypeId} {k : Nat} {v : Value} {n : Nat} {xs : List Value} (h : RowAt B w e k v n xs) : ∀ b, rowBlk v = some b → B ≤ b ∧ b < w.heap.size ∧ ∃ cur, w.heap[b]? = some (.cells cur e (0, 0)) := by
 intro b hb
 rcases h.2 with ⟨A, rfl, _⟩ | ⟨g, cap, cur, rfl, hc, hB, hg, _⟩
 ·cases A <;> simp [rowBlk] at hb
 ·have : g = b := by simpa [rowBlk, Nat.ne_of_gt hc] using hb
  subst this
  exact ⟨hB, (Array.getElem?_eq_some_iff.1 hg).1, cur, hg⟩
theorem RowAt.kept {B : Nat} {w w' : World} {e : TypeId} {k : Nat} {v : Value} {n : Nat} {xs : List Value} {r : Option Nat} (h : RowAt B w e k v n xs) (hg : w.grownBy w' r) (hr : ∀ b, rowBlk v = some b → r ≠ some b) : RowAt B w' e k v n xs := by
 refine ⟨h.1, ?_⟩
 rcases h.2 with h0 | ⟨g, cap, cur, rfl, hc, hB, hgg, rest⟩
 ·exact .inl h0
 ·refine .inr ⟨g, cap, cur, rfl, hc, hB, ?_, rest⟩
  rw [hg.block g (Array.getElem?_eq_some_iff.1 hgg).1 (fun e => hr g (by simp [rowBlk, Nat.ne_of_gt hc]) e.symm)]
  exact hgg
theorem RowAt.cellsOf {B : Nat} {w : World} {e : TypeId} {k : Nat} {g n cap : Nat} {xs : List Value} (h : RowAt B w e k (.slice (some ⟨g, 0, none⟩) n cap) n xs) : ∀ j u, xs[j]? = some u → w.cell? ((⟨g, 0, none⟩ : Addr).add j) = some u := by
 rcases h.2 with ⟨A, hA, h0⟩ | ⟨g', cap', cur, hv, hc, hB, hg, hn, hm, hs, ht⟩
 ·have : xs = [] := List.length_eq_zero_iff.1 (by rw [h.1, h0, Nat.zero_mul])
  rw [this]
  intro j u hj
  simp at hj
 ·injection hv with e1 e2 e3
  injection e1 with e1
  injection e1 with e1
  subst e1 e3
  refine row_cells hg 0 xs (fun j u hj => ?_)
  rw [← ht, List.getElem?_take] at hj
  split at hj
  ·rw [Nat.zero_add]; simpa using hj
  ·cases hj
theorem row_appendW {P : Program} {B : Nat} {w : World} {e : TypeId} {k : Nat} {v : Value} {n : Nat} {xs : List Value} (h : RowAt B w e k v n xs) (hB : B ≤ w.heap.size) (t : TypeId) (ht : P.underlying t = some (.slice e)) (i : TypeInfo) (hi : P.info? e = some i) (z : Value) (hz : i.zero = some z) (hk : i.size = k) (hzk : z.cells.size = k)
  (hbytes : (n + 1) * i.bytes ≤ 140737488355328) (hn : n + 1 ≤ 140737488355328) (a : Addr) (x : List Value) (hxl : x.length = k) (hx : ∀ j u, x[j]? = some u → w.cell? (a.add j) = some u) (h1x : ∀ u ∈ x, u.oneCell' = true) (c1 : Nat) :
  ∃ v' w', (∀ ty, (Builtin.append_ #[t, t] ty #[v, .slice (some a) 1 c1]).run P w = .ok v' w') ∧ RowAt B w' e k v' (n + 1) (xs ++ x) ∧ w.grownBy w' (rowBlk v) ∧ (rowBlk v' = rowBlk v ∨ ∃ b, rowBlk v' = some b ∧ w.heap.size ≤ b) := by
 have hlen : (xs ++ x).length = (n + 1) * k := by rw [List.length_append, h.1, hxl, Nat.add_mul, Nat.one_mul]
 have hmx : (140737488355328 : Nat) ≤ maxLen := by unfold maxLen; omega
 have grow : ∀ (base : Option Addr) (c : Nat), (Builtin.firstCells i.size n (.slice base n c)).run P w.drew = .ok xs.toArray w.drew → c < n + 1 → ∃ v' w', (∀ ty, (Builtin.append_ #[t, t] ty #[.slice base n c, .slice (some a) 1 c1]).run P w = .ok v' w') ∧ RowAt B w' e k v' (n + 1) (xs ++ x) ∧ w.grownBy w' none ∧ ∃ b, rowBlk v' = some b ∧ w.heap.size ≤ b := by
  intro base c hold hc
  have hsrc : Src P i.size t (.slice (some a) 1 c1) 1 x w := Src.ofSlice w ht a 1 c1 x (by rw [hxl, hk, Nat.one_mul]) hx h1x
  have hG := grownCap_ge w (n + 1) c e
  have hGm : grownCap w (n + 1) c e ≤ maxLen := grownCap_le_maxLen w (n + 1) c e (by omega)
  refine ⟨.slice (some ⟨w.heap.size, 0, none⟩) (n + 1) (grownCap w (n + 1) c e), w.drew.alloc (.cells ((xs ++ x).toArray ++ Builtin.zeroCells z.cells (grownCap w (n + 1) c e - (n + 1))) e), fun ty => run_append_grow_src w t t ty e i z ht hi hz base n c xs hold _ 1 x hsrc hc (by omega) (growslice_fits hc hbytes), ⟨hlen, .inr ⟨w.heap.size, _, _, rfl, by omega, hB, Go.heap_alloc_new w.drew _, hG, hGm, ?_, ?_⟩⟩, ⟨rfl, rfl, rfl, by simp, fun b hb _ => Go.heap_alloc_old w.drew _ hb⟩, w.heap.size, ?_, Nat.le_refl _⟩
  ·rw [Array.size_append, List.size_toArray, size_zeroCells, hzk, hlen, ← Nat.add_mul]
   congr 1
   omega
  ·rw [Array.toList_append, ← hlen]
   exact List.take_left
  ·simp only [rowBlk]
   rw [if_neg (by omega)]
 rcases h.2 with ⟨A, rfl, rfl⟩ | ⟨g, cap, cur, rfl, hc, hBg, hg, hnc, hcm, hcs, htk⟩
 ·have hx0 : xs = [] := List.length_eq_zero_iff.1 (by rw [h.1, Nat.zero_mul])
  obtain ⟨v', w', h1, h2, h3, b, h4, h5⟩ := grow A 0 (by
   rw [hx0]
   cases A with
   | none => exact run_firstCells_none w.drew _ 0 0 0
   | some b => exact run_firstCells_some w.drew _ 0 b 0 0 [] (by simp) (by simp)) (by omega)
  exact ⟨v', w', h1, h2, ⟨h3.os, h3.tape, h3.output, h3.size, fun k hk _ => h3.block k hk (by simp)⟩, .inr ⟨b, h4, h5⟩⟩
 ·by_cases hroom : n + 1 ≤ cap
  ·have hfit : n * i.size + x.length ≤ cur.size := by rw [hxl, hk, hcs, ← Nat.succ_mul]; exact Nat.mul_le_mul_right _ hroom
   have hr := fun ty => run_append_room (P := P) w t ty e i ht hi g n cap cur hg a 1 c1 x (by rw [hxl, hk, Nat.one_mul]) hx h1x hroom hfit
   refine ⟨_, _, hr, ⟨hlen, .inr ⟨g, cap, _, rfl, hc, hBg, setRow_heap w g cur _ e _ hg, hroom, hcm, ?_, ?_⟩⟩, ?_, .inl (by simp [rowBlk])⟩
   ·simp only [List.size_toArray, List.length_append, List.length_take, List.length_drop, Array.length_toList]
    omega
   ·rw [hk, htk, ← hlen]
    exact List.take_left
   ·have hb : rowBlk (.slice (some ⟨g, 0, none⟩) n cap) = some g := by simp [rowBlk, Nat.ne_of_gt hc]
    rw [hb]
    exact rw_setRow
  ·obtain ⟨v', w', h1, h2, h3, b, h4, h5⟩ := grow (some ⟨g, 0, none⟩) cap (run_firstCells_some w.drew _ n ⟨g, 0, none⟩ n cap xs (by rw [h.1, hk]) (by simpa using h.cellsOf)) (by omega)
   exact ⟨v', w', h1, h2, ⟨h3.os, h3.tape, h3.output, h3.size, fun k hk _ => h3.block k hk (by simp)⟩, .inr ⟨b, h4, h5⟩⟩
theorem row_append {P : Program} {B : Nat} {w : World} {e : TypeId} {k : Nat} {v : Value} {n : Nat} {xs : List Value} (h : RowAt B w e k v n xs) (hB : B ≤ w.heap.size) (t : TypeId) (ht : P.underlying t = some (.slice e)) (i : TypeInfo) (hi : P.info? e = some i) (z : Value) (hz : i.zero = some z) (hk : i.size = k) (hzk : z.cells.size = k)
  (hbytes : (n + 1) * i.bytes ≤ 140737488355328) (hn : n + 1 ≤ 1099511627776) (a : Addr) (x : List Value) (hxl : x.length = k) (hx : ∀ j u, x[j]? = some u → w.cell? (a.add j) = some u) (h1x : ∀ u ∈ x, u.oneCell' = true) (c1 : Nat) :
  ∃ v' w', (∀ ty, (Builtin.append_ #[t, t] ty #[v, .slice (some a) 1 c1]).run P w = .ok v' w') ∧ RowAt B w' e k v' (n + 1) (xs ++ x) ∧ w.grownBy w' (rowBlk v) ∧ (rowBlk v' = rowBlk v ∨ ∃ b, rowBlk v' = some b ∧ w.heap.size ≤ b) :=
 row_appendW h hB t ht i hi z hz hk hzk hbytes (by omega) a x hxl hx h1x c1
theorem blk_ne {w : World} {a b : Nat} {c1 c2 : Array Value} {t1 t2 : TypeId} {f1 f2 : Nat × Nat} (h1 : w.heap[a]? = some (.cells c1 t1 f1)) (h2 : w.heap[b]? = some (.cells c2 t2 f2)) (ht : t1 ≠ t2) : a ≠ b := fun e => by
 subst e
 rw [h1] at h2
 injection h2 with h2
 injection h2 with _ h2 _
 exact ht h2
theorem RowAt.slice {B : Nat} {w : World} {e : TypeId} {k : Nat} {v : Value} {n : Nat} {xs : List Value} (h : RowAt B w e k v n xs) : ∃ A c, v = .slice A n c ∧ SlOk A n c := by
 rcases h.2 with ⟨A, rfl, rfl⟩ | ⟨g, cap, cur, rfl, hc, hB, hg, hn, hm, hs, ht⟩
 ·exact ⟨A, 0, rfl, Nat.le_refl _, fun _ => rfl⟩
 ·exact ⟨_, cap, rfl, hn, fun e => by cases e⟩
theorem RowAt.open_ {B : Nat} {w : World} {e : TypeId} {k : Nat} {v : Value} {n : Nat} {xs : List Value} (h : RowAt B w e k v n xs) (hn : 0 < n) : ∃ g c cur, v = .slice (some ⟨g, 0, none⟩) n c ∧ rowBlk v = some g ∧ B ≤ g ∧ g < w.heap.size ∧ w.heap[g]? = some (.cells cur e (0, 0)) ∧ n * k ≤ cur.size ∧ ∀ j u, xs[j]? = some u → w.cell? ⟨g, j, none⟩ = some u := by
 have h0 := h
 rcases h.2 with ⟨A, rfl, rfl⟩ | ⟨g, cap, cur, rfl, hc, hB, hg, hnc, hm, hs, ht⟩
 ·omega
 ·refine ⟨g, cap, cur, rfl, by simp [rowBlk, Nat.ne_of_gt hc], hB, (Array.getElem?_eq_some_iff.1 hg).1, hg, by rw [hs]; exact Nat.mul_le_mul_right _ hnc, fun j u hj => ?_⟩
  have := h0.cellsOf j u hj
  rwa [Addr.add_lit, Nat.zero_add] at this
theorem RowAt.ents {B : Nat} {w : World} {v : Value} {n : Nat} {es : List En} (h : RowAt B w 131 2 v n (es.flatMap enV)) : ∃ A c, v = .slice A n c ∧ SlOk A n c ∧ EntsAt none w A n es := by
 obtain ⟨A, c, hv, hok⟩ := h.slice
 have hl : es.length = n := by
  have h1 := h.1
  rw [flat_len enV 2 (fun x => rfl)] at h1
  omega
 refine ⟨A, c, hv, hok, hl, fun h0 => ?_⟩
 obtain ⟨g, c', cur, hv', _, _, hlt, _, _, hc⟩ := h.open_ h0
 rw [hv] at hv'
 injection hv' with e1 _ _
 refine ⟨g, 0, e1, hlt, Mine.any _ _ _, fun j e he => ?_⟩
 have f := flat_get enV 2 (fun x => rfl) es j e he
 rw [Nat.zero_add]
 exact ⟨hc _ _ (f 0 (by omega)), hc _ _ (f 1 (by omega))⟩
theorem RowAt.descs {B : Nat} {w : World} {v : Value} {n : Nat} {ds : List Ds} (h : RowAt B w 97 3 v n (ds.flatMap dsV)) : ∃ A c, v = .slice A n c ∧ SlOk A n c ∧ DescsAt none w A n ds := by
 obtain ⟨A, c, hv, hok⟩ := h.slice
 have hl : ds.length = n := by
  have h1 := h.1
  rw [flat_len dsV 3 (fun x => rfl)] at h1
  omega
 refine ⟨A, c, hv, hok, hl, fun h0 => ?_⟩
 obtain ⟨g, c', cur, hv', _, _, hlt, _, _, hc⟩ := h.open_ h0
 rw [hv] at hv'
 injection hv' with e1 _ _
 refine ⟨g, 0, e1, hlt, Mine.any _ _ _, fun j e he => ?_⟩
 have f := flat_get dsV 3 (fun x => rfl) ds j e he
 rw [Nat.zero_add]
 exact ⟨hc _ _ (f 0 (by omega)), hc _ _ (f 1 (by omega)), hc _ _ (f 2 (by omega))⟩
def intV (x : Int) : Value := .int .i64 x
theorem RowAt.ints {B : Nat} {w : World} {v : Value} {n : Nat} {xs : List Int} (h : RowAt B w 3 1 v n (xs.map intV)) : ∃ A c, v = .slice A n c ∧ SlOk A n c ∧ IntsAt none w A n xs := by
 obtain ⟨A, c, hv, hok⟩ := h.slice
 have hl : xs.length = n := by have h1 := h.1; simpa using h1
 refine ⟨A, c, hv, hok, hl, fun h0 => ?_⟩
 obtain ⟨g, c', cur, hv', _, _, hlt, _, _, hc⟩ := h.open_ h0
 rw [hv] at hv'
 injection hv' with e1 _ _
 refine ⟨g, 0, e1, hlt, Mine.any _ _ _, fun j e he => ?_⟩
 rw [Nat.zero_add]
 exact hc _ _ (by rw [List.getElem?_map, he]; rfl)
def Apart (zs : List (Ino × Value)) : Prop := ∀ (i j : Nat) (a b : Ino × Value), i ≠ j → zs[i]? = some a → zs[j]? = some b → ∀ g, rowBlk a.2 = some g → rowBlk b.2 ≠ some g
structure Own2 (B : Nat) (w : World) (p : Nat) (s : St) (zs : List (Ino × Value)) (vI vO vM : Value) : Prop where
 hp : B ≤ p
 cell : w.heap[p]? = some (.cells #[vI, vO, vM] 31 (0, 0))
 inos : zs.map Prod.fst = s.inos
 rowI : RowAt B w 65 4 vI zs.length (zs.flatMap inoV)
 ents : ∀ z ∈ zs, RowAt B w 131 2 z.2 z.1.ents.length (z.1.ents.flatMap enV)
 apart : Apart zs
 rowO : RowAt B w 97 3 vO s.opn.length (s.opn.flatMap dsV)
 rowM : RowAt B w 3 1 vM s.made.length (s.made.map intV)
 sized : Sized s
theorem Own2.inosAt {B : Nat} {w : World} {p : Nat} {s : St} {zs : List (Ino × Value)} {vI vO vM : Value} (h : Own2 B w p s zs vI vO vM) : ∃ A c, vI = .slice A s.inos.length c ∧ SlOk A s.inos.length c ∧ InosAt none w A s.inos.length s.inos := by
 have hl : s.inos.length = zs.length := by rw [← h.inos, List.length_map]
 obtain ⟨A, c, hv, hok⟩ := h.rowI.slice
 rw [← hl] at hv hok
 refine ⟨A, c, hv, hok, rfl, fun h0 => ?_⟩
 obtain ⟨g, c', cur, hv', _, _, hlt, _, _, hc⟩ := h.rowI.open_ (by omega)
 rw [hv] at hv'
 injection hv' with e1 _ _
 refine ⟨g, 0, e1, hlt, Mine.any _ _ _, fun j x hx => ?_⟩
 rw [← h.inos, List.getElem?_map] at hx
 obtain ⟨z, hz, rfl⟩ := Option.map_eq_some_iff.1 hx
 have f := flat_get inoV 4 (fun x => rfl) zs j z hz
 obtain ⟨E, m, he, hmd, hE⟩ := (h.ents z (List.mem_of_getElem? hz)).ents
 rw [Nat.zero_add]
 refine ⟨hc _ _ (f 0 (by omega)), hc _ _ (f 1 (by omega)), ⟨E, z.1.ents.length, m, ?_, hmd, hE⟩, hc _ _ (f 3 (by omega))⟩
 rw [← he]
 exact hc _ _ (f 2 (by omega))
theorem Own2.ptr {B : Nat} {w : World} {p : Nat} {s : St} {zs : List (Ino × Value)} {vI vO vM : Value} (h : Own2 B w p s zs vI vO vM) : PtrAt w p s := by
 obtain ⟨A, c, hA, hAo, hAI⟩ := h.inosAt
 obtain ⟨E, d, hE, hEo, hED⟩ := h.rowO.descs
 obtain ⟨M, k, hM, hMo, hMI⟩ := h.rowM.ints
 refine ⟨⟨A, _, c, E, _, d, M, _, k, ?_, hAI, hED, hMI, hAo, hEo, hMo⟩, h.sized⟩
 rw [← hA, ← hE, ← hM]
 exact h.cell
theorem Own2.below {B : Nat} {w w' : World} {p : Nat} {s : St} {zs : List (Ino × Value)} {vI vO vM : Value} (h : Own2 B w p s zs vI vO vM) (hb : Below w.heap.size w w') : Own2 B w' p s zs vI vO vM := by
 have hg : w.grownBy w' none := rw_none hb
 have hn : ∀ (v : Value) (b : Nat), rowBlk v = some b → (none : Option Nat) ≠ some b := fun v b _ => by simp
 exact ⟨h.hp, (hb.block p (Array.getElem?_eq_some_iff.1 h.cell).1).trans h.cell, h.inos, h.rowI.kept hg (hn _), fun z hz => (h.ents z hz).kept hg (hn _), h.apart, h.rowO.kept hg (hn _), h.rowM.kept hg (hn _), h.sized⟩
structure Turns (B p : Nat) (w w' : World) : Prop where
 below : Below B w w'
 keep : ∀ (b : Nat) (cur : Array Value) (t : TypeId), w.heap[b]? = some (.cells cur t (0, 0)) → 65 ≠ t → 131 ≠ t → 97 ≠ t → 3 ≠ t → b ≠ p → w'.heap[b]? = w.heap[b]?
theorem Turns.trans {B p : Nat} {a b c : World} (h : Turns B p a b) (k : Turns B p b c) : Turns B p a c :=
 ⟨h.below.trans k.below, fun x cur t hx h1 h2 h3 h4 h5 => (k.keep x cur t ((h.keep x cur t hx h1 h2 h3 h4 h5).trans hx) h1 h2 h3 h4 h5).trans (h.keep x cur t hx h1 h2 h3 h4 h5)⟩
theorem Turns.of_below {B p : Nat} {w w' : World} (h : Below w.heap.size w w') (hB : B ≤ w.heap.size) : Turns B p w w' :=
 ⟨h.mono hB, fun b cur t hb _ _ _ _ _ => h.block b (Array.getElem?_eq_some_iff.1 hb).1⟩
theorem Turns.of_grown {B p : Nat} {w w' : World} {r : Option Nat} (h : w.grownBy w' r) (hB : B ≤ w.heap.size) (hr : ∀ b, r = some b → B ≤ b ∧ (b = p ∨ ∃ cur t, w.heap[b]? = some (.cells cur t (0, 0)) ∧ (t = 65 ∨ t = 131 ∨ t = 97 ∨ t = 3))) : Turns B p w w' :=
 ⟨rw_below h hB (fun b hb => (hr b hb).1), fun b cur t hb h1 h2 h3 h4 h5 => h.block b (Array.getElem?_eq_some_iff.1 hb).1 (fun e => by
  rcases (hr b e.symm).2 with e1 | ⟨cur', t', h', ht⟩
  ·exact h5 e1
  ·rw [hb] at h'
   injection h' with h'
   injection h' with _ h' _
   rcases ht with ht | ht | ht | ht
   ·exact h1 (ht.symm.trans h'.symm)
   ·exact h2 (ht.symm.trans h'.symm)
   ·exact h3 (ht.symm.trans h'.symm)
   ·exact h4 (ht.symm.trans h'.symm))⟩
theorem grown_set {w : World} {b j : Nat} {u : Value} : w.grownBy (w.setCell ⟨b, j, none⟩ u) (some b) :=
 ⟨rfl, rfl, rfl, by simp [World.setCell], fun k hk hne => Below.heap_setCell w ⟨b, j, none⟩ u k (fun e => hne (by rw [e]))⟩
theorem RowAt.set {B : Nat} {w : World} {e : TypeId} {k : Nat} {g n c : Nat} {xs : List Value} (h : RowAt B w e k (.slice (some ⟨g, 0, none⟩) n c) n xs) (j : Nat) (u : Value) (hj : j < n * k) : RowAt B (w.setCell ⟨g, j, none⟩ u) e k (.slice (some ⟨g, 0, none⟩) n c) n (xs.set j u) := by
 refine ⟨by rw [List.length_set]; exact h.1, ?_⟩
 rcases h.2 with ⟨A, hA, rfl⟩ | ⟨g', cap, cur, hv, hc, hB, hg, hnc, hm, hs, ht⟩
 ·omega
 ·injection hv with e1 e2 e3
  injection e1 with e1
  injection e1 with e1
  subst e1 e3
  refine .inr ⟨g, c, cur.setIfInBounds j u, rfl, hc, hB, ?_, hnc, hm, by simpa using hs, ?_⟩
  ·rw [heap_setCell_same w g j _ _ _ hg]
  ·rw [← ht, Array.toList_setIfInBounds, List.take_set]
end Go.Proofs.YtilkhmhgjbhfnaaGreatDoor
