/- Parts of the proof, side by side: MoEntry, StOwn, FsPut, FsDrop, FsCopy, FsMake, FsSweep, FsFr. -/
import Derived.Test.YtndcloohcfhejaaGreatM04
import Derived.Lib.Bytealg
import Derived.Test.YtndcloohcfhejaaGreatM01
import Derived.Laws.Rows
import Derived.Test.YtndcloohcfhejaaGreatM03
import Derived.Handy
import Derived.Test.YtndcloohcfhejaaGreatM02
import Derived.Deep.Cut
import Derived.Deep.DeepCutAuto
import Derived.Deep.RegionHeld3
set_option linter.unusedVariables false
set_option linter.unusedSimpArgs false
namespace Go.Proofs.YtndcloohcfhejaaGreat
open Go.RowKit
def cmpV (a b : ByteArray) : Int := Lib.compareBytes a.data.toList b.data.toList
theorem cmpL_lt : ∀ (a b : List UInt8), Lib.compareBytes a b < 0 ↔ ltB a b = true
 | [], [] => by simp [Lib.compareBytes, ltB]
 | [], _ :: _ => by simp [Lib.compareBytes, ltB]
 | _ :: _, [] => by simp [Lib.compareBytes, ltB]
 | a :: al, b :: bl => by
  unfold Lib.compareBytes ltB
  by_cases h1 : a < b
  ·have : a ≠ b := fun e => by subst e; exact absurd h1 (UInt8.lt_irrefl _)
   rw [if_pos h1, if_neg this]
   simp [h1]
  ·rw [if_neg h1]
   by_cases h2 : b < a
   ·have : a ≠ b := fun e => by subst e; exact absurd h2 (UInt8.lt_irrefl _)
    rw [if_pos h2, if_neg this]
    simp [h1]
   ·have : a = b := UInt8.le_antisymm (UInt8.not_lt.1 h2) (UInt8.not_lt.1 h1)
    rw [if_neg h2, if_pos this]
    exact cmpL_lt al bl
theorem cmpL_eq0 : ∀ (a b : List UInt8), Lib.compareBytes a b = 0 ↔ a = b
 | [], [] => by simp [Lib.compareBytes]
 | [], _ :: _ => by simp [Lib.compareBytes]
 | _ :: _, [] => by simp [Lib.compareBytes]
 | a :: al, b :: bl => by
  unfold Lib.compareBytes
  by_cases h1 : a < b
  ·have : a ≠ b := fun e => by subst e; exact absurd h1 (UInt8.lt_irrefl _)
   rw [if_pos h1]
   simp [this]
  ·rw [if_neg h1]
   by_cases h2 : b < a
   ·have : a ≠ b := fun e => by subst e; exact absurd h2 (UInt8.lt_irrefl _)
    rw [if_pos h2]
    simp [this]
   ·have : a = b := UInt8.le_antisymm (UInt8.not_lt.1 h2) (UInt8.not_lt.1 h1)
    rw [if_neg h2, this, cmpL_eq0 al bl]
    simp
theorem cmpV_lt (a b : ByteArray) : cmpV a b < 0 ↔ ltN a b = true := cmpL_lt _ _
theorem cmpV_eq (a b : ByteArray) : cmpV a b = 0 ↔ a = b := by
 unfold cmpV
 rw [cmpL_eq0]
 constructor
 ·intro h
  cases a; cases b
  exact congrArg ByteArray.mk (Array.toList_inj.1 h)
 ·intro h; rw [h]
theorem ltB_trans : ∀ (a b c : List UInt8), ltB a b = true → ltB b c = true → ltB a c = true
 | [], [], _, h, _ => by simp [ltB] at h
 | [], _ :: _, [], _, h => by simp [ltB] at h
 | [], _ :: _, _ :: _, _, _ => rfl
 | _ :: _, [], _, h, _ => by simp [ltB] at h
 | _ :: _, _ :: _, [], _, h => by simp [ltB] at h
 | a :: al, b :: bl, c :: cl, h1, h2 => by
  unfold ltB at h1 h2 ⊢
  by_cases e1 : a = b
  ·subst e1
   rw [if_pos rfl] at h1
   by_cases e2 : a = c
   ·subst e2
    rw [if_pos rfl] at h2 ⊢
    exact ltB_trans al bl cl h1 h2
   ·rw [if_neg e2] at h2 ⊢
    exact h2
  ·rw [if_neg e1, decide_eq_true_eq] at h1
   by_cases e2 : b = c
   ·subst e2
    rw [if_neg e1, decide_eq_true_eq]
    exact h1
   ·rw [if_neg e2, decide_eq_true_eq] at h2
    have h3 := UInt8.lt_trans h1 h2
    have e3 : a ≠ c := fun e => by subst e; exact absurd h3 (UInt8.lt_irrefl _)
    rw [if_neg e3, decide_eq_true_eq]
    exact h3
theorem ltN_trans {a b c : ByteArray} (h1 : ltN a b = true) (h2 : ltN b c = true) : ltN a c = true := ltB_trans _ _ _ h1 h2
def RiseE (es : List En) : Prop := ∀ (i j : Nat) (x y : En), i < j → es[i]? = some x → es[j]? = some y → ltN x.name y.name = true
structure EnPos (es : List En) (nm : ByteArray) (i : Nat) (b : Bool) : Prop where
 le : i ≤ es.length
 lo : ∀ (k : Nat) (x : En), k < i → es[k]? = some x → ltN x.name nm = true
 hi : ∀ (k : Nat) (x : En), i ≤ k → es[k]? = some x → ltN x.name nm = false
 is_ : b = true → ∃ e, es[i]? = some e ∧ e.name = nm
 of_ : (∃ e, es[i]? = some e ∧ e.name = nm) → b = true
theorem compare_any (a b : ByteArray) (w : World) : Calls Tryz.prog 106 #[.string a, .string b] w fun e w' => e = .returned (.int .i64 (cmpV a b)) ∧ w = w' := by
 have hx : ∀ w, (callFunc 148 #[.string a, .string b]).run Tryz.prog w = .ok (.value (.int .i64 (cmpV a b))) w := fun w => by
  rw [run_callFunc_extern Tryz.func148 (by kernel_rfl) (by kernel_rfl) (by kernel_rfl) (e := Extern.BytealgCompare.compare) (by kernel_rfl), Lib.run_compareString]
  rfl
 go_enter Tryz.func106, Tryz.ntmps106
 go_wp2
 go_ret
 exact ⟨rfl, rfl⟩
theorem cmpE_any (name : ByteArray) (num : Int) (nm : ByteArray) (w : World) :
  Calls Tryz.prog 105 #[.agg #[.string name, .int .i64 num], .string nm] w fun e w' => e = .returned (.int .i64 (cmpV name nm)) ∧ Below w.heap.size w w' := by
 go_enter Tryz.func105, Tryz.ntmps105
 go_wp2_with fail
 refine (compare_any name nm _).mono ?_
 rintro e w1 ⟨rfl, rfl⟩
 go_wp2_with fail
 go_ret
 exact ⟨rfl, (Below.refl _ _).alloc (Nat.le_refl _) _⟩
set_option maxRecDepth 100000 in
set_option maxHeartbeats 4000000 in
theorem bsearchE_any (es : List En) (A : Option Addr) (n c : Nat) (nm : ByteArray) (w : World) (hI : EntsAt none w A n es) (hn : n ≤ 1099511627776) (hr : RiseE es) :
  Calls Tryz.prog 104 #[.slice A n c, .string nm, .func (.func 105) #[] #[]] w fun e w' => ∃ i b, e = .returned (.tuple #[.int .i64 (i : Nat), .bool b]) ∧ Below w.heap.size w w' ∧ EnPos es nm i b := by
 have HI := Lib.hid hI
 go_enter Tryz.func104, Tryz.ntmps104
 clear hI
 go_wp2_with fail
 go_loopw [9, 10] (fun iv jv wr => ∃ i j : Nat, iv = .int .i64 i ∧ jv = .int .i64 j ∧ i ≤ j ∧ j ≤ n ∧ (∀ (k : Nat) (x : En), k < i → es[k]? = some x → ltN x.name nm = true) ∧ (∀ (k : Nat) (x : En), j ≤ k → es[k]? = some x → ltN x.name nm = false) ∧ Below w.heap.size w wr) (fun iv jv _ => (intOf jv).toNat - (intOf iv).toNat)
 case atStart => exact ⟨0, n, rfl, rfl, by omega, by omega, fun k x hk => by omega, fun k x hk hx => by have := (List.getElem?_eq_some_iff.1 hx).1; have := HI.out.1; omega, Below.refl _ _⟩
 case round =>
  obtain ⟨i, j, rfl, rfl, hij, hjn, hlo, hhi, hbel⟩ := hrel
  have HB := Lib.hid hbel
  have HIr := Lib.hid (HI.out.below hbel)
  have HLO := Lib.hid hlo
  have HHI := Lib.hid hhi
  clear hbel hlo hhi
  by_cases hlt : i < j
  ·obtain ⟨h, hh⟩ : ∃ h, (i + j) / 2 = h := ⟨_, rfl⟩
   have hh1 : i ≤ h := by omega
   have hh2 : h < j := by omega
   obtain ⟨g, off, x, rfl, hg, hx, hd, hmem, c0, c1⟩ := HIr.out.get h (by omega)
   have HHH := Lib.hid hh
   have hx2 : es[h]? = some x := hx
   have HX := Lib.hid hx2
   have HRR := Lib.hid hr
   have HHH2 : Hid (h < j) := Lib.hid hh2
   clear hx2
   go_wp2_with fail
   refine (cmpE_any x.name x.num nm _).mono ?_
   rintro e5 w5 ⟨rfl, hb5⟩
   have e2 : ((i : Int) + (j : Int)) / 2 = (h : Int) := by have := HHH.out; omega
   rw [e2]
   have HB5 := Lib.hid (HB.out.trans (hb5.mono HB.out.size))
   clear hb5 c0 c1
   by_cases hc : ltN x.name nm = true
   ·have q1 : decide (cmpV x.name nm < 0) = true := by rw [decide_eq_true_eq]; exact (cmpV_lt _ _).2 hc
    go_wp2_with fail
    go_roundw
    case rel => exact ⟨h + 1, j, by go_num, rfl, by omega, hjn, fun k y hk hy => by
     by_cases e : k = h
     ·subst e
      have := HX.out
      rw [hy] at this
      cases this
      exact hc
     ·exact ltN_trans (HRR.out k h y x (by omega) hy HX.out) hc, HHI.out, HB5.out⟩
    case measure => simp [intOf]; omega
   ·have q1 : decide (cmpV x.name nm < 0) = false := by rw [decide_eq_false_iff_not]; exact fun h => hc ((cmpV_lt _ _).1 h)
    go_wp2_with fail
    go_roundw
    case rel => exact ⟨i, h, rfl, rfl, hh1, by omega, HLO.out, fun k y hk hy => by
     by_cases e : k = h
     ·subst e
      have := HX.out
      rw [hy] at this
      have e9 : y = x := Option.some.inj this
      rw [e9]
      exact Bool.eq_false_iff.2 hc
     ·cases hv : ltN y.name nm
      ·rfl
      ·exact absurd (ltN_trans (HRR.out h k x y (by omega) HX.out hy) hv) hc, HB5.out⟩
    case measure => simp [intOf]; omega
  ·have eij : j = i := by omega
   subst eij
   by_cases hin : j < n
   ·obtain ⟨g, off, x, rfl, hg, hx, hd, hmem, c0, c1⟩ := HIr.out.get j hin
    have HX := Lib.hid hx
    have HRR := Lib.hid hr
    go_wp2_with fail
    refine (cmpE_any x.name x.num nm _).mono ?_
    rintro e5 w5 ⟨rfl, hb5⟩
    have HB5 := Lib.hid (HB.out.trans (hb5.mono HB.out.size))
    clear hb5 c0 c1
    by_cases hc : x.name = nm
    ·have q1 : cmpV x.name nm = 0 := (cmpV_eq _ _).2 hc
     rw [q1]
     clear q1
     go_wp2_with fail
     go_ret2
     exact ⟨j, true, rfl, HB5.out, by have := HIr.out.1; omega, HLO.out, HHI.out, fun _ => ⟨x, HX.out, hc⟩, fun _ => rfl⟩
    ·have q1 : (cmpV x.name nm == 0) = false := by rw [beq_eq_false_iff_ne]; exact fun h => hc ((cmpV_eq _ _).1 h)
     go_wp2_with fail
     go_ret2
     refine ⟨j, false, rfl, HB5.out, by have := HIr.out.1; omega, HLO.out, HHI.out, (fun h => by cases h), fun h => ?_⟩
     obtain ⟨e, he, hen⟩ := h
     rw [HX.out] at he
     cases he
     exact absurd hen hc
   ·have q1 : decide ((j : Int) < (n : Int)) = false := by rw [decide_eq_false_iff_not]; omega
    clear hlt
    go_wp2_with fail
    go_ret2
    refine ⟨j, false, rfl, HB.out, by have := HIr.out.1; omega, HLO.out, HHI.out, (fun h => by cases h), fun h => ?_⟩
    obtain ⟨e, he, _⟩ := h
    have h1 := (List.getElem?_eq_some_iff.1 he).1
    have h2 := HIr.out.1
    omega
theorem mentry_any (es : List En) (A : Option Addr) (n c : Nat) (nm : ByteArray) (w : World) (hI : EntsAt none w A n es) (hn : n ≤ 1099511627776) (hr : RiseE es) :
  Calls Tryz.prog 67 #[.slice A n c, .string nm] w fun e w' => ∃ i b, e = .returned (.tuple #[.int .i64 (i : Nat), .bool b]) ∧ Below w.heap.size w w' ∧ EnPos es nm i b := by
 go_enter Tryz.func67, Tryz.ntmps67
 go_wp2_with fail
 refine (bsearchE_any es A n c nm _ hI hn hr).mono ?_
 rintro e w1 ⟨i, b, rfl, hb, hp⟩
 go_wp2_with fail
 go_ret2
 exact ⟨i, b, rfl, hb, hp⟩
structure KeepT (t : TypeId) (w w' : World) : Prop where
 size : w.heap.size ≤ w'.heap.size
 same : ∀ (b : Nat) (cur : Array Value), w.heap[b]? = some (.cells cur t (0, 0)) → w'.heap[b]? = w.heap[b]?
theorem KeepT.set {w : World} {g k : Nat} {u : Value} {cur : Array Value} {t t' : TypeId} (h : w.heap[g]? = some (.cells cur t' (0, 0))) (hne : t' ≠ t) : KeepT t w (w.setCell ⟨g, k, none⟩ u) :=
 ⟨by simp [World.setCell], fun b c hb => Below.heap_setCell w ⟨g, k, none⟩ u b (fun e => by
  have e2 : b = g := e
  subst e2
  rw [h] at hb
  injection hb with hb
  injection hb with _ hb _
  exact hne hb)⟩
theorem KeepT.mine {t : TypeId} {w w' : World} {B g : Nat} (h : KeepT t w w') (hm : Mine (some B) t w g) : Mine (some B) t w' g ∧ w'.heap[g]? = w.heap[g]? := by
 obtain ⟨h1, cur, h2⟩ := hm B rfl
 refine ⟨fun C hC => ?_, h.same g cur h2⟩
 cases hC
 exact ⟨h1, cur, (h.same g cur h2).trans h2⟩
theorem cell_same {w w' : World} {g : Nat} (h : w'.heap[g]? = w.heap[g]?) (j : Nat) : w'.cell? ⟨g, j, none⟩ = w.cell? ⟨g, j, none⟩ := by
 unfold World.cell?
 simp only [h]
theorem EntsAt.keep {B : Nat} {w w' : World} {A : Option Addr} {n : Nat} {es : List En} (h : EntsAt (some B) w A n es) (hk : KeepT 77 w w') : EntsAt (some B) w' A n es :=
 ⟨h.1, fun hn => by
  obtain ⟨g, off, hA, hg, hm, hc⟩ := h.2 hn
  obtain ⟨m1, m2⟩ := hk.mine hm
  exact ⟨g, off, hA, Nat.lt_of_lt_of_le hg hk.size, m1, fun j e he => ⟨(cell_same m2 _).trans (hc j e he).1, (cell_same m2 _).trans (hc j e he).2⟩⟩⟩
theorem DescsAt.keep {B : Nat} {w w' : World} {A : Option Addr} {n : Nat} {ds : List Ds} (h : DescsAt (some B) w A n ds) (hk : KeepT 79 w w') : DescsAt (some B) w' A n ds :=
 ⟨h.1, fun hn => by
  obtain ⟨g, off, hA, hg, hm, hc⟩ := h.2 hn
  obtain ⟨m1, m2⟩ := hk.mine hm
  exact ⟨g, off, hA, Nat.lt_of_lt_of_le hg hk.size, m1, fun j e he => ⟨(cell_same m2 _).trans (hc j e he).1, (cell_same m2 _).trans (hc j e he).2.1, (cell_same m2 _).trans (hc j e he).2.2⟩⟩⟩
theorem IntsAt.keep {B : Nat} {w w' : World} {A : Option Addr} {n : Nat} {xs : List Int} (h : IntsAt (some B) w A n xs) (hk : KeepT 3 w w') : IntsAt (some B) w' A n xs :=
 ⟨h.1, fun hn => by
  obtain ⟨g, off, hA, hg, hm, hc⟩ := h.2 hn
  obtain ⟨m1, m2⟩ := hk.mine hm
  exact ⟨g, off, hA, Nat.lt_of_lt_of_le hg hk.size, m1, fun j x hx => (cell_same m2 _).trans (hc j x hx)⟩⟩
theorem InosAt.keep {B : Nat} {w w' : World} {A : Option Addr} {n : Nat} {is : List Ino} (h : InosAt (some B) w A n is) (hk : KeepT 75 w w') (he : KeepT 77 w w') : InosAt (some B) w' A n is :=
 ⟨h.1, fun hn => by
  obtain ⟨g, off, hA, hg, hm, hc⟩ := h.2 hn
  obtain ⟨m1, m2⟩ := hk.mine hm
  refine ⟨g, off, hA, Nat.lt_of_lt_of_le hg hk.size, m1, fun j x hx => ?_⟩
  obtain ⟨h1, h2, ⟨E, m, c, h3, h4, h5⟩, h6⟩ := hc j x hx
  exact ⟨(cell_same m2 _).trans h1, (cell_same m2 _).trans h2, ⟨E, m, c, (cell_same m2 _).trans h3, h4, h5.keep he⟩, (cell_same m2 _).trans h6⟩⟩
theorem IntsAt.mono {B B' : Nat} {w : World} {A : Option Addr} {n : Nat} {xs : List Int} (h : IntsAt (some B) w A n xs) (hb : B' ≤ B) : IntsAt (some B') w A n xs :=
 ⟨h.1, fun hn => by
  obtain ⟨g, off, hA, hg, hm, hc⟩ := h.2 hn
  exact ⟨g, off, hA, hg, hm.mono hb, hc⟩⟩
theorem modify_set {α : Type} (f : α → α) (l : List α) (i : Nat) (x : α) (h : l[i]? = some x) : l.modify i f = l.set i (f x) := by
 apply List.ext_getElem?
 intro j
 rw [List.getElem?_modify, List.getElem?_set]
 by_cases e : i = j
 ·subst e
  have hl : i < l.length := (List.getElem?_eq_some_iff.1 h).1
  simp [hl, (List.getElem?_eq_some_iff.1 h).2]
 ·cases hj : l[j]? <;> simp [e, hj]
theorem putE_len : ∀ (es : List En) (name : ByteArray) (num : Int), (putE es name num).length = es.length + 1
 | [], _, _ => rfl
 | e :: es, name, num => by
  unfold putE
  split
  ·simp
  ·rw [List.length_cons, putE_len es, List.length_cons]
theorem dropE_len : ∀ (es : List En) (name : ByteArray), (dropE es name).length ≤ es.length
 | [], _ => Nat.le_refl _
 | e :: es, name => by
  unfold dropE
  have := dropE_len es name
  split <;> simp <;> omega
theorem infoEnt : (Tryz.prog.info? 77).map (fun i => (i.zero, i.size, i.bytes)) = some (some (.agg #[.string ⟨#[]⟩, .int .i64 0]), 2, 24) := by kernel_rfl
theorem infoIno : (Tryz.prog.info? 75).map (fun i => (i.zero, i.size, i.bytes)) = some (some (.agg #[.int .i64 0, .bool false, .slice none 0 0, .string ⟨#[]⟩]), 4, 56) := by kernel_rfl
theorem infoDs : (Tryz.prog.info? 79).map (fun i => (i.zero, i.size, i.bytes)) = some (some (.agg #[.int .i64 0, .int .i64 0, .int .i64 0]), 3, 24) := by kernel_rfl
theorem flat_cells {α : Type} {w : World} {g off : Nat} (f : α → List Value) (k : Nat) (hk : ∀ x, (f x).length = k) (h0 : 0 < k) (l : List α) (h : ∀ j x, l[j]? = some x → ∀ i, i < k → w.cell? ⟨g, off + j * k + i, none⟩ = (f x)[i]?) :
  ∀ j u, (l.flatMap f)[j]? = some u → w.cell? ((⟨g, off, none⟩ : Addr).add j) = some u := by
 intro j u hu
 have hl := flat_len f k hk l
 have hjl : j < l.length * k := by rw [← hl]; exact (List.getElem?_eq_some_iff.1 hu).1
 have hq : j / k < l.length := Nat.div_lt_of_lt_mul (by rw [Nat.mul_comm]; exact hjl)
 have hm : j % k < k := Nat.mod_lt _ h0
 have hx := List.getElem?_eq_getElem hq
 have e1 := flat_get f k hk l (j / k) _ hx (j % k) hm
 have e2 : j / k * k + j % k = j := by rw [Nat.mul_comm]; exact Nat.div_add_mod j k
 rw [e2] at e1
 have e3 := h (j / k) _ hx (j % k) hm
 have e4 : (⟨g, off, none⟩ : Addr).add j = ⟨g, off + j, none⟩ := by unfold Addr.add; split <;> simp_all
 rw [e4, ← hu, e1, ← e3]
 congr 2
 omega
theorem wpList_append_flat {P : Program} {w : World} {ops : Array Oper} {rest : List Oper} {o : Oper} {a : Act} {Q : Exit → Act → World → Prop} (hgd : o.guard = none) (s x : Operand) (t e : TypeId) (z : Value) (size bytes : Nat)
  (ho : o.op = .call { callee := .builtin .append, args := #[s, x], argTypes := #[t, t] }) (ht : P.underlying t = some (.slice e)) (hinfo : (P.info? e).map (fun i => (i.zero, i.size, i.bytes)) = some (some z, size, bytes)) (hzs : z.cells.size = size) (hsz : 0 < size)
  (B : Nat) (v : Value) (n : Nat) (xs : List Value) (hs : a.eval s = v) (hown : w.ownsRow B e size v n xs) (A : Option Addr) (m c : Nat) (vs : List Value) (hx : a.eval x = .slice A m c) (hl : vs.length = m * size)
  (hr : ∀ ad, A = some ad → ∀ j u, vs[j]? = some u → w.cell? (ad.add j) = some u) (hn : A = none → m = 0 ∧ c = 0)
  (hone : ∀ u ∈ vs, u.oneCell' = true) (h63 : n + m ≤ maxLen) (hb : (n + m) * bytes ≤ 140737488355328) (hB : B ≤ w.heap.size)
  (h : ∀ v' w', w'.ownsRow B e size v' (n + m) (xs ++ vs) → w.grownBy w' v.ownBlock → wpList P ops Q rest (a.put o.dst v') w') : wpList P ops Q (o :: rest) a w := by
 obtain ⟨i0, hi, hz0, hz1, hz2⟩ := info_parts hinfo
 rcases A with _ | ad
 ·obtain ⟨rfl, rfl⟩ := hn rfl
  have hts : vs = [] := List.eq_nil_of_length_eq_zero (by simpa using hl)
  subst hts
  refine wpList_append_own_none hgd s x t ho B e i0 size ht hi v n xs hs hown hx ?_
  exact h v w (by simpa using hown) ⟨rfl, rfl, rfl, Nat.le_refl _, fun _ _ _ => rfl⟩
 ·refine wpList_append_own w hgd s x t ho B e i0 z size bytes ht hi hz0 hz1 hz2 hzs hsz v n xs hs hown ad m c vs hx hl (hr ad rfl) hone h63 hb hB ?_
  intro v' w' h2 h3 _
  exact h v' w' h2 h3
theorem EntsAt.flat {lo : Option Nat} {w : World} {A : Option Addr} {n c : Nat} {es : List En} (h : EntsAt lo w A n es) (hok : SlOk A n c) : (es.flatMap enV).length = n * 2 ∧ (∀ ad, A = some ad → ∀ j u, (es.flatMap enV)[j]? = some u → w.cell? (ad.add j) = some u) ∧ (A = none → n = 0 ∧ c = 0) := by
 refine ⟨by rw [flat_len enV 2 (fun _ => rfl), h.1], fun ad had j u hu => ?_, fun e => ⟨?_, hok.2 e⟩⟩
 ·have hn : 0 < n := by
   rcases Nat.eq_zero_or_pos n with h0 | h0
   ·have : es = [] := List.eq_nil_of_length_eq_zero (by rw [h.1, h0])
    subst this
    simp at hu
   ·exact h0
  obtain ⟨g, off, hA, hg, hm, hc⟩ := h.2 hn
  rw [hA] at had
  injection had with had
  subst had
  refine flat_cells enV 2 (fun _ => rfl) (by decide) es (fun j x hx i hi => ?_) j u hu
  obtain ⟨h1, h2⟩ := hc j x hx
  have : i = 0 ∨ i = 1 := by omega
  rcases this with rfl | rfl
  ·exact h1
  ·exact h2
 ·rcases Nat.eq_zero_or_pos n with h0 | h0
  ·exact h0
  ·obtain ⟨g, off, hA, _⟩ := h.2 h0
   rw [hA] at e; cases e
theorem KeepT.trans {t : TypeId} {a b c : World} (h : KeepT t a b) (k : KeepT t b c) : KeepT t a c :=
 ⟨Nat.le_trans h.size k.size, fun x cur hx => (k.same x cur ((h.same x cur hx).trans hx)).trans (h.same x cur hx)⟩
def OutAt (w : World) (P : Nat) (a b c : Value) : Prop := w.heap[P]? = some (.cells #[a, b, c] 27 (0, 0))
theorem OutAt.get {w : World} {P : Nat} {a b c : Value} (h : OutAt w P a b c) : w.cell? ⟨P, 0, none⟩ = some a ∧ w.cell? ⟨P, 1, none⟩ = some b ∧ w.cell? ⟨P, 2, none⟩ = some c ∧ ∀ j, w.frozen? ⟨P, j, none⟩ = false := by
 refine ⟨?_, ?_, ?_, fun j => frozen_of_row w P j _ _ h⟩ <;> (rw [cell_of_row w P _ _ _ (0, 0) h]; rfl)
theorem OutAt.three {w : World} {R : Nat} {a b c : Value} (h : OutAt w R a b c) (x y z : Value) : ∃ w', ((w.setCell ⟨R, 0, none⟩ x).setCell ⟨R, 1, none⟩ y).setCell ⟨R, 2, none⟩ z = w' ∧ OutAt w' R x y z ∧ (∀ t, 27 ≠ t → KeepT t w w') ∧ ∀ (B : Nat) (u : World), B ≤ R → Below B u w → Below B u w' := by
 have h1 : OutAt (w.setCell ⟨R, 0, none⟩ x) R x b c := heap_setCell_same w R 0 _ _ _ h
 have h2 : OutAt ((w.setCell ⟨R, 0, none⟩ x).setCell ⟨R, 1, none⟩ y) R x y c := heap_setCell_same _ R 1 _ _ _ h1
 exact ⟨_, rfl, heap_setCell_same _ R 2 _ _ _ h2, fun t ht => ((KeepT.set h ht).trans (KeepT.set h1 ht)).trans (KeepT.set h2 ht), fun B u hB hb => ((hb.setCell hB _).setCell hB _).setCell hB _⟩
theorem row_empty (w : World) (B : Nat) (e : TypeId) (k : Nat) (hB : B ≤ w.heap.size) : (w.alloc (.cells #[] e)).ownsRow B e k (.slice (some ⟨w.heap.size, 0, .none⟩) 0 0) 0 [] :=
 ⟨by simp, Or.inr ⟨w.heap.size, 0, #[], rfl, hB, heap_alloc_new w _, Nat.le_refl _, Nat.zero_le _, by simp, by simp⟩⟩
theorem enV_one (es : List En) : ∀ u ∈ es.flatMap enV, u.oneCell' = true := by
 intro u hu
 obtain ⟨e, _, he⟩ := List.mem_flatMap.1 hu
 simp [enV] at he
 rcases he with rfl | rfl <;> rfl
theorem dsV_one (es : List Ds) : ∀ u ∈ es.flatMap dsV, u.oneCell' = true := by
 intro u hu
 obtain ⟨e, _, he⟩ := List.mem_flatMap.1 hu
 simp [dsV] at he
 rcases he with rfl | rfl | rfl <;> rfl
def caV (c : Ca) : Value := .agg #[.int .i64 c.kind, .int .i64 c.core, .int .i64 c.fd, .int .i64 c.off, .int .i64 c.num, .string c.path, .string c.path2, .string c.data]
theorem box_ca (w : World) (c : Ca) : ∃ W, w.alloc (.cells #[.int .i64 c.kind, .int .i64 c.core, .int .i64 c.fd, .int .i64 c.off, .int .i64 c.num, .string c.path, .string c.path2, .string c.data] 35) = W ∧
  W.heap[w.heap.size]? = some (.cells #[.int .i64 c.kind, .int .i64 c.core, .int .i64 c.fd, .int .i64 c.off, .int .i64 c.num, .string c.path, .string c.path2, .string c.data] 35 (0, 0)) ∧ Below w.heap.size w W ∧ W.heap.size = w.heap.size + 1 :=
 ⟨_, rfl, heap_alloc_new w _, (Below.refl _ _).alloc (Nat.le_refl _) _, by simp⟩
def ResAt (w : World) (g : Nat) (a b c d e f : Value) : Prop := w.heap[g]? = some (.cells #[a, b, c, d, e, f] 31 (0, 0))
theorem ResAt.lt {w : World} {g : Nat} {a b c d e f : Value} (h : ResAt w g a b c d e f) : g < w.heap.size := (Array.getElem?_eq_some_iff.1 h).1
theorem ResAt.get {w : World} {g : Nat} {a b c d e f : Value} (h : ResAt w g a b c d e f) : w.cell? ⟨g, 0, none⟩ = some a ∧ w.cell? ⟨g, 1, none⟩ = some b ∧ w.cell? ⟨g, 2, none⟩ = some c ∧ w.cell? ⟨g, 3, none⟩ = some d ∧ w.cell? ⟨g, 4, none⟩ = some e ∧ w.cell? ⟨g, 5, none⟩ = some f ∧ ∀ j, w.frozen? ⟨g, j, none⟩ = false := by
 refine ⟨?_, ?_, ?_, ?_, ?_, ?_, fun j => frozen_of_row w g j _ _ h⟩ <;> (rw [cell_of_row w g _ _ _ (0, 0) h]; rfl)
theorem ResAt.six {w : World} {g : Nat} {a b c d e f : Value} (h : ResAt w g a b c d e f) (a' b' c' d' e' f' : Value) :
  ∃ w', (((((w.setCell ⟨g, 0, none⟩ a').setCell ⟨g, 1, none⟩ b').setCell ⟨g, 2, none⟩ c').setCell ⟨g, 3, none⟩ d').setCell ⟨g, 4, none⟩ e').setCell ⟨g, 5, none⟩ f' = w' ∧ ResAt w' g a' b' c' d' e' f' ∧
   (∀ t, 31 ≠ t → KeepT t w w') ∧ (∀ (B : Nat) (u : World), B ≤ g → Below B u w → Below B u w') ∧ (∀ b, b ≠ g → w'.heap[b]? = w.heap[b]?) ∧ w.heap.size ≤ w'.heap.size := by
 have h0 : ResAt (w.setCell ⟨g, 0, none⟩ a') g a' b c d e f := heap_setCell_same _ g 0 _ _ _ h
 have h1 : ResAt ((w.setCell ⟨g, 0, none⟩ a').setCell ⟨g, 1, none⟩ b') g a' b' c d e f := heap_setCell_same _ g 1 _ _ _ h0
 have h2 : ResAt (((w.setCell ⟨g, 0, none⟩ a').setCell ⟨g, 1, none⟩ b').setCell ⟨g, 2, none⟩ c') g a' b' c' d e f := heap_setCell_same _ g 2 _ _ _ h1
 have h3 : ResAt ((((w.setCell ⟨g, 0, none⟩ a').setCell ⟨g, 1, none⟩ b').setCell ⟨g, 2, none⟩ c').setCell ⟨g, 3, none⟩ d') g a' b' c' d' e f := heap_setCell_same _ g 3 _ _ _ h2
 have h4 : ResAt (((((w.setCell ⟨g, 0, none⟩ a').setCell ⟨g, 1, none⟩ b').setCell ⟨g, 2, none⟩ c').setCell ⟨g, 3, none⟩ d').setCell ⟨g, 4, none⟩ e') g a' b' c' d' e' f := heap_setCell_same _ g 4 _ _ _ h3
 exact ⟨_, rfl, heap_setCell_same _ g 5 _ _ _ h4, fun t ht => (((((KeepT.set h ht).trans (KeepT.set h0 ht)).trans (KeepT.set h1 ht)).trans (KeepT.set h2 ht)).trans (KeepT.set h3 ht)).trans (KeepT.set h4 ht), fun B u hB hb => (((((hb.setCell hB _).setCell hB _).setCell hB _).setCell hB _).setCell hB _).setCell hB _, fun b hb => by
  rw [Below.heap_setCell _ _ _ _ hb, Below.heap_setCell _ _ _ _ hb, Below.heap_setCell _ _ _ _ hb, Below.heap_setCell _ _ _ _ hb, Below.heap_setCell _ _ _ _ hb, Below.heap_setCell _ _ _ _ hb], by simp [World.setCell]⟩
theorem dropI_mem : ∀ (is : List Ino) (num : Int) (x : Ino), x ∈ dropI is num → x ∈ is
 | [], _, _, h => by simp [dropI] at h
 | y :: is, num, x, h => by
  unfold dropI at h
  split at h
  ·exact List.mem_cons_of_mem _ (dropI_mem is num x h)
  ·rcases List.mem_cons.1 h with rfl | h
   ·exact List.mem_cons_self
   ·exact List.mem_cons_of_mem _ (dropI_mem is num x h)
theorem dropI_len : ∀ (is : List Ino) (num : Int), (dropI is num).length ≤ is.length ∧ bulkE (dropI is num) ≤ bulkE is
 | [], _ => ⟨Nat.le_refl _, Nat.le_refl _⟩
 | y :: is, num => by
  have ⟨h1, h2⟩ := dropI_len is num
  have e : bulkE (y :: is) = y.ents.length + bulkE is := rfl
  unfold dropI
  split
  ·exact ⟨by rw [List.length_cons]; omega, by omega⟩
  ·have e' : bulkE (y :: dropI is num) = y.ents.length + bulkE (dropI is num) := rfl
   exact ⟨by rw [List.length_cons, List.length_cons]; omega, by omega⟩
def caRow (c : Ca) : Obj := .cells #[.int .i64 c.kind, .int .i64 c.core, .int .i64 c.fd, .int .i64 c.off, .int .i64 c.num, .string c.path, .string c.path2, .string c.data] 35 (0, 0)
end Go.Proofs.YtndcloohcfhejaaGreat
