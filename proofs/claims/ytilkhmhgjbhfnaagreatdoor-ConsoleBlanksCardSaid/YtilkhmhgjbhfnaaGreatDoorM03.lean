/- Parts of the proof, side by side: StOwn, FsPut, FsDrop, NameHash, FsEnts, FsCopy, FsMake, FsSweep. -/
import Derived.Test.YtilkhmhgjbhfnaaGreatDoorM01
import Derived.Laws.Rows
import Derived.Test.YtilkhmhgjbhfnaaGreatDoorM02
import Derived.Handy
import Derived.Deep.Cut
import Derived.Deep.DeepCutAuto
import Derived.Deep.RegionHeld3
set_option linter.unusedVariables false
set_option linter.unusedSimpArgs false
namespace Go.Proofs.YtilkhmhgjbhfnaaGreatDoor
open Go.RowKit
structure KeepT (t : TypeId) (w w' : World) : Prop where
 size : w.heap.size ≤ w'.heap.size
 same : ∀ (b : Nat) (cur : Array Value), w.heap[b]? = some (.cells cur t (0, 0)) → w'.heap[b]? = w.heap[b]?
theorem KeepT.below {t : TypeId} {w w' : World} (h : Below w.heap.size w w') : KeepT t w w' := ⟨h.size, fun b cur hb => h.block b (Array.getElem?_eq_some_iff.1 hb).1⟩
theorem KeepT.set {w : World} {g k : Nat} {u : Value} {cur : Array Value} {t t' : TypeId} (h : w.heap[g]? = some (.cells cur t' (0, 0))) (hne : t' ≠ t) : KeepT t w (w.setCell ⟨g, k, none⟩ u) :=
 ⟨by simp [World.setCell], fun b c hb => Below.heap_setCell w ⟨g, k, none⟩ u b (fun e => by
  have e2 : b = g := e
  subst e2
  rw [h] at hb
  injection hb with hb
  injection hb with _ hb _
  exact hne hb)⟩
theorem KeepT.mine {t : TypeId} {w w' : World} {B g : Nat} (h : KeepT t w w') (hm : Mine (some B) t w g) : Mine (some B) t w' g ∧ w'.heap[g]? = w.heap[g]? := by
 obtain ⟨h1, cur, h2⟩ := hm B rfl
 refine ⟨fun C hC => ?_, h.same g cur h2⟩
 cases hC
 exact ⟨h1, cur, (h.same g cur h2).trans h2⟩
theorem cell_same {w w' : World} {g : Nat} (h : w'.heap[g]? = w.heap[g]?) (j : Nat) : w'.cell? ⟨g, j, none⟩ = w.cell? ⟨g, j, none⟩ := by
 unfold World.cell?
 simp only [h]
theorem EntsAt.keep {B : Nat} {w w' : World} {A : Option Addr} {n : Nat} {es : List En} (h : EntsAt (some B) w A n es) (hk : KeepT 131 w w') : EntsAt (some B) w' A n es :=
 ⟨h.1, fun hn => by
  obtain ⟨g, off, hA, hg, hm, hc⟩ := h.2 hn
  obtain ⟨m1, m2⟩ := hk.mine hm
  exact ⟨g, off, hA, Nat.lt_of_lt_of_le hg hk.size, m1, fun j e he => ⟨(cell_same m2 _).trans (hc j e he).1, (cell_same m2 _).trans (hc j e he).2⟩⟩⟩
theorem DescsAt.keep {B : Nat} {w w' : World} {A : Option Addr} {n : Nat} {ds : List Ds} (h : DescsAt (some B) w A n ds) (hk : KeepT 97 w w') : DescsAt (some B) w' A n ds :=
 ⟨h.1, fun hn => by
  obtain ⟨g, off, hA, hg, hm, hc⟩ := h.2 hn
  obtain ⟨m1, m2⟩ := hk.mine hm
  exact ⟨g, off, hA, Nat.lt_of_lt_of_le hg hk.size, m1, fun j e he => ⟨(cell_same m2 _).trans (hc j e he).1, (cell_same m2 _).trans (hc j e he).2.1, (cell_same m2 _).trans (hc j e he).2.2⟩⟩⟩
theorem IntsAt.keep {B : Nat} {w w' : World} {A : Option Addr} {n : Nat} {xs : List Int} (h : IntsAt (some B) w A n xs) (hk : KeepT 3 w w') : IntsAt (some B) w' A n xs :=
 ⟨h.1, fun hn => by
  obtain ⟨g, off, hA, hg, hm, hc⟩ := h.2 hn
  obtain ⟨m1, m2⟩ := hk.mine hm
  exact ⟨g, off, hA, Nat.lt_of_lt_of_le hg hk.size, m1, fun j x hx => (cell_same m2 _).trans (hc j x hx)⟩⟩
theorem InosAt.keep {B : Nat} {w w' : World} {A : Option Addr} {n : Nat} {is : List Ino} (h : InosAt (some B) w A n is) (hk : KeepT 65 w w') (he : KeepT 131 w w') : InosAt (some B) w' A n is :=
 ⟨h.1, fun hn => by
  obtain ⟨g, off, hA, hg, hm, hc⟩ := h.2 hn
  obtain ⟨m1, m2⟩ := hk.mine hm
  refine ⟨g, off, hA, Nat.lt_of_lt_of_le hg hk.size, m1, fun j x hx => ?_⟩
  obtain ⟨h1, h2, ⟨E, m, c, h3, h4, h5⟩, h6⟩ := hc j x hx
  exact ⟨(cell_same m2 _).trans h1, (cell_same m2 _).trans h2, ⟨E, m, c, (cell_same m2 _).trans h3, h4, h5.keep he⟩, (cell_same m2 _).trans h6⟩⟩
structure Own (B : Nat) (w : World) (p : Nat) (s : St) : Prop where
 at_ : ∃ A n c E m d D k e, B ≤ p ∧ w.heap[p]? = some (.cells #[.slice A n c, .slice E m d, .slice D k e] 31 (0, 0)) ∧ InosAt (some B) w A n s.inos ∧ DescsAt (some B) w E m s.opn ∧ IntsAt (some B) w D k s.made ∧ SlOk A n c ∧ SlOk E m d ∧ SlOk D k e
 sized : Sized s
theorem Own.below {B : Nat} {w w' : World} {p : Nat} {s : St} (h : Own B w p s) (hb : Below w.heap.size w w') : Own B w' p s := by
 obtain ⟨⟨A, n, c, E, m, d, D, k, e, h0, h1, h2, h3, h4, h5, h6, h7⟩, hz⟩ := h
 exact ⟨⟨A, n, c, E, m, d, D, k, e, h0, (hb.block p (Array.getElem?_eq_some_iff.1 h1).1).trans h1, h2.below hb, h3.below hb, h4.below hb, h5, h6, h7⟩, hz⟩
theorem Own.drewN {B : Nat} {w : World} {p : Nat} {s : St} (h : Own B w p s) (q : Nat) : Own B (w.drewN q) p s := ⟨h.at_, h.sized⟩
theorem Own.val {B : Nat} {w : World} {p : Nat} {s : St} (h : Own B w p s) : ∃ A n c E m d D k e, B ≤ p ∧ p < w.heap.size ∧ w.cell? ⟨p, 0, none⟩ = some (.slice A n c) ∧ w.cell? ⟨p, 1, none⟩ = some (.slice E m d) ∧ w.cell? ⟨p, 2, none⟩ = some (.slice D k e) ∧ (∀ j, w.frozen? ⟨p, j, none⟩ = false) ∧
  StAt (some B) w (.agg #[.slice A n c, .slice E m d, .slice D k e]) s ∧ InosAt (some B) w A n s.inos ∧ DescsAt (some B) w E m s.opn ∧ IntsAt (some B) w D k s.made := by
 obtain ⟨⟨A, n, c, E, m, d, D, k, e, h0, h1, h2, h3, h4, h5, h6, h7⟩, hz⟩ := h
 refine ⟨A, n, c, E, m, d, D, k, e, h0, (Array.getElem?_eq_some_iff.1 h1).1, ?_, ?_, ?_, fun j => frozen_of_row w p j _ _ h1, ⟨⟨A, n, c, E, m, d, D, k, e, rfl, h2, h3, h4, h5, h6, h7⟩, hz⟩, h2, h3, h4⟩ <;> (rw [cell_of_row w p _ _ _ (0, 0) h1]; rfl)
theorem InosAt.set {B : Nat} {w : World} {g off n : Nat} {is : List Ino} (h : InosAt (some B) w (some ⟨g, off, none⟩) n is) (i a : Nat) (x y : Ino) (u : Value) (hx : is[i]? = some x) (ha : a = 2 ∨ a = 3) (hnum : y.num = x.num) (hdir : y.dir = x.dir)
  (h2 : a = 2 → y.data = x.data ∧ ∃ A m c, u = .slice A m c ∧ SlOk A m c ∧ EntsAt (some B) w A m y.ents) (h3 : a = 3 → u = .string y.data ∧ y.ents = x.ents) :
  InosAt (some B) (w.setCell ⟨g, off + i * 4 + a, none⟩ u) (some ⟨g, off, none⟩) n (is.set i y) := by
 refine ⟨by rw [List.length_set]; exact h.1, fun hn => ?_⟩
 obtain ⟨g', off', hA, hg, hm, hc⟩ := h.2 hn
 injection hA with hA
 injection hA with hA1 hA2
 subst hA1 hA2
 obtain ⟨hB, cur, hcur⟩ := hm B rfl
 have hkE : KeepT 131 w (w.setCell ⟨g, off + i * 4 + a, none⟩ u) := KeepT.set hcur (by decide)
 have other : ∀ k, k ≠ off + i * 4 + a → (w.setCell ⟨g, off + i * 4 + a, none⟩ u).cell? ⟨g, k, none⟩ = w.cell? ⟨g, k, none⟩ := fun k hk => by
  rw [World.cell?_setCell_other _ _ _ _ (fun e => by injection e with _ e; exact hk e.symm)]
 have hil : i < is.length := (List.getElem?_eq_some_iff.1 hx).1
 have same : (w.setCell ⟨g, off + i * 4 + a, none⟩ u).cell? ⟨g, off + i * 4 + a, none⟩ = some u := by
  obtain ⟨_, _, ⟨E, m, c, q3, _⟩, q4⟩ := hc i x hx
  rcases ha with rfl | rfl
  ·exact World.cell?_setCell_same' _ _ _ (by rw [q3]; rfl)
  ·exact World.cell?_setCell_same' _ _ _ (by rw [q4]; rfl)
 refine ⟨g, off, rfl, by simpa [World.setCell] using hg, fun C hC => ?_, fun j z hz => ?_⟩
 ·cases hC
  exact ⟨hB, _, heap_setCell_same w g _ _ _ _ hcur⟩
 ·rw [List.getElem?_set] at hz
  by_cases hj : i = j
  ·subst hj
   rw [if_pos rfl, if_pos hil] at hz
   injection hz with hz
   subst hz
   obtain ⟨q1, q2, ⟨E, m, c, q3, q5, q6⟩, q4⟩ := hc i x hx
   rcases ha with rfl | rfl
   ·obtain ⟨hd, A', m', c', hu, hmc, hE⟩ := h2 rfl
    refine ⟨?_, ?_, ⟨A', m', c', ?_, hmc, hE.keep hkE⟩, ?_⟩
    ·rw [other _ (by omega), hnum]; exact q1
    ·rw [other _ (by omega), hdir]; exact q2
    ·rw [same, hu]
    ·rw [other _ (by omega), hd]; exact q4
   ·obtain ⟨hu, hE⟩ := h3 rfl
    refine ⟨?_, ?_, ⟨E, m, c, ?_, q5, ?_⟩, ?_⟩
    ·rw [other _ (by omega), hnum]; exact q1
    ·rw [other _ (by omega), hdir]; exact q2
    ·rw [other _ (by omega)]; exact q3
    ·rw [hE]; exact q6.keep hkE
    ·rw [same, hu]
  ·rw [if_neg hj] at hz
   obtain ⟨q1, q2, ⟨E, m, c, q3, q5, q6⟩, q4⟩ := hc j z hz
   have ha4 : a < 4 := by rcases ha with rfl | rfl <;> decide
   refine ⟨?_, ?_, ⟨E, m, c, ?_, q5, q6.keep hkE⟩, ?_⟩
   ·rw [other _ (by omega)]; exact q1
   ·rw [other _ (by omega)]; exact q2
   ·rw [other _ (by omega)]; exact q3
   ·rw [other _ (by omega)]; exact q4
theorem IntsAt.set {B : Nat} {w : World} {g off n : Nat} {xs : List Int} (h : IntsAt (some B) w (some ⟨g, off, none⟩) n xs) (i : Nat) (y : Int) (hi : i < n) : IntsAt (some B) (w.setCell ⟨g, off + i, none⟩ (.int .i64 y)) (some ⟨g, off, none⟩) n (xs.set i y) := by
 refine ⟨by rw [List.length_set]; exact h.1, fun hn => ?_⟩
 obtain ⟨g', off', hA, hg, hm, hc⟩ := h.2 hn
 injection hA with hA
 injection hA with hA1 hA2
 subst hA1 hA2
 obtain ⟨hB, cur, hcur⟩ := hm B rfl
 have hil : i < xs.length := by rw [h.1]; exact hi
 refine ⟨g, off, rfl, by simpa [World.setCell] using hg, fun C hC => ?_, fun j z hz => ?_⟩
 ·cases hC
  exact ⟨hB, _, heap_setCell_same w g _ _ _ _ hcur⟩
 ·rw [List.getElem?_set] at hz
  by_cases hj : i = j
  ·subst hj
   rw [if_pos rfl, if_pos hil] at hz
   injection hz with hz
   subst hz
   exact World.cell?_setCell_same' _ _ _ (by rw [hc i _ (List.getElem?_eq_getElem hil)]; rfl)
  ·rw [if_neg hj] at hz
   rw [World.cell?_setCell_other _ _ _ _ (fun e => by injection e with _ e; omega)]
   exact hc j z hz
theorem InosAt.free {B : Nat} {w : World} {g off n : Nat} {is : List Ino} (h : InosAt (some B) w (some ⟨g, off, none⟩) n is) (hn : 0 < n) : B ≤ g ∧ ∀ j, w.frozen? ⟨g, j, none⟩ = false := by
 obtain ⟨g', off', hA, hg, hm, hc⟩ := h.2 hn
 injection hA with hA
 injection hA with hA1 hA2
 subst hA1 hA2
 obtain ⟨hB, cur, hcur⟩ := hm B rfl
 exact ⟨hB, fun j => frozen_of_row w g j _ _ hcur⟩
theorem IntsAt.free {B : Nat} {w : World} {g off n : Nat} {xs : List Int} (h : IntsAt (some B) w (some ⟨g, off, none⟩) n xs) (hn : 0 < n) : B ≤ g ∧ ∀ j, w.frozen? ⟨g, j, none⟩ = false := by
 obtain ⟨g', off', hA, hg, hm, hc⟩ := h.2 hn
 injection hA with hA
 injection hA with hA1 hA2
 subst hA1 hA2
 obtain ⟨hB, cur, hcur⟩ := hm B rfl
 exact ⟨hB, fun j => frozen_of_row w g j _ _ hcur⟩
theorem EntsAt.mono {B B' : Nat} {w : World} {A : Option Addr} {n : Nat} {es : List En} (h : EntsAt (some B) w A n es) (hb : B' ≤ B) : EntsAt (some B') w A n es :=
 ⟨h.1, fun hn => by
  obtain ⟨g, off, hA, hg, hm, hc⟩ := h.2 hn
  exact ⟨g, off, hA, hg, hm.mono hb, hc⟩⟩
theorem DescsAt.mono {B B' : Nat} {w : World} {A : Option Addr} {n : Nat} {ds : List Ds} (h : DescsAt (some B) w A n ds) (hb : B' ≤ B) : DescsAt (some B') w A n ds :=
 ⟨h.1, fun hn => by
  obtain ⟨g, off, hA, hg, hm, hc⟩ := h.2 hn
  exact ⟨g, off, hA, hg, hm.mono hb, hc⟩⟩
theorem IntsAt.mono {B B' : Nat} {w : World} {A : Option Addr} {n : Nat} {xs : List Int} (h : IntsAt (some B) w A n xs) (hb : B' ≤ B) : IntsAt (some B') w A n xs :=
 ⟨h.1, fun hn => by
  obtain ⟨g, off, hA, hg, hm, hc⟩ := h.2 hn
  exact ⟨g, off, hA, hg, hm.mono hb, hc⟩⟩
theorem InosAt.mono {B B' : Nat} {w : World} {A : Option Addr} {n : Nat} {is : List Ino} (h : InosAt (some B) w A n is) (hb : B' ≤ B) : InosAt (some B') w A n is :=
 ⟨h.1, fun hn => by
  obtain ⟨g, off, hA, hg, hm, hc⟩ := h.2 hn
  refine ⟨g, off, hA, hg, hm.mono hb, fun j x hx => ?_⟩
  obtain ⟨h1, h2, ⟨E, m, c, h3, h4, h5⟩, h6⟩ := hc j x hx
  exact ⟨h1, h2, ⟨E, m, c, h3, h4, h5.mono hb⟩, h6⟩⟩
theorem modify_set {α : Type} (f : α → α) (l : List α) (i : Nat) (x : α) (h : l[i]? = some x) : l.modify i f = l.set i (f x) := by
 apply List.ext_getElem?
 intro j
 rw [List.getElem?_modify, List.getElem?_set]
 by_cases e : i = j
 ·subst e
  have hl : i < l.length := (List.getElem?_eq_some_iff.1 h).1
  simp [hl, (List.getElem?_eq_some_iff.1 h).2]
 ·cases hj : l[j]? <;> simp [e, hj]
structure Aside (p : Nat) (w w' : World) : Prop where
 size : w.heap.size ≤ w'.heap.size
 same : ∀ (b : Nat) (cur : Array Value) (t : TypeId), w.heap[b]? = some (.cells cur t (0, 0)) → 65 ≠ t → 3 ≠ t → b ≠ p → w'.heap[b]? = w.heap[b]?
theorem Aside.below {p : Nat} {w w' : World} (h : Below w.heap.size w w') : Aside p w w' := ⟨h.size, fun b cur t hb _ _ _ => h.block b (Array.getElem?_eq_some_iff.1 hb).1⟩
theorem Aside.trans {p : Nat} {a b c : World} (h : Aside p a b) (k : Aside p b c) : Aside p a c :=
 ⟨Nat.le_trans h.size k.size, fun x cur t hx h1 h2 h3 => (k.same x cur t ((h.same x cur t hx h1 h2 h3).trans hx) h1 h2 h3).trans (h.same x cur t hx h1 h2 h3)⟩
theorem Aside.set {p : Nat} {w : World} {g k : Nat} {u : Value} {cur : Array Value} {t : TypeId} (h : w.heap[g]? = some (.cells cur t (0, 0))) (ht : t = 65 ∨ t = 3 ∨ g = p) : Aside p w (w.setCell ⟨g, k, none⟩ u) :=
 ⟨by simp [World.setCell], fun b c t' hb h1 h2 h3 => Below.heap_setCell w ⟨g, k, none⟩ u b (fun e => by
  have e2 : b = g := e
  subst e2
  rw [h] at hb
  injection hb with hb
  injection hb with _ hb _
  rcases ht with ht | ht | ht
  ·exact h1 (ht.symm.trans hb)
  ·exact h2 (ht.symm.trans hb)
  ·exact h3 ht)⟩
theorem putE_len : ∀ (es : List En) (name : ByteArray) (num : Int), (putE es name num).length = es.length + 1
 | [], _, _ => rfl
 | e :: es, name, num => by
  unfold putE
  split
  ·simp
  ·rw [List.length_cons, putE_len es, List.length_cons]
theorem dropE_len : ∀ (es : List En) (name : ByteArray), (dropE es name).length ≤ es.length
 | [], _ => Nat.le_refl _
 | e :: es, name => by
  unfold dropE
  have := dropE_len es name
  split <;> simp <;> omega
set_option maxHeartbeats 400000 in
theorem hash_any (s : ByteArray) (w : World) (hs : s.size ≤ maxLen) :
  Calls Tryz.prog 34 #[.string s] w fun e w' => e = .returned (.int .i64 ((hashL s.data.toList : Nat) : Int)) ∧ Below w.heap.size w w' := by
 unfold maxLen at hs
 go_enter Tryz.func34, Tryz.ntmps34
 go_wp2
 go_loopw [3] (fun n w' => ∃ (pos acc : Nat), w' = w.iter s pos ∧ n = .int .u32 acc ∧ acc < 4294967296 ∧ hashFrom (s.data.toList.drop pos) acc = hashL s.data.toList) (fun _ w' => s.size - w'.iterPos w.heap.size)
 case atStart => exact ⟨0, 7, rfl, rfl, by omega, by simp [hashL]⟩
 case round =>
  obtain ⟨pos, acc, rfl, rfl, hacc, hc⟩ := hrel
  by_cases hp : pos < s.size
  ·have hd := decode_list s pos
   have hw := decodeL_width (s.data.toList.drop pos)
   have hle := decodeL_le (s.data.toList.drop pos)
   have hcc := hashFrom_cons _ acc (drop_ne hp)
   rw [hcc, ← hd] at hc
   rw [← hd] at hw hle
   have hnx : ∀ ty, (Instr.next (.pointer (some ⟨w.heap.size, 0, none⟩)) true ty).run Tryz.prog (w.iter s pos) = _ := fun ty => run_next_any w s pos ty hp
   have Hc := Lib.hid hc
   clear hd hcc hc
   go_wp2
   go_roundw
   case rel => exact ⟨pos + (Utf8.decode s pos).2, hashStep acc (Utf8.decode s pos), rfl, valv_int (by unfold hashStep; omega), hashStep_lt _ _, by have := Hc.out; rw [List.drop_drop] at this; exact this⟩
   case measure => simp; omega
  ·have hnx : ∀ ty, (Instr.next (.pointer (some ⟨w.heap.size, 0, none⟩)) true ty).run Tryz.prog (w.iter s pos) = _ := fun ty => run_next_end w s pos ty hp
   rw [drop_all hp] at hc
   have Hc := Lib.hid hc
   clear hc
   go_wp2
   go_ret
   exact ⟨retv_int (by have := Hc.out; rw [hashFrom_nil] at this; omega), below_iter _ _ _⟩
theorem box_ino (w : World) (num : Int) (dir : Bool) (E : Option Addr) (m d : Nat) (data : ByteArray) : ∃ W, w.alloc (.cells #[.int .i64 num, .bool dir, .slice E m d, .string data] 65) = W ∧ W.cell? ⟨w.heap.size, 0, .none⟩ = some (.int .i64 num) ∧ W.cell? ⟨w.heap.size, 1, .none⟩ = some (.bool dir) ∧ W.cell? ⟨w.heap.size, 2, .none⟩ = some (.slice E m d) ∧ W.cell? ⟨w.heap.size, 3, .none⟩ = some (.string data) ∧ Below w.heap.size w W ∧ w.heap.size < W.heap.size := by
 refine ⟨_, rfl, ?_, ?_, ?_, ?_, (Below.refl _ _).alloc (Nat.le_refl _) _, by simp⟩
 ·exact (World.cell?_alloc_mark w _ _ (0, 0) _).trans rfl
 ·exact (World.cell?_alloc_mark w _ _ (0, 0) _).trans rfl
 ·exact (World.cell?_alloc_mark w _ _ (0, 0) _).trans rfl
 ·exact (World.cell?_alloc_mark w _ _ (0, 0) _).trans rfl
theorem box_en (w : World) (name : ByteArray) (num : Int) : ∃ W, w.alloc (.cells #[.string name, .int .i64 num] 131) = W ∧ W.cell? ⟨w.heap.size, 0, .none⟩ = some (.string name) ∧ W.cell? ⟨w.heap.size, 1, .none⟩ = some (.int .i64 num) ∧ Below w.heap.size w W ∧ w.heap.size < W.heap.size := by
 refine ⟨_, rfl, ?_, ?_, (Below.refl _ _).alloc (Nat.le_refl _) _, by simp⟩
 ·exact (World.cell?_alloc_mark w _ _ (0, 0) _).trans rfl
 ·exact (World.cell?_alloc_mark w _ _ (0, 0) _).trans rfl
def ManyAt (w : World) (M : Nat) (f : Nat → Nat) : Prop := ∃ cur : Array Value, w.heap[M]? = some (.cells cur 3 (0, 0)) ∧ ∀ j, j < 8 → cur[j]? = some (.int .i64 (f j : Nat))
theorem ManyAt.lt {w : World} {M : Nat} {f : Nat → Nat} (h : ManyAt w M f) : M < w.heap.size := by
 obtain ⟨cur, hh, _⟩ := h
 exact (Array.getElem?_eq_some_iff.1 hh).1
theorem ManyAt.below {w w' : World} {M : Nat} {f : Nat → Nat} (h : ManyAt w M f) (hb : Below w.heap.size w w') : ManyAt w' M f := by
 have hl := h.lt
 obtain ⟨cur, hh, hc⟩ := h
 exact ⟨cur, (hb.block M hl).trans hh, hc⟩
theorem ManyAt.get {w : World} {M : Nat} {f : Nat → Nat} (h : ManyAt w M f) (j : Nat) (hj : j < 8) : w.cell? ⟨M, j, .none⟩ = some (.int .i64 (f j : Nat)) ∧ w.frozen? ⟨M, j, .none⟩ = false := by
 obtain ⟨cur, hh, hc⟩ := h
 exact ⟨by rw [cell_of_row w M j cur _ (0, 0) hh]; exact hc j hj, frozen_of_row w M j cur _ hh⟩
theorem ManyAt.set {w : World} {M : Nat} {f : Nat → Nat} (h : ManyAt w M f) (b : Nat) (hb : b < 8) : ManyAt (w.setCell ⟨M, b, .none⟩ (.int .i64 ((f b : Int) + 1))) M (fun j => if j = b then f j + 1 else f j) := by
 obtain ⟨cur, hh, hc⟩ := h
 refine ⟨_, heap_setCell_same w M b cur _ _ hh, fun j hj => ?_⟩
 rw [Array.getElem?_setIfInBounds]
 by_cases e : b = j
 ·subst e
  have : b < cur.size := (Array.getElem?_eq_some_iff.1 (hc b hb)).1
  simp [this]
 ·have e2 : ¬ j = b := fun h => e h.symm
  simp only [e, e2, if_false]
  exact hc j hj
def prevN (es : List En) (k : Nat) : Option ByteArray := if k = 0 then none else (es[k - 1]?).map (·.name)
theorem bktB_lt (s : ByteArray) : bktB s < 8 := Nat.mod_lt _ (by omega)
theorem infoEnt : (Tryz.prog.info? 131).map (fun i => (i.zero, i.size, i.bytes)) = some (some (.agg #[.string ⟨#[]⟩, .int .i64 0]), 2, 24) := by kernel_rfl
theorem infoIno : (Tryz.prog.info? 65).map (fun i => (i.zero, i.size, i.bytes)) = some (some (.agg #[.int .i64 0, .bool false, .slice none 0 0, .string ⟨#[]⟩]), 4, 56) := by kernel_rfl
theorem infoDs : (Tryz.prog.info? 97).map (fun i => (i.zero, i.size, i.bytes)) = some (some (.agg #[.int .i64 0, .int .i64 0, .int .i64 0]), 3, 24) := by kernel_rfl
theorem flat_cells {α : Type} {w : World} {g off : Nat} (f : α → List Value) (k : Nat) (hk : ∀ x, (f x).length = k) (h0 : 0 < k) (l : List α) (h : ∀ j x, l[j]? = some x → ∀ i, i < k → w.cell? ⟨g, off + j * k + i, none⟩ = (f x)[i]?) :
  ∀ j u, (l.flatMap f)[j]? = some u → w.cell? ((⟨g, off, none⟩ : Addr).add j) = some u := by
 intro j u hu
 have hl := flat_len f k hk l
 have hjl : j < l.length * k := by rw [← hl]; exact (List.getElem?_eq_some_iff.1 hu).1
 have hq : j / k < l.length := Nat.div_lt_of_lt_mul (by rw [Nat.mul_comm]; exact hjl)
 have hm : j % k < k := Nat.mod_lt _ h0
 have hx := List.getElem?_eq_getElem hq
 have e1 := flat_get f k hk l (j / k) _ hx (j % k) hm
 have e2 : j / k * k + j % k = j := by rw [Nat.mul_comm]; exact Nat.div_add_mod j k
 rw [e2] at e1
 have e3 := h (j / k) _ hx (j % k) hm
 have e4 : (⟨g, off, none⟩ : Addr).add j = ⟨g, off + j, none⟩ := by unfold Addr.add; split <;> simp_all
 rw [e4, ← hu, e1, ← e3]
 congr 2
 omega
theorem wpList_append_flat {P : Program} {w : World} {ops : Array Oper} {rest : List Oper} {o : Oper} {a : Act} {Q : Exit → Act → World → Prop} (hgd : o.guard = none) (s x : Operand) (t e : TypeId) (z : Value) (size bytes : Nat)
  (ho : o.op = .call { callee := .builtin .append, args := #[s, x], argTypes := #[t, t] }) (ht : P.underlying t = some (.slice e)) (hinfo : (P.info? e).map (fun i => (i.zero, i.size, i.bytes)) = some (some z, size, bytes)) (hzs : z.cells.size = size) (hsz : 0 < size)
  (B : Nat) (v : Value) (n : Nat) (xs : List Value) (hs : a.eval s = v) (hown : w.ownsRow B e size v n xs) (A : Option Addr) (m c : Nat) (vs : List Value) (hx : a.eval x = .slice A m c) (hl : vs.length = m * size)
  (hr : ∀ ad, A = some ad → ∀ j u, vs[j]? = some u → w.cell? (ad.add j) = some u) (hn : A = none → m = 0 ∧ c = 0)
  (hone : ∀ u ∈ vs, u.oneCell' = true) (h63 : n + m ≤ maxLen) (hb : (n + m) * bytes ≤ 140737488355328) (hB : B ≤ w.heap.size)
  (h : ∀ v' w', w'.ownsRow B e size v' (n + m) (xs ++ vs) → w.grownBy w' v.ownBlock → wpList P ops Q rest (a.put o.dst v') w') : wpList P ops Q (o :: rest) a w := by
 obtain ⟨i0, hi, hz0, hz1, hz2⟩ := info_parts hinfo
 rcases A with _ | ad
 ·obtain ⟨rfl, rfl⟩ := hn rfl
  have hts : vs = [] := List.eq_nil_of_length_eq_zero (by simpa using hl)
  subst hts
  refine wpList_append_own_none hgd s x t ho B e i0 size ht hi v n xs hs hown hx ?_
  exact h v w (by simpa using hown) ⟨rfl, rfl, rfl, Nat.le_refl _, fun _ _ _ => rfl⟩
 ·refine wpList_append_own w hgd s x t ho B e i0 z size bytes ht hi hz0 hz1 hz2 hzs hsz v n xs hs hown ad m c vs hx hl (hr ad rfl) hone h63 hb hB ?_
  intro v' w' h2 h3 _
  exact h v' w' h2 h3
theorem EntsAt.flat {lo : Option Nat} {w : World} {A : Option Addr} {n c : Nat} {es : List En} (h : EntsAt lo w A n es) (hok : SlOk A n c) : (es.flatMap enV).length = n * 2 ∧ (∀ ad, A = some ad → ∀ j u, (es.flatMap enV)[j]? = some u → w.cell? (ad.add j) = some u) ∧ (A = none → n = 0 ∧ c = 0) := by
 refine ⟨by rw [flat_len enV 2 (fun _ => rfl), h.1], fun ad had j u hu => ?_, fun e => ⟨?_, hok.2 e⟩⟩
 ·have hn : 0 < n := by
   rcases Nat.eq_zero_or_pos n with h0 | h0
   ·have : es = [] := List.eq_nil_of_length_eq_zero (by rw [h.1, h0])
    subst this
    simp at hu
   ·exact h0
  obtain ⟨g, off, hA, hg, hm, hc⟩ := h.2 hn
  rw [hA] at had
  injection had with had
  subst had
  refine flat_cells enV 2 (fun _ => rfl) (by decide) es (fun j x hx i hi => ?_) j u hu
  obtain ⟨h1, h2⟩ := hc j x hx
  have : i = 0 ∨ i = 1 := by omega
  rcases this with rfl | rfl
  ·exact h1
  ·exact h2
 ·rcases Nat.eq_zero_or_pos n with h0 | h0
  ·exact h0
  ·obtain ⟨g, off, hA, _⟩ := h.2 h0
   rw [hA] at e; cases e
theorem DescsAt.flat {lo : Option Nat} {w : World} {A : Option Addr} {n c : Nat} {ds : List Ds} (h : DescsAt lo w A n ds) (hok : SlOk A n c) : (ds.flatMap dsV).length = n * 3 ∧ (∀ ad, A = some ad → ∀ j u, (ds.flatMap dsV)[j]? = some u → w.cell? (ad.add j) = some u) ∧ (A = none → n = 0 ∧ c = 0) := by
 refine ⟨by rw [flat_len dsV 3 (fun _ => rfl), h.1], fun ad had j u hu => ?_, fun e => ⟨?_, hok.2 e⟩⟩
 ·have hn : 0 < n := by
   rcases Nat.eq_zero_or_pos n with h0 | h0
   ·have : ds = [] := List.eq_nil_of_length_eq_zero (by rw [h.1, h0])
    subst this
    simp at hu
   ·exact h0
  obtain ⟨g, off, hA, hg, hm, hc⟩ := h.2 hn
  rw [hA] at had
  injection had with had
  subst had
  refine flat_cells dsV 3 (fun _ => rfl) (by decide) ds (fun j x hx i hi => ?_) j u hu
  obtain ⟨h1, h2, h3⟩ := hc j x hx
  have : i = 0 ∨ i = 1 ∨ i = 2 := by omega
  rcases this with rfl | rfl | rfl
  ·exact h1
  ·exact h2
  ·exact h3
 ·rcases Nat.eq_zero_or_pos n with h0 | h0
  ·exact h0
  ·obtain ⟨g, off, hA, _⟩ := h.2 h0
   rw [hA] at e; cases e
theorem IntsAt.flat {lo : Option Nat} {w : World} {A : Option Addr} {n c : Nat} {xs : List Int} (h : IntsAt lo w A n xs) (hok : SlOk A n c) : (xs.map (Value.int .i64)).length = n * 1 ∧ (∀ ad, A = some ad → ∀ j u, (xs.map (Value.int .i64))[j]? = some u → w.cell? (ad.add j) = some u) ∧ (A = none → n = 0 ∧ c = 0) := by
 refine ⟨by rw [List.length_map, h.1]; omega, fun ad had j u hu => ?_, fun e => ⟨?_, hok.2 e⟩⟩
 ·rw [List.getElem?_map] at hu
  obtain ⟨x, hx, rfl⟩ := Option.map_eq_some_iff.1 hu
  have hn : 0 < n := by have := (List.getElem?_eq_some_iff.1 hx).1; have := h.1; omega
  obtain ⟨g, off, hA, hg, hm, hc⟩ := h.2 hn
  rw [hA] at had
  injection had with had
  subst had
  have e4 : (⟨g, off, none⟩ : Addr).add j = ⟨g, off + j, none⟩ := by unfold Addr.add; split <;> simp_all
  rw [e4]
  exact hc j x hx
 ·rcases Nat.eq_zero_or_pos n with h0 | h0
  ·exact h0
  ·obtain ⟨g, off, hA, _⟩ := h.2 h0
   rw [hA] at e; cases e
theorem KeepT.grown {w w' : World} {B k n : Nat} {t t' : TypeId} {v : Value} {xs : List Value} (h : w.ownsRow B t' k v n xs) (hg : w.grownBy w' v.ownBlock) (hne : t' ≠ t) : KeepT t w w' :=
 ⟨hg.size, fun b cur hb => hg.block b (Array.getElem?_eq_some_iff.1 hb).1 (fun e => by
  rcases h.2 with ⟨rfl, _⟩ | ⟨g, cap, cur', rfl, _, hh, _⟩
  ·cases e
  ·have : b = g := by simpa [Value.ownBlock] using e
   subst this
   rw [hh] at hb
   injection hb with hb
   injection hb with _ hb _
   exact hne hb)⟩
theorem KeepT.trans {t : TypeId} {a b c : World} (h : KeepT t a b) (k : KeepT t b c) : KeepT t a c :=
 ⟨Nat.le_trans h.size k.size, fun x cur hx => (k.same x cur ((h.same x cur hx).trans hx)).trans (h.same x cur hx)⟩
def OutAt (w : World) (P : Nat) (a b c : Value) : Prop := w.heap[P]? = some (.cells #[a, b, c] 31 (0, 0))
theorem OutAt.get {w : World} {P : Nat} {a b c : Value} (h : OutAt w P a b c) : w.cell? ⟨P, 0, none⟩ = some a ∧ w.cell? ⟨P, 1, none⟩ = some b ∧ w.cell? ⟨P, 2, none⟩ = some c ∧ ∀ j, w.frozen? ⟨P, j, none⟩ = false := by
 refine ⟨?_, ?_, ?_, fun j => frozen_of_row w P j _ _ h⟩ <;> (rw [cell_of_row w P _ _ _ (0, 0) h]; rfl)
theorem OutAt.three {w : World} {R : Nat} {a b c : Value} (h : OutAt w R a b c) (x y z : Value) : ∃ w', ((w.setCell ⟨R, 0, none⟩ x).setCell ⟨R, 1, none⟩ y).setCell ⟨R, 2, none⟩ z = w' ∧ OutAt w' R x y z ∧ (∀ t, 31 ≠ t → KeepT t w w') ∧ ∀ (B : Nat) (u : World), B ≤ R → Below B u w → Below B u w' := by
 have h1 : OutAt (w.setCell ⟨R, 0, none⟩ x) R x b c := heap_setCell_same w R 0 _ _ _ h
 have h2 : OutAt ((w.setCell ⟨R, 0, none⟩ x).setCell ⟨R, 1, none⟩ y) R x y c := heap_setCell_same _ R 1 _ _ _ h1
 exact ⟨_, rfl, heap_setCell_same _ R 2 _ _ _ h2, fun t ht => ((KeepT.set h ht).trans (KeepT.set h1 ht)).trans (KeepT.set h2 ht), fun B u hB hb => ((hb.setCell hB _).setCell hB _).setCell hB _⟩
theorem row_empty (w : World) (B : Nat) (e : TypeId) (k : Nat) (hB : B ≤ w.heap.size) : (w.alloc (.cells #[] e)).ownsRow B e k (.slice (some ⟨w.heap.size, 0, .none⟩) 0 0) 0 [] :=
 ⟨by simp, Or.inr ⟨w.heap.size, 0, #[], rfl, hB, heap_alloc_new w _, Nat.le_refl _, Nat.zero_le _, by simp, by simp⟩⟩
theorem enV_one (es : List En) : ∀ u ∈ es.flatMap enV, u.oneCell' = true := by
 intro u hu
 obtain ⟨e, _, he⟩ := List.mem_flatMap.1 hu
 simp [enV] at he
 rcases he with rfl | rfl <;> rfl
theorem dsV_one (es : List Ds) : ∀ u ∈ es.flatMap dsV, u.oneCell' = true := by
 intro u hu
 obtain ⟨e, _, he⟩ := List.mem_flatMap.1 hu
 simp [dsV] at he
 rcases he with rfl | rfl | rfl <;> rfl
def caV (c : Ca) : Value := .agg #[.int .i64 c.kind, .int .i64 c.core, .int .i64 c.fd, .int .i64 c.off, .int .i64 c.num, .string c.path, .string c.path2, .string c.data]
theorem box_ca (w : World) (c : Ca) : ∃ W, w.alloc (.cells #[.int .i64 c.kind, .int .i64 c.core, .int .i64 c.fd, .int .i64 c.off, .int .i64 c.num, .string c.path, .string c.path2, .string c.data] 73) = W ∧
  W.heap[w.heap.size]? = some (.cells #[.int .i64 c.kind, .int .i64 c.core, .int .i64 c.fd, .int .i64 c.off, .int .i64 c.num, .string c.path, .string c.path2, .string c.data] 73 (0, 0)) ∧ Below w.heap.size w W ∧ W.heap.size = w.heap.size + 1 :=
 ⟨_, rfl, heap_alloc_new w _, (Below.refl _ _).alloc (Nat.le_refl _) _, by simp⟩
def ResAt (w : World) (g : Nat) (a b c d e f : Value) : Prop := w.heap[g]? = some (.cells #[a, b, c, d, e, f] 87 (0, 0))
theorem ResAt.lt {w : World} {g : Nat} {a b c d e f : Value} (h : ResAt w g a b c d e f) : g < w.heap.size := (Array.getElem?_eq_some_iff.1 h).1
theorem ResAt.get {w : World} {g : Nat} {a b c d e f : Value} (h : ResAt w g a b c d e f) : w.cell? ⟨g, 0, none⟩ = some a ∧ w.cell? ⟨g, 1, none⟩ = some b ∧ w.cell? ⟨g, 2, none⟩ = some c ∧ w.cell? ⟨g, 3, none⟩ = some d ∧ w.cell? ⟨g, 4, none⟩ = some e ∧ w.cell? ⟨g, 5, none⟩ = some f ∧ ∀ j, w.frozen? ⟨g, j, none⟩ = false := by
 refine ⟨?_, ?_, ?_, ?_, ?_, ?_, fun j => frozen_of_row w g j _ _ h⟩ <;> (rw [cell_of_row w g _ _ _ (0, 0) h]; rfl)
theorem ResAt.six {w : World} {g : Nat} {a b c d e f : Value} (h : ResAt w g a b c d e f) (a' b' c' d' e' f' : Value) :
  ∃ w', (((((w.setCell ⟨g, 0, none⟩ a').setCell ⟨g, 1, none⟩ b').setCell ⟨g, 2, none⟩ c').setCell ⟨g, 3, none⟩ d').setCell ⟨g, 4, none⟩ e').setCell ⟨g, 5, none⟩ f' = w' ∧ ResAt w' g a' b' c' d' e' f' ∧
   (∀ t, 87 ≠ t → KeepT t w w') ∧ (∀ (B : Nat) (u : World), B ≤ g → Below B u w → Below B u w') ∧ (∀ b, b ≠ g → w'.heap[b]? = w.heap[b]?) ∧ w.heap.size ≤ w'.heap.size := by
 have h0 : ResAt (w.setCell ⟨g, 0, none⟩ a') g a' b c d e f := heap_setCell_same _ g 0 _ _ _ h
 have h1 : ResAt ((w.setCell ⟨g, 0, none⟩ a').setCell ⟨g, 1, none⟩ b') g a' b' c d e f := heap_setCell_same _ g 1 _ _ _ h0
 have h2 : ResAt (((w.setCell ⟨g, 0, none⟩ a').setCell ⟨g, 1, none⟩ b').setCell ⟨g, 2, none⟩ c') g a' b' c' d e f := heap_setCell_same _ g 2 _ _ _ h1
 have h3 : ResAt ((((w.setCell ⟨g, 0, none⟩ a').setCell ⟨g, 1, none⟩ b').setCell ⟨g, 2, none⟩ c').setCell ⟨g, 3, none⟩ d') g a' b' c' d' e f := heap_setCell_same _ g 3 _ _ _ h2
 have h4 : ResAt (((((w.setCell ⟨g, 0, none⟩ a').setCell ⟨g, 1, none⟩ b').setCell ⟨g, 2, none⟩ c').setCell ⟨g, 3, none⟩ d').setCell ⟨g, 4, none⟩ e') g a' b' c' d' e' f := heap_setCell_same _ g 4 _ _ _ h3
 exact ⟨_, rfl, heap_setCell_same _ g 5 _ _ _ h4, fun t ht => (((((KeepT.set h ht).trans (KeepT.set h0 ht)).trans (KeepT.set h1 ht)).trans (KeepT.set h2 ht)).trans (KeepT.set h3 ht)).trans (KeepT.set h4 ht), fun B u hB hb => (((((hb.setCell hB _).setCell hB _).setCell hB _).setCell hB _).setCell hB _).setCell hB _, fun b hb => by
  rw [Below.heap_setCell _ _ _ _ hb, Below.heap_setCell _ _ _ _ hb, Below.heap_setCell _ _ _ _ hb, Below.heap_setCell _ _ _ _ hb, Below.heap_setCell _ _ _ _ hb, Below.heap_setCell _ _ _ _ hb], by simp [World.setCell]⟩
theorem Own.keep {B : Nat} {w w' : World} {p : Nat} {s : St} (h : Own B w p s) (hk : ∀ t, 87 ≠ t → KeepT t w w') : Own B w' p s := by
 obtain ⟨⟨A, n, c, E, m, d, D, k, e, h0, h1, h2, h3, h4, h5, h6, h7⟩, hz⟩ := h
 exact ⟨⟨A, n, c, E, m, d, D, k, e, h0, ((hk _ (by decide)).same p _ h1).trans h1, h2.keep (hk _ (by decide)) (hk _ (by decide)), h3.keep (hk _ (by decide)), h4.keep (hk _ (by decide)), h5, h6, h7⟩, hz⟩
theorem dropI_mem : ∀ (is : List Ino) (num : Int) (x : Ino), x ∈ dropI is num → x ∈ is
 | [], _, _, h => by simp [dropI] at h
 | y :: is, num, x, h => by
  unfold dropI at h
  split at h
  ·exact List.mem_cons_of_mem _ (dropI_mem is num x h)
  ·rcases List.mem_cons.1 h with rfl | h
   ·exact List.mem_cons_self
   ·exact List.mem_cons_of_mem _ (dropI_mem is num x h)
theorem dropI_len : ∀ (is : List Ino) (num : Int), (dropI is num).length ≤ is.length ∧ bulkE (dropI is num) ≤ bulkE is
 | [], _ => ⟨Nat.le_refl _, Nat.le_refl _⟩
 | y :: is, num => by
  have ⟨h1, h2⟩ := dropI_len is num
  have e : bulkE (y :: is) = y.ents.length + bulkE is := rfl
  unfold dropI
  split
  ·exact ⟨by rw [List.length_cons]; omega, by omega⟩
  ·have e' : bulkE (y :: dropI is num) = y.ents.length + bulkE (dropI is num) := rfl
   exact ⟨by rw [List.length_cons, List.length_cons]; omega, by omega⟩
theorem Sized.dropI {s : St} (h : Sized s) (num : Int) : Sized { s with inos := Go.Proofs.YtilkhmhgjbhfnaaGreatDoor.dropI s.inos num } := by
 have ⟨h1, h2⟩ := dropI_len s.inos num
 refine ⟨?_, fun x hx => h.text x (dropI_mem _ _ _ hx), fun x hx => h.nums.1 x (dropI_mem _ _ _ hx), h.nums.2⟩
 have := h.big
 show (Go.Proofs.YtilkhmhgjbhfnaaGreatDoor.dropI s.inos num).length + bulkE (Go.Proofs.YtilkhmhgjbhfnaaGreatDoor.dropI s.inos num) + s.opn.length + s.made.length ≤ _
 omega
end Go.Proofs.YtilkhmhgjbhfnaaGreatDoor
