/- Parts of the proof, side by side: MoOwn2, MoThrow, Parse, ParseAny. -/
import Derived.Test.YtilkhmhgjbhfnaaGreatDoorM11
import Derived.Test.YtilkhmhgjbhfnaaGreatDoorM02
import Derived.Test.YtilkhmhgjbhfnaaGreatDoorM00
import Derived.WalkLawsBesides
import Derived.Handy
import Derived.Test.YtilkhmhgjbhfnaaGreatDoorM01
import Derived.Lib.OthersKept
import Derived.WalkSmall
set_option linter.unusedVariables false
set_option linter.unusedSimpArgs false
namespace Go.Proofs.YtilkhmhgjbhfnaaGreatDoor
open Go.RowKit
theorem flat_set2 : ∀ (zs : List (Ino × Value)) (k : Nat) (z : Ino × Value) (es : List En) (v : Value), zs[k]? = some z → (zs.flatMap inoV).set (k * 4 + 2) v = (zs.set k ({ z.1 with ents := es }, v)).flatMap inoV
 | [], k, z, es, v, h => by simp at h
 | y :: ys, 0, z, es, v, h => by
  have : y = z := by simpa using h
  subst this
  rfl
 | y :: ys, k + 1, z, es, v, h => by
  have ih := flat_set2 ys k z es v (by simpa using h)
  rw [List.set_cons_succ, List.flatMap_cons, List.flatMap_cons, ← ih, List.set_append_right _ _ (by show 4 ≤ _; omega)]
  congr 2
  show (k + 1) * 4 + 2 - 4 = _
  omega
theorem flat_set3 : ∀ (zs : List (Ino × Value)) (k : Nat) (z : Ino × Value) (d : ByteArray), zs[k]? = some z → (zs.flatMap inoV).set (k * 4 + 3) (.string d) = (zs.set k ({ z.1 with data := d }, z.2)).flatMap inoV
 | [], k, z, d, h => by simp at h
 | y :: ys, 0, z, d, h => by
  have : y = z := by simpa using h
  subst this
  rfl
 | y :: ys, k + 1, z, d, h => by
  have ih := flat_set3 ys k z d (by simpa using h)
  rw [List.set_cons_succ, List.flatMap_cons, List.flatMap_cons, ← ih, List.set_append_right _ _ (by show 4 ≤ _; omega)]
  congr 2
  show (k + 1) * 4 + 3 - 4 = _
  omega
theorem set_map {α β : Type} (f : α → β) (l : List α) (k : Nat) (x : α) : (l.set k x).map f = (l.map f).set k (f x) := by
 rw [List.map_set]
section
variable {B : Nat} {w : World} {p : Nat} {s : St} {zs : List (Ino × Value)} {vI vO vM : Value}
theorem Own2.bI (h : Own2 B w p s zs vI vO vM) {b : Nat} (hb : rowBlk vI = some b) : ∃ cur, w.heap[b]? = some (.cells cur 65 (0, 0)) := (h.rowI.blk b hb).2.2
theorem Own2.bO (h : Own2 B w p s zs vI vO vM) {b : Nat} (hb : rowBlk vO = some b) : ∃ cur, w.heap[b]? = some (.cells cur 97 (0, 0)) := (h.rowO.blk b hb).2.2
theorem Own2.bM (h : Own2 B w p s zs vI vO vM) {b : Nat} (hb : rowBlk vM = some b) : ∃ cur, w.heap[b]? = some (.cells cur 3 (0, 0)) := (h.rowM.blk b hb).2.2
theorem Own2.bE (h : Own2 B w p s zs vI vO vM) {z : Ino × Value} (hz : z ∈ zs) {b : Nat} (hb : rowBlk z.2 = some b) : ∃ cur, w.heap[b]? = some (.cells cur 131 (0, 0)) := ((h.ents z hz).blk b hb).2.2
theorem some_ne_of {r : Option Nat} {b : Nat} (h : ∀ a, r = some a → a ≠ b) : r ≠ some b := fun e => h b e rfl
theorem Own2.setE (h : Own2 B w p s zs vI vO vM) (hB : B ≤ w.heap.size) {k : Nat} {z : Ino × Value} (hz : zs[k]? = some z) {es : List En} {v' : Value} {w' : World} (hg : w.grownBy w' (rowBlk z.2)) (hr : RowAt B w' 131 2 v' es.length (es.flatMap enV))
  (hv : rowBlk v' = rowBlk z.2 ∨ ∃ b, rowBlk v' = some b ∧ w.heap.size ≤ b) (hs : Sized { s with inos := s.inos.set k { z.1 with ents := es } }) {g n c : Nat} (hvI : vI = .slice (some ⟨g, 0, none⟩) n c) :
  Own2 B (w'.setCell ⟨g, k * 4 + 2, none⟩ v') p { s with inos := s.inos.set k { z.1 with ents := es } } (zs.set k ({ z.1 with ents := es }, v')) vI vO vM ∧ Turns B p w (w'.setCell ⟨g, k * 4 + 2, none⟩ v') := by
 have hzm := List.mem_of_getElem? hz
 have hkl : k < zs.length := (List.getElem?_eq_some_iff.1 hz).1
 obtain ⟨g', c', cur, hv1, hb1, hB1, hlt1, hg1, hsz1, _⟩ := h.rowI.open_ (by omega)
 have hgg : g' = g := by rw [hvI] at hv1; injection hv1 with e1 _ _; injection e1 with e1; injection e1 with e1; exact e1.symm
 subst hgg
 have hzE : ∀ b, rowBlk z.2 = some b → ∃ cur, w.heap[b]? = some (.cells cur 131 (0, 0)) := fun b hb => h.bE hzm hb
 have nI : rowBlk z.2 ≠ some g' := some_ne_of fun a ha => by obtain ⟨c1, h1⟩ := hzE a ha; exact blk_ne h1 hg1 (by decide)
 have nP : rowBlk z.2 ≠ some p := some_ne_of fun a ha => by obtain ⟨c1, h1⟩ := hzE a ha; exact blk_ne h1 h.cell (by decide)
 have hpl : p < w.heap.size := (Array.getElem?_eq_some_iff.1 h.cell).1
 have g1' : w'.heap[g']? = some (.cells cur 65 (0, 0)) := (hg.block g' hlt1 (fun e => nI e.symm)).trans hg1
 have p1' : w'.heap[p]? = _ := (hg.block p hpl (fun e => nP e.symm)).trans h.cell
 have hgp : g' ≠ p := blk_ne hg1 h.cell (by decide)
 have keepE : ∀ (v : Value) (m : Nat) (xs : List Value), RowAt B w' 131 2 v m xs → RowAt B (w'.setCell ⟨g', k * 4 + 2, none⟩ v') 131 2 v m xs := fun v m xs hx => hx.kept grown_set (fun b hb e => by
  obtain ⟨_, _, c1, h1⟩ := hx.blk b hb
  exact blk_ne g1' h1 (by decide) (by injection e))
 have turn : Turns B p w (w'.setCell ⟨g', k * 4 + 2, none⟩ v') := by
  refine (Turns.of_grown hg hB (fun b hb => ⟨((h.ents z hzm).blk b hb).1, .inr ?_⟩)).trans (Turns.of_grown grown_set (Nat.le_trans hB hg.size) (fun b hb => ?_))
  ·obtain ⟨c1, h1⟩ := hzE b hb
   exact ⟨c1, _, h1, .inr (.inl rfl)⟩
  ·injection hb with hb
   subst hb
   exact ⟨hB1, .inr ⟨cur, _, g1', .inl rfl⟩⟩
 refine ⟨⟨h.hp, ?_, ?_, ?_, ?_, ?_, ?_, ?_, hs⟩, turn⟩
 ·rw [Below.heap_setCell w' ⟨g', k * 4 + 2, none⟩ v' p (fun e => hgp e.symm)]
  exact p1'
 ·rw [set_map, h.inos]
 ·rw [List.length_set]
  have h1 : RowAt B w' 65 4 vI zs.length (zs.flatMap inoV) := h.rowI.kept hg (fun b hb => by rw [hb1] at hb; injection hb with hb; subst hb; exact nI)
  rw [hv1] at h1 ⊢
  have h2 := h1.set (k * 4 + 2) v' (by omega)
  rwa [flat_set2 zs k z es v' hz] at h2
 ·intro y hy
  obtain ⟨j, hj⟩ := List.getElem?_of_mem hy
  rw [List.getElem?_set] at hj
  by_cases e : k = j
  ·subst e
   rw [if_pos rfl, if_pos hkl] at hj
   injection hj with hj
   subst hj
   exact keepE _ _ _ hr
  ·rw [if_neg e] at hj
   exact keepE _ _ _ ((h.ents y (List.mem_of_getElem? hj)).kept hg (fun b hb e2 => h.apart k j z y e hz hj b e2 hb))
 ·intro i j a b hij ha hb gg hga hgb
  have old : ∀ (j : Nat) (y : Ino × Value), zs[j]? = some y → k ≠ j → ∀ b, rowBlk y.2 = some b → rowBlk v' ≠ some b := fun j y hy hne b hb e => by
   rcases hv with hv | ⟨b', hv, hle⟩
   ·rw [hv] at e
    exact h.apart k j z y hne hz hy b e hb
   ·rw [hv] at e
    injection e with e
    subst e
    have := ((h.ents y (List.mem_of_getElem? hy)).blk b' hb).2.1
    omega
  rw [List.getElem?_set] at ha hb
  by_cases e1 : k = i
  ·subst e1
   rw [if_pos rfl, if_pos hkl] at ha
   injection ha with ha
   subst ha
   rw [if_neg hij] at hb
   exact old j b hb hij gg hgb hga
  ·rw [if_neg e1] at ha
   by_cases e2 : k = j
   ·subst e2
    rw [if_pos rfl, if_pos hkl] at hb
    injection hb with hb
    subst hb
    exact old i a ha e1 gg hga hgb
   ·rw [if_neg e2] at hb
    exact h.apart i j a b hij ha hb gg hga hgb
 ·have h1 := h.rowO.kept hg (fun b hb => some_ne_of fun a ha => by
   obtain ⟨c1, h1⟩ := hzE a ha
   obtain ⟨c2, h2⟩ := h.bO hb
   exact blk_ne h1 h2 (by decide))
  exact h1.kept grown_set (fun b hb e => by
   obtain ⟨_, _, c1, h2⟩ := h1.blk b hb
   exact blk_ne g1' h2 (by decide) (by injection e))
 ·have h1 := h.rowM.kept hg (fun b hb => some_ne_of fun a ha => by
   obtain ⟨c1, h1⟩ := hzE a ha
   obtain ⟨c2, h2⟩ := h.bM hb
   exact blk_ne h1 h2 (by decide))
  exact h1.kept grown_set (fun b hb e => by
   obtain ⟨_, _, c1, h2⟩ := h1.blk b hb
   exact blk_ne g1' h2 (by decide) (by injection e))
theorem Own2.setB (h : Own2 B w p s zs vI vO vM) (hB : B ≤ w.heap.size) {k : Nat} {z : Ino × Value} (hz : zs[k]? = some z) {d : ByteArray} (hs : Sized { s with inos := s.inos.set k { z.1 with data := d } }) {g n c : Nat} (hvI : vI = .slice (some ⟨g, 0, none⟩) n c) :
  Own2 B (w.setCell ⟨g, k * 4 + 3, none⟩ (.string d)) p { s with inos := s.inos.set k { z.1 with data := d } } (zs.set k ({ z.1 with data := d }, z.2)) vI vO vM ∧ Turns B p w (w.setCell ⟨g, k * 4 + 3, none⟩ (.string d)) := by
 have hzm := List.mem_of_getElem? hz
 have hkl : k < zs.length := (List.getElem?_eq_some_iff.1 hz).1
 obtain ⟨g', c', cur, hv1, hb1, hB1, hlt1, hg1, hsz1, _⟩ := h.rowI.open_ (by omega)
 have hgg : g' = g := by rw [hvI] at hv1; injection hv1 with e1 _ _; injection e1 with e1; injection e1 with e1; exact e1.symm
 subst hgg
 have hgp : g' ≠ p := blk_ne hg1 h.cell (by decide)
 refine ⟨⟨h.hp, ?_, ?_, ?_, ?_, ?_, ?_, ?_, hs⟩, Turns.of_grown grown_set hB (fun b hb => ?_)⟩
 ·rw [Below.heap_setCell w ⟨g', k * 4 + 3, none⟩ _ p (fun e => hgp e.symm)]
  exact h.cell
 ·rw [set_map, h.inos]
 ·rw [List.length_set]
  have h1 := h.rowI
  rw [hv1] at h1 ⊢
  have h2 := h1.set (k * 4 + 3) (.string d) (by omega)
  rwa [flat_set3 zs k z d hz] at h2
 ·intro y hy
  obtain ⟨j, hj⟩ := List.getElem?_of_mem hy
  rw [List.getElem?_set] at hj
  have key : ∀ y ∈ zs, RowAt B (w.setCell ⟨g', k * 4 + 3, none⟩ (.string d)) 131 2 y.2 y.1.ents.length (y.1.ents.flatMap enV) := fun y hy => (h.ents y hy).kept grown_set (fun b hb e => by
   obtain ⟨c1, h2⟩ := h.bE hy hb
   exact blk_ne hg1 h2 (by decide) (by injection e))
  by_cases e : k = j
  ·subst e
   rw [if_pos rfl, if_pos hkl] at hj
   injection hj with hj
   subst hj
   exact key z hzm
  ·rw [if_neg e] at hj
   exact key y (List.mem_of_getElem? hj)
 ·intro i j a b hij ha hb gg hga hgb
  have ha' : ∃ a', zs[i]? = some a' ∧ a'.2 = a.2 := by
   rw [List.getElem?_set] at ha
   by_cases e : k = i
   ·subst e
    rw [if_pos rfl, if_pos hkl] at ha
    injection ha with ha
    exact ⟨z, hz, by rw [← ha]⟩
   ·rw [if_neg e] at ha
    exact ⟨a, ha, rfl⟩
  have hb' : ∃ b', zs[j]? = some b' ∧ b'.2 = b.2 := by
   rw [List.getElem?_set] at hb
   by_cases e : k = j
   ·subst e
    rw [if_pos rfl, if_pos hkl] at hb
    injection hb with hb
    exact ⟨z, hz, by rw [← hb]⟩
   ·rw [if_neg e] at hb
    exact ⟨b, hb, rfl⟩
  obtain ⟨a', ha1, ha2⟩ := ha'
  obtain ⟨b', hb1, hb2⟩ := hb'
  exact h.apart i j a' b' hij ha1 hb1 gg (by rw [ha2]; exact hga) (by rw [hb2]; exact hgb)
 ·exact h.rowO.kept grown_set (fun b hb e => by
   obtain ⟨c1, h2⟩ := h.bO hb
   exact blk_ne hg1 h2 (by decide) (by injection e))
 ·exact h.rowM.kept grown_set (fun b hb e => by
   obtain ⟨c1, h2⟩ := h.bM hb
   exact blk_ne hg1 h2 (by decide) (by injection e))
 ·injection hb with hb
  subst hb
  exact ⟨hB1, .inr ⟨cur, _, hg1, .inl rfl⟩⟩
theorem Own2.setI (h : Own2 B w p s zs vI vO vM) (hB : B ≤ w.heap.size) {v' : Value} {w' : World} {ys : List (Ino × Value)} (hg : w.grownBy w' (rowBlk vI)) (hr : RowAt B w' 65 4 v' ys.length (ys.flatMap inoV))
  (he : ∀ y ∈ ys, RowAt B w 131 2 y.2 y.1.ents.length (y.1.ents.flatMap enV)) (ha : Apart ys) (hs : Sized { s with inos := ys.map Prod.fst }) :
  Own2 B (w'.setCell ⟨p, 0, none⟩ v') p { s with inos := ys.map Prod.fst } ys v' vO vM ∧ Turns B p w (w'.setCell ⟨p, 0, none⟩ v') := by
 have hpl : p < w.heap.size := (Array.getElem?_eq_some_iff.1 h.cell).1
 have nP : rowBlk vI ≠ some p := some_ne_of fun a ha => by obtain ⟨c1, h1⟩ := h.bI ha; exact blk_ne h1 h.cell (by decide)
 have p1' : w'.heap[p]? = _ := (hg.block p hpl (fun e => nP e.symm)).trans h.cell
 have keep : ∀ (e : TypeId) (k : Nat) (v : Value) (m : Nat) (xs : List Value), e ≠ 31 → RowAt B w' e k v m xs → RowAt B (w'.setCell ⟨p, 0, none⟩ v') e k v m xs := fun e k v m xs hne hx => hx.kept grown_set (fun b hb e => by
  obtain ⟨_, _, c1, h1⟩ := hx.blk b hb
  exact blk_ne p1' h1 (fun e => hne e.symm) (by injection e))
 have keep2 : ∀ (e : TypeId) (k : Nat) (v : Value) (m : Nat) (xs : List Value), e ≠ 65 → RowAt B w e k v m xs → RowAt B w' e k v m xs := fun e k v m xs hne hx => hx.kept hg (fun b hb => some_ne_of fun a ha => by
  obtain ⟨_, _, c1, h1⟩ := hx.blk b hb
  obtain ⟨c2, h2⟩ := h.bI ha
  exact blk_ne h2 h1 (fun e => hne e.symm))
 refine ⟨⟨h.hp, ?_, rfl, keep _ _ _ _ _ (by decide) hr, fun y hy => keep _ _ _ _ _ (by decide) (keep2 _ _ _ _ _ (by decide) (he y hy)), ha, keep _ _ _ _ _ (by decide) (keep2 _ _ _ _ _ (by decide) h.rowO), keep _ _ _ _ _ (by decide) (keep2 _ _ _ _ _ (by decide) h.rowM), hs⟩, ?_⟩
 ·rw [heap_setCell_same w' p 0 _ _ _ p1']
  rfl
 ·refine (Turns.of_grown hg hB (fun b hb => ⟨(h.rowI.blk b hb).1, .inr ?_⟩)).trans (Turns.of_grown grown_set (Nat.le_trans hB hg.size) (fun b hb => ?_))
  ·obtain ⟨c1, h1⟩ := h.bI hb
   exact ⟨c1, _, h1, .inl rfl⟩
  ·injection hb with hb
   exact ⟨by rw [← hb]; exact h.hp, .inl hb.symm⟩
theorem Own2.setO (h : Own2 B w p s zs vI vO vM) (hB : B ≤ w.heap.size) {v' : Value} {w' : World} {ds : List Ds} (hg : w.grownBy w' (rowBlk vO)) (hr : RowAt B w' 97 3 v' ds.length (ds.flatMap dsV)) (hs : Sized { s with opn := ds }) :
  Own2 B (w'.setCell ⟨p, 1, none⟩ v') p { s with opn := ds } zs vI v' vM ∧ Turns B p w (w'.setCell ⟨p, 1, none⟩ v') := by
 have hpl : p < w.heap.size := (Array.getElem?_eq_some_iff.1 h.cell).1
 have nP : rowBlk vO ≠ some p := some_ne_of fun a ha => by obtain ⟨c1, h1⟩ := h.bO ha; exact blk_ne h1 h.cell (by decide)
 have p1' : w'.heap[p]? = _ := (hg.block p hpl (fun e => nP e.symm)).trans h.cell
 have keep : ∀ (e : TypeId) (k : Nat) (v : Value) (m : Nat) (xs : List Value), e ≠ 31 → RowAt B w' e k v m xs → RowAt B (w'.setCell ⟨p, 1, none⟩ v') e k v m xs := fun e k v m xs hne hx => hx.kept grown_set (fun b hb e => by
  obtain ⟨_, _, c1, h1⟩ := hx.blk b hb
  exact blk_ne p1' h1 (fun e => hne e.symm) (by injection e))
 have keep2 : ∀ (e : TypeId) (k : Nat) (v : Value) (m : Nat) (xs : List Value), e ≠ 97 → RowAt B w e k v m xs → RowAt B w' e k v m xs := fun e k v m xs hne hx => hx.kept hg (fun b hb => some_ne_of fun a ha => by
  obtain ⟨_, _, c1, h1⟩ := hx.blk b hb
  obtain ⟨c2, h2⟩ := h.bO ha
  exact blk_ne h2 h1 (fun e => hne e.symm))
 refine ⟨⟨h.hp, ?_, h.inos, keep _ _ _ _ _ (by decide) (keep2 _ _ _ _ _ (by decide) h.rowI), fun y hy => keep _ _ _ _ _ (by decide) (keep2 _ _ _ _ _ (by decide) (h.ents y hy)), h.apart, keep _ _ _ _ _ (by decide) hr, keep _ _ _ _ _ (by decide) (keep2 _ _ _ _ _ (by decide) h.rowM), hs⟩, ?_⟩
 ·rw [heap_setCell_same w' p 1 _ _ _ p1']
  rfl
 ·refine (Turns.of_grown hg hB (fun b hb => ⟨(h.rowO.blk b hb).1, .inr ?_⟩)).trans (Turns.of_grown grown_set (Nat.le_trans hB hg.size) (fun b hb => ?_))
  ·obtain ⟨c1, h1⟩ := h.bO hb
   exact ⟨c1, _, h1, .inr (.inr (.inl rfl))⟩
  ·injection hb with hb
   exact ⟨by rw [← hb]; exact h.hp, .inl hb.symm⟩
theorem Own2.setM (h : Own2 B w p s zs vI vO vM) (hB : B ≤ w.heap.size) (i : Nat) (y : Int) (hi : i < s.made.length) (hs : Sized { s with made := s.made.set i y }) {g n c : Nat} (hvM : vM = .slice (some ⟨g, 0, none⟩) n c) :
  Own2 B (w.setCell ⟨g, i, none⟩ (.int .i64 y)) p { s with made := s.made.set i y } zs vI vO vM ∧ Turns B p w (w.setCell ⟨g, i, none⟩ (.int .i64 y)) := by
 obtain ⟨g', c', cur, hv1, hb1, hB1, hlt1, hg1, hsz1, _⟩ := h.rowM.open_ (by omega)
 have hgg : g' = g := by rw [hvM] at hv1; injection hv1 with e1 _ _; injection e1 with e1; injection e1 with e1; exact e1.symm
 subst hgg
 have hgp : g' ≠ p := blk_ne hg1 h.cell (by decide)
 have keep : ∀ (e : TypeId) (k : Nat) (v : Value) (m : Nat) (xs : List Value), e ≠ 3 → RowAt B w e k v m xs → RowAt B (w.setCell ⟨g', i, none⟩ (.int .i64 y)) e k v m xs := fun e k v m xs hne hx => hx.kept grown_set (fun b hb e => by
  obtain ⟨_, _, c1, h1⟩ := hx.blk b hb
  exact blk_ne hg1 h1 (fun e => hne e.symm) (by injection e))
 refine ⟨⟨h.hp, ?_, h.inos, keep _ _ _ _ _ (by decide) h.rowI, fun z hz => keep _ _ _ _ _ (by decide) (h.ents z hz), h.apart, keep _ _ _ _ _ (by decide) h.rowO, ?_, hs⟩, Turns.of_grown grown_set hB (fun b hb => ?_)⟩
 ·rw [Below.heap_setCell w ⟨g', i, none⟩ _ p (fun e => hgp e.symm)]
  exact h.cell
 ·have h1 := h.rowM
  rw [hv1] at h1 ⊢
  have h2 := h1.set i (.int .i64 y) (by omega)
  rw [List.length_set, List.map_set]
  exact h2
 ·injection hb with hb
  subst hb
  exact ⟨hB1, .inr ⟨cur, _, hg1, .inr (.inr (.inr rfl))⟩⟩
end
def faultP (code : Int) : List PanicEntry := [{ v := .iface 121 (.agg #[.int .i64 code]), recovered := false }]
theorem throw_no (code : Int) (w : World) : Calls Tryz.prog 129 #[.bool false, .int .i64 code] w fun e w' => e = .returned (.tuple #[]) ∧ w = w' := by
 go_enter Tryz.func129, Tryz.ntmps129
 go_wp2_with fail
 go_returns
 exact ⟨rfl, rfl⟩
theorem throw_yes (code : Int) (w : World) : Calls Tryz.prog 129 #[.bool true, .int .i64 code] w fun e w' => e = .panicked (faultP code) ∧ w = w' := by
 go_enter Tryz.func129, Tryz.ntmps129
 go_wp2_with fail
 first | exact ⟨rfl, rfl⟩ | (refine bodyPost_panic ?_; exact ⟨rfl, rfl⟩) | simp [bodyPost, faultP]
theorem names_below {B : Nat} {w w' : World} {v : Value} {out : List (List UInt8)} (h : Names B w v out) (hb : Below w.heap.size w w') : Names B w' v out := by
 rcases h with ⟨hl, h⟩
 refine ⟨hl, ?_⟩
 rcases h with h | ⟨g, cap, cur, hv, hg, hh, r⟩
 ·exact Or.inl h
 ·have hlt : g < w.heap.size := by
   rcases Nat.lt_or_ge g w.heap.size with h | h
   ·exact h
   ·rw [Array.getElem?_eq_none h] at hh; cases hh
  exact Or.inr ⟨g, cap, cur, hv, hg, (hb.block g hlt).trans hh, r⟩
theorem names_mono {B B' : Nat} {w : World} {v : Value} {out : List (List UInt8)} (h : Names B w v out) (hb : B' ≤ B) : Names B' w v out := by
 rcases h with ⟨hl, h⟩
 refine ⟨hl, ?_⟩
 rcases h with h | ⟨g, cap, cur, hv, hg, r⟩
 ·exact Or.inl h
 ·exact Or.inr ⟨g, cap, cur, hv, by omega, r⟩
theorem iterPos_of {w : World} {k : Nat} {s : ByteArray} {p : Nat} (h : w.heap[k]? = some (.stringIter s p)) : w.iterPos k = p := by simp [World.iterPos, h]
set_option maxRecDepth 100000 in
set_option maxHeartbeats 2000000 in
theorem parse_long (s : ByteArray) (w : World) (hs : s.size ≤ 140737488355328) (h0 : s.size ≤ 64) (hd : ∃ h : 0 < s.size, s[0] = 47) (h1 : ¬ s.size = 1) :
  Calls Tryz.prog 210 #[.string s] w (Parsed s w) := by
 obtain ⟨hp, hb0⟩ := hd
 have hsz : s.data.toList.length = s.size := rfl
 have hh := (path_head s).2 ⟨hp, hb0⟩
 have hpar : parseL s.data.toList = scanP (s.data.toList.drop 1 ++ [47]) [] [] := by
  unfold parseL
  rw [if_neg (by omega), if_neg (fun e => e hh), if_neg (by omega)]
 have htl := ByteArray.toList_eq s
 have he0 : s.toList.isEmpty = false := by
  rw [htl]
  cases e : s.data.toList with
  | nil => rw [e] at hsz; simp at hsz; omega
  | cons a l => rfl
 have he1 : ¬ s.toList = [] := by intro e; rw [e] at he0; simp at he0
 have q1 : ((s.size : Int) == 1) = false := by rw [beq_eq_false_iff_ne]; omega
 have hts : (s ++ ByteArray.mk #[47]).size = s.size + 1 := by rw [ByteArray.size_append]; rfl
 have htd : (s ++ ByteArray.mk #[47]).data.toList = s.data.toList ++ [47] := by simp
 have hg0 : s.data.toList.getD 0 0 = 47 := by rw [getD_at hp]; exact hb0
 obtain ⟨i0, hi, hz0, hz1, hz2⟩ := info_parts infoS
 obtain ⟨R, hR⟩ : ∃ R, parseL s.data.toList = R := ⟨_, rfl⟩
 rw [hpar] at hR
 have HR := Lib.hid hR
 have Hpar := Lib.hid hpar
 have Hts := Lib.hid hts
 have Htd := Lib.hid htd
 have Hg0 := Lib.hid hg0
 clear htl hsz hpar hR hts htd hg0 hh
 go_enter Tryz.func210, Tryz.ntmps210
 go_wp2_with fail
 clear he0 he1 q1
 go_loopw [4, 5, 6, 7] (fun v fr _ _ wr => ∃ (p j : Nat) (out : List (List UInt8)) (x : Value), fr = .int .i64 p ∧ v = x ∧ ((j = 0 ∧ p = 1 ∧ out = []) ∨ (1 ≤ p ∧ p ≤ j ∧ out.length ≤ j ∧ scanP ((s.data.toList ++ [47]).drop j) (piece s.data.toList p j) out = R)) ∧ j ≤ s.size + 1 ∧ wr.heap[w.heap.size]? = some (.stringIter (s ++ ⟨#[47]⟩) j) ∧ Names (w.heap.size + 1) wr x out ∧ Below w.heap.size w wr) (fun _ _ _ _ wr => s.size + 1 - wr.iterPos w.heap.size)
 case atStart => exact ⟨1, 0, [], _, rfl, rfl, Or.inl ⟨rfl, rfl, rfl⟩, by omega, World.iter_heap _ _ _, World.ownsRow_nil _ _ _ _, below_iter _ _ _⟩
 case round =>
  obtain ⟨p, j, out, v, rfl, rfl, hcase, hj, hit, hown, hbel⟩ := hrel
  obtain ⟨A, c, rfl⟩ := names_shape hown
  have hlen : s.data.toList.length = s.size := rfl
  have Hlen := Lib.hid hlen
  clear hlen
  have hlt0 : w.heap.size < wr.heap.size := (Array.getElem?_eq_some_iff.1 hit).1
  have Hit := Lib.hid hit
  by_cases hend : j = s.size + 1
  ·have hnx : ∀ ty, (Instr.next (.pointer (some ⟨w.heap.size, 0, none⟩)) true ty).run Tryz.prog wr = _ := fun ty => Lib.run_next_end_at wr w.heap.size (s ++ ⟨#[47]⟩) j ty hit (by rw [Hts.out]; omega)
   obtain ⟨hp1, hpj, hol, hscan⟩ : 1 ≤ p ∧ p ≤ j ∧ out.length ≤ j ∧ scanP ((s.data.toList ++ [47]).drop j) (piece s.data.toList p j) out = R := by
    rcases hcase with h | h
    ·omega
    ·exact h
   rw [drop_out _ _ (by rw [Hlen.out]; exact hend), scanP_nil] at hscan
   have Hs := Lib.hid hscan
   have Hown := Lib.hid hown
   have Hbel := Lib.hid hbel
   have hol2 : out.length ≤ 65 := by omega
   clear hscan hown hbel hend hit hcase
   by_cases hdeep : 4 < out.length
   ·go_wp2_with fail
    go_ret2
    exact ⟨_, [], 1102, rfl, by rw [Hpar.out, HR.out, ← Hs.out, if_pos hdeep], World.ownsRow_nil _ _ _ _, fun _ => rfl, Hbel.out⟩
   ·go_wp2_with fail
    go_ret2
    exact ⟨_, out, 0, rfl, by rw [Hpar.out, HR.out, ← Hs.out, if_neg hdeep], names_mono Hown.out (by omega), fun h => absurd rfl h, Hbel.out⟩
  have hpos : j < (s ++ ByteArray.mk #[47]).size := by rw [Hts.out]; omega
  have hd := decode_list (s ++ ByteArray.mk #[47]) j
  rw [Htd.out] at hd
  have hnx : ∀ ty, (Instr.next (.pointer (some ⟨w.heap.size, 0, none⟩)) true ty).run Tryz.prog wr = _ := fun ty => Lib.run_next_any_at wr w.heap.size (s ++ ⟨#[47]⟩) j ty hit hpos
  rw [hd] at hnx
  have hit0 : ∀ q, (wr.iterAt w.heap.size (s ++ ⟨#[47]⟩) q).heap[w.heap.size]? = some (.stringIter (s ++ ⟨#[47]⟩) q) := fun q => Lib.iterAt_heap wr _ _ _ _ hit
  have hown0 : ∀ q, Names (w.heap.size + 1) (wr.iterAt w.heap.size (s ++ ⟨#[47]⟩) q) (.slice A out.length c) out := fun q => ownsRow_iterAt hown (by omega) _ _
  have hbel0 : ∀ q, Below w.heap.size w (wr.iterAt w.heap.size (s ++ ⟨#[47]⟩) q) := fun q => Lib.below_iterAt hbel (Nat.le_refl _) _ _
  have hsz0 : ∀ q, (wr.iterAt w.heap.size (s ++ ⟨#[47]⟩) q).heap.size = wr.heap.size := fun q => Lib.iterAt_size _ _ _ _
  by_cases hstart : j = 0
  ·have hc0 : p = 1 ∧ out = [] := by
    rcases hcase with h | h
    ·exact h.2
    ·omega
   obtain ⟨rfl, rfl⟩ := hc0
   have hq : decodeL ((s.data.toList ++ [47]).drop j) = (47, 1) := by
    apply decodeL_slash
    rw [hstart]
    cases e : s.data.toList with
    | nil => rfl
    | cons a l => have := Hg0.out; rw [e] at this; exact this
   rw [hq] at hnx
   simp only at hnx
   have hit1 := hit0 (j + 1)
   have hown1 := hown0 (j + 1)
   have hbel1 := hbel0 (j + 1)
   obtain ⟨W, hW⟩ : ∃ W, wr.iterAt w.heap.size (s ++ ⟨#[47]⟩) (j + 1) = W := ⟨_, rfl⟩
   rw [hW] at hit1 hown1 hbel1 hnx
   subst hstart
   have Hit1 := Lib.hid hit1
   have Hown1 := Lib.hid hown1
   have Hbel1 := Lib.hid hbel1
   clear hit hit0 hown hown0 hbel hbel0 hsz0 hcase hd hq hend hit1 hown1 hbel1 hW
   go_wp2_with fail
   go_roundw
   case rel => exact ⟨1, 1, [], _, rfl, rfl, Or.inr ⟨by omega, by omega, by simp, by
    rw [piece_self, ← HR.out, List.drop_append_of_le_length (by rw [Hlen.out]; omega)]⟩, by omega, Hit1.out, Hown1.out, Hbel1.out⟩
   case measure => rw [iterPos_of Hit1.out, iterPos_of Hit.out]; omega
  obtain ⟨hp1, hpj, hol, hscan⟩ : 1 ≤ p ∧ p ≤ j ∧ out.length ≤ j ∧ scanP ((s.data.toList ++ [47]).drop j) (piece s.data.toList p j) out = R := by
   rcases hcase with h | h
   ·omega
   ·exact h
  have q0 : ((j : Int) == 0) = false := by rw [beq_eq_false_iff_ne]; omega
  by_cases hsl : (s.data.toList ++ [47]).getD j 0 = 47
  ·have hq : decodeL ((s.data.toList ++ [47]).drop j) = (47, 1) := by
    apply decodeL_slash
    refine Eq.trans ?_ hsl
    simp [List.getD_eq_getElem?_getD, List.getElem?_drop]
   rw [hq] at hnx
   simp only at hnx
   have hdrop : (s.data.toList ++ [47]).drop j = 47 :: (s.data.toList ++ [47]).drop (j + 1) := by
    have hjl : j < (s.data.toList ++ [47]).length := by rw [List.length_append, Hlen.out]; simp; omega
    rw [List.drop_eq_getElem_cons hjl]
    have : (s.data.toList ++ [47])[j] = 47 := by
     have h := hsl
     rw [List.getD_eq_getElem?_getD, List.getElem?_eq_getElem hjl] at h
     exact h
    rw [this]
   rw [hdrop] at hscan
   have hj2 : j ≤ s.size := by omega
   have hps : (s.extract p j).size ≤ 64 := by simp; omega
   have hpc : (s.extract p j).data.toList = piece s.data.toList p j := by rw [extract_piece]
   obtain ⟨W, hW⟩ : ∃ W, wr.iterAt w.heap.size (s ++ ⟨#[47]⟩) (j + 1) = W := ⟨_, rfl⟩
   have hit1 := hit0 (j + 1)
   have hown1 := hown0 (j + 1)
   have hbel1 := hbel0 (j + 1)
   have hsz1 := hsz0 (j + 1)
   rw [hW] at hit1 hown1 hbel1 hnx hsz1
   rw [← hsz1] at hlt0
   have Hs := Lib.hid hscan
   have Hpc := Lib.hid hpc
   clear hit hit0 hown hown0 hbel hbel0 hsz0 hcase hd hq hend hW hsz1 hscan hpc hdrop hsl hstart
   have hit0 := Lib.hid hit1
   have hown0 := Lib.hid hown1
   have hbel0 := Lib.hid hbel1
   clear hit1 hown1 hbel1
   go_wp2_with fail
   have hit1 := hit0.out
   have hown1 := hown0.out
   have hbel1 := hbel0.out
   clear hit0 hown0 hbel0
   have hit0 := hit1
   have hown0 := hown1
   have hbel0 := hbel1
   clear hit1 hown1 hbel1
   rcases checkL_cases (piece s.data.toList p j) with hk | hk | hk
   ·refine (check_lit _ 0 (by omega) (by rw [Hpc.out]; exact hk) _).mono ?_
    rintro e w1 ⟨rfl, hbc⟩
    have hown1 : Names (w.heap.size + 1) w1 (.slice A out.length c) out := names_below (Lib.hid hown0).out hbc
    have hit1 : w1.heap[w.heap.size]? = some (.stringIter (s ++ ⟨#[47]⟩) (j + 1)) := (hbc.block _ hlt0).trans hit0
    have hbel1 : Below w.heap.size w w1 := hbel0.trans (hbc.mono hbel0.size)
    have hsz1 : w.heap.size < w1.heap.size := Nat.lt_of_lt_of_le hlt0 hbc.size
    have Hown1 := Lib.hid hown1
    have Hit1 := Lib.hid hit1
    have Hbel1 := Lib.hid hbel1
    have Hk := Lib.hid hk
    clear hk hown1 hit1 hbel1 hbc hown0 hit0 hbel0
    go_wp2_with (at_builtin; refine wpList_append_own _ rfl _ _ 46 rfl (w.heap.size + 1) 9 i0 (.string ⟨#[]⟩) 1 16 Tryz.underlying46 hi hz0 hz1 hz2 rfl (by decide) _ _ _ rfl (Hown1.out.alloc _) ⟨w1.heap.size, 0, none⟩ 1 1 [.string (s.extract p j)] rfl rfl ?ca1 ?ca2 ?ca3 ?ca4 ?ca5 ?_)
    case ca1 => exact cell_one_new _ _ _
    case ca2 => intro u hu; simp at hu; subst hu; rfl
    case ca3 => unfold maxLen; omega
    case ca4 => omega
    case ca5 => simp; omega
    intro v' w2 hown' hgrow _
    have hpush : Names (w.heap.size + 1) w2 v' (out ++ [piece s.data.toList p j]) := names_push (by rw [extract_piece] at hown'; exact hown')
    have hit2 : w2.heap[w.heap.size]? = some (.stringIter (s ++ ⟨#[47]⟩) (j + 1)) := by
     rw [hgrow.block _ (by simp; omega) (by intro e; have := own_ge Hown1.out _ e.symm; omega), Below.heap_alloc _ _ _ (by omega)]
     exact Hit1.out
    have hb2 : Below w.heap.size w w2 := ((Hbel1.out.alloc (Hbel1.out.size) _).grown hgrow (by simp; omega) (fun k hk => by have := own_ge Hown1.out k hk; omega))
    have HP := Lib.hid hpush
    have HB := Lib.hid hb2
    have HI := Lib.hid hit2
    clear hown' hgrow hpush hb2 hit2
    go_wp2
    go_roundw
    case rel => exact ⟨j + 1, j + 1, out ++ [piece s.data.toList p j], _, by go_num, rfl, Or.inr ⟨by omega, by omega, by simp; omega, by rw [piece_self, ← Hs.out, scanP_ok _ _ _ Hk.out]⟩, by omega, HI.out, HP.out, HB.out⟩
    case measure => rw [iterPos_of HI.out, iterPos_of Hit.out]; simp; omega
   ·refine (check_lit _ 800 (by omega) (by rw [Hpc.out]; exact hk) _).mono ?_
    rintro e w1 ⟨rfl, hbc⟩
    have Hk := Lib.hid hk
    have Hbel1 := Lib.hid (hbel0.trans (hbc.mono hbel0.size))
    clear hk hbc hown0 hit0 hbel0
    go_wp2_with fail
    go_ret2
    exact ⟨_, [], 1100, rfl, by rw [Hpar.out, HR.out, ← Hs.out, scanP_form _ _ _ Hk.out], World.ownsRow_nil _ _ _ _, fun _ => rfl, Hbel1.out⟩
   ·refine (check_lit _ 801 (by omega) (by rw [Hpc.out]; exact hk) _).mono ?_
    rintro e w1 ⟨rfl, hbc⟩
    have Hk := Lib.hid hk
    have Hbel1 := Lib.hid (hbel0.trans (hbc.mono hbel0.size))
    clear hk hbc hown0 hit0 hbel0
    go_wp2_with fail
    go_ret2
    exact ⟨_, [], 1101, rfl, by rw [Hpar.out, HR.out, ← Hs.out, scanP_long _ _ _ Hk.out], World.ownsRow_nil _ _ _ _, fun _ => rfl, Hbel1.out⟩
  ·have hjl : j < (s.data.toList ++ [47]).length := by rw [List.length_append, Hlen.out]; simp; omega
   have hjs : j < s.size := by
    rcases Nat.lt_or_ge j s.size with h | h
    ·exact h
    ·exfalso
     apply hsl
     have : j = s.data.toList.length := by rw [Hlen.out]; omega
     rw [this]
     simp
   have hno : ¬ ((s.data.toList ++ [47]).drop j).getD 0 0 = 47 := by
    simpa [List.getD_eq_getElem?_getD, List.getElem?_drop] using hsl
   have hc47 := (decodeL_noslash _ hno).1
   have hskip := (decodeL_noslash _ hno).2
   have hw := decodeL_width ((s.data.toList ++ [47]).drop j)
   have hf := decodeL_fits ((s.data.toList ++ [47]).drop j) (by intro e; rw [e] at hno; have := congrArg List.length e; rw [List.length_drop] at this; simp at this; omega)
   rw [List.length_drop, List.length_append, Hlen.out] at hf
   have hle := decodeL_le ((s.data.toList ++ [47]).drop j)
   have hrune := scanP_rune (s.data.toList ++ [47]) p j out hpj hjl hsl
   obtain ⟨q, hq⟩ : ∃ q, decodeL ((s.data.toList ++ [47]).drop j) = q := ⟨_, rfl⟩
   rw [hq] at hnx hc47 hskip hw hf hle hrune
   obtain ⟨cc, v⟩ := q
   simp only at hnx hc47 hskip hw hf hle hrune
   have hjv : j + v ≤ s.size := by
    rcases Nat.lt_or_ge s.size (j + v) with h | h
    ·exfalso
     have hmem : (47 : UInt8) ∈ ((s.data.toList ++ [47]).drop j).take v := by
      have hlast : ((s.data.toList ++ [47]).drop j).take v = (s.data.toList ++ [47]).drop j := by
       rw [List.take_of_length_le]
       rw [List.length_drop, List.length_append, Hlen.out]
       simp
       omega
      rw [hlast, List.drop_append_of_le_length (by rw [Hlen.out]; omega)]
      simp
     exact hskip _ hmem rfl
    ·exact h
   rw [piece_left _ _ _ _ (by rw [Hlen.out]; omega), piece_left _ _ _ _ (by rw [Hlen.out]; omega)] at hrune
   rw [hrune] at hscan
   have q47 : ((cc : Int) != 47) = true := by rw [bne_iff_ne]; omega
   obtain ⟨W, hW⟩ : ∃ W, wr.iterAt w.heap.size (s ++ ⟨#[47]⟩) (j + v) = W := ⟨_, rfl⟩
   have hit1 := hit0 (j + v)
   have hown1 := hown0 (j + v)
   have hbel1 := hbel0 (j + v)
   rw [hW] at hit1 hown1 hbel1 hnx
   have Hs := Lib.hid hscan
   have Hit1 := Lib.hid hit1
   have Hown1 := Lib.hid hown1
   have Hbel1 := Lib.hid hbel1
   clear hit hit0 hown hown0 hbel hbel0 hsz0 hcase hd hq hend hW hscan hsl hstart hrune hskip hno hit1 hown1 hbel1 hc47
   go_wp2_with fail
   go_roundw
   case rel => exact ⟨p, j + v, out, _, rfl, rfl, Or.inr ⟨hp1, by omega, by omega, Hs.out⟩, by omega, Hit1.out, Hown1.out, Hbel1.out⟩
   case measure => rw [iterPos_of Hit1.out, iterPos_of Hit.out]; omega
set_option maxHeartbeats 1000000 in
theorem parse_any (s : ByteArray) (w : World) (hs : s.size ≤ 140737488355328) :
  Calls Tryz.prog 210 #[.string s] w (Parsed s w) := by
 have hsz : s.data.toList.length = s.size := rfl
 have htl := ByteArray.toList_eq s
 by_cases h64 : 64 < s.size
 ·have hp := parse_64 (l := s.data.toList) (by omega)
  have HP := Lib.hid hp
  clear hp htl hsz
  go_enter Tryz.func210, Tryz.ntmps210
  go_wp2_with fail
  go_ret2
  exact ⟨_, [], 1101, rfl, HP.out, World.ownsRow_nil _ _ _ _, fun _ => rfl, Below.refl _ _⟩
 by_cases hh : s.data.toList.head? = some 47
 ·obtain ⟨hp0, hb0⟩ := (path_head s).1 hh
  by_cases h1 : s.size = 1
  ·have hp := parse_root (l := s.data.toList) (by omega) hh (by omega)
   have he : s.toList = [47] := by
    rw [htl]
    match hl : s.data.toList, hh with
    | [a], hh => simp at hh; rw [hh]
    | a :: b :: r, _ => rw [hl] at hsz; simp at hsz; omega
   have HP := Lib.hid hp
   have H1 := Lib.hid h1
   have q1 : ((s.size : Int) == 1) = true := by rw [beq_iff_eq]; omega
   have he0 : s.toList.isEmpty = false := by rw [he]; rfl
   have he1 : ¬ s.toList = [] := by rw [he]; simp
   clear he
   have h1' : s.size ≤ 64 := by omega
   clear hp htl hsz hh h1
   go_enter Tryz.func210, Tryz.ntmps210
   go_wp2_with fail
   go_ret2
   exact ⟨_, [], 0, rfl, HP.out, World.ownsRow_nil _ _ _ _, fun _ => rfl, Below.refl _ _⟩
  ·exact (parse_long s w hs (by omega) ⟨hp0, hb0⟩ h1).mono fun _ _ h => h
 ·have hp := parse_form (l := s.data.toList) (by omega) hh
  have HP := Lib.hid hp
  by_cases h0 : s.size = 0
  ·have he : s.toList = [] := by rw [htl]; exact List.eq_nil_of_length_eq_zero (by omega)
   have h0' : s.size ≤ 64 := by omega
   clear hp htl hsz hh h0
   go_enter Tryz.func210, Tryz.ntmps210
   go_wp2_with fail
   go_ret2
   exact ⟨_, [], 1100, rfl, HP.out, World.ownsRow_nil _ _ _ _, fun _ => rfl, Below.refl _ _⟩
  ·have hp0 : 0 < s.size := by omega
   have hne := no_head_ne hp0 hh
   have he0 : s.toList.isEmpty = false := by
    rw [htl]
    cases e : s.data.toList with
    | nil => rw [e] at hsz; simp at hsz; omega
    | cons a l => rfl
   have he1 : ¬ s.toList = [] := by intro e; rw [e] at he0; simp at he0
   clear hp htl hsz hh h0
   go_enter Tryz.func210, Tryz.ntmps210
   go_wp2_with fail
   go_ret2
   exact ⟨_, [], 1100, rfl, HP.out, World.ownsRow_nil _ _ _ _, fun _ => rfl, Below.refl _ _⟩
def codeN (n : Nat) : Nat := if n = 0 then 0 else if n = 1101 ∨ n = 1102 then 6 else 9
set_option maxHeartbeats 400000 in
theorem code_any (n : Nat) (hn : n ≤ 65536) (w : World) : Calls Tryz.prog 211 #[.int .i64 (n : Int)] w fun e w' => e = .returned (.int .i64 (codeN n : Int)) ∧ w = w' := by
 by_cases h0 : n = 0
 ·subst h0
  go_enter Tryz.func211, Tryz.ntmps211
  go_wp2
  go_ret
  exact ⟨rfl, rfl⟩
 by_cases h1 : n = 1101
 ·subst h1
  go_enter Tryz.func211, Tryz.ntmps211
  go_wp2
  go_ret
  exact ⟨rfl, rfl⟩
 by_cases h2 : n = 1102
 ·subst h2
  go_enter Tryz.func211, Tryz.ntmps211
  go_wp2
  go_ret
  exact ⟨rfl, rfl⟩
 ·have hc : codeN n = 9 := by unfold codeN; rw [if_neg h0, if_neg (by omega)]
  rw [hc]
  have q0 : ((n : Int) == 0) = false := by rw [beq_eq_false_iff_ne]; omega
  have q1 : ((n : Int) == 1101) = false := by rw [beq_eq_false_iff_ne]; omega
  have q2 : ((n : Int) == 1102) = false := by rw [beq_eq_false_iff_ne]; omega
  go_enter Tryz.func211, Tryz.ntmps211
  go_wp2
  go_ret
  exact ⟨rfl, rfl⟩
end Go.Proofs.YtilkhmhgjbhfnaaGreatDoor
