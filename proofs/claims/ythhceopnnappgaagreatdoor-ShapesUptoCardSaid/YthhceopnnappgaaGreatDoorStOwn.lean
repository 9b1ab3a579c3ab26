/- A state that a call works on: behind a pointer, all of it made since the call began. -/
import Derived.Test.YthhceopnnappgaaGreatDoorStRow
import Derived.Laws.Rows
set_option linter.unusedVariables false
set_option linter.unusedSimpArgs false
namespace Go.Proofs.YthhceopnnappgaaGreatDoor
open Go.RowKit
structure KeepT (t : TypeId) (w w' : World) : Prop where
 size : w.heap.size ≤ w'.heap.size
 same : ∀ (b : Nat) (cur : Array Value), w.heap[b]? = some (.cells cur t (0, 0)) → w'.heap[b]? = w.heap[b]?
theorem KeepT.below {t : TypeId} {w w' : World} (h : Below w.heap.size w w') : KeepT t w w' := ⟨h.size, fun b cur hb => h.block b (Array.getElem?_eq_some_iff.1 hb).1⟩
theorem KeepT.set {w : World} {g k : Nat} {u : Value} {cur : Array Value} {t t' : TypeId} (h : w.heap[g]? = some (.cells cur t' (0, 0))) (hne : t' ≠ t) : KeepT t w (w.setCell ⟨g, k, none⟩ u) :=
 ⟨by simp [World.setCell], fun b c hb => Below.heap_setCell w ⟨g, k, none⟩ u b (fun e => by
  have e2 : b = g := e
  subst e2
  rw [h] at hb
  injection hb with hb
  injection hb with _ hb _
  exact hne hb)⟩
theorem KeepT.mine {t : TypeId} {w w' : World} {B g : Nat} (h : KeepT t w w') (hm : Mine (some B) t w g) : Mine (some B) t w' g ∧ w'.heap[g]? = w.heap[g]? := by
 obtain ⟨h1, cur, h2⟩ := hm B rfl
 refine ⟨fun C hC => ?_, h.same g cur h2⟩
 cases hC
 exact ⟨h1, cur, (h.same g cur h2).trans h2⟩
theorem cell_same {w w' : World} {g : Nat} (h : w'.heap[g]? = w.heap[g]?) (j : Nat) : w'.cell? ⟨g, j, none⟩ = w.cell? ⟨g, j, none⟩ := by
 unfold World.cell?
 simp only [h]
theorem EntsAt.keep {B : Nat} {w w' : World} {A : Option Addr} {n : Nat} {es : List En} (h : EntsAt (some B) w A n es) (hk : KeepT 84 w w') : EntsAt (some B) w' A n es :=
 ⟨h.1, fun hn => by
  obtain ⟨g, off, hA, hg, hm, hc⟩ := h.2 hn
  obtain ⟨m1, m2⟩ := hk.mine hm
  exact ⟨g, off, hA, Nat.lt_of_lt_of_le hg hk.size, m1, fun j e he => ⟨(cell_same m2 _).trans (hc j e he).1, (cell_same m2 _).trans (hc j e he).2⟩⟩⟩
theorem DescsAt.keep {B : Nat} {w w' : World} {A : Option Addr} {n : Nat} {ds : List Ds} (h : DescsAt (some B) w A n ds) (hk : KeepT 67 w w') : DescsAt (some B) w' A n ds :=
 ⟨h.1, fun hn => by
  obtain ⟨g, off, hA, hg, hm, hc⟩ := h.2 hn
  obtain ⟨m1, m2⟩ := hk.mine hm
  exact ⟨g, off, hA, Nat.lt_of_lt_of_le hg hk.size, m1, fun j e he => ⟨(cell_same m2 _).trans (hc j e he).1, (cell_same m2 _).trans (hc j e he).2.1, (cell_same m2 _).trans (hc j e he).2.2⟩⟩⟩
theorem IntsAt.keep {B : Nat} {w w' : World} {A : Option Addr} {n : Nat} {xs : List Int} (h : IntsAt (some B) w A n xs) (hk : KeepT 3 w w') : IntsAt (some B) w' A n xs :=
 ⟨h.1, fun hn => by
  obtain ⟨g, off, hA, hg, hm, hc⟩ := h.2 hn
  obtain ⟨m1, m2⟩ := hk.mine hm
  exact ⟨g, off, hA, Nat.lt_of_lt_of_le hg hk.size, m1, fun j x hx => (cell_same m2 _).trans (hc j x hx)⟩⟩
theorem InosAt.keep {B : Nat} {w w' : World} {A : Option Addr} {n : Nat} {is : List Ino} (h : InosAt (some B) w A n is) (hk : KeepT 52 w w') (he : KeepT 84 w w') : InosAt (some B) w' A n is :=
 ⟨h.1, fun hn => by
  obtain ⟨g, off, hA, hg, hm, hc⟩ := h.2 hn
  obtain ⟨m1, m2⟩ := hk.mine hm
  refine ⟨g, off, hA, Nat.lt_of_lt_of_le hg hk.size, m1, fun j x hx => ?_⟩
  obtain ⟨h1, h2, ⟨E, m, c, h3, h4, h5⟩, h6⟩ := hc j x hx
  exact ⟨(cell_same m2 _).trans h1, (cell_same m2 _).trans h2, ⟨E, m, c, (cell_same m2 _).trans h3, h4, h5.keep he⟩, (cell_same m2 _).trans h6⟩⟩
structure Own (B : Nat) (w : World) (p : Nat) (s : St) : Prop where
 at_ : ∃ A n c E m d D k e, B ≤ p ∧ w.heap[p]? = some (.cells #[.slice A n c, .slice E m d, .slice D k e] 26 (0, 0)) ∧ InosAt (some B) w A n s.inos ∧ DescsAt (some B) w E m s.opn ∧ IntsAt (some B) w D k s.made ∧ SlOk A n c ∧ SlOk E m d ∧ SlOk D k e
 sized : Sized s
theorem Own.below {B : Nat} {w w' : World} {p : Nat} {s : St} (h : Own B w p s) (hb : Below w.heap.size w w') : Own B w' p s := by
 obtain ⟨⟨A, n, c, E, m, d, D, k, e, h0, h1, h2, h3, h4, h5, h6, h7⟩, hz⟩ := h
 exact ⟨⟨A, n, c, E, m, d, D, k, e, h0, (hb.block p (Array.getElem?_eq_some_iff.1 h1).1).trans h1, h2.below hb, h3.below hb, h4.below hb, h5, h6, h7⟩, hz⟩
theorem Own.drewN {B : Nat} {w : World} {p : Nat} {s : St} (h : Own B w p s) (q : Nat) : Own B (w.drewN q) p s := ⟨h.at_, h.sized⟩
theorem Own.val {B : Nat} {w : World} {p : Nat} {s : St} (h : Own B w p s) : ∃ A n c E m d D k e, B ≤ p ∧ p < w.heap.size ∧ w.cell? ⟨p, 0, none⟩ = some (.slice A n c) ∧ w.cell? ⟨p, 1, none⟩ = some (.slice E m d) ∧ w.cell? ⟨p, 2, none⟩ = some (.slice D k e) ∧ (∀ j, w.frozen? ⟨p, j, none⟩ = false) ∧
  StAt (some B) w (.agg #[.slice A n c, .slice E m d, .slice D k e]) s ∧ InosAt (some B) w A n s.inos ∧ DescsAt (some B) w E m s.opn ∧ IntsAt (some B) w D k s.made := by
 obtain ⟨⟨A, n, c, E, m, d, D, k, e, h0, h1, h2, h3, h4, h5, h6, h7⟩, hz⟩ := h
 refine ⟨A, n, c, E, m, d, D, k, e, h0, (Array.getElem?_eq_some_iff.1 h1).1, ?_, ?_, ?_, fun j => frozen_of_row w p j _ _ h1, ⟨⟨A, n, c, E, m, d, D, k, e, rfl, h2, h3, h4, h5, h6, h7⟩, hz⟩, h2, h3, h4⟩ <;> (rw [cell_of_row w p _ _ _ (0, 0) h1]; rfl)
theorem Own.setInos {B : Nat} {w : World} {p : Nat} {s : St} (h : Own B w p s) {A : Option Addr} {n c : Nat} {is : List Ino} (hi : InosAt (some B) w A n is) (hc : SlOk A n c) (hz : Sized { s with inos := is }) : Own B (w.setCell ⟨p, 0, none⟩ (.slice A n c)) p { s with inos := is } := by
 obtain ⟨⟨A', n', c', E, m, d, D, k, e, h0, h1, h2, h3, h4, h5, h6, h7⟩, _⟩ := h
 refine ⟨⟨A, n, c, E, m, d, D, k, e, h0, ?_, hi.keep (KeepT.set h1 (by decide)) (KeepT.set h1 (by decide)), h3.keep (KeepT.set h1 (by decide)), h4.keep (KeepT.set h1 (by decide)), hc, h6, h7⟩, hz⟩
 rw [heap_setCell_same w p 0 _ _ _ h1]
 rfl
theorem InosAt.set {B : Nat} {w : World} {g off n : Nat} {is : List Ino} (h : InosAt (some B) w (some ⟨g, off, none⟩) n is) (i a : Nat) (x y : Ino) (u : Value) (hx : is[i]? = some x) (ha : a = 2 ∨ a = 3) (hnum : y.num = x.num) (hdir : y.dir = x.dir)
  (h2 : a = 2 → y.data = x.data ∧ ∃ A m c, u = .slice A m c ∧ SlOk A m c ∧ EntsAt (some B) w A m y.ents) (h3 : a = 3 → u = .string y.data ∧ y.ents = x.ents) :
  InosAt (some B) (w.setCell ⟨g, off + i * 4 + a, none⟩ u) (some ⟨g, off, none⟩) n (is.set i y) := by
 refine ⟨by rw [List.length_set]; exact h.1, fun hn => ?_⟩
 obtain ⟨g', off', hA, hg, hm, hc⟩ := h.2 hn
 injection hA with hA
 injection hA with hA1 hA2
 subst hA1 hA2
 obtain ⟨hB, cur, hcur⟩ := hm B rfl
 have hkE : KeepT 84 w (w.setCell ⟨g, off + i * 4 + a, none⟩ u) := KeepT.set hcur (by decide)
 have other : ∀ k, k ≠ off + i * 4 + a → (w.setCell ⟨g, off + i * 4 + a, none⟩ u).cell? ⟨g, k, none⟩ = w.cell? ⟨g, k, none⟩ := fun k hk => by
  rw [World.cell?_setCell_other _ _ _ _ (fun e => by injection e with _ e; exact hk e.symm)]
 have hil : i < is.length := (List.getElem?_eq_some_iff.1 hx).1
 have same : (w.setCell ⟨g, off + i * 4 + a, none⟩ u).cell? ⟨g, off + i * 4 + a, none⟩ = some u := by
  obtain ⟨_, _, ⟨E, m, c, q3, _⟩, q4⟩ := hc i x hx
  rcases ha with rfl | rfl
  ·exact World.cell?_setCell_same' _ _ _ (by rw [q3]; rfl)
  ·exact World.cell?_setCell_same' _ _ _ (by rw [q4]; rfl)
 refine ⟨g, off, rfl, by simpa [World.setCell] using hg, fun C hC => ?_, fun j z hz => ?_⟩
 ·cases hC
  exact ⟨hB, _, heap_setCell_same w g _ _ _ _ hcur⟩
 ·rw [List.getElem?_set] at hz
  by_cases hj : i = j
  ·subst hj
   rw [if_pos rfl, if_pos hil] at hz
   injection hz with hz
   subst hz
   obtain ⟨q1, q2, ⟨E, m, c, q3, q5, q6⟩, q4⟩ := hc i x hx
   rcases ha with rfl | rfl
   ·obtain ⟨hd, A', m', c', hu, hmc, hE⟩ := h2 rfl
    refine ⟨?_, ?_, ⟨A', m', c', ?_, hmc, hE.keep hkE⟩, ?_⟩
    ·rw [other _ (by omega), hnum]; exact q1
    ·rw [other _ (by omega), hdir]; exact q2
    ·rw [same, hu]
    ·rw [other _ (by omega), hd]; exact q4
   ·obtain ⟨hu, hE⟩ := h3 rfl
    refine ⟨?_, ?_, ⟨E, m, c, ?_, q5, ?_⟩, ?_⟩
    ·rw [other _ (by omega), hnum]; exact q1
    ·rw [other _ (by omega), hdir]; exact q2
    ·rw [other _ (by omega)]; exact q3
    ·rw [hE]; exact q6.keep hkE
    ·rw [same, hu]
  ·rw [if_neg hj] at hz
   obtain ⟨q1, q2, ⟨E, m, c, q3, q5, q6⟩, q4⟩ := hc j z hz
   have ha4 : a < 4 := by rcases ha with rfl | rfl <;> decide
   refine ⟨?_, ?_, ⟨E, m, c, ?_, q5, q6.keep hkE⟩, ?_⟩
   ·rw [other _ (by omega)]; exact q1
   ·rw [other _ (by omega)]; exact q2
   ·rw [other _ (by omega)]; exact q3
   ·rw [other _ (by omega)]; exact q4
theorem IntsAt.set {B : Nat} {w : World} {g off n : Nat} {xs : List Int} (h : IntsAt (some B) w (some ⟨g, off, none⟩) n xs) (i : Nat) (y : Int) (hi : i < n) : IntsAt (some B) (w.setCell ⟨g, off + i, none⟩ (.int .i64 y)) (some ⟨g, off, none⟩) n (xs.set i y) := by
 refine ⟨by rw [List.length_set]; exact h.1, fun hn => ?_⟩
 obtain ⟨g', off', hA, hg, hm, hc⟩ := h.2 hn
 injection hA with hA
 injection hA with hA1 hA2
 subst hA1 hA2
 obtain ⟨hB, cur, hcur⟩ := hm B rfl
 have hil : i < xs.length := by rw [h.1]; exact hi
 refine ⟨g, off, rfl, by simpa [World.setCell] using hg, fun C hC => ?_, fun j z hz => ?_⟩
 ·cases hC
  exact ⟨hB, _, heap_setCell_same w g _ _ _ _ hcur⟩
 ·rw [List.getElem?_set] at hz
  by_cases hj : i = j
  ·subst hj
   rw [if_pos rfl, if_pos hil] at hz
   injection hz with hz
   subst hz
   exact World.cell?_setCell_same' _ _ _ (by rw [hc i _ (List.getElem?_eq_getElem hil)]; rfl)
  ·rw [if_neg hj] at hz
   rw [World.cell?_setCell_other _ _ _ _ (fun e => by injection e with _ e; omega)]
   exact hc j z hz
theorem Own.setIno {B : Nat} {w : World} {p : Nat} {s : St} (h : Own B w p s) (i a : Nat) (x y : Ino) (u : Value) (hx : s.inos[i]? = some x) (ha : a = 2 ∨ a = 3) (hnum : y.num = x.num) (hdir : y.dir = x.dir)
  (h2 : a = 2 → y.data = x.data ∧ ∃ A m c, u = .slice A m c ∧ SlOk A m c ∧ EntsAt (some B) w A m y.ents) (h3 : a = 3 → u = .string y.data ∧ y.ents = x.ents) (hz : Sized { s with inos := s.inos.set i y })
  (g off n c : Nat) (hc : w.cell? ⟨p, 0, none⟩ = some (.slice (some ⟨g, off, none⟩) n c)) : Own B (w.setCell ⟨g, off + i * 4 + a, none⟩ u) p { s with inos := s.inos.set i y } := by
 obtain ⟨⟨A, n', c', E, m, d, D, k, e, q0, q1, q2, q3, q4, q5, q6, q7⟩, _⟩ := h
 rw [cell_of_row w p _ _ _ (0, 0) q1] at hc
 have hc2 : (Value.slice A n' c') = .slice (some ⟨g, off, none⟩) n c := by simpa using hc
 injection hc2 with e1 e2 e3
 subst e1 e2 e3
 have hil : i < s.inos.length := (List.getElem?_eq_some_iff.1 hx).1
 obtain ⟨g', off', hA, hg, hm, hcc⟩ := q2.2 (by have := q2.1; omega)
 injection hA with hA
 injection hA with hA1 hA2
 subst hA1 hA2
 obtain ⟨hB, cur, hcur⟩ := hm B rfl
 refine ⟨⟨some ⟨g, off, none⟩, n', c', E, m, d, D, k, e, q0, ?_, q2.set i a x y u hx ha hnum hdir h2 h3, q3.keep (KeepT.set hcur (by decide)), q4.keep (KeepT.set hcur (by decide)), q5, q6, q7⟩, hz⟩
 have hs : KeepT 26 w (w.setCell ⟨g, off + i * 4 + a, none⟩ u) := KeepT.set hcur (by decide)
 rw [hs.same p _ q1]
 exact q1
theorem Own.setMade {B : Nat} {w : World} {p : Nat} {s : St} (h : Own B w p s) (i : Nat) (y : Int) (hi : i < s.made.length) (hz : Sized { s with made := s.made.set i y })
  (g off n c : Nat) (hc : w.cell? ⟨p, 2, none⟩ = some (.slice (some ⟨g, off, none⟩) n c)) : Own B (w.setCell ⟨g, off + i, none⟩ (.int .i64 y)) p { s with made := s.made.set i y } := by
 obtain ⟨⟨A, n', c', E, m, d, D, k, e, q0, q1, q2, q3, q4, q5, q6, q7⟩, _⟩ := h
 rw [cell_of_row w p _ _ _ (0, 0) q1] at hc
 have hc2 : (Value.slice D k e) = .slice (some ⟨g, off, none⟩) n c := by simpa using hc
 injection hc2 with e1 e2 e3
 subst e1 e2 e3
 have hk : s.made.length = k := q4.1
 obtain ⟨g', off', hA, hg, hm, hcc⟩ := q4.2 (by omega)
 injection hA with hA
 injection hA with hA1 hA2
 subst hA1 hA2
 obtain ⟨hB, cur, hcur⟩ := hm B rfl
 refine ⟨⟨A, n', c', E, m, d, some ⟨g, off, none⟩, k, e, q0, ?_, q2.keep (KeepT.set hcur (by decide)) (KeepT.set hcur (by decide)), q3.keep (KeepT.set hcur (by decide)), q4.set i y (by omega), q5, q6, q7⟩, hz⟩
 have hs : KeepT 26 w (w.setCell ⟨g, off + i, none⟩ (.int .i64 y)) := KeepT.set hcur (by decide)
 rw [hs.same p _ q1]
 exact q1
theorem InosAt.free {B : Nat} {w : World} {g off n : Nat} {is : List Ino} (h : InosAt (some B) w (some ⟨g, off, none⟩) n is) (hn : 0 < n) : B ≤ g ∧ ∀ j, w.frozen? ⟨g, j, none⟩ = false := by
 obtain ⟨g', off', hA, hg, hm, hc⟩ := h.2 hn
 injection hA with hA
 injection hA with hA1 hA2
 subst hA1 hA2
 obtain ⟨hB, cur, hcur⟩ := hm B rfl
 exact ⟨hB, fun j => frozen_of_row w g j _ _ hcur⟩
theorem IntsAt.free {B : Nat} {w : World} {g off n : Nat} {xs : List Int} (h : IntsAt (some B) w (some ⟨g, off, none⟩) n xs) (hn : 0 < n) : B ≤ g ∧ ∀ j, w.frozen? ⟨g, j, none⟩ = false := by
 obtain ⟨g', off', hA, hg, hm, hc⟩ := h.2 hn
 injection hA with hA
 injection hA with hA1 hA2
 subst hA1 hA2
 obtain ⟨hB, cur, hcur⟩ := hm B rfl
 exact ⟨hB, fun j => frozen_of_row w g j _ _ hcur⟩
theorem EntsAt.mono {B B' : Nat} {w : World} {A : Option Addr} {n : Nat} {es : List En} (h : EntsAt (some B) w A n es) (hb : B' ≤ B) : EntsAt (some B') w A n es :=
 ⟨h.1, fun hn => by
  obtain ⟨g, off, hA, hg, hm, hc⟩ := h.2 hn
  exact ⟨g, off, hA, hg, hm.mono hb, hc⟩⟩
theorem DescsAt.mono {B B' : Nat} {w : World} {A : Option Addr} {n : Nat} {ds : List Ds} (h : DescsAt (some B) w A n ds) (hb : B' ≤ B) : DescsAt (some B') w A n ds :=
 ⟨h.1, fun hn => by
  obtain ⟨g, off, hA, hg, hm, hc⟩ := h.2 hn
  exact ⟨g, off, hA, hg, hm.mono hb, hc⟩⟩
theorem IntsAt.mono {B B' : Nat} {w : World} {A : Option Addr} {n : Nat} {xs : List Int} (h : IntsAt (some B) w A n xs) (hb : B' ≤ B) : IntsAt (some B') w A n xs :=
 ⟨h.1, fun hn => by
  obtain ⟨g, off, hA, hg, hm, hc⟩ := h.2 hn
  exact ⟨g, off, hA, hg, hm.mono hb, hc⟩⟩
theorem InosAt.mono {B B' : Nat} {w : World} {A : Option Addr} {n : Nat} {is : List Ino} (h : InosAt (some B) w A n is) (hb : B' ≤ B) : InosAt (some B') w A n is :=
 ⟨h.1, fun hn => by
  obtain ⟨g, off, hA, hg, hm, hc⟩ := h.2 hn
  refine ⟨g, off, hA, hg, hm.mono hb, fun j x hx => ?_⟩
  obtain ⟨h1, h2, ⟨E, m, c, h3, h4, h5⟩, h6⟩ := hc j x hx
  exact ⟨h1, h2, ⟨E, m, c, h3, h4, h5.mono hb⟩, h6⟩⟩
theorem modify_set {α : Type} (f : α → α) (l : List α) (i : Nat) (x : α) (h : l[i]? = some x) : l.modify i f = l.set i (f x) := by
 apply List.ext_getElem?
 intro j
 rw [List.getElem?_modify, List.getElem?_set]
 by_cases e : i = j
 ·subst e
  have hl : i < l.length := (List.getElem?_eq_some_iff.1 h).1
  simp [hl, (List.getElem?_eq_some_iff.1 h).2]
 ·cases hj : l[j]? <;> simp [e, hj]
theorem InosAt.tag {B : Nat} {w : World} {g off n : Nat} {is : List Ino} (h : InosAt (some B) w (some ⟨g, off, none⟩) n is) (hn : 0 < n) : ∃ cur, w.heap[g]? = some (.cells cur 52 (0, 0)) := by
 obtain ⟨g', off', hA, hg, hm, hc⟩ := h.2 hn
 injection hA with hA
 injection hA with hA1 hA2
 subst hA1 hA2
 exact (hm B rfl).2
theorem IntsAt.tag {B : Nat} {w : World} {g off n : Nat} {xs : List Int} (h : IntsAt (some B) w (some ⟨g, off, none⟩) n xs) (hn : 0 < n) : ∃ cur, w.heap[g]? = some (.cells cur 3 (0, 0)) := by
 obtain ⟨g', off', hA, hg, hm, hc⟩ := h.2 hn
 injection hA with hA
 injection hA with hA1 hA2
 subst hA1 hA2
 exact (hm B rfl).2
structure Aside (p : Nat) (w w' : World) : Prop where
 size : w.heap.size ≤ w'.heap.size
 same : ∀ (b : Nat) (cur : Array Value) (t : TypeId), w.heap[b]? = some (.cells cur t (0, 0)) → 52 ≠ t → 3 ≠ t → b ≠ p → w'.heap[b]? = w.heap[b]?
theorem Aside.below {p : Nat} {w w' : World} (h : Below w.heap.size w w') : Aside p w w' := ⟨h.size, fun b cur t hb _ _ _ => h.block b (Array.getElem?_eq_some_iff.1 hb).1⟩
theorem Aside.trans {p : Nat} {a b c : World} (h : Aside p a b) (k : Aside p b c) : Aside p a c :=
 ⟨Nat.le_trans h.size k.size, fun x cur t hx h1 h2 h3 => (k.same x cur t ((h.same x cur t hx h1 h2 h3).trans hx) h1 h2 h3).trans (h.same x cur t hx h1 h2 h3)⟩
theorem Aside.set {p : Nat} {w : World} {g k : Nat} {u : Value} {cur : Array Value} {t : TypeId} (h : w.heap[g]? = some (.cells cur t (0, 0))) (ht : t = 52 ∨ t = 3 ∨ g = p) : Aside p w (w.setCell ⟨g, k, none⟩ u) :=
 ⟨by simp [World.setCell], fun b c t' hb h1 h2 h3 => Below.heap_setCell w ⟨g, k, none⟩ u b (fun e => by
  have e2 : b = g := e
  subst e2
  rw [h] at hb
  injection hb with hb
  injection hb with _ hb _
  rcases ht with ht | ht | ht
  ·exact h1 (ht.symm.trans hb)
  ·exact h2 (ht.symm.trans hb)
  ·exact h3 ht)⟩
end Go.Proofs.YthhceopnnappgaaGreatDoor
