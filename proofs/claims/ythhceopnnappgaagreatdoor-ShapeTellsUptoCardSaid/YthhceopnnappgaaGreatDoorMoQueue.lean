/- A queue of numbers: taken at its head, grown at its end. -/
import Derived.Test.YthhceopnnappgaaGreatDoorFsReached
import Derived.ArgAppend
set_option linter.unusedVariables false
set_option linter.unusedSimpArgs false
namespace Go.Proofs.YthhceopnnappgaaGreatDoor
open Go.RowKit
structure Que (w : World) (base : Nat) (e : TypeId) (ao : Option Addr) (cap : Nat) (xs : List Int) : Prop where
 le : xs.length ≤ cap
 max : cap ≤ maxLen
 row : 0 < cap → ∃ g off cur, ao = some ⟨g, off, .none⟩ ∧ base ≤ g ∧ w.heap[g]? = some (.cells cur e (0, 0)) ∧ off + cap ≤ cur.size ∧ ∀ j t, xs[j]? = some t → cur[off + j]? = some (.int .i64 t)
theorem Que.below {w w' : World} {base : Nat} {e : TypeId} {ao : Option Addr} {cap : Nat} {xs : List Int} (h : Que w base e ao cap xs) (hb : Below w.heap.size w w') : Que w' base e ao cap xs :=
 ⟨h.le, h.max, fun hc => by
  obtain ⟨g, off, cur, h1, h2, h3, h4, h5⟩ := h.row hc
  exact ⟨g, off, cur, h1, h2, (hb.block g (Array.getElem?_eq_some_iff.1 h3).1).trans h3, h4, h5⟩⟩
theorem Que.keep {w w' : World} {base : Nat} {e : TypeId} {ao : Option Addr} {cap : Nat} {xs : List Int} (h : Que w base e ao cap xs) (hb : ∀ g, base ≤ g → g < w.heap.size → w'.heap[g]? = w.heap[g]?) : Que w' base e ao cap xs :=
 ⟨h.le, h.max, fun hc => by
  obtain ⟨g, off, cur, h1, h2, h3, h4, h5⟩ := h.row hc
  exact ⟨g, off, cur, h1, h2, (hb g h2 (Array.getElem?_eq_some_iff.1 h3).1).trans h3, h4, h5⟩⟩
theorem Que.set {w : World} {base : Nat} {e : TypeId} {ao : Option Addr} {cap : Nat} {xs : List Int} (h : Que w base e ao cap xs) {b o : Nat} (hb : b < base) (v : Value) : Que (w.setCell ⟨b, o, .none⟩ v) base e ao cap xs :=
 h.keep fun g hg _ => Below.heap_setCell w ⟨b, o, .none⟩ v g (by show g ≠ b; omega)
theorem Que.one (w : World) (e : TypeId) (x : Int) : Que (w.alloc (.cells #[.int .i64 x] e)) w.heap.size e (some ⟨w.heap.size, 0, .none⟩) 1 [x] :=
 ⟨Nat.le_refl _, by unfold maxLen; omega, fun _ => ⟨w.heap.size, 0, #[.int .i64 x], rfl, Nat.le_refl _, heap_alloc_new w _, Nat.le_refl _, fun j t hj => by
  cases j with
  | zero =>
   have : x = t := by simpa using hj
   rw [this]; rfl
  | succ j => simp at hj⟩⟩
theorem Que.head {w : World} {base : Nat} {e : TypeId} {ao : Option Addr} {cap : Nat} {t : Int} {ts : List Int} (h : Que w base e ao cap (t :: ts)) : ∃ g off, ao = some ⟨g, off, .none⟩ ∧ base ≤ g ∧ g < w.heap.size ∧ w.cell? ⟨g, off, .none⟩ = some (.int .i64 t) ∧ ts.length + 1 ≤ cap := by
 have hle := h.le
 rw [List.length_cons] at hle
 obtain ⟨g, off, cur, h1, h2, h3, h4, h5⟩ := h.row (by omega)
 refine ⟨g, off, h1, h2, (Array.getElem?_eq_some_iff.1 h3).1, ?_, hle⟩
 rw [cell_of_row w g off cur _ (0, 0) h3]
 exact h5 0 t rfl
theorem Que.tail {w : World} {base : Nat} {e : TypeId} {g off cap : Nat} {t : Int} {ts : List Int} (h : Que w base e (some ⟨g, off, .none⟩) cap (t :: ts)) (ao' : Option Addr) (hao : 1 < cap → ao' = some ⟨g, off + 1, .none⟩) : Que w base e ao' (cap - 1) ts := by
 have hle := h.le
 rw [List.length_cons] at hle
 refine ⟨by omega, by have := h.max; omega, fun hc => ?_⟩
 obtain ⟨g1, off1, cur, h1, h2, h3, h4, h5⟩ := h.row (by omega)
 injection h1 with h1
 injection h1 with e1 e2
 subst e1 e2
 refine ⟨g, off + 1, cur, hao (by omega), h2, h3, by omega, fun j u hj => ?_⟩
 rw [show off + 1 + j = off + (j + 1) by omega]
 exact h5 (j + 1) u (by simpa using hj)
theorem Que.of_owns {w : World} {base B : Nat} {e : TypeId} {v : Value} {n : Nat} {xs : List Int} (h : w.ownsRow B e 1 v n (xs.map (Value.int .i64))) (hb : base ≤ B) (hn : 0 < n) : ∃ ao cap, v = .slice ao n cap ∧ Que w base e ao cap xs := by
 obtain ⟨hl, h⟩ := h
 rw [List.length_map] at hl
 rcases h with ⟨_, h2⟩ | ⟨g, cap, cur, hv, hg, hh, hnc, hcm, hcs, htk⟩
 ·omega
 ·refine ⟨_, cap, hv, by omega, hcm, fun _ => ⟨g, 0, cur, rfl, by omega, hh, by omega, fun j t hj => ?_⟩⟩
  have h1 : (xs.map (Value.int .i64))[j]? = some (.int .i64 t) := by rw [List.getElem?_map, hj]; rfl
  rw [← htk, List.getElem?_take] at h1
  split at h1
  ·rw [Nat.zero_add, ← Array.getElem?_toList]; exact h1
  ·cases h1
theorem Que.app {P : Program} {w : World} {base : Nat} {e : TypeId} {ao : Option Addr} {cap : Nat} {xs : List Int} (h : Que w base e ao cap xs) (hb : base ≤ w.heap.size) (t ty : TypeId) (i : TypeInfo) (z : Value)
  (ht : P.underlying t = some (.slice e)) (hi : P.info? e = some i) (hz : i.zero = some z) (hsize : i.size = 1) (hby : i.bytes = 8) (hzs : z.cells.size = 1) (ad : Addr) (c : Nat) (k : Int)
  (hk : ∀ j u, ([.int .i64 k] : List Value)[j]? = some u → w.cell? (ad.add j) = some u) (h63 : xs.length + 1 ≤ 1099511627777) :
  ∃ ao' cap' w', (Builtin.append_ #[t, t] ty #[.slice ao xs.length cap, .slice (some ad) 1 c]).run P w = .ok (.slice ao' (xs.length + 1) cap') w' ∧ Que w' base e ao' cap' (xs ++ [k]) ∧ Below base w w' := by
 have hle := h.le
 have grow : ∀ v' w', w'.ownsRow w.heap.size e 1 v' (xs.length + 1) (xs.map (Value.int .i64) ++ [.int .i64 k]) → w.grownBy w' none → (Builtin.append_ #[t, t] ty #[.slice ao xs.length cap, .slice (some ad) 1 c]).run P w = .ok v' w' →
   ∃ ao' cap' w', (Builtin.append_ #[t, t] ty #[.slice ao xs.length cap, .slice (some ad) 1 c]).run P w = .ok (.slice ao' (xs.length + 1) cap') w' ∧ Que w' base e ao' cap' (xs ++ [k]) ∧ Below base w w' := by
  intro v' w' ho hg hr
  have ho2 : w'.ownsRow w.heap.size e 1 v' (xs.length + 1) ((xs ++ [k]).map (Value.int .i64)) := by rw [List.map_append]; exact ho
  obtain ⟨ao', cap', rfl, hq⟩ := Que.of_owns ho2 hb (by omega)
  exact ⟨ao', cap', w', hr, hq, (Below.refl _ _).grown hg hb (fun _ e => by cases e)⟩
 by_cases hroom : xs.length + 1 ≤ cap
 ·obtain ⟨g, off, cur, rfl, hg, hh, hoc, hcs⟩ := h.row (by omega)
  have hlt : g < w.heap.size := (Array.getElem?_eq_some_iff.1 hh).1
  have hrun := run_append_room_cells (P := P) w t ty e i ht hi g off xs.length cap ad 1 c [.int .i64 k] (by rw [hsize]; rfl) hk (fun u hu => by simp at hu; subst hu; rfl) hroom
   (fun j hj => by
    have : j = 0 := by simpa using hj
    subst this
    rw [hsize, cell_of_row w g _ cur _ (0, 0) hh, Array.getElem?_eq_getElem (by omega)]; rfl)
   (fun j hj => frozen_of_row w g _ cur _ hh)
  rw [hsize, Nat.mul_one] at hrun
  refine ⟨_, _, _, hrun, ⟨by rw [List.length_append]; exact hroom, h.max, fun _ => ⟨g, off, _, rfl, hg, heap_setCell_same w g (off + xs.length) cur _ _ hh, by simpa using hoc, fun j u hj => ?_⟩⟩, (Below.refl _ _).setCell (p := ⟨g, off + xs.length, .none⟩) hg _⟩
  rw [Array.getElem?_setIfInBounds]
  by_cases e1 : j = xs.length
  ·subst e1
   have : k = u := by simpa using hj
   subst this
   rw [if_pos rfl, if_pos (by omega)]
  ·rw [if_neg (by omega)]
   have hj2 : j < xs.length := by
    have := (List.getElem?_eq_some_iff.1 hj).1
    rw [List.length_append] at this
    have h1 : [k].length = 1 := rfl
    omega
   rw [List.getElem?_append_left hj2] at hj
   exact hcs j u hj
 ·have hfull : cap < xs.length + 1 := by omega
  by_cases hc0 : 0 < cap
  ·obtain ⟨g, off, cur, rfl, hg, hh, hoc, hcs⟩ := h.row hc0
   obtain ⟨v', w', hr, r1, r2⟩ := run_append_arg_grows (P := P) w t ty e i z 1 8 ht hi hz hsize hby hzs (by omega) ⟨g, off, .none⟩ xs.length cap (xs.map (Value.int .i64)) (by simp)
    (fun j u hu => by
     rw [List.getElem?_map] at hu
     cases hx : xs[j]? with
     | none => rw [hx] at hu; cases hu
     | some y =>
      rw [hx] at hu
      have : Value.int .i64 y = u := by simpa using hu
      rw [Addr.add_lit, cell_of_row w g _ cur _ (0, 0) hh, hcs j y hx, this])
    ad 1 c [.int .i64 k] rfl hk hfull (by unfold maxLen; omega) (by omega)
   exact grow v' w' r1 r2 hr
  ·have hx : xs = [] := List.eq_nil_of_length_eq_zero (by omega)
   have hc : cap = 0 := by omega
   subst hx hc
   cases ao with
   | some b =>
    obtain ⟨v', w', hr, r1, r2⟩ := run_append_arg_grows (P := P) w t ty e i z 1 8 ht hi hz hsize hby hzs (by omega) b 0 0 [] rfl (fun j u hu => by simp at hu) ad 1 c [.int .i64 k] rfl hk (by omega) (by unfold maxLen; omega) (by omega)
    exact grow v' w' r1 r2 hr
   | none =>
    obtain ⟨v', w', hr, r1, r2, _⟩ := run_append_own (P := P) w w.heap.size t ty e i z 1 8 ht hi hz hsize hby hzs (by omega) (.slice none 0 0) 0 [] (World.ownsRow_nil w _ e 1) ad 1 c [.int .i64 k] rfl hk (fun u hu => by simp at hu; subst hu; rfl) (by unfold maxLen; omega) (by omega) (Nat.le_refl _)
    exact grow v' w' r1 r2 hr
theorem wpList_append_que {P : Program} (w : World) {ops : Array Oper} {rest : List Oper} {o : Oper} {a : Act} {Q : Exit → Act → World → Prop} (hgd : o.guard = none) (s x : Operand) (t : TypeId)
  (hop : o.op = Op.call { callee := Callee.builtin Builtin.append, args := #[s, x], argTypes := #[t, t] }) (base : Nat) (e : TypeId) (ao : Option Addr) (cap n : Nat) (xs : List Int) (hn : xs.length = n) (hs : a.eval s = .slice ao n cap)
  (h : Que w base e ao cap xs) (hb : base ≤ w.heap.size) (i : TypeInfo) (z : Value)
  (ht : P.underlying t = some (.slice e)) (hi : P.info? e = some i) (hz : i.zero = some z) (hsize : i.size = 1) (hby : i.bytes = 8) (hzs : z.cells.size = 1) (ad : Addr) (c : Nat) (k : Int) (hx : a.eval x = .slice (some ad) 1 c)
  (hk : ∀ j u, ([.int .i64 k] : List Value)[j]? = some u → w.cell? (ad.add j) = some u) (h63 : n + 1 ≤ 1099511627777)
  (hK : ∀ ao' cap' w', Que w' base e ao' cap' (xs ++ [k]) → Below base w w' → wpList P ops Q rest (a.put o.dst (.slice ao' (n + 1) cap')) w') : wpList P ops Q (o :: rest) a w := by
 subst hn
 refine wpList_plain hgd fun K hK' => ?_
 obtain ⟨ao', cap', w', hrun, r1, r2⟩ := h.app (P := P) hb t o.type i z ht hi hz hsize hby hzs ad c k hk h63
 unfold Oper.wp
 simp [execOp, hop, resolve, invoke, builtin, hs, hx, hrun, Result.andThen]
 exact hK' _ _ (hK ao' cap' w' r1 r2)
end Go.Proofs.YthhceopnnappgaaGreatDoor
