/- Parts of the proof, side by side: MoQueue, MoReached. -/
import Derived.Test.YtilkhmhgjbhfnaaGreatDoorM01
import Derived.ArgAppend
import Derived.Test.YtilkhmhgjbhfnaaGreatDoorM07
import Derived.Deep.RegionHeld3
import Derived.Deep.DeepCutAuto
set_option linter.unusedVariables false
set_option linter.unusedSimpArgs false
namespace Go.Proofs.YtilkhmhgjbhfnaaGreatDoor
open Go.RowKit
structure Que (w : World) (base : Nat) (e : TypeId) (ao : Option Addr) (cap : Nat) (xs : List Int) : Prop where
 le : xs.length ≤ cap
 max : cap ≤ maxLen
 row : 0 < cap → ∃ g off cur, ao = some ⟨g, off, .none⟩ ∧ base ≤ g ∧ w.heap[g]? = some (.cells cur e (0, 0)) ∧ off + cap ≤ cur.size ∧ ∀ j t, xs[j]? = some t → cur[off + j]? = some (.int .i64 t)
theorem Que.below {w w' : World} {base : Nat} {e : TypeId} {ao : Option Addr} {cap : Nat} {xs : List Int} (h : Que w base e ao cap xs) (hb : Below w.heap.size w w') : Que w' base e ao cap xs :=
 ⟨h.le, h.max, fun hc => by
  obtain ⟨g, off, cur, h1, h2, h3, h4, h5⟩ := h.row hc
  exact ⟨g, off, cur, h1, h2, (hb.block g (Array.getElem?_eq_some_iff.1 h3).1).trans h3, h4, h5⟩⟩
theorem Que.keep {w w' : World} {base : Nat} {e : TypeId} {ao : Option Addr} {cap : Nat} {xs : List Int} (h : Que w base e ao cap xs) (hb : ∀ g, base ≤ g → g < w.heap.size → w'.heap[g]? = w.heap[g]?) : Que w' base e ao cap xs :=
 ⟨h.le, h.max, fun hc => by
  obtain ⟨g, off, cur, h1, h2, h3, h4, h5⟩ := h.row hc
  exact ⟨g, off, cur, h1, h2, (hb g h2 (Array.getElem?_eq_some_iff.1 h3).1).trans h3, h4, h5⟩⟩
theorem Que.set {w : World} {base : Nat} {e : TypeId} {ao : Option Addr} {cap : Nat} {xs : List Int} (h : Que w base e ao cap xs) {b o : Nat} (hb : b < base) (v : Value) : Que (w.setCell ⟨b, o, .none⟩ v) base e ao cap xs :=
 h.keep fun g hg _ => Below.heap_setCell w ⟨b, o, .none⟩ v g (by show g ≠ b; omega)
theorem Que.one (w : World) (e : TypeId) (x : Int) : Que (w.alloc (.cells #[.int .i64 x] e)) w.heap.size e (some ⟨w.heap.size, 0, .none⟩) 1 [x] :=
 ⟨Nat.le_refl _, by unfold maxLen; omega, fun _ => ⟨w.heap.size, 0, #[.int .i64 x], rfl, Nat.le_refl _, heap_alloc_new w _, Nat.le_refl _, fun j t hj => by
  cases j with
  | zero =>
   have : x = t := by simpa using hj
   rw [this]; rfl
  | succ j => simp at hj⟩⟩
theorem Que.head {w : World} {base : Nat} {e : TypeId} {ao : Option Addr} {cap : Nat} {t : Int} {ts : List Int} (h : Que w base e ao cap (t :: ts)) : ∃ g off, ao = some ⟨g, off, .none⟩ ∧ base ≤ g ∧ g < w.heap.size ∧ w.cell? ⟨g, off, .none⟩ = some (.int .i64 t) ∧ ts.length + 1 ≤ cap := by
 have hle := h.le
 rw [List.length_cons] at hle
 obtain ⟨g, off, cur, h1, h2, h3, h4, h5⟩ := h.row (by omega)
 refine ⟨g, off, h1, h2, (Array.getElem?_eq_some_iff.1 h3).1, ?_, hle⟩
 rw [cell_of_row w g off cur _ (0, 0) h3]
 exact h5 0 t rfl
theorem Que.tail {w : World} {base : Nat} {e : TypeId} {g off cap : Nat} {t : Int} {ts : List Int} (h : Que w base e (some ⟨g, off, .none⟩) cap (t :: ts)) (ao' : Option Addr) (hao : 1 < cap → ao' = some ⟨g, off + 1, .none⟩) : Que w base e ao' (cap - 1) ts := by
 have hle := h.le
 rw [List.length_cons] at hle
 refine ⟨by omega, by have := h.max; omega, fun hc => ?_⟩
 obtain ⟨g1, off1, cur, h1, h2, h3, h4, h5⟩ := h.row (by omega)
 injection h1 with h1
 injection h1 with e1 e2
 subst e1 e2
 refine ⟨g, off + 1, cur, hao (by omega), h2, h3, by omega, fun j u hj => ?_⟩
 rw [show off + 1 + j = off + (j + 1) by omega]
 exact h5 (j + 1) u (by simpa using hj)
theorem Que.of_owns {w : World} {base B : Nat} {e : TypeId} {v : Value} {n : Nat} {xs : List Int} (h : w.ownsRow B e 1 v n (xs.map (Value.int .i64))) (hb : base ≤ B) (hn : 0 < n) : ∃ ao cap, v = .slice ao n cap ∧ Que w base e ao cap xs := by
 obtain ⟨hl, h⟩ := h
 rw [List.length_map] at hl
 rcases h with ⟨_, h2⟩ | ⟨g, cap, cur, hv, hg, hh, hnc, hcm, hcs, htk⟩
 ·omega
 ·refine ⟨_, cap, hv, by omega, hcm, fun _ => ⟨g, 0, cur, rfl, by omega, hh, by omega, fun j t hj => ?_⟩⟩
  have h1 : (xs.map (Value.int .i64))[j]? = some (.int .i64 t) := by rw [List.getElem?_map, hj]; rfl
  rw [← htk, List.getElem?_take] at h1
  split at h1
  ·rw [Nat.zero_add, ← Array.getElem?_toList]; exact h1
  ·cases h1
theorem Que.app {P : Program} {w : World} {base : Nat} {e : TypeId} {ao : Option Addr} {cap : Nat} {xs : List Int} (h : Que w base e ao cap xs) (hb : base ≤ w.heap.size) (t ty : TypeId) (i : TypeInfo) (z : Value)
  (ht : P.underlying t = some (.slice e)) (hi : P.info? e = some i) (hz : i.zero = some z) (hsize : i.size = 1) (hby : i.bytes = 8) (hzs : z.cells.size = 1) (ad : Addr) (c : Nat) (k : Int)
  (hk : ∀ j u, ([.int .i64 k] : List Value)[j]? = some u → w.cell? (ad.add j) = some u) (h63 : xs.length + 1 ≤ 1099511627777) :
  ∃ ao' cap' w', (Builtin.append_ #[t, t] ty #[.slice ao xs.length cap, .slice (some ad) 1 c]).run P w = .ok (.slice ao' (xs.length + 1) cap') w' ∧ Que w' base e ao' cap' (xs ++ [k]) ∧ Below base w w' := by
 have hle := h.le
 have grow : ∀ v' w', w'.ownsRow w.heap.size e 1 v' (xs.length + 1) (xs.map (Value.int .i64) ++ [.int .i64 k]) → w.grownBy w' none → (Builtin.append_ #[t, t] ty #[.slice ao xs.length cap, .slice (some ad) 1 c]).run P w = .ok v' w' →
   ∃ ao' cap' w', (Builtin.append_ #[t, t] ty #[.slice ao xs.length cap, .slice (some ad) 1 c]).run P w = .ok (.slice ao' (xs.length + 1) cap') w' ∧ Que w' base e ao' cap' (xs ++ [k]) ∧ Below base w w' := by
  intro v' w' ho hg hr
  have ho2 : w'.ownsRow w.heap.size e 1 v' (xs.length + 1) ((xs ++ [k]).map (Value.int .i64)) := by rw [List.map_append]; exact ho
  obtain ⟨ao', cap', rfl, hq⟩ := Que.of_owns ho2 hb (by omega)
  exact ⟨ao', cap', w', hr, hq, (Below.refl _ _).grown hg hb (fun _ e => by cases e)⟩
 by_cases hroom : xs.length + 1 ≤ cap
 ·obtain ⟨g, off, cur, rfl, hg, hh, hoc, hcs⟩ := h.row (by omega)
  have hlt : g < w.heap.size := (Array.getElem?_eq_some_iff.1 hh).1
  have hrun := run_append_room_cells (P := P) w t ty e i ht hi g off xs.length cap ad 1 c [.int .i64 k] (by rw [hsize]; rfl) hk (fun u hu => by simp at hu; subst hu; rfl) hroom
   (fun j hj => by
    have : j = 0 := by simpa using hj
    subst this
    rw [hsize, cell_of_row w g _ cur _ (0, 0) hh, Array.getElem?_eq_getElem (by omega)]; rfl)
   (fun j hj => frozen_of_row w g _ cur _ hh)
  rw [hsize, Nat.mul_one] at hrun
  refine ⟨_, _, _, hrun, ⟨by rw [List.length_append]; exact hroom, h.max, fun _ => ⟨g, off, _, rfl, hg, heap_setCell_same w g (off + xs.length) cur _ _ hh, by simpa using hoc, fun j u hj => ?_⟩⟩, (Below.refl _ _).setCell (p := ⟨g, off + xs.length, .none⟩) hg _⟩
  rw [Array.getElem?_setIfInBounds]
  by_cases e1 : j = xs.length
  ·subst e1
   have : k = u := by simpa using hj
   subst this
   rw [if_pos rfl, if_pos (by omega)]
  ·rw [if_neg (by omega)]
   have hj2 : j < xs.length := by
    have := (List.getElem?_eq_some_iff.1 hj).1
    rw [List.length_append] at this
    have h1 : [k].length = 1 := rfl
    omega
   rw [List.getElem?_append_left hj2] at hj
   exact hcs j u hj
 ·have hfull : cap < xs.length + 1 := by omega
  by_cases hc0 : 0 < cap
  ·obtain ⟨g, off, cur, rfl, hg, hh, hoc, hcs⟩ := h.row hc0
   obtain ⟨v', w', hr, r1, r2⟩ := run_append_arg_grows (P := P) w t ty e i z 1 8 ht hi hz hsize hby hzs (by omega) ⟨g, off, .none⟩ xs.length cap (xs.map (Value.int .i64)) (by simp)
    (fun j u hu => by
     rw [List.getElem?_map] at hu
     cases hx : xs[j]? with
     | none => rw [hx] at hu; cases hu
     | some y =>
      rw [hx] at hu
      have : Value.int .i64 y = u := by simpa using hu
      rw [Addr.add_lit, cell_of_row w g _ cur _ (0, 0) hh, hcs j y hx, this])
    ad 1 c [.int .i64 k] rfl hk hfull (by unfold maxLen; omega) (by omega)
   exact grow v' w' r1 r2 hr
  ·have hx : xs = [] := List.eq_nil_of_length_eq_zero (by omega)
   have hc : cap = 0 := by omega
   subst hx hc
   cases ao with
   | some b =>
    obtain ⟨v', w', hr, r1, r2⟩ := run_append_arg_grows (P := P) w t ty e i z 1 8 ht hi hz hsize hby hzs (by omega) b 0 0 [] rfl (fun j u hu => by simp at hu) ad 1 c [.int .i64 k] rfl hk (by omega) (by unfold maxLen; omega) (by omega)
    exact grow v' w' r1 r2 hr
   | none =>
    obtain ⟨v', w', hr, r1, r2, _⟩ := run_append_own (P := P) w w.heap.size t ty e i z 1 8 ht hi hz hsize hby hzs (by omega) (.slice none 0 0) 0 [] (World.ownsRow_nil w _ e 1) ad 1 c [.int .i64 k] rfl hk (fun u hu => by simp at hu; subst hu; rfl) (by unfold maxLen; omega) (by omega) (Nat.le_refl _)
    exact grow v' w' r1 r2 hr
theorem wpList_append_que {P : Program} (w : World) {ops : Array Oper} {rest : List Oper} {o : Oper} {a : Act} {Q : Exit → Act → World → Prop} (hgd : o.guard = none) (s x : Operand) (t : TypeId)
  (hop : o.op = Op.call { callee := Callee.builtin Builtin.append, args := #[s, x], argTypes := #[t, t] }) (base : Nat) (e : TypeId) (ao : Option Addr) (cap n : Nat) (xs : List Int) (hn : xs.length = n) (hs : a.eval s = .slice ao n cap)
  (h : Que w base e ao cap xs) (hb : base ≤ w.heap.size) (i : TypeInfo) (z : Value)
  (ht : P.underlying t = some (.slice e)) (hi : P.info? e = some i) (hz : i.zero = some z) (hsize : i.size = 1) (hby : i.bytes = 8) (hzs : z.cells.size = 1) (ad : Addr) (c : Nat) (k : Int) (hx : a.eval x = .slice (some ad) 1 c)
  (hk : ∀ j u, ([.int .i64 k] : List Value)[j]? = some u → w.cell? (ad.add j) = some u) (h63 : n + 1 ≤ 1099511627777)
  (hK : ∀ ao' cap' w', Que w' base e ao' cap' (xs ++ [k]) → Below base w w' → wpList P ops Q rest (a.put o.dst (.slice ao' (n + 1) cap')) w') : wpList P ops Q (o :: rest) a w := by
 subst hn
 refine wpList_plain hgd fun K hK' => ?_
 obtain ⟨ao', cap', w', hrun, r1, r2⟩ := h.app (P := P) hb t o.type i z ht hi hz hsize hby hzs ad c k hk h63
 unfold Oper.wp
 simp [execOp, hop, resolve, invoke, builtin, hs, hx, hrun, Result.andThen]
 exact hK' _ _ (hK ao' cap' w' r1 r2)
def NumsAt (w : World) (G n : Nat) (f : Nat → Nat) : Prop := ∃ cur : Array Value, w.heap[G]? = some (.cells cur 3 (0, 0)) ∧ ∀ j, j < n → cur[j]? = some (.int .i64 (f j : Nat))
theorem NumsAt.lt {w : World} {G n : Nat} {f : Nat → Nat} (h : NumsAt w G n f) : G < w.heap.size := by
 obtain ⟨cur, hh, _⟩ := h
 exact (Array.getElem?_eq_some_iff.1 hh).1
theorem NumsAt.same {w w' : World} {G n : Nat} {f : Nat → Nat} (h : NumsAt w G n f) (hb : w'.heap[G]? = w.heap[G]?) : NumsAt w' G n f := by
 obtain ⟨cur, hh, hc⟩ := h
 exact ⟨cur, hb.trans hh, hc⟩
theorem NumsAt.below {w w' : World} {G n : Nat} {f : Nat → Nat} (h : NumsAt w G n f) (hb : Below w.heap.size w w') : NumsAt w' G n f := h.same (hb.block G h.lt)
theorem NumsAt.congr {w : World} {G n : Nat} {f g : Nat → Nat} (h : NumsAt w G n f) (hfg : ∀ j, j < n → f j = g j) : NumsAt w G n g := by
 obtain ⟨cur, hh, hc⟩ := h
 exact ⟨cur, hh, fun j hj => by rw [← hfg j hj]; exact hc j hj⟩
theorem NumsAt.get {w : World} {G n : Nat} {f : Nat → Nat} (h : NumsAt w G n f) (j : Nat) (hj : j < n) : w.cell? ⟨G, j, .none⟩ = some (.int .i64 (f j : Nat)) ∧ w.frozen? ⟨G, j, .none⟩ = false := by
 obtain ⟨cur, hh, hc⟩ := h
 exact ⟨by rw [cell_of_row w G j cur _ (0, 0) hh]; exact hc j hj, frozen_of_row w G j cur _ hh⟩
theorem NumsAt.set {w : World} {G n : Nat} {f : Nat → Nat} (h : NumsAt w G n f) (b : Nat) (hb : b < n) : NumsAt (w.setCell ⟨G, b, .none⟩ (.int .i64 ((f b : Int) + 1))) G n (fun j => if j = b then f j + 1 else f j) := by
 obtain ⟨cur, hh, hc⟩ := h
 refine ⟨_, heap_setCell_same w G b cur _ _ hh, fun j hj => ?_⟩
 rw [Array.getElem?_setIfInBounds]
 by_cases e : b = j
 ·subst e
  have : b < cur.size := (Array.getElem?_eq_some_iff.1 (hc b hb)).1
  simp [this]
 ·simp only
  rw [if_neg e, if_neg (show ¬ j = b from fun e2 => e e2.symm)]
  exact hc j hj
theorem nums_made (w : World) (n : Nat) : NumsAt (w.alloc (.cells (madeCells #[.int .i64 0] n) 3)) w.heap.size n (fun _ => 0) :=
 ⟨_, heap_alloc_new w _, fun j hj => by simp [madeCells, hj, Nat.mod_one]⟩
theorem flags_made (w : World) (n : Nat) : FlagsAt (w.alloc (.cells (madeCells #[.bool false] n) 4)) w.heap.size n (List.replicate n false) :=
 ⟨_, heap_alloc_new w _, fun j hj => by
  have h1 : (List.replicate n false).getD j false = false := by
   rw [List.getD_eq_getElem?_getD, List.getElem?_replicate]
   split <;> rfl
  rw [h1]
  simp [madeCells, hj, Nat.mod_one]⟩
theorem rows_a (w : World) (n : Nat) : NumsAt ((w.alloc (.cells (madeCells #[.int .i64 0] n) 3)).alloc (.cells (madeCells #[.bool false] n) 4)).drew w.heap.size n (fun _ => 0) ∧
  FlagsAt ((w.alloc (.cells (madeCells #[.int .i64 0] n) 3)).alloc (.cells (madeCells #[.bool false] n) 4)).drew (w.heap.size + 1) n (List.replicate n false) ∧
  Below w.heap.size w ((w.alloc (.cells (madeCells #[.int .i64 0] n) 3)).alloc (.cells (madeCells #[.bool false] n) 4)).drew := by
 have h2 := flags_made (w.alloc (.cells (madeCells #[.int .i64 0] n) 3)) n
 have hs : (w.alloc (.cells (madeCells #[.int .i64 0] n) 3)).heap.size = w.heap.size + 1 := by simp
 rw [hs] at h2
 exact ⟨((nums_made w n).below ((Below.refl _ _).alloc (Nat.le_refl _) _)).same rfl, h2.same rfl, (((Below.refl _ _).alloc (Nat.le_refl _) _).alloc (by omega) _).drew⟩
theorem rows_b (w : World) (n : Nat) : NumsAt ((w.alloc (.cells (madeCells #[.bool false] n) 4)).alloc (.cells (madeCells #[.int .i64 0] n) 3)).drew (w.heap.size + 1) n (fun _ => 0) ∧
  FlagsAt ((w.alloc (.cells (madeCells #[.bool false] n) 4)).alloc (.cells (madeCells #[.int .i64 0] n) 3)).drew w.heap.size n (List.replicate n false) ∧
  Below w.heap.size w ((w.alloc (.cells (madeCells #[.bool false] n) 4)).alloc (.cells (madeCells #[.int .i64 0] n) 3)).drew := by
 have h2 := nums_made (w.alloc (.cells (madeCells #[.bool false] n) 4)) n
 have hs : (w.alloc (.cells (madeCells #[.bool false] n) 4)).heap.size = w.heap.size + 1 := by simp
 rw [hs] at h2
 exact ⟨h2.same rfl, ((flags_made w n).below ((Below.refl _ _).alloc (Nat.le_refl _) _)).same rfl, (((Below.refl _ _).alloc (Nat.le_refl _) _).alloc (by omega) _).drew⟩
def numAt (is : List Ino) (j : Nat) : Int := match is[j]? with | none => 0 | some x => x.num
set_option maxRecDepth 100000 in
set_option maxHeartbeats 8000000 in
theorem mreached_any (p : Nat) (s : St) (x0 : Ino) (w : World) (h : PtrAt w p s) (hri : RiseI s.inos) (hl : Linked s.inos) (h0 : s.inos[0]? = some x0) (hx0 : x0.num = 1) (hn0 : s.inos.length ≤ 257) :
  Calls Tryz.prog 121 #[.pointer (some ⟨p, 0, .none⟩)] w fun e w' => ∃ G1 G2, e = .returned (.tuple #[.slice (some ⟨G1, 0, .none⟩) s.inos.length s.inos.length, .slice (some ⟨G2, 0, .none⟩) s.inos.length s.inos.length]) ∧
   NumsAt w' G1 s.inos.length (fun j => (manyV s.inos).getD j 0) ∧ FlagsAt w' G2 s.inos.length (reachV s.inos) ∧ Below w.heap.size w w' := by
 obtain ⟨A, n, c, E, m, d, D, k, e, hp, c0, c1, c2, hI, hD, hM, hn, hm, hk⟩ := h.val
 have hnl := hI.1
 have hbig := h.sized.big
 have hbe : bulkE s.inos ≤ 1099511627776 := by omega
 have hn2 : n ≤ 257 := by omega
 rw [hnl]
 have HI := Lib.hid hI
 have HP := Lib.hid h
 have HRI := Lib.hid hri
 have HL := Lib.hid hl
 have HN := Lib.hid hnl
 have H0 := Lib.hid h0
 have HX0 := Lib.hid hx0
 obtain ⟨i0, hi, hz0, hz1, hz2⟩ := info_parts infoNum
 have hmk1 : ∀ w, (Instr.makeSlice 29 (.int .i64 (n : Int)) (.int .i64 (n : Int))).run Tryz.prog w = .ok (.slice (some ⟨w.heap.size, 0, .none⟩) n n) (w.alloc (.cells (madeCells #[.int .i64 0] n) 3)) :=
  fun w => run_make_row' (P := Tryz.prog) 29 3 (.int .i64 0) 8 Tryz.underlying29 infoNum rfl .i64 .i64 n (by omega) (by omega) w
 have hmk2 : ∀ w, (Instr.makeSlice 148 (.int .i64 (n : Int)) (.int .i64 (n : Int))).run Tryz.prog w = .ok (.slice (some ⟨w.heap.size, 0, .none⟩) n n) (w.alloc (.cells (madeCells #[.bool false] n) 4)) :=
  fun w => run_make_row' (P := Tryz.prog) 148 4 (.bool false) 1 Tryz.underlying148 infoFlag rfl .i64 .i64 n (by omega) (by omega) w
 clear hI h hri hl hnl h0 hx0 hbig hD hM hn0
 go_enter Tryz.func121, Tryz.ntmps121
 go_upto_region 1 with fail
 go_cut [4, 5] (fun v4 v5 wx => ∃ G1 G2, v4 = .slice (some ⟨G1, 0, .none⟩) n n ∧ v5 = .slice (some ⟨G2, 0, .none⟩) n n ∧ NumsAt wx G1 n (fun _ => 0) ∧ FlagsAt wx G2 n (List.replicate n false) ∧ Below w.heap.size w wx ∧ w.heap.size ≤ G1 ∧ w.heap.size ≤ G2 ∧ G1 ≠ G2)
 case first =>
  go_region_held3 (fun w' => w'.cell? ⟨p, 0, none⟩ = some (.slice A n c)) (go_keep) (fail)
  all_goals
   go_wp2_with fail
   go_meet
   first
    | exact ⟨_, _, rfl, rfl, (rows_a w n).1, (rows_a w n).2.1, (rows_a w n).2.2, Nat.le_refl _, by omega, by omega⟩
    | exact ⟨_, _, rfl, rfl, (rows_b w n).1, (rows_b w n).2.1, (rows_b w n).2.2, by omega, Nat.le_refl _, by omega⟩
 case rest =>
  obtain ⟨G1, G2, rfl, rfl, hnu, hfl, hbel, hg1, hg2, hne⟩ := hcut
  have z0 := (hbel.cell (p := ⟨p, 0, .none⟩) hp).trans c0
  have hl1 := hnu.lt
  have hl2 := hfl.lt
  have HB := Lib.hid hbel
  have HNU := Lib.hid hnu
  have HFL := Lib.hid hfl
  have hpl : p < wc.heap.size := Nat.lt_of_lt_of_le hp hbel.size
  clear hbel hnu hfl
  go_wp2_with fail
  clear hmk1 hmk2
  go_loopw [32] (fun i wr => ∃ q : Nat, i = .int .i64 q ∧ q ≤ n ∧ Below w.heap.size w wr ∧ NumsAt wr G1 n (fun j => partL s.inos q 0 (numAt s.inos j)) ∧ FlagsAt wr G2 n (List.replicate n false)) (fun i _ => n - (intOf i).toNat)
  case atStart => exact ⟨0, rfl, by omega, HB.out, HNU.out.congr (fun j _ => (partL_zero _ _).symm), HFL.out⟩
  case round =>
   obtain ⟨q, rfl, hq, hbel2, hnu2, hfl2⟩ := hrel
   have HB2 := Lib.hid hbel2
   have HN2 := Lib.hid hnu2
   have HF2 := Lib.hid hfl2
   have HIr := Lib.hid (HI.out.below hbel2)
   have hpr : p < wr.heap.size := Nat.lt_of_lt_of_le hp hbel2.size
   have hr1 := hnu2.lt
   have hr2 := hfl2.lt
   clear hbel2 hnu2 hfl2
   by_cases hlt : q < n
   ·obtain ⟨g, off, x, E2, m2, d2, rfl, hg, hx, hd, hmem, e0, e1, e2, hok, hE, e3⟩ := HI.out.get q hlt
    have k0 : (0 : Int) ≤ (q : Int) := by omega
    have k1 : (q : Int) < (n : Int) := by omega
    have hel := hE.1
    have hble := bulkE_le hx
    have hm2 : m2 ≤ 1099511627776 := by omega
    obtain ⟨V1, hV1, u0, u1, u2, u3, hal, hlt1⟩ := box_ino wr x.num x.dir E2 m2 d2 x.data
    have y0 := (HB2.out.cell (p := ⟨g, _, .none⟩) hg).trans e0
    have y1 := (HB2.out.cell (p := ⟨g, _, .none⟩) hg).trans e1
    have y2 := (HB2.out.cell (p := ⟨g, _, .none⟩) hg).trans e2
    have y3 := (HB2.out.cell (p := ⟨g, _, .none⟩) hg).trans e3
    have HX := Lib.hid hx
    have HME := Lib.hid hmem
    have HEL := Lib.hid hel
    have HB3 := Lib.hid (Cv.next HB2.out hal)
    have HN3 := Lib.hid (HN2.out.below hal)
    have HF3 := Lib.hid (HF2.out.below hal)
    have HE := Lib.hid hE
    clear hx hmem hd hel hE hal hble e0 e1 e2 e3
    go_wp2_with fail
    clear hV1 y0 y1 y2 y3 u0 u1 u2 u3
    go_loopw [39] (fun i wz => ∃ r : Nat, i = .int .i64 r ∧ r ≤ m2 ∧ Below w.heap.size w wz ∧ NumsAt wz G1 n (fun j => partL s.inos q r (numAt s.inos j)) ∧ FlagsAt wz G2 n (List.replicate n false)) (fun i _ => m2 - (intOf i).toNat)
    case atStart => exact ⟨0, rfl, by omega, HB3.out, HN3.out, HF3.out⟩
    case round =>
     obtain ⟨r, rfl, hr, hbz, hnz, hfz⟩ := hrel
     have HBz := Lib.hid hbz
     have HNz := Lib.hid hnz
     have HFz := Lib.hid hfz
     have hpz : p < wr.heap.size := Nat.lt_of_lt_of_le hp hbz.size
     clear hbz hnz hfz
     by_cases hlt2 : r < m2
     ·obtain ⟨g3, off3, e, rfl, hg3, he, hd3, hmem3, f0, f1⟩ := HE.out.get r hlt2
      have r0 : (0 : Int) ≤ (r : Int) := by omega
      have r1 : (r : Int) < (m2 : Int) := by omega
      obtain ⟨V2, hV2, v0, v1, hal, hlt3⟩ := box_en wr e.name e.num
      have x0' := (HBz.out.cell (p := ⟨g3, _, .none⟩) hg3).trans f0
      have x1' := (HBz.out.cell (p := ⟨g3, _, .none⟩) hg3).trans f1
      have HB4 := Lib.hid (Cv.next HBz.out hal)
      have HN4 := Lib.hid (HNz.out.below hal)
      have HF4 := Lib.hid (HFz.out.below hal)
      have HPV := Lib.hid (HP.out.below HB4.out)
      have HE2 := Lib.hid he
      have hfnd := (HL.out x HME.out).2 e hmem3
      obtain ⟨j0, hj0⟩ : ∃ j0 : Nat, atV s.inos e.num = (j0 : Int) := ⟨(atV s.inos e.num).toNat, by omega⟩
      have HJ := Lib.hid hj0
      have hjn : j0 < n := by
       obtain ⟨y, hy, _⟩ := atV_lt hj0
       have := (List.getElem?_eq_some_iff.1 hy).1
       have := HN.out
       omega
      clear hal hfnd hj0 f0 f1 he hd3 hmem3
      go_wp2_with fail
      refine (mfind_any p s e.num _ HPV.out HRI.out).mono ?_
      rintro e5 w5 ⟨rfl, hb5⟩
      rw [HJ.out]
      have HN5 := Lib.hid (HN4.out.below hb5)
      have HF5 := Lib.hid (HF4.out.below hb5)
      have HB5 := Lib.hid (Cv.next HB4.out hb5)
      obtain ⟨nc, nf⟩ := HN5.out.get j0 hjn
      have hpl5 := partL_le s.inos q r (numAt s.inos j0)
      obtain ⟨PL, hPL⟩ : ∃ PL, partL s.inos q r (numAt s.inos j0) = PL := ⟨_, rfl⟩
      rw [hPL] at nc hpl5
      have HPL := Lib.hid hPL
      have j0a : (0 : Int) ≤ (j0 : Int) := by omega
      have j0b : (j0 : Int) < (n : Int) := by omega
      have jw : IntKind.i64.wrap ((PL : Int) + 1) = (PL : Int) + 1 := by rw [IntKind.wrap_i64]; omega
      clear hb5 hPL x0' x1' v0 v1 hV2
      go_wp2_with fail
      go_roundw
      case rel =>
       have hs := HN5.out.set j0 hjn
       simp only [HPL.out] at hs
       exact ⟨r + 1, by go_num, by omega, HB5.out.setCell (p := ⟨G1, j0, .none⟩) hg1 _, hs.congr (fun j hj => by
        rw [partL_entry HX.out HE2.out]
        obtain ⟨y, hy, hyn⟩ := atV_lt HJ.out
        by_cases e1 : j = j0
        ·subst e1
         have hn1 : numAt s.inos j = y.num := by unfold numAt; rw [hy]
         rw [if_pos rfl, if_pos (by rw [hn1, hyn])]
        ·rw [if_neg e1, if_neg]
         ·rfl
         ·intro e2
          have hjl : j < s.inos.length := by have := HN.out; omega
          have hn1 : numAt s.inos j = s.inos[j].num := by unfold numAt; rw [List.getElem?_eq_getElem hjl]
          have := atV_of_rise HRI.out (List.getElem?_eq_getElem hjl) (by rw [← hn1, ← e2])
          rw [HJ.out] at this
          omega), HF5.out.same (by simp only [World.setCell, Array.getElem?_modify]; rw [if_neg hne])⟩
      case measure => simp [intOf]; omega
     ·have q1 : decide ((r : Int) < (m2 : Int)) = false := by rw [decide_eq_false_iff_not]; omega
      have hrm : x.ents.length ≤ r := by have := HEL.out; omega
      have HRM := Lib.hid hrm
      clear hrm
      go_wp2_with fail
      go_roundw
      case rel => exact ⟨q + 1, by go_num, by omega, HBz.out, HNz.out.congr (fun j hj => (partL_next HL.out HX.out HRM.out _).symm), HFz.out⟩
      case measure => simp [intOf]; omega
   ·have q1 : decide ((q : Int) < (n : Int)) = false := by rw [decide_eq_false_iff_not]; omega
    have HNa := Lib.hid (HN2.out.congr (g := fun j => (manyV s.inos).getD j 0) (fun j hj => by
     have hjl : j < s.inos.length := by have := HN.out; omega
     rw [partL_all (by have := HN.out; omega)]
     unfold numAt manyV
     rw [List.getD_eq_getElem?_getD, List.getElem?_map, List.getElem?_eq_getElem hjl]
     rfl))
    clear HN2
    have hn0 : 0 < n := by have := (List.getElem?_eq_some_iff.1 H0.out).1; have := HN.out; omega
    obtain ⟨B, hB⟩ : ∃ B, wr.heap.size = B := ⟨_, rfl⟩
    obtain ⟨U, hU⟩ : ∃ U, wr.alloc (.cells #[.int .i64 0] 3) = U := ⟨_, rfl⟩
    have hqu := Que.one wr 3 0
    rw [hU] at hqu
    have hqu : Que U B 3 (some ⟨wr.heap.size, 0, .none⟩) 1 [0] := by rw [← hB]; exact hqu
    have hbu : Below wr.heap.size wr U := by rw [← hU]; exact (Below.refl _ _).alloc (Nat.le_refl _) _
    have hus : B ≤ U.heap.size := by rw [← hU, ← hB]; simp
    have hfu := HF2.out.below hbu
    have hnu3 := HNa.out.below hbu
    have hb3 := Cv.next HB2.out hbu
    obtain ⟨fc, ff⟩ := hfu.get 0 hn0
    have fl : ((List.replicate n false).getD 0 false) = false := by
     rw [List.getD_eq_getElem?_getD, List.getElem?_replicate]
     split <;> rfl
    rw [fl] at fc
    have hG1 : G1 < B := by omega
    have hG2 : G2 < B := by omega
    have hwB : w.heap.size ≤ B := by omega
    have HQ0 := Lib.hid (hqu.set (o := 0) hG2 (.bool true))
    have HF0 := Lib.hid (hfu.set 0 hn0 (by simpa using hn0))
    have HN0 := Lib.hid (hnu3.same (w' := U.setCell ⟨G2, 0, .none⟩ (.bool true)) (Below.heap_setCell U ⟨G2, 0, .none⟩ _ G1 hne))
    have HB0 := Lib.hid (hb3.setCell (p := ⟨G2, 0, .none⟩) hg2 (.bool true))
    have hus2 : B ≤ (U.setCell ⟨G2, 0, .none⟩ (.bool true)).heap.size := by simpa [World.setCell] using hus
    have n0 : (0 : Int) < (n : Int) := by omega
    have hst := FoundQ.start H0.out HX0.out
    rw [HN.out] at hst
    have HST := Lib.hid hst
    obtain ⟨MV, hMV⟩ : ∃ MV : Nat → Nat, (fun j => (manyV s.inos).getD j 0) = MV := ⟨_, rfl⟩
    rw [hMV] at HN0
    have HMV := Lib.hid hMV
    have hun : unF ((List.replicate n false).set 0 true) ≤ n := by have := unF_le ((List.replicate n false).set 0 true); simpa using this
    have HUN := Lib.hid hun
    clear hqu hbu hfu hnu3 hb3 fl hst hMV HNa HF2 HB2 hB hr1 hr2 hus hun
    go_wp2_with fail
    clear hU fc ff
    go_loopg [10, 11, 14] (1 + unF ((List.replicate n false).set 0 true)) (fun gk v10 _ _ wy => ∃ (ao : Option Addr) (cap : Nat) (todo : List Int) (f : List Bool) (cur : Nat), v10 = .slice ao todo.length cap ∧ Que wy B 3 ao cap todo ∧ FlagsAt wy G2 n f ∧ NumsAt wy G1 n MV ∧ Below w.heap.size w wy ∧ B ≤ wy.heap.size ∧ FoundQ s.inos todo cur [] f ∧ todo.length + unF f = gk ∧ gk ≤ 1 + n)
    case atStart => exact ⟨_, 1, [0], _, 0, rfl, HQ0.out, HF0.out, HN0.out, HB0.out, hus2, HST.out, rfl, by have := HUN.out; omega⟩
    case round =>
     obtain ⟨ao, cap, todo, f, cur, rfl, hqu, hfl, hnu, hbel, hsz, hfo, hgk, hgb⟩ := hrel
     have HB := Lib.hid hbel
     have HNy := Lib.hid hnu
     have HFy := Lib.hid hfl
     have z0 := (hbel.cell (p := ⟨p, 0, .none⟩) hp).trans c0
     clear hbel hnu hfl
     cases todo with
     | nil =>
      have HD := Lib.hid hfo.done
      clear hfo hqu
      go_wp2_with fail
      go_ret2
      exact ⟨G1, G2, rfl, by rw [HMV.out]; exact HNy.out, by rw [← HD.out]; exact HFy.out, HB.out⟩
     | cons t ts =>
      obtain ⟨k, x, rfl, hx, hfk, hfo2⟩ := hfo.take
      obtain ⟨g, off, rfl, hg, hgl, hc, hle⟩ := hqu.head
      have hkn : k < n := by have := (List.getElem?_eq_some_iff.1 hx).1; have := HN.out; omega
      obtain ⟨gx, ox, x', E3, m3, d3, rfl, hgx, hx', _, hmem, _, _, e2, hok, hE, _⟩ := HI.out.get k hkn
      have ex : x' = x := by rw [hx] at hx'; exact (Option.some.inj hx').symm
      subst ex
      have y2 := (HB.out.cell (p := ⟨gx, _, .none⟩) hgx).trans e2
      have HFO := Lib.hid hfo2
      have HX := Lib.hid hx
      have HFK := Lib.hid hfk
      have HQ := Lib.hid hqu
      have HGK := Lib.hid hgk
      have HE := Lib.hid hE
      have HME := Lib.hid hmem
      have k0 : (0 : Int) ≤ (k : Int) := by omega
      have k1 : (k : Int) < (n : Int) := by omega
      obtain ⟨L, hL⟩ : ∃ L, ts.length = L := ⟨_, rfl⟩
      have HLL := Lib.hid hL
      rw [List.length_cons, hL]
      rw [hL] at hle
      have l0 : decide ((0 : Int) < (L : Int) + 1) = true := by rw [decide_eq_true_eq]; omega
      have l1 : (1 : Int) ≤ (L : Int) + 1 := by omega
      have l2 : (0 : Int) < (L : Int) + 1 := by omega
      clear hfo hfo2 hx hx' hfk hqu hgk hE hmem e2 hL
      go_upto_region 15 with fail
      go_cut [10] (fun v wx => ∃ ao', v = .slice ao' L (cap - 1) ∧ Que wr B 3 ao' (cap - 1) ts ∧ wr = wx)
      case first =>
       by_cases hc1 : cap = 1
       ·subst hc1
        have HTL := Lib.hid (HQ.out.tail (some ⟨g, off, .none⟩) (fun h => absurd h (by omega)))
        have hL0 : L = 0 := by omega
        subst hL0
        go_wp2_with fail
        go_meet
        exact ⟨_, rfl, HTL.out, rfl⟩
       ·have HTL := Lib.hid (HQ.out.tail (some ⟨g, off + 1, .none⟩) (fun h => rfl))
        go_wp2_with fail
        go_meet
        exact ⟨_, rfl, HTL.out, rfl⟩
      case rest =>
       obtain ⟨ao', rfl, hq2, rfl⟩ := hcut
       have HQ2 := Lib.hid hq2
       have hm3 : m3 ≤ 1099511627776 := by
        have := HE.out.1
        have := bulkE_le HX.out
        omega
       clear hq2 hc
       go_wp2_with fail
       clear y2 z0
       go_loopw [10, 14, 74] (fun v10 _ i wz => ∃ (r : Nat) (ao : Option Addr) (cap : Nat) (todo : List Int) (f2 : List Bool), v10 = .slice ao todo.length cap ∧ i = .int .i64 r ∧ r ≤ m3 ∧ Que wz B 3 ao cap todo ∧ FlagsAt wz G2 n f2 ∧ NumsAt wz G1 n MV ∧ Below w.heap.size w wz ∧ B ≤ wz.heap.size ∧ FoundQ s.inos todo k (x'.ents.drop r) f2 ∧ f2.getD k false = true ∧ todo.length + unF f2 = L + unF f) (fun _ _ i _ => m3 - (intOf i).toNat)
       case atStart => exact ⟨0, _, _, ts, f, by rw [HLL.out], rfl, by omega, HQ2.out, HFy.out, HNy.out, HB.out, hsz, HFO.out, HFK.out, by rw [HLL.out]⟩
       case round =>
        obtain ⟨r, ao3, cap3, todo, f2, rfl, rfl, hr, hqu, hfl, hnu, hbel, hsz2, hfo, hfk, hgk2⟩ := hrel
        have HBz := Lib.hid hbel
        have HNz := Lib.hid hnu
        have HFz := Lib.hid hfl
        have HQz := Lib.hid hqu
        have HOz := Lib.hid hfo
        have HKz := Lib.hid hfk
        have HGz := Lib.hid hgk2
        have hpz : p < wr.heap.size := Nat.lt_of_lt_of_le hp hbel.size
        obtain ⟨L2, hL2⟩ : ∃ L2, todo.length = L2 := ⟨_, rfl⟩
        have hL2b : L2 ≤ 257 := by
         rw [← hL2]
         have := HGK.out
         rw [List.length_cons] at this
         have := HLL.out
         omega
        rw [hL2]
        have HL2 := Lib.hid hL2
        clear hqu hfl hnu hbel hfo hfk hgk2 hL2
        by_cases hlt2 : r < m3
        ·obtain ⟨g3, off3, e, rfl, hg3, he, hd3, hmem3, f0, f1⟩ := HE.out.get r hlt2
         have r0 : (0 : Int) ≤ (r : Int) := by omega
         have r1 : (r : Int) < (m3 : Int) := by omega
         obtain ⟨V2, hV2, v0, v1, hal, hlt3⟩ := box_en wr e.name e.num
         have x0' := (HBz.out.cell (p := ⟨g3, _, .none⟩) hg3).trans f0
         have x1' := (HBz.out.cell (p := ⟨g3, _, .none⟩) hg3).trans f1
         have HB4 := Lib.hid (Cv.next HBz.out hal)
         have hsz4 : B ≤ V2.heap.size := Nat.le_trans hsz2 hal.size
         have HN4 := Lib.hid (HNz.out.below hal)
         have HF4 := Lib.hid (HFz.out.below hal)
         have HQ4 := Lib.hid (HQz.out.below hal)
         have HPV := Lib.hid (HP.out.below HB4.out)
         have hfo := HOz.out
         rw [hd3] at hfo
         have HO4 := Lib.hid hfo
         have hfnd := (HL.out x' HME.out).2 e hmem3
         have hdir : x'.dir = true := by
          cases hd : x'.dir
          ·have := (HL.out x' HME.out).1 hd
           rw [this] at hmem3
           simp at hmem3
          ·rfl
         have HDR := Lib.hid hdir
         have HMM := Lib.hid hmem3
         obtain ⟨j0, hj0⟩ : ∃ j0 : Nat, atV s.inos e.num = (j0 : Int) := ⟨(atV s.inos e.num).toNat, by omega⟩
         have HJ := Lib.hid hj0
         have hjn : j0 < n := by
          obtain ⟨y, hy, _⟩ := atV_lt hj0
          have := (List.getElem?_eq_some_iff.1 hy).1
          have := HN.out
          omega
         clear hal hfnd hj0 f0 f1 he hd3 hmem3 hfo hdir
         go_wp2_with fail
         refine (mfind_any p s e.num _ HPV.out HRI.out).mono ?_
         rintro e5 w5 ⟨rfl, hb5⟩
         rw [HJ.out]
         have HN5 := Lib.hid (HN4.out.below hb5)
         have HF5 := Lib.hid (HF4.out.below hb5)
         have HQ5 := Lib.hid (HQ4.out.below hb5)
         have HB5 := Lib.hid (Cv.next HB4.out hb5)
         have hsz5 : B ≤ w5.heap.size := Nat.le_trans hsz4 hb5.size
         obtain ⟨nc, nf⟩ := HF5.out.get j0 hjn
         have j0a : (0 : Int) ≤ (j0 : Int) := by omega
         have j0b : (j0 : Int) < (n : Int) := by omega
         clear hb5 x0' x1' v0 v1 hV2
         by_cases hfj : f2.getD j0 false = true
         ·rw [hfj] at nc
          have HO5 := Lib.hid (HO4.out.old HJ.out hfj)
          clear hfj
          go_wp2_with fail
          go_roundw
          case rel => exact ⟨r + 1, ao3, cap3, todo, f2, by rw [HL2.out], by go_num, by omega, HQ5.out, HF5.out, HN5.out, HB5.out, hsz5, HO5.out, HKz.out, HGz.out⟩
          case measure => simp [intOf]; omega
         ·have hfj2 : f2.getD j0 false = false := by simpa using hfj
          rw [hfj2] at nc
          have hjf : j0 < f2.length := by rw [HO4.out.len, HN.out]; exact hjn
          have HO5 := Lib.hid (HO4.out.new HKz.out HX.out HDR.out HMM.out HJ.out)
          have HUF := Lib.hid (unF_set f2 j0 hjf hfj2)
          have HKf : Hid ((f2.set j0 true).getD k false = true) := Lib.hid (by rw [getD_set f2 j0 k hjf]; split; rfl; exact HKz.out)
          obtain ⟨Y, hY⟩ : ∃ Y, w5.setCell ⟨G2, j0, .none⟩ (.bool true) = Y := ⟨_, rfl⟩
          have HFY : Hid (FlagsAt Y G2 n (f2.set j0 true)) := Lib.hid (by rw [← hY]; exact HF5.out.set j0 hjn hjf)
          have HNY : Hid (NumsAt Y G1 n MV) := Lib.hid (by rw [← hY]; exact HN5.out.same (Below.heap_setCell w5 ⟨G2, j0, .none⟩ _ G1 hne))
          have HQY : Hid (Que Y B 3 ao3 cap3 todo) := Lib.hid (by rw [← hY]; exact HQ5.out.set hG2 _)
          have HBY : Hid (Below w.heap.size w Y) := Lib.hid (by rw [← hY]; exact HB5.out.setCell (p := ⟨G2, j0, .none⟩) hg2 _)
          have hsz6 : B ≤ Y.heap.size := by rw [← hY]; simpa [World.setCell] using hsz5
          clear hfj hfj2
          have hya : Below Y.heap.size Y (Y.alloc (.cells #[.int .i64 (j0 : Int)] 3)) := (Below.refl _ _).alloc (Nat.le_refl _) _
          have HYA := Lib.hid hya
          have hszy : B ≤ (Y.alloc (.cells #[.int .i64 (j0 : Int)] 3)).heap.size := Nat.le_trans hsz6 hya.size
          have HSY := Lib.hid hszy
          clear hya hszy
          go_wp2_with (at_builtin; refine wpList_append_que _ rfl _ _ 29 rfl B 3 ao3 cap3 L2 todo HL2.out rfl (HQY.out.below HYA.out) HSY.out i0 (.int .i64 0) Tryz.underlying29 hi hz0 hz1 hz2 rfl ⟨Y.heap.size, 0, .none⟩ 1 (j0 : Int) rfl (new_one Y _ _) (by omega) ?_)
          intro ao4 cap4 w4 hq4 hb4
          have HQ6 := Lib.hid hq4
          have HF6 := Lib.hid ((HFY.out.below HYA.out).same (hb4.block G2 hG2))
          have HN6 := Lib.hid ((HNY.out.below HYA.out).same (hb4.block G1 hG1))
          have HB6 := Lib.hid ((Cv.next HBY.out HYA.out).trans (hb4.mono hwB))
          have hsz7 : B ≤ w4.heap.size := Nat.le_trans HSY.out hb4.size
          clear hq4 hb4 hY
          go_wp2_with fail
          go_roundw
          case rel => exact ⟨r + 1, ao4, cap4, todo ++ [(j0 : Int)], f2.set j0 true, by rw [List.length_append, HL2.out]; rfl, by go_num, by omega, HQ6.out, HF6.out, HN6.out, HB6.out, hsz7, HO5.out, HKf.out, by
           have h1 := HUF.out
           have h2 := HGz.out
           rw [List.length_append]
           have h3 : [(j0 : Int)].length = 1 := rfl
           omega⟩
          case measure => simp [intOf]; omega
        ·have q9 : decide ((r : Int) < (m3 : Int)) = false := by rw [decide_eq_false_iff_not]; omega
         have hnil : x'.ents.drop r = [] := List.drop_eq_nil_of_le (by have := HE.out.1; omega)
         have HO9 := Lib.hid hnil
         clear hnil
         go_wp2_with fail
         go_roundg (gk - 1)
         case measure => have := HGK.out; rw [List.length_cons] at this; omega
         case rel => exact ⟨ao3, cap3, todo, f2, k, by rw [HL2.out], HQz.out, HFz.out, HNz.out, HBz.out, hsz2, by have := HOz.out; rwa [HO9.out] at this, by have h1 := HGz.out; have h2 := HGK.out; have h3 := HLL.out; rw [List.length_cons] at h2; omega, by omega⟩
end Go.Proofs.YtilkhmhgjbhfnaaGreatDoor
