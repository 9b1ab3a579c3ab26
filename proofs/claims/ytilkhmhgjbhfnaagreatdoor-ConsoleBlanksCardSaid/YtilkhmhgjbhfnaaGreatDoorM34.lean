/- Parts of the proof, side by side: MoCloneR, MoCloneW. -/
import Derived.Test.YtilkhmhgjbhfnaaGreatDoorM33
import Derived.Test.YtilkhmhgjbhfnaaGreatDoorM11
import Derived.Test.YtilkhmhgjbhfnaaGreatDoorM06
import Derived.Test.YtilkhmhgjbhfnaaGreatDoorM12
import Derived.Deep.RegionHeld3
set_option linter.unusedVariables false
set_option linter.unusedSimpArgs false
namespace Go.Proofs.YtilkhmhgjbhfnaaGreatDoor
open Go.RowKit
set_option maxRecDepth 100000 in
set_option maxHeartbeats 2000000 in
theorem cloneE_row (xs : List Value) (A : Option Addr) (n c : Nat) (w : World) (hok : SlOk A n c) (hl : xs.length = n * 2) (hx : ∀ ad, A = some ad → ∀ j u, xs[j]? = some u → w.cell? (ad.add j) = some u) (h1 : ∀ u ∈ xs, u.oneCell' = true) (hn : n ≤ 1099511627776) :
  Calls Tryz.prog 82 #[.slice A n c] w fun e w' => ∃ v', e = .returned v' ∧ RowAt w.heap.size w' 131 2 v' n xs ∧ Below w.heap.size w w' := by
 have heq := eql_slice_nil (P := Tryz.prog) 63 131 Tryz.underlying63
 rcases A with _ | ad
 ·have hc0 := hok.2 rfl
  have hn0 : n = 0 := by have := hok.1; omega
  subst hn0 hc0
  have hx0 : xs = [] := List.length_eq_zero_iff.1 (by omega)
  subst hx0
  clear hx h1 hl hok
  go_enter Tryz.func82, Tryz.ntmps82
  go_wp2_with fail
  go_ret
  exact ⟨_, rfl, ⟨rfl, .inl ⟨none, rfl, rfl⟩⟩, Below.refl _ _⟩
 ·have hal : Below w.heap.size w (w.alloc (.cells #[] 131)) := (Below.refl _ _).alloc (Nat.le_refl _) _
  have hown := row_empty w w.heap.size 131 2 (Nat.le_refl _)
  have hx2 : ∀ ad', some ad = some ad' → ∀ j u, xs[j]? = some u → (w.alloc (.cells #[] 131)).cell? (ad'.add j) = some u := fun ad' he j u hj => by
   have h := hx ad' he j u hj
   exact (hal.cell (World.block_lt_of_cell? _ _ h)).trans h
  have HO := Lib.hid hown
  have HL := Lib.hid hl
  have HX := Lib.hid hx2
  have HAL := Lib.hid hal
  have H1 := Lib.hid h1
  clear hok hl hx hx2 hal hown h1
  go_enter Tryz.func82, Tryz.ntmps82
  go_wp2_with (at_builtin; refine wpList_append_flat rfl _ _ 63 131 (.agg #[.string ⟨#[]⟩, .int .i64 0]) 2 24 rfl Tryz.underlying63 infoEnt rfl (by decide) w.heap.size _ 0 [] rfl HO.out (some ad) n c xs rfl HL.out HX.out (fun e => by cases e) H1.out ?h63 ?hb ?hB ?_)
  case h63 => unfold maxLen; omega
  case hb => omega
  case hB => exact HAL.out.size
  intro v' w2 hown' hgrow
  have hb2 : Below w.heap.size w w2 := HAL.out.grown hgrow HAL.out.size fun x hx => (HO.out.lt x hx).1
  have hown2 : w2.ownsRow w.heap.size 131 2 v' n xs := by simpa using hown'
  have HR := Lib.hid (RowAt.of_own hown2)
  have HB2 := Lib.hid hb2
  clear hown' hown2 hgrow hb2
  go_wp2_with fail
  go_ret
  exact ⟨v', rfl, HR.out, HB2.out⟩
set_option maxRecDepth 100000 in
set_option maxHeartbeats 2000000 in
theorem cloneD_row (xs : List Value) (A : Option Addr) (n c : Nat) (w : World) (hok : SlOk A n c) (hl : xs.length = n * 3) (hx : ∀ ad, A = some ad → ∀ j u, xs[j]? = some u → w.cell? (ad.add j) = some u) (h1 : ∀ u ∈ xs, u.oneCell' = true) (hn : n ≤ 1099511627776) :
  Calls Tryz.prog 83 #[.slice A n c] w fun e w' => ∃ v', e = .returned v' ∧ RowAt w.heap.size w' 97 3 v' n xs ∧ Below w.heap.size w w' := by
 have heq := eql_slice_nil (P := Tryz.prog) 28 97 Tryz.underlying28
 rcases A with _ | ad
 ·have hc0 := hok.2 rfl
  have hn0 : n = 0 := by have := hok.1; omega
  subst hn0 hc0
  have hx0 : xs = [] := List.length_eq_zero_iff.1 (by omega)
  subst hx0
  clear hx h1 hl hok
  go_enter Tryz.func83, Tryz.ntmps83
  go_wp2_with fail
  go_ret
  exact ⟨_, rfl, ⟨rfl, .inl ⟨none, rfl, rfl⟩⟩, Below.refl _ _⟩
 ·have hal : Below w.heap.size w (w.alloc (.cells #[] 97)) := (Below.refl _ _).alloc (Nat.le_refl _) _
  have hown := row_empty w w.heap.size 97 3 (Nat.le_refl _)
  have hx2 : ∀ ad', some ad = some ad' → ∀ j u, xs[j]? = some u → (w.alloc (.cells #[] 97)).cell? (ad'.add j) = some u := fun ad' he j u hj => by
   have h := hx ad' he j u hj
   exact (hal.cell (World.block_lt_of_cell? _ _ h)).trans h
  have HO := Lib.hid hown
  have HL := Lib.hid hl
  have HX := Lib.hid hx2
  have HAL := Lib.hid hal
  have H1 := Lib.hid h1
  clear hok hl hx hx2 hal hown h1
  go_enter Tryz.func83, Tryz.ntmps83
  go_wp2_with (at_builtin; refine wpList_append_flat rfl _ _ 28 97 (.agg #[.int .i64 0, .int .i64 0, .int .i64 0]) 3 24 rfl Tryz.underlying28 infoDs rfl (by decide) w.heap.size _ 0 [] rfl HO.out (some ad) n c xs rfl HL.out HX.out (fun e => by cases e) H1.out ?h63 ?hb ?hB ?_)
  case h63 => unfold maxLen; omega
  case hb => omega
  case hB => exact HAL.out.size
  intro v' w2 hown' hgrow
  have hb2 : Below w.heap.size w w2 := HAL.out.grown hgrow HAL.out.size fun x hx => (HO.out.lt x hx).1
  have hown2 : w2.ownsRow w.heap.size 97 3 v' n xs := by simpa using hown'
  have HR := Lib.hid (RowAt.of_own hown2)
  have HB2 := Lib.hid hb2
  clear hown' hown2 hgrow hb2
  go_wp2_with fail
  go_ret
  exact ⟨v', rfl, HR.out, HB2.out⟩
set_option maxRecDepth 100000 in
set_option maxHeartbeats 2000000 in
theorem cloneM_row (xs : List Value) (A : Option Addr) (n c : Nat) (w : World) (hok : SlOk A n c) (hl : xs.length = n * 1) (hx : ∀ ad, A = some ad → ∀ j u, xs[j]? = some u → w.cell? (ad.add j) = some u) (h1 : ∀ u ∈ xs, u.oneCell' = true) (hn : n ≤ 1099511627776) :
  Calls Tryz.prog 84 #[.slice A n c] w fun e w' => ∃ v', e = .returned v' ∧ RowAt w.heap.size w' 3 1 v' n xs ∧ Below w.heap.size w w' := by
 have heq := eql_slice_nil (P := Tryz.prog) 29 3 Tryz.underlying29
 rcases A with _ | ad
 ·have hc0 := hok.2 rfl
  have hn0 : n = 0 := by have := hok.1; omega
  subst hn0 hc0
  have hx0 : xs = [] := List.length_eq_zero_iff.1 (by omega)
  subst hx0
  clear hx h1 hl hok
  go_enter Tryz.func84, Tryz.ntmps84
  go_wp2_with fail
  go_ret
  exact ⟨_, rfl, ⟨rfl, .inl ⟨none, rfl, rfl⟩⟩, Below.refl _ _⟩
 ·have hal : Below w.heap.size w (w.alloc (.cells #[] 3)) := (Below.refl _ _).alloc (Nat.le_refl _) _
  have hown := row_empty w w.heap.size 3 1 (Nat.le_refl _)
  have hx2 : ∀ ad', some ad = some ad' → ∀ j u, xs[j]? = some u → (w.alloc (.cells #[] 3)).cell? (ad'.add j) = some u := fun ad' he j u hj => by
   have h := hx ad' he j u hj
   exact (hal.cell (World.block_lt_of_cell? _ _ h)).trans h
  have HO := Lib.hid hown
  have HL := Lib.hid hl
  have HX := Lib.hid hx2
  have HAL := Lib.hid hal
  have H1 := Lib.hid h1
  clear hok hl hx hx2 hal hown h1
  go_enter Tryz.func84, Tryz.ntmps84
  go_wp2_with (at_builtin; refine wpList_append_flat rfl _ _ 29 3 (.int .i64 0) 1 8 rfl Tryz.underlying29 infoNum rfl (by decide) w.heap.size _ 0 [] rfl HO.out (some ad) n c xs rfl HL.out HX.out (fun e => by cases e) H1.out ?h63 ?hb ?hB ?_)
  case h63 => unfold maxLen; omega
  case hb => omega
  case hB => exact HAL.out.size
  intro v' w2 hown' hgrow
  have hb2 : Below w.heap.size w w2 := HAL.out.grown hgrow HAL.out.size fun x hx => (HO.out.lt x hx).1
  have hown2 : w2.ownsRow w.heap.size 3 1 v' n xs := by simpa using hown'
  have HR := Lib.hid (RowAt.of_own hown2)
  have HB2 := Lib.hid hb2
  clear hown' hown2 hgrow hb2
  go_wp2_with fail
  go_ret
  exact ⟨v', rfl, HR.out, HB2.out⟩
set_option maxRecDepth 100000 in
set_option maxHeartbeats 2000000 in
theorem cloneI_row (xs : List Value) (A : Option Addr) (n c : Nat) (w : World) (hok : SlOk A n c) (hl : xs.length = n * 4) (hx : ∀ ad, A = some ad → ∀ j u, xs[j]? = some u → w.cell? (ad.add j) = some u) (h1 : ∀ u ∈ xs, u.oneCell' = true) (hn : n ≤ 1099511627776) :
  Calls Tryz.prog 81 #[.slice A n c] w fun e w' => ∃ v', e = .returned v' ∧ RowAt w.heap.size w' 65 4 v' n xs ∧ Below w.heap.size w w' := by
 have heq := eql_slice_nil (P := Tryz.prog) 27 65 Tryz.underlying27
 rcases A with _ | ad
 ·have hc0 := hok.2 rfl
  have hn0 : n = 0 := by have := hok.1; omega
  subst hn0 hc0
  have hx0 : xs = [] := List.length_eq_zero_iff.1 (by omega)
  subst hx0
  clear hx h1 hl hok
  go_enter Tryz.func81, Tryz.ntmps81
  go_wp2_with fail
  go_ret
  exact ⟨_, rfl, ⟨rfl, .inl ⟨none, rfl, rfl⟩⟩, Below.refl _ _⟩
 ·have hal : Below w.heap.size w (w.alloc (.cells #[] 65)) := (Below.refl _ _).alloc (Nat.le_refl _) _
  have hown := row_empty w w.heap.size 65 4 (Nat.le_refl _)
  have hx2 : ∀ ad', some ad = some ad' → ∀ j u, xs[j]? = some u → (w.alloc (.cells #[] 65)).cell? (ad'.add j) = some u := fun ad' he j u hj => by
   have h := hx ad' he j u hj
   exact (hal.cell (World.block_lt_of_cell? _ _ h)).trans h
  have HO := Lib.hid hown
  have HL := Lib.hid hl
  have HX := Lib.hid hx2
  have HAL := Lib.hid hal
  have H1 := Lib.hid h1
  clear hok hl hx hx2 hal hown h1
  go_enter Tryz.func81, Tryz.ntmps81
  go_wp2_with (at_builtin; refine wpList_append_flat rfl _ _ 27 65 (.agg #[.int .i64 0, .bool false, .slice none 0 0, .string ⟨#[]⟩]) 4 56 rfl Tryz.underlying27 infoIno rfl (by decide) w.heap.size _ 0 [] rfl HO.out (some ad) n c xs rfl HL.out HX.out (fun e => by cases e) H1.out ?h63 ?hb ?hB ?_)
  case h63 => unfold maxLen; omega
  case hb => omega
  case hB => exact HAL.out.size
  intro v' w2 hown' hgrow
  have hb2 : Below w.heap.size w w2 := HAL.out.grown hgrow HAL.out.size fun x hx => (HO.out.lt x hx).1
  have hown2 : w2.ownsRow w.heap.size 65 4 v' n xs := by simpa using hown'
  have HR := Lib.hid (RowAt.of_own hown2)
  have HB2 := Lib.hid hb2
  clear hown' hown2 hgrow hb2
  go_wp2_with fail
  go_ret
  exact ⟨v', rfl, HR.out, HB2.out⟩
end Go.Proofs.YtilkhmhgjbhfnaaGreatDoor
namespace Go.Proofs.YtilkhmhgjbhfnaaGreatDoor
open Go.RowKit
structure OwnR (B : Nat) (w : World) (s : St) (zs : List (Ino × Value)) (vI vO vM : Value) : Prop where
 inos : zs.map Prod.fst = s.inos
 rowI : RowAt B w 65 4 vI zs.length (zs.flatMap inoV)
 ents : ∀ z ∈ zs, RowAt B w 131 2 z.2 z.1.ents.length (z.1.ents.flatMap enV)
 apart : Apart zs
 rowO : RowAt B w 97 3 vO s.opn.length (s.opn.flatMap dsV)
 rowM : RowAt B w 3 1 vM s.made.length (s.made.map intV)
 sized : Sized s
theorem RowAt.lower {B B' : Nat} {w : World} {e : TypeId} {k : Nat} {v : Value} {n : Nat} {xs : List Value} (h : RowAt B w e k v n xs) (hb : B' ≤ B) : RowAt B' w e k v n xs := by
 refine ⟨h.1, ?_⟩
 rcases h.2 with h0 | ⟨g, cap, cur, rfl, hc, hB, rest⟩
 ·exact .inl h0
 ·exact .inr ⟨g, cap, cur, rfl, hc, Nat.le_trans hb hB, rest⟩
theorem RowAt.fresh {B : Nat} {w w' : World} {e : TypeId} {k : Nat} {v : Value} {n : Nat} {xs : List Value} (h : RowAt B w e k v n xs) (hb : Below w.heap.size w w') : RowAt B w' e k v n xs := h.kept (r := none) (rw_none hb) (fun b _ => by simp)
theorem OwnR.below {B : Nat} {w w' : World} {s : St} {zs : List (Ino × Value)} {vI vO vM : Value} (h : OwnR B w s zs vI vO vM) (hb : Below w.heap.size w w') : OwnR B w' s zs vI vO vM :=
 ⟨h.inos, h.rowI.fresh hb, fun z hz => (h.ents z hz).fresh hb, h.apart, h.rowO.fresh hb, h.rowM.fresh hb, h.sized⟩
theorem OwnR.lower {B B' : Nat} {w : World} {s : St} {zs : List (Ino × Value)} {vI vO vM : Value} (h : OwnR B w s zs vI vO vM) (hb : B' ≤ B) : OwnR B' w s zs vI vO vM :=
 ⟨h.inos, h.rowI.lower hb, fun z hz => (h.ents z hz).lower hb, h.apart, h.rowO.lower hb, h.rowM.lower hb, h.sized⟩
theorem OwnR.set {B : Nat} {w : World} {s : St} {zs : List (Ino × Value)} {vI vO vM : Value} (h : OwnR B w s zs vI vO vM) {b j : Nat} {u : Value} {cur : Array Value} {t : TypeId} {f : Nat × Nat} (hb : w.heap[b]? = some (.cells cur t f)) (h1 : t ≠ 65) (h2 : t ≠ 131) (h3 : t ≠ 97) (h4 : t ≠ 3) : OwnR B (w.setCell ⟨b, j, none⟩ u) s zs vI vO vM := by
 have key : ∀ (e : TypeId) (k : Nat) (v : Value) (n : Nat) (xs : List Value), t ≠ e → RowAt B w e k v n xs → RowAt B (w.setCell ⟨b, j, none⟩ u) e k v n xs := fun e k v n xs hne hx => hx.kept grown_set (fun a ha e2 => by
  obtain ⟨_, _, c1, hc⟩ := hx.blk a ha
  exact blk_ne hb hc hne (by injection e2))
 exact ⟨h.inos, key _ _ _ _ _ h1 h.rowI, fun z hz => key _ _ _ _ _ h2 (h.ents z hz), h.apart, key _ _ _ _ _ h3 h.rowO, key _ _ _ _ _ h4 h.rowM, h.sized⟩
theorem RowAt.mine {B : Nat} {w : World} {e : TypeId} {k : Nat} {v : Value} {n : Nat} {xs : List Value} (h : RowAt B w e k v n xs) (hn : 0 < n) : ∃ g c, v = .slice (some ⟨g, 0, none⟩) n c ∧ g < w.heap.size ∧ Mine (some B) e w g ∧ ∀ j u, xs[j]? = some u → w.cell? ⟨g, j, none⟩ = some u := by
 obtain ⟨g, c, cur, h1, _, h3, h4, h5, _, h7⟩ := h.open_ hn
 exact ⟨g, c, h1, h4, fun C hC => by cases hC; exact ⟨h3, cur, h5⟩, h7⟩
theorem RowAt.entsB {B : Nat} {w : World} {v : Value} {n : Nat} {es : List En} (h : RowAt B w 131 2 v n (es.flatMap enV)) : ∃ A c, v = .slice A n c ∧ SlOk A n c ∧ EntsAt (some B) w A n es := by
 obtain ⟨A, c, hv, hok⟩ := h.slice
 have hl : es.length = n := by
  have h1 := h.1
  rw [flat_len enV 2 (fun x => rfl)] at h1
  omega
 refine ⟨A, c, hv, hok, hl, fun h0 => ?_⟩
 obtain ⟨g, c', hv', hlt, hm, hc⟩ := h.mine h0
 rw [hv] at hv'
 injection hv' with e1 _ _
 refine ⟨g, 0, e1, hlt, hm, fun j e he => ?_⟩
 have f := flat_get enV 2 (fun x => rfl) es j e he
 rw [Nat.zero_add]
 exact ⟨hc _ _ (f 0 (by omega)), hc _ _ (f 1 (by omega))⟩
theorem RowAt.descsB {B : Nat} {w : World} {v : Value} {n : Nat} {ds : List Ds} (h : RowAt B w 97 3 v n (ds.flatMap dsV)) : ∃ A c, v = .slice A n c ∧ SlOk A n c ∧ DescsAt (some B) w A n ds := by
 obtain ⟨A, c, hv, hok⟩ := h.slice
 have hl : ds.length = n := by
  have h1 := h.1
  rw [flat_len dsV 3 (fun x => rfl)] at h1
  omega
 refine ⟨A, c, hv, hok, hl, fun h0 => ?_⟩
 obtain ⟨g, c', hv', hlt, hm, hc⟩ := h.mine h0
 rw [hv] at hv'
 injection hv' with e1 _ _
 refine ⟨g, 0, e1, hlt, hm, fun j e he => ?_⟩
 have f := flat_get dsV 3 (fun x => rfl) ds j e he
 rw [Nat.zero_add]
 exact ⟨hc _ _ (f 0 (by omega)), hc _ _ (f 1 (by omega)), hc _ _ (f 2 (by omega))⟩
theorem RowAt.intsB {B : Nat} {w : World} {v : Value} {n : Nat} {xs : List Int} (h : RowAt B w 3 1 v n (xs.map intV)) : ∃ A c, v = .slice A n c ∧ SlOk A n c ∧ IntsAt (some B) w A n xs := by
 obtain ⟨A, c, hv, hok⟩ := h.slice
 have hl : xs.length = n := by have h1 := h.1; simpa using h1
 refine ⟨A, c, hv, hok, hl, fun h0 => ?_⟩
 obtain ⟨g, c', hv', hlt, hm, hc⟩ := h.mine h0
 rw [hv] at hv'
 injection hv' with e1 _ _
 refine ⟨g, 0, e1, hlt, hm, fun j e he => ?_⟩
 rw [Nat.zero_add]
 exact hc _ _ (by rw [List.getElem?_map, he]; rfl)
theorem OwnR.st {B : Nat} {w : World} {s : St} {zs : List (Ino × Value)} {vI vO vM : Value} (h : OwnR B w s zs vI vO vM) : StAt (some B) w (.agg #[vI, vO, vM]) s := by
 have hl : s.inos.length = zs.length := by rw [← h.inos, List.length_map]
 obtain ⟨A, c, hv, hok⟩ := h.rowI.slice
 obtain ⟨E, d, hE, hEo, hED⟩ := h.rowO.descsB
 obtain ⟨M, k, hM, hMo, hMI⟩ := h.rowM.intsB
 refine ⟨⟨A, _, c, E, _, d, M, _, k, by rw [hv, hE, hM], ⟨hl, fun h0 => ?_⟩, hED, hMI, hok, hEo, hMo⟩, h.sized⟩
 obtain ⟨g, c', hv', hlt, hm, hc⟩ := h.rowI.mine h0
 rw [hv] at hv'
 injection hv' with e1 _ _
 refine ⟨g, 0, e1, hlt, hm, fun j x hx => ?_⟩
 rw [← h.inos, List.getElem?_map] at hx
 obtain ⟨z, hz, rfl⟩ := Option.map_eq_some_iff.1 hx
 have f := flat_get inoV 4 (fun x => rfl) zs j z hz
 obtain ⟨E', m, he, hmd, hE'⟩ := (h.ents z (List.mem_of_getElem? hz)).entsB
 rw [Nat.zero_add]
 refine ⟨hc _ _ (f 0 (by omega)), hc _ _ (f 1 (by omega)), ⟨E', z.1.ents.length, m, ?_, hmd, hE'⟩, hc _ _ (f 3 (by omega))⟩
 rw [← he]
 exact hc _ _ (f 2 (by omega))
theorem Own2.ownR {B p : Nat} {w : World} {s : St} {zs : List (Ino × Value)} {vI vO vM : Value} (h : Own2 B w p s zs vI vO vM) : OwnR B w s zs vI vO vM := ⟨h.inos, h.rowI, h.ents, h.apart, h.rowO, h.rowM, h.sized⟩
theorem OwnR.own2 {B p : Nat} {w : World} {s : St} {zs : List (Ino × Value)} {vI vO vM : Value} (h : OwnR B w s zs vI vO vM) (hp : B ≤ p) (hc : w.heap[p]? = some (.cells #[vI, vO, vM] 31 (0, 0))) : Own2 B w p s zs vI vO vM := ⟨hp, hc, h.inos, h.rowI, h.ents, h.apart, h.rowO, h.rowM, h.sized⟩
theorem InosAt.pairs {w : World} {A : Option Addr} {n : Nat} {is : List Ino} (h : InosAt none w A n is) :
  ∃ zs : List (Ino × Value), zs.map Prod.fst = is ∧ zs.length = n ∧ (∀ z ∈ zs, ∃ A m c, z.2 = .slice A m c ∧ SlOk A m c ∧ EntsAt none w A m z.1.ents) ∧ ∀ ad, A = some ad → ∀ j u, (zs.flatMap inoV)[j]? = some u → w.cell? (ad.add j) = some u := by
 rcases Nat.eq_zero_or_pos n with h0 | h0
 ·subst h0
  have : is = [] := List.length_eq_zero_iff.1 h.1
  subst this
  exact ⟨[], rfl, rfl, by simp, fun ad _ j u hj => by simp at hj⟩
 ·obtain ⟨g, off, hA, _⟩ := h.2 h0
  subst hA
  obtain ⟨zs, h1, h2, h3⟩ := h.zs h0
  refine ⟨zs, h1, by have := congrArg List.length h1; rw [List.length_map] at this; have := h.1; omega, h2, fun ad e => ?_⟩
  cases e
  exact h3
structure Cl (w0 w : World) (s : St) (q : Nat) (zs : List (Ino × Value)) (vI : Value) : Prop where
 inos : zs.map Prod.fst = s.inos
 rowI : RowAt w0.heap.size w 65 4 vI zs.length (zs.flatMap inoV)
 done : ∀ (j : Nat) (z : Ino × Value), zs[j]? = some z → j < q → RowAt w0.heap.size w 131 2 z.2 z.1.ents.length (z.1.ents.flatMap enV)
 left_ : ∀ (j : Nat) (z : Ino × Value), zs[j]? = some z → q ≤ j → ∃ A m c, z.2 = .slice A m c ∧ SlOk A m c ∧ EntsAt none w0 A m z.1.ents
 apart : ∀ (i j : Nat) (a b : Ino × Value), i ≠ j → i < q → j < q → zs[i]? = some a → zs[j]? = some b → ∀ g, rowBlk a.2 = some g → rowBlk b.2 ≠ some g
theorem Cl.kept {w0 w w' : World} {s : St} {q : Nat} {zs : List (Ino × Value)} {vI : Value} (h : Cl w0 w s q zs vI) (hb : Below w.heap.size w w') : Cl w0 w' s q zs vI :=
 ⟨h.inos, h.rowI.fresh hb, fun j z hz hj => (h.done j z hz hj).fresh hb, h.left_, h.apart⟩
theorem Cl.set {w0 w : World} {s : St} {q : Nat} {zs : List (Ino × Value)} {vI : Value} (h : Cl w0 w s q zs vI) {b j : Nat} {u : Value} {cur : Array Value} (hb : w.heap[b]? = some (.cells cur 31 (0, 0))) : Cl w0 (w.setCell ⟨b, j, none⟩ u) s q zs vI := by
 have key : ∀ (e : TypeId) (k : Nat) (v : Value) (n : Nat) (xs : List Value), 31 ≠ e → RowAt w0.heap.size w e k v n xs → RowAt w0.heap.size (w.setCell ⟨b, j, none⟩ u) e k v n xs := fun e k v n xs hne hx => hx.kept grown_set (fun a ha e2 => by
  obtain ⟨_, _, c1, hc⟩ := hx.blk a ha
  exact blk_ne hb hc hne (by injection e2))
 exact ⟨h.inos, key _ _ _ _ _ (by decide) h.rowI, fun i z hz hi => key _ _ _ _ _ (by decide) (h.done i z hz hi), h.left_, h.apart⟩
theorem Cl.step {w0 w w' : World} {s : St} {q : Nat} {zs : List (Ino × Value)} {g n c : Nat} (h : Cl w0 w s q zs (.slice (some ⟨g, 0, none⟩) n c)) (hn : n = zs.length) {z : Ino × Value} (hz : zs[q]? = some z) {v' : Value} (hb : Below w.heap.size w w') (hw : w0.heap.size ≤ w.heap.size) (hr : RowAt w.heap.size w' 131 2 v' z.1.ents.length (z.1.ents.flatMap enV)) :
  Cl w0 (w'.setCell ⟨g, q * 4 + 2, none⟩ v') s (q + 1) (zs.set q (z.1, v')) (.slice (some ⟨g, 0, none⟩) n c) := by
 have hql := (List.getElem?_eq_some_iff.1 hz).1
 have h1 := h.kept hb
 obtain ⟨g', c', cur, hv, hbk, hB, hlt, hgc, hsz, _⟩ := h1.rowI.open_ (by omega)
 have hgg : g' = g := by injection hv with e1 _ _; injection e1 with e1; injection e1 with e1; exact e1.symm
 subst hgg
 have key : ∀ (v : Value) (m : Nat) (xs : List Value) (B : Nat), RowAt B w' 131 2 v m xs → RowAt B (w'.setCell ⟨g', q * 4 + 2, none⟩ v') 131 2 v m xs := fun v m xs B hx => hx.kept grown_set (fun b hb e => by
  obtain ⟨_, _, c1, h1⟩ := hx.blk b hb
  exact blk_ne hgc h1 (by decide) (by injection e))
 have hset : ∀ (j : Nat) (y : Ino × Value), (zs.set q (z.1, v'))[j]? = some y → (j = q ∧ y = (z.1, v')) ∨ (j ≠ q ∧ zs[j]? = some y) := fun j y hy => by
  rw [List.getElem?_set] at hy
  by_cases e : q = j
  ·subst e
   rw [if_pos rfl, if_pos hql] at hy
   exact .inl ⟨rfl, (Option.some.inj hy).symm⟩
  ·rw [if_neg e] at hy
   exact .inr ⟨fun e2 => e e2.symm, hy⟩
 have hnew : ∀ b, rowBlk v' = some b → w.heap.size ≤ b := fun b hb => (hr.blk b hb).1
 refine ⟨?_, ?_, ?_, ?_, ?_⟩
 ·rw [set_map, ← h.inos]
  refine List.ext_getElem? (fun j => ?_)
  rw [List.getElem?_set, List.getElem?_map]
  by_cases e : q = j
  ·subst e
   rw [if_pos rfl, if_pos (by simpa using hql), hz]
   rfl
  ·rw [if_neg e]
 ·rw [List.length_set, ← hn]
  have h2 := h1.rowI
  rw [← hn] at h2
  have h3 := h2.set (q * 4 + 2) v' (by omega)
  have h4 := flat_set2 zs q z z.1.ents v' hz
  rwa [h4] at h3
 ·intro j y hy hj
  rcases hset j y hy with ⟨rfl, rfl⟩ | ⟨hne, hy2⟩
  ·exact (key _ _ _ _ hr).lower hw
  ·exact key _ _ _ _ (h1.done j y hy2 (by omega))
 ·intro j y hy hj
  rcases hset j y hy with ⟨rfl, rfl⟩ | ⟨hne, hy2⟩
  ·omega
  ·exact h.left_ j y hy2 (by omega)
 ·intro i j a b hij hi hj ha hb2 gg hga hgb
  rcases hset i a ha with ⟨rfl, rfl⟩ | ⟨hne, ha2⟩
  ·rcases hset j b hb2 with ⟨rfl, rfl⟩ | ⟨hne2, hb3⟩
   ·exact hij rfl
   ·have h5 := hnew gg hga
    have h6 := ((h.done j b hb3 (by omega)).blk gg hgb).2.1
    omega
  ·rcases hset j b hb2 with ⟨rfl, rfl⟩ | ⟨hne2, hb3⟩
   ·have h5 := hnew gg hgb
    have h6 := ((h.done i a ha2 (by omega)).blk gg hga).2.1
    omega
   ·exact h.apart i j a b hij (by omega) (by omega) ha2 hb3 gg hga hgb
theorem Cl.all {w0 w : World} {s : St} {q : Nat} {zs : List (Ino × Value)} {vI vO vM : Value} (h : Cl w0 w s q zs vI) (hq : zs.length ≤ q) (hO : RowAt w0.heap.size w 97 3 vO s.opn.length (s.opn.flatMap dsV)) (hM : RowAt w0.heap.size w 3 1 vM s.made.length (s.made.map intV)) (hs : Sized s) : OwnR w0.heap.size w s zs vI vO vM := by
 refine ⟨h.inos, h.rowI, fun z hz => ?_, fun i j a b hij ha hb => ?_, hO, hM, hs⟩
 ·obtain ⟨j, hj⟩ := List.getElem?_of_mem hz
  exact h.done j z hj (by have := (List.getElem?_eq_some_iff.1 hj).1; omega)
 ·exact h.apart i j a b hij (by have := (List.getElem?_eq_some_iff.1 ha).1; omega) (by have := (List.getElem?_eq_some_iff.1 hb).1; omega) ha hb
theorem ents_cells {w : World} {A : Option Addr} {n c : Nat} {es : List En} (h : EntsAt none w A n es) (hok : SlOk A n c) : (es.flatMap enV).length = n * 2 ∧ ∀ ad, A = some ad → ∀ j u, (es.flatMap enV)[j]? = some u → w.cell? (ad.add j) = some u :=
 ⟨(h.flat hok).1, (h.flat hok).2.1⟩
theorem descs_cells {w : World} {A : Option Addr} {n c : Nat} {ds : List Ds} (h : DescsAt none w A n ds) (hok : SlOk A n c) : (ds.flatMap dsV).length = n * 3 ∧ ∀ ad, A = some ad → ∀ j u, (ds.flatMap dsV)[j]? = some u → w.cell? (ad.add j) = some u := by
 rcases Nat.eq_zero_or_pos n with h0 | h0
 ·subst h0
  have : ds = [] := List.length_eq_zero_iff.1 h.1
  subst this
  exact ⟨rfl, fun ad _ j u hj => by simp at hj⟩
 ·obtain ⟨g, off, hA, hg, _, hc⟩ := h.2 h0
  refine ⟨by rw [flat_len dsV 3 (fun _ => rfl), h.1], fun ad e => ?_⟩
  rw [hA] at e
  cases e
  refine flat_cells dsV 3 (fun _ => rfl) (by decide) ds (fun j z hz i hi => ?_)
  obtain ⟨h1, h2, h3⟩ := hc j z hz
  rcases i with _ | _ | _ | i
  ·exact h1
  ·exact h2
  ·exact h3
  ·omega
theorem ints_cells {w : World} {A : Option Addr} {n : Nat} {xs : List Int} (h : IntsAt none w A n xs) : (xs.map intV).length = n * 1 ∧ ∀ ad, A = some ad → ∀ j u, (xs.map intV)[j]? = some u → w.cell? (ad.add j) = some u := by
 refine ⟨by rw [List.length_map, h.1, Nat.mul_one], fun ad e j u hj => ?_⟩
 rw [List.getElem?_map] at hj
 obtain ⟨x, hx, rfl⟩ := Option.map_eq_some_iff.1 hj
 obtain ⟨g, off, hA, hg, _, hc⟩ := h.2 (by have := (List.getElem?_eq_some_iff.1 hx).1; have := h.1; omega)
 rw [hA] at e
 cases e
 rw [Addr.add_lit]
 exact hc j x hx
theorem intsV_one (xs : List Int) : ∀ u ∈ xs.map intV, u.oneCell' = true := by
 intro u hu
 obtain ⟨e, _, rfl⟩ := List.mem_map.1 hu
 rfl
end Go.Proofs.YtilkhmhgjbhfnaaGreatDoor
