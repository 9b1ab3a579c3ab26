/- Parts of the proof, side by side: LaClone, MoCloneR. -/
import Derived.Test.YtghlgnklnbcppaaM07
import Derived.Test.YtghlgnklnbcppaaM22
import Derived.Test.YtghlgnklnbcppaaM08
import Derived.Test.YtghlgnklnbcppaaM16
set_option linter.unusedVariables false
set_option linter.unusedSimpArgs false
set_option linter.unusedVariables false
set_option linter.unusedSimpArgs false
namespace Go.Proofs.Ytghlgnklnbcppaa
open Go.RowKit
theorem eql_slice_nil {P : Program} (t e : TypeId) (h : P.underlying t = some (.slice e)) (a : Option Addr) (l c : Nat) (w : World) : (binOp .eql t (.slice a l c) (.slice .none 0 0)).run P w = .ok (.bool a.isNone) w := by
  simp only [binOp]
  simp [run_equal_slice_nil w t e a l c h]
theorem InosAt.zs {w : World} {g off n : Nat} {is : List Ino} (h : InosAt none w (some ⟨g, off, none⟩) n is) (hn : 0 < n) :
    ∃ zs : List (Ino × Value), zs.map Prod.fst = is ∧ (∀ z ∈ zs, ∃ A m c, z.2 = .slice A m c ∧ SlOk A m c ∧ EntsAt none w A m z.1.ents) ∧ ∀ j u, (zs.flatMap inoV)[j]? = some u → w.cell? ((⟨g, off, none⟩ : Addr).add j) = some u := by
  obtain ⟨g', off', hA, hg, _, hc⟩ := h.2 hn
  injection hA with hA
  injection hA with e1 e2
  subst e1 e2
  obtain ⟨zs, hzs⟩ : ∃ zs : List (Ino × Value), zs = is.mapIdx (fun j x => (x, (w.cell? ⟨g, off + j * 4 + 2, none⟩).getD (.bool false))) := ⟨_, rfl⟩
  have hget : ∀ j z, zs[j]? = some z → ∃ x, is[j]? = some x ∧ z = (x, (w.cell? ⟨g, off + j * 4 + 2, none⟩).getD (.bool false)) := by
    intro j z hz
    rw [hzs, List.getElem?_mapIdx] at hz
    obtain ⟨x, hx, he⟩ := Option.map_eq_some_iff.1 hz
    exact ⟨x, hx, he.symm⟩
  refine ⟨zs, ?_, ?_, ?_⟩
  · apply List.ext_getElem?
    intro j
    rw [hzs, List.getElem?_map, List.getElem?_mapIdx]
    cases is[j]? <;> rfl
  · intro z hz
    obtain ⟨j, hj⟩ := List.getElem?_of_mem hz
    obtain ⟨x, hx, rfl⟩ := hget j z hj
    obtain ⟨_, _, ⟨B, m, c, h3, h4, h5⟩, _⟩ := hc j x hx
    exact ⟨B, m, c, by simp [h3], h4, h5⟩
  · refine flat_cells inoV 4 (fun _ => rfl) (by decide) zs (fun j z hz i hi => ?_)
    obtain ⟨x, hx, rfl⟩ := hget j z hz
    obtain ⟨h1, h2, ⟨B, m, c, h3, _, _⟩, h4⟩ := hc j x hx
    rcases i with _ | _ | _ | _ | i
    · exact h1
    · exact h2
    · show w.cell? ⟨g, off + j * 4 + 2, none⟩ = some ((w.cell? ⟨g, off + j * 4 + 2, none⟩).getD (.bool false))
      rw [h3]; rfl
    · exact h4
    · omega
structure Kept (W0 w : World) (g n : Nat) (zs : List (Ino × Value)) : Prop where
  row : ∃ cur, w.heap[g]? = some (.cells cur 72 (0, 0)) ∧ ∀ (j : Nat) (v : Value), (zs.flatMap inoV)[j]? = some v → cur[j]? = some v
  len : zs.length = n
  ents : ∀ z ∈ zs, ∃ A m c, z.2 = .slice A m c ∧ SlOk A m c ∧ EntsAt none W0 A m z.1.ents
theorem Kept.lt {W0 w : World} {g n : Nat} {zs : List (Ino × Value)} (h : Kept W0 w g n zs) : g < w.heap.size := by
  obtain ⟨cur, h1, _⟩ := h.row
  exact (Array.getElem?_eq_some_iff.1 h1).1
theorem Kept.same {W0 w w' : World} {g n : Nat} {zs : List (Ino × Value)} (h : Kept W0 w g n zs) (hb : ∀ cur, w.heap[g]? = some (.cells cur 72 (0, 0)) → w'.heap[g]? = some (.cells cur 72 (0, 0))) : Kept W0 w' g n zs := by
  obtain ⟨cur, h1, h2⟩ := h.row
  exact ⟨⟨cur, hb cur h1, h2⟩, h.len, h.ents⟩
theorem Kept.below {W0 w w' : World} {g n : Nat} {zs : List (Ino × Value)} (h : Kept W0 w g n zs) (hb : Below w.heap.size w w') : Kept W0 w' g n zs :=
  h.same fun cur h1 => (hb.block g (Array.getElem?_eq_some_iff.1 h1).1).trans h1
theorem Kept.wr {W0 w w' : World} {B b g n : Nat} {zs : List (Ino × Value)} (h : Kept W0 w g n zs) (hb : Wr B b w w') (hne : g ≠ b) : Kept W0 w' g n zs :=
  h.same fun cur h1 => hb.keep g _ h1 hne (by intro cs fr h9; injection h9 with _ h9; exact absurd h9 (by decide))
theorem Kept.get {W0 w : World} {g n : Nat} {zs : List (Ino × Value)} (h : Kept W0 w g n zs) (j : Nat) (hj : j < n) : ∃ x A m c, (zs.map Prod.fst)[j]? = some x ∧ SlOk A m c ∧ EntsAt none W0 A m x.ents ∧
    w.cell? ⟨g, j * 4, none⟩ = some (.int .i64 x.num) ∧ w.cell? ⟨g, j * 4 + 1, none⟩ = some (.bool x.dir) ∧ w.cell? ⟨g, j * 4 + 2, none⟩ = some (.slice A m c) ∧ w.cell? ⟨g, j * 4 + 3, none⟩ = some (.string x.data) := by
  obtain ⟨cur, h1, h2⟩ := h.row
  have hl : j < zs.length := by rw [h.len]; exact hj
  obtain ⟨z, hz⟩ : ∃ z, zs[j]? = some z := ⟨_, List.getElem?_eq_getElem hl⟩
  have f := flat_get inoV 4 (fun x => rfl) zs j z hz
  obtain ⟨A, m, c, he, hok, hE⟩ := h.ents z (List.mem_of_getElem? hz)
  refine ⟨z.1, A, m, c, by rw [List.getElem?_map, hz]; rfl, hok, hE, ?_, ?_, ?_, ?_⟩
  · rw [cell_of_row w g _ cur _ (0, 0) h1]; exact h2 _ _ (f 0 (by omega))
  · rw [cell_of_row w g _ cur _ (0, 0) h1]; exact h2 _ _ (f 1 (by omega))
  · rw [cell_of_row w g _ cur _ (0, 0) h1, ← he]; exact h2 _ _ (f 2 (by omega))
  · rw [cell_of_row w g _ cur _ (0, 0) h1]; exact h2 _ _ (f 3 (by omega))
theorem Kept.cells {W0 w : World} {g n : Nat} {zs : List (Ino × Value)} (h : Kept W0 w g n zs) {j : Nat} {z : Ino × Value} {A : Option Addr} {m c : Nat} (hz : zs[j]? = some z) (he : z.2 = .slice A m c) :
    w.cell? ⟨g, j * 4, none⟩ = some (.int .i64 z.1.num) ∧ w.cell? ⟨g, j * 4 + 1, none⟩ = some (.bool z.1.dir) ∧ w.cell? ⟨g, j * 4 + 2, none⟩ = some (.slice A m c) ∧ w.cell? ⟨g, j * 4 + 3, none⟩ = some (.string z.1.data) := by
  obtain ⟨cur, h1, h2⟩ := h.row
  have f := flat_get inoV 4 (fun x => rfl) zs j z hz
  refine ⟨?_, ?_, ?_, ?_⟩
  · rw [cell_of_row w g _ cur _ (0, 0) h1]; exact h2 _ _ (f 0 (by omega))
  · rw [cell_of_row w g _ cur _ (0, 0) h1]; exact h2 _ _ (f 1 (by omega))
  · rw [cell_of_row w g _ cur _ (0, 0) h1, ← he]; exact h2 _ _ (f 2 (by omega))
  · rw [cell_of_row w g _ cur _ (0, 0) h1]; exact h2 _ _ (f 3 (by omega))
theorem Kept.inos {W0 w : World} {g n : Nat} {zs : List (Ino × Value)} (h : Kept W0 w g n zs) (hb : Below W0.heap.size W0 w) : InosAt none w (some ⟨g, 0, none⟩) n (zs.map Prod.fst) := by
  refine ⟨by rw [List.length_map, h.len], fun _ => ⟨g, 0, rfl, h.lt, Mine.any _ _ _, fun j x hx => ?_⟩⟩
  have hj : j < n := by
    have := (List.getElem?_eq_some_iff.1 hx).1
    rw [List.length_map, h.len] at this
    exact this
  obtain ⟨y, A, m, c, h1, h2, h3, h4, h5, h6, h7⟩ := h.get j hj
  have : y = x := by rw [h1] at hx; exact Option.some.inj hx
  subst this
  rw [Nat.zero_add]
  exact ⟨h4, h5, ⟨A, m, c, h6, h2, h3.below hb⟩, h7⟩
theorem inoV_one {w : World} (zs : List (Ino × Value)) (he : ∀ z ∈ zs, ∃ A m c, z.2 = .slice A m c ∧ SlOk A m c ∧ EntsAt none w A m z.1.ents) : ∀ u ∈ zs.flatMap inoV, u.oneCell' = true := by
  intro u hu
  obtain ⟨z, hz, hu2⟩ := List.mem_flatMap.1 hu
  obtain ⟨A, m, c, h1, _⟩ := he z hz
  simp [inoV, h1] at hu2
  rcases hu2 with rfl | rfl | rfl | rfl <;> rfl
end Go.Proofs.Ytghlgnklnbcppaa

set_option linter.unusedVariables false
set_option linter.unusedSimpArgs false
namespace Go.Proofs.Ytghlgnklnbcppaa
open Go.RowKit
set_option maxRecDepth 100000 in
set_option maxHeartbeats 2000000 in
theorem cloneE_row (xs : List Value) (A : Option Addr) (n c : Nat) (w : World) (hok : SlOk A n c) (hl : xs.length = n * 2) (hx : ∀ ad, A = some ad → ∀ j u, xs[j]? = some u → w.cell? (ad.add j) = some u) (h1 : ∀ u ∈ xs, u.oneCell' = true) (hn : n ≤ 1099511627776) :
    Calls Try.prog 71 #[.slice A n c] w fun e w' => ∃ v', e = .returned v' ∧ RowAt w.heap.size w' 103 2 v' n xs ∧ Below w.heap.size w w' := by
  have heq := eql_slice_nil (P := Try.prog) 70 103 Try.underlying70
  rcases A with _ | ad
  · have hc0 := hok.2 rfl
    have hn0 : n = 0 := by have := hok.1; omega
    subst hn0 hc0
    have hx0 : xs = [] := List.length_eq_zero_iff.1 (by omega)
    subst hx0
    clear hx h1 hl hok
    go_enter Try.func71, Try.ntmps71
    go_wp2_with fail
    go_ret
    exact ⟨_, rfl, ⟨rfl, .inl ⟨none, rfl, rfl⟩⟩, Below.refl _ _⟩
  · have hal : Below w.heap.size w (w.alloc (.cells #[] 103)) := (Below.refl _ _).alloc (Nat.le_refl _) _
    have hown := row_empty w w.heap.size 103 2 (Nat.le_refl _)
    have hx2 : ∀ ad', some ad = some ad' → ∀ j u, xs[j]? = some u → (w.alloc (.cells #[] 103)).cell? (ad'.add j) = some u := fun ad' he j u hj => by
      have h := hx ad' he j u hj
      exact (hal.cell (World.block_lt_of_cell? _ _ h)).trans h
    have HO := Lib.hid hown
    have HL := Lib.hid hl
    have HX := Lib.hid hx2
    have HAL := Lib.hid hal
    have H1 := Lib.hid h1
    clear hok hl hx hx2 hal hown h1
    go_enter Try.func71, Try.ntmps71
    go_wp2_with (at_builtin; refine wpList_append_flat rfl _ _ 70 103 (.agg #[.string ⟨#[]⟩, .int .i64 0]) 2 24 rfl Try.underlying70 infoEnt rfl (by decide) w.heap.size _ 0 [] rfl HO.out (some ad) n c xs rfl HL.out HX.out (fun e => by cases e) H1.out ?h63 ?hb ?hB ?_)
    case h63 => unfold maxLen; omega
    case hb => omega
    case hB => exact HAL.out.size
    intro v' w2 hown' hgrow
    have hb2 : Below w.heap.size w w2 := HAL.out.grown hgrow HAL.out.size fun x hx => (HO.out.lt x hx).1
    have hown2 : w2.ownsRow w.heap.size 103 2 v' n xs := by simpa using hown'
    have HR := Lib.hid (RowAt.of_own hown2)
    have HB2 := Lib.hid hb2
    clear hown' hown2 hgrow hb2
    go_wp2_with fail
    go_ret
    exact ⟨v', rfl, HR.out, HB2.out⟩
set_option maxRecDepth 100000 in
set_option maxHeartbeats 2000000 in
theorem cloneD_row (xs : List Value) (A : Option Addr) (n c : Nat) (w : World) (hok : SlOk A n c) (hl : xs.length = n * 3) (hx : ∀ ad, A = some ad → ∀ j u, xs[j]? = some u → w.cell? (ad.add j) = some u) (h1 : ∀ u ∈ xs, u.oneCell' = true) (hn : n ≤ 1099511627776) :
    Calls Try.prog 72 #[.slice A n c] w fun e w' => ∃ v', e = .returned v' ∧ RowAt w.heap.size w' 51 3 v' n xs ∧ Below w.heap.size w w' := by
  have heq := eql_slice_nil (P := Try.prog) 23 51 Try.underlying23
  rcases A with _ | ad
  · have hc0 := hok.2 rfl
    have hn0 : n = 0 := by have := hok.1; omega
    subst hn0 hc0
    have hx0 : xs = [] := List.length_eq_zero_iff.1 (by omega)
    subst hx0
    clear hx h1 hl hok
    go_enter Try.func72, Try.ntmps72
    go_wp2_with fail
    go_ret
    exact ⟨_, rfl, ⟨rfl, .inl ⟨none, rfl, rfl⟩⟩, Below.refl _ _⟩
  · have hal : Below w.heap.size w (w.alloc (.cells #[] 51)) := (Below.refl _ _).alloc (Nat.le_refl _) _
    have hown := row_empty w w.heap.size 51 3 (Nat.le_refl _)
    have hx2 : ∀ ad', some ad = some ad' → ∀ j u, xs[j]? = some u → (w.alloc (.cells #[] 51)).cell? (ad'.add j) = some u := fun ad' he j u hj => by
      have h := hx ad' he j u hj
      exact (hal.cell (World.block_lt_of_cell? _ _ h)).trans h
    have HO := Lib.hid hown
    have HL := Lib.hid hl
    have HX := Lib.hid hx2
    have HAL := Lib.hid hal
    have H1 := Lib.hid h1
    clear hok hl hx hx2 hal hown h1
    go_enter Try.func72, Try.ntmps72
    go_wp2_with (at_builtin; refine wpList_append_flat rfl _ _ 23 51 (.agg #[.int .i64 0, .int .i64 0, .int .i64 0]) 3 24 rfl Try.underlying23 infoDs rfl (by decide) w.heap.size _ 0 [] rfl HO.out (some ad) n c xs rfl HL.out HX.out (fun e => by cases e) H1.out ?h63 ?hb ?hB ?_)
    case h63 => unfold maxLen; omega
    case hb => omega
    case hB => exact HAL.out.size
    intro v' w2 hown' hgrow
    have hb2 : Below w.heap.size w w2 := HAL.out.grown hgrow HAL.out.size fun x hx => (HO.out.lt x hx).1
    have hown2 : w2.ownsRow w.heap.size 51 3 v' n xs := by simpa using hown'
    have HR := Lib.hid (RowAt.of_own hown2)
    have HB2 := Lib.hid hb2
    clear hown' hown2 hgrow hb2
    go_wp2_with fail
    go_ret
    exact ⟨v', rfl, HR.out, HB2.out⟩
set_option maxRecDepth 100000 in
set_option maxHeartbeats 2000000 in
theorem cloneM_row (xs : List Value) (A : Option Addr) (n c : Nat) (w : World) (hok : SlOk A n c) (hl : xs.length = n * 1) (hx : ∀ ad, A = some ad → ∀ j u, xs[j]? = some u → w.cell? (ad.add j) = some u) (h1 : ∀ u ∈ xs, u.oneCell' = true) (hn : n ≤ 1099511627776) :
    Calls Try.prog 73 #[.slice A n c] w fun e w' => ∃ v', e = .returned v' ∧ RowAt w.heap.size w' 3 1 v' n xs ∧ Below w.heap.size w w' := by
  have heq := eql_slice_nil (P := Try.prog) 24 3 Try.underlying24
  rcases A with _ | ad
  · have hc0 := hok.2 rfl
    have hn0 : n = 0 := by have := hok.1; omega
    subst hn0 hc0
    have hx0 : xs = [] := List.length_eq_zero_iff.1 (by omega)
    subst hx0
    clear hx h1 hl hok
    go_enter Try.func73, Try.ntmps73
    go_wp2_with fail
    go_ret
    exact ⟨_, rfl, ⟨rfl, .inl ⟨none, rfl, rfl⟩⟩, Below.refl _ _⟩
  · have hal : Below w.heap.size w (w.alloc (.cells #[] 3)) := (Below.refl _ _).alloc (Nat.le_refl _) _
    have hown := row_empty w w.heap.size 3 1 (Nat.le_refl _)
    have hx2 : ∀ ad', some ad = some ad' → ∀ j u, xs[j]? = some u → (w.alloc (.cells #[] 3)).cell? (ad'.add j) = some u := fun ad' he j u hj => by
      have h := hx ad' he j u hj
      exact (hal.cell (World.block_lt_of_cell? _ _ h)).trans h
    have HO := Lib.hid hown
    have HL := Lib.hid hl
    have HX := Lib.hid hx2
    have HAL := Lib.hid hal
    have H1 := Lib.hid h1
    clear hok hl hx hx2 hal hown h1
    go_enter Try.func73, Try.ntmps73
    go_wp2_with (at_builtin; refine wpList_append_flat rfl _ _ 24 3 (.int .i64 0) 1 8 rfl Try.underlying24 infoNum rfl (by decide) w.heap.size _ 0 [] rfl HO.out (some ad) n c xs rfl HL.out HX.out (fun e => by cases e) H1.out ?h63 ?hb ?hB ?_)
    case h63 => unfold maxLen; omega
    case hb => omega
    case hB => exact HAL.out.size
    intro v' w2 hown' hgrow
    have hb2 : Below w.heap.size w w2 := HAL.out.grown hgrow HAL.out.size fun x hx => (HO.out.lt x hx).1
    have hown2 : w2.ownsRow w.heap.size 3 1 v' n xs := by simpa using hown'
    have HR := Lib.hid (RowAt.of_own hown2)
    have HB2 := Lib.hid hb2
    clear hown' hown2 hgrow hb2
    go_wp2_with fail
    go_ret
    exact ⟨v', rfl, HR.out, HB2.out⟩
set_option maxRecDepth 100000 in
set_option maxHeartbeats 2000000 in
theorem cloneI_row (xs : List Value) (A : Option Addr) (n c : Nat) (w : World) (hok : SlOk A n c) (hl : xs.length = n * 4) (hx : ∀ ad, A = some ad → ∀ j u, xs[j]? = some u → w.cell? (ad.add j) = some u) (h1 : ∀ u ∈ xs, u.oneCell' = true) (hn : n ≤ 1099511627776) :
    Calls Try.prog 25 #[.slice A n c] w fun e w' => ∃ v', e = .returned v' ∧ RowAt w.heap.size w' 72 4 v' n xs ∧ Below w.heap.size w w' := by
  have heq := eql_slice_nil (P := Try.prog) 22 72 Try.underlying22
  rcases A with _ | ad
  · have hc0 := hok.2 rfl
    have hn0 : n = 0 := by have := hok.1; omega
    subst hn0 hc0
    have hx0 : xs = [] := List.length_eq_zero_iff.1 (by omega)
    subst hx0
    clear hx h1 hl hok
    go_enter Try.func25, Try.ntmps25
    go_wp2_with fail
    go_ret
    exact ⟨_, rfl, ⟨rfl, .inl ⟨none, rfl, rfl⟩⟩, Below.refl _ _⟩
  · have hal : Below w.heap.size w (w.alloc (.cells #[] 72)) := (Below.refl _ _).alloc (Nat.le_refl _) _
    have hown := row_empty w w.heap.size 72 4 (Nat.le_refl _)
    have hx2 : ∀ ad', some ad = some ad' → ∀ j u, xs[j]? = some u → (w.alloc (.cells #[] 72)).cell? (ad'.add j) = some u := fun ad' he j u hj => by
      have h := hx ad' he j u hj
      exact (hal.cell (World.block_lt_of_cell? _ _ h)).trans h
    have HO := Lib.hid hown
    have HL := Lib.hid hl
    have HX := Lib.hid hx2
    have HAL := Lib.hid hal
    have H1 := Lib.hid h1
    clear hok hl hx hx2 hal hown h1
    go_enter Try.func25, Try.ntmps25
    go_wp2_with (at_builtin; refine wpList_append_flat rfl _ _ 22 72 (.agg #[.int .i64 0, .bool false, .slice none 0 0, .string ⟨#[]⟩]) 4 56 rfl Try.underlying22 infoIno rfl (by decide) w.heap.size _ 0 [] rfl HO.out (some ad) n c xs rfl HL.out HX.out (fun e => by cases e) H1.out ?h63 ?hb ?hB ?_)
    case h63 => unfold maxLen; omega
    case hb => omega
    case hB => exact HAL.out.size
    intro v' w2 hown' hgrow
    have hb2 : Below w.heap.size w w2 := HAL.out.grown hgrow HAL.out.size fun x hx => (HO.out.lt x hx).1
    have hown2 : w2.ownsRow w.heap.size 72 4 v' n xs := by simpa using hown'
    have HR := Lib.hid (RowAt.of_own hown2)
    have HB2 := Lib.hid hb2
    clear hown' hown2 hgrow hb2
    go_wp2_with fail
    go_ret
    exact ⟨v', rfl, HR.out, HB2.out⟩
end Go.Proofs.Ytghlgnklnbcppaa
