/- Parts of the proof, side by side: MoLinks, LaClone, LaDel, SumOf. -/
import Derived.Test.YthhceopnnappgaaGreatMoReached
import Derived.Test.YthhceopnnappgaaGreatFsCopy
import Derived.Test.YthhceopnnappgaaGreatM04
import Derived.Test.YthhceopnnappgaaGreatRows
import Derived.Test.YthhceopnnappgaaGreatM20
import Derived.WalkKit
import Derived.WalkSpells
import Derived.WalkLawsBesides
import Derived.Lib.Hide
import Derived.Laws.BitsAllLaws
set_option linter.unusedVariables false
set_option linter.unusedSimpArgs false
namespace Go.Proofs.YthhceopnnappgaaGreat
open Go.RowKit
theorem linkE_drop (es : List En) (q : Nat) (e : En) (num : Int) (h : es[q]? = some e) : linkE (es.drop q) num = (if e.num = num then 1 else 0) + linkE (es.drop (q + 1)) num := by
 obtain ⟨h1, h2⟩ := List.getElem?_eq_some_iff.1 h
 rw [List.drop_eq_getElem_cons h1, h2, linkE]
theorem linkI_drop (is : List Ino) (q : Nat) (x : Ino) (num : Int) (h : is[q]? = some x) : linkI (is.drop q) num = (if x.dir then linkE x.ents num else 0) + linkI (is.drop (q + 1)) num := by
 obtain ⟨h1, h2⟩ := List.getElem?_eq_some_iff.1 h
 rw [List.drop_eq_getElem_cons h1, h2, linkI]
set_option maxRecDepth 100000 in
set_option maxHeartbeats 8000000 in
theorem mlinks_any (v : Value) (s : St) (num : Int) (w : World) (h : StAt none w v s) :
  Calls Tryz.prog 20 #[v, .int .i64 num] w fun e w' => e = .returned (.int .i64 (linkI s.inos num : Nat)) ∧ Below w.heap.size w w' := by
 obtain ⟨⟨A, n, c, B, m, d, D, k, e, rfl, hI, hD, hM, h5, h6, h7⟩, hz⟩ := h
 obtain ⟨W, hW, b0, b1, b2, hal, hlt0⟩ := box_st w A n c B m d D k e
 have hbig := hz.big
 obtain ⟨R, hR⟩ : ∃ R, linkI s.inos num = R := ⟨_, rfl⟩
 have hRb : R ≤ 1099511627776 := by
  have := linkI_le s.inos num
  omega
 have hn : n ≤ 1099511627776 := by have := hI.1; omega
 have hbe : bulkE s.inos ≤ 1099511627776 := by omega
 rw [hR]
 have HR := Lib.hid hR
 have HI := Lib.hid hI
 have HAL := Lib.hid hal
 clear hI hD hM hz hbig hR hal h5 h6 h7
 go_enter Tryz.func20, Tryz.ntmps20
 go_wp2_with fail
 clear hW
 go_loopw [5, 13] (fun v3 i wr => ∃ q cnt : Nat, i = .int .i64 q ∧ v3 = .int .i64 cnt ∧ q ≤ n ∧ Below w.heap.size w wr ∧ cnt + linkI (s.inos.drop q) num = R) (fun _ i _ => n - (intOf i).toNat)
 case atStart => exact ⟨0, 0, rfl, rfl, by omega, HAL.out, by have := HR.out; simpa using this⟩
 case round =>
  obtain ⟨q, cnt, rfl, rfl, hq, hbel, hc⟩ := hrel
  have HB := Lib.hid hbel
  have hcb : cnt ≤ R := by omega
  have HIr := Lib.hid (HI.out.below hbel)
  clear hbel
  by_cases hlt : q < n
  ·obtain ⟨g, off, x, E3, m3, d3, rfl, hg, hx, hd, hmem, e0, e1, e2, hok, hE, e3⟩ := HIr.out.get q hlt
   have k0 : (0 : Int) ≤ (q : Int) := by omega
   have k1 : (q : Int) < (n : Int) := by omega
   obtain ⟨V1, hV1, u0, u1, u2, u3, hal, hlt1⟩ := box_ino wr x.num x.dir E3 m3 d3 x.data
   rw [linkI_drop _ _ _ _ hx] at hc
   have HC := Lib.hid hc
   have HEV := Lib.hid (hE.below hal)
   have HBV := Lib.hid (Cv.next HB.out hal)
   have hm3 : m3 ≤ 1099511627776 := by have := hE.1; have := bulkE_le hx; omega
   obtain ⟨DX, hDX⟩ : ∃ DX, x.dir = DX := ⟨_, rfl⟩
   have HDX := Lib.hid hDX
   rw [hDX] at e1 u1 hV1
   have hcell : ∀ wz, Below V1.heap.size V1 wz → wz.cell? ⟨wr.heap.size, 1, .none⟩ = some (.bool DX) := fun wz h => (h.cell (p := ⟨wr.heap.size, 1, .none⟩) hlt1).trans u1
   have HCE := Lib.hid hcell
   clear hd hmem hE hx hal hc hDX hcell
   go_wp2_with fail
   clear hV1 e0 e1 e2 e3
   go_loopw [5, 20] (fun v3 i wz => ∃ r c2 : Nat, i = .int .i64 r ∧ v3 = .int .i64 c2 ∧ r ≤ m3 ∧ Below V1.heap.size V1 wz ∧ c2 + ((if DX then linkE (x.ents.drop r) num else 0) + linkI (s.inos.drop (q + 1)) num) = R) (fun _ i _ => m3 - (intOf i).toNat)
   case atStart => exact ⟨0, cnt, rfl, rfl, by omega, Below.refl _ _, by have := HC.out; rw [HDX.out] at this; simpa using this⟩
   case round =>
    obtain ⟨r, c2, rfl, rfl, hr, hbel, hc⟩ := hrel
    have HBz := Lib.hid hbel
    have HEz := Lib.hid (HEV.out.below hbel)
    have z1 := HCE.out _ hbel
    have hcb2 : c2 ≤ R := by omega
    clear hbel
    by_cases hlt2 : r < m3
    ·obtain ⟨g3, off3, e, rfl, hg3, he, hd3, hmem3, f0, f1⟩ := HEz.out.get r hlt2
     have r0 : (0 : Int) ≤ (r : Int) := by omega
     have r1 : (r : Int) < (m3 : Int) := by omega
     obtain ⟨V2, hV2, v0, v1, hal, hlt3⟩ := box_en wr e.name e.num
     have z2 := HCE.out _ (Cv.next HBz.out hal)
     have HB4 := Lib.hid (Cv.next HBz.out hal)
     rw [linkE_drop _ _ _ _ he] at hc
     obtain ⟨NX, hNX⟩ : ∃ NX, (e.num == num) = NX := ⟨_, rfl⟩
     have hif : (if e.num = num then 1 else 0) = (if NX then 1 else 0) := by
      rw [← hNX]
      by_cases h : e.num = num <;> simp [h]
     rw [hif] at hc
     have HC2 := Lib.hid hc
     have cw : IntKind.i64.wrap ((c2 : Int) + 1) = (c2 : Int) + 1 := by rw [IntKind.wrap_i64]; omega
     clear hc hd3 hmem3 he hal hif
     cases DX
     ·go_wp2_with fail
      go_roundw
      case rel => exact ⟨r + 1, c2, by go_num, rfl, by omega, HB4.out, by have := HC2.out; simpa using this⟩
      case measure => simp [intOf]; omega
     ·cases NX
      ·go_wp2_with fail
       go_roundw
       case rel => exact ⟨r + 1, c2, by go_num, rfl, by omega, HB4.out, by have := HC2.out; simp at this ⊢; omega⟩
       case measure => simp [intOf]; omega
      ·go_wp2_with fail
       go_roundw
       case rel => exact ⟨r + 1, c2 + 1, by go_num, by go_num, by omega, HB4.out, by have := HC2.out; simp at this ⊢; omega⟩
       case measure => simp [intOf]; omega
    ·have q9 : decide ((r : Int) < (m3 : Int)) = false := by rw [decide_eq_false_iff_not]; omega
     have hnil : x.ents.drop r = [] := List.drop_eq_nil_of_le (by have := HEz.out.1; omega)
     rw [hnil] at hc
     have HC2 := Lib.hid hc
     clear hc hnil
     go_wp2_with fail
     go_roundw
     case rel => exact ⟨q + 1, c2, by go_num, rfl, by omega, Cv.next HBV.out HBz.out, by have := HC2.out; simpa [linkE] using this⟩
     case measure => simp [intOf]; omega
  ·have hnil : s.inos.drop q = [] := List.drop_eq_nil_of_le (by have := HIr.out.1; omega)
   rw [hnil, linkI] at hc
   have hcr : cnt = R := by omega
   have HC := Lib.hid hcr
   have q9 : decide ((q : Int) < (n : Int)) = false := by rw [decide_eq_false_iff_not]; omega
   clear hc hnil hcr
   go_wp2_with fail
   go_ret
   exact ⟨by have h := HC.out; rw [h]; rfl, HB.out⟩
theorem eql_slice_nil {P : Program} (t e : TypeId) (h : P.underlying t = some (.slice e)) (a : Option Addr) (l c : Nat) (w : World) : (binOp .eql t (.slice a l c) (.slice .none 0 0)).run P w = .ok (.bool a.isNone) w := by
 simp only [binOp]
 simp [run_equal_slice_nil w t e a l c h]
theorem InosAt.zs {w : World} {g off n : Nat} {is : List Ino} (h : InosAt none w (some ⟨g, off, none⟩) n is) (hn : 0 < n) :
  ∃ zs : List (Ino × Value), zs.map Prod.fst = is ∧ (∀ z ∈ zs, ∃ A m c, z.2 = .slice A m c ∧ SlOk A m c ∧ EntsAt none w A m z.1.ents) ∧ ∀ j u, (zs.flatMap inoV)[j]? = some u → w.cell? ((⟨g, off, none⟩ : Addr).add j) = some u := by
 obtain ⟨g', off', hA, hg, _, hc⟩ := h.2 hn
 injection hA with hA
 injection hA with e1 e2
 subst e1 e2
 obtain ⟨zs, hzs⟩ : ∃ zs : List (Ino × Value), zs = is.mapIdx (fun j x => (x, (w.cell? ⟨g, off + j * 4 + 2, none⟩).getD (.bool false))) := ⟨_, rfl⟩
 have hget : ∀ j z, zs[j]? = some z → ∃ x, is[j]? = some x ∧ z = (x, (w.cell? ⟨g, off + j * 4 + 2, none⟩).getD (.bool false)) := by
  intro j z hz
  rw [hzs, List.getElem?_mapIdx] at hz
  obtain ⟨x, hx, he⟩ := Option.map_eq_some_iff.1 hz
  exact ⟨x, hx, he.symm⟩
 refine ⟨zs, ?_, ?_, ?_⟩
 ·apply List.ext_getElem?
  intro j
  rw [hzs, List.getElem?_map, List.getElem?_mapIdx]
  cases is[j]? <;> rfl
 ·intro z hz
  obtain ⟨j, hj⟩ := List.getElem?_of_mem hz
  obtain ⟨x, hx, rfl⟩ := hget j z hj
  obtain ⟨_, _, ⟨B, m, c, h3, h4, h5⟩, _⟩ := hc j x hx
  exact ⟨B, m, c, by simp [h3], h4, h5⟩
 ·refine flat_cells inoV 4 (fun _ => rfl) (by decide) zs (fun j z hz i hi => ?_)
  obtain ⟨x, hx, rfl⟩ := hget j z hz
  obtain ⟨h1, h2, ⟨B, m, c, h3, _, _⟩, h4⟩ := hc j x hx
  rcases i with _ | _ | _ | _ | i
  ·exact h1
  ·exact h2
  ·show w.cell? ⟨g, off + j * 4 + 2, none⟩ = some ((w.cell? ⟨g, off + j * 4 + 2, none⟩).getD (.bool false))
   rw [h3]; rfl
  ·exact h4
  ·omega
structure Kept (W0 w : World) (g n : Nat) (zs : List (Ino × Value)) : Prop where
 row : ∃ cur, w.heap[g]? = some (.cells cur 42 (0, 0)) ∧ ∀ (j : Nat) (v : Value), (zs.flatMap inoV)[j]? = some v → cur[j]? = some v
 len : zs.length = n
 ents : ∀ z ∈ zs, ∃ A m c, z.2 = .slice A m c ∧ SlOk A m c ∧ EntsAt none W0 A m z.1.ents
theorem Kept.lt {W0 w : World} {g n : Nat} {zs : List (Ino × Value)} (h : Kept W0 w g n zs) : g < w.heap.size := by
 obtain ⟨cur, h1, _⟩ := h.row
 exact (Array.getElem?_eq_some_iff.1 h1).1
theorem Kept.same {W0 w w' : World} {g n : Nat} {zs : List (Ino × Value)} (h : Kept W0 w g n zs) (hb : ∀ cur, w.heap[g]? = some (.cells cur 42 (0, 0)) → w'.heap[g]? = some (.cells cur 42 (0, 0))) : Kept W0 w' g n zs := by
 obtain ⟨cur, h1, h2⟩ := h.row
 exact ⟨⟨cur, hb cur h1, h2⟩, h.len, h.ents⟩
theorem Kept.below {W0 w w' : World} {g n : Nat} {zs : List (Ino × Value)} (h : Kept W0 w g n zs) (hb : Below w.heap.size w w') : Kept W0 w' g n zs :=
 h.same fun cur h1 => (hb.block g (Array.getElem?_eq_some_iff.1 h1).1).trans h1
theorem Kept.wr {W0 w w' : World} {B b g n : Nat} {zs : List (Ino × Value)} (h : Kept W0 w g n zs) (hb : Wr B b w w') (hne : g ≠ b) : Kept W0 w' g n zs :=
 h.same fun cur h1 => hb.keep g _ h1 hne (by intro cs fr h9; injection h9 with _ h9; exact absurd h9 (by decide))
theorem Kept.get {W0 w : World} {g n : Nat} {zs : List (Ino × Value)} (h : Kept W0 w g n zs) (j : Nat) (hj : j < n) : ∃ x A m c, (zs.map Prod.fst)[j]? = some x ∧ SlOk A m c ∧ EntsAt none W0 A m x.ents ∧
  w.cell? ⟨g, j * 4, none⟩ = some (.int .i64 x.num) ∧ w.cell? ⟨g, j * 4 + 1, none⟩ = some (.bool x.dir) ∧ w.cell? ⟨g, j * 4 + 2, none⟩ = some (.slice A m c) ∧ w.cell? ⟨g, j * 4 + 3, none⟩ = some (.string x.data) := by
 obtain ⟨cur, h1, h2⟩ := h.row
 have hl : j < zs.length := by rw [h.len]; exact hj
 obtain ⟨z, hz⟩ : ∃ z, zs[j]? = some z := ⟨_, List.getElem?_eq_getElem hl⟩
 have f := flat_get inoV 4 (fun x => rfl) zs j z hz
 obtain ⟨A, m, c, he, hok, hE⟩ := h.ents z (List.mem_of_getElem? hz)
 refine ⟨z.1, A, m, c, by rw [List.getElem?_map, hz]; rfl, hok, hE, ?_, ?_, ?_, ?_⟩
 ·rw [cell_of_row w g _ cur _ (0, 0) h1]; exact h2 _ _ (f 0 (by omega))
 ·rw [cell_of_row w g _ cur _ (0, 0) h1]; exact h2 _ _ (f 1 (by omega))
 ·rw [cell_of_row w g _ cur _ (0, 0) h1, ← he]; exact h2 _ _ (f 2 (by omega))
 ·rw [cell_of_row w g _ cur _ (0, 0) h1]; exact h2 _ _ (f 3 (by omega))
theorem Kept.cells {W0 w : World} {g n : Nat} {zs : List (Ino × Value)} (h : Kept W0 w g n zs) {j : Nat} {z : Ino × Value} {A : Option Addr} {m c : Nat} (hz : zs[j]? = some z) (he : z.2 = .slice A m c) :
  w.cell? ⟨g, j * 4, none⟩ = some (.int .i64 z.1.num) ∧ w.cell? ⟨g, j * 4 + 1, none⟩ = some (.bool z.1.dir) ∧ w.cell? ⟨g, j * 4 + 2, none⟩ = some (.slice A m c) ∧ w.cell? ⟨g, j * 4 + 3, none⟩ = some (.string z.1.data) := by
 obtain ⟨cur, h1, h2⟩ := h.row
 have f := flat_get inoV 4 (fun x => rfl) zs j z hz
 refine ⟨?_, ?_, ?_, ?_⟩
 ·rw [cell_of_row w g _ cur _ (0, 0) h1]; exact h2 _ _ (f 0 (by omega))
 ·rw [cell_of_row w g _ cur _ (0, 0) h1]; exact h2 _ _ (f 1 (by omega))
 ·rw [cell_of_row w g _ cur _ (0, 0) h1, ← he]; exact h2 _ _ (f 2 (by omega))
 ·rw [cell_of_row w g _ cur _ (0, 0) h1]; exact h2 _ _ (f 3 (by omega))
theorem Kept.inos {W0 w : World} {g n : Nat} {zs : List (Ino × Value)} (h : Kept W0 w g n zs) (hb : Below W0.heap.size W0 w) : InosAt none w (some ⟨g, 0, none⟩) n (zs.map Prod.fst) := by
 refine ⟨by rw [List.length_map, h.len], fun _ => ⟨g, 0, rfl, h.lt, Mine.any _ _ _, fun j x hx => ?_⟩⟩
 have hj : j < n := by
  have := (List.getElem?_eq_some_iff.1 hx).1
  rw [List.length_map, h.len] at this
  exact this
 obtain ⟨y, A, m, c, h1, h2, h3, h4, h5, h6, h7⟩ := h.get j hj
 have : y = x := by rw [h1] at hx; exact Option.some.inj hx
 subst this
 rw [Nat.zero_add]
 exact ⟨h4, h5, ⟨A, m, c, h6, h2, h3.below hb⟩, h7⟩
theorem Kept.of_row {W0 w : World} {B n : Nat} {v : Value} {zs : List (Ino × Value)} (h : w.ownsRow B 42 4 v n (zs.flatMap inoV)) (hn : 0 < n) (he : ∀ z ∈ zs, ∃ A m c, z.2 = .slice A m c ∧ SlOk A m c ∧ EntsAt none W0 A m z.1.ents) :
  ∃ g c, v = .slice (some ⟨g, 0, none⟩) n c ∧ n ≤ c ∧ B ≤ g ∧ Kept W0 w g n zs := by
 have hl : zs.length = n := by
  have h1 := h.1
  rw [flat_len inoV 4 (fun x => rfl)] at h1
  omega
 rcases h.2 with ⟨_, h0⟩ | ⟨g, cap, cur, rfl, hb, hg, hnc, hcm, hcs, htk⟩
 ·omega
 ·refine ⟨g, cap, rfl, hnc, hb, ⟨cur, hg, fun j v hv => ?_⟩, hl, he⟩
  rw [← htk, List.getElem?_take] at hv
  split at hv
  ·rw [← Array.getElem?_toList]; exact hv
  ·cases hv
theorem inoV_one {w : World} (zs : List (Ino × Value)) (he : ∀ z ∈ zs, ∃ A m c, z.2 = .slice A m c ∧ SlOk A m c ∧ EntsAt none w A m z.1.ents) : ∀ u ∈ zs.flatMap inoV, u.oneCell' = true := by
 intro u hu
 obtain ⟨z, hz, hu2⟩ := List.mem_flatMap.1 hu
 obtain ⟨A, m, c, h1, _⟩ := he z hz
 simp [inoV, h1] at hu2
 rcases hu2 with rfl | rfl | rfl | rfl <;> rfl
set_option maxRecDepth 100000 in
set_option maxHeartbeats 2000000 in
theorem cloneinos_any (is : List Ino) (A : Option Addr) (n c : Nat) (W0 w : World) (h : InosAt none W0 A n is) (hb0 : Below W0.heap.size W0 w) (h0 : 0 < n) (hn : n ≤ 65536) :
  Calls Tryz.prog 17 #[.slice A n c] w fun e w' => ∃ g c' zs, e = .returned (.slice (some ⟨g, 0, .none⟩) n c') ∧ n ≤ c' ∧ w.heap.size ≤ g ∧ Kept W0 w' g n zs ∧ zs.map Prod.fst = is ∧ Below w.heap.size w w' := by
 obtain ⟨g, off, x, E, m, d, rfl, hg, _⟩ := h.get 0 h0
 have hal : Below w.heap.size w (w.alloc (.cells #[] 42)) := (Below.refl _ _).alloc (Nat.le_refl _) _
 obtain ⟨zs, hz1, hz2, hz3'⟩ := h.zs h0
 have hz3 : ∀ j u, (zs.flatMap inoV)[j]? = some u → (w.alloc (.cells #[] 42)).cell? ((⟨g, off, none⟩ : Addr).add j) = some u := by
  intro j u hu
  have h1 := hz3' j u hu
  rw [Addr.add_lit] at h1 ⊢
  exact (hal.cell (p := ⟨g, off + j, none⟩) (Nat.lt_of_lt_of_le hg hb0.size)).trans ((hb0.cell (p := ⟨g, off + j, none⟩) hg).trans h1)
 have hown := row_empty w w.heap.size 42 4 (Nat.le_refl _)
 have hlen : (zs.flatMap inoV).length = n * 4 := by
  rw [flat_len inoV 4 (fun _ => rfl)]
  have := congrArg List.length hz1
  rw [List.length_map] at this
  have := h.1
  omega
 have HO := Lib.hid hown
 have HL := Lib.hid hlen
 have HZ1 := Lib.hid hz1
 have HZ2 := Lib.hid hz2
 have HZ3 := Lib.hid hz3
 have HAL := Lib.hid hal
 have heq := eql_slice_nil (P := Tryz.prog) 22 42 Tryz.underlying22
 clear h hown hlen hz1 hz2 hz3 hz3' hal hb0 hg
 go_enter Tryz.func17, Tryz.ntmps17
 go_wp2_with (at_builtin; refine wpList_append_flat rfl _ _ 22 42 (.agg #[.int .i64 0, .bool false, .slice none 0 0, .string ⟨#[]⟩]) 4 56 rfl Tryz.underlying22 infoIno rfl (by decide) w.heap.size _ 0 [] rfl HO.out (some ⟨g, off, .none⟩) n c (zs.flatMap inoV) rfl HL.out (fun ad had => by cases had; exact HZ3.out) (fun e => by cases e) (inoV_one zs HZ2.out) ?h63 ?hb ?hB ?_)
 case h63 => unfold maxLen; omega
 case hb => omega
 case hB => exact HAL.out.size
 intro v' w2 hown' hgrow
 have hb2 : Below w.heap.size w w2 := HAL.out.grown hgrow HAL.out.size fun x hx => (HO.out.lt x hx).1
 have hown2 : w2.ownsRow w.heap.size 42 4 v' n (zs.flatMap inoV) := by simpa using hown'
 obtain ⟨g', c', rfl, hok, hgb, hK⟩ := Kept.of_row hown2 h0 HZ2.out
 have HB2 := Lib.hid hb2
 have HK := Lib.hid hK
 clear hown' hown2 hgrow hb2 hK
 go_wp2_with fail
 go_ret
 exact ⟨g', c', zs, rfl, hok, hgb, HK.out, HZ1.out, HB2.out⟩
def delB (s : St) (x : Ino) : Bool := !x.dir && decide (linkI s.inos x.num = 0)
theorem PtrAt.st {w : World} {p : Nat} {s : St} (h : PtrAt w p s) : ∃ A n c E m d D k e, w.cell? ⟨p, 0, none⟩ = some (.slice A n c) ∧ w.cell? ⟨p, 1, none⟩ = some (.slice E m d) ∧ w.cell? ⟨p, 2, none⟩ = some (.slice D k e) ∧ p < w.heap.size ∧ StAt none w (.agg #[.slice A n c, .slice E m d, .slice D k e]) s := by
 obtain ⟨⟨A, n, c, E, m, d, D, k, e, h1, h2, h3, h4, h5, h6, h7⟩, hz⟩ := h
 exact ⟨A, n, c, E, m, d, D, k, e, by rw [cell_of_row w p _ _ _ (0, 0) h1]; rfl, by rw [cell_of_row w p _ _ _ (0, 0) h1]; rfl, by rw [cell_of_row w p _ _ _ (0, 0) h1]; rfl, (Array.getElem?_eq_some_iff.1 h1).1, ⟨A, n, c, E, m, d, D, k, e, rfl, h2, h3, h4, h5, h6, h7⟩, hz⟩
set_option maxRecDepth 100000 in
set_option maxHeartbeats 2000000 in
theorem del1_any (p : Nat) (s : St) (x : Ino) (E : Option Addr) (m d : Nat) (w : World) (h : PtrAt w p s) :
  Calls Tryz.prog 19 #[.agg #[.int .i64 x.num, .bool x.dir, .slice E m d, .string x.data], .pointer (some ⟨p, 0, .none⟩)] w fun e w' => e = .returned (.bool (delB s x)) ∧ Below w.heap.size w w' := by
 obtain ⟨V, hV, u0, u1, u2, u3, hal, hlt⟩ := box_ino w x.num x.dir E m d x.data
 obtain ⟨A2, n2, c2, E2, m2, d2, D2, k2, e2, b0, b1, b2, hp, hst⟩ := (h.below hal).st
 have HST := Lib.hid hst
 have HAL := Lib.hid hal
 unfold delB
 obtain ⟨DX, hDX⟩ : ∃ DX, x.dir = DX := ⟨_, rfl⟩
 rw [hDX] at hV u1 ⊢
 clear h hst hal hDX
 go_enter Tryz.func19, Tryz.ntmps19
 cases DX
 ·go_wp2_with fail
  refine (mlinks_any _ s x.num V HST.out).mono ?_
  rintro e5 w5 ⟨rfl, hb5⟩
  obtain ⟨L, hL⟩ : ∃ L, linkI s.inos x.num = L := ⟨_, rfl⟩
  have HL := Lib.hid hL
  rw [hL]
  clear hL
  have HB5 := Lib.hid (Cv.next HAL.out hb5)
  clear hb5 u0 u1 u2 u3 b0 b1 b2
  by_cases hz : L = 0
  ·subst hz
   go_wp2_with fail
   go_ret
   exact ⟨Cv.ret_bool (by rw [HL.out]; rfl), HB5.out⟩
  ·have q1 : ((L : Int) == 0) = false := by rw [beq_eq_false_iff_ne]; omega
   go_wp2_with fail
   go_ret
   exact ⟨Cv.ret_bool (by rw [HL.out, decide_eq_false hz]; rfl), HB5.out⟩
 ·go_wp2_with fail
  go_ret
  exact ⟨rfl, HAL.out⟩
set_option maxRecDepth 100000 in
set_option maxHeartbeats 2000000 in
theorem indexdel_any (p : Nat) (s : St) (is : List Ino) (A : Option Addr) (n c : Nat) (w : World) (h : PtrAt w p s) (hI : InosAt none w A n is) (hn : n ≤ 1099511627776) (hno : ∀ x ∈ is, delB s x = false) :
  Calls Tryz.prog 46 #[.slice A n c, .func (.func 19) #[] #[.pointer (some ⟨p, 0, .none⟩)]] w fun e w' => e = .returned (.int .i64 (-1)) ∧ Below w.heap.size w w' := by
 have HI := Lib.hid hI
 have HP := Lib.hid h
 have HNO := Lib.hid hno
 clear hI h hno
 go_enter Tryz.func46, Tryz.ntmps46
 go_wp2_with fail
 go_loopw [8] (fun j wr => ∃ q : Nat, j = .int .i64 q ∧ q ≤ n ∧ Below w.heap.size w wr) (fun j _ => n - (intOf j).toNat)
 case atStart => exact ⟨0, rfl, by omega, Below.refl _ _⟩
 case round =>
  obtain ⟨q, rfl, hq, hbel⟩ := hrel
  have HB := Lib.hid hbel
  have HIr := Lib.hid (HI.out.below hbel)
  have HPr := Lib.hid (HP.out.below hbel)
  clear hbel
  by_cases hlt : q < n
  ·obtain ⟨g, off, x, E, m, d, rfl, hg, hx, hd, hmem, e0, e1, e2, hok, hE, e3⟩ := HIr.out.get q hlt
   have k0 : (0 : Int) ≤ (q : Int) := by omega
   have hnx := HNO.out x hmem
   have HNX := Lib.hid hnx
   clear hd hmem hx hE hnx
   go_wp2_with fail
   refine (del1_any p s x E m d _ HPr.out).mono ?_
   rintro e5 w5 ⟨rfl, hb5⟩
   rw [HNX.out]
   have HB5 := Lib.hid (HB.out.trans (hb5.mono HB.out.size))
   clear hb5 e0 e1 e2 e3
   go_wp2_with fail
   go_roundw
   case rel => exact ⟨q + 1, by go_num, by omega, HB5.out⟩
   case measure => simp [intOf]; omega
  ·go_wp2_with fail
   go_ret
   exact ⟨rfl, HB.out⟩
set_option maxRecDepth 100000 in
set_option maxHeartbeats 2000000 in
theorem delnone_any (p : Nat) (s : St) (is : List Ino) (A : Option Addr) (n c : Nat) (w : World) (h : PtrAt w p s) (hI : InosAt none w A n is) (hn : n ≤ 1099511627776) (hno : ∀ x ∈ is, delB s x = false) :
  Calls Tryz.prog 18 #[.slice A n c, .func (.func 19) #[] #[.pointer (some ⟨p, 0, .none⟩)]] w fun e w' => e = .returned (.slice A n c) ∧ Below w.heap.size w w' := by
 go_enter Tryz.func18, Tryz.ntmps18
 go_wp2_with fail
 refine (indexdel_any p s is A n c w h hI hn hno).mono ?_
 rintro e5 w5 ⟨rfl, hb5⟩
 have HB5 := Lib.hid hb5
 clear hb5
 go_wp2_with fail
 go_ret
 exact ⟨rfl, HB5.out⟩
theorem take_snoc (s : ByteArray) (k : Nat) (h : k < s.size) : s.data.toList.take (k + 1) = s.data.toList.take k ++ [s[k]] := by
 rw [List.take_succ_eq_append_getElem (by simpa using h)]; rfl
theorem ret_int {k : IntKind} {a b : Int} (h : a = b) : Ending.returned (.int k a) = .returned (.int k b) := by rw [h]
theorem val_int {k : IntKind} {a b : Int} (h : a = b) : Value.int k a = .int k b := by rw [h]
theorem wrap_u64_nat (n : Nat) (h : n < 18446744073709551616) : IntKind.u64.wrap (n : Int) = (n : Int) := by rw [IntKind.wrap_u64]; omega
theorem hM_lit : hM = 18446744073709551616 := by decide +kernel
theorem hP_lit : hP = 1099511628211 := by decide +kernel
theorem step_val (h : Nat) (hh : h < hM) (b : UInt8) :
  IntKind.u64.wrap (bits .xor .u64 (h : Int) (IntKind.u64.wrap (b.toNat : Int)) * 1099511628211) = ((stepN h b : Nat) : Int) := by
 have hb := b.toNat_lt
 have hx := xor_lt hh b
 rw [hM_lit] at hh hx
 rw [wrap_u64_nat _ (by omega), u64_xor_nat _ _ hh (by omega)]
 unfold stepN
 rw [hM_lit, hP_lit, IntKind.wrap_u64]
 generalize h ^^^ b.toNat = x at *
 omega
theorem first_val : (14695981039346656037 : Int) = ((sumN [] : Nat) : Int) := by
 rw [sumN_nil]; decide +kernel
set_option maxHeartbeats 400000 in
theorem sum_any (s : ByteArray) (w : World) (hs : s.size ≤ maxLen) :
  Calls Tryz.prog 22 #[.string s] w fun e w' => e = .returned (.int .u64 ((sumN s.data.toList : Nat) : Int)) ∧ w = w' := by
 unfold maxLen at hs
 go_enter Tryz.func22, Tryz.ntmps22
 go_wp2
 go_loop [3, 7] (fun h i => ∃ k : Nat, k ≤ s.size ∧ i = .int .i64 k ∧ h = .int .u64 ((sumN (s.data.toList.take k) : Nat) : Int)) (fun _ i => s.size - (intOf i).toNat)
 case atStart => exact ⟨0, Nat.zero_le _, rfl, val_int first_val⟩
 case round =>
  obtain ⟨k, hk, rfl, rfl⟩ := hrel
  by_cases hlt : k < s.size
  ·go_wp2
   go_round
   case rel => exact ⟨k + 1, by omega, by go_num, by rw [take_snoc s k hlt, sumN_snoc]; exact val_int (step_val _ (sumN_lt _) _)⟩
   case measure => simp [intOf]; omega
  ·go_wp2
   go_ret
   exact ⟨ret_int (by rw [List.take_of_length_le (by simp; omega)]), rfl⟩
end Go.Proofs.YthhceopnnappgaaGreat
