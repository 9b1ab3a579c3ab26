/- Parts of the proof, side by side: LaClone, LaDel, SumOf, LaPut. -/
import Derived.Test.YtghlgnklnbcppaaM12
import Derived.Test.YtghlgnklnbcppaaM03
import Derived.Test.YtghlgnklnbcppaaRows
import Derived.Test.YtghlgnklnbcppaaM10
import Derived.WalkKit
import Derived.WalkSpells
import Derived.WalkLawsBesides
import Derived.Lib.Hide
import Derived.Laws.BitsAllLaws
set_option linter.unusedVariables false
set_option linter.unusedSimpArgs false
set_option linter.unusedVariables false
set_option linter.unusedSimpArgs false
namespace Go.Proofs.Ytghlgnklnbcppaa
open Go.RowKit
theorem eql_slice_nil {P : Program} (t e : TypeId) (h : P.underlying t = some (.slice e)) (a : Option Addr) (l c : Nat) (w : World) : (binOp .eql t (.slice a l c) (.slice .none 0 0)).run P w = .ok (.bool a.isNone) w := by
 simp only [binOp]
 simp [run_equal_slice_nil w t e a l c h]
theorem InosAt.zs {w : World} {g off n : Nat} {is : List Ino} (h : InosAt none w (some ⟨g, off, none⟩) n is) (hn : 0 < n) :
  ∃ zs : List (Ino × Value), zs.map Prod.fst = is ∧ (∀ z ∈ zs, ∃ A m c, z.2 = .slice A m c ∧ SlOk A m c ∧ EntsAt none w A m z.1.ents) ∧ ∀ j u, (zs.flatMap inoV)[j]? = some u → w.cell? ((⟨g, off, none⟩ : Addr).add j) = some u := by
 obtain ⟨g', off', hA, hg, _, hc⟩ := h.2 hn
 injection hA with hA
 injection hA with e1 e2
 subst e1 e2
 obtain ⟨zs, hzs⟩ : ∃ zs : List (Ino × Value), zs = is.mapIdx (fun j x => (x, (w.cell? ⟨g, off + j * 4 + 2, none⟩).getD (.bool false))) := ⟨_, rfl⟩
 have hget : ∀ j z, zs[j]? = some z → ∃ x, is[j]? = some x ∧ z = (x, (w.cell? ⟨g, off + j * 4 + 2, none⟩).getD (.bool false)) := by
  intro j z hz
  rw [hzs, List.getElem?_mapIdx] at hz
  obtain ⟨x, hx, he⟩ := Option.map_eq_some_iff.1 hz
  exact ⟨x, hx, he.symm⟩
 refine ⟨zs, ?_, ?_, ?_⟩
 ·apply List.ext_getElem?
  intro j
  rw [hzs, List.getElem?_map, List.getElem?_mapIdx]
  cases is[j]? <;> rfl
 ·intro z hz
  obtain ⟨j, hj⟩ := List.getElem?_of_mem hz
  obtain ⟨x, hx, rfl⟩ := hget j z hj
  obtain ⟨_, _, ⟨B, m, c, h3, h4, h5⟩, _⟩ := hc j x hx
  exact ⟨B, m, c, by simp [h3], h4, h5⟩
 ·refine flat_cells inoV 4 (fun _ => rfl) (by decide) zs (fun j z hz i hi => ?_)
  obtain ⟨x, hx, rfl⟩ := hget j z hz
  obtain ⟨h1, h2, ⟨B, m, c, h3, _, _⟩, h4⟩ := hc j x hx
  rcases i with _ | _ | _ | _ | i
  ·exact h1
  ·exact h2
  ·show w.cell? ⟨g, off + j * 4 + 2, none⟩ = some ((w.cell? ⟨g, off + j * 4 + 2, none⟩).getD (.bool false))
   rw [h3]; rfl
  ·exact h4
  ·omega
structure Kept (W0 w : World) (g n : Nat) (zs : List (Ino × Value)) : Prop where
 row : ∃ cur, w.heap[g]? = some (.cells cur 72 (0, 0)) ∧ ∀ (j : Nat) (v : Value), (zs.flatMap inoV)[j]? = some v → cur[j]? = some v
 len : zs.length = n
 ents : ∀ z ∈ zs, ∃ A m c, z.2 = .slice A m c ∧ SlOk A m c ∧ EntsAt none W0 A m z.1.ents
theorem Kept.lt {W0 w : World} {g n : Nat} {zs : List (Ino × Value)} (h : Kept W0 w g n zs) : g < w.heap.size := by
 obtain ⟨cur, h1, _⟩ := h.row
 exact (Array.getElem?_eq_some_iff.1 h1).1
theorem Kept.same {W0 w w' : World} {g n : Nat} {zs : List (Ino × Value)} (h : Kept W0 w g n zs) (hb : ∀ cur, w.heap[g]? = some (.cells cur 72 (0, 0)) → w'.heap[g]? = some (.cells cur 72 (0, 0))) : Kept W0 w' g n zs := by
 obtain ⟨cur, h1, h2⟩ := h.row
 exact ⟨⟨cur, hb cur h1, h2⟩, h.len, h.ents⟩
theorem Kept.below {W0 w w' : World} {g n : Nat} {zs : List (Ino × Value)} (h : Kept W0 w g n zs) (hb : Below w.heap.size w w') : Kept W0 w' g n zs :=
 h.same fun cur h1 => (hb.block g (Array.getElem?_eq_some_iff.1 h1).1).trans h1
theorem Kept.wr {W0 w w' : World} {B b g n : Nat} {zs : List (Ino × Value)} (h : Kept W0 w g n zs) (hb : Wr B b w w') (hne : g ≠ b) : Kept W0 w' g n zs :=
 h.same fun cur h1 => hb.keep g _ h1 hne (by intro cs fr h9; injection h9 with _ h9; exact absurd h9 (by decide))
theorem Kept.get {W0 w : World} {g n : Nat} {zs : List (Ino × Value)} (h : Kept W0 w g n zs) (j : Nat) (hj : j < n) : ∃ x A m c, (zs.map Prod.fst)[j]? = some x ∧ SlOk A m c ∧ EntsAt none W0 A m x.ents ∧
  w.cell? ⟨g, j * 4, none⟩ = some (.int .i64 x.num) ∧ w.cell? ⟨g, j * 4 + 1, none⟩ = some (.bool x.dir) ∧ w.cell? ⟨g, j * 4 + 2, none⟩ = some (.slice A m c) ∧ w.cell? ⟨g, j * 4 + 3, none⟩ = some (.string x.data) := by
 obtain ⟨cur, h1, h2⟩ := h.row
 have hl : j < zs.length := by rw [h.len]; exact hj
 obtain ⟨z, hz⟩ : ∃ z, zs[j]? = some z := ⟨_, List.getElem?_eq_getElem hl⟩
 have f := flat_get inoV 4 (fun x => rfl) zs j z hz
 obtain ⟨A, m, c, he, hok, hE⟩ := h.ents z (List.mem_of_getElem? hz)
 refine ⟨z.1, A, m, c, by rw [List.getElem?_map, hz]; rfl, hok, hE, ?_, ?_, ?_, ?_⟩
 ·rw [cell_of_row w g _ cur _ (0, 0) h1]; exact h2 _ _ (f 0 (by omega))
 ·rw [cell_of_row w g _ cur _ (0, 0) h1]; exact h2 _ _ (f 1 (by omega))
 ·rw [cell_of_row w g _ cur _ (0, 0) h1, ← he]; exact h2 _ _ (f 2 (by omega))
 ·rw [cell_of_row w g _ cur _ (0, 0) h1]; exact h2 _ _ (f 3 (by omega))
theorem Kept.cells {W0 w : World} {g n : Nat} {zs : List (Ino × Value)} (h : Kept W0 w g n zs) {j : Nat} {z : Ino × Value} {A : Option Addr} {m c : Nat} (hz : zs[j]? = some z) (he : z.2 = .slice A m c) :
  w.cell? ⟨g, j * 4, none⟩ = some (.int .i64 z.1.num) ∧ w.cell? ⟨g, j * 4 + 1, none⟩ = some (.bool z.1.dir) ∧ w.cell? ⟨g, j * 4 + 2, none⟩ = some (.slice A m c) ∧ w.cell? ⟨g, j * 4 + 3, none⟩ = some (.string z.1.data) := by
 obtain ⟨cur, h1, h2⟩ := h.row
 have f := flat_get inoV 4 (fun x => rfl) zs j z hz
 refine ⟨?_, ?_, ?_, ?_⟩
 ·rw [cell_of_row w g _ cur _ (0, 0) h1]; exact h2 _ _ (f 0 (by omega))
 ·rw [cell_of_row w g _ cur _ (0, 0) h1]; exact h2 _ _ (f 1 (by omega))
 ·rw [cell_of_row w g _ cur _ (0, 0) h1, ← he]; exact h2 _ _ (f 2 (by omega))
 ·rw [cell_of_row w g _ cur _ (0, 0) h1]; exact h2 _ _ (f 3 (by omega))
theorem Kept.inos {W0 w : World} {g n : Nat} {zs : List (Ino × Value)} (h : Kept W0 w g n zs) (hb : Below W0.heap.size W0 w) : InosAt none w (some ⟨g, 0, none⟩) n (zs.map Prod.fst) := by
 refine ⟨by rw [List.length_map, h.len], fun _ => ⟨g, 0, rfl, h.lt, Mine.any _ _ _, fun j x hx => ?_⟩⟩
 have hj : j < n := by
  have := (List.getElem?_eq_some_iff.1 hx).1
  rw [List.length_map, h.len] at this
  exact this
 obtain ⟨y, A, m, c, h1, h2, h3, h4, h5, h6, h7⟩ := h.get j hj
 have : y = x := by rw [h1] at hx; exact Option.some.inj hx
 subst this
 rw [Nat.zero_add]
 exact ⟨h4, h5, ⟨A, m, c, h6, h2, h3.below hb⟩, h7⟩
theorem Kept.of_row {W0 w : World} {B n : Nat} {v : Value} {zs : List (Ino × Value)} (h : w.ownsRow B 72 4 v n (zs.flatMap inoV)) (hn : 0 < n) (he : ∀ z ∈ zs, ∃ A m c, z.2 = .slice A m c ∧ SlOk A m c ∧ EntsAt none W0 A m z.1.ents) :
  ∃ g c, v = .slice (some ⟨g, 0, none⟩) n c ∧ n ≤ c ∧ B ≤ g ∧ Kept W0 w g n zs := by
 have hl : zs.length = n := by
  have h1 := h.1
  rw [flat_len inoV 4 (fun x => rfl)] at h1
  omega
 rcases h.2 with ⟨_, h0⟩ | ⟨g, cap, cur, rfl, hb, hg, hnc, hcm, hcs, htk⟩
 ·omega
 ·refine ⟨g, cap, rfl, hnc, hb, ⟨cur, hg, fun j v hv => ?_⟩, hl, he⟩
  rw [← htk, List.getElem?_take] at hv
  split at hv
  ·rw [← Array.getElem?_toList]; exact hv
  ·cases hv
theorem inoV_one {w : World} (zs : List (Ino × Value)) (he : ∀ z ∈ zs, ∃ A m c, z.2 = .slice A m c ∧ SlOk A m c ∧ EntsAt none w A m z.1.ents) : ∀ u ∈ zs.flatMap inoV, u.oneCell' = true := by
 intro u hu
 obtain ⟨z, hz, hu2⟩ := List.mem_flatMap.1 hu
 obtain ⟨A, m, c, h1, _⟩ := he z hz
 simp [inoV, h1] at hu2
 rcases hu2 with rfl | rfl | rfl | rfl <;> rfl
set_option maxRecDepth 100000 in
set_option maxHeartbeats 2000000 in
theorem cloneinos_any (is : List Ino) (A : Option Addr) (n c : Nat) (W0 w : World) (h : InosAt none W0 A n is) (hb0 : Below W0.heap.size W0 w) (h0 : 0 < n) (hn : n ≤ 65536) :
  Calls Try.prog 25 #[.slice A n c] w fun e w' => ∃ g c' zs, e = .returned (.slice (some ⟨g, 0, .none⟩) n c') ∧ n ≤ c' ∧ w.heap.size ≤ g ∧ Kept W0 w' g n zs ∧ zs.map Prod.fst = is ∧ Below w.heap.size w w' := by
 obtain ⟨g, off, x, E, m, d, rfl, hg, _⟩ := h.get 0 h0
 have hal : Below w.heap.size w (w.alloc (.cells #[] 72)) := (Below.refl _ _).alloc (Nat.le_refl _) _
 obtain ⟨zs, hz1, hz2, hz3'⟩ := h.zs h0
 have hz3 : ∀ j u, (zs.flatMap inoV)[j]? = some u → (w.alloc (.cells #[] 72)).cell? ((⟨g, off, none⟩ : Addr).add j) = some u := by
  intro j u hu
  have h1 := hz3' j u hu
  rw [Addr.add_lit] at h1 ⊢
  exact (hal.cell (p := ⟨g, off + j, none⟩) (Nat.lt_of_lt_of_le hg hb0.size)).trans ((hb0.cell (p := ⟨g, off + j, none⟩) hg).trans h1)
 have hown := row_empty w w.heap.size 72 4 (Nat.le_refl _)
 have hlen : (zs.flatMap inoV).length = n * 4 := by
  rw [flat_len inoV 4 (fun _ => rfl)]
  have := congrArg List.length hz1
  rw [List.length_map] at this
  have := h.1
  omega
 have HO := Lib.hid hown
 have HL := Lib.hid hlen
 have HZ1 := Lib.hid hz1
 have HZ2 := Lib.hid hz2
 have HZ3 := Lib.hid hz3
 have HAL := Lib.hid hal
 have heq := eql_slice_nil (P := Try.prog) 22 72 Try.underlying22
 clear h hown hlen hz1 hz2 hz3 hz3' hal hb0 hg
 go_enter Try.func25, Try.ntmps25
 go_wp2_with (at_builtin; refine wpList_append_flat rfl _ _ 22 72 (.agg #[.int .i64 0, .bool false, .slice none 0 0, .string ⟨#[]⟩]) 4 56 rfl Try.underlying22 infoIno rfl (by decide) w.heap.size _ 0 [] rfl HO.out (some ⟨g, off, .none⟩) n c (zs.flatMap inoV) rfl HL.out (fun ad had => by cases had; exact HZ3.out) (fun e => by cases e) (inoV_one zs HZ2.out) ?h63 ?hb ?hB ?_)
 case h63 => unfold maxLen; omega
 case hb => omega
 case hB => exact HAL.out.size
 intro v' w2 hown' hgrow
 have hb2 : Below w.heap.size w w2 := HAL.out.grown hgrow HAL.out.size fun x hx => (HO.out.lt x hx).1
 have hown2 : w2.ownsRow w.heap.size 72 4 v' n (zs.flatMap inoV) := by simpa using hown'
 obtain ⟨g', c', rfl, hok, hgb, hK⟩ := Kept.of_row hown2 h0 HZ2.out
 have HB2 := Lib.hid hb2
 have HK := Lib.hid hK
 clear hown' hown2 hgrow hb2 hK
 go_wp2_with fail
 go_ret
 exact ⟨g', c', zs, rfl, hok, hgb, HK.out, HZ1.out, HB2.out⟩
end Go.Proofs.Ytghlgnklnbcppaa

set_option linter.unusedVariables false
set_option linter.unusedSimpArgs false
namespace Go.Proofs.Ytghlgnklnbcppaa
open Go.RowKit
def delB (s : St) (x : Ino) : Bool := !x.dir && decide (linkI s.inos x.num = 0)
theorem PtrAt.st {w : World} {p : Nat} {s : St} (h : PtrAt w p s) : ∃ A n c E m d D k e, w.cell? ⟨p, 0, none⟩ = some (.slice A n c) ∧ w.cell? ⟨p, 1, none⟩ = some (.slice E m d) ∧ w.cell? ⟨p, 2, none⟩ = some (.slice D k e) ∧ p < w.heap.size ∧ StAt none w (.agg #[.slice A n c, .slice E m d, .slice D k e]) s := by
 obtain ⟨⟨A, n, c, E, m, d, D, k, e, h1, h2, h3, h4, h5, h6, h7⟩, hz⟩ := h
 exact ⟨A, n, c, E, m, d, D, k, e, by rw [cell_of_row w p _ _ _ (0, 0) h1]; rfl, by rw [cell_of_row w p _ _ _ (0, 0) h1]; rfl, by rw [cell_of_row w p _ _ _ (0, 0) h1]; rfl, (Array.getElem?_eq_some_iff.1 h1).1, ⟨A, n, c, E, m, d, D, k, e, rfl, h2, h3, h4, h5, h6, h7⟩, hz⟩
set_option maxRecDepth 100000 in
set_option maxHeartbeats 2000000 in
theorem del1_any (p : Nat) (s : St) (x : Ino) (E : Option Addr) (m d : Nat) (w : World) (h : PtrAt w p s) :
  Calls Try.prog 27 #[.agg #[.int .i64 x.num, .bool x.dir, .slice E m d, .string x.data], .pointer (some ⟨p, 0, .none⟩)] w fun e w' => e = .returned (.bool (delB s x)) ∧ Below w.heap.size w w' := by
 obtain ⟨V, hV, u0, u1, u2, u3, hal, hlt⟩ := box_ino w x.num x.dir E m d x.data
 obtain ⟨A2, n2, c2, E2, m2, d2, D2, k2, e2, b0, b1, b2, hp, hst⟩ := (h.below hal).st
 have HST := Lib.hid hst
 have HAL := Lib.hid hal
 unfold delB
 obtain ⟨DX, hDX⟩ : ∃ DX, x.dir = DX := ⟨_, rfl⟩
 rw [hDX] at hV u1 ⊢
 clear h hst hal hDX
 go_enter Try.func27, Try.ntmps27
 cases DX
 ·go_wp2_with fail
  refine (mlinks_any _ s x.num V HST.out).mono ?_
  rintro e5 w5 ⟨rfl, hb5⟩
  obtain ⟨L, hL⟩ : ∃ L, linkI s.inos x.num = L := ⟨_, rfl⟩
  have HL := Lib.hid hL
  rw [hL]
  clear hL
  have HB5 := Lib.hid (Cv.next HAL.out hb5)
  clear hb5 u0 u1 u2 u3 b0 b1 b2
  by_cases hz : L = 0
  ·subst hz
   go_wp2_with fail
   go_ret
   exact ⟨Cv.ret_bool (by rw [HL.out]; rfl), HB5.out⟩
  ·have q1 : ((L : Int) == 0) = false := by rw [beq_eq_false_iff_ne]; omega
   go_wp2_with fail
   go_ret
   exact ⟨Cv.ret_bool (by rw [HL.out, decide_eq_false hz]; rfl), HB5.out⟩
 ·go_wp2_with fail
  go_ret
  exact ⟨rfl, HAL.out⟩
set_option maxRecDepth 100000 in
set_option maxHeartbeats 2000000 in
theorem indexdel_any (p : Nat) (s : St) (is : List Ino) (A : Option Addr) (n c : Nat) (w : World) (h : PtrAt w p s) (hI : InosAt none w A n is) (hn : n ≤ 1099511627776) (hno : ∀ x ∈ is, delB s x = false) :
  Calls Try.prog 57 #[.slice A n c, .func (.func 27) #[] #[.pointer (some ⟨p, 0, .none⟩)]] w fun e w' => e = .returned (.int .i64 (-1)) ∧ Below w.heap.size w w' := by
 have HI := Lib.hid hI
 have HP := Lib.hid h
 have HNO := Lib.hid hno
 clear hI h hno
 go_enter Try.func57, Try.ntmps57
 go_wp2_with fail
 go_loopw [8] (fun j wr => ∃ q : Nat, j = .int .i64 q ∧ q ≤ n ∧ Below w.heap.size w wr) (fun j _ => n - (intOf j).toNat)
 case atStart => exact ⟨0, rfl, by omega, Below.refl _ _⟩
 case round =>
  obtain ⟨q, rfl, hq, hbel⟩ := hrel
  have HB := Lib.hid hbel
  have HIr := Lib.hid (HI.out.below hbel)
  have HPr := Lib.hid (HP.out.below hbel)
  clear hbel
  by_cases hlt : q < n
  ·obtain ⟨g, off, x, E, m, d, rfl, hg, hx, hd, hmem, e0, e1, e2, hok, hE, e3⟩ := HIr.out.get q hlt
   have k0 : (0 : Int) ≤ (q : Int) := by omega
   have hnx := HNO.out x hmem
   have HNX := Lib.hid hnx
   clear hd hmem hx hE hnx
   go_wp2_with fail
   refine (del1_any p s x E m d _ HPr.out).mono ?_
   rintro e5 w5 ⟨rfl, hb5⟩
   rw [HNX.out]
   have HB5 := Lib.hid (HB.out.trans (hb5.mono HB.out.size))
   clear hb5 e0 e1 e2 e3
   go_wp2_with fail
   go_roundw
   case rel => exact ⟨q + 1, by go_num, by omega, HB5.out⟩
   case measure => simp [intOf]; omega
  ·go_wp2_with fail
   go_ret
   exact ⟨rfl, HB.out⟩
set_option maxRecDepth 100000 in
set_option maxHeartbeats 2000000 in
theorem delnone_any (p : Nat) (s : St) (is : List Ino) (A : Option Addr) (n c : Nat) (w : World) (h : PtrAt w p s) (hI : InosAt none w A n is) (hn : n ≤ 1099511627776) (hno : ∀ x ∈ is, delB s x = false) :
  Calls Try.prog 26 #[.slice A n c, .func (.func 27) #[] #[.pointer (some ⟨p, 0, .none⟩)]] w fun e w' => e = .returned (.slice A n c) ∧ Below w.heap.size w w' := by
 go_enter Try.func26, Try.ntmps26
 go_wp2_with fail
 refine (indexdel_any p s is A n c w h hI hn hno).mono ?_
 rintro e5 w5 ⟨rfl, hb5⟩
 have HB5 := Lib.hid hb5
 clear hb5
 go_wp2_with fail
 go_ret
 exact ⟨rfl, HB5.out⟩
end Go.Proofs.Ytghlgnklnbcppaa

set_option linter.unusedVariables false
set_option linter.unusedSimpArgs false
namespace Go.Proofs.Ytghlgnklnbcppaa
open Go.RowKit

theorem take_snoc (s : ByteArray) (k : Nat) (h : k < s.size) : s.data.toList.take (k + 1) = s.data.toList.take k ++ [s[k]] := by
 rw [List.take_succ_eq_append_getElem (by simpa using h)]; rfl
theorem ret_int {k : IntKind} {a b : Int} (h : a = b) : Ending.returned (.int k a) = .returned (.int k b) := by rw [h]
theorem val_int {k : IntKind} {a b : Int} (h : a = b) : Value.int k a = .int k b := by rw [h]
theorem wrap_u64_nat (n : Nat) (h : n < 18446744073709551616) : IntKind.u64.wrap (n : Int) = (n : Int) := by rw [IntKind.wrap_u64]; omega
theorem hM_lit : hM = 18446744073709551616 := by decide +kernel
theorem hP_lit : hP = 1099511628211 := by decide +kernel
theorem step_val (h : Nat) (hh : h < hM) (b : UInt8) :
  IntKind.u64.wrap (bits .xor .u64 (h : Int) (IntKind.u64.wrap (b.toNat : Int)) * 1099511628211) = ((stepN h b : Nat) : Int) := by
 have hb := b.toNat_lt
 have hx := xor_lt hh b
 rw [hM_lit] at hh hx
 rw [wrap_u64_nat _ (by omega), u64_xor_nat _ _ hh (by omega)]
 unfold stepN
 rw [hM_lit, hP_lit, IntKind.wrap_u64]
 generalize h ^^^ b.toNat = x at *
 omega
theorem first_val : (14695981039346656037 : Int) = ((sumN [] : Nat) : Int) := by
 rw [sumN_nil]; decide +kernel

set_option maxHeartbeats 400000 in
theorem sum_any (s : ByteArray) (w : World) (hs : s.size ≤ maxLen) :
  Calls Try.prog 30 #[.string s] w fun e w' => e = .returned (.int .u64 ((sumN s.data.toList : Nat) : Int)) ∧ w = w' := by
 unfold maxLen at hs
 go_enter Try.func30, Try.ntmps30
 go_wp2
 go_loop [3, 7] (fun h i => ∃ k : Nat, k ≤ s.size ∧ i = .int .i64 k ∧ h = .int .u64 ((sumN (s.data.toList.take k) : Nat) : Int)) (fun _ i => s.size - (intOf i).toNat)
 case atStart => exact ⟨0, Nat.zero_le _, rfl, val_int first_val⟩
 case round =>
  obtain ⟨k, hk, rfl, rfl⟩ := hrel
  by_cases hlt : k < s.size
  ·go_wp2
   go_round
   case rel => exact ⟨k + 1, by omega, by go_num, by rw [take_snoc s k hlt, sumN_snoc]; exact val_int (step_val _ (sumN_lt _) _)⟩
   case measure => simp [intOf]; omega
  ·go_wp2
   go_ret
   exact ⟨ret_int (by rw [List.take_of_length_le (by simp; omega)]), rfl⟩

end Go.Proofs.Ytghlgnklnbcppaa

set_option linter.unusedVariables false
set_option linter.unusedSimpArgs false
namespace Go.Proofs.Ytghlgnklnbcppaa
open Go.RowKit
theorem madeL_drop (xs : List Int) (q : Nat) (x : Int) (h : xs[q]? = some x) : madeL (xs.drop q) = numL x.toNat ++ madeL (xs.drop (q + 1)) := by
 obtain ⟨h1, h2⟩ := List.getElem?_eq_some_iff.1 h
 rw [List.drop_eq_getElem_cons h1, h2, madeL]
theorem inosL_drop (xs : List Ino) (q : Nat) (x : Ino) (h : xs[q]? = some x) : inosL (xs.drop q) = inodeL x ++ inosL (xs.drop (q + 1)) := by
 obtain ⟨h1, h2⟩ := List.getElem?_eq_some_iff.1 h
 rw [List.drop_eq_getElem_cons h1, h2, inosL]
theorem byte_val (H k : Nat) : (H : Int) / 2 ^ k % 256 = (((H / 2 ^ k).toUInt8).toNat : Int) := by
 have e : ((H / 2 ^ k).toUInt8).toNat = H / 2 ^ k % 256 := rfl
 rw [e, Int.natCast_emod, Int.natCast_ediv, Int.natCast_pow]
 rfl
theorem eight_get (H q : Nat) (hq : q < 8) : (eightL H)[q]? = some (H / 2 ^ (56 - 8 * q)).toUInt8 := by
 unfold eightL
 rw [List.getElem?_map, List.getElem?_range hq]
 rfl
theorem eight_len (H : Nat) : (eightL H).length = 8 := by
 unfold eightL
 rw [List.length_map, List.length_range]
set_option maxRecDepth 100000 in
set_option maxHeartbeats 8000000 in
theorem put_bad (v : Value) (s : St) (w : World) (h : StAt none w v s) (hm : mayV s = false) :
  Calls Try.prog 8 #[v] w fun e w' => e = .returned (.tuple #[.string ⟨#[]⟩, .int .i64 1902]) ∧ Below w.heap.size w w' := by
 obtain ⟨⟨A, n, c, B, m, d, D, k, e, rfl, hI, hD, hM, h5, h6, h7⟩, hz⟩ := h
 obtain ⟨W, hW, b0, b1, b2, hal, hlt0⟩ := box_st w A n c B m d D k e
 have hst : StAt none W (.agg #[.slice A n c, .slice B m d, .slice D k e]) s := ⟨⟨A, n, c, B, m, d, D, k, e, rfl, hI.below hal, hD.below hal, hM.below hal, h5, h6, h7⟩, hz⟩
 have HST := Lib.hid hst
 have HAL := Lib.hid hal
 have HM := Lib.hid hm
 clear hI hD hM hz hst hal hm
 go_enter Try.func8, Try.ntmps8
 go_wp2_with fail
 refine (mmay_any _ s _ HST.out).mono ?_
 rintro e1 w1 ⟨rfl, hb1⟩
 rw [HM.out]
 have HB1 := Lib.hid (Cv.next HAL.out hb1)
 clear hb1
 go_wp2_with fail
 go_ret2
 exact ⟨rfl, HB1.out⟩
set_option maxRecDepth 100000 in
set_option maxHeartbeats 8000000 in
theorem put_all (v : Value) (s : St) (w : World) (h : StAt none w v s) (hm : mayV s = true) (hall : ∀ x ∈ s.inos, delB s x = false) :
  Calls Try.prog 8 #[v] w fun e w' => e = .returned (.tuple #[.string ⟨(sealL (headL s.made s.inos)).toArray⟩, .int .i64 0]) ∧ Below w.heap.size w w' := by
 obtain ⟨⟨A, n, c, Bz, m, d, D, k, e, rfl, hI, hD, hM, h5, h6, h7⟩, hz⟩ := h
 obtain ⟨W, hW, b0, b1, b2, hal, hlt0⟩ := box_st w A n c Bz m d D k e
 have hrow : W.heap[w.heap.size]? = some (.cells #[.slice A n c, .slice Bz m d, .slice D k e] 26 (0, 0)) := by rw [← hW]; exact heap_alloc_new w _
 have hst : StAt none W (.agg #[.slice A n c, .slice Bz m d, .slice D k e]) s := ⟨⟨A, n, c, Bz, m, d, D, k, e, rfl, hI.below hal, hD.below hal, hM.below hal, h5, h6, h7⟩, hz⟩
 have hp : PtrAt W w.heap.size s := ⟨⟨A, n, c, Bz, m, d, D, k, e, hrow, hI.below hal, hD.below hal, hM.below hal, h5, h6, h7⟩, hz⟩
 have hok := may_facts hm
 have hbig := hz.big
 have hbe : bulkE s.inos ≤ 1099511627776 := by omega
 have hkl := hM.1
 have hnl := hI.1
 have hk8 : k ≤ 8 := by have := hok.made.2.1; omega
 have hn1 : 0 < n := by have := hok.inos; omega
 have hn2 : n ≤ 257 := by have := hok.inos; omega
 have HST := Lib.hid hst
 have HP := Lib.hid hp
 have HAL := Lib.hid hal
 have HM := Lib.hid hm
 have HOK := Lib.hid hok
 have HBE := Lib.hid hbe
 have HI := Lib.hid hI
 have HMD := Lib.hid hM
 have HALL := Lib.hid hall
 have hil := inosL_len s.inos hok.data
 have hml := madeL_len s.made
 have HIL := Lib.hid hil
 have HML := Lib.hid hml
 have HKL := Lib.hid hkl
 have HNL := Lib.hid hnl
 clear hI hD hM hz hst hal hm hrow hp hok hbig hbe hall hil hml hkl hnl h5 h6 h7
 go_enter Try.func8, Try.ntmps8
 go_wp2_with fail
 refine (mmay_any _ s _ HST.out).mono ?_
 rintro e1 w1 ⟨rfl, hb1⟩
 rw [HM.out]
 have HB1 := Lib.hid (Cv.next HAL.out hb1)
 have HB1W := Lib.hid hb1
 obtain ⟨U, hU⟩ : ∃ U, w1.alloc (.cells #[.pointer none, .slice none 0 0] 63) = U := ⟨_, rfl⟩
 have hfr : Bld w1.heap.size w1.heap.size [] U := by rw [← hU]; exact Lib.IsBuilderF.of (Lib.fresh_isBuilder _ _ w1)
 have hbu : Below w1.heap.size w1 U := by rw [← hU]; exact (Below.refl _ _).alloc (Nat.le_refl _) _
 have husz : w1.heap.size ≤ U.heap.size := hbu.size
 have HFR := Lib.hid hfr
 have HBU := Lib.hid hbu
 have hcell : ∀ w', Below w1.heap.size w1 w' → w'.cell? ⟨w.heap.size, 0, .none⟩ = some (.slice A n c) ∧ w'.cell? ⟨w.heap.size, 1, .none⟩ = some (.slice Bz m d) ∧ w'.cell? ⟨w.heap.size, 2, .none⟩ = some (.slice D k e) ∧ PtrAt w' w.heap.size s ∧ InosAt none w' A n s.inos ∧ IntsAt none w' D k s.made := by
  intro w' hw'
  have hb : Below W.heap.size W w' := hb1.trans (hw'.mono hb1.size)
  exact ⟨(hb.cell (p := ⟨w.heap.size, 0, .none⟩) hlt0).trans b0, (hb.cell (p := ⟨w.heap.size, 1, .none⟩) hlt0).trans b1, (hb.cell (p := ⟨w.heap.size, 2, .none⟩) hlt0).trans b2, HP.out.below hb, (HI.out.below HAL.out).below hb, (HMD.out.below HAL.out).below hb⟩
 have HC := Lib.hid hcell
 have hww : ∀ w', Below w1.heap.size w1 w' → Below w.heap.size w w' := fun w' hw' => Cv.next HB1.out hw'
 have HWW := Lib.hid hww
 clear hb1 hfr hbu hcell hww b0 b1 b2 hW hlt0
 go_wp2_with fail
 clear hU
 refine (writestring_any w1.heap.size w1.heap.size [] ⟨#[67, 78, 67, 49]⟩ U HFR.out (by decide) husz).mono ?_
 rintro e2 w2 ⟨rfl, hbl2, hwr2⟩
 have HL2 : Hid (Bld w1.heap.size w1.heap.size magicL w2) := Lib.hid hbl2
 have HW2 := Lib.hid hwr2
 have HD2 := Lib.hid (HBU.out.trans hwr2.below)
 have hs2 : w1.heap.size ≤ w2.heap.size := HD2.out.size
 have y2 := (HC.out _ HD2.out).2.2.1
 clear hbl2 hwr2
 go_wp2_with fail
 refine (number_any w1.heap.size w1.heap.size magicL k w2 HL2.out (by omega) (by decide) hs2).mono ?_
 rintro e3 w3 ⟨rfl, hbl3, hwr3⟩
 have HL3 := Lib.hid hbl3
 have HW3 := Lib.hid (HW2.out.trans hwr3)
 have HD3 := Lib.hid (HD2.out.trans hwr3.below)
 have hs3 : w1.heap.size ≤ w3.heap.size := HD3.out.size
 have y3 := (HC.out _ HD3.out).2.2.1
 have hl3 : (magicL ++ numL k).length ≤ 15 := by
  have := numL_len k
  rw [List.length_append]
  have h4 : magicL.length = 4 := rfl
  omega
 obtain ⟨P3, hP3⟩ : ∃ P3, magicL ++ numL k = P3 := ⟨_, rfl⟩
 rw [hP3] at HL3 hl3
 have HP3 := Lib.hid hP3
 clear hbl3 hwr3 y2 hP3
 go_wp2_with fail
 clear y3
 go_loopw [6, 28] (fun _ i wr => ∃ (q : Nat) (l' : List UInt8), i = .int .i64 q ∧ q ≤ k ∧ Bld w1.heap.size w1.heap.size l' wr ∧ Wr w1.heap.size w1.heap.size U wr ∧ l' ++ madeL (s.made.drop q) = P3 ++ madeL s.made) (fun _ i _ => k - (intOf i).toNat)
 case atStart => exact ⟨0, P3, rfl, by omega, HL3.out, HW3.out, rfl⟩
 case round =>
  obtain ⟨q, l', rfl, hq, hbl, hwr, hc⟩ := hrel
  have HBL := Lib.hid hbl
  have HWR := Lib.hid hwr
  have HDR := Lib.hid (HBU.out.trans hwr.below)
  have hsr : w1.heap.size ≤ wr.heap.size := HDR.out.size
  have hll : l'.length + (madeL (s.made.drop q)).length ≤ 15 + 88 := by
   have h1 := congrArg List.length hc
   rw [List.length_append, List.length_append] at h1
   have := HML.out
   have := HKL.out
   omega
  clear hbl hwr
  by_cases hlt : q < k
  ·obtain ⟨g, off, x, rfl, hg, hx, hd, hmem, c0⟩ := (HC.out _ HDR.out).2.2.2.2.2.get q hlt
   have r0 : (0 : Int) ≤ (q : Int) := by omega
   have r1 : (q : Int) < (k : Int) := by omega
   have hxr := HOK.out.made.2.2 x hmem
   rw [madeL_drop _ _ _ hx] at hc
   rw [toNat_val hxr.1] at c0
   obtain ⟨Y, hY⟩ : ∃ Y, x.toNat = Y := ⟨_, rfl⟩
   rw [hY] at c0 hc
   have hY2 : Y ≤ 1099511627776 := by omega
   have hll2 : l'.length ≤ 103 := by omega
   have HCC := Lib.hid hc
   clear hd hmem hx hc hxr hll
   go_wp2_with fail
   refine (number_any w1.heap.size w1.heap.size l' Y wr HBL.out hY2 (by omega) hsr).mono ?_
   rintro e4 w4 ⟨rfl, hbl4, hwr4⟩
   have HL4 := Lib.hid hbl4
   have HW4 := Lib.hid (HWR.out.trans hwr4)
   clear hbl4 hwr4 c0
   go_wp2_with fail
   go_roundw
   case rel => exact ⟨q + 1, _, by go_num, by omega, HL4.out, HW4.out, by have := HCC.out; simpa [List.append_assoc] using this⟩
   case measure => simp [intOf]; omega
  ·have hnil : s.made.drop q = [] := List.drop_eq_nil_of_le (by have := HKL.out; omega)
   rw [hnil, madeL, List.append_nil] at hc
   have q1 : decide ((q : Int) < (k : Int)) = false := by rw [decide_eq_false_iff_not]; omega
   have hpl : l'.length ≤ 103 := by omega
   have HCC := Lib.hid hc
   have y0 := (HC.out _ HDR.out).1
   clear hc hnil hll
   go_wp2_with fail
   refine (cloneinos_any s.inos A n c w1 wr (HC.out w1 (Below.refl _ _)).2.2.2.2.1 HDR.out hn1 (by omega)).mono ?_
   rintro e5 w5 ⟨g5, c5, zs, rfl, hnc5, hg5, hkp, hzs, hb5⟩
   have HKP := Lib.hid hkp
   have HZS := Lib.hid hzs
   have HL5 := Lib.hid (HBL.out.keep hb5)
   have HW5 := Lib.hid (HWR.out.trans (Wr.of_below hb5 hsr))
   have HD5 := Lib.hid (HBU.out.trans HW5.out.below)
   have hb5w := hb5
   have HB5 := Lib.hid hb5w
   have hi5 := hkp.inos HD5.out
   rw [hzs] at hi5
   have HI5 := Lib.hid hi5
   clear hkp hzs hb5 hb5w y0 hi5
   go_wp2_with fail
   refine (delnone_any w.heap.size s s.inos _ n c5 w5 (HC.out _ HD5.out).2.2.2.1 HI5.out (by omega) HALL.out).mono ?_
   rintro e6 w6 ⟨rfl, hb6⟩
   have hs5 : w1.heap.size ≤ w5.heap.size := HD5.out.size
   have HL6 := Lib.hid (HL5.out.keep hb6)
   have HW6 := Lib.hid (HW5.out.trans (Wr.of_below hb6 hs5))
   have HD6 := Lib.hid (HBU.out.trans HW6.out.below)
   have HK6 := Lib.hid (HKP.out.below hb6)
   have HB6 := Lib.hid (HB5.out.trans (hb6.mono HB5.out.size))
   have hs6 : w1.heap.size ≤ w6.heap.size := HD6.out.size
   clear hb6
   go_wp2_with fail
   refine (number_any w1.heap.size w1.heap.size l' n w6 HL6.out (by omega) (by omega) hs6).mono ?_
   rintro e7 w7 ⟨rfl, hbl7, hwr7⟩
   have hgb : g5 ≠ w1.heap.size := by
    have := HBL.out.lt
    omega
   have HL7 := Lib.hid hbl7
   have HW7 := Lib.hid (HW6.out.trans hwr7)
   have HK7 := Lib.hid (HK6.out.wr hwr7 hgb)
   have HB7 := Lib.hid hwr7
   have hln := numL_len n
   obtain ⟨P7, hP7⟩ : ∃ P7, l' ++ numL n = P7 := ⟨_, rfl⟩
   have hpl7 : P7.length ≤ 114 := by rw [← hP7, List.length_append]; omega
   rw [hP7] at HL7
   have HP7 := Lib.hid hP7
   clear hbl7 hwr7 hP7 hln
   go_wp2_with fail
   have HD7 := Lib.hid (HBU.out.trans HW7.out.below)
   go_loopw [8, 48] (fun _ i wr => ∃ (q : Nat) (l' : List UInt8), i = .int .i64 q ∧ q ≤ n ∧ Bld w1.heap.size w1.heap.size l' wr ∧ Wr w1.heap.size w1.heap.size w7 wr ∧ l' ++ inosL (s.inos.drop q) = P7 ++ inosL s.inos) (fun _ i _ => n - (intOf i).toNat)
   case atStart => exact ⟨0, P7, rfl, by omega, HL7.out, Wr.refl _ _ _, rfl⟩
   case round =>
    obtain ⟨q, l2, rfl, hq, hbl, hwr, hc⟩ := hrel
    have HBL2 := Lib.hid hbl
    have HWR2 := Lib.hid hwr
    have HDR2 := Lib.hid (HD7.out.trans hwr.below)
    have hsr2 : w1.heap.size ≤ wr.heap.size := HDR2.out.size
    have hll2 : l2.length + (inosL (s.inos.drop q)).length ≤ 114 + (300 * 257 + 40 * 1099511627776) := by
     have h1 := congrArg List.length hc
     rw [List.length_append, List.length_append] at h1
     have := HIL.out
     have := HNL.out
     have := HBE.out
     omega
    clear hbl hwr
    by_cases hlt : q < n
    ·obtain ⟨z, hz⟩ : ∃ z, zs[q]? = some z := ⟨_, List.getElem?_eq_getElem (by have := HK7.out.len; omega)⟩
     obtain ⟨E, m2, d2, hez, hok2, hE2⟩ := HK7.out.ents z (List.mem_of_getElem? hz)
     have hzx : s.inos[q]? = some z.1 := by rw [← HZS.out, List.getElem?_map, hz]; rfl
     have hix := HOK.out.ino HBE.out z.1 (List.mem_of_getElem? hzx)
     have r0 : (0 : Int) ≤ (q : Int) := by omega
     have r1 : (q : Int) < (n : Int) := by omega
     rw [inosL_drop _ _ _ hzx] at hc hll2
     rw [List.length_append] at hll2
     have hxx : ∀ w', Wr w1.heap.size w1.heap.size wr w' → (w'.cell? ⟨g5, q * 4, none⟩ = some (.int .i64 z.1.num) ∧ w'.cell? ⟨g5, q * 4 + 1, none⟩ = some (.bool z.1.dir) ∧ w'.cell? ⟨g5, q * 4 + 2, none⟩ = some (.slice E m2 d2) ∧ w'.cell? ⟨g5, q * 4 + 3, none⟩ = some (.string z.1.data)) ∧ EntsAt none w' E m2 z.1.ents := by
      intro w' hw'
      exact ⟨(HK7.out.wr (HWR2.out.trans hw') hgb).cells hz hez, hE2.below (HDR2.out.trans hw'.below)⟩
     have HXX := Lib.hid hxx
     have HIX := Lib.hid hix
     have HCC2 := Lib.hid hc
     have HLL2 := Lib.hid hll2
     clear hz hez hok2 hE2 hzx hix hc hll2 hxx
     go_wp2_with fail
     refine (inode_any w1.heap.size w1.heap.size g5 (q * 4) l2 z.1 E m2 d2 wr HBL2.out HIX.out (by have := HLL2.out; omega) hsr2 HXX.out).mono ?_
     rintro e8 w8 ⟨rfl, hbl8, hwr8⟩
     have HL8 := Lib.hid hbl8
     have HW8 := Lib.hid (HWR2.out.trans hwr8)
     clear hbl8 hwr8
     go_wp2_with fail
     go_roundw
     case rel => exact ⟨q + 1, _, by go_num, by omega, HL8.out, HW8.out, by have := HCC2.out; simpa [List.append_assoc] using this⟩
     case measure => simp [intOf]; omega
    ·have hnil : s.inos.drop q = [] := List.drop_eq_nil_of_le (by have := HNL.out; omega)
     rw [hnil, inosL, List.append_nil] at hc
     have q2 : decide ((q : Int) < (n : Int)) = false := by rw [decide_eq_false_iff_not]; omega
     have hpl : l2.length ≤ 114 + (300 * 257 + 40 * 1099511627776) := by omega
     have hhead : l2 = headL s.made s.inos := by
      rw [hc, ← HP7.out, HCC.out, ← HP3.out]
      unfold headL
      rw [HKL.out, HNL.out]
     have HHD := Lib.hid hhead
     have hl0 : l2 ≠ [] := by
      rw [hhead]
      unfold headL magicL
      simp
     have HL0 := Lib.hid hl0
     clear hc hnil hll2 hhead hl0
     go_wp2_with fail
     refine (string_any w1.heap.size w1.heap.size l2 wr HBL2.out HL0.out).mono ?_
     rintro e9 w9 ⟨rfl, hbl9, hwr9⟩
     have HL9 := Lib.hid hbl9
     have HW9 := Lib.hid (HWR2.out.trans hwr9)
     have HD9 := Lib.hid (HDR2.out.trans hwr9.below)
     have hs9 : w1.heap.size ≤ w9.heap.size := HD9.out.size
     have hsz9 : (⟨l2.toArray⟩ : ByteArray).size ≤ maxLen := by
      show l2.toArray.size ≤ maxLen
      rw [List.size_toArray]
      unfold maxLen
      omega
     have HS9 := Lib.hid hsz9
     clear hbl9 hwr9 hsz9
     go_wp2_with fail
     refine (sum_any ⟨l2.toArray⟩ w9 HS9.out).mono ?_
     rintro e10 w10 ⟨rfl, rfl⟩
     obtain ⟨H, hH⟩ : ∃ H, sumN (⟨l2.toArray⟩ : ByteArray).data.toList = H := ⟨_, rfl⟩
     have hHlt : H < 18446744073709551616 := by rw [← hH, ← hM_lit]; exact sumN_lt _
     rw [hH]
     have HH := Lib.hid hH
     clear hH
     go_wp2_with fail
     go_loopw [10, 62] (fun _ i wr => ∃ q : Nat, i = .int .i64 q ∧ q ≤ 8 ∧ Bld w1.heap.size w1.heap.size (l2 ++ (eightL H).take q) wr ∧ Wr w1.heap.size w1.heap.size w9 wr) (fun _ i _ => 8 - (intOf i).toNat)
     case atStart => exact ⟨0, rfl, by omega, by simpa using HL9.out, Wr.refl _ _ _⟩
     case round =>
      obtain ⟨q, rfl, hq, hbl, hwr⟩ := hrel
      have HBLz := Lib.hid hbl
      have HWRz := Lib.hid hwr
      have HDz := Lib.hid (HD9.out.trans hwr.below)
      have hsz : w1.heap.size ≤ wr.heap.size := HDz.out.size
      clear hbl hwr
      by_cases hlt : q < 8
      ·have r0 : (0 : Int) ≤ (q : Int) := by omega
       have r1 : (q : Int) < 8 := by omega
       have r2 : decide ((q : Int) < 8) = true := by rw [decide_eq_true_eq]; omega
       have r3 : (0 : Int) ≤ 56 - 8 * (q : Int) := by omega
       have r4 : IntKind.i64.wrap (56 - 8 * (q : Int)) = 56 - 8 * (q : Int) := by rw [IntKind.wrap_i64]; omega
       have r5 : IntKind.i64.wrap (8 * (q : Int)) = 8 * (q : Int) := by rw [IntKind.wrap_i64]; omega
       go_wp2_with fail
       refine wp_region_quiet_tail 9 (by kernel_rfl) (by kernel_rfl) ?_
       simp only [List.take_succ_cons, List.take_zero, List.drop_succ_cons, List.drop_zero]
       repeat (go_big_quiet_step (fail))
       refine wpQuiet_nil ?_
       go_wp2_with fail
       have hdr : Below wr.heap.size wr wr.drew := Below.drew (Below.refl _ _)
       refine (writebyte_any w1.heap.size w1.heap.size (l2 ++ (eightL H).take q) (H / 2 ^ (56 - 8 * q)).toUInt8 _ wr.drew (byte_val H (56 - 8 * q)) (HBLz.out.keep hdr) (by
        rw [List.length_append, List.length_take, eight_len]
        omega) hsz).mono ?_
       rintro e11 w11 ⟨rfl, hbl11, hwr11⟩
       have HL11 := Lib.hid hbl11
       have HW11 := Lib.hid ((HWRz.out.trans Wr.drew).trans hwr11)
       clear hbl11 hwr11 hdr
       go_wp2_with fail
       go_roundw
       case rel => exact ⟨q + 1, by go_num, by omega, by
        have h9 := HL11.out
        rw [List.take_add_one, eight_get H q hlt]
        simpa [List.append_assoc] using h9, HW11.out⟩
       case measure => simp [intOf]; omega
      ·obtain rfl : q = 8 := by omega
       have hbl := HBLz.out
       rw [List.take_of_length_le (by rw [eight_len]; omega)] at hbl
       have HBLy := Lib.hid hbl
       clear hbl
       go_wp2_with fail
       refine (string_any w1.heap.size w1.heap.size (l2 ++ eightL H) wr HBLy.out (by
        intro h9
        exact HL0.out (List.append_eq_nil_iff.1 h9).1)).mono ?_
       rintro e12 w12 ⟨rfl, hbl12, hwr12⟩
       have HD12 := Lib.hid (HDz.out.trans hwr12.below)
       clear hbl12 hwr12
       go_wp2_with fail
       go_ret2
       refine ⟨?_, HWW.out _ HD12.out⟩
       have e2 : sumN l2 = H := by have := HH.out; simpa using this
       rw [HHD.out] at e2
       have e3 : l2 ++ eightL H = sealL (headL s.made s.inos) := by
        unfold sealL
        rw [e2, ← HHD.out]
       exact congrArg (fun z : List UInt8 => Ending.returned (.tuple #[.string ⟨z.toArray⟩, .int .i64 0])) e3
end Go.Proofs.Ytghlgnklnbcppaa
