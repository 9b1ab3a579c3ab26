/- Parts of the proof, side by side: FsPut, FsDrop, FsFull. -/
import Derived.Test.YthhceopnnappgaaGreatM27
import Derived.Test.YthhceopnnappgaaGreatM09
import Derived.Test.YthhceopnnappgaaGreatM06
import Derived.Handy
import Derived.Test.YthhceopnnappgaaGreatFsEnts
set_option linter.unusedVariables false
set_option linter.unusedSimpArgs false
namespace Go.Proofs.YthhceopnnappgaaGreat
open Go.RowKit
theorem infoEn : (Tryz.prog.info? 69).map (fun i => (i.zero, i.size, i.bytes)) = some (some (.agg #[.string ⟨#[]⟩, .int .i64 0]), 2, 24) := by kernel_rfl
def putR (es : List En) (name : ByteArray) (num : Int) (done : Bool) : List En := if done then es else putE es name num
theorem putE_len : ∀ (es : List En) (name : ByteArray) (num : Int), (putE es name num).length = es.length + 1
 | [], _, _ => rfl
 | e :: es, name, num => by
  unfold putE
  split
  ·simp
  ·rw [List.length_cons, putE_len es, List.length_cons]
theorem new_cells (w : World) (vs : List Value) (t : TypeId) : ∀ j u, vs[j]? = some u → (w.alloc (.cells vs.toArray t)).cell? ((⟨w.heap.size, 0, .none⟩ : Addr).add j) = some u := by
 intro j u hu
 have e : (⟨w.heap.size, 0, .none⟩ : Addr).add j = ⟨w.heap.size, j, .none⟩ := by unfold Addr.add; split <;> simp_all
 rw [e]
 exact (World.cell?_alloc_mark w _ _ (0, 0) _).trans (by simpa using hu)
set_option maxRecDepth 100000 in
set_option maxHeartbeats 8000000 in
theorem put_any (B p : Nat) (s : St) (dir : Int) (name : ByteArray) (num : Int) (w : World) (h : Own B w p s) (hB : B ≤ w.heap.size) (hd : 0 ≤ atV s.inos dir) (hs : name.size ≤ 140737488355328)
  (hz : Sized { s with inos := setEnts s.inos dir fun es => putE es name num }) :
  Calls Tryz.prog 99 #[.pointer (some ⟨p, 0, .none⟩), .int .i64 dir, .string name, .int .i64 num] w fun e w' => e = .returned (.tuple #[]) ∧ Own B w' p { s with inos := setEnts s.inos dir fun es => putE es name num } ∧ Below B w w' ∧ Aside p w w' := by
 obtain ⟨i, x, hat, hx, hxn⟩ := atV_some hd
 obtain ⟨A, n, c, E, m, d, D, k, e, hBp, hp, c0, c1, c2, fz, hst, hI, hD, hM⟩ := h.val
 have hin : i < n := by have := (List.getElem?_eq_some_iff.1 hx).1; have := hI.1; omega
 have hbig := h.sized.big
 have hn2 : n ≤ 1099511627776 := by have := hI.1; omega
 have hB2 : bulkE s.inos ≤ 1099511627776 := by omega
 have htx := (h.sized.text x (List.mem_of_getElem? hx)).2
 obtain ⟨g, off, x', EA, m2, d2, rfl, hg, hx', _, _, _, _, e2, hmd, hE, _⟩ := hI.get i hin
 have ex : x = x' := by rw [hx] at hx'; exact Option.some.inj hx'
 subst ex
 have hle := bulkE_le hx
 have hel := hE.1
 have hm2 : m2 ≤ 1099511627776 := by omega
 obtain ⟨i0, hi, hz0, hz1, hz2⟩ := info_parts infoEn
 obtain ⟨RR, hRR⟩ : ∃ RR, putE x.ents name num = RR := ⟨_, rfl⟩
 have HRR := Lib.hid hRR
 have HO := Lib.hid h
 have HST := Lib.hid hst.weak
 have HE := Lib.hid hE
 have HX := Lib.hid hx
 have HC0 := Lib.hid c0
 have HAT := Lib.hid hat
 have HTX := Lib.hid htx
 have HZ := Lib.hid hz
 have HEL := Lib.hid hel
 obtain ⟨hgB, hfz⟩ := hI.free (by omega)
 obtain ⟨curI, hcurI⟩ := hI.tag (by omega)
 have HTAG := Lib.hid hcurI
 have fe := hfz (off + i * 4 + 2)
 have i0' : (0 : Int) ≤ (i : Int) := by omega
 have i9 : (i : Int) < (n : Int) := by omega
 have hX : ∀ (X : Ext w) (p : Addr), (w.cell? p).isSome = true → X.w.cell? p = w.cell? p := fun X p h => X.cell p h
 clear hcurI hRR hfz h hst hI hD hM hx hx' hat hxn hd hbig hle hel hE htx hz
 go_enter Tryz.func99, Tryz.ntmps99
 go_wp2_with fail
 refine wp_region_ext (by kernel_rfl) (by kernel_rfl) ?_
 repeat (go_big_quiet_step (first | (go_at_call 72; rename_i X; exact Calls.ext_of (by have := at_any _ s dir _ (HST.out.below X.bel); rw [HAT.out] at this; exact this))))
 refine wpQuiet_nil ?_
 rintro w7 ⟨X, rfl⟩
 generalize hZe : X.w = Z
 have hZ : Below w.heap.size w Z := by rw [← hZe]; exact X.bel
 have z0 := (hZ.cell (p := ⟨p, 0, .none⟩) hp).trans c0
 have z2 := (hZ.cell (p := ⟨g, _, .none⟩) hg).trans e2
 have fz2 := (hZ.frozen (p := ⟨g, off + i * 4 + 2, .none⟩) hg).trans fe
 have HZB := Lib.hid hZ
 have HEZ := Lib.hid (HE.out.below hZ)
 clear hZe X hX hZ c0 c1 c2 e2
 go_wp2_with fail
 go_loopw [9, 10, 11] (fun o b j wr => ∃ (q : Nat) (done : Bool) (V : Value) (es : List En), V = o ∧ b = .bool done ∧ j = .int .i64 q ∧ q ≤ m2 ∧ wr.ownsRow Z.heap.size 69 2 V es.length (es.flatMap enV) ∧ Below Z.heap.size Z wr ∧ es ++ putR (x.ents.drop q) name num done = RR ∧ es.length ≤ 2 * q + 1) (fun _ _ j _ => m2 - (intOf j).toNat)
 case atStart => exact ⟨0, false, _, [], rfl, rfl, rfl, by omega, World.ownsRow_nil _ _ _ _, Below.refl _ _, HRR.out, by simp⟩
 case round =>
  obtain ⟨q, done, V, es, hV, rfl, rfl, hq, hrow, hbel, hc, hlen⟩ := hrel
  subst hV
  have y2 := (hbel.cell (p := ⟨g, _, .none⟩) (Nat.lt_of_lt_of_le hg HZB.out.size)).trans z2
  have HEr := Lib.hid (HEZ.out.below hbel)
  have HB := Lib.hid hbel
  have HROW := Lib.hid hrow
  obtain ⟨L, hL⟩ : ∃ L, es.length = L := ⟨_, rfl⟩
  have hll : L ≤ 2199023255553 := by omega
  have hlq : L ≤ 2 * q + 1 := by omega
  have HL := Lib.hid hL
  have hrow2 := hrow
  rw [hL] at hrow2
  have HR2 := Lib.hid hrow2
  have hc2 := hc
  clear hrow hbel hrow2 hL
  by_cases hlt : q < m2
  ·obtain ⟨g2, off2, y, rfl, hg2, hy, hdr, hmem, e0, e1⟩ := HEr.out.get q hlt
   rw [hdr] at hc
   have hys := HTX.out y hmem
   have k0 : (0 : Int) ≤ (q : Int) := by omega
   have k1 : (q : Int) < (m2 : Int) := by omega
   have HY := Lib.hid hy
   clear hdr hmem hy hc2
   cases done
   ·have hstep : es ++ (if ltN name y.name = true then ⟨name, num⟩ :: y :: x.ents.drop (q + 1) else y :: putE (x.ents.drop (q + 1)) name num) = RR := hc
    obtain ⟨LT, hLT⟩ : ∃ LT, ltN name y.name = LT := ⟨_, rfl⟩
    rw [hLT] at hstep
    have HC := Lib.hid hstep
    have HLT := Lib.hid hLT
    clear hc hstep hLT
    go_wp2_with fail
    refine (ltn_any name y.name _ hs hys).mono ?_
    rintro e5 w5 ⟨rfl, nq, rfl⟩
    rw [HLT.out]
    cases LT
    ·have hr := HC.out
     rw [if_neg (by simp)] at hr
     have HC2 := Lib.hid hr
     clear hr
     go_wp2_with (at_builtin; refine wpList_append_own _ rfl _ _ 40 rfl Z.heap.size 69 i0 (.agg #[.string ⟨#[]⟩, .int .i64 0]) 2 24 Tryz.underlying40 hi hz0 hz1 hz2 rfl (by decide) _ L _ rfl ((row_below HR2.out (Cv.drewN_below (Below.refl _ _) nq)).alloc _) ⟨(wr.drewN nq).heap.size, 0, .none⟩ 1 1 [.string y.name, .int .i64 y.num] rfl rfl (new_cells (wr.drewN nq) [.string y.name, .int .i64 y.num] _) ?ca2 ?ca3 ?ca4 ?ca5 ?_)
     case ca2 => first | (intro u hu; simp at hu; rcases hu with rfl | rfl <;> rfl) | (simp; done) | exact ⟨rfl, rfl⟩
     case ca3 => unfold maxLen; omega
     case ca4 => omega
     case ca5 => have := HB.out.size; first | omega | (simp; omega)
     intro v' w' hown' hgrow _
     have hbel' : Below Z.heap.size Z w' := ((Cv.drewN_below HB.out nq).alloc (by have := HB.out.size; simpa using this) _).grown hgrow (by have := HB.out.size; simp; omega) (fun k hk => (HR2.out.lt k hk).1)
     have HO' := Lib.hid hown'
     have HB' := Lib.hid hbel'
     clear hown' hgrow hbel'
     go_wp2_with fail
     go_roundw
     case rel => exact ⟨q + 1, false, _, es ++ [y], rfl, rfl, by go_num, by omega, by rw [List.length_append, HL.out, List.flatMap_append]; exact HO'.out, HB'.out, by rw [List.append_assoc]; exact HC2.out, by rw [List.length_append, HL.out]; simp; omega⟩
     case measure => simp [intOf]; omega
    ·have hr := HC.out
     rw [if_pos rfl] at hr
     have HC2 := Lib.hid hr
     clear hr
     go_wp2_with (at_builtin; refine wpList_append_own _ rfl _ _ 40 rfl Z.heap.size 69 i0 (.agg #[.string ⟨#[]⟩, .int .i64 0]) 2 24 Tryz.underlying40 hi hz0 hz1 hz2 rfl (by decide) _ L _ rfl ((row_below HR2.out (Cv.drewN_below (Below.refl _ _) nq)).alloc _) ⟨(wr.drewN nq).heap.size, 0, .none⟩ 1 1 [.string name, .int .i64 num] rfl rfl (new_cells (wr.drewN nq) [.string name, .int .i64 num] _) ?ca2 ?ca3 ?ca4 ?ca5 ?_)
     case ca2 => first | (intro u hu; simp at hu; rcases hu with rfl | rfl <;> rfl) | (simp; done) | exact ⟨rfl, rfl⟩
     case ca3 => unfold maxLen; omega
     case ca4 => omega
     case ca5 => have := HB.out.size; first | omega | (simp; omega)
     intro v' w' hown' hgrow _
     have hbel' : Below Z.heap.size Z w' := ((Cv.drewN_below HB.out nq).alloc (by have := HB.out.size; simpa using this) _).grown hgrow (by have := HB.out.size; simp; omega) (fun k hk => (HR2.out.lt k hk).1)
     have HO' := Lib.hid hown'
     have HB' := Lib.hid hbel'
     have s2 := (hbel'.cell (p := ⟨g, _, .none⟩) (Nat.lt_of_lt_of_le hg HZB.out.size)).trans z2
     have HEq := (HEZ.out.below hbel')
     obtain ⟨g9, off9, y9, hA9, hg9, hy9, _, _, s0, s1⟩ := HEq.get q hlt
     injection hA9 with hA9
     injection hA9 with hA1 hA2
     subst hA1 hA2
     have ey : y9 = y := by
      obtain ⟨_, _, _, _, _, hy8, _⟩ := HEr.out.get q hlt
      have h9 : x.ents[q]? = some y := HY.out
      rw [hy9] at h9
      exact Option.some.inj h9
     subst ey
     clear hown' hgrow hbel' HEq hy9
     go_wp2_with (at_builtin; refine wpList_append_own _ rfl _ _ 40 rfl Z.heap.size 69 i0 (.agg #[.string ⟨#[]⟩, .int .i64 0]) 2 24 Tryz.underlying40 hi hz0 hz1 hz2 rfl (by decide) _ (L + 1) _ rfl (HO'.out.alloc _) ⟨w'.heap.size, 0, .none⟩ 1 1 [.string y9.name, .int .i64 y9.num] rfl rfl (new_cells w' [.string y9.name, .int .i64 y9.num] _) ?ca2 ?ca3 ?ca4 ?ca5 ?_)
     case ca2 => first | (intro u hu; simp at hu; rcases hu with rfl | rfl <;> rfl) | (simp; done) | exact ⟨rfl, rfl⟩
     case ca3 => unfold maxLen; omega
     case ca4 => omega
     case ca5 => have := HB'.out.size; first | omega | (simp; omega)
     intro v'' w'' hown'' hgrow2 _
     have hbel'' : Below Z.heap.size Z w'' := (HB'.out.alloc (by have := HB'.out.size; simpa using this) _).grown hgrow2 (by have := HB'.out.size; simp; omega) (fun k hk => (HO'.out.lt k hk).1)
     have HO2 := Lib.hid hown''
     have HB2' := Lib.hid hbel''
     clear hown'' hgrow2 hbel''
     go_wp2_with fail
     go_roundw
     case rel => exact ⟨q + 1, true, _, es ++ [⟨name, num⟩] ++ [y9], rfl, rfl, by go_num, by omega, by
      rw [List.length_append, List.length_append, HL.out, List.flatMap_append, List.flatMap_append]
      rw [List.append_assoc]
      exact HO2.out, HB2'.out, by rw [List.append_assoc, List.append_assoc]; exact HC2.out, by rw [List.length_append, List.length_append, HL.out]; simp; omega⟩
     case measure => simp [intOf]; omega
   ·have hstep : es ++ (y :: x.ents.drop (q + 1)) = RR := hc
    have HC2 := Lib.hid hstep
    clear hc hstep
    go_wp2_with (at_builtin; refine wpList_append_own _ rfl _ _ 40 rfl Z.heap.size 69 i0 (.agg #[.string ⟨#[]⟩, .int .i64 0]) 2 24 Tryz.underlying40 hi hz0 hz1 hz2 rfl (by decide) _ L _ rfl (HR2.out.alloc _) ⟨wr.heap.size, 0, .none⟩ 1 1 [.string y.name, .int .i64 y.num] rfl rfl (new_cells wr [.string y.name, .int .i64 y.num] _) ?ca2 ?ca3 ?ca4 ?ca5 ?_)
    case ca2 => first | (intro u hu; simp at hu; rcases hu with rfl | rfl <;> rfl) | (simp; done) | exact ⟨rfl, rfl⟩
    case ca3 => unfold maxLen; omega
    case ca4 => omega
    case ca5 => have := HB.out.size; first | omega | (simp; omega)
    intro v' w' hown' hgrow _
    have hbel' : Below Z.heap.size Z w' := (HB.out.alloc (by have := HB.out.size; simpa using this) _).grown hgrow (by have := HB.out.size; simp; omega) (fun k hk => (HR2.out.lt k hk).1)
    have HO' := Lib.hid hown'
    have HB' := Lib.hid hbel'
    clear hown' hgrow hbel'
    go_wp2_with fail
    go_roundw
    case rel => exact ⟨q + 1, true, _, es ++ [y], rfl, rfl, by go_num, by omega, by rw [List.length_append, HL.out, List.flatMap_append]; exact HO'.out, HB'.out, by rw [List.append_assoc]; exact HC2.out, by rw [List.length_append, HL.out]; simp; omega⟩
    case measure => simp [intOf]; omega
  ·have hnil : x.ents.drop q = [] := List.drop_eq_nil_of_le (by have := HEL.out; omega)
   rw [hnil] at hc2
   have fz9 := (HB.out.frozen (p := ⟨g, off + i * 4 + 2, .none⟩) (Nat.lt_of_lt_of_le hg HZB.out.size)).trans fz2
   cases done
   ·have HC2 := Lib.hid (show es ++ [⟨name, num⟩] = RR from hc2)
    clear hc hc2 hnil
    go_wp2_with (at_builtin; refine wpList_append_own _ rfl _ _ 40 rfl Z.heap.size 69 i0 (.agg #[.string ⟨#[]⟩, .int .i64 0]) 2 24 Tryz.underlying40 hi hz0 hz1 hz2 rfl (by decide) _ L _ rfl (HR2.out.alloc _) ⟨wr.heap.size, 0, .none⟩ 1 1 [.string name, .int .i64 num] rfl rfl (new_cells wr [.string name, .int .i64 num] _) ?ca2 ?ca3 ?ca4 ?ca5 ?_)
    case ca2 => first | (intro u hu; simp at hu; rcases hu with rfl | rfl <;> rfl) | (simp; done) | exact ⟨rfl, rfl⟩
    case ca3 => unfold maxLen; omega
    case ca4 => omega
    case ca5 => have := HB.out.size; first | omega | (simp; omega)
    intro v' w' hown' hgrow _
    have hbel' : Below Z.heap.size Z w' := (HB.out.alloc (by have := HB.out.size; simpa using this) _).grown hgrow (by have := HB.out.size; simp; omega) (fun k hk => (HR2.out.lt k hk).1)
    have f1 := (hbel'.frozen (p := ⟨g, off + i * 4 + 2, .none⟩) (Nat.lt_of_lt_of_le hg HZB.out.size)).trans fz2
    have s2 := (hbel'.cell (p := ⟨g, _, .none⟩) (Nat.lt_of_lt_of_le hg HZB.out.size)).trans z2
    have HB' := Lib.hid hbel'
    have hents := EntsAt.of_row (B := Z.heap.size) (n := L + 1) (es := es ++ [⟨name, num⟩]) (w := w') (v := v') (by rw [List.flatMap_append]; exact hown')
    obtain ⟨A9, c9, rfl, hc9, hn9, hE9⟩ := hents
    have hk9 : SlOk A9 _ c9 := ⟨hc9, fun e => (hn9 e).2⟩
    have HE9 := Lib.hid hE9
    have hbw := Cv.next HZB.out HB'.out
    have hown := (HO.out.below hbw).setIno i 2 x { x with ents := RR } (.slice A9 (L + 1) c9) HX.out (.inl rfl) rfl rfl (fun _ => ⟨rfl, A9, L + 1, c9, rfl, hk9, by rw [← HC2.out]; exact HE9.out.mono (Nat.le_trans hB HZB.out.size)⟩) (fun h => by cases h) (by have := HZ.out; rw [setEnts, HAT.out, Int.toNat_natCast, modify_set _ _ _ _ HX.out, HRR.out] at this; exact this) g off n c ((hbw.cell (p := ⟨p, 0, .none⟩) hp).trans HC0.out)
    have HOWN := Lib.hid hown
    have HBW := Lib.hid hbw
    clear hown' hgrow hbel' hE9 hbw hown
    go_wp2_with fail
    go_returns
    refine ⟨rfl, ?_, (HBW.out.mono hB).setCell (by exact hgB) _, (Aside.below HBW.out).trans (Aside.set ((HBW.out.block g hg).trans HTAG.out) (.inl rfl))⟩
    rw [setEnts, HAT.out, Int.toNat_natCast, modify_set _ _ _ _ HX.out, HRR.out]
    exact HOWN.out
   ·have HC2 := Lib.hid (show es ++ [] = RR from hc2)
    have y3 := y2
    have hents := EntsAt.of_row HR2.out
    obtain ⟨A9, c9, rfl, hc9, hn9, hE9⟩ := hents
    have hk9 : SlOk A9 _ c9 := ⟨hc9, fun e => (hn9 e).2⟩
    have HE9 := Lib.hid hE9
    have hbw := Cv.next HZB.out HB.out
    have hown := (HO.out.below hbw).setIno i 2 x { x with ents := RR } (.slice A9 L c9) HX.out (.inl rfl) rfl rfl (fun _ => ⟨rfl, A9, L, c9, rfl, hk9, by rw [← HC2.out, List.append_nil]; exact HE9.out.mono (Nat.le_trans hB HZB.out.size)⟩) (fun h => by cases h) (by have := HZ.out; rw [setEnts, HAT.out, Int.toNat_natCast, modify_set _ _ _ _ HX.out, HRR.out] at this; exact this) g off n c ((hbw.cell (p := ⟨p, 0, .none⟩) hp).trans HC0.out)
    have HOWN := Lib.hid hown
    have HBW := Lib.hid hbw
    clear hc hc2 hnil hE9 hbw hown
    go_wp2_with fail
    go_returns
    refine ⟨rfl, ?_, (HBW.out.mono hB).setCell (by exact hgB) _, (Aside.below HBW.out).trans (Aside.set ((HBW.out.block g hg).trans HTAG.out) (.inl rfl))⟩
    rw [setEnts, HAT.out, Int.toNat_natCast, modify_set _ _ _ _ HX.out, HRR.out]
    exact HOWN.out
theorem dropE_len : ∀ (es : List En) (name : ByteArray), (dropE es name).length ≤ es.length
 | [], _ => Nat.le_refl _
 | e :: es, name => by
  unfold dropE
  have := dropE_len es name
  split <;> simp <;> omega
def resV (r : Re) : Value := .agg #[.int .i64 r.code, .int .i64 r.fd, .int .i64 r.num, .bool r.dir, .string r.data, .slice none 0 0]
theorem fullE_len : ∀ (es : List En) (name but : ByteArray), fullE es name but ≤ es.length
 | [], _, _ => Nat.le_refl _
 | e :: es, name, but => by
  unfold fullE
  have := fullE_len es name but
  rw [List.length_cons]
  split <;> omega
set_option maxRecDepth 100000 in
set_option maxHeartbeats 8000000 in
theorem full_any (v : Value) (s : St) (dir : Int) (name but : ByteArray) (w : World) (h : StAt none w v s) (hd : 0 ≤ atV s.inos dir) (hs : name.size ≤ 140737488355328) :
  Calls Tryz.prog 98 #[v, .int .i64 dir, .string name, .string but] w fun e w' => e = .returned (.bool (fullV s.inos dir name but)) ∧ Below w.heap.size w w' := by
 obtain ⟨i, x, hat, hx, hxn⟩ := atV_some hd
 obtain ⟨⟨A, n, c, B, m, d, D, k, e, rfl, hI, hD, hM, h5, h6, h7⟩, hz⟩ := h
 obtain ⟨R, hR⟩ : ∃ R, fullV s.inos dir name but = R := ⟨_, rfl⟩
 rw [hR]
 have hfv : decide (4 ≤ fullE x.ents name but) = R := by rw [← hR, fullV, hat, inoAt_nat, hx]
 have hbig := hz.big
 have hn := hI.1
 have hn2 : n ≤ 1099511627776 := by omega
 have hle := bulkE_le hx
 have htx := (hz.text x (List.mem_of_getElem? hx)).2
 have hin : i < n := by have := (List.getElem?_eq_some_iff.1 hx).1; omega
 obtain ⟨W, hW, b0, b1, b2, hal, hlt0⟩ := box_st w A n c B m d D k e
 obtain ⟨g, off, x', E, m2, d2, rfl, hg, hx', _, _, c0, c1, c2, hmd, hE, c3⟩ := (hI.below hal).get i hin
 have ex : x = x' := by rw [hx] at hx'; exact Option.some.inj hx'
 subst ex
 have hel := hE.1
 have hm2 : m2 ≤ 1099511627776 := by omega
 have hfl := fullE_len x.ents name but
 have HS := Lib.hid ((StAt.of_parts hI hD hM h5 h6 h7 hz).below hal)
 have HE := Lib.hid hE
 have HEL := Lib.hid hel
 have HAL := Lib.hid hal
 have HAT := Lib.hid hat
 have HFV := Lib.hid hfv
 have HTX := Lib.hid htx
 have i0 : (0 : Int) ≤ (i : Int) := by omega
 have i9 : (i : Int) < (n : Int) := by omega
 obtain ⟨FF, hFF⟩ : ∃ FF, fullE x.ents name but = FF := ⟨_, rfl⟩
 have hFF2 : FF ≤ 1099511627776 := by omega
 have HFF := Lib.hid hFF
 clear hI hD hM hz hbig hn hle htx hx hx' hat hxn hd hR hfv hal hE hel hfl hFF
 go_enter Tryz.func98, Tryz.ntmps98
 go_upto_region 2 with fail
 clear hW
 go_cut [10] (fun p wx => ∃ b, p = .pointer (some ⟨b, 0, .none⟩) ∧ wx.cell? ⟨b, 2, .none⟩ = some (.slice E m2 d2) ∧ Below W.heap.size W wx ∧ b < wx.heap.size)
 case first =>
  have nA : W.heap.size ≠ w.heap.size := by omega
  have nB : W.heap.size ≠ g := by omega
  go_region_held3 (fun w' => w'.cell? ⟨w.heap.size, 0, none⟩ = some (.slice (some ⟨g, off, none⟩) n c) ∧ w'.cell? ⟨w.heap.size, 1, none⟩ = some (.slice B m d) ∧ w'.cell? ⟨w.heap.size, 2, none⟩ = some (.slice D k e) ∧ w'.cell? ⟨g, off + i * 4, none⟩ = some (.int .i64 x.num) ∧ w'.cell? ⟨g, off + i * 4 + 1, none⟩ = some (.bool x.dir) ∧ w'.cell? ⟨g, off + i * 4 + 2, none⟩ = some (.slice E m2 d2) ∧ w'.cell? ⟨g, off + i * 4 + 3, none⟩ = some (.string x.data))
   (first | go_keep | (refine ⟨?_, ?_, ?_, ?_, ?_, ?_, ?_⟩ <;> first | go_keep | (rw [hb5.cell (by simp; omega)]; simp [*])) | (refine ⟨?_, ?_, ?_, ?_, ?_, ?_, ?_⟩ <;> (rw [World.cell?_alloc_lt _ _ _ (by have := hb5.size; simp at this ⊢; omega), hb5.cell (by simp; omega)]; simp [*])))
   ((go_at_call 72; refine (at_any _ s dir _ (HS.out.below (by first | exact Cv.drewN_below (Below.refl _ _) 1 | exact (Cv.drewN_below (Below.refl _ _) 1).alloc (by simp) _))).mono ?_; rintro e5 w5 ⟨rfl, hb5⟩; rw [HAT.out]; have nC : w5.heap.size ≠ w.heap.size := (by have := hb5.size; simp at this; omega); have nD : w5.heap.size ≠ g := (by have := hb5.size; simp at this; omega); try (have m0 : w5.cell? ⟨W.heap.size, 0, none⟩ = some (.int .i64 0) := (hb5.cell (by simp)).trans (by simp); have m1 : w5.cell? ⟨W.heap.size, 1, none⟩ = some (.bool false) := (hb5.cell (by simp)).trans (by simp); have m2' : w5.cell? ⟨W.heap.size, 2, none⟩ = some (.slice none 0 0) := (hb5.cell (by simp)).trans (by simp); have m3 : w5.cell? ⟨W.heap.size, 3, none⟩ = some (.string ⟨#[]⟩) := (hb5.cell (by simp)).trans (by simp); have mf : ∀ j, w5.frozen? ⟨W.heap.size, j, none⟩ = false := fun j => (hb5.frozen (by simp)).trans (frozen_of_row _ _ j _ _ (heap_alloc_new _ _)))))
  all_goals (
   go_wp2_with fail
   go_meet)
  ·have hb6 : Below W.heap.size W w5 := (Cv.drewN_below (Below.refl _ _) 1).trans (hb5.mono (Nat.le_refl _))
   exact ⟨w5.heap.size, rfl, (World.cell?_alloc_mark w5 _ _ (0, 0) _).trans rfl, hb6.alloc hb6.size _, by simp⟩
  ·have hb6 : Below W.heap.size W w5 := (Cv.drewN_below ((Below.refl _ _).alloc (Nat.le_refl _) _) 1).trans (hb5.mono (by simp))
   have hl6 : W.heap.size < w5.heap.size := Nat.lt_of_lt_of_le (by simp) hb5.size
   refine ⟨W.heap.size, rfl, (World.cell?_setCell_other _ _ _ _ (by simp)).trans (World.cell?_setCell_same' _ _ _ ?_), (((hb6.setCell (Nat.le_refl _) _).setCell (Nat.le_refl _) _).setCell (Nat.le_refl _) _).setCell (Nat.le_refl _) _, by simpa [World.setCell] using hl6⟩
   rw [World.cell?_setCell_other _ _ _ _ (by simp), World.cell?_setCell_other _ _ _ _ (by simp), m2']
   rfl
 case rest =>
  obtain ⟨b, rfl, z2, hbx, hbl⟩ := hcut
  have HBX := Lib.hid hbx
  have HEx := Lib.hid (HE.out.below hbx)
  clear hbx b0 b1 b2 c0 c1 c2 c3
  go_wp2_with fail
  go_loopw [9, 11] (fun many j wr => ∃ q a : Nat, j = .int .i64 q ∧ many = .int .i64 a ∧ q ≤ m2 ∧ Below wc.heap.size wc wr ∧ a + fullE (x.ents.drop q) name but = FF) (fun _ j _ => m2 - (intOf j).toNat)
  case atStart => exact ⟨0, 0, rfl, rfl, by omega, Below.refl _ _, by rw [List.drop_zero, Nat.zero_add]; exact HFF.out⟩
  case round =>
   obtain ⟨q, a, rfl, rfl, hq, hbel, hc⟩ := hrel
   have y2 := (hbel.cell (p := ⟨b, 2, .none⟩) hbl).trans z2
   have HB := Lib.hid hbel
   have HEr := Lib.hid (HEx.out.below hbel)
   clear hbel
   have ha : a ≤ 1099511627776 := by omega
   by_cases hlt : q < m2
   ·obtain ⟨g2, off2, y, rfl, hg2, hy, hdr, hmem, e0, e1⟩ := HEr.out.get q hlt
    have hys := HTX.out y hmem
    rw [hdr, fullE] at hc
    have k0 : (0 : Int) ≤ (q : Int) := by omega
    have k1 : (q : Int) < (m2 : Int) := by omega
    have HC := Lib.hid hc
    clear hdr hmem hy hc
    by_cases hb : y.name = but
    ·have qn : (y.name.toList == but.toList) = true := ba_list_eq hb
     have HB2 := Lib.hid hb
     clear hb
     go_wp2_with fail
     go_roundw
     case rel => exact ⟨q + 1, a, by go_num, rfl, by omega, HB.out, by have := HC.out; rw [if_neg (fun h => h.1 HB2.out)] at this; omega⟩
     case measure => simp [intOf]; omega
    ·have qn : (y.name.toList == but.toList) = false := ba_list_ne hb
     have HB2 := Lib.hid hb
     clear hb
     have hx1 : hashL y.name.data.toList % 8 < 8 := Nat.mod_lt _ (by omega)
     obtain ⟨B1, hB1⟩ : ∃ B1, hashL y.name.data.toList % 8 = B1 := ⟨_, rfl⟩
     obtain ⟨B2, hB2'⟩ : ∃ B2, hashL name.data.toList % 8 = B2 := ⟨_, rfl⟩
     have HB1 := Lib.hid hB1
     have HB3 := Lib.hid hB2'
     clear hB1 hB2' hx1
     go_wp2_with fail
     refine (refbucket_any y.name _ hys).mono ?_
     rintro e5 w5 ⟨rfl, rfl⟩
     rw [HB1.out]
     go_wp2_with fail
     refine (refbucket_any name _ hs).mono ?_
     rintro e6 w6 ⟨rfl, rfl⟩
     rw [HB3.out]
     by_cases hbb : B1 = B2
     ·have qb : ((B1 : Int) == (B2 : Int)) = true := by rw [hbb]; exact beq_self_eq_true _
      have HBB := Lib.hid hbb
      clear hbb
      go_wp2_with fail
      go_roundw
      case rel => exact ⟨q + 1, a + 1, by go_num, by go_num, by omega, HB.out, by have := HC.out; rw [if_pos ⟨HB2.out, by show hashL _ % 8 = hashL _ % 8; rw [HB1.out, HB3.out]; exact HBB.out⟩] at this; omega⟩
      case measure => simp [intOf]; omega
     ·have qb : ((B1 : Int) == (B2 : Int)) = false := by rw [beq_eq_false_iff_ne]; omega
      have HBB := Lib.hid hbb
      clear hbb
      go_wp2_with fail
      go_roundw
      case rel => exact ⟨q + 1, a, by go_num, rfl, by omega, HB.out, by have := HC.out; rw [if_neg (fun h => HBB.out (by rw [← HB1.out, ← HB3.out]; exact h.2))] at this; omega⟩
      case measure => simp [intOf]; omega
   ·have hnil : x.ents.drop q = [] := List.drop_eq_nil_of_le (by have := HEL.out; omega)
    rw [hnil, fullE] at hc
    have hr := HFV.out
    rw [HFF.out] at hr
    have HR := Lib.hid hr
    clear hr hnil
    go_wp2_with fail
    go_ret
    refine ⟨Cv.ret_bool ?_, Cv.next HAL.out (Cv.next HBX.out HB.out)⟩
    rw [← HR.out, Nat.add_zero] at *
    subst hc
    first | rfl | (rw [Bool.eq_iff_iff, decide_eq_true_eq, decide_eq_true_eq]; omega)
end Go.Proofs.YthhceopnnappgaaGreat
