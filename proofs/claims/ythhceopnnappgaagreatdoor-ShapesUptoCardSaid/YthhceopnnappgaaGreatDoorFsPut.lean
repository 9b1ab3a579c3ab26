/- put of the document: an entry more in a directory: by its contract. -/
import Derived.Test.YthhceopnnappgaaGreatDoorM08
import Derived.Test.YthhceopnnappgaaGreatDoorStOwn
import Derived.Handy
set_option linter.unusedVariables false
set_option linter.unusedSimpArgs false
namespace Go.Proofs.YthhceopnnappgaaGreatDoor
open Go.RowKit
theorem infoEn : (Tryz.prog.info? 84).map (fun i => (i.zero, i.size, i.bytes)) = some (some (.agg #[.string ⟨#[]⟩, .int .i64 0]), 2, 24) := by kernel_rfl
def putR (es : List En) (name : ByteArray) (num : Int) (done : Bool) : List En := if done then es else putE es name num
theorem putE_len : ∀ (es : List En) (name : ByteArray) (num : Int), (putE es name num).length = es.length + 1
 | [], _, _ => rfl
 | e :: es, name, num => by
  unfold putE
  split
  ·simp
  ·rw [List.length_cons, putE_len es, List.length_cons]
theorem new_cells (w : World) (vs : List Value) (t : TypeId) : ∀ j u, vs[j]? = some u → (w.alloc (.cells vs.toArray t)).cell? ((⟨w.heap.size, 0, .none⟩ : Addr).add j) = some u := by
 intro j u hu
 have e : (⟨w.heap.size, 0, .none⟩ : Addr).add j = ⟨w.heap.size, j, .none⟩ := by unfold Addr.add; split <;> simp_all
 rw [e]
 exact (World.cell?_alloc_mark w _ _ (0, 0) _).trans (by simpa using hu)
set_option maxRecDepth 100000 in
set_option maxHeartbeats 8000000 in
theorem put_any (B p : Nat) (s : St) (dir : Int) (name : ByteArray) (num : Int) (w : World) (h : Own B w p s) (hB : B ≤ w.heap.size) (hd : 0 ≤ atV s.inos dir) (hs : name.size ≤ 140737488355328)
  (hz : Sized { s with inos := setEnts s.inos dir fun es => putE es name num }) :
  Calls Tryz.prog 88 #[.pointer (some ⟨p, 0, .none⟩), .int .i64 dir, .string name, .int .i64 num] w fun e w' => e = .returned (.tuple #[]) ∧ Own B w' p { s with inos := setEnts s.inos dir fun es => putE es name num } ∧ Below B w w' ∧ Aside p w w' := by
 obtain ⟨i, x, hat, hx, hxn⟩ := atV_some hd
 obtain ⟨A, n, c, E, m, d, D, k, e, hBp, hp, c0, c1, c2, fz, hst, hI, hD, hM⟩ := h.val
 have hin : i < n := by have := (List.getElem?_eq_some_iff.1 hx).1; have := hI.1; omega
 have hbig := h.sized.big
 have hn2 : n ≤ 1099511627776 := by have := hI.1; omega
 have hB2 : bulkE s.inos ≤ 1099511627776 := by omega
 have htx := (h.sized.text x (List.mem_of_getElem? hx)).2
 obtain ⟨g, off, x', EA, m2, d2, rfl, hg, hx', _, _, _, _, e2, hmd, hE, _⟩ := hI.get i hin
 have ex : x = x' := by rw [hx] at hx'; exact Option.some.inj hx'
 subst ex
 have hle := bulkE_le hx
 have hel := hE.1
 have hm2 : m2 ≤ 1099511627776 := by omega
 obtain ⟨i0, hi, hz0, hz1, hz2⟩ := info_parts infoEn
 obtain ⟨RR, hRR⟩ : ∃ RR, putE x.ents name num = RR := ⟨_, rfl⟩
 have HRR := Lib.hid hRR
 have HO := Lib.hid h
 have HST := Lib.hid hst.weak
 have HE := Lib.hid hE
 have HX := Lib.hid hx
 have HC0 := Lib.hid c0
 have HAT := Lib.hid hat
 have HTX := Lib.hid htx
 have HZ := Lib.hid hz
 have HEL := Lib.hid hel
 obtain ⟨hgB, hfz⟩ := hI.free (by omega)
 obtain ⟨curI, hcurI⟩ := hI.tag (by omega)
 have HTAG := Lib.hid hcurI
 have fe := hfz (off + i * 4 + 2)
 have i0' : (0 : Int) ≤ (i : Int) := by omega
 have i9 : (i : Int) < (n : Int) := by omega
 have hX := @Ext.cell w
 clear hcurI hRR hfz h hst hI hD hM hx hx' hat hxn hd hbig hle hel hE htx hz
 go_enter Tryz.func88, Tryz.ntmps88
 go_wp2_with fail
 refine wre ?_
 repeat (go_big_quiet_step (first | (go_at_call 57; rename_i X; exact Calls.ext_of (by have := at_any _ s dir _ (HST.out.below X.bel); rw [HAT.out] at this; exact this))))
 refine wpQuiet_nil ?_
 rintro w7 ⟨X, rfl⟩
 generalize hZe : X.w = Z
 have hZ := hZe ▸ X.bel
 have z0 := (hZ.cell (p := ⟨p, 0, .none⟩) hp).trans c0
 have z2 := (hZ.cell (p := ⟨g, _, .none⟩) hg).trans e2
 have fz2 := (hZ.frozen (p := ⟨g, off + i * 4 + 2, .none⟩) hg).trans fe
 have HZB := Lib.hid hZ
 have HEZ := Lib.hid (HE.out.below hZ)
 clear hZe X hX hZ c0 c1 c2 e2
 go_wp2_with fail
 go_loopw [9, 10, 11] (fun o b j wr => ∃ (q : Nat) (done : Bool) (V : Value) (es : List En), V = o ∧ b = .bool done ∧ j = .int .i64 q ∧ q ≤ m2 ∧ wr.ownsRow Z.heap.size 84 2 V es.length (es.flatMap enV) ∧ Below Z.heap.size Z wr ∧ es ++ putR (x.ents.drop q) name num done = RR ∧ es.length ≤ 2 * q + 1) (fun _ _ j _ => m2 - (intOf j).toNat)
 case atStart => exact ⟨0, false, _, [], rfl, rfl, rfl, by omega, World.ownsRow_nil _ _ _ _, Below.refl _ _, HRR.out, by simp⟩
 case round =>
  obtain ⟨q, done, V, es, hV, rfl, rfl, hq, hrow, hbel, hc, hlen⟩ := hrel
  subst hV
  have y2 := (hbel.cell (p := ⟨g, _, .none⟩) (Nat.lt_of_lt_of_le hg HZB.out.size)).trans z2
  have HEr := Lib.hid (HEZ.out.below hbel)
  have HB := Lib.hid hbel
  have HROW := Lib.hid hrow
  obtain ⟨L, hL⟩ : ∃ L, es.length = L := ⟨_, rfl⟩
  have hll : L ≤ 2199023255553 := by omega
  have hlq : L ≤ 2 * q + 1 := by omega
  have HL := Lib.hid hL
  have hrow2 := hrow
  rw [hL] at hrow2
  have HR2 := Lib.hid hrow2
  have hc2 := hc
  clear hrow hbel hrow2 hL
  by_cases hlt : q < m2
  ·obtain ⟨g2, off2, y, rfl, hg2, hy, hdr, hmem, e0, e1⟩ := HEr.out.get q hlt
   rw [hdr] at hc
   have hys := HTX.out y hmem
   have k0 : (0 : Int) ≤ (q : Int) := by omega
   have k1 : (q : Int) < (m2 : Int) := by omega
   have HY := Lib.hid hy
   clear hdr hmem hy hc2
   cases done
   ·have hstep : es ++ (if ltN name y.name = true then ⟨name, num⟩ :: y :: x.ents.drop (q + 1) else y :: putE (x.ents.drop (q + 1)) name num) = RR := hc
    obtain ⟨LT, hLT⟩ : ∃ LT, ltN name y.name = LT := ⟨_, rfl⟩
    rw [hLT] at hstep
    have HC := Lib.hid hstep
    have HLT := Lib.hid hLT
    clear hc hstep hLT
    go_wp2_with fail
    refine (ltn_any name y.name _ hs hys).mono ?_
    rintro e5 w5 ⟨rfl, nq, rfl⟩
    rw [HLT.out]
    cases LT
    ·have hr := HC.out
     rw [if_neg (by simp)] at hr
     have HC2 := Lib.hid hr
     clear hr
     go_wp2_with (at_builtin; refine wpList_append_own _ rfl _ _ 50 rfl Z.heap.size 84 i0 (.agg #[.string ⟨#[]⟩, .int .i64 0]) 2 24 Tryz.underlying50 hi hz0 hz1 hz2 rfl (by decide) _ L _ rfl ((row_below HR2.out (Cv.drewN_below (Below.refl _ _) nq)).alloc _) ⟨(wr.drewN nq).heap.size, 0, .none⟩ 1 1 [.string y.name, .int .i64 y.num] rfl rfl (new_cells (wr.drewN nq) [.string y.name, .int .i64 y.num] _) ?ca2 ?ca3 ?ca4 ?ca5 ?_)
     case ca2 => first | (intro u hu; simp at hu; rcases hu with rfl | rfl <;> rfl) | (simp; done) | exact ⟨rfl, rfl⟩
     case ca3 => unfold maxLen; omega
     case ca4 => omega
     case ca5 => have := HB.out.size; first | omega | (simp; omega)
     intro v' w' hown' hgrow _
     have hbel' : Below Z.heap.size Z w' := ((Cv.drewN_below HB.out nq).alloc (by have := HB.out.size; simpa using this) _).grown hgrow (by have := HB.out.size; simp; omega) (fun k hk => (HR2.out.lt k hk).1)
     have HO' := Lib.hid hown'
     have HB' := Lib.hid hbel'
     clear hown' hgrow hbel'
     go_wp2_with fail
     go_roundw
     case rel => exact ⟨q + 1, false, _, es ++ [y], rfl, rfl, by go_num, by omega, by rw [List.length_append, HL.out, List.flatMap_append]; exact HO'.out, HB'.out, by rw [List.append_assoc]; exact HC2.out, by rw [List.length_append, HL.out]; simp; omega⟩
     case measure => simp [intOf]; omega
    ·have hr := HC.out
     rw [if_pos rfl] at hr
     have HC2 := Lib.hid hr
     clear hr
     go_wp2_with (at_builtin; refine wpList_append_own _ rfl _ _ 50 rfl Z.heap.size 84 i0 (.agg #[.string ⟨#[]⟩, .int .i64 0]) 2 24 Tryz.underlying50 hi hz0 hz1 hz2 rfl (by decide) _ L _ rfl ((row_below HR2.out (Cv.drewN_below (Below.refl _ _) nq)).alloc _) ⟨(wr.drewN nq).heap.size, 0, .none⟩ 1 1 [.string name, .int .i64 num] rfl rfl (new_cells (wr.drewN nq) [.string name, .int .i64 num] _) ?ca2 ?ca3 ?ca4 ?ca5 ?_)
     case ca2 => first | (intro u hu; simp at hu; rcases hu with rfl | rfl <;> rfl) | (simp; done) | exact ⟨rfl, rfl⟩
     case ca3 => unfold maxLen; omega
     case ca4 => omega
     case ca5 => have := HB.out.size; first | omega | (simp; omega)
     intro v' w' hown' hgrow _
     have hbel' : Below Z.heap.size Z w' := ((Cv.drewN_below HB.out nq).alloc (by have := HB.out.size; simpa using this) _).grown hgrow (by have := HB.out.size; simp; omega) (fun k hk => (HR2.out.lt k hk).1)
     have HO' := Lib.hid hown'
     have HB' := Lib.hid hbel'
     have s2 := (hbel'.cell (p := ⟨g, _, .none⟩) (Nat.lt_of_lt_of_le hg HZB.out.size)).trans z2
     have HEq := (HEZ.out.below hbel')
     obtain ⟨g9, off9, y9, hA9, hg9, hy9, _, _, s0, s1⟩ := HEq.get q hlt
     injection hA9 with hA9
     injection hA9 with hA1 hA2
     subst hA1 hA2
     have ey : y9 = y := by
      obtain ⟨_, _, _, _, _, hy8, _⟩ := HEr.out.get q hlt
      have h9 : x.ents[q]? = some y := HY.out
      rw [hy9] at h9
      exact Option.some.inj h9
     subst ey
     clear hown' hgrow hbel' HEq hy9
     go_wp2_with (at_builtin; refine wpList_append_own _ rfl _ _ 50 rfl Z.heap.size 84 i0 (.agg #[.string ⟨#[]⟩, .int .i64 0]) 2 24 Tryz.underlying50 hi hz0 hz1 hz2 rfl (by decide) _ (L + 1) _ rfl (HO'.out.alloc _) ⟨w'.heap.size, 0, .none⟩ 1 1 [.string y9.name, .int .i64 y9.num] rfl rfl (new_cells w' [.string y9.name, .int .i64 y9.num] _) ?ca2 ?ca3 ?ca4 ?ca5 ?_)
     case ca2 => first | (intro u hu; simp at hu; rcases hu with rfl | rfl <;> rfl) | (simp; done) | exact ⟨rfl, rfl⟩
     case ca3 => unfold maxLen; omega
     case ca4 => omega
     case ca5 => have := HB'.out.size; first | omega | (simp; omega)
     intro v'' w'' hown'' hgrow2 _
     have hbel'' : Below Z.heap.size Z w'' := (HB'.out.alloc (by have := HB'.out.size; simpa using this) _).grown hgrow2 (by have := HB'.out.size; simp; omega) (fun k hk => (HO'.out.lt k hk).1)
     have HO2 := Lib.hid hown''
     have HB2' := Lib.hid hbel''
     clear hown'' hgrow2 hbel''
     go_wp2_with fail
     go_roundw
     case rel => exact ⟨q + 1, true, _, es ++ [⟨name, num⟩] ++ [y9], rfl, rfl, by go_num, by omega, by
      rw [List.length_append, List.length_append, HL.out, List.flatMap_append, List.flatMap_append]
      rw [List.append_assoc]
      exact HO2.out, HB2'.out, by rw [List.append_assoc, List.append_assoc]; exact HC2.out, by rw [List.length_append, List.length_append, HL.out]; simp; omega⟩
     case measure => simp [intOf]; omega
   ·have hstep : es ++ (y :: x.ents.drop (q + 1)) = RR := hc
    have HC2 := Lib.hid hstep
    clear hc hstep
    go_wp2_with (at_builtin; refine wpList_append_own _ rfl _ _ 50 rfl Z.heap.size 84 i0 (.agg #[.string ⟨#[]⟩, .int .i64 0]) 2 24 Tryz.underlying50 hi hz0 hz1 hz2 rfl (by decide) _ L _ rfl (HR2.out.alloc _) ⟨wr.heap.size, 0, .none⟩ 1 1 [.string y.name, .int .i64 y.num] rfl rfl (new_cells wr [.string y.name, .int .i64 y.num] _) ?ca2 ?ca3 ?ca4 ?ca5 ?_)
    case ca2 => first | (intro u hu; simp at hu; rcases hu with rfl | rfl <;> rfl) | (simp; done) | exact ⟨rfl, rfl⟩
    case ca3 => unfold maxLen; omega
    case ca4 => omega
    case ca5 => have := HB.out.size; first | omega | (simp; omega)
    intro v' w' hown' hgrow _
    have hbel' : Below Z.heap.size Z w' := (HB.out.alloc (by have := HB.out.size; simpa using this) _).grown hgrow (by have := HB.out.size; simp; omega) (fun k hk => (HR2.out.lt k hk).1)
    have HO' := Lib.hid hown'
    have HB' := Lib.hid hbel'
    clear hown' hgrow hbel'
    go_wp2_with fail
    go_roundw
    case rel => exact ⟨q + 1, true, _, es ++ [y], rfl, rfl, by go_num, by omega, by rw [List.length_append, HL.out, List.flatMap_append]; exact HO'.out, HB'.out, by rw [List.append_assoc]; exact HC2.out, by rw [List.length_append, HL.out]; simp; omega⟩
    case measure => simp [intOf]; omega
  ·have hnil : x.ents.drop q = [] := List.drop_eq_nil_of_le (by have := HEL.out; omega)
   rw [hnil] at hc2
   have fz9 := (HB.out.frozen (p := ⟨g, off + i * 4 + 2, .none⟩) (Nat.lt_of_lt_of_le hg HZB.out.size)).trans fz2
   cases done
   ·have HC2 := Lib.hid (show es ++ [⟨name, num⟩] = RR from hc2)
    clear hc hc2 hnil
    go_wp2_with (at_builtin; refine wpList_append_own _ rfl _ _ 50 rfl Z.heap.size 84 i0 (.agg #[.string ⟨#[]⟩, .int .i64 0]) 2 24 Tryz.underlying50 hi hz0 hz1 hz2 rfl (by decide) _ L _ rfl (HR2.out.alloc _) ⟨wr.heap.size, 0, .none⟩ 1 1 [.string name, .int .i64 num] rfl rfl (new_cells wr [.string name, .int .i64 num] _) ?ca2 ?ca3 ?ca4 ?ca5 ?_)
    case ca2 => first | (intro u hu; simp at hu; rcases hu with rfl | rfl <;> rfl) | (simp; done) | exact ⟨rfl, rfl⟩
    case ca3 => unfold maxLen; omega
    case ca4 => omega
    case ca5 => have := HB.out.size; first | omega | (simp; omega)
    intro v' w' hown' hgrow _
    have hbel' : Below Z.heap.size Z w' := (HB.out.alloc (by have := HB.out.size; simpa using this) _).grown hgrow (by have := HB.out.size; simp; omega) (fun k hk => (HR2.out.lt k hk).1)
    have f1 := (hbel'.frozen (p := ⟨g, off + i * 4 + 2, .none⟩) (Nat.lt_of_lt_of_le hg HZB.out.size)).trans fz2
    have s2 := (hbel'.cell (p := ⟨g, _, .none⟩) (Nat.lt_of_lt_of_le hg HZB.out.size)).trans z2
    have HB' := Lib.hid hbel'
    have hents := EntsAt.of_row (B := Z.heap.size) (n := L + 1) (es := es ++ [⟨name, num⟩]) (w := w') (v := v') (by rw [List.flatMap_append]; exact hown')
    obtain ⟨A9, c9, rfl, hc9, hn9, hE9⟩ := hents
    have hk9 : SlOk A9 _ c9 := ⟨hc9, fun e => (hn9 e).2⟩
    have HE9 := Lib.hid hE9
    have hbw := Cv.next HZB.out HB'.out
    have hown := (HO.out.below hbw).setIno i 2 x { x with ents := RR } (.slice A9 (L + 1) c9) HX.out (.inl rfl) rfl rfl (fun _ => ⟨rfl, A9, L + 1, c9, rfl, hk9, by rw [← HC2.out]; exact HE9.out.mono (Nat.le_trans hB HZB.out.size)⟩) (fun h => by cases h) (by have := HZ.out; rw [setEnts, HAT.out, Int.toNat_natCast, modify_set _ _ _ _ HX.out, HRR.out] at this; exact this) g off n c ((hbw.cell (p := ⟨p, 0, .none⟩) hp).trans HC0.out)
    have HOWN := Lib.hid hown
    have HBW := Lib.hid hbw
    clear hown' hgrow hbel' hE9 hbw hown
    go_wp2_with fail
    go_returns
    refine ⟨rfl, ?_, (HBW.out.mono hB).setCell (by exact hgB) _, (Aside.below HBW.out).trans (Aside.set ((HBW.out.block g hg).trans HTAG.out) (.inl rfl))⟩
    rw [setEnts, HAT.out, Int.toNat_natCast, modify_set _ _ _ _ HX.out, HRR.out]
    exact HOWN.out
   ·have HC2 := Lib.hid (show es ++ [] = RR from hc2)
    have y3 := y2
    have hents := EntsAt.of_row HR2.out
    obtain ⟨A9, c9, rfl, hc9, hn9, hE9⟩ := hents
    have hk9 : SlOk A9 _ c9 := ⟨hc9, fun e => (hn9 e).2⟩
    have HE9 := Lib.hid hE9
    have hbw := Cv.next HZB.out HB.out
    have hown := (HO.out.below hbw).setIno i 2 x { x with ents := RR } (.slice A9 L c9) HX.out (.inl rfl) rfl rfl (fun _ => ⟨rfl, A9, L, c9, rfl, hk9, by rw [← HC2.out, List.append_nil]; exact HE9.out.mono (Nat.le_trans hB HZB.out.size)⟩) (fun h => by cases h) (by have := HZ.out; rw [setEnts, HAT.out, Int.toNat_natCast, modify_set _ _ _ _ HX.out, HRR.out] at this; exact this) g off n c ((hbw.cell (p := ⟨p, 0, .none⟩) hp).trans HC0.out)
    have HOWN := Lib.hid hown
    have HBW := Lib.hid hbw
    clear hc hc2 hnil hE9 hbw hown
    go_wp2_with fail
    go_returns
    refine ⟨rfl, ?_, (HBW.out.mono hB).setCell (by exact hgB) _, (Aside.below HBW.out).trans (Aside.set ((HBW.out.block g hg).trans HTAG.out) (.inl rfl))⟩
    rw [setEnts, HAT.out, Int.toNat_natCast, modify_set _ _ _ _ HX.out, HRR.out]
    exact HOWN.out
end Go.Proofs.YthhceopnnappgaaGreatDoor
