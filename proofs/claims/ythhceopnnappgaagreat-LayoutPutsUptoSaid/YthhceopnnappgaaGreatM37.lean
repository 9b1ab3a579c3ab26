/- Parts of the proof, side by side: LaBare, LaSeal. -/
import Derived.Test.YthhceopnnappgaaGreatM25
import Derived.Test.YthhceopnnappgaaGreatM36
import Derived.Test.YthhceopnnappgaaGreatM23
import Derived.Test.YthhceopnnappgaaGreatM09
import Derived.Test.YthhceopnnappgaaGreatFsCopy
import Derived.Test.YthhceopnnappgaaGreatFsMake
import Derived.Test.YthhceopnnappgaaGreatM04
import Derived.Lib.BufferWrite
import Derived.Deep.WholeRow
import Derived.Deep.RegionWith
set_option linter.unusedVariables false
set_option linter.unusedSimpArgs false
namespace Go.Proofs.YthhceopnnappgaaGreat
open Go.RowKit
theorem boxS (w : World) (a b c : Value) : ∃ V, w.alloc (.cells #[a, b, c] 26) = V ∧ V.heap.size = w.heap.size + 1 ∧ OutAt V w.heap.size a b c ∧ Below w.heap.size w V :=
 ⟨_, rfl, by simp, heap_alloc_new w _, (Below.refl _ _).alloc (Nat.le_refl _) _⟩
theorem OutAt.go {w w' : World} {p : Nat} {a b c : Value} (h : OutAt w p a b c) (hb : Below w.heap.size w w') : OutAt w' p a b c := (hb.block p (Array.getElem?_eq_some_iff.1 h).1).trans h
theorem RowAt.go {B : Nat} {w w' : World} {e : TypeId} {k : Nat} {v : Value} {n : Nat} {xs : List Value} (h : RowAt B w e k v n xs) (hb : Below w.heap.size w w') : RowAt B w' e k v n xs := h.kept (r := none) (rw_none hb) (fun b _ => by simp)
theorem take_filter {α : Type} (f : α → Bool) {l : List α} {q : Nat} {x : α} (h : l[q]? = some x) : (l.take (q + 1)).filter f = (l.take q).filter f ++ if f x then [x] else [] := by
 rw [List.take_add_one, h, List.filter_append]
 cases hf : f x <;> simp [hf]
theorem bulkE_filter (p : Ino → Bool) : ∀ l : List Ino, bulkE (l.filter p) ≤ bulkE l
 | [] => by simp
 | x :: l => by
  have ih := bulkE_filter p l
  have h0 : bulkE (x :: l) = x.ents.length + bulkE l := rfl
  cases h : p x
  ·rw [List.filter_cons_of_neg (by rw [h]; decide)]
   omega
  ·rw [List.filter_cons_of_pos h]
   have h1 : bulkE (x :: l.filter p) = x.ents.length + bulkE (l.filter p) := rfl
   omega
theorem sized_bare {s : St} (h : Sized s) : Sized (bareV s) := by
 have h1 := bulkE_filter (stays s) s.inos
 have h2 := List.length_filter_le (stays s) s.inos
 have h3 := h.big
 refine ⟨?_, fun x hx => h.text x (List.mem_filter.1 hx).1, ⟨fun x hx => h.nums.1 x (List.mem_filter.1 hx).1, h.nums.2⟩⟩
 show (s.inos.filter (stays s)).length + bulkE (s.inos.filter (stays s)) + 0 + s.made.length ≤ _
 omega
theorem RowAt.keepL {B : Nat} {w w' : World} {e : TypeId} {k : Nat} {v : Value} {n : Nat} {xs : List Value} (h : RowAt B w e k v n xs) (hk : KeepT e w w') : RowAt B w' e k v n xs := by
 refine ⟨h.1, ?_⟩
 rcases h.2 with h0 | ⟨g, cap, cur, rfl, hc, hB, hg, rest⟩
 ·exact .inl h0
 ·exact .inr ⟨g, cap, cur, rfl, hc, hB, (hk.same g cur hg).trans hg, rest⟩
set_option maxRecDepth 100000 in
set_option maxHeartbeats 8000000 in
theorem bare_any (v : Value) (s : St) (w : World) (h : StAt none w v s) :
  Calls Tryz.prog 26 #[v] w fun e w' => ∃ v', e = .returned v' ∧ StAt none w' v' (bareV s) ∧ Below w.heap.size w w' := by
 obtain ⟨⟨A, n, c, B, m, d, D, k, e, rfl, hI, hD, hM, h5, h6, h7⟩, hz⟩ := h
 have hbig := hz.big
 have hn := hI.1
 have hn2 : n ≤ 1099511627776 := by omega
 obtain ⟨W, hW, hzW, hoW, hal⟩ := boxS w (.slice A n c) (.slice B m d) (.slice D k e)
 obtain ⟨W1, hW1, hzW1, hoW1, hal1⟩ := boxS W (.slice none 0 0) (.slice none 0 0) (.slice none 0 0)
 have hb01 := Cv.next hal hal1
 have hst1 : StAt none W1 (.agg #[.slice A n c, .slice B m d, .slice D k e]) s := ⟨⟨A, n, c, B, m, d, D, k, e, rfl, hI.below hb01, hD.below hb01, hM.below hb01, h5, h6, h7⟩, hz⟩
 have HI := Lib.hid hI
 have HST := Lib.hid hst1
 have HO := Lib.hid (hoW.go hal1)
 have HO1 := Lib.hid hoW1
 have HB := Lib.hid hb01
 have HN := Lib.hid hn
 have HZ := Lib.hid hz
 obtain ⟨b0, b1, b2, _⟩ := HO.out.get
 clear hI hD hM h5 h6 h7 hz hst1 hoW hoW1 hal hal1 hb01 hbig hn
 go_enter Tryz.func26, Tryz.ntmps26
 go_wp2_with fail
 refine (copy_any _ s W1 HST.out).mono ?_
 rintro e2 x2 ⟨v', rfl, hst2, hb2⟩
 obtain ⟨A2, n2, c2, B2, m2, d2, D2, k2, e2, rfl, _, _, hM2, _, _, hok2⟩ := hst2.at_
 obtain ⟨V, hV, hzV, hoV, halV⟩ := boxS x2 (.slice A2 n2 c2) (.slice B2 m2 d2) (.slice D2 k2 e2)
 obtain ⟨P, hP⟩ : ∃ P, x2.heap.size = P := ⟨_, rfl⟩
 rw [hP] at hoV hzV
 have hoS1 : OutAt (V.setCell ⟨P, 1, none⟩ (.slice none 0 0)) P (.slice A2 n2 c2) (.slice none 0 0) (.slice D2 k2 e2) := heap_setCell_same V P 1 _ _ _ hoV
 have hoS : OutAt ((V.setCell ⟨P, 1, none⟩ (.slice none 0 0)).setCell ⟨P, 0, none⟩ (.slice none 0 0)) P (.slice none 0 0) (.slice none 0 0) (.slice D2 k2 e2) := heap_setCell_same _ P 0 _ _ _ hoS1
 obtain ⟨S, hS⟩ : ∃ S, (V.setCell ⟨P, 1, none⟩ (.slice none 0 0)).setCell ⟨P, 0, none⟩ (.slice none 0 0) = S := ⟨_, rfl⟩
 have hbS : Below P x2 S := by rw [← hS]; exact ((show Below P x2 V by rw [← hP]; exact halV).setCell (Nat.le_refl _) _).setCell (Nat.le_refl _) _
 rw [hS] at hoS
 have hb2' : Below W1.heap.size W1 x2 := hb2
 have hbs : Below W1.heap.size W1 S := hb2'.trans (hbS.mono (by rw [← hP]; exact hb2'.size))
 have hzS : S.heap.size = P + 1 := by rw [← hS]; simp [World.setCell, hzV]
 have hW1P : W1.heap.size ≤ P := by rw [← hP]; exact hb2'.size
 have HM2 := Lib.hid hM2
 have HXS := Lib.hid (show Below x2.heap.size x2 S by rw [hP]; exact hbS)
 have HOK2 := Lib.hid hok2
 have HOS := Lib.hid hoS
 have HBS := Lib.hid hbs
 obtain ⟨g0, g1, g2, gf⟩ := hoV.get
 obtain ⟨s0, s1, s2, sf⟩ := hoS1.get
 obtain ⟨ii, hi, hz0, hz1, hz2⟩ := info_parts infoIno
 clear hst2 hM2 hok2 hb2 hb2' halV hoV hoS1 hoS hbS hbs
 go_wp2_with fail
 go_loopw [4] (fun j wr => ∃ (q : Nat) (U : Value) (zs : List (Ino × Value)), j = .int .i64 q ∧ q ≤ n ∧ Below P S wr ∧ P + 1 ≤ wr.heap.size ∧ OutAt wr P U (.slice none 0 0) (.slice D2 k2 e2) ∧ RowAt (P + 1) wr 42 4 U zs.length (zs.flatMap inoV) ∧ zs.map Prod.fst = (s.inos.take q).filter (stays s) ∧ ∀ z ∈ zs, ∃ A m c, z.2 = .slice A m c ∧ SlOk A m c ∧ EntsAt none w A m z.1.ents) (fun j _ => n - (intOf j).toNat)
 case atStart => exact ⟨0, _, [], rfl, by omega, Below.refl _ _, by omega, HOS.out, ⟨rfl, .inl ⟨none, rfl, rfl⟩⟩, rfl, by simp⟩
 case round =>
  obtain ⟨q, U, zs, rfl, hq, hbel, hsz, hout, hrow, htk, hents⟩ := hrel
  have hbw : Below W1.heap.size W1 wr := HBS.out.trans (hbel.mono hW1P)
  have HBEL := Lib.hid hbel
  have HBW := Lib.hid hbw
  have HOUT := Lib.hid hout
  have HROW := Lib.hid hrow
  have HTK := Lib.hid htk
  have HENTS := Lib.hid hents
  have HSTr := Lib.hid (HST.out.below hbw)
  have HBV := Lib.hid (Cv.next HB.out hbw)
  obtain ⟨y0, y1, y2, _⟩ := (HO.out.go hbw).get
  clear hbel hbw hout hrow htk hents
  by_cases hlt : q < n
  ·obtain ⟨g, off, x, E, m3, d3, rfl, hg, hx, hd, hmem, c0', c1', c2', hmd, hE, c3'⟩ := HI.out.get q hlt
   have c0 := (HBV.out.cell (p := ⟨g, _, none⟩) hg).trans c0'
   have c1 := (HBV.out.cell (p := ⟨g, _, none⟩) hg).trans c1'
   have c2 := (HBV.out.cell (p := ⟨g, _, none⟩) hg).trans c2'
   have c3 := (HBV.out.cell (p := ⟨g, _, none⟩) hg).trans c3'
   have k0 : (0 : Int) ≤ (q : Int) := by omega
   have k1 : (q : Int) < (n : Int) := by omega
   have htf := take_filter (stays s) hx
   have HTF := Lib.hid htf
   have HMD := Lib.hid hmd
   have HE := Lib.hid hE
   clear hx hd hmem hmd hE htf c0' c1' c2' c3'
   go_wp2_with fail
   refine wp_region_quiet_tail 6 (by kernel_rfl) (by kernel_rfl) ?_
   simp only [List.take_succ_cons, List.take_zero, List.drop_succ_cons, List.drop_zero]
   repeat (go_big_quiet_step (fail))
   refine wpQuiet_nil ?_
   go_wp2_with fail
   refine (kept_any _ s x E m3 d3 wr.drew (HSTr.out.below (Cv.drewN_below (Below.refl _ _) 1))).mono ?_
   rintro e5 w5 ⟨rfl, hb5⟩
   have hb5' : Below wr.heap.size wr w5 := Cv.next (Cv.drewN_below (Below.refl _ _) 1) hb5
   have HB5 := Lib.hid hb5'
   have hs5 := hb5'.size
   clear hb5 hb5'
   have hPw : P ≤ wr.heap.size := by omega
   have hB6 := HBEL.out.trans (HB5.out.mono hPw)
   have HB6 := Lib.hid hB6
   have hzl : zs.length ≤ q := by
    have h1 := congrArg List.length HTK.out
    have h2 := List.length_filter_le (stays s) (s.inos.take q)
    rw [List.length_map] at h1
    rw [List.length_take] at h2
    omega
   obtain ⟨bb, hbb⟩ : ∃ bb, stays s x = bb := ⟨_, rfl⟩
   have htf := HTF.out
   rw [hbb] at htf ⊢
   have HTF2 := Lib.hid htf
   clear hB6 hbb htf
   cases bb
   ·go_wp2_with fail
    go_roundw
    case rel => exact ⟨q + 1, U, zs, by go_num, by omega, HB6.out, by omega, HOUT.out.go HB5.out, HROW.out.go HB5.out, by rw [HTK.out, HTF2.out]; simp, HENTS.out⟩
    case measure => simp [intOf]; omega
   ·obtain ⟨A9, cp9, rfl, _⟩ := HROW.out.slice
    have hO5 := HOUT.out.go HB5.out
    obtain ⟨p0, p1, p2, pf⟩ := hO5.get
    obtain ⟨z0, z1, z2, _⟩ := ((HO.out.go HBW.out).go HB5.out).get
    have hgw : g < wr.heap.size := Nat.lt_of_lt_of_le hg HBV.out.size
    have d0 := (HB5.out.cell (p := ⟨g, _, none⟩) hgw).trans c0
    have d1 := (HB5.out.cell (p := ⟨g, _, none⟩) hgw).trans c1
    have d2 := (HB5.out.cell (p := ⟨g, _, none⟩) hgw).trans c2
    have d3' := (HB5.out.cell (p := ⟨g, _, none⟩) hgw).trans c3
    obtain ⟨W6, hW6⟩ : ∃ W6, w5.drew.alloc (.cells #[.int .i64 x.num, .bool x.dir, .slice E m3 d3, .string x.data] 42) = W6 := ⟨_, rfl⟩
    have h56 : Below w5.heap.size w5 W6 := by rw [← hW6]; exact (Cv.drewN_below (Below.refl _ _) 1).alloc (Nat.le_refl _) _
    have hz6 : W6.heap.size = w5.heap.size + 1 := by rw [← hW6]; simp
    have hnb : W6.heap[w5.heap.size]? = some (.cells #[.int .i64 x.num, .bool x.dir, .slice E m3 d3, .string x.data] 42 (0, 0)) := by rw [← hW6]; exact Go.heap_alloc_new w5.drew _
    have hrow6 := (HROW.out.go HB5.out).go h56
    obtain ⟨v', w7, happ, hrow7, hgr, hbl⟩ := row_append (P := Tryz.prog) hrow6 (by omega) 22 Tryz.underlying22 ii hi _ hz0 hz1 rfl (by rw [hz2]; omega) (by omega) ⟨w5.heap.size, 0, none⟩ [.int .i64 x.num, .bool x.dir, .slice E m3 d3, .string x.data] rfl (row_cells hnb 0 _ (fun j u hj => by
     rw [Nat.zero_add]
     match j, hj with
     | 0, hj => simpa using hj
     | 1, hj => simpa using hj
     | 2, hj => simpa using hj
     | 3, hj => simpa using hj)) (by intro u hu; simp at hu; rcases hu with rfl | rfl | rfl | rfl <;> rfl) 1
    obtain ⟨A8, cp8, rfl, _⟩ := hrow7.slice
    have hnP : some P ≠ rowBlk (.slice A9 zs.length cp9) := fun h9 => by
     obtain ⟨h1, _, _⟩ := hrow6.blk P h9.symm
     omega
    have hO7 : OutAt w7 P (.slice A9 zs.length cp9) (.slice none 0 0) (.slice D2 k2 e2) := (hgr.block P (by omega) hnP).trans (hO5.go h56)
    obtain ⟨q0, q1, q2, qf⟩ := hO7.get
    have hb7 : Below P S w7 := (HB6.out.trans (h56.mono (by omega))).trans (rw_below hgr (by omega) (fun b hb => by have := (hrow6.blk b hb).1; omega))
    have hs7 : P + 1 ≤ w7.heap.size := by have := hgr.size; omega
    have hflat : zs.flatMap inoV ++ [.int .i64 x.num, .bool x.dir, .slice E m3 d3, .string x.data] = (zs ++ [((x, Value.slice E m3 d3) : Ino × Value)]).flatMap inoV := by rw [List.flatMap_append]; rfl
    rw [hflat] at hrow7
    have hO8 : OutAt (w7.setCell ⟨P, 0, none⟩ (Value.slice A8 (zs.length + 1) cp8)) P (Value.slice A8 (zs.length + 1) cp8) (.slice none 0 0) (.slice D2 k2 e2) := heap_setCell_same w7 P 0 _ _ _ hO7
    have hb8 : Below P S (w7.setCell ⟨P, 0, none⟩ (Value.slice A8 (zs.length + 1) cp8)) := hb7.setCell (Nat.le_refl _) _
    have hrow8 : RowAt (P + 1) (w7.setCell ⟨P, 0, none⟩ (Value.slice A8 (zs.length + 1) cp8)) 42 4 (Value.slice A8 (zs.length + 1) cp8) (zs.length + 1) ((zs ++ [((x, Value.slice E m3 d3) : Ino × Value)]).flatMap inoV) := hrow7.kept grown_set (fun b hb h9 => by
     obtain ⟨h1, _, _⟩ := hrow7.blk b hb
     injection h9 with h9
     omega)
    have hs8 : P + 1 ≤ (w7.setCell ⟨P, 0, none⟩ (Value.slice A8 (zs.length + 1) cp8)).heap.size := by simpa [World.setCell] using hs7
    have qf0 := qf 0
    have p0a := (hO5.go h56).get.1
    rw [← hW6] at happ p0a
    have hPne : P ≠ w5.heap.size := by omega
    have hPlt : P < w5.heap.size := by omega
    have HAP := Lib.hid happ
    have HO8 := Lib.hid hO8
    have HB8 := Lib.hid hb8
    have HR8 := Lib.hid hrow8
    have HS8 := Lib.hid hs8
    clear happ hO8 hb8 hrow8 hs8 hrow7 hrow6 hgr hbl hnb h56 hz6 hO5 hO7 hb7 hs7 hflat hnP hW6
    go_wp2_with fail
    go_region_law (refine step_append_runI rfl (.tmp 24) (.tmp 30) 22 rfl (.slice A9 zs.length cp9) (.slice (some ⟨w5.heap.size, 0, none⟩) 1 1) (by simp [Act.eval, Act.put]) (by simp [Act.eval, Act.put]) (HAP.out 22) ?_)
    all_goals (
     go_wp2_with fail
     go_roundw
     case rel => exact ⟨q + 1, _, zs ++ [((x, Value.slice E m3 d3) : Ino × Value)], by go_num, by omega, HB8.out, HS8.out, HO8.out, by rw [List.length_append]; exact HR8.out, by rw [List.map_append, HTK.out, HTF2.out]; simp, fun z hz => by
      rcases List.mem_append.1 hz with h | h
      ·exact HENTS.out z h
      ·have : z = ((x, Value.slice E m3 d3) : Ino × Value) := by simpa using h
       subst this
       exact ⟨E, m3, d3, rfl, HMD.out, HE.out⟩⟩
     case measure => simp [intOf]; omega)
  ·have q9 : decide ((q : Int) < (n : Int)) = false := by rw [decide_eq_false_iff_not]; omega
   have hqn : s.inos.length ≤ q := by have := HN.out; omega
   have hks : zs.map Prod.fst = keptV s := by rw [HTK.out, List.take_of_length_le hqn]; rfl
   obtain ⟨A9, cp9, rfl, hok9⟩ := HROW.out.slice
   obtain ⟨p0, p1, p2, _⟩ := HOUT.out.get
   have hR := HO1.out.go HBW.out
   rw [hzW] at hR
   obtain ⟨r0, r1, r2, rf⟩ := hR.get
   have rf0 := rf 0
   have rf1 := rf 1
   have rf2 := rf 2
   obtain ⟨W9, hW9, hR9, kC, hbC⟩ := hR.three (.slice A9 zs.length cp9) (.slice none 0 0) (.slice D2 k2 e2)
   have hb9 : Below w.heap.size w W9 := hbC _ _ (by omega) (Cv.next HB.out HBW.out)
   have hi : InosAt none W9 A9 zs.length (keptV s) := by
    have hrI := HROW.out.keepL (kC _ (by decide))
    have hl : (keptV s).length = zs.length := by rw [← hks, List.length_map]
    refine ⟨hl, fun h0 => ?_⟩
    obtain ⟨g, c', cur, hv', _, _, hlt9, _, _, hc⟩ := hrI.open_ h0
    injection hv' with e1 _ _
    refine ⟨g, 0, e1, hlt9, Mine.any _ _ _, fun j x hx => ?_⟩
    rw [← hks, List.getElem?_map] at hx
    obtain ⟨z, hz, rfl⟩ := Option.map_eq_some_iff.1 hx
    have f := flat_get inoV 4 (fun x => rfl) zs j z hz
    obtain ⟨E, m, c3, he, hmd, hE⟩ := HENTS.out z (List.mem_of_getElem? hz)
    rw [Nat.zero_add]
    refine ⟨hc _ _ (f 0 (by omega)), hc _ _ (f 1 (by omega)), ⟨E, m, c3, ?_, hmd, hE.below hb9⟩, hc _ _ (f 3 (by omega))⟩
    rw [← he]
    exact hc _ _ (f 2 (by omega))
   have hS9 : Sized (bareV s) := sized_bare HZ.out
   have hM9 : IntsAt none W9 D2 k2 s.made := ((HM2.out.below (w' := wr) (HXS.out.trans (HBEL.out.mono (by omega)))).keep (kC _ (by decide))).weak
   have HF := Lib.hid (show StAt none W9 (.agg #[.slice A9 zs.length cp9, .slice none 0 0, .slice D2 k2 e2]) (bareV s) from ⟨⟨A9, zs.length, cp9, none, 0, 0, D2, k2, e2, rfl, hi, ⟨rfl, fun h => absurd h (by omega)⟩, hM9, hok9, ⟨by omega, fun _ => rfl⟩, HOK2.out⟩, hS9⟩)
   have HB9 := Lib.hid hb9
   clear hi hS9 hM9 hb9 hks hqn hok9 hbC kC
   have HR9 := Lib.hid hR9
   clear hR9
   go_wp2_with fail
   (try simp only [Exit.inBlock, Exit.then])
   refine bodyPost_ret (results_cell_row rfl _ _ (w.heap.size + 1) 26 _ (0, 0) _ rfl HR9.out Tryz.underlying26 rfl (by kernel_rfl)) rfl ?_
   exact ⟨_, rfl, HF.out, HB9.out⟩
theorem size_all (v : Value) (s : St) (w : World) (h : StAt none w v s) (hm : mayV s = true) (hall : ∀ x ∈ s.inos, delB s x = false) :
  Calls Tryz.prog 8 #[v] w fun e w' => e = .returned (.int .i64 ((sealL (headL s.made s.inos)).length : Nat)) ∧ Below w.heap.size w w' := by
 obtain ⟨L, hL⟩ : ∃ L, sealL (headL s.made s.inos) = L := ⟨_, rfl⟩
 obtain ⟨⟨A, n, cp, Bz, m, d, D, k, e, rfl, hI, hD, hM, h5, h6, h7⟩, hz⟩ := h
 obtain ⟨W, hW, b0, b1, b2, hal, hlt0⟩ := box_st w A n cp Bz m d D k e
 have hst : StAt none W (.agg #[.slice A n cp, .slice Bz m d, .slice D k e]) s := ⟨⟨A, n, cp, Bz, m, d, D, k, e, rfl, hI.below hal, hD.below hal, hM.below hal, h5, h6, h7⟩, hz⟩
 have HAL := Lib.hid hal
 have hp := put_all _ s W hst hm hall
 rw [hL] at hp ⊢
 have HP := Lib.hid hp
 clear hp hI hD hM hz hal hst h5 h6 h7
 go_enter Tryz.func8, Tryz.ntmps8
 go_wp2_with fail
 refine HP.out.mono ?_
 rintro e1 w1 ⟨rfl, hb⟩
 have HB := Lib.hid (Cv.next HAL.out hb)
 have hsz : (⟨L.toArray⟩ : ByteArray).size = L.length := by show L.toArray.size = _; simp
 clear hb
 go_wp2_with fail
 go_ret
 exact ⟨rfl, HB.out⟩
set_option maxRecDepth 100000 in
set_option maxHeartbeats 2000000 in
theorem refsum_any (s : ByteArray) (w : World) (hs : s.size ≤ maxLen) :
  Calls Tryz.prog 58 #[.string s] w fun e w' => e = .returned (.int .u64 ((sumN s.data.toList : Nat) : Int)) ∧ w = w' := by
 unfold maxLen at hs
 go_enter Tryz.func58, Tryz.ntmps58
 go_wp2
 go_loop [3, 4] (fun h i => ∃ k : Nat, k ≤ s.size ∧ i = .int .i64 k ∧ h = .int .u64 ((sumN (s.data.toList.take k) : Nat) : Int)) (fun _ i => s.size - (intOf i).toNat)
 case atStart => exact ⟨0, Nat.zero_le _, rfl, val_int first_val⟩
 case round =>
  obtain ⟨k, hk, rfl, rfl⟩ := hrel
  by_cases hlt : k < s.size
  ·go_wp2
   go_round
   case rel => exact ⟨k + 1, by omega, by go_num, by rw [take_snoc s k hlt, sumN_snoc]; exact val_int (step_val _ (sumN_lt _) _)⟩
   case measure => simp [intOf]; omega
  ·go_wp2
   go_ret
   exact ⟨ret_int (by rw [List.take_of_length_le (by simp; omega)]), rfl⟩
theorem eight_row (H : Nat) (l : List UInt8) (h8 : l.length = 8) (hl : ∀ t, t < 8 → l.getD t 0 = (H / 256 ^ (7 - t)).toUInt8) : l = eightL H := by
 apply List.ext_getElem
 ·rw [h8, eight_len]
 ·intro t h1 h2
  have ht : t < 8 := by omega
  have e1 := hl t ht
  have e2 := eight_get H t ht
  rw [List.getElem?_eq_getElem h2] at e2
  rw [List.getD_eq_getElem?_getD, List.getElem?_eq_getElem h1] at e1
  have e3 : (256 : Nat) ^ (7 - t) = 2 ^ (56 - 8 * t) := by
   rw [show (256 : Nat) = 2 ^ 8 from rfl, ← Nat.pow_mul]
   congr 1
   omega
  rw [e3] at e1
  exact e1.trans (Option.some.inj e2).symm
set_option maxRecDepth 100000 in
set_option maxHeartbeats 4000000 in
theorem eight_any (H : Nat) (w : World) (hH : H < 18446744073709551616) :
  Calls Tryz.prog 57 #[.int .u64 (H : Int)] w fun e w' => e = .returned (.string ⟨(eightL H).toArray⟩) ∧ Below w.heap.size w w' := by
 have hmk := run_make_row' (P := Tryz.prog) 46 5 (.int .u8 0) 1 Tryz.underlying46 infoByte rfl .i64 .i64 8 (by omega) (by omega) w
 obtain ⟨W, hW⟩ : ∃ W, w.alloc (.cells (madeCells #[.int .u8 0] 8) 5) = W := ⟨_, rfl⟩
 rw [hW] at hmk
 have hmk2 : (Instr.makeSlice 46 (.int .i64 8) (.int .i64 8)).run Tryz.prog w = .ok (.slice (some ⟨w.heap.size, 0, none⟩) 8 8) W := hmk
 have hrow : Cv.ByteRow W w.heap.size (List.replicate 8 0) := by
  have hh : W.heap[w.heap.size]? = some (.cells (madeCells #[.int .u8 0] 8) 5 (0, 0)) := by rw [← hW]; exact heap_alloc_new w _
  refine ⟨(Array.getElem?_eq_some_iff.1 hh).1, fun j hj => ⟨?_, frozen_of_row W w.heap.size j _ _ hh⟩⟩
  have hj8 : j < 8 := by simpa using hj
  have hz : (List.replicate 8 (0 : UInt8)).getD j 0 = 0 := by
   rw [List.getD_eq_getElem?_getD, List.getElem?_replicate]
   split <;> rfl
  rw [cell_of_row W w.heap.size j _ _ (0, 0) hh, hz]
  simp [madeCells, hj8, Nat.mod_one]
 have hb : Below w.heap.size w W := by rw [← hW]; exact (Below.refl _ _).alloc (Nat.le_refl _) _
 have HR := Lib.hid hrow
 have HB := Lib.hid hb
 clear hrow hb hmk
 go_enter Tryz.func57, Tryz.ntmps57
 go_wp2_with fail
 go_loopw [0, 4] (fun x i wr => ∃ (T : Nat) (v : Int) (l : List UInt8), i = .int .i64 v ∧ v = (T : Int) - 1 ∧ x = .int .u64 ((H / 256 ^ (8 - T) : Nat) : Int) ∧ T ≤ 8 ∧ Cv.ByteRow wr w.heap.size l ∧ Below w.heap.size w wr ∧ l.length = 8 ∧ ∀ t, T ≤ t → t < 8 → l.getD t 0 = (H / 256 ^ (7 - t)).toUInt8) (fun _ i _ => (1 + intOf i).toNat)
 case atStart => exact ⟨8, 7, _, rfl, rfl, by simp, by omega, HR.out, HB.out, by simp, fun t h1 h2 => by omega⟩
 case round =>
  obtain ⟨T, v, l, rfl, hv, rfl, hT, hrow, hbel, hl8, hall⟩ := hrel
  obtain ⟨Y, hY⟩ : ∃ Y, H / 256 ^ (8 - T) = Y := ⟨_, rfl⟩
  rw [hY]
  have hYb : Y < 18446744073709551616 := by rw [← hY]; exact Nat.lt_of_le_of_lt (Nat.div_le_self _ _) hH
  have HY := Lib.hid hY
  have HROW := Lib.hid hrow
  have HBE := Lib.hid hbel
  have HALL := Lib.hid hall
  clear hY hbel hall
  cases T with
  | zero =>
   obtain rfl : v = -1 := by omega
   have hl := eight_row H l hl8 (fun t ht => HALL.out t (by omega) ht)
   have hcv := Cv.back_of hrow 8 8 hl8
   rw [hl] at hcv
   clear hrow hv hl
   go_wp2_with fail
   go_ret
   exact ⟨rfl, HBE.out⟩
  | succ j =>
   obtain rfl : v = (j : Int) := by omega
   have j0 : (0 : Int) ≤ (j : Int) := by omega
   have j1 : (j : Int) < 8 := by omega
   have q1 : decide ((0 : Int) ≤ (j : Int)) = true := by rw [decide_eq_true_eq]; omega
   obtain ⟨c0, ff0⟩ := hrow.2 j (by omega)
   have HR2 := Lib.hid (HROW.out.set (k := j) (by omega) Y.toUInt8)
   have e1 : ((Y.toUInt8).toNat : Int) = (Y : Int) % 256 := by
    show ((Y % 256 : Nat) : Int) = _
    omega
   rw [e1] at HR2
   have HBS := Lib.hid (HBE.out.setCell (p := ⟨w.heap.size, j, .none⟩) (Nat.le_refl _) (.int .u8 ((Y : Int) % 256)))
   clear hrow hv e1
   go_wp2_with fail
   go_roundw
   case rel => exact ⟨j, (j : Int) - 1, l.set j Y.toUInt8, rfl, rfl, by
    have e2 : H / 256 ^ (8 - j) = Y / 256 := by
     rw [← HY.out, Nat.div_div_eq_div_mul, ← Nat.pow_succ]
     congr 2
     omega
    rw [e2, Int.natCast_ediv]
    rfl, by omega, HR2.out, HBS.out, by rw [List.length_set]; exact hl8, fun t h1 h2 => by
    by_cases ht : t = j
    ·subst ht
     rw [List.getD_eq_getElem?_getD, List.getElem?_set_self (by omega)]
     show Y.toUInt8 = _
     rw [← HY.out]
     congr 3
     omega
    ·rw [List.getD_eq_getElem?_getD, List.getElem?_set_ne (by omega), ← List.getD_eq_getElem?_getD]
     exact HALL.out t (by omega) h2⟩
   case measure => simp [intOf]; omega
theorem seal_any (b : ByteArray) (w : World) (hb : b.size ≤ 140737488355328) :
  Calls Tryz.prog 29 #[.string b] w fun e w' => e = .returned (.string ⟨(sealL b.data.toList).toArray⟩) ∧ Below w.heap.size w w' := by
 go_enter Tryz.func29, Tryz.ntmps29
 go_wp2_with fail
 refine (refsum_any b w (by unfold maxLen; omega)).mono ?_
 rintro e1 w1 ⟨rfl, rfl⟩
 obtain ⟨H, hH⟩ : ∃ H, sumN b.data.toList = H := ⟨_, rfl⟩
 have hHlt : H < 18446744073709551616 := by rw [← hH, ← hM_lit]; exact sumN_lt _
 rw [hH]
 have HH := Lib.hid hH
 clear hH
 go_wp2_with fail
 refine (eight_any H w hHlt).mono ?_
 rintro e2 w2 ⟨rfl, hb2⟩
 have HB2 := Lib.hid hb2
 have hs8 : (⟨(eightL H).toArray⟩ : ByteArray).size = 8 := by
  show (eightL H).toArray.size = 8
  rw [List.size_toArray, eight_len]
 have hcat : b ++ (⟨(eightL H).toArray⟩ : ByteArray) = ⟨(sealL b.data.toList).toArray⟩ := by
  apply ByteArray.ext
  rw [ByteArray.data_append]
  apply Array.toList_inj.1
  unfold sealL
  rw [HH.out]
  simp
 clear hb2
 go_wp2_with fail
 go_ret
 exact ⟨by first | exact congrArg (fun z => Ending.returned (.string z)) hcat | rfl, HB2.out⟩
end Go.Proofs.YthhceopnnappgaaGreat
