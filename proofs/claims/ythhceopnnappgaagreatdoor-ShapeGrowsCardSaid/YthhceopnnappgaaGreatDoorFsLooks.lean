/- looks of the document (List, Stat, Links): by its contract (wip/gen_looks.py). -/
import Derived.Test.YthhceopnnappgaaGreatDoorM18
import Derived.Test.YthhceopnnappgaaGreatDoorFsOpened
import Derived.Deep.RegionHeld3
set_option linter.unusedVariables false
set_option linter.unusedSimpArgs false
namespace Go.Proofs.YthhceopnnappgaaGreatDoor
open Go.RowKit
theorem infoStr9 : (Tryz.prog.info? 9).map (fun i => (i.zero, i.size, i.bytes)) = some (some (.string ⟨#[]⟩), 1, 16) := by kernel_rfl
def NmsAt (lo : Option Nat) (w : World) (A : Option Addr) (n : Nat) (ns : List ByteArray) : Prop :=
 ns.length = n ∧ (0 < n → ∃ g off, A = some ⟨g, off, none⟩ ∧ g < w.heap.size ∧ Mine lo 9 w g ∧ ∀ j x, ns[j]? = some x → w.cell? ⟨g, off + j, none⟩ = some (.string x))
theorem NmsAt.below {lo : Option Nat} {w w' : World} {A : Option Addr} {n : Nat} {ns : List ByteArray} (h : NmsAt lo w A n ns) (hb : Below w.heap.size w w') : NmsAt lo w' A n ns :=
 ⟨h.1, fun hn => by
  obtain ⟨g, off, hA, hg, hm, hc⟩ := h.2 hn
  exact ⟨g, off, hA, Nat.lt_of_lt_of_le hg hb.size, hm.below hb, fun j x hx => (hb.cell (p := ⟨g, _, none⟩) hg).trans (hc j x hx)⟩⟩
theorem NmsAt.weak {lo : Option Nat} {w : World} {A : Option Addr} {n : Nat} {ns : List ByteArray} (h : NmsAt lo w A n ns) : NmsAt none w A n ns :=
 ⟨h.1, fun hn => by
  obtain ⟨g, off, hA, hg, hm, hc⟩ := h.2 hn
  exact ⟨g, off, hA, hg, Mine.any _ _ _, hc⟩⟩
theorem NmsAt.keep {B : Nat} {w w' : World} {A : Option Addr} {n : Nat} {ns : List ByteArray} (h : NmsAt (some B) w A n ns) (hk : KeepT 9 w w') : NmsAt (some B) w' A n ns :=
 ⟨h.1, fun hn => by
  obtain ⟨g, off, hA, hg, hm, hc⟩ := h.2 hn
  obtain ⟨m1, m2⟩ := hk.mine hm
  exact ⟨g, off, hA, Nat.lt_of_lt_of_le hg hk.size, m1, fun j x hx => (cell_same m2 _).trans (hc j x hx)⟩⟩
theorem NmsAt.lower {B B' : Nat} {w : World} {A : Option Addr} {n : Nat} {ns : List ByteArray} (h : NmsAt (some B) w A n ns) (hb : B' ≤ B) : NmsAt (some B') w A n ns :=
 ⟨h.1, fun hn => by
  obtain ⟨g, off, hA, hg, hm, hc⟩ := h.2 hn
  exact ⟨g, off, hA, hg, hm.mono hb, hc⟩⟩
theorem NmsAt.of_row {B : Nat} {w : World} {v : Value} {n : Nat} {ns : List ByteArray} (h : w.ownsRow B 9 1 v n (ns.map Value.string)) : ∃ A c, v = .slice A n c ∧ SlOk A n c ∧ NmsAt (some B) w A n ns := by
 obtain ⟨A, c, h1, h2, h3, h4⟩ := row_any h (by decide)
 have hl : ns.length = n := by have := h.1; simpa using this
 refine ⟨A, c, h1, ⟨h2, fun e => (h3 e).2⟩, hl, fun hn => ?_⟩
 obtain ⟨g, hA, hg, hm, hc⟩ := h4 hn
 refine ⟨g, 0, hA, hg, hm, fun j x hx => ?_⟩
 have hj := (List.getElem?_eq_some_iff.1 hx).1
 rw [Nat.zero_add, hc j (by omega), List.getElem?_map, hx]
 rfl
def ResIs (lo : Option Nat) (w : World) (v : Value) (r : Re) : Prop :=
 ∃ A n c, v = .agg #[.int .i64 r.code, .int .i64 r.fd, .int .i64 r.num, .bool r.dir, .string r.data, .slice A n c] ∧ SlOk A n c ∧ NmsAt lo w A n r.names
theorem ResIs.below {lo : Option Nat} {w w' : World} {v : Value} {r : Re} (h : ResIs lo w v r) (hb : Below w.heap.size w w') : ResIs lo w' v r := by
 obtain ⟨A, n, c, h1, h2, h3⟩ := h
 exact ⟨A, n, c, h1, h2, h3.below hb⟩
theorem ResIs.weak {lo : Option Nat} {w : World} {v : Value} {r : Re} (h : ResIs lo w v r) : ResIs none w v r := by
 obtain ⟨A, n, c, h1, h2, h3⟩ := h
 exact ⟨A, n, c, h1, h2, h3.weak⟩
theorem ResIs.of_resV (lo : Option Nat) (w : World) (r : Re) (h : r.names = []) : ResIs lo w (resV r) r :=
 ⟨none, 0, 0, rfl, ⟨by omega, fun _ => rfl⟩, by rw [h]; exact ⟨rfl, fun h => absurd h (by omega)⟩⟩
structure Lk (a b d : Value) (s : St) (c : Ca) (w0 w : World) : Prop where
 box : OutAt w w0.heap.size a b d
 call : w.heap[w0.heap.size + 1]? = some (caRow c)
 res : ResAt w (w0.heap.size + 2) (.int .i64 0) (.int .i64 0) (.int .i64 0) (.bool false) (.string ⟨#[]⟩) (.slice none 0 0)
 st : StAt none w (.agg #[a, b, d]) s
 bel : Below w0.heap.size w0 w
 size : w0.heap.size + 3 ≤ w.heap.size
theorem Lk.below {a b d : Value} {s : St} {c : Ca} {w0 w w' : World} (h : Lk a b d s c w0 w) (hb : Below w.heap.size w w') : Lk a b d s c w0 w' :=
 ⟨(hb.block _ (by have := h.size; omega)).trans h.box, (hb.block _ (by have := h.size; omega)).trans h.call, (hb.block _ h.res.lt).trans h.res, h.st.below hb, h.bel.trans (hb.mono (by have := h.size; omega)), Nat.le_trans h.size hb.size⟩
theorem Lk.vals {a b d : Value} {s : St} {c : Ca} {w0 w : World} (h : Lk a b d s c w0 w) : w0.heap.size < w.heap.size ∧ w0.heap.size + 1 < w.heap.size ∧ w.cell? ⟨w0.heap.size, 0, none⟩ = some a ∧ w.cell? ⟨w0.heap.size, 1, none⟩ = some b ∧ w.cell? ⟨w0.heap.size, 2, none⟩ = some d ∧
  w.cell? ⟨w0.heap.size + 1, 0, none⟩ = some (.int .i64 c.kind) ∧ w.cell? ⟨w0.heap.size + 1, 5, none⟩ = some (.string c.path) := by
 have hc := h.call
 unfold caRow at hc
 obtain ⟨b0, b1, b2, _⟩ := h.box.get
 refine ⟨by have := h.size; omega, by have := h.size; omega, b0, b1, b2, ?_, ?_⟩ <;> (rw [cell_of_row w (w0.heap.size + 1) _ _ _ (0, 0) hc]; rfl)
theorem Lk.six {a b d : Value} {s : St} {c : Ca} {w0 w : World} (h : Lk a b d s c w0 w) (q r x y z t : Value) :
  ∃ w', (((((w.setCell ⟨w0.heap.size + 2, 0, none⟩ q).setCell ⟨w0.heap.size + 2, 1, none⟩ r).setCell ⟨w0.heap.size + 2, 2, none⟩ x).setCell ⟨w0.heap.size + 2, 3, none⟩ y).setCell ⟨w0.heap.size + 2, 4, none⟩ z).setCell ⟨w0.heap.size + 2, 5, none⟩ t = w' ∧
   ResAt w' (w0.heap.size + 2) q r x y z t ∧ Below w0.heap.size w0 w' ∧ ∀ ty, 44 ≠ ty → KeepT ty w w' := by
 obtain ⟨w', hw, hr, hk, hb, _, _⟩ := h.res.six q r x y z t
 exact ⟨w', hw, hr, hb w0.heap.size w0 (by omega) h.bel, hk⟩
theorem Lk.start {w : World} {s : St} {A : Option Addr} {n cp : Nat} {E : Option Addr} {m d : Nat} {D : Option Addr} {k e : Nat} (h : StAt none w (.agg #[.slice A n cp, .slice E m d, .slice D k e]) s) (c : Ca) :
  ∃ W W2 W3, w.alloc (.cells #[.slice A n cp, .slice E m d, .slice D k e] 26) = W ∧ W.alloc (.cells #[.int .i64 c.kind, .int .i64 c.core, .int .i64 c.fd, .int .i64 c.off, .int .i64 c.num, .string c.path, .string c.path2, .string c.data] 40) = W2 ∧
   W2.alloc (.cells #[.int .i64 0, .int .i64 0, .int .i64 0, .bool false, .string ⟨#[]⟩, .slice none 0 0] 44) = W3 ∧ W.heap.size = w.heap.size + 1 ∧ W2.heap.size = w.heap.size + 2 ∧ Lk (.slice A n cp) (.slice E m d) (.slice D k e) s c w W3 := by
 have h1 : Below w.heap.size w (w.alloc (.cells #[.slice A n cp, .slice E m d, .slice D k e] 26)) := (Below.refl _ _).alloc (Nat.le_refl _) _
 obtain ⟨W2, hW2, hbc, hal, hsz⟩ := box_ca (w.alloc (.cells #[.slice A n cp, .slice E m d, .slice D k e] 26)) c
 have hs1 : (w.alloc (.cells #[.slice A n cp, .slice E m d, .slice D k e] 26)).heap.size = w.heap.size + 1 := by simp
 have hal2 : Below W2.heap.size W2 (W2.alloc (.cells #[.int .i64 0, .int .i64 0, .int .i64 0, .bool false, .string ⟨#[]⟩, .slice none 0 0] 44)) := (Below.refl _ _).alloc (Nat.le_refl _) _
 have hb2 := Cv.next hal hal2
 rw [hs1] at hbc hsz
 refine ⟨_, W2, _, rfl, hW2, rfl, hs1, by omega, ?_, ?_, ?_, h.below (Cv.next h1 hb2), Cv.next h1 hb2, by simp; omega⟩
 ·exact (hb2.block _ (by omega)).trans (heap_alloc_new w _)
 ·exact (hal2.block _ (by omega)).trans hbc
 ·rw [show w.heap.size + 2 = W2.heap.size by omega]; exact heap_alloc_new W2 _
set_option maxRecDepth 100000 in
set_option maxHeartbeats 16000000 in
theorem looks_any (v : Value) (s : St) (c : Ca) (w : World) (h : StAt none w v s) (hw : Whole s.inos) (hpz : c.path.size ≤ 140737488355328) (hk : c.kind = 12 ∨ c.kind = 13 ∨ c.kind = 14) :
  Calls Tryz.prog 70 #[v, caV c] w fun e w' => ∃ rv, e = .returned rv ∧ ResIs (some w.heap.size) w' rv (looksV s c) ∧ Below w.heap.size w w' := by
 obtain ⟨LV, hLV⟩ : ∃ LV, looksV s c = LV := ⟨_, rfl⟩
 obtain ⟨⟨N1, C1⟩, hFI⟩ : ∃ x, findV s.inos c.path = x := ⟨_, rfl⟩
 have hat0 := findV_at hw c.path
 rw [hLV]
 unfold looksV at hLV
 rw [hFI] at hLV hat0
 dsimp only at hLV hat0
 obtain ⟨A, n, cp, E, m, d, D, k, e, rfl, hI, _⟩ := h.at_
 obtain ⟨W, W2, W3, hW, hW2, hW3, hsz1, hsz2, hlk⟩ := Lk.start h c
 have HF := Lib.hid hlk
 have HI := Lib.hid (hI.weak.below hlk.bel)
 have hbig := h.sized.big
 have hn : n ≤ 1099511627776 := by have := hI.1; omega
 have hbk : bulkE s.inos ≤ 1099511627776 := by omega
 have HLV := Lib.hid hLV
 have HFI := Lib.hid hFI
 have HW := Lib.hid hw
 have HAT0 := Lib.hid hat0
 obtain ⟨KD, hKD⟩ : ∃ KD, c.kind = KD := ⟨_, rfl⟩
 obtain ⟨hc0, hc1, p0, p1, p2, c0, c5⟩ := hlk.vals
 have HKD := Lib.hid hKD
 rw [hKD] at c0 hk hW2
 unfold caV
 rw [hKD]
 clear h hI hlk hLV hFI hw hat0 hKD hbig
 rcases hk with hk | hk | hk
 ·subst hk
  go_enter Tryz.func70, Tryz.ntmps70
  go_wp2_with fail
  clear hW hW2 hW3
  refine (find_any _ s c.path _ HF.out.st HW.out hpz).mono ?_
  rintro ex Z1 ⟨rfl, hbx⟩
  rw [HFI.out]
  dsimp only
  have HF1 := Lib.hid (HF.out.below hbx)
  have HI1 := Lib.hid (HI.out.below hbx)
  clear hbx p0 p1 p2 c0 c5
  obtain ⟨hc01, hc11, p01, p11, p21, c01, c51⟩ := HF1.out.vals
  rw [HKD.out] at c01
  by_cases hcd : C1 = 0
  rotate_left
  ·have q1 : (C1 != 0) = true := by rw [bne_iff_ne]; exact hcd
   have hr := HLV.out
   rw [if_pos hcd] at hr
   have HR9 := Lib.hid hr
   clear hr hcd
   go_wp2_with fail
   refine (fail_any C1 _).mono ?_
   rintro e10 w10 ⟨rfl, hb10⟩
   have F10 := HF1.out.below hb10
   obtain ⟨g0, g1', g2', g3, g4, g5, gf⟩ := F10.res.get
   obtain ⟨W9, hW9, hr9, hb9, hk9⟩ := F10.six (.int .i64 C1) (.int .i64 0) (.int .i64 0) (.bool false) (.string ⟨#[]⟩) (.slice none 0 0)
   have HR5 := Lib.hid hr9
   have HBF := Lib.hid hb9
   have HK9 := Lib.hid hk9
   clear F10 hr9 hb9 hk9 hb10
   go_wp2_with fail
   (try simp only [Exit.inBlock, Exit.then])
   refine ret_res rfl HR5.out rfl rfl ?_
   rw [show LV = _ from HR9.out.symm]
   exact ⟨_, rfl, ⟨none, 0, 0, rfl, ⟨by omega, fun _ => rfl⟩, ⟨rfl, fun h => absurd h (by omega)⟩⟩, HBF.out⟩
  ·subst hcd
   have hr := HLV.out
   rw [if_neg (by decide)] at hr
   obtain ⟨i, x, hat, hx, hxn⟩ := atV_some (HAT0.out rfl)
   have hda : dirAt s.inos N1 = x.dir := by unfold dirAt; rw [hat, inoAt_nat, hx]
   have hen : entsOf s.inos N1 = x.ents := by unfold entsOf; rw [hat, inoAt_nat, hx]
   have hdt : dataAt s.inos N1 = x.data := by unfold dataAt; rw [hat, inoAt_nat, hx]
   rw [hda, hen, hdt] at hr
   have HR8 := Lib.hid hr
   have HAT := Lib.hid hat
   have hin : i < n := by have := (List.getElem?_eq_some_iff.1 hx).1; have := HI1.out.1; omega
   obtain ⟨g, og, x', E3, m3, d3, hA1, hg, hx', _, hmem, e0, e1, e2, hok3, hE3, e3⟩ := HI1.out.get i hin
   subst hA1
   have ex : x' = x := by rw [hx] at hx'; exact (Option.some.inj hx').symm
   subst ex
   have i0 : (0 : Int) ≤ (i : Int) := by omega
   have i1 : (i : Int) < (n : Int) := by omega
   have HE3 := Lib.hid hE3
   have hm3 : m3 ≤ 1099511627776 := by have := hE3.1; have := bulkE_le hx; omega
   have HST1 := Lib.hid HF1.out.st
   clear hr hat hx hx' hmem hda hen hdt hok3 hE3 hxn
   have hX : True := trivial
   go_upto_region 4 with fail
   go_cut [7] (fun pv wx => ∃ b, pv = .pointer (some ⟨b, 0, .none⟩) ∧ wx.heap[b]? = some (.cells #[.int .i64 x'.num, .bool x'.dir, .slice E3 m3 d3, .string x'.data] 52 (0, 0)) ∧ Below Z1.heap.size Z1 wx)
   case first =>
    have nA : Z1.heap.size ≠ w.heap.size := by omega
    have nB : Z1.heap.size ≠ g := by omega
    go_region_held3 (fun w' => w'.cell? ⟨w.heap.size, 0, none⟩ = some (.slice (some ⟨g, og, none⟩) n cp) ∧ w'.cell? ⟨w.heap.size, 1, none⟩ = some (.slice E m d) ∧ w'.cell? ⟨w.heap.size, 2, none⟩ = some (.slice D k e) ∧ w'.cell? ⟨g, og + i * 4, none⟩ = some (.int .i64 x'.num) ∧ w'.cell? ⟨g, og + i * 4 + 1, none⟩ = some (.bool x'.dir) ∧ w'.cell? ⟨g, og + i * 4 + 2, none⟩ = some (.slice E3 m3 d3) ∧ w'.cell? ⟨g, og + i * 4 + 3, none⟩ = some (.string x'.data))
     (go_keep)
     ((go_at_call 57; refine (at_any _ s N1 _ (HST1.out.below (by first | exact Cv.drewN_below (Below.refl _ _) 1 | exact (Cv.drewN_below (Below.refl _ _) 1).alloc (by simp) _))).mono ?_; rintro e5 w5 ⟨rfl, hb5⟩; rw [HAT.out]; have hbw5 : Below Z1.heap.size Z1 w5 := (by first | exact Cv.next (Cv.drewN_below (Below.refl _ _) 1) hb5 | exact Cv.next ((Cv.drewN_below (Below.refl _ _) 1).alloc (by simp) _) hb5); have z0 := (hbw5.cell (p := ⟨w.heap.size, 0, none⟩) hc01).trans p01; have z1 := (hbw5.cell (p := ⟨w.heap.size, 1, none⟩) hc01).trans p11; have z2 := (hbw5.cell (p := ⟨w.heap.size, 2, none⟩) hc01).trans p21; have f0 := (hbw5.cell (p := ⟨g, og + i * 4, none⟩) hg).trans e0; have f1 := (hbw5.cell (p := ⟨g, og + i * 4 + 1, none⟩) hg).trans e1; have f2 := (hbw5.cell (p := ⟨g, og + i * 4 + 2, none⟩) hg).trans e2; have f3 := (hbw5.cell (p := ⟨g, og + i * 4 + 3, none⟩) hg).trans e3; have hz5 := hbw5.size; have nC : w5.heap.size ≠ w.heap.size := (by omega); have nD : w5.heap.size ≠ g := (by omega); (first | (have am := row_kept hb5 (al1 Z1 (.cells #[.int .i64 0, .bool false, .slice none 0 0, .string ⟨#[]⟩] 52)); obtain ⟨m0, m1, m2', m3', mf⟩ := row4 am; have HAM := Lib.hid am; clear am) | skip)))
    all_goals (
     go_wp2_with fail
     go_meet)
    ·exact ⟨w5.heap.size, rfl, row_new w5 _ _ rfl, hbw5.alloc hz5 _⟩
    ·exact ⟨Z1.heap.size, rfl, heap_setCell_same _ _ 3 _ _ _ (heap_setCell_same _ _ 2 _ _ _ (heap_setCell_same _ _ 1 _ _ _ (heap_setCell_same _ _ 0 _ _ _ HAM.out))), (((hbw5.setCell (Nat.le_refl _) _).setCell (Nat.le_refl _) _).setCell (Nat.le_refl _) _).setCell (Nat.le_refl _) _⟩
   case rest =>
    obtain ⟨bx, rfl, hbx, hbb⟩ := hcut
    obtain ⟨b0, b1, b2, b3, _⟩ := row4 hbx
    generalize wc = Z2 at *
    have HF2 := Lib.hid (HF1.out.below hbb)
    have hbbk := hbb
    clear hX hbx hbb e0 e1 e2 e3
    obtain ⟨hc02, hc12, p02, p12, p22, c02, c52⟩ := HF2.out.vals
    rw [HKD.out] at c02
    have HE3b := Lib.hid (HE3.out.below hbbk)
    have hr := HR8.out
    rw [HKD.out] at hr
    obtain ⟨DXX, hDXX⟩ : ∃ DXX, x'.dir = DXX := ⟨_, rfl⟩
    rw [hDXX] at hr b1
    have HR7 := Lib.hid hr
    clear hr hDXX hbbk
    cases DXX
    ·have hr := HR7.out
     rw [if_pos rfl, if_pos rfl] at hr
     have HR6 := Lib.hid hr
     clear hr
     go_wp2_with fail
     refine (fail_any 7 _).mono ?_
     rintro e10 w10 ⟨rfl, hb10⟩
     have F10 := HF2.out.below hb10
     obtain ⟨g0, g1', g2', g3, g4, g5, gf⟩ := F10.res.get
     obtain ⟨W9, hW9, hr9, hb9, hk9⟩ := F10.six (.int .i64 7) (.int .i64 0) (.int .i64 0) (.bool false) (.string ⟨#[]⟩) (.slice none 0 0)
     have HR5 := Lib.hid hr9
     have HBF := Lib.hid hb9
     have HK9 := Lib.hid hk9
     clear F10 hr9 hb9 hk9 hb10
     go_wp2_with fail
     (try simp only [Exit.inBlock, Exit.then])
     refine ret_res rfl HR5.out rfl rfl ?_
     rw [show LV = _ from HR6.out.symm]
     exact ⟨_, rfl, ⟨none, 0, 0, rfl, ⟨by omega, fun _ => rfl⟩, ⟨rfl, fun h => absurd h (by omega)⟩⟩, HBF.out⟩
    ·have hr := HR7.out
     rw [if_pos rfl, if_neg (by decide)] at hr
     have HR6 := Lib.hid hr
     obtain ⟨RN, hRN⟩ : ∃ RN, x'.ents.map (·.name) = RN := ⟨_, rfl⟩
     have HRN := Lib.hid hRN
     have hbl : bx < Z2.heap.size := World.block_lt_of_cell? Z2 _ b2
     obtain ⟨is, his, hs0, hs1, hs2⟩ := info_parts infoStr9
     clear hr hRN
     go_wp2_with fail
     go_loopw [8, 9] (fun o j wr => ∃ (q : Nat) (V : Value), V = o ∧ j = .int .i64 q ∧ q ≤ m3 ∧ wr.ownsRow Z2.heap.size 9 1 V q ((RN.take q).map Value.string) ∧ Below Z2.heap.size Z2 wr) (fun _ j _ => m3 - (intOf j).toNat)
     case atStart => exact ⟨0, _, rfl, rfl, by omega, by simpa using World.ownsRow_nil _ _ _ _, Below.refl _ _⟩
     case round =>
      obtain ⟨q, V, hV, rfl, hq, hrow, hbel⟩ := hrel
      subst hV
      have y2 := (hbel.cell (p := ⟨bx, 2, .none⟩) hbl).trans b2
      have HEr := Lib.hid (HE3b.out.below hbel)
      have HB := Lib.hid hbel
      have HRW := Lib.hid hrow
      clear hrow hbel
      by_cases hlt : q < m3
      ·obtain ⟨g2, off2, y, rfl, hg2, hy, hdr, hmem, e0, e1⟩ := HEr.out.get q hlt
       have k0 : (0 : Int) ≤ (q : Int) := by omega
       have k1 : (q : Int) < (m3 : Int) := by omega
       have hry : RN[q]? = some y.name := by rw [← HRN.out, List.getElem?_map, hy]; rfl
       have HRY := Lib.hid hry
       clear hdr hmem hy hry
       go_wp2_with (at_builtin; refine wpList_append_own _ rfl _ _ 42 rfl Z2.heap.size 9 is (.string ⟨#[]⟩) 1 16 Tryz.underlying42 his hs0 hs1 hs2 rfl (by decide) _ q _ rfl (HRW.out.alloc _) ⟨wr.heap.size, 0, .none⟩ 1 1 [.string y.name] rfl rfl (new_one wr (.string y.name) _) ?ca2 ?ca3 ?ca4 ?ca5 ?_)
       case ca2 => first | (intro u hu; simp at hu; subst hu; rfl) | (simp; done) | rfl
       case ca3 => unfold maxLen; omega
       case ca4 => omega
       case ca5 => have := HB.out.size; first | omega | (simp; omega)
       intro v7 w7 hown hgrow _
       have hbel : Below Z2.heap.size Z2 w7 := (HB.out.alloc (by have := HB.out.size; simpa using this) _).grown hgrow (by have := HB.out.size; simp; omega) (fun k hk => (HRW.out.lt k hk).1)
       have HO7 := Lib.hid hown
       have HB7 := Lib.hid hbel
       clear hown hgrow hbel
       go_wp2_with fail
       go_roundw
       case rel => exact ⟨q + 1, _, rfl, by go_num, by omega, by rw [List.take_add_one, HRY.out, List.map_append, List.map_take]; exact HO7.out, HB7.out⟩
       case measure => simp [intOf]; omega
      ·have hqm : q = m3 := by omega
       subst hqm
       have hrl : RN.length = q := by rw [← HRN.out, List.length_map]; exact HE3b.out.1
       have hrow := HRW.out
       rw [List.take_of_length_le (by omega)] at hrow
       obtain ⟨AV, cV, hv, hokV, hNV⟩ := NmsAt.of_row hrow
       subst hv
       have HOK := Lib.hid hokV
       have HNV := Lib.hid hNV
       have HF3 := Lib.hid (HF2.out.below HB.out)
       obtain ⟨g0, g1', g2', g3, g4, g5, gf⟩ := HF3.out.res.get
       clear hrow hokV hNV hrl hlt
       have F10 := HF3.out
       obtain ⟨g0, g1', g2', g3, g4, g5, gf⟩ := F10.res.get
       obtain ⟨W9, hW9, hr9, hb9, hk9⟩ := F10.six (.int .i64 0) (.int .i64 0) (.int .i64 0) (.bool false) (.string ⟨#[]⟩) (.slice AV q cV)
       have HR5 := Lib.hid hr9
       have HBF := Lib.hid hb9
       have HK9 := Lib.hid hk9
       clear F10 hr9 hb9 hk9
       go_wp2_with fail
       (try simp only [Exit.inBlock, Exit.then])
       refine ret_res rfl HR5.out rfl rfl ?_
       rw [show LV = _ from HR6.out.symm]
       refine ⟨_, rfl, ⟨AV, q, cV, rfl, HOK.out, ?_⟩, HBF.out⟩
       show NmsAt _ _ _ _ (x'.ents.map (·.name))
       rw [HRN.out]
       exact (HNV.out.lower (by have := HF2.out.size; omega)).keep (HK9.out _ (by decide))
 ·subst hk
  go_enter Tryz.func70, Tryz.ntmps70
  go_wp2_with fail
  clear hW hW2 hW3
  refine (find_any _ s c.path _ HF.out.st HW.out hpz).mono ?_
  rintro ex Z1 ⟨rfl, hbx⟩
  rw [HFI.out]
  dsimp only
  have HF1 := Lib.hid (HF.out.below hbx)
  have HI1 := Lib.hid (HI.out.below hbx)
  clear hbx p0 p1 p2 c0 c5
  obtain ⟨hc01, hc11, p01, p11, p21, c01, c51⟩ := HF1.out.vals
  rw [HKD.out] at c01
  by_cases hcd : C1 = 0
  rotate_left
  ·have q1 : (C1 != 0) = true := by rw [bne_iff_ne]; exact hcd
   have hr := HLV.out
   rw [if_pos hcd] at hr
   have HR9 := Lib.hid hr
   clear hr hcd
   go_wp2_with fail
   refine (fail_any C1 _).mono ?_
   rintro e10 w10 ⟨rfl, hb10⟩
   have F10 := HF1.out.below hb10
   obtain ⟨g0, g1', g2', g3, g4, g5, gf⟩ := F10.res.get
   obtain ⟨W9, hW9, hr9, hb9, hk9⟩ := F10.six (.int .i64 C1) (.int .i64 0) (.int .i64 0) (.bool false) (.string ⟨#[]⟩) (.slice none 0 0)
   have HR5 := Lib.hid hr9
   have HBF := Lib.hid hb9
   have HK9 := Lib.hid hk9
   clear F10 hr9 hb9 hk9 hb10
   go_wp2_with fail
   (try simp only [Exit.inBlock, Exit.then])
   refine ret_res rfl HR5.out rfl rfl ?_
   rw [show LV = _ from HR9.out.symm]
   exact ⟨_, rfl, ⟨none, 0, 0, rfl, ⟨by omega, fun _ => rfl⟩, ⟨rfl, fun h => absurd h (by omega)⟩⟩, HBF.out⟩
  ·subst hcd
   have hr := HLV.out
   rw [if_neg (by decide)] at hr
   obtain ⟨i, x, hat, hx, hxn⟩ := atV_some (HAT0.out rfl)
   have hda : dirAt s.inos N1 = x.dir := by unfold dirAt; rw [hat, inoAt_nat, hx]
   have hen : entsOf s.inos N1 = x.ents := by unfold entsOf; rw [hat, inoAt_nat, hx]
   have hdt : dataAt s.inos N1 = x.data := by unfold dataAt; rw [hat, inoAt_nat, hx]
   rw [hda, hen, hdt] at hr
   have HR8 := Lib.hid hr
   have HAT := Lib.hid hat
   have hin : i < n := by have := (List.getElem?_eq_some_iff.1 hx).1; have := HI1.out.1; omega
   obtain ⟨g, og, x', E3, m3, d3, hA1, hg, hx', _, hmem, e0, e1, e2, hok3, hE3, e3⟩ := HI1.out.get i hin
   subst hA1
   have ex : x' = x := by rw [hx] at hx'; exact (Option.some.inj hx').symm
   subst ex
   have i0 : (0 : Int) ≤ (i : Int) := by omega
   have i1 : (i : Int) < (n : Int) := by omega
   have HE3 := Lib.hid hE3
   have hm3 : m3 ≤ 1099511627776 := by have := hE3.1; have := bulkE_le hx; omega
   have HST1 := Lib.hid HF1.out.st
   clear hr hat hx hx' hmem hda hen hdt hok3 hE3 hxn
   have hX : True := trivial
   go_upto_region 4 with fail
   go_cut [7] (fun pv wx => ∃ b, pv = .pointer (some ⟨b, 0, .none⟩) ∧ wx.heap[b]? = some (.cells #[.int .i64 x'.num, .bool x'.dir, .slice E3 m3 d3, .string x'.data] 52 (0, 0)) ∧ Below Z1.heap.size Z1 wx)
   case first =>
    have nA : Z1.heap.size ≠ w.heap.size := by omega
    have nB : Z1.heap.size ≠ g := by omega
    go_region_held3 (fun w' => w'.cell? ⟨w.heap.size, 0, none⟩ = some (.slice (some ⟨g, og, none⟩) n cp) ∧ w'.cell? ⟨w.heap.size, 1, none⟩ = some (.slice E m d) ∧ w'.cell? ⟨w.heap.size, 2, none⟩ = some (.slice D k e) ∧ w'.cell? ⟨g, og + i * 4, none⟩ = some (.int .i64 x'.num) ∧ w'.cell? ⟨g, og + i * 4 + 1, none⟩ = some (.bool x'.dir) ∧ w'.cell? ⟨g, og + i * 4 + 2, none⟩ = some (.slice E3 m3 d3) ∧ w'.cell? ⟨g, og + i * 4 + 3, none⟩ = some (.string x'.data))
     (go_keep)
     ((go_at_call 57; refine (at_any _ s N1 _ (HST1.out.below (by first | exact Cv.drewN_below (Below.refl _ _) 1 | exact (Cv.drewN_below (Below.refl _ _) 1).alloc (by simp) _))).mono ?_; rintro e5 w5 ⟨rfl, hb5⟩; rw [HAT.out]; have hbw5 : Below Z1.heap.size Z1 w5 := (by first | exact Cv.next (Cv.drewN_below (Below.refl _ _) 1) hb5 | exact Cv.next ((Cv.drewN_below (Below.refl _ _) 1).alloc (by simp) _) hb5); have z0 := (hbw5.cell (p := ⟨w.heap.size, 0, none⟩) hc01).trans p01; have z1 := (hbw5.cell (p := ⟨w.heap.size, 1, none⟩) hc01).trans p11; have z2 := (hbw5.cell (p := ⟨w.heap.size, 2, none⟩) hc01).trans p21; have f0 := (hbw5.cell (p := ⟨g, og + i * 4, none⟩) hg).trans e0; have f1 := (hbw5.cell (p := ⟨g, og + i * 4 + 1, none⟩) hg).trans e1; have f2 := (hbw5.cell (p := ⟨g, og + i * 4 + 2, none⟩) hg).trans e2; have f3 := (hbw5.cell (p := ⟨g, og + i * 4 + 3, none⟩) hg).trans e3; have hz5 := hbw5.size; have nC : w5.heap.size ≠ w.heap.size := (by omega); have nD : w5.heap.size ≠ g := (by omega); (first | (have am := row_kept hb5 (al1 Z1 (.cells #[.int .i64 0, .bool false, .slice none 0 0, .string ⟨#[]⟩] 52)); obtain ⟨m0, m1, m2', m3', mf⟩ := row4 am; have HAM := Lib.hid am; clear am) | skip)))
    all_goals (
     go_wp2_with fail
     go_meet)
    ·exact ⟨w5.heap.size, rfl, row_new w5 _ _ rfl, hbw5.alloc hz5 _⟩
    ·exact ⟨Z1.heap.size, rfl, heap_setCell_same _ _ 3 _ _ _ (heap_setCell_same _ _ 2 _ _ _ (heap_setCell_same _ _ 1 _ _ _ (heap_setCell_same _ _ 0 _ _ _ HAM.out))), (((hbw5.setCell (Nat.le_refl _) _).setCell (Nat.le_refl _) _).setCell (Nat.le_refl _) _).setCell (Nat.le_refl _) _⟩
   case rest =>
    obtain ⟨bx, rfl, hbx, hbb⟩ := hcut
    obtain ⟨b0, b1, b2, b3, _⟩ := row4 hbx
    generalize wc = Z2 at *
    have HF2 := Lib.hid (HF1.out.below hbb)
    have hbbk := hbb
    clear hX hbx hbb e0 e1 e2 e3
    obtain ⟨hc02, hc12, p02, p12, p22, c02, c52⟩ := HF2.out.vals
    rw [HKD.out] at c02
    have HE3b := Lib.hid (HE3.out.below hbbk)
    have hr := HR8.out
    rw [HKD.out] at hr
    obtain ⟨DXX, hDXX⟩ : ∃ DXX, x'.dir = DXX := ⟨_, rfl⟩
    rw [hDXX] at hr b1
    have HR7 := Lib.hid hr
    clear hr hDXX hbbk
    have hr := HR7.out
    rw [if_neg (by decide), if_pos rfl] at hr
    have HR6 := Lib.hid hr
    clear hr
    obtain ⟨g0, g1', g2', g3, g4, g5, gf⟩ := HF2.out.res.get
    have F10 := HF2.out
    obtain ⟨g0, g1', g2', g3, g4, g5, gf⟩ := F10.res.get
    obtain ⟨W9, hW9, hr9, hb9, hk9⟩ := F10.six (.int .i64 0) (.int .i64 0) (.int .i64 (x'.data.size : Nat)) (.bool DXX) (.string ⟨#[]⟩) (.slice none 0 0)
    have HR5 := Lib.hid hr9
    have HBF := Lib.hid hb9
    have HK9 := Lib.hid hk9
    clear F10 hr9 hb9 hk9
    go_wp2_with fail
    (try simp only [Exit.inBlock, Exit.then])
    refine ret_res rfl HR5.out rfl rfl ?_
    rw [show LV = _ from HR6.out.symm]
    exact ⟨_, rfl, ⟨none, 0, 0, rfl, ⟨by omega, fun _ => rfl⟩, ⟨rfl, fun h => absurd h (by omega)⟩⟩, HBF.out⟩
 ·subst hk
  go_enter Tryz.func70, Tryz.ntmps70
  go_wp2_with fail
  clear hW hW2 hW3
  refine (find_any _ s c.path _ HF.out.st HW.out hpz).mono ?_
  rintro ex Z1 ⟨rfl, hbx⟩
  rw [HFI.out]
  dsimp only
  have HF1 := Lib.hid (HF.out.below hbx)
  have HI1 := Lib.hid (HI.out.below hbx)
  clear hbx p0 p1 p2 c0 c5
  obtain ⟨hc01, hc11, p01, p11, p21, c01, c51⟩ := HF1.out.vals
  rw [HKD.out] at c01
  by_cases hcd : C1 = 0
  rotate_left
  ·have q1 : (C1 != 0) = true := by rw [bne_iff_ne]; exact hcd
   have hr := HLV.out
   rw [if_pos hcd] at hr
   have HR9 := Lib.hid hr
   clear hr hcd
   go_wp2_with fail
   refine (fail_any C1 _).mono ?_
   rintro e10 w10 ⟨rfl, hb10⟩
   have F10 := HF1.out.below hb10
   obtain ⟨g0, g1', g2', g3, g4, g5, gf⟩ := F10.res.get
   obtain ⟨W9, hW9, hr9, hb9, hk9⟩ := F10.six (.int .i64 C1) (.int .i64 0) (.int .i64 0) (.bool false) (.string ⟨#[]⟩) (.slice none 0 0)
   have HR5 := Lib.hid hr9
   have HBF := Lib.hid hb9
   have HK9 := Lib.hid hk9
   clear F10 hr9 hb9 hk9 hb10
   go_wp2_with fail
   (try simp only [Exit.inBlock, Exit.then])
   refine ret_res rfl HR5.out rfl rfl ?_
   rw [show LV = _ from HR9.out.symm]
   exact ⟨_, rfl, ⟨none, 0, 0, rfl, ⟨by omega, fun _ => rfl⟩, ⟨rfl, fun h => absurd h (by omega)⟩⟩, HBF.out⟩
  ·subst hcd
   have hr := HLV.out
   rw [if_neg (by decide)] at hr
   obtain ⟨i, x, hat, hx, hxn⟩ := atV_some (HAT0.out rfl)
   have hda : dirAt s.inos N1 = x.dir := by unfold dirAt; rw [hat, inoAt_nat, hx]
   have hen : entsOf s.inos N1 = x.ents := by unfold entsOf; rw [hat, inoAt_nat, hx]
   have hdt : dataAt s.inos N1 = x.data := by unfold dataAt; rw [hat, inoAt_nat, hx]
   rw [hda, hen, hdt] at hr
   have HR8 := Lib.hid hr
   have HAT := Lib.hid hat
   have hin : i < n := by have := (List.getElem?_eq_some_iff.1 hx).1; have := HI1.out.1; omega
   obtain ⟨g, og, x', E3, m3, d3, hA1, hg, hx', _, hmem, e0, e1, e2, hok3, hE3, e3⟩ := HI1.out.get i hin
   subst hA1
   have ex : x' = x := by rw [hx] at hx'; exact (Option.some.inj hx').symm
   subst ex
   have i0 : (0 : Int) ≤ (i : Int) := by omega
   have i1 : (i : Int) < (n : Int) := by omega
   have HE3 := Lib.hid hE3
   have hm3 : m3 ≤ 1099511627776 := by have := hE3.1; have := bulkE_le hx; omega
   have HST1 := Lib.hid HF1.out.st
   clear hr hat hx hx' hmem hda hen hdt hok3 hE3 hxn
   have hX : True := trivial
   go_upto_region 4 with fail
   go_cut [7] (fun pv wx => ∃ b, pv = .pointer (some ⟨b, 0, .none⟩) ∧ wx.heap[b]? = some (.cells #[.int .i64 x'.num, .bool x'.dir, .slice E3 m3 d3, .string x'.data] 52 (0, 0)) ∧ Below Z1.heap.size Z1 wx)
   case first =>
    have nA : Z1.heap.size ≠ w.heap.size := by omega
    have nB : Z1.heap.size ≠ g := by omega
    go_region_held3 (fun w' => w'.cell? ⟨w.heap.size, 0, none⟩ = some (.slice (some ⟨g, og, none⟩) n cp) ∧ w'.cell? ⟨w.heap.size, 1, none⟩ = some (.slice E m d) ∧ w'.cell? ⟨w.heap.size, 2, none⟩ = some (.slice D k e) ∧ w'.cell? ⟨g, og + i * 4, none⟩ = some (.int .i64 x'.num) ∧ w'.cell? ⟨g, og + i * 4 + 1, none⟩ = some (.bool x'.dir) ∧ w'.cell? ⟨g, og + i * 4 + 2, none⟩ = some (.slice E3 m3 d3) ∧ w'.cell? ⟨g, og + i * 4 + 3, none⟩ = some (.string x'.data))
     (go_keep)
     ((go_at_call 57; refine (at_any _ s N1 _ (HST1.out.below (by first | exact Cv.drewN_below (Below.refl _ _) 1 | exact (Cv.drewN_below (Below.refl _ _) 1).alloc (by simp) _))).mono ?_; rintro e5 w5 ⟨rfl, hb5⟩; rw [HAT.out]; have hbw5 : Below Z1.heap.size Z1 w5 := (by first | exact Cv.next (Cv.drewN_below (Below.refl _ _) 1) hb5 | exact Cv.next ((Cv.drewN_below (Below.refl _ _) 1).alloc (by simp) _) hb5); have z0 := (hbw5.cell (p := ⟨w.heap.size, 0, none⟩) hc01).trans p01; have z1 := (hbw5.cell (p := ⟨w.heap.size, 1, none⟩) hc01).trans p11; have z2 := (hbw5.cell (p := ⟨w.heap.size, 2, none⟩) hc01).trans p21; have f0 := (hbw5.cell (p := ⟨g, og + i * 4, none⟩) hg).trans e0; have f1 := (hbw5.cell (p := ⟨g, og + i * 4 + 1, none⟩) hg).trans e1; have f2 := (hbw5.cell (p := ⟨g, og + i * 4 + 2, none⟩) hg).trans e2; have f3 := (hbw5.cell (p := ⟨g, og + i * 4 + 3, none⟩) hg).trans e3; have hz5 := hbw5.size; have nC : w5.heap.size ≠ w.heap.size := (by omega); have nD : w5.heap.size ≠ g := (by omega); (first | (have am := row_kept hb5 (al1 Z1 (.cells #[.int .i64 0, .bool false, .slice none 0 0, .string ⟨#[]⟩] 52)); obtain ⟨m0, m1, m2', m3', mf⟩ := row4 am; have HAM := Lib.hid am; clear am) | skip)))
    all_goals (
     go_wp2_with fail
     go_meet)
    ·exact ⟨w5.heap.size, rfl, row_new w5 _ _ rfl, hbw5.alloc hz5 _⟩
    ·exact ⟨Z1.heap.size, rfl, heap_setCell_same _ _ 3 _ _ _ (heap_setCell_same _ _ 2 _ _ _ (heap_setCell_same _ _ 1 _ _ _ (heap_setCell_same _ _ 0 _ _ _ HAM.out))), (((hbw5.setCell (Nat.le_refl _) _).setCell (Nat.le_refl _) _).setCell (Nat.le_refl _) _).setCell (Nat.le_refl _) _⟩
   case rest =>
    obtain ⟨bx, rfl, hbx, hbb⟩ := hcut
    obtain ⟨b0, b1, b2, b3, _⟩ := row4 hbx
    generalize wc = Z2 at *
    have HF2 := Lib.hid (HF1.out.below hbb)
    have hbbk := hbb
    clear hX hbx hbb e0 e1 e2 e3
    obtain ⟨hc02, hc12, p02, p12, p22, c02, c52⟩ := HF2.out.vals
    rw [HKD.out] at c02
    have HE3b := Lib.hid (HE3.out.below hbbk)
    have hr := HR8.out
    rw [HKD.out] at hr
    obtain ⟨DXX, hDXX⟩ : ∃ DXX, x'.dir = DXX := ⟨_, rfl⟩
    rw [hDXX] at hr b1
    have HR7 := Lib.hid hr
    clear hr hDXX hbbk
    cases DXX
    ·have hr := HR7.out
     rw [if_neg (by decide), if_neg (by decide), if_neg (by decide)] at hr
     have HR6 := Lib.hid hr
     clear hr
     go_wp2_with fail
     refine (links_any _ s N1 _ HF2.out.st).mono ?_
     rintro ex Z3 ⟨rfl, hbx⟩
     have HF3 := Lib.hid (HF2.out.below hbx)
     obtain ⟨g0, g1', g2', g3, g4, g5, gf⟩ := HF3.out.res.get
     clear hbx p02 p12 p22 c02 c52 b0 b1 b2 b3
     have F10 := HF3.out
     obtain ⟨g0, g1', g2', g3, g4, g5, gf⟩ := F10.res.get
     obtain ⟨W9, hW9, hr9, hb9, hk9⟩ := F10.six (.int .i64 0) (.int .i64 0) (.int .i64 (linkI s.inos N1 : Nat)) (.bool false) (.string ⟨#[]⟩) (.slice none 0 0)
     have HR5 := Lib.hid hr9
     have HBF := Lib.hid hb9
     have HK9 := Lib.hid hk9
     clear F10 hr9 hb9 hk9
     go_wp2_with fail
     (try simp only [Exit.inBlock, Exit.then])
     refine ret_res rfl HR5.out rfl rfl ?_
     rw [show LV = _ from HR6.out.symm]
     exact ⟨_, rfl, ⟨none, 0, 0, rfl, ⟨by omega, fun _ => rfl⟩, ⟨rfl, fun h => absurd h (by omega)⟩⟩, HBF.out⟩
    ·have hr := HR7.out
     rw [if_neg (by decide), if_neg (by decide), if_pos rfl] at hr
     have HR6 := Lib.hid hr
     clear hr
     go_wp2_with fail
     refine (fail_any 8 _).mono ?_
     rintro e10 w10 ⟨rfl, hb10⟩
     have F10 := HF2.out.below hb10
     obtain ⟨g0, g1', g2', g3, g4, g5, gf⟩ := F10.res.get
     obtain ⟨W9, hW9, hr9, hb9, hk9⟩ := F10.six (.int .i64 8) (.int .i64 0) (.int .i64 0) (.bool false) (.string ⟨#[]⟩) (.slice none 0 0)
     have HR5 := Lib.hid hr9
     have HBF := Lib.hid hb9
     have HK9 := Lib.hid hk9
     clear F10 hr9 hb9 hk9 hb10
     go_wp2_with fail
     (try simp only [Exit.inBlock, Exit.then])
     refine ret_res rfl HR5.out rfl rfl ?_
     rw [show LV = _ from HR6.out.symm]
     exact ⟨_, rfl, ⟨none, 0, 0, rfl, ⟨by omega, fun _ => rfl⟩, ⟨rfl, fun h => absurd h (by omega)⟩⟩, HBF.out⟩
end Go.Proofs.YthhceopnnappgaaGreatDoor
