/- Parts of the proof, side by side: FsSweep, FsFr, FsWithin. -/
import Derived.Test.YthhceopnnappgaaGreatDoorM10
import Derived.Test.YthhceopnnappgaaGreatDoorFsMake
set_option linter.unusedVariables false
set_option linter.unusedSimpArgs false
namespace Go.Proofs.YthhceopnnappgaaGreatDoor
open Go.RowKit
theorem dropI_mem : ∀ (is : List Ino) (num : Int) (x : Ino), x ∈ dropI is num → x ∈ is
 | [], _, _, h => by simp [dropI] at h
 | y :: is, num, x, h => by
  unfold dropI at h
  split at h
  ·exact List.mem_cons_of_mem _ (dropI_mem is num x h)
  ·rcases List.mem_cons.1 h with rfl | h
   ·exact List.mem_cons_self
   ·exact List.mem_cons_of_mem _ (dropI_mem is num x h)
theorem dropI_len : ∀ (is : List Ino) (num : Int), (dropI is num).length ≤ is.length ∧ bulkE (dropI is num) ≤ bulkE is
 | [], _ => ⟨Nat.le_refl _, Nat.le_refl _⟩
 | y :: is, num => by
  have ⟨h1, h2⟩ := dropI_len is num
  have e : bulkE (y :: is) = y.ents.length + bulkE is := rfl
  unfold dropI
  split
  ·exact ⟨by rw [List.length_cons]; omega, by omega⟩
  ·have e' : bulkE (y :: dropI is num) = y.ents.length + bulkE (dropI is num) := rfl
   exact ⟨by rw [List.length_cons, List.length_cons]; omega, by omega⟩
theorem Sized.dropI {s : St} (h : Sized s) (num : Int) : Sized { s with inos := Go.Proofs.YthhceopnnappgaaGreatDoor.dropI s.inos num } := by
 have ⟨h1, h2⟩ := dropI_len s.inos num
 refine ⟨?_, fun x hx => h.text x (dropI_mem _ _ _ hx), fun x hx => h.nums.1 x (dropI_mem _ _ _ hx), h.nums.2⟩
 have := h.big
 show (Go.Proofs.YthhceopnnappgaaGreatDoor.dropI s.inos num).length + bulkE (Go.Proofs.YthhceopnnappgaaGreatDoor.dropI s.inos num) + s.opn.length + s.made.length ≤ _
 omega
set_option maxRecDepth 100000 in
set_option maxHeartbeats 8000000 in
theorem sweep_any (B p : Nat) (s : St) (num : Int) (w : World) (h : Own B w p s) (hB : B ≤ w.heap.size) :
  Calls Tryz.prog 92 #[.pointer (some ⟨p, 0, .none⟩), .int .i64 num] w fun e w' => e = .returned (.tuple #[]) ∧ Own B w' p (sweepV s num) ∧ Below B w w' ∧ Aside p w w' := by
 obtain ⟨A, n, c, E, m, d, D, k, e, hBp, hp, c0, c1, c2, fz, hst, hI, hD, hM⟩ := h.val
 have hbig := h.sized.big
 have hn2 : n ≤ 1099511627776 := by have := hI.1; omega
 obtain ⟨SV, hSV⟩ : ∃ SV, sweepV s num = SV := ⟨_, rfl⟩
 rw [hSV]
 obtain ⟨LK, hLK⟩ : ∃ LK, linkI s.inos num = LK := ⟨_, rfl⟩
 obtain ⟨OP, hOP⟩ : ∃ OP, openB s.opn num = OP := ⟨_, rfl⟩
 have hsv := hSV
 unfold sweepV at hsv
 rw [hLK, hOP] at hsv
 have HO := Lib.hid h
 have HST := Lib.hid hst.weak
 have HLK := Lib.hid hLK
 have HOP := Lib.hid hOP
 have HC0 := Lib.hid c0
 have HC1 := Lib.hid c1
 have HC2 := Lib.hid c2
 clear h hst hI hD hM hbig hSV hLK hOP
 go_enter Tryz.func92, Tryz.ntmps92
 by_cases hl : 0 < LK
 ·rw [if_pos (.inl hl)] at hsv
  subst hsv
  have q1 : decide ((0 : Int) < (LK : Int)) = true := by rw [decide_eq_true_eq]; omega
  have q1' : decide (0 < LK) = true := by rw [decide_eq_true_eq]; omega
  go_wp2_with fail
  refine (links_any _ s num _ HST.out).mono ?_
  rintro e1 w1 ⟨rfl, hb1⟩
  rw [HLK.out]
  have HB1 := Lib.hid hb1
  clear hb1 hl
  go_wp2_with fail
  go_returns
  exact ⟨rfl, HO.out.below HB1.out, HB1.out.mono hB, Aside.below HB1.out⟩
 ·have hl0 : LK = 0 := by omega
  subst hl0
  cases OP
  ·rw [if_neg (by simp)] at hsv
   subst hsv
   obtain ⟨RI, hRI⟩ : ∃ RI, dropI s.inos num = RI := ⟨_, rfl⟩
   have HRI := Lib.hid hRI
   rw [hRI]
   clear hRI hl
   go_wp2_with fail
   refine (links_any _ s num _ HST.out).mono ?_
   rintro e1 w1 ⟨rfl, hb1⟩
   rw [HLK.out]
   have p0 := (hb1.cell (p := ⟨p, 0, .none⟩) hp).trans HC0.out
   have p1 := (hb1.cell (p := ⟨p, 1, .none⟩) hp).trans HC1.out
   have p2 := (hb1.cell (p := ⟨p, 2, .none⟩) hp).trans HC2.out
   have HST1 := Lib.hid (HST.out.below hb1)
   have HO1 := Lib.hid (HO.out.below hb1)
   have HB1 := Lib.hid hb1
   have hp1 : p < w1.heap.size := Nat.lt_of_lt_of_le hp hb1.size
   clear hb1 c0 c1 c2 fz
   go_wp2_with fail
   refine (isopen_any _ s num _ HST1.out).mono ?_
   rintro e2 Z6 ⟨rfl, hb2⟩
   rw [HOP.out]
   have c60 := (hb2.cell (p := ⟨p, 0, .none⟩) hp1).trans p0
   have HBZ := Lib.hid (HB1.out.trans (hb2.mono HB1.out.size))
   have ho6 := HO1.out.below hb2
   have hp6 : p < Z6.heap.size := Nat.lt_of_lt_of_le hp1 hb2.size
   obtain ⟨A6, n6, cp6, E6, m6, d6, D6, k6, e6, _, _, c60', _, _, fz6, _, hi6, _, _⟩ := ho6.val
   have ec : (some (Value.slice A n c)) = some (Value.slice A6 n6 cp6) := c60.symm.trans c60'
   injection ec with ec
   injection ec with e1 e2 e3
   subst e1 e2 e3
   have f60 := fz6 0
   have HI6 := Lib.hid hi6
   have HO6 := Lib.hid ho6
   obtain ⟨i1, hi1, hq0, hq1, hq2⟩ := info_parts infoIno
   clear hb2 p0 p1 p2 ho6 hi6 fz6 c60'
   go_wp2_with fail
   go_loopw [4, 5] (fun o j wr => ∃ (q : Nat) (V : Value) (zs : List (Ino × Value)), V = o ∧ j = .int .i64 q ∧ q ≤ n ∧ wr.ownsRow Z6.heap.size 52 4 V zs.length (zs.flatMap inoV) ∧ (∀ z ∈ zs, ∃ A m c, z.2 = .slice A m c ∧ SlOk A m c ∧ EntsAt (some B) wr A m z.1.ents) ∧ Below Z6.heap.size Z6 wr ∧ zs.map Prod.fst ++ dropI (s.inos.drop q) num = RI ∧ zs.length ≤ q) (fun _ j _ => n - (intOf j).toNat)
   case atStart => exact ⟨0, _, [], rfl, rfl, by omega, World.ownsRow_nil _ _ _ _, by simp, Below.refl _ _, HRI.out, by simp⟩
   case round =>
    obtain ⟨q, V, zs, hV, rfl, hq, hrow, hents, hbel, hc, hlen⟩ := hrel
    subst hV
    have p0 := (hbel.cell (p := ⟨p, 0, .none⟩) hp6).trans c60
    have HIr := Lib.hid (HI6.out.below hbel)
    have HB := Lib.hid hbel
    have HENT := Lib.hid hents
    obtain ⟨L, hL⟩ : ∃ L, zs.length = L := ⟨_, rfl⟩
    rw [hL] at hrow
    have hlq : L ≤ q := by omega
    have HL := Lib.hid hL
    have HR2 := Lib.hid hrow
    clear hrow hents hbel hL hlen
    by_cases hlt : q < n
    ·obtain ⟨g2, off2, y, E3, m3, d3, rfl, hg2, hy, hdr, _, e0, e1, e2, hok3, hE3, e3⟩ := HIr.out.get q hlt
     rw [hdr] at hc
     have k0 : (0 : Int) ≤ (q : Int) := by omega
     have k1 : (q : Int) < (n : Int) := by omega
     have HE3 := Lib.hid hE3
     have HOK3 := Lib.hid hok3
     clear hdr hy hE3 hok3
     by_cases hne : y.num = num
     ·have hstep : zs.map Prod.fst ++ dropI (s.inos.drop (q + 1)) num = RI := by
       have h9 := hc
       rw [dropI, if_pos hne] at h9
       exact h9
      have q9 : (y.num != num) = false := by rw [bne_eq_false_iff_eq]; exact hne
      have HC := Lib.hid hstep
      clear hc hstep hne
      go_wp2_with fail
      go_roundw
      case rel => exact ⟨q + 1, _, zs, rfl, by go_num, by omega, by rw [HL.out]; exact HR2.out, HENT.out, HB.out, HC.out, by rw [HL.out]; omega⟩
      case measure => simp [intOf]; omega
     ·have hstep : (zs.map Prod.fst ++ [y]) ++ dropI (s.inos.drop (q + 1)) num = RI := by
       have h9 := hc
       rw [dropI, if_neg hne] at h9
       rw [List.append_assoc]
       exact h9
      have q9 : (y.num != num) = true := by rw [bne_iff_ne]; exact hne
      have HC := Lib.hid hstep
      clear hc hstep hne
      go_wp2_with (at_builtin; refine wpList_append_own _ rfl _ _ 22 rfl Z6.heap.size 52 i1 (.agg #[.int .i64 0, .bool false, .slice none 0 0, .string ⟨#[]⟩]) 4 56 Tryz.underlying22 hi1 hq0 hq1 hq2 rfl (by decide) _ L _ rfl (HR2.out.alloc _) ⟨wr.heap.size, 0, .none⟩ 1 1 [.int .i64 y.num, .bool y.dir, .slice E3 m3 d3, .string y.data] rfl rfl (new_four wr [.int .i64 y.num, .bool y.dir, .slice E3 m3 d3, .string y.data] _) ?ca2 ?ca3 ?ca4 ?ca5 ?_)
      case ca2 => first | (intro u hu; simp at hu; rcases hu with rfl | rfl | rfl | rfl <;> rfl) | (simp; done) | exact ⟨rfl, rfl, rfl, rfl⟩
      case ca3 => unfold maxLen; omega
      case ca4 => omega
      case ca5 => have := HB.out.size; first | omega | (simp; omega)
      intro v7 w7 hown hgrow _
      have hbel : Below Z6.heap.size Z6 w7 := (HB.out.alloc (by have := HB.out.size; simpa using this) _).grown hgrow (by have := HB.out.size; simp; omega) (fun k hk => (HR2.out.lt k hk).1)
      have hkE : KeepT 84 wr w7 := (KeepT.below ((Below.refl _ _).alloc (Nat.le_refl _) (.cells #[.int .i64 y.num, .bool y.dir, .slice E3 m3 d3, .string y.data] 52))).trans (KeepT.grown (HR2.out.alloc _) hgrow (by decide))
      have EN8 : ∀ z ∈ zs ++ [(y, Value.slice E3 m3 d3)], ∃ A m c, z.2 = .slice A m c ∧ SlOk A m c ∧ EntsAt (some B) w7 A m z.1.ents := by
       intro z hz
       simp only [List.mem_append, List.mem_singleton] at hz
       rcases hz with hz | hz
       ·obtain ⟨A7, m7, c7, h71, h72, h73⟩ := HENT.out z hz
        exact ⟨A7, m7, c7, h71, h72, h73.keep hkE⟩
       ·subst hz
        exact ⟨E3, m3, d3, rfl, HOK3.out, HE3.out.keep hkE⟩
      have HO7 := Lib.hid hown
      have HB7 := Lib.hid hbel
      have HEN8 := Lib.hid EN8
      clear hown hgrow hbel hkE EN8
      go_wp2_with fail
      go_roundw
      case rel => exact ⟨q + 1, _, zs ++ [(y, Value.slice E3 m3 d3)], rfl, by go_num, by omega, by rw [List.length_append, HL.out, List.flatMap_append]; exact HO7.out, HEN8.out, HB7.out, by rw [List.map_append]; exact HC.out, by rw [List.length_append, HL.out]; simp; omega⟩
      case measure => simp [intOf]; omega
    ·have hnil : s.inos.drop q = [] := List.drop_eq_nil_of_le (by have := HI6.out.1; omega)
     rw [hnil] at hc
     have HC := Lib.hid (show zs.map Prod.fst ++ [] = RI from hc)
     have hBZ := HBZ.out.size
     have hino : InoRow B wr V L zs := ⟨by exact row_mono HR2.out (by omega), HENT.out⟩
     obtain ⟨AV, cV, hv, hcV, hnV, hIV⟩ := InosAt.of_row hino
     subst hv
     rw [show zs.map Prod.fst = RI by rw [← HC.out, List.append_nil]] at hIV
     have pf := (HB.out.frozen (p := ⟨p, 0, .none⟩) hp6).trans f60
     have hown7 := (HO6.out.below HB.out).setInos (is := RI) hIV ⟨hcV, fun e => (hnV e).2⟩ (by rw [← HRI.out]; exact HO6.out.sized.dropI num)
     obtain ⟨_, _, _, _, _, _, _, _, _, _, hpb, _⟩ := (HO6.out.below HB.out).at_
     have ha7 : Aside p w (wr.setCell ⟨p, 0, .none⟩ (.slice AV L cV)) := ((Aside.below HBZ.out).trans (Aside.below HB.out)).trans (Aside.set hpb (.inr (.inr rfl)))
     have hb7 : Below B w (wr.setCell ⟨p, 0, .none⟩ (.slice AV L cV)) := ((HBZ.out.mono hB).trans (HB.out.mono (by omega))).setCell (by exact hBp) _
     have HOWN7 := Lib.hid hown7
     have HA7 := Lib.hid ha7
     have HB7 := Lib.hid hb7
     clear hc hnil hino hcV hnV hIV hown7 hpb ha7 hb7
     go_wp2_with fail
     go_returns
     exact ⟨rfl, HOWN7.out, HB7.out, HA7.out⟩
  ·rw [if_pos (.inr rfl)] at hsv
   subst hsv
   clear hl
   go_wp2_with fail
   refine (links_any _ s num _ HST.out).mono ?_
   rintro e1 w1 ⟨rfl, hb1⟩
   rw [HLK.out]
   have p0 := (hb1.cell (p := ⟨p, 0, .none⟩) hp).trans HC0.out
   have p1 := (hb1.cell (p := ⟨p, 1, .none⟩) hp).trans HC1.out
   have p2 := (hb1.cell (p := ⟨p, 2, .none⟩) hp).trans HC2.out
   have HST1 := Lib.hid (HST.out.below hb1)
   have HB1 := Lib.hid hb1
   clear hb1 c0 c1 c2 fz
   go_wp2_with fail
   refine (isopen_any _ s num _ HST1.out).mono ?_
   rintro e2 w2 ⟨rfl, hb2⟩
   rw [HOP.out]
   have HB2 := Lib.hid (HB1.out.trans (hb2.mono HB1.out.size))
   clear hb2 p0 p1 p2
   go_wp2_with fail
   go_returns
   exact ⟨rfl, HO.out.below HB2.out, HB2.out.mono hB, Aside.below HB2.out⟩
def caRow (c : Ca) : Obj := .cells #[.int .i64 c.kind, .int .i64 c.core, .int .i64 c.fd, .int .i64 c.off, .int .i64 c.num, .string c.path, .string c.path2, .string c.data] 40 (0, 0)
structure Fr (B p : Nat) (s : St) (c : Ca) (w0 w : World) : Prop where
 own : Own B w p s
 call : w.heap[w0.heap.size]? = some (caRow c)
 res : ResAt w (w0.heap.size + 1) (.int .i64 0) (.int .i64 0) (.int .i64 0) (.bool false) (.string ⟨#[]⟩) (.slice none 0 0)
 bel : Below B w0 w
 aside : Aside p w0 w
 size : w0.heap.size + 2 ≤ w.heap.size
 hp : p < w0.heap.size
 hB : B ≤ w0.heap.size
theorem Fr.below {B p : Nat} {s : St} {c : Ca} {w0 w w' : World} (h : Fr B p s c w0 w) (hb : Below w.heap.size w w') : Fr B p s c w0 w' :=
 ⟨h.own.below hb, (hb.block _ (by have := h.size; omega)).trans h.call, (hb.block _ h.res.lt).trans h.res, h.bel.trans (hb.mono (by have := h.size; have := h.hB; omega)), h.aside.trans (Aside.below hb), Nat.le_trans h.size hb.size, h.hp, h.hB⟩
theorem Fr.step {B p : Nat} {s s' : St} {c : Ca} {w0 w w' : World} (h : Fr B p s c w0 w) (ho : Own B w' p s') (hb : Below B w w') (ha : Aside p w w') : Fr B p s' c w0 w' := by
 have hp := h.hp
 exact ⟨ho, (ha.same _ _ _ h.call (by decide) (by decide) (by omega)).trans h.call, (ha.same _ _ _ h.res (by decide) (by decide) (by omega)).trans h.res, h.bel.trans hb, h.aside.trans ha, Nat.le_trans h.size ha.size, h.hp, h.hB⟩
theorem Fr.vals {B p : Nat} {s : St} {c : Ca} {w0 w : World} (h : Fr B p s c w0 w) : ∃ A n cp E m d D k e, p < w.heap.size ∧ w0.heap.size < w.heap.size ∧ w.cell? ⟨p, 0, none⟩ = some (.slice A n cp) ∧ w.cell? ⟨p, 1, none⟩ = some (.slice E m d) ∧ w.cell? ⟨p, 2, none⟩ = some (.slice D k e) ∧ (∀ j, w.frozen? ⟨p, j, none⟩ = false) ∧
  StAt none w (.agg #[.slice A n cp, .slice E m d, .slice D k e]) s ∧ InosAt (some B) w A n s.inos ∧ n ≤ 1099511627776 ∧
  w.cell? ⟨w0.heap.size, 0, none⟩ = some (.int .i64 c.kind) ∧ w.cell? ⟨w0.heap.size, 1, none⟩ = some (.int .i64 c.core) ∧ w.cell? ⟨w0.heap.size, 2, none⟩ = some (.int .i64 c.fd) ∧ w.cell? ⟨w0.heap.size, 3, none⟩ = some (.int .i64 c.off) ∧ w.cell? ⟨w0.heap.size, 4, none⟩ = some (.int .i64 c.num) ∧
  w.cell? ⟨w0.heap.size, 5, none⟩ = some (.string c.path) ∧ w.cell? ⟨w0.heap.size, 6, none⟩ = some (.string c.path2) ∧ w.cell? ⟨w0.heap.size, 7, none⟩ = some (.string c.data) := by
 obtain ⟨A, n, cp, E, m, d, D, k, e, _, hp, c0, c1, c2, fz, hst, hI, _, _⟩ := h.own.val
 have hc := h.call
 unfold caRow at hc
 have hbig := h.own.sized.big
 have hl := hI.1
 refine ⟨A, n, cp, E, m, d, D, k, e, hp, by have := h.size; omega, c0, c1, c2, fz, hst.weak, hI, by omega, ?_, ?_, ?_, ?_, ?_, ?_, ?_, ?_⟩ <;> (rw [cell_of_row w w0.heap.size _ _ _ (0, 0) hc]; rfl)
theorem Fr.six {B p : Nat} {s : St} {c : Ca} {w0 w : World} (h : Fr B p s c w0 w) (a b x y z t : Value) :
  ∃ w', (((((w.setCell ⟨w0.heap.size + 1, 0, none⟩ a).setCell ⟨w0.heap.size + 1, 1, none⟩ b).setCell ⟨w0.heap.size + 1, 2, none⟩ x).setCell ⟨w0.heap.size + 1, 3, none⟩ y).setCell ⟨w0.heap.size + 1, 4, none⟩ z).setCell ⟨w0.heap.size + 1, 5, none⟩ t = w' ∧
   ResAt w' (w0.heap.size + 1) a b x y z t ∧ Own B w' p s ∧ Below B w0 w' ∧ Aside p w0 w' := by
 obtain ⟨w', hw, hr, hk, hb, hn, hz⟩ := h.res.six a b x y z t
 exact ⟨w', hw, hr, h.own.keep hk, hb B w0 (by have := h.hB; omega) h.bel, ⟨Nat.le_trans h.aside.size hz, fun g cur t hg h1 h2 h3 => (hn g (by have := (Array.getElem?_eq_some_iff.1 hg).1; omega)).trans (h.aside.same g cur t hg h1 h2 h3)⟩⟩
theorem Fr.fin {B p : Nat} {s : St} {c : Ca} {w0 w1 w : World} (h1 : Fr B p s c w0 w1) (hb : Below w1.heap.size w1 w) (a b x y z t : Value) :
  w.cell? ⟨w0.heap.size + 1, 0, none⟩ = some (.int .i64 0) ∧ w.cell? ⟨w0.heap.size + 1, 1, none⟩ = some (.int .i64 0) ∧ w.cell? ⟨w0.heap.size + 1, 2, none⟩ = some (.int .i64 0) ∧ w.cell? ⟨w0.heap.size + 1, 3, none⟩ = some (.bool false) ∧ w.cell? ⟨w0.heap.size + 1, 4, none⟩ = some (.string ⟨#[]⟩) ∧ w.cell? ⟨w0.heap.size + 1, 5, none⟩ = some (.slice none 0 0) ∧ (∀ j, w.frozen? ⟨w0.heap.size + 1, j, none⟩ = false) ∧
  ∃ w', (((((w.setCell ⟨w0.heap.size + 1, 0, none⟩ a).setCell ⟨w0.heap.size + 1, 1, none⟩ b).setCell ⟨w0.heap.size + 1, 2, none⟩ x).setCell ⟨w0.heap.size + 1, 3, none⟩ y).setCell ⟨w0.heap.size + 1, 4, none⟩ z).setCell ⟨w0.heap.size + 1, 5, none⟩ t = w' ∧
   Hid (ResAt w' (w0.heap.size + 1) a b x y z t) ∧ Hid (Own B w' p s) ∧ Hid (Below B w0 w') ∧ Hid (Aside p w0 w') := by
 have h := h1.below hb
 obtain ⟨g0, g1, g2, g3, g4, g5, gf⟩ := h.res.get
 obtain ⟨w', hw, hr, ho, hB, hA⟩ := h.six a b x y z t
 exact ⟨g0, g1, g2, g3, g4, g5, gf, w', hw, Lib.hid hr, Lib.hid ho, Lib.hid hB, Lib.hid hA⟩
theorem Fr.start {B p : Nat} {s : St} {w : World} (h : Own B w p s) (hB : B ≤ w.heap.size) (c : Ca) :
  ∃ W W2, w.alloc (.cells #[.int .i64 c.kind, .int .i64 c.core, .int .i64 c.fd, .int .i64 c.off, .int .i64 c.num, .string c.path, .string c.path2, .string c.data] 40) = W ∧
   W.alloc (.cells #[.int .i64 0, .int .i64 0, .int .i64 0, .bool false, .string ⟨#[]⟩, .slice none 0 0] 44) = W2 ∧ W.heap.size = w.heap.size + 1 ∧ Fr B p s c w W2 := by
 obtain ⟨W, hW, hbc, hal, hsz⟩ := box_ca w c
 obtain ⟨A, n, cp, E, m, d, D, k, e, _, hp, _⟩ := h.val
 have hal2 : Below W.heap.size W (W.alloc (.cells #[.int .i64 0, .int .i64 0, .int .i64 0, .bool false, .string ⟨#[]⟩, .slice none 0 0] 44)) := (Below.refl _ _).alloc (Nat.le_refl _) _
 have hb2 := Cv.next hal hal2
 refine ⟨W, _, hW, rfl, hsz, h.below hb2, (hal2.block _ (by omega)).trans hbc, ?_, hb2.mono hB, Aside.below hb2, ?_, hp, hB⟩
 ·rw [← hsz]; exact heap_alloc_new W _
 ·simp [hsz]
def Deep (is : List Ino) : Nat → Int → Prop
 | 0, _ => False
 | n + 1, top => ∀ x, inoAt is (atV is top) = some x → ∀ e ∈ x.ents, dirAt is e.num = true → Deep is n e.num
theorem any_drop {α : Type} (f : α → Bool) (l : List α) (q : Nat) (y : α) (h : l.drop q = y :: l.drop (q + 1)) : (l.drop q).any f = (f y || (l.drop (q + 1)).any f) := by rw [h, List.any_cons]
set_option maxRecDepth 100000 in
set_option maxHeartbeats 4000000 in
theorem within_deep (s : St) (hw : Whole s.inos) (dir : Int) : ∀ (n : Nat) (top : Int) (v : Value) (w : World), StAt none w v s → 0 ≤ atV s.inos top → Deep s.inos n top →
  Calls Tryz.prog 114 #[v, .int .i64 dir, .int .i64 top] w fun e w' => e = .returned (.bool (withinF s.inos dir n top)) ∧ Below w.heap.size w w'
 | 0, top, v, w, h, ht, hd => absurd hd (by intro h; exact h)
 | fuel + 1, top, v, w, h, ht, hd => by
  have IH := Lib.hid (within_deep s hw dir fuel)
  obtain ⟨i, x, hat, hx, hxn⟩ := atV_some ht
  obtain ⟨RV, hRV⟩ : ∃ RV, withinF s.inos dir (fuel + 1) top = RV := ⟨_, rfl⟩
  rw [hRV]
  unfold withinF at hRV
  rw [hat, inoAt_nat, hx] at hRV
  have hdeep := hd x (by rw [hat, inoAt_nat, hx])
  obtain ⟨⟨A, n, c, Bz, m, d, D, k, e, rfl, hI, hD, hM, h5, h6, h7⟩, hz⟩ := h
  have hn : n ≤ 1099511627776 := by have := hz.big; have := hI.1; omega
  have hle := bulkE_le hx
  have hbig := hz.big
  obtain ⟨W, hW, b0, b1, b2, hal, hlt0⟩ := box_st w A n c Bz m d D k e
  have HS := Lib.hid ((StAt.of_parts hI hD hM h5 h6 h7 hz).below hal)
  have HI := Lib.hid (hI.below hal)
  have HAL := Lib.hid hal
  have HAT := Lib.hid hat
  have HX := Lib.hid hx
  have HDEEP := Lib.hid hdeep
  have HLE := Lib.hid hle
  have HBIG := Lib.hid hbig
  have HWH := Lib.hid hw
  have HRV := Lib.hid hRV
  clear hI hD hM hz hal hat hx hd hdeep hle hbig hRV hw
  go_enter Tryz.func114, Tryz.ntmps114
  by_cases hdt : dir = top
  ·have q1 : (dir == top) = true := by rw [beq_iff_eq]; exact hdt
   have hr := HRV.out
   rw [if_pos hdt] at hr
   have HR := Lib.hid hr
   clear hr hdt
   go_wp2_with fail
   go_ret
   exact ⟨Cv.ret_bool HR.out, HAL.out⟩
  ·have q1 : (dir == top) = false := by rw [beq_eq_false_iff_ne]; exact hdt
   have hr := HRV.out
   rw [if_neg hdt] at hr
   have HR : Hid (x.ents.any (fun e => dirAt s.inos e.num && withinF s.inos dir fuel e.num) = RV) := Lib.hid hr
   clear hr hdt
   go_wp2_with fail
   clear hW
   refine (at_any _ s top _ HS.out).mono ?_
   rintro e1 Z ⟨rfl, hb1⟩
   rw [HAT.out]
   have z0 := (hb1.cell (p := ⟨w.heap.size, 0, .none⟩) hlt0).trans b0
   have z1 := (hb1.cell (p := ⟨w.heap.size, 1, .none⟩) hlt0).trans b1
   have z2 := (hb1.cell (p := ⟨w.heap.size, 2, .none⟩) hlt0).trans b2
   have HSZ := Lib.hid (HS.out.below hb1)
   have HIZ := Lib.hid (HI.out.below hb1)
   have HBZ := Lib.hid (Cv.next HAL.out hb1)
   have hltZ : w.heap.size < Z.heap.size := Nat.lt_of_lt_of_le hlt0 hb1.size
   clear hb1 b0 b1 b2
   have hin : i < n := by have := (List.getElem?_eq_some_iff.1 HX.out).1; have := HIZ.out.1; omega
   obtain ⟨g, og, x', E3, m3, d3, rfl, hg, hx', _, hmem, _, _, f2, hok3, hE3, _⟩ := HIZ.out.get i hin
   have ex : x' = x := by have h1 := HX.out; rw [hx'] at h1; exact Option.some.inj h1
   subst ex
   have i0 : (0 : Int) ≤ (i : Int) := by omega
   have i1 : (i : Int) < (n : Int) := by omega
   have HE3 := Lib.hid hE3
   have hm3 : m3 ≤ 1099511627776 := by have := hE3.1; have := HLE.out; have := HBIG.out; omega
   clear hx' hmem hok3 hE3
   go_wp2_with fail
   go_loopw [8] (fun j wr => ∃ q : Nat, j = .int .i64 q ∧ q ≤ m3 ∧ Below Z.heap.size Z wr ∧ (x'.ents.drop q).any (fun e => dirAt s.inos e.num && withinF s.inos dir fuel e.num) = RV) (fun j _ => m3 - (intOf j).toNat)
   case atStart => exact ⟨0, rfl, by omega, Below.refl _ _, HR.out⟩
   case round =>
    obtain ⟨q, rfl, hq, hbel, hc⟩ := hrel
    have y0 := (hbel.cell (p := ⟨w.heap.size, 0, .none⟩) hltZ).trans z0
    have y1 := (hbel.cell (p := ⟨w.heap.size, 1, .none⟩) hltZ).trans z1
    have y2 := (hbel.cell (p := ⟨w.heap.size, 2, .none⟩) hltZ).trans z2
    have r2 := (hbel.cell (p := ⟨g, _, .none⟩) hg).trans f2
    have HB := Lib.hid hbel
    have HSr := Lib.hid (HSZ.out.below hbel)
    have HIr := Lib.hid (HIZ.out.below hbel)
    have HEr := Lib.hid (HE3.out.below hbel)
    have HC := Lib.hid hc
    clear hbel hc
    by_cases hlt : q < m3
    ·obtain ⟨g2, off2, y, rfl, hg2, hy, hdr, hym, e0, e1⟩ := HEr.out.get q hlt
     have hc := HC.out
     rw [any_drop _ _ _ _ hdr] at hc
     have hwh := HWH.out.2 x' (List.mem_of_getElem? HX.out) y hym
     obtain ⟨k2, x2, hat2, hx2, hxn2⟩ := atV_some hwh
     have hda : dirAt s.inos y.num = x2.dir := by unfold dirAt; rw [hat2, inoAt_nat, hx2]
     have hdp := HDEEP.out y hym
     rw [hda] at hc hdp
     have hkn : k2 < n := by have := (List.getElem?_eq_some_iff.1 hx2).1; have := HIr.out.1; omega
     obtain ⟨g4, og4, x4, E4, m4, d4, hA4, hg4, hx4, _, _, _, e14, _, _, _, _⟩ := HIr.out.get k2 hkn
     injection hA4 with hA4
     injection hA4 with hA41 hA42
     subst hA41 hA42
     have ex : x4 = x2 := by rw [hx2] at hx4; exact (Option.some.inj hx4).symm
     subst ex
     have k20 : (0 : Int) ≤ (k2 : Int) := by omega
     have k21 : (k2 : Int) < (n : Int) := by omega
     have q0 : (0 : Int) ≤ (q : Int) := by omega
     have q3 : (q : Int) < (m3 : Int) := by omega
     obtain ⟨DX, hDX⟩ : ∃ DX, x4.dir = DX := ⟨_, rfl⟩
     rw [hDX] at hc hdp e14
     obtain ⟨WV, hWV⟩ : ∃ WV, withinF s.inos dir fuel y.num = WV := ⟨_, rfl⟩
     rw [hWV] at hc
     have HC2 := Lib.hid hc
     have HDP := Lib.hid hdp
     have HWV := Lib.hid hWV
     have HAT2 := Lib.hid hat2
     have HP2 : Hid (0 ≤ atV s.inos y.num) := Lib.hid (by rw [hat2]; omega)
     have hX := @Ext.cell wr
     clear hdr hym hy hc hwh hat2 hx2 hda hdp hx4 hDX hWV
     cases DX
     ·go_wp2_with fail
      refine wre ?_
      repeat (go_big_quiet_step (first | (go_at_call 57; rename_i X; exact Calls.ext_of (by have := at_any _ s y.num _ (HSr.out.below X.bel); rw [HAT2.out] at this; exact this))))
      refine wpQuiet_nil ?_
      rintro w7 ⟨X, rfl⟩
      have HB7 := Lib.hid (HB.out.trans (X.bel.mono HB.out.size))
      clear hX y0 y1 y2 r2 e0 e1 e14
      go_wp2_with fail
      go_roundw
      case rel => exact ⟨q + 1, by go_num, by omega, HB7.out, by have := HC2.out; rwa [Bool.false_and, Bool.false_or] at this⟩
      case measure => simp [intOf]; omega
     ·have HDP2 := Lib.hid (HDP.out rfl)
      clear HDP
      go_wp2_with fail
      refine wre ?_
      repeat (go_big_quiet_step (first | (go_at_call 57; rename_i X; exact Calls.ext_of (by have := at_any _ s y.num _ (HSr.out.below X.bel); rw [HAT2.out] at this; exact this)) | (go_at_call 114; rename_i X; exact Calls.ext_of (by have := IH.out y.num _ _ (HSr.out.below X.bel) HP2.out HDP2.out; rw [HWV.out] at this; exact this))))
      refine wpQuiet_nil ?_
      rintro w7 ⟨X, rfl⟩
      have HB7 := Lib.hid (HB.out.trans (X.bel.mono HB.out.size))
      clear hX y0 y1 y2 r2 e0 e1 e14
      cases WV
      ·go_wp2_with fail
       go_roundw
       case rel => exact ⟨q + 1, by go_num, by omega, HB7.out, by have := HC2.out; rwa [Bool.true_and, Bool.false_or] at this⟩
       case measure => simp [intOf]; omega
      ·go_wp2_with fail
       go_ret
       exact ⟨Cv.ret_bool (by have := HC2.out; rwa [Bool.true_and, Bool.true_or] at this), Cv.next HBZ.out HB7.out⟩
    ·have hnil : x'.ents.drop q = [] := List.drop_eq_nil_of_le (by have := HE3.out.1; omega)
     have hc := HC.out
     rw [hnil] at hc
     have HC2 := Lib.hid hc
     clear hc hnil
     go_wp2_with fail
     go_ret
     exact ⟨Cv.ret_bool HC2.out, Cv.next HBZ.out HB.out⟩
end Go.Proofs.YthhceopnnappgaaGreatDoor
