/- Parts of the proof, side by side: ShWalk, ShFiles. -/
import Derived.Test.YtilkhmhgjbhfnaaGreatDoorM39
import Derived.Test.YtilkhmhgjbhfnaaGreatDoorM17
import Derived.Deep.RegionHeld3
import Derived.Test.YtilkhmhgjbhfnaaGreatDoorM09
set_option linter.unusedVariables false
set_option linter.unusedSimpArgs false
namespace Go.Proofs.YtilkhmhgjbhfnaaGreatDoor
open Go.RowKit
theorem lineW3 (a b c : ByteArray) : lineW [a, b, c] = a.data.toList ++ 32 :: (b.data.toList ++ 32 :: (c.data.toList ++ [10])) := by
 unfold lineW
 simp [Lib.join, List.intercalate, List.intersperse]
theorem lineW4 (a b c d : ByteArray) : lineW [a, b, c, d] = a.data.toList ++ 32 :: (b.data.toList ++ 32 :: (c.data.toList ++ 32 :: (d.data.toList ++ [10]))) := by
 unfold lineW
 simp [Lib.join, List.intercalate, List.intersperse]
theorem words_at {w : World} {k : Nat} {xs : List ByteArray} {fr : Nat × Nat} {t : TypeId} (h : w.heap[k]? = some (.cells (xs.map Value.string).toArray t fr)) : ∀ (j : Nat) x, xs[j]? = some x → w.cell? ⟨k, 0 + j, none⟩ = some (.string x) := by
 intro j x hx
 rw [Lib.cell_of_heap h]
 simp [hx]
theorem shline_new (B b : Nat) (sp : Value) (l : List UInt8) (xs : List ByteArray) (w W : World) (n : Nat) (hn : n = xs.length) (h : BldS B b sp l w) (hW : w.alloc (.cells (xs.map Value.string).toArray 9) = W) (hxl : xs.length ≤ 1000) (hBw : B ≤ w.heap.size) (hlen : l.length + (lineW xs).length ≤ 140737488355328) :
  Calls Tryz.prog 57 #[.pointer (some ⟨b, 0, none⟩), .slice (some ⟨w.heap.size, 0, none⟩) n n] W fun e w' => e = .returned (.tuple #[]) ∧ BldS B b sp (l ++ lineW xs) w' ∧ Wr B b w w' := by
 subst hn
 have hal : Below w.heap.size w W := by rw [← hW]; exact (Below.refl _ _).alloc (Nat.le_refl _) _
 have hsz : W.heap.size = w.heap.size + 1 := by rw [← hW]; simp
 have hnew : W.heap[w.heap.size]? = some (.cells (xs.map Value.string).toArray 9 (0, 0)) := by rw [← hW]; exact heap_alloc_new w _
 refine (shline_any B b w.heap.size xs.length sp l xs W (h.keep hal) (words_at hnew) (by omega) (Nat.le_refl _) (by omega) (by omega) hlen).mono ?_
 rintro e w' ⟨rfl, h1, h2⟩
 exact ⟨rfl, h1, (Wr.of_below hal hBw).trans h2⟩
theorem stepSh_cat (P n : ByteArray) : ((P ++ ⟨#[47]⟩) ++ n).data.toList = stepSh P.data.toList n := by
 unfold stepSh
 simp
def WalkAt (B b q : Nat) (s : St) (wB : World) (d : Nat) : Prop :=
 ∀ (num : Int) (P : ByteArray) (l : List UInt8) (w : World), DeepT s.inos d num → BldS B b (.pointer (some ⟨q, 0, none⟩)) l w → Below wB.heap.size wB w → l.length + (walkL s.inos d num P.data.toList).length ≤ 140737488355000 →
  Calls Tryz.prog 77 #[.pointer (some ⟨b, 0, none⟩), .int .i64 num, .string P] w fun e w' => e = .returned (.tuple #[]) ∧ BldS B b (.pointer (some ⟨q, 0, none⟩)) (l ++ walkL s.inos d num P.data.toList) w' ∧ Wr B b w w'
set_option maxRecDepth 100000 in
set_option maxHeartbeats 8000000 in
theorem shwalk_file (B b q : Nat) (s : St) (wB : World) (hPB : PtrAt wB q s) (hB : wB.heap.size = B) (hT : Tab wB) (num : Int) (P : ByteArray) (l : List UInt8) (w : World) (x : Ino) (hx : inoAt s.inos (atV s.inos num) = some x) (hdir : x.dir = false) (hnum : 1 ≤ num ∧ num ≤ 257) (hdat : x.data.size ≤ 256)
  (h : BldS B b (.pointer (some ⟨q, 0, none⟩)) l w) (hBw : Below wB.heap.size wB w) (hlen : l.length + (lineF P.data.toList num x.data.data.toList).length ≤ 140737488355328) :
  Calls Tryz.prog 77 #[.pointer (some ⟨b, 0, none⟩), .int .i64 num, .string P] w fun e w' => e = .returned (.tuple #[]) ∧ BldS B b (.pointer (some ⟨q, 0, none⟩)) (l ++ lineF P.data.toList num x.data.data.toList) w' ∧ Wr B b w w' := by
 subst hB
 obtain ⟨DN, hDN⟩ : ∃ DN, txt (decN num) = DN := ⟨_, rfl⟩
 obtain ⟨HX, hHX⟩ : ∃ HX, txt (hexT x.data.data.toList) = HX := ⟨_, rfl⟩
 obtain ⟨SH, hSH⟩ : ∃ SH : ByteArray, (if P.data.toList = [] then ⟨#[47]⟩ else P) = SH := ⟨_, rfl⟩
 have hshown : SH.data.toList = shownL P.data.toList := by
  rw [← hSH]
  unfold shownL
  split <;> rfl
 have hline : lineF P.data.toList num x.data.data.toList = lineW [⟨#[102]⟩, SH, DN, HX] := by
  rw [lineW4, hshown, ← hDN, ← hHX, txt_listSh, txt_listSh]
  rfl
 rw [hline] at hlen ⊢
 have hBle : wB.heap.size ≤ w.heap.size := hBw.size
 have hit : ∀ W, Below w.heap.size w W → Calls Tryz.prog 32 #[.int .i64 num] W fun e w' => e = .returned (.string DN) ∧ Below W.heap.size W w' := fun W hW => by
  rw [← hDN]
  exact itoa_any num (by omega) (by omega) W (hT.below (hBw.trans (hW.mono hBw.size)))
 have hhx : ∀ W, Calls Tryz.prog 58 #[.string x.data] W fun e w' => e = .returned (.string HX) ∧ Below W.heap.size W w' := fun W => by
  rw [← hHX]
  exact hexsh_any x.data W (by omega)
 have hln : ∀ w1 W, Below w.heap.size w w1 → w1.alloc (.cells #[.string ⟨#[102]⟩, .string SH, .string DN, .string HX] 9) = W → Calls Tryz.prog 57 #[.pointer (some ⟨b, 0, none⟩), .slice (some ⟨w1.heap.size, 0, none⟩) 4 4] W fun e w' => e = .returned (.tuple #[]) ∧ BldS wB.heap.size b (.pointer (some ⟨q, 0, none⟩)) (l ++ lineW [⟨#[102]⟩, SH, DN, HX]) w' ∧ Wr wB.heap.size b w w' := fun w1 W h1 hW => by
  refine (shline_new wB.heap.size b _ l [⟨#[102]⟩, SH, DN, HX] w1 W 4 rfl (h.keep h1) hW (by simp) (Nat.le_trans hBle h1.size) hlen).mono ?_
  rintro e w' ⟨rfl, h3, h4⟩
  exact ⟨rfl, h3, (Wr.of_below h1 hBle).trans h4⟩
 have HIT := Lib.hid hit
 have HHX := Lib.hid hhx
 have HLN := Lib.hid hln
 have HPB := Lib.hid hPB
 have HBW := Lib.hid hBw
 have HIN := Lib.hid (shino_any b q s num wB w hPB hBw h.cell h.lt x hx)
 have HDAT := Lib.hid hdat
 clear hit hhx hln hlen hline hDN hHX hPB hT hx h hBw hnum hBle hdat
 have go : (P.data.toList = [] ∧ SH = ⟨#[47]⟩) ∨ (P.data.toList ≠ [] ∧ SH = P) := by
  by_cases hp : P.data.toList = []
  ·left; rw [if_pos hp] at hSH; exact ⟨hp, hSH.symm⟩
  ·right; rw [if_neg hp] at hSH; exact ⟨hp, hSH.symm⟩
 clear hSH hshown
 go_enter Tryz.func77, Tryz.ntmps77
 go_wp2_with fail
 refine HIN.out.mono ?_
 rintro e1 w1 ⟨g, o, E, m, d', rfl, hb1, hg, c1, c2, c3, hE⟩
 have hBw1 : Below wB.heap.size wB w1 := HBW.out.trans (hb1.mono HBW.out.size)
 have y1 := (hBw1.cell (p := ⟨g, o + 1, none⟩) hg).trans c1
 have y3 := (hBw1.cell (p := ⟨g, o + 3, none⟩) hg).trans c3
 have hgl : g < w1.heap.size := Nat.lt_of_lt_of_le hg hBw1.size
 rw [hdir] at y1
 have HB1 := Lib.hid hb1
 have HG := Lib.hid hg
 have HC3 := Lib.hid c3
 clear hb1 hBw1 c1 c2 c3 hE hg
 rcases go with ⟨hp, rfl⟩ | ⟨hp, rfl⟩
 ·have he : P.toList.isEmpty = true := by rw [ByteArray.toList_eq, hp]; rfl
  go_wp2_with fail
  go_region_held3 (fun w' => w'.cell? ⟨g, o + 3, none⟩ = some (.string x.data))
   (first
    | go_keep
    | exact cell_later hb5 (by assumption)
    | exact cell_later hb6 (by assumption)
    | exact ((HBW.out.trans hw8.below).cell (p := ⟨g, o + 3, none⟩) HG.out).trans HC3.out)
   (first
    | (go_at_call 32; refine (HIT.out _ (Below.drew HB1.out)).mono ?_; rintro e5 w5 ⟨rfl, hb5⟩)
    | (go_at_call 58; refine (HHX.out w5).mono ?_; rintro e6 w6 ⟨rfl, hb6⟩; have hb7 : Below w.heap.size w w6 := ((Below.drew HB1.out).trans (hb5.mono (Below.drew HB1.out).size)).trans (hb6.mono (Nat.le_trans (Below.drew HB1.out).size hb5.size)))
    | (go_at_call 57; refine (HLN.out w6 _ hb7 rfl).mono ?_; rintro e8 w8 ⟨rfl, hl8, hw8⟩))
  go_wp2_with fail
  refine bodyPost_ret (results_none rfl _ _ _) rfl ?_
  exact ⟨rfl, hl8, hw8⟩
 ·have he : SH.toList.isEmpty = false := by rw [ByteArray.toList_eq]; cases hh : SH.data.toList; exact absurd hh hp; rfl
  go_wp2_with fail
  go_region_held3 (fun w' => w'.cell? ⟨g, o + 3, none⟩ = some (.string x.data))
   (first
    | go_keep
    | exact cell_later hb5 (by assumption)
    | exact cell_later hb6 (by assumption)
    | exact ((HBW.out.trans hw8.below).cell (p := ⟨g, o + 3, none⟩) HG.out).trans HC3.out)
   (first
    | (go_at_call 32; refine (HIT.out _ (Below.drew HB1.out)).mono ?_; rintro e5 w5 ⟨rfl, hb5⟩)
    | (go_at_call 58; refine (HHX.out w5).mono ?_; rintro e6 w6 ⟨rfl, hb6⟩; have hb7 : Below w.heap.size w w6 := ((Below.drew HB1.out).trans (hb5.mono (Below.drew HB1.out).size)).trans (hb6.mono (Nat.le_trans (Below.drew HB1.out).size hb5.size)))
    | (go_at_call 57; refine (HLN.out w6 _ hb7 rfl).mono ?_; rintro e8 w8 ⟨rfl, hl8, hw8⟩))
  go_wp2_with fail
  refine bodyPost_ret (results_none rfl _ _ _) rfl ?_
  exact ⟨rfl, hl8, hw8⟩
set_option maxRecDepth 100000 in
set_option maxHeartbeats 8000000 in
theorem shwalk_dir (B b q : Nat) (s : St) (wB : World) (d : Nat) (hPB : PtrAt wB q s) (hB : wB.heap.size = B) (hT : Tab wB) (hIH : WalkAt B b q s wB d) (num : Int) (P : ByteArray) (l : List UInt8) (w : World) (x : Ino) (hx : inoAt s.inos (atV s.inos num) = some x) (hdir : x.dir = true) (hnum : 1 ≤ num ∧ num ≤ 257) (hel : x.ents.length ≤ 1000) (hall : ∀ e ∈ x.ents, e.name.size ≤ 12 ∧ DeepT s.inos d e.num)
  (h : BldS B b (.pointer (some ⟨q, 0, none⟩)) l w) (hBw : Below wB.heap.size wB w) (hlen : l.length + (lineD P.data.toList num ++ x.ents.flatMap (fun e => walkL s.inos d e.num (stepSh P.data.toList e.name))).length ≤ 140737488355000) :
  Calls Tryz.prog 77 #[.pointer (some ⟨b, 0, none⟩), .int .i64 num, .string P] w fun e w' => e = .returned (.tuple #[]) ∧ BldS B b (.pointer (some ⟨q, 0, none⟩)) (l ++ (lineD P.data.toList num ++ x.ents.flatMap (fun e => walkL s.inos d e.num (stepSh P.data.toList e.name)))) w' ∧ Wr B b w w' := by
 subst hB
 obtain ⟨DN, hDN⟩ : ∃ DN, txt (decN num) = DN := ⟨_, rfl⟩
 obtain ⟨SH, hSH⟩ : ∃ SH : ByteArray, (if P.data.toList = [] then ⟨#[47]⟩ else P) = SH := ⟨_, rfl⟩
 have hshown : SH.data.toList = shownL P.data.toList := by
  rw [← hSH]
  unfold shownL
  split <;> rfl
 have hline : lineD P.data.toList num = lineW [⟨#[100]⟩, SH, DN] := by
  rw [lineW3, hshown, ← hDN, txt_listSh]
  rfl
 have hps : P.size ≤ 140737488355000 := by
  have h1 : P.data.toList.length = P.size := Array.length_toList
  have h2 : P.data.toList.length ≤ (shownL P.data.toList).length := by
   unfold shownL
   split
   ·rename_i e; rw [e]; simp
   ·exact Nat.le_refl _
  have h3 : (shownL P.data.toList).length ≤ (lineD P.data.toList num).length := by
   unfold lineD
   simp only [List.length_cons, List.length_append]
   omega
  rw [List.length_append] at hlen
  omega
 have hsum : ∀ (k : Nat) (e : En), x.ents[k]? = some e → l.length + ((lineD P.data.toList num).length + (((x.ents.take k).flatMap (fun e => walkL s.inos d e.num (stepSh P.data.toList e.name))).length + (walkL s.inos d e.num (stepSh P.data.toList e.name)).length)) ≤ 140737488355000 := fun k e he => by
  have := take_lenSh (fun e : En => walkL s.inos d e.num (stepSh P.data.toList e.name)) x.ents k e he
  rw [List.length_append] at hlen
  omega
 have hll : l.length + (lineW [⟨#[100]⟩, SH, DN]).length ≤ 140737488355328 := by
  rw [List.length_append, hline] at hlen
  omega
 have hBle : wB.heap.size ≤ w.heap.size := hBw.size
 have hit : ∀ W, Below w.heap.size w W → Calls Tryz.prog 32 #[.int .i64 num] W fun e w' => e = .returned (.string DN) ∧ Below W.heap.size W w' := fun W hW => by
  rw [← hDN]
  exact itoa_any num (by omega) (by omega) W (hT.below (hBw.trans (hW.mono hBw.size)))
 have hln : ∀ w1 W, Below w.heap.size w w1 → w1.alloc (.cells #[.string ⟨#[100]⟩, .string SH, .string DN] 9) = W → Calls Tryz.prog 57 #[.pointer (some ⟨b, 0, none⟩), .slice (some ⟨w1.heap.size, 0, none⟩) 3 3] W fun e w' => e = .returned (.tuple #[]) ∧ BldS wB.heap.size b (.pointer (some ⟨q, 0, none⟩)) (l ++ lineW [⟨#[100]⟩, SH, DN]) w' ∧ Wr wB.heap.size b w w' := fun w1 W h1 hW => by
  refine (shline_new wB.heap.size b _ l [⟨#[100]⟩, SH, DN] w1 W 3 rfl (h.keep h1) hW (by simp) (Nat.le_trans hBle h1.size) hll).mono ?_
  rintro e w' ⟨rfl, h3, h4⟩
  exact ⟨rfl, h3, (Wr.of_below h1 hBle).trans h4⟩
 have HIT := Lib.hid hit
 have HLN := Lib.hid hln
 have HLINE := Lib.hid hline
 have HPS := Lib.hid hps
 have HSUM := Lib.hid hsum
 have HALL := Lib.hid hall
 have HIH := Lib.hid hIH
 have HBW := Lib.hid hBw
 have HIN := Lib.hid (shino_any b q s num wB w hPB hBw h.cell h.lt x hx)
 clear hit hln hlen hline hDN hPB hT hx h hBw hnum hBle hps hsum hall hIH hll
 have go : (P.data.toList = [] ∧ SH = ⟨#[47]⟩) ∨ (P.data.toList ≠ [] ∧ P = SH) := by
  by_cases hp : P.data.toList = []
  ·left; rw [if_pos hp] at hSH; exact ⟨hp, hSH.symm⟩
  ·right; rw [if_neg hp] at hSH; exact ⟨hp, hSH⟩
 clear hSH hshown
 go_enter Tryz.func77, Tryz.ntmps77
 go_wp2_with fail
 refine HIN.out.mono ?_
 rintro e1 w1 ⟨g, o, E, m, d', rfl, hb1, hg, c1, c2, c3, hE⟩
 have hBw1 : Below wB.heap.size wB w1 := HBW.out.trans (hb1.mono HBW.out.size)
 have y1 := (hBw1.cell (p := ⟨g, o + 1, none⟩) hg).trans c1
 have y2 := (hBw1.cell (p := ⟨g, o + 2, none⟩) hg).trans c2
 rw [hdir] at y1
 have HB1 := Lib.hid hb1
 have HG := Lib.hid hg
 have HC2 := Lib.hid c2
 have HE := Lib.hid hE
 have hm : m ≤ 1000 := by have := hE.1; omega
 clear hb1 hBw1 c1 c2 c3 hE hg
 rcases go with ⟨hp, rfl⟩ | ⟨hp, rfl⟩
 ·have he : P.toList.isEmpty = true := by rw [ByteArray.toList_eq, hp]; rfl
  go_wp2_with fail
  refine (HIT.out _ HB1.out).mono ?_
  rintro e5 w5 ⟨rfl, hb5⟩
  have hb6 : Below w.heap.size w w5 := HB1.out.trans (hb5.mono HB1.out.size)
  have HB6 := Lib.hid hb6
  obtain ⟨W6, hW6⟩ : ∃ W6, w5.alloc (.cells #[.string ⟨#[100]⟩, .string ⟨#[47]⟩, .string DN] 9) = W6 := ⟨_, rfl⟩
  clear hb5 hb6
  go_wp2_with fail
  refine (HLN.out w5 _ HB6.out hW6).mono ?_
  rintro e8 w8 ⟨rfl, hl8, hw8⟩
  have hB8 : Below wB.heap.size wB w8 := HBW.out.trans hw8.below
  have z2 := (hB8.cell (p := ⟨g, o + 2, none⟩) HG.out).trans HC2.out
  have HL8 := Lib.hid hl8
  have HW8 := Lib.hid hw8
  have HB8 := Lib.hid hB8
  clear hl8 hw8 hB8 hW6 y1 y2
  go_wp2_with fail
  go_loopw [43] (fun v wr => ∃ k : Nat, v = .int .i64 k ∧ k ≤ m ∧ BldS wB.heap.size b (.pointer (some ⟨q, 0, none⟩)) (l ++ (lineD P.data.toList num ++ (x.ents.take k).flatMap (fun e => walkL s.inos d e.num (stepSh P.data.toList e.name)))) wr ∧ Wr wB.heap.size b w wr) (fun v _ => m - (intOf v).toNat)
  case atStart => exact ⟨0, rfl, by omega, by rw [List.take_zero, List.flatMap_nil, List.append_nil, HLINE.out]; exact HL8.out, HW8.out⟩
  case round =>
   obtain ⟨k, rfl, hk, hbl, hwr⟩ := hrel
   have HBL := Lib.hid hbl
   have HWR := Lib.hid hwr
   have hBr : Below wB.heap.size wB wr := HBW.out.trans hwr.below
   have HBR := Lib.hid hBr
   have hbl0 : b < wr.heap.size := hbl.lt
   clear hbl hwr z2
   by_cases hlt : k < m
   ·have HEr := Lib.hid (HE.out.below hBr)
    obtain ⟨g2, off2, en, rfl, hg2, hx2, hd2, hmem, n0, n1⟩ := HEr.out.get k hlt
    have hen := HALL.out en hmem
    have hns : en.name.size ≤ 12 := hen.1
    have hps : P.size ≤ 140737488355000 := HPS.out
    obtain ⟨V2, hV2, v0, v1, hal, hlt3⟩ := box_en wr en.name en.num
    have hBV : Below wB.heap.size wB V2 := hBr.trans (hal.mono hBr.size)
    have hwV : Wr wB.heap.size b w V2 := HWR.out.trans (Wr.of_below hal hBr.size)
    have hblV := HBL.out.keep hal
    have hcall := HIH.out en.num ((P ++ ⟨#[47]⟩) ++ en.name) _ V2 hen.2 hblV hBV
    rw [stepSh_cat] at hcall
    have hsum := HSUM.out k en hx2
    have hcall2 := hcall (by simp only [List.length_append] at hsum ⊢; omega)
    have htk : (x.ents.take (k + 1)).flatMap (fun e => walkL s.inos d e.num (stepSh P.data.toList e.name)) = (x.ents.take k).flatMap (fun e => walkL s.inos d e.num (stepSh P.data.toList e.name)) ++ walkL s.inos d en.num (stepSh P.data.toList en.name) := by
     have h5 := (List.getElem?_eq_some_iff.1 hx2)
     rw [List.take_add_one, hx2]
     simp
    rw [List.append_assoc, List.append_assoc, ← htk] at hcall2
    have HCALL := Lib.hid hcall2
    have HWV := Lib.hid hwV
    have k0 : (0 : Int) ≤ (k : Int) := by omega
    clear hBr hBV hwV hblV hcall hsum hcall2 htk hal hd2 hmem hx2 hen hg2
    go_wp2_with fail
    refine HCALL.out.mono ?_
    rintro e9 w9 ⟨rfl, hl9, hw9⟩
    have HL9 := Lib.hid hl9
    have HW9 := Lib.hid (HWV.out.trans hw9)
    clear hl9 hw9
    go_wp2_with fail
    go_roundw
    case rel => exact ⟨k + 1, by go_num, by omega, HL9.out, HW9.out⟩
    case measure => simp [intOf]; omega
   ·have hkm : x.ents.take k = x.ents := List.take_of_length_le (by have := HE.out.1; omega)
    have hbl := HBL.out
    rw [hkm] at hbl
    have HBL2 := Lib.hid hbl
    clear hbl hkm
    go_wp2_with fail
    go_end0
    exact ⟨rfl, HBL2.out, HWR.out⟩
 ·have he : P.toList.isEmpty = false := by rw [ByteArray.toList_eq]; cases hh : P.data.toList; exact absurd hh hp; rfl
  go_wp2_with fail
  refine (HIT.out _ HB1.out).mono ?_
  rintro e5 w5 ⟨rfl, hb5⟩
  have hb6 : Below w.heap.size w w5 := HB1.out.trans (hb5.mono HB1.out.size)
  have HB6 := Lib.hid hb6
  obtain ⟨W6, hW6⟩ : ∃ W6, w5.alloc (.cells #[.string ⟨#[100]⟩, .string P, .string DN] 9) = W6 := ⟨_, rfl⟩
  clear hb5 hb6
  go_wp2_with fail
  refine (HLN.out w5 _ HB6.out hW6).mono ?_
  rintro e8 w8 ⟨rfl, hl8, hw8⟩
  have hB8 : Below wB.heap.size wB w8 := HBW.out.trans hw8.below
  have z2 := (hB8.cell (p := ⟨g, o + 2, none⟩) HG.out).trans HC2.out
  have HL8 := Lib.hid hl8
  have HW8 := Lib.hid hw8
  have HB8 := Lib.hid hB8
  clear hl8 hw8 hB8 hW6 y1 y2
  go_wp2_with fail
  go_loopw [43] (fun v wr => ∃ k : Nat, v = .int .i64 k ∧ k ≤ m ∧ BldS wB.heap.size b (.pointer (some ⟨q, 0, none⟩)) (l ++ (lineD P.data.toList num ++ (x.ents.take k).flatMap (fun e => walkL s.inos d e.num (stepSh P.data.toList e.name)))) wr ∧ Wr wB.heap.size b w wr) (fun v _ => m - (intOf v).toNat)
  case atStart => exact ⟨0, rfl, by omega, by rw [List.take_zero, List.flatMap_nil, List.append_nil, HLINE.out]; exact HL8.out, HW8.out⟩
  case round =>
   obtain ⟨k, rfl, hk, hbl, hwr⟩ := hrel
   have HBL := Lib.hid hbl
   have HWR := Lib.hid hwr
   have hBr : Below wB.heap.size wB wr := HBW.out.trans hwr.below
   have HBR := Lib.hid hBr
   have hbl0 : b < wr.heap.size := hbl.lt
   clear hbl hwr z2
   by_cases hlt : k < m
   ·have HEr := Lib.hid (HE.out.below hBr)
    obtain ⟨g2, off2, en, rfl, hg2, hx2, hd2, hmem, n0, n1⟩ := HEr.out.get k hlt
    have hen := HALL.out en hmem
    have hns : en.name.size ≤ 12 := hen.1
    have hps : P.size ≤ 140737488355000 := HPS.out
    obtain ⟨V2, hV2, v0, v1, hal, hlt3⟩ := box_en wr en.name en.num
    have hBV : Below wB.heap.size wB V2 := hBr.trans (hal.mono hBr.size)
    have hwV : Wr wB.heap.size b w V2 := HWR.out.trans (Wr.of_below hal hBr.size)
    have hblV := HBL.out.keep hal
    have hcall := HIH.out en.num ((P ++ ⟨#[47]⟩) ++ en.name) _ V2 hen.2 hblV hBV
    rw [stepSh_cat] at hcall
    have hsum := HSUM.out k en hx2
    have hcall2 := hcall (by simp only [List.length_append] at hsum ⊢; omega)
    have htk : (x.ents.take (k + 1)).flatMap (fun e => walkL s.inos d e.num (stepSh P.data.toList e.name)) = (x.ents.take k).flatMap (fun e => walkL s.inos d e.num (stepSh P.data.toList e.name)) ++ walkL s.inos d en.num (stepSh P.data.toList en.name) := by
     have h5 := (List.getElem?_eq_some_iff.1 hx2)
     rw [List.take_add_one, hx2]
     simp
    rw [List.append_assoc, List.append_assoc, ← htk] at hcall2
    have HCALL := Lib.hid hcall2
    have HWV := Lib.hid hwV
    have k0 : (0 : Int) ≤ (k : Int) := by omega
    clear hBr hBV hwV hblV hcall hsum hcall2 htk hal hd2 hmem hx2 hen hg2
    go_wp2_with fail
    refine HCALL.out.mono ?_
    rintro e9 w9 ⟨rfl, hl9, hw9⟩
    have HL9 := Lib.hid hl9
    have HW9 := Lib.hid (HWV.out.trans hw9)
    clear hl9 hw9
    go_wp2_with fail
    go_roundw
    case rel => exact ⟨k + 1, by go_num, by omega, HL9.out, HW9.out⟩
    case measure => simp [intOf]; omega
   ·have hkm : x.ents.take k = x.ents := List.take_of_length_le (by have := HE.out.1; omega)
    have hbl := HBL.out
    rw [hkm] at hbl
    have HBL2 := Lib.hid hbl
    clear hbl hkm
    go_wp2_with fail
    go_end0
    exact ⟨rfl, HBL2.out, HWR.out⟩
theorem shwalk_any (B b q : Nat) (s : St) (wB : World) (hG : Good s) (hPB : PtrAt wB q s) (hB : wB.heap.size = B) (hT : Tab wB) : ∀ d, WalkAt B b q s wB d
 | 0, num, P, l, w, hd, _, _, _ => absurd hd (by intro h; exact h)
 | d + 1, num, P, l, w, hd, h, hBw, hlen => by
  have ih := shwalk_any B b q s wB hG hPB hB hT d
  obtain ⟨x, hx, hnum, hdat, hfile, hall⟩ := hd
  by_cases hdir : x.dir = true
  ·rw [walk_dir hx hdir] at hlen ⊢
   have hel := hG.ents_len (at_mem hx).1
   exact shwalk_dir B b q s wB d hPB hB hT ih num P l w x hx hdir hnum (by omega) hall h hBw hlen
  ·have hdir' : x.dir = false := by simpa using hdir
   rw [walk_file hx hdir'] at hlen ⊢
   exact shwalk_file B b q s wB hPB hB hT num P l w x hx hdir' hnum hdat h hBw (by omega)
def codeO (s : St) : Int := if mayV s then 0 else 1400
def filesO (s : St) : List UInt8 := if mayV s then filesL s else []
theorem ptr_box {w W : World} {A B D : Option Addr} {n c m d k e : Nat} {s : St} (h : StAt none w (.agg #[.slice A n c, .slice B m d, .slice D k e]) s) (hW : w.alloc (.cells #[.slice A n c, .slice B m d, .slice D k e] 31) = W) :
  PtrAt W w.heap.size s ∧ Below w.heap.size w W := by
 have hal : Below w.heap.size w W := by rw [← hW]; exact (Below.refl _ _).alloc (Nat.le_refl _) _
 obtain ⟨⟨A', n', c', B', m', d', D', k', e', hv, hI, hD, hM, h5, h6, h7⟩, hz⟩ := h
 cases hv
 refine ⟨⟨⟨A, n, c, B, m, d, D, k, e, ?_, hI.below hal, hD.below hal, hM.below hal, h5, h6, h7⟩, hz⟩, hal⟩
 rw [← hW]
 exact heap_alloc_new w _
theorem freshS (sp : Value) (w W : World) (hW : w.alloc (.cells #[sp, .pointer none, .slice none 0 0] 112) = W) : BldS w.heap.size w.heap.size sp [] W ∧ Below w.heap.size w W := by
 have hal : Below w.heap.size w W := by rw [← hW]; exact (Below.refl _ _).alloc (Nat.le_refl _) _
 refine ⟨.inl ⟨Nat.le_refl _, .slice none 0 0, ?_, ⟨rfl, .inl ⟨rfl, rfl⟩⟩, by simp [Value.ownBlock]⟩, hal⟩
 rw [← hW]
 exact heap_alloc_new w _
theorem filesL_ne {s : St} (h : Good s) : filesL s ≠ [] := by
 have hd := h.top
 have e : topD s = s.inos.length + 1 + 1 := rfl
 unfold filesL
 rw [e] at hd ⊢
 obtain ⟨x, hx, _⟩ := hd
 by_cases hdir : x.dir = true
 ·rw [walk_dir hx hdir]
  unfold lineD
  simp
 ·rw [walk_file hx (by simpa using hdir)]
  unfold lineF
  simp
set_option maxRecDepth 100000 in
set_option maxHeartbeats 4000000 in
theorem shfiles_any (v : Value) (s : St) (w : World) (h : StAt none w v s) (hT : Tab w) :
  Calls Tryz.prog 55 #[v] w fun e w' => e = .returned (.tuple #[.string (txt (filesO s)), .int .i64 (codeO s)]) ∧ Below w.heap.size w w' := by
 obtain ⟨A, n, c, B, m, d, D, k, e, rfl⟩ : ∃ A n c B m d D k e, v = .agg #[.slice A n c, .slice B m d, .slice D k e] := by
  obtain ⟨⟨A, n, c, B, m, d, D, k, e, hv, _⟩, _⟩ := h
  exact ⟨A, n, c, B, m, d, D, k, e, hv⟩
 obtain ⟨W, hW, b0, b1, b2, hal, hlt0⟩ := box_st w A n c B m d D k e
 have HP := Lib.hid (ptr_box h hW).1
 have HS := Lib.hid (h.below hal)
 have HAL := Lib.hid hal
 have HT := Lib.hid (hT.below hal)
 clear h hal hT
 go_enter Tryz.func55, Tryz.ntmps55
 go_wp2_with fail
 refine (mmay_any _ s _ HS.out).mono ?_
 rintro e5 w5 ⟨rfl, hb5⟩
 have HB5 := Lib.hid hb5
 clear hb5 b0 b1 b2
 by_cases hm : mayV s = true
 ·have hG := (good_iff s).1 hm
  have HG := Lib.hid hG
  rw [hm]
  have hfo : filesO s = filesL s := by unfold filesO; rw [if_pos hm]
  have hco : codeO s = 0 := by unfold codeO; rw [if_pos hm]
  have HFO := Lib.hid hfo
  have HCO := Lib.hid hco
  have hfl := hG.files_len
  obtain ⟨W2, hW2⟩ : ∃ W2, w5.alloc (.cells #[.pointer (some ⟨w.heap.size, 0, none⟩), .pointer none, .slice none 0 0] 112) = W2 := ⟨_, rfl⟩
  obtain ⟨hbl2, hal2⟩ := freshS _ _ _ hW2
  have hwalk := shwalk_any w5.heap.size w5.heap.size w.heap.size s w5 hG (HP.out.below HB5.out) rfl (HT.out.below HB5.out) (topD s) 1 ⟨#[]⟩ [] W2 hG.top hbl2 hal2 (by
   show 0 + (filesL s).length ≤ _
   omega)
  have hwalk2 : Calls Tryz.prog 77 #[.pointer (some ⟨w5.heap.size, 0, none⟩), .int .i64 1, .string ⟨#[]⟩] W2 fun e w' => e = .returned (.tuple #[]) ∧ BldS w5.heap.size w5.heap.size (.pointer (some ⟨w.heap.size, 0, none⟩)) (filesL s) w' ∧ Wr w5.heap.size w5.heap.size W2 w' := hwalk
  have HWK := Lib.hid hwalk2
  have HAL2 := Lib.hid hal2
  have HNE := Lib.hid (filesL_ne hG)
  clear hm hG hfo hco hfl hbl2 hal2 hwalk hwalk2
  go_wp2_with fail
  refine HWK.out.mono ?_
  rintro e6 w6 ⟨rfl, hl6, hw6⟩
  have HL6 := Lib.hid hl6
  have HW6 := Lib.hid (HAL2.out.trans hw6.below)
  clear hl6 hw6
  go_wp2_with fail
  refine (string_anyS _ _ _ _ _ HL6.out HNE.out).mono ?_
  rintro e7 w7 ⟨rfl, hl7, hw7⟩
  have HB7 := Lib.hid ((Cv.next HAL.out HB5.out).trans ((HW6.out.trans hw7.below).mono (Cv.next HAL.out HB5.out).size))
  clear hl7 hw7
  go_wp2_with fail
  go_ret2
  exact ⟨by rw [HFO.out, HCO.out]; rfl, HB7.out⟩
 ·have hm' : mayV s = false := by simpa using hm
  rw [hm']
  have hfo : filesO s = [] := by unfold filesO; rw [hm']; rfl
  have hco : codeO s = 1400 := by unfold codeO; rw [hm']; rfl
  have HFO := Lib.hid hfo
  have HCO := Lib.hid hco
  clear hm hm' hfo hco
  go_wp2_with fail
  go_ret2
  exact ⟨by rw [HFO.out, HCO.out]; rfl, Cv.next HAL.out HB5.out⟩
end Go.Proofs.YtilkhmhgjbhfnaaGreatDoor
