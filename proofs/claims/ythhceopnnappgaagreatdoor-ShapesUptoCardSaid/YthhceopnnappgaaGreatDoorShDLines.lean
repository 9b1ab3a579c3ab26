/- The document's lines: a directory's text, depth first. -/
import Derived.Test.YthhceopnnappgaaGreatDoorShDHex
import Derived.Test.YthhceopnnappgaaGreatDoorM10
set_option linter.unusedVariables false
set_option linter.unusedSimpArgs false
namespace Go.Proofs.YthhceopnnappgaaGreatDoor
open Go.RowKit
theorem data_eq2 {a b : ByteArray} (h : a.data.toList = b.data.toList) : a = b := by
 obtain ⟨x⟩ := a
 obtain ⟨y⟩ := b
 have h2 : x = y := Array.toList_inj.1 h
 rw [h2]
set_option maxRecDepth 100000 in
set_option maxHeartbeats 8000000 in
theorem dlines_file (s : St) (hG : Good s) (num : Int) (p : List UInt8) (SH : ByteArray) (v : Value) (w : World) (h : StAt none w v s) (x : Ino) (hx0 : inoAt s.inos (atV s.inos num) = some x) (hdir : x.dir = false) (hnum : 1 ≤ num ∧ num ≤ 257) (hdat : x.data.size ≤ 256)
  (hSH : SH.data.toList = shownL p) (hlen : (lineF p num x.data.data.toList).length ≤ 17179869184) :
  Calls Tryz.prog 35 #[v, .int .i64 num, .string SH] w fun e w' => e = .returned (.string (txt (lineF p num x.data.data.toList))) ∧ Below w.heap.size w w' := by
 obtain ⟨i, hat⟩ : ∃ i : Nat, atV s.inos num = (i : Int) := by
  unfold inoAt at hx0
  split at hx0
  ·cases hx0
  ·exact ⟨(atV s.inos num).toNat, by omega⟩
 have hx := hx0
 rw [hat, inoAt_nat] at hx
 obtain ⟨⟨A, n, c, B, m, d, D, k, e, rfl, hI, hD, hM, h5, h6, h7⟩, hz⟩ := h
 have hn := hI.1
 have hin : i < n := by have := (List.getElem?_eq_some_iff.1 hx).1; omega
 obtain ⟨W, hW, b0, b1, b2, hal, hlt0⟩ := box_st w A n c B m d D k e
 obtain ⟨g, off, x', E, m2, d2, rfl, hg, hx', _, _, c0, c1, c2, hmd, hE, c3⟩ := (hI.below hal).get i hin
 have ex : x = x' := by rw [hx] at hx'; exact Option.some.inj hx'
 subst ex
 have hel := hE.1
 have hm2 : m2 ≤ 1000 := by have := hG.ents_len (List.mem_of_getElem? hx); omega
 have HS := Lib.hid ((StAt.of_parts hI hD hM h5 h6 h7 hz).below hal)
 have HE := Lib.hid hE
 have HEL := Lib.hid hel
 have HAL := Lib.hid hal
 have HAT := Lib.hid hat
 have i0 : (0 : Int) ≤ (i : Int) := by omega
 have i9 : (i : Int) < (n : Int) := by omega
 obtain ⟨DN, hDN⟩ : ∃ DN, txt (decN num) = DN := ⟨_, rfl⟩
 obtain ⟨HX, hHX⟩ : ∃ HX, txt (hexT x.data.data.toList) = HX := ⟨_, rfl⟩
 have hdl : DN.data.toList = decN num := by rw [← hDN, txt_listSh]
 have hxl : HX.data.toList = hexT x.data.data.toList := by rw [← hHX, txt_listSh]
 have hshs : SH.size ≤ 17179869184 := by
  have h1 : SH.data.toList.length = SH.size := Array.length_toList
  rw [hSH] at h1
  unfold lineF at hlen
  simp only [List.length_cons, List.length_append] at hlen
  omega
 have hdns : DN.size ≤ 3 := by
  have h1 : DN.data.toList.length = DN.size := Array.length_toList
  have h2 : (decN num).length ≤ 3 := decN_len (by omega)
  rw [hdl] at h1
  omega
 have hhxs : HX.size ≤ 600 := by
  have h1 : HX.data.toList.length = HX.size := Array.length_toList
  have h5 := hexT_len x.data.data.toList
  have h6 : x.data.data.toList.length = x.data.size := Array.length_toList
  rw [hxl] at h1
  omega
 have hit : ∀ W, Calls Tryz.prog 31 #[.int .i64 num] W fun e w' => e = .returned (.string DN) ∧ Below W.heap.size W w' := fun W => by
  rw [← hDN]
  exact ddec_any num (by omega) (by omega) W
 have hhx : ∀ W, Calls Tryz.prog 32 #[.string x.data] W fun e w' => e = .returned (.string HX) ∧ Below W.heap.size W w' := fun W => by
  rw [← hHX]
  exact dhex_any x.data W (by omega)
 have hfin : ((((((⟨#[102, 32]⟩ : ByteArray) ++ SH) ++ ⟨#[32]⟩) ++ DN) ++ ⟨#[32]⟩) ++ HX) ++ ⟨#[10]⟩ = txt (lineF p num x.data.data.toList) := by
  apply data_eq2
  rw [txt_listSh]
  unfold lineF
  simp [hSH, hdl, hxl]
 have f1 : ¬ 9223372036854775807 < 2 + SH.size := by omega
 have f2 : ¬ 9223372036854775807 < 2 + SH.size + 1 := by omega
 have f3 : ¬ 9223372036854775807 < 2 + SH.size + 1 + DN.size := by omega
 have f4 : ¬ 9223372036854775807 < 2 + SH.size + 1 + DN.size + 1 := by omega
 have f5 : ¬ 9223372036854775807 < 2 + SH.size + 1 + DN.size + 1 + HX.size := by omega
 have f6 : ¬ 9223372036854775807 < 2 + SH.size + 1 + DN.size + 1 + HX.size + 1 := by omega
 have HIT := Lib.hid hit
 have HHX := Lib.hid hhx
 have HDIR := Lib.hid hdir
 have HFIN := Lib.hid hfin
 clear hI hD hM hz hn hx hx0 hx' hat hal hE hel hin hG hit hhx hfin hDN hHX hdl hxl hSH hlen hnum hdat hdir
 go_enter Tryz.func35, Tryz.ntmps35
 go_upto_region 1 with fail
 clear hW
 go_cut [7] (fun p wx => ∃ b, p = .pointer (some ⟨b, 0, .none⟩) ∧ wx.cell? ⟨b, 1, .none⟩ = some (.bool x.dir) ∧ wx.cell? ⟨b, 2, .none⟩ = some (.slice E m2 d2) ∧ wx.cell? ⟨b, 3, .none⟩ = some (.string x.data) ∧ Below W.heap.size W wx ∧ b < wx.heap.size)
 case first =>
  have nA : W.heap.size ≠ w.heap.size := by omega
  have nB : W.heap.size ≠ g := by omega
  go_region_held3 (fun w' => w'.cell? ⟨w.heap.size, 0, none⟩ = some (.slice (some ⟨g, off, none⟩) n c) ∧ w'.cell? ⟨w.heap.size, 1, none⟩ = some (.slice B m d) ∧ w'.cell? ⟨w.heap.size, 2, none⟩ = some (.slice D k e) ∧ w'.cell? ⟨g, off + i * 4, none⟩ = some (.int .i64 x.num) ∧ w'.cell? ⟨g, off + i * 4 + 1, none⟩ = some (.bool x.dir) ∧ w'.cell? ⟨g, off + i * 4 + 2, none⟩ = some (.slice E m2 d2) ∧ w'.cell? ⟨g, off + i * 4 + 3, none⟩ = some (.string x.data))
   (first | go_keep | (refine ⟨?_, ?_, ?_, ?_, ?_, ?_, ?_⟩ <;> first | go_keep | (rw [hb5.cell (by simp; omega)]; simp [*])) | (refine ⟨?_, ?_, ?_, ?_, ?_, ?_, ?_⟩ <;> (rw [World.cell?_alloc_lt _ _ _ (by have := hb5.size; simp at this ⊢; omega), hb5.cell (by simp; omega)]; simp [*])))
   ((go_at_call 57; refine (at_any _ s num _ (HS.out.below (by first | exact Cv.drewN_below (Below.refl _ _) 1 | exact (Cv.drewN_below (Below.refl _ _) 1).alloc (by simp) _))).mono ?_; rintro e5 w5 ⟨rfl, hb5⟩; rw [HAT.out]; have nC : w5.heap.size ≠ w.heap.size := (by have := hb5.size; simp at this; omega); have nD : w5.heap.size ≠ g := (by have := hb5.size; simp at this; omega); try (have m0 : w5.cell? ⟨W.heap.size, 0, none⟩ = some (.int .i64 0) := (hb5.cell (by simp)).trans (by simp); have m1 : w5.cell? ⟨W.heap.size, 1, none⟩ = some (.bool false) := (hb5.cell (by simp)).trans (by simp); have m2' : w5.cell? ⟨W.heap.size, 2, none⟩ = some (.slice none 0 0) := (hb5.cell (by simp)).trans (by simp); have m3 : w5.cell? ⟨W.heap.size, 3, none⟩ = some (.string ⟨#[]⟩) := (hb5.cell (by simp)).trans (by simp); have mf : ∀ j, w5.frozen? ⟨W.heap.size, j, none⟩ = false := fun j => (hb5.frozen (by simp)).trans (frozen_of_row _ _ j _ _ (heap_alloc_new _ _)))))
  all_goals (
   go_wp2_with fail
   go_meet)
  ·have hb6 : Below W.heap.size W w5 := (Cv.drewN_below (Below.refl _ _) 1).trans (hb5.mono (Nat.le_refl _))
   exact ⟨w5.heap.size, rfl, (World.cell?_alloc_mark w5 _ _ (0, 0) _).trans rfl, (World.cell?_alloc_mark w5 _ _ (0, 0) _).trans rfl, (World.cell?_alloc_mark w5 _ _ (0, 0) _).trans rfl, hb6.alloc hb6.size _, by simp⟩
  ·have hb6 : Below W.heap.size W w5 := (Cv.drewN_below ((Below.refl _ _).alloc (Nat.le_refl _) _) 1).trans (hb5.mono (by simp))
   have hl6 : W.heap.size < w5.heap.size := Nat.lt_of_lt_of_le (by simp) hb5.size
   have s4 : ∀ (V : World) (a b c d : Value) (u1 u2 u3 : Value), V.cell? ⟨W.heap.size, 1, none⟩ = some u1 → V.cell? ⟨W.heap.size, 2, none⟩ = some u2 → V.cell? ⟨W.heap.size, 3, none⟩ = some u3 →
     ((((V.setCell ⟨W.heap.size, 0, none⟩ a).setCell ⟨W.heap.size, 1, none⟩ b).setCell ⟨W.heap.size, 2, none⟩ c).setCell ⟨W.heap.size, 3, none⟩ d).cell? ⟨W.heap.size, 1, none⟩ = some b ∧
     ((((V.setCell ⟨W.heap.size, 0, none⟩ a).setCell ⟨W.heap.size, 1, none⟩ b).setCell ⟨W.heap.size, 2, none⟩ c).setCell ⟨W.heap.size, 3, none⟩ d).cell? ⟨W.heap.size, 2, none⟩ = some c ∧
     ((((V.setCell ⟨W.heap.size, 0, none⟩ a).setCell ⟨W.heap.size, 1, none⟩ b).setCell ⟨W.heap.size, 2, none⟩ c).setCell ⟨W.heap.size, 3, none⟩ d).cell? ⟨W.heap.size, 3, none⟩ = some d := by
    intro V a b c d u1 u2 u3 h1 h2 h3
    refine ⟨?_, ?_, ?_⟩
    ·refine (World.cell?_setCell_other _ _ _ _ (by simp)).trans ((World.cell?_setCell_other _ _ _ _ (by simp)).trans (World.cell?_setCell_same' _ _ _ ?_))
     rw [World.cell?_setCell_other _ _ _ _ (by simp), h1]
     rfl
    ·refine (World.cell?_setCell_other _ _ _ _ (by simp)).trans (World.cell?_setCell_same' _ _ _ ?_)
     rw [World.cell?_setCell_other _ _ _ _ (by simp), World.cell?_setCell_other _ _ _ _ (by simp), h2]
     rfl
    ·refine World.cell?_setCell_same' _ _ _ ?_
     rw [World.cell?_setCell_other _ _ _ _ (by simp), World.cell?_setCell_other _ _ _ _ (by simp), World.cell?_setCell_other _ _ _ _ (by simp), h3]
     rfl
   obtain ⟨t1, t2, t3⟩ := s4 w5 (.int .i64 x.num) (.bool x.dir) (.slice E m2 d2) (.string x.data) _ _ _ m1 m2' m3
   exact ⟨W.heap.size, rfl, t1, t2, t3, (((hb6.setCell (Nat.le_refl _) _).setCell (Nat.le_refl _) _).setCell (Nat.le_refl _) _).setCell (Nat.le_refl _) _, by simpa [World.setCell] using hl6⟩
 case rest =>
  obtain ⟨b, rfl, z1, z2, z3, hbx, hbl⟩ := hcut
  have HBX := Lib.hid hbx
  rw [HDIR.out] at z1
  clear b0 b1 b2 c0 c1 c2 c3 z2 hbx hmd
  have hb9 : Below w.heap.size w wc := Cv.next HAL.out HBX.out
  have HB9 := Lib.hid hb9
  clear hb9
  go_wp2_with fail
  go_region_held3 (fun w' => w'.cell? ⟨b, 3, none⟩ = some (.string x.data))
   (first
    | go_keep
    | exact cell_later hb5 (by assumption)
    | exact cell_later hb6 (by assumption))
   (first
    | (go_at_call 31; refine (HIT.out _).mono ?_; rintro e5 w5 ⟨rfl, hb5⟩)
    | (go_at_call 32; refine (HHX.out w5).mono ?_; rintro e6 w6 ⟨rfl, hb6⟩))
  go_wp2_with fail
  go_ret
  have hbd : Below wc.heap.size wc wc.drew := Below.drew (Below.refl _ _)
  have hb7 : Below wc.heap.size wc w6 := (hbd.trans (hb5.mono hbd.size)).trans (hb6.mono (Nat.le_trans hbd.size hb5.size))
  refine ⟨?_, HB9.out.trans (hb7.mono HB9.out.size)⟩
  rw [← HFIN.out]
  rfl
def DLinesAt (s : St) (d : Nat) : Prop :=
 ∀ (num : Int) (p : List UInt8) (SH : ByteArray) (v : Value) (w : World), StAt none w v s → DeepT s.inos d num → SH.data.toList = shownL p → p ≠ [47] → (walkL s.inos d num p).length ≤ 17179869184 →
  Calls Tryz.prog 35 #[v, .int .i64 num, .string SH] w fun e w' => e = .returned (.string (txt (walkL s.inos d num p))) ∧ Below w.heap.size w w'
set_option maxRecDepth 100000 in
set_option maxHeartbeats 8000000 in
theorem dlines_dir (s : St) (hG : Good s) (dp : Nat) (hIH : DLinesAt s dp) (num : Int) (p : List UInt8) (SH : ByteArray) (v : Value) (w : World) (h : StAt none w v s) (x : Ino) (hx0 : inoAt s.inos (atV s.inos num) = some x) (hdir : x.dir = true) (hnum : 1 ≤ num ∧ num ≤ 257) (hall : ∀ e ∈ x.ents, (e.name.data.toList ≠ [] ∧ e.name.size ≤ 12) ∧ DeepT s.inos dp e.num)
  (hSH : SH.data.toList = shownL p) (hp47 : p ≠ [47]) (hlen : (lineD p num ++ x.ents.flatMap (fun e => walkL s.inos dp e.num (stepSh p e.name))).length ≤ 17179869184) :
  Calls Tryz.prog 35 #[v, .int .i64 num, .string SH] w fun e w' => e = .returned (.string (txt (lineD p num ++ x.ents.flatMap (fun e => walkL s.inos dp e.num (stepSh p e.name))))) ∧ Below w.heap.size w w' := by
 obtain ⟨LL, hLL⟩ : ∃ LL : En → List UInt8, (fun e : En => walkL s.inos dp e.num (stepSh p e.name)) = LL := ⟨_, rfl⟩
 have hll : ∀ e : En, LL e = walkL s.inos dp e.num (stepSh p e.name) := fun e => by rw [← hLL]
 rw [hLL] at hlen ⊢
 obtain ⟨i, hat⟩ : ∃ i : Nat, atV s.inos num = (i : Int) := by
  unfold inoAt at hx0
  split at hx0
  ·cases hx0
  ·exact ⟨(atV s.inos num).toNat, by omega⟩
 have hx := hx0
 rw [hat, inoAt_nat] at hx
 obtain ⟨⟨A, n, c, B, m, d, D, k1, e, rfl, hI, hD, hM, h5, h6, h7⟩, hz⟩ := h
 have hn := hI.1
 have hin : i < n := by have := (List.getElem?_eq_some_iff.1 hx).1; omega
 obtain ⟨W, hW, b0, b1, b2, hal, hlt0⟩ := box_st w A n c B m d D k1 e
 obtain ⟨g, off, x', E, m2, d2, rfl, hg, hx', _, _, c0, c1, c2, hmd, hE, c3⟩ := (hI.below hal).get i hin
 have ex : x = x' := by rw [hx] at hx'; exact Option.some.inj hx'
 subst ex
 have hel := hE.1
 have hm2 : m2 ≤ 1000 := by have := hG.ents_len (List.mem_of_getElem? hx); omega
 have HS := Lib.hid ((StAt.of_parts hI hD hM h5 h6 h7 hz).below hal)
 have HE := Lib.hid hE
 have HEL := Lib.hid hel
 have HAL := Lib.hid hal
 have HAT := Lib.hid hat
 have i0 : (0 : Int) ≤ (i : Int) := by omega
 have i9 : (i : Int) < (n : Int) := by omega
 obtain ⟨DN, hDN⟩ : ∃ DN, txt (decN num) = DN := ⟨_, rfl⟩
 have hdl : DN.data.toList = decN num := by rw [← hDN, txt_listSh]
 have hshs : SH.size ≤ 17179869184 := by
  have h1 : SH.data.toList.length = SH.size := Array.length_toList
  rw [hSH] at h1
  unfold lineD at hlen
  simp only [List.length_cons, List.length_append] at hlen
  omega
 have hdns : DN.size ≤ 3 := by
  have h1 : DN.data.toList.length = DN.size := Array.length_toList
  have h2 : (decN num).length ≤ 3 := decN_len (by omega)
  rw [hdl] at h1
  omega
 have hit : ∀ W, Calls Tryz.prog 31 #[.int .i64 num] W fun e w' => e = .returned (.string DN) ∧ Below W.heap.size W w' := fun W => by
  rw [← hDN]
  exact ddec_any num (by omega) (by omega) W
 have hsum : ∀ (k : Nat) (e : En), x.ents[k]? = some e → (lineD p num ++ (x.ents.take k).flatMap LL).length + (LL e).length ≤ 17179869184 := fun k e he => by
  have := take_lenSh LL x.ents k e he
  rw [List.length_append] at hlen ⊢
  omega
 have hO0 : (((((⟨#[100, 32]⟩ : ByteArray) ++ SH) ++ ⟨#[32]⟩) ++ DN) ++ ⟨#[10]⟩).data.toList = lineD p num := by
  unfold lineD
  simp [hSH, hdl]
 have hl0 : (lineD p num).length ≤ 17179869184 := by rw [List.length_append] at hlen; omega
 have f1 : ¬ 9223372036854775807 < 2 + SH.size := by omega
 have f2 : ¬ 9223372036854775807 < 2 + SH.size + 1 := by omega
 have f3 : ¬ 9223372036854775807 < 2 + SH.size + 1 + DN.size := by omega
 have f4 : ¬ 9223372036854775807 < 2 + SH.size + 1 + DN.size + 1 := by omega
 have HIT := Lib.hid hit
 have HDIR := Lib.hid hdir
 have HO0 := Lib.hid hO0
 have HSUM := Lib.hid hsum
 have HIH := Lib.hid hIH
 have HALL := Lib.hid hall
 have HLL := Lib.hid hll
 have HZ := Lib.hid (StAt.of_parts hI hD hM h5 h6 h7 hz)
 have HHSH := Lib.hid hSH
 have HP47 := Lib.hid hp47
 clear hI hD hM hz hn hx hx0 hx' hat hal hE hel hin hG hit hdir hsum hO0 hDN hdl hlen hnum hall hIH hSH hp47 hll hLL hl0 h5 h6 h7
 go_enter Tryz.func35, Tryz.ntmps35
 go_upto_region 1 with fail
 clear hW
 go_cut [7] (fun p wx => ∃ b, p = .pointer (some ⟨b, 0, .none⟩) ∧ wx.cell? ⟨b, 1, .none⟩ = some (.bool x.dir) ∧ wx.cell? ⟨b, 2, .none⟩ = some (.slice E m2 d2) ∧ wx.cell? ⟨b, 3, .none⟩ = some (.string x.data) ∧ Below W.heap.size W wx ∧ b < wx.heap.size)
 case first =>
  have nA : W.heap.size ≠ w.heap.size := by omega
  have nB : W.heap.size ≠ g := by omega
  go_region_held3 (fun w' => w'.cell? ⟨w.heap.size, 0, none⟩ = some (.slice (some ⟨g, off, none⟩) n c) ∧ w'.cell? ⟨w.heap.size, 1, none⟩ = some (.slice B m d) ∧ w'.cell? ⟨w.heap.size, 2, none⟩ = some (.slice D k1 e) ∧ w'.cell? ⟨g, off + i * 4, none⟩ = some (.int .i64 x.num) ∧ w'.cell? ⟨g, off + i * 4 + 1, none⟩ = some (.bool x.dir) ∧ w'.cell? ⟨g, off + i * 4 + 2, none⟩ = some (.slice E m2 d2) ∧ w'.cell? ⟨g, off + i * 4 + 3, none⟩ = some (.string x.data))
   (first | go_keep | (refine ⟨?_, ?_, ?_, ?_, ?_, ?_, ?_⟩ <;> first | go_keep | (rw [hb5.cell (by simp; omega)]; simp [*])) | (refine ⟨?_, ?_, ?_, ?_, ?_, ?_, ?_⟩ <;> (rw [World.cell?_alloc_lt _ _ _ (by have := hb5.size; simp at this ⊢; omega), hb5.cell (by simp; omega)]; simp [*])))
   ((go_at_call 57; refine (at_any _ s num _ (HS.out.below (by first | exact Cv.drewN_below (Below.refl _ _) 1 | exact (Cv.drewN_below (Below.refl _ _) 1).alloc (by simp) _))).mono ?_; rintro e5 w5 ⟨rfl, hb5⟩; rw [HAT.out]; have nC : w5.heap.size ≠ w.heap.size := (by have := hb5.size; simp at this; omega); have nD : w5.heap.size ≠ g := (by have := hb5.size; simp at this; omega); try (have m0 : w5.cell? ⟨W.heap.size, 0, none⟩ = some (.int .i64 0) := (hb5.cell (by simp)).trans (by simp); have m1 : w5.cell? ⟨W.heap.size, 1, none⟩ = some (.bool false) := (hb5.cell (by simp)).trans (by simp); have m2' : w5.cell? ⟨W.heap.size, 2, none⟩ = some (.slice none 0 0) := (hb5.cell (by simp)).trans (by simp); have m3 : w5.cell? ⟨W.heap.size, 3, none⟩ = some (.string ⟨#[]⟩) := (hb5.cell (by simp)).trans (by simp); have mf : ∀ j, w5.frozen? ⟨W.heap.size, j, none⟩ = false := fun j => (hb5.frozen (by simp)).trans (frozen_of_row _ _ j _ _ (heap_alloc_new _ _)))))
  all_goals (
   go_wp2_with fail
   go_meet)
  ·have hb6 : Below W.heap.size W w5 := (Cv.drewN_below (Below.refl _ _) 1).trans (hb5.mono (Nat.le_refl _))
   exact ⟨w5.heap.size, rfl, (World.cell?_alloc_mark w5 _ _ (0, 0) _).trans rfl, (World.cell?_alloc_mark w5 _ _ (0, 0) _).trans rfl, (World.cell?_alloc_mark w5 _ _ (0, 0) _).trans rfl, hb6.alloc hb6.size _, by simp⟩
  ·have hb6 : Below W.heap.size W w5 := (Cv.drewN_below ((Below.refl _ _).alloc (Nat.le_refl _) _) 1).trans (hb5.mono (by simp))
   have hl6 : W.heap.size < w5.heap.size := Nat.lt_of_lt_of_le (by simp) hb5.size
   have s4 : ∀ (V : World) (a b c d : Value) (u1 u2 u3 : Value), V.cell? ⟨W.heap.size, 1, none⟩ = some u1 → V.cell? ⟨W.heap.size, 2, none⟩ = some u2 → V.cell? ⟨W.heap.size, 3, none⟩ = some u3 →
     ((((V.setCell ⟨W.heap.size, 0, none⟩ a).setCell ⟨W.heap.size, 1, none⟩ b).setCell ⟨W.heap.size, 2, none⟩ c).setCell ⟨W.heap.size, 3, none⟩ d).cell? ⟨W.heap.size, 1, none⟩ = some b ∧
     ((((V.setCell ⟨W.heap.size, 0, none⟩ a).setCell ⟨W.heap.size, 1, none⟩ b).setCell ⟨W.heap.size, 2, none⟩ c).setCell ⟨W.heap.size, 3, none⟩ d).cell? ⟨W.heap.size, 2, none⟩ = some c ∧
     ((((V.setCell ⟨W.heap.size, 0, none⟩ a).setCell ⟨W.heap.size, 1, none⟩ b).setCell ⟨W.heap.size, 2, none⟩ c).setCell ⟨W.heap.size, 3, none⟩ d).cell? ⟨W.heap.size, 3, none⟩ = some d := by
    intro V a b c d u1 u2 u3 h1 h2 h3
    refine ⟨?_, ?_, ?_⟩
    ·refine (World.cell?_setCell_other _ _ _ _ (by simp)).trans ((World.cell?_setCell_other _ _ _ _ (by simp)).trans (World.cell?_setCell_same' _ _ _ ?_))
     rw [World.cell?_setCell_other _ _ _ _ (by simp), h1]
     rfl
    ·refine (World.cell?_setCell_other _ _ _ _ (by simp)).trans (World.cell?_setCell_same' _ _ _ ?_)
     rw [World.cell?_setCell_other _ _ _ _ (by simp), World.cell?_setCell_other _ _ _ _ (by simp), h2]
     rfl
    ·refine World.cell?_setCell_same' _ _ _ ?_
     rw [World.cell?_setCell_other _ _ _ _ (by simp), World.cell?_setCell_other _ _ _ _ (by simp), World.cell?_setCell_other _ _ _ _ (by simp), h3]
     rfl
   obtain ⟨t1, t2, t3⟩ := s4 w5 (.int .i64 x.num) (.bool x.dir) (.slice E m2 d2) (.string x.data) _ _ _ m1 m2' m3
   exact ⟨W.heap.size, rfl, t1, t2, t3, (((hb6.setCell (Nat.le_refl _) _).setCell (Nat.le_refl _) _).setCell (Nat.le_refl _) _).setCell (Nat.le_refl _) _, by simpa [World.setCell] using hl6⟩
 case rest =>
  obtain ⟨b, rfl, z1, z2, z3, hbx, hbl⟩ := hcut
  have HBX := Lib.hid hbx
  rw [HDIR.out] at z1
  have a0 := (hbx.cell (p := ⟨w.heap.size, 0, none⟩) hlt0).trans b0
  have a1 := (hbx.cell (p := ⟨w.heap.size, 1, none⟩) hlt0).trans b1
  have a2 := (hbx.cell (p := ⟨w.heap.size, 2, none⟩) hlt0).trans b2
  have hlt1 : w.heap.size < wc.heap.size := Nat.lt_of_lt_of_le hlt0 hbx.size
  have HEc := Lib.hid (HE.out.below hbx)
  have hb9 : Below w.heap.size w wc := Cv.next HAL.out hbx
  have HB9 := Lib.hid hb9
  clear b0 b1 b2 c0 c1 c2 c3 z3 hbx hmd hb9
  have hcase : (p = [] ∧ SH = ⟨#[47]⟩) ∨ SH.data.toList = p := by
   by_cases hp : p = []
   ·left
    refine ⟨hp, ?_⟩
    apply data_eq2
    rw [HHSH.out, hp]
    rfl
   ·right
    rw [HHSH.out]
    unfold shownL
    rw [if_neg hp]
  rcases hcase with ⟨hp, rfl⟩ | hp
  ·subst hp
   go_wp2_with fail
   refine (HIT.out _).mono ?_
   rintro e5 w5 ⟨rfl, hb5⟩
   have z1' := cell_later hb5 z1
   have z2' := cell_later hb5 z2
   have a0' := cell_later hb5 a0
   have a1' := cell_later hb5 a1
   have a2' := cell_later hb5 a2
   have hbl5 : b < w5.heap.size := Nat.lt_of_lt_of_le hbl hb5.size
   have hlt5 : w.heap.size < w5.heap.size := Nat.lt_of_lt_of_le hlt1 hb5.size
   have HE5 := Lib.hid (HEc.out.below hb5)
   have HB5 := Lib.hid (HB9.out.trans (hb5.mono HB9.out.size))
   clear z1 z2 a0 a1 a2 hb5
   go_wp2_with fail
   go_loopw [8, 9] (fun o iv wr => ∃ (k : Nat) (O : ByteArray), o = .string O ∧ iv = .int .i64 k ∧ k ≤ m2 ∧ O.data.toList = lineD [] num ++ (x.ents.take k).flatMap LL ∧ Below w5.heap.size w5 wr) (fun _ iv _ => m2 - (intOf iv).toNat)
   case atStart => exact ⟨0, _, rfl, rfl, by omega, by rw [List.take_zero, List.flatMap_nil, List.append_nil]; exact HO0.out, Below.refl _ _⟩
   case round =>
    obtain ⟨k, O, rfl, rfl, hk, hO, hbel⟩ := hrel
    have HO := Lib.hid hO
    have HBE := Lib.hid hbel
    have y2 := (hbel.cell (p := ⟨b, 2, none⟩) hbl5).trans z2'
    by_cases hlt : k < m2
    ·have HEr := Lib.hid (HE5.out.below hbel)
     obtain ⟨g2, off2, en, rfl, hg2, hx2, hd2, hmem, n0, n1⟩ := HEr.out.get k hlt
     have r0 := (hbel.cell (p := ⟨w.heap.size, 0, none⟩) hlt5).trans a0'
     have r1 := (hbel.cell (p := ⟨w.heap.size, 1, none⟩) hlt5).trans a1'
     have r2 := (hbel.cell (p := ⟨w.heap.size, 2, none⟩) hlt5).trans a2'
     have hen := HALL.out en hmem
     have hns : en.name.size ≤ 12 := hen.1.2
     have hsum := HSUM.out k en hx2
     obtain ⟨RS, hRS⟩ : ∃ RS, txt (LL en) = RS := ⟨_, rfl⟩
     have hrl : RS.data.toList = LL en := by rw [← hRS, txt_listSh]
     have hrs : O.size + RS.size ≤ 17179869184 := by
      have h1 : RS.data.toList.length = RS.size := Array.length_toList
      have h2 : O.data.toList.length = O.size := Array.length_toList
      rw [hrl] at h1
      rw [hO] at h2
      omega
     have htk := flat_takeSh LL x.ents k en hx2
     have hcall : ∀ SH', SH'.data.toList = stepSh [] en.name → ∀ W, Below wr.heap.size wr W → Calls Tryz.prog 35 #[.agg #[.slice (some ⟨g, off, none⟩) n c, .slice B m d, .slice D k1 e], .int .i64 en.num, .string SH'] W fun e w' => e = .returned (.string RS) ∧ Below W.heap.size W w' := fun SH' hs W hW => by
      have h8 := HIH.out en.num (stepSh [] en.name) SH' _ W (HZ.out.below ((HB5.out.trans (HBE.out.mono HB5.out.size)).trans (hW.mono (Nat.le_trans HB5.out.size HBE.out.size)))) hen.2 (by
       rw [hs]
       unfold shownL stepSh
       rw [if_neg (by simp)]) (by
       intro h9
       have h10 := congrArg List.length h9
       unfold stepSh at h10
       simp only [List.length_append, List.length_cons, List.length_nil] at h10
       exact hen.1.1 (List.eq_nil_of_length_eq_zero (by omega))) (by
       rw [← HLL.out]
       omega)
      rw [← HLL.out, hRS] at h8
      exact h8
     have HCALL := Lib.hid hcall
     have hO2 : (O ++ RS).data.toList = lineD [] num ++ (x.ents.take (k + 1)).flatMap LL := by
      rw [htk, ← List.append_assoc, ← hO, ← hrl]
      simp
     have HO2 := Lib.hid hO2
     have k0 : (0 : Int) ≤ (k : Int) := by omega
     have k9 : (k : Int) < (m2 : Int) := by omega
     have u1 : ¬ 9223372036854775807 < O.size + RS.size := by omega
     have u2 : ¬ 9223372036854775807 < 1 + en.name.size := by omega
     have u3 : ¬ 9223372036854775807 < 0 + 1 + en.name.size := by omega
     clear hbel hd2 hmem hx2 hen hsum htk hcall hO2 hO hrl hRS hg2
     go_wp2_with fail
     go_region_held3 (fun w' => w'.cell? ⟨w.heap.size, 0, none⟩ = some (.slice (some ⟨g, off, none⟩) n c) ∧ w'.cell? ⟨w.heap.size, 1, none⟩ = some (.slice B m d) ∧ w'.cell? ⟨w.heap.size, 2, none⟩ = some (.slice D k1 e) ∧ w'.cell? ⟨b, 2, none⟩ = some (.slice (some ⟨g2, off2, none⟩) m2 d2) ∧ w'.cell? ⟨g2, off2 + k * 2, none⟩ = some (.string en.name) ∧ w'.cell? ⟨g2, off2 + k * 2 + 1, none⟩ = some (.int .i64 en.num))
      (first
       | go_keep
       | (go_split_ands; refine ⟨?_, ?_, ?_, ?_, ?_, ?_⟩ <;> exact cell_later hb6 (by assumption)))
      ((go_at_call 35; refine (HCALL.out _ (by unfold stepSh; simp []) _ (Below.drew (Below.refl _ _))).mono ?_; rintro e6 w6 ⟨rfl, hb6⟩))
     have HB6 := Lib.hid (HBE.out.trans (((Below.drew (Below.refl wr.heap.size wr)).trans hb6).mono HBE.out.size))
     clear hb6
     go_wp2_with fail
     go_roundw
     case rel => exact ⟨k + 1, _, rfl, by go_num, by omega, HO2.out, HB6.out⟩
     case measure => simp [intOf]; omega
    ·have hkm : x.ents.take k = x.ents := List.take_of_length_le (by have := HEL.out; omega)
     rw [hkm] at hO
     have hO3 : O = txt (lineD [] num ++ x.ents.flatMap LL) := by apply data_eq2; rw [txt_listSh]; exact hO
     have HO3 := Lib.hid hO3
     clear hkm hO hO3 hbel
     go_wp2_with fail
     go_ret
     exact ⟨by rw [HO3.out]; rfl, HB5.out.trans (HBE.out.mono HB5.out.size)⟩
  ·have hne : SH.toList ≠ [47] := by
    rw [ByteArray.toList_eq, hp]
    exact HP47.out
   have hneq : (SH.toList == [47]) = false := by rw [beq_eq_false_iff_ne]; exact hne
   have hps : SH.size ≤ 17179869184 := hshs
   go_wp2_with fail
   refine (HIT.out _).mono ?_
   rintro e5 w5 ⟨rfl, hb5⟩
   have z1' := cell_later hb5 z1
   have z2' := cell_later hb5 z2
   have a0' := cell_later hb5 a0
   have a1' := cell_later hb5 a1
   have a2' := cell_later hb5 a2
   have hbl5 : b < w5.heap.size := Nat.lt_of_lt_of_le hbl hb5.size
   have hlt5 : w.heap.size < w5.heap.size := Nat.lt_of_lt_of_le hlt1 hb5.size
   have HE5 := Lib.hid (HEc.out.below hb5)
   have HB5 := Lib.hid (HB9.out.trans (hb5.mono HB9.out.size))
   clear z1 z2 a0 a1 a2 hb5
   go_wp2_with fail
   go_loopw [8, 9] (fun o iv wr => ∃ (k : Nat) (O : ByteArray), o = .string O ∧ iv = .int .i64 k ∧ k ≤ m2 ∧ O.data.toList = lineD p num ++ (x.ents.take k).flatMap LL ∧ Below w5.heap.size w5 wr) (fun _ iv _ => m2 - (intOf iv).toNat)
   case atStart => exact ⟨0, _, rfl, rfl, by omega, by rw [List.take_zero, List.flatMap_nil, List.append_nil]; exact HO0.out, Below.refl _ _⟩
   case round =>
    obtain ⟨k, O, rfl, rfl, hk, hO, hbel⟩ := hrel
    have HO := Lib.hid hO
    have HBE := Lib.hid hbel
    have y2 := (hbel.cell (p := ⟨b, 2, none⟩) hbl5).trans z2'
    by_cases hlt : k < m2
    ·have HEr := Lib.hid (HE5.out.below hbel)
     obtain ⟨g2, off2, en, rfl, hg2, hx2, hd2, hmem, n0, n1⟩ := HEr.out.get k hlt
     have r0 := (hbel.cell (p := ⟨w.heap.size, 0, none⟩) hlt5).trans a0'
     have r1 := (hbel.cell (p := ⟨w.heap.size, 1, none⟩) hlt5).trans a1'
     have r2 := (hbel.cell (p := ⟨w.heap.size, 2, none⟩) hlt5).trans a2'
     have hen := HALL.out en hmem
     have hns : en.name.size ≤ 12 := hen.1.2
     have hsum := HSUM.out k en hx2
     obtain ⟨RS, hRS⟩ : ∃ RS, txt (LL en) = RS := ⟨_, rfl⟩
     have hrl : RS.data.toList = LL en := by rw [← hRS, txt_listSh]
     have hrs : O.size + RS.size ≤ 17179869184 := by
      have h1 : RS.data.toList.length = RS.size := Array.length_toList
      have h2 : O.data.toList.length = O.size := Array.length_toList
      rw [hrl] at h1
      rw [hO] at h2
      omega
     have htk := flat_takeSh LL x.ents k en hx2
     have hcall : ∀ SH', SH'.data.toList = stepSh p en.name → ∀ W, Below wr.heap.size wr W → Calls Tryz.prog 35 #[.agg #[.slice (some ⟨g, off, none⟩) n c, .slice B m d, .slice D k1 e], .int .i64 en.num, .string SH'] W fun e w' => e = .returned (.string RS) ∧ Below W.heap.size W w' := fun SH' hs W hW => by
      have h8 := HIH.out en.num (stepSh p en.name) SH' _ W (HZ.out.below ((HB5.out.trans (HBE.out.mono HB5.out.size)).trans (hW.mono (Nat.le_trans HB5.out.size HBE.out.size)))) hen.2 (by
       rw [hs]
       unfold shownL stepSh
       rw [if_neg (by simp)]) (by
       intro h9
       have h10 := congrArg List.length h9
       unfold stepSh at h10
       simp only [List.length_append, List.length_cons, List.length_nil] at h10
       exact hen.1.1 (List.eq_nil_of_length_eq_zero (by omega))) (by
       rw [← HLL.out]
       omega)
      rw [← HLL.out, hRS] at h8
      exact h8
     have HCALL := Lib.hid hcall
     have hO2 : (O ++ RS).data.toList = lineD p num ++ (x.ents.take (k + 1)).flatMap LL := by
      rw [htk, ← List.append_assoc, ← hO, ← hrl]
      simp
     have HO2 := Lib.hid hO2
     have k0 : (0 : Int) ≤ (k : Int) := by omega
     have k9 : (k : Int) < (m2 : Int) := by omega
     have u1 : ¬ 9223372036854775807 < O.size + RS.size := by omega
     have u2 : ¬ 9223372036854775807 < SH.size + 1 := by omega
     have u3 : ¬ 9223372036854775807 < SH.size + 1 + en.name.size := by omega
     clear hbel hd2 hmem hx2 hen hsum htk hcall hO2 hO hrl hRS hg2
     go_wp2_with fail
     go_region_held3 (fun w' => w'.cell? ⟨w.heap.size, 0, none⟩ = some (.slice (some ⟨g, off, none⟩) n c) ∧ w'.cell? ⟨w.heap.size, 1, none⟩ = some (.slice B m d) ∧ w'.cell? ⟨w.heap.size, 2, none⟩ = some (.slice D k1 e) ∧ w'.cell? ⟨b, 2, none⟩ = some (.slice (some ⟨g2, off2, none⟩) m2 d2) ∧ w'.cell? ⟨g2, off2 + k * 2, none⟩ = some (.string en.name) ∧ w'.cell? ⟨g2, off2 + k * 2 + 1, none⟩ = some (.int .i64 en.num))
      (first
       | go_keep
       | (go_split_ands; refine ⟨?_, ?_, ?_, ?_, ?_, ?_⟩ <;> exact cell_later hb6 (by assumption)))
      ((go_at_call 35; refine (HCALL.out _ (by unfold stepSh; simp [hp]) _ (Below.drew (Below.refl _ _))).mono ?_; rintro e6 w6 ⟨rfl, hb6⟩))
     have HB6 := Lib.hid (HBE.out.trans (((Below.drew (Below.refl wr.heap.size wr)).trans hb6).mono HBE.out.size))
     clear hb6
     go_wp2_with fail
     go_roundw
     case rel => exact ⟨k + 1, _, rfl, by go_num, by omega, HO2.out, HB6.out⟩
     case measure => simp [intOf]; omega
    ·have hkm : x.ents.take k = x.ents := List.take_of_length_le (by have := HEL.out; omega)
     rw [hkm] at hO
     have hO3 : O = txt (lineD p num ++ x.ents.flatMap LL) := by apply data_eq2; rw [txt_listSh]; exact hO
     have HO3 := Lib.hid hO3
     clear hkm hO hO3 hbel
     go_wp2_with fail
     go_ret
     exact ⟨by rw [HO3.out]; rfl, HB5.out.trans (HBE.out.mono HB5.out.size)⟩
theorem dlines_any (s : St) (hG : Good s) : ∀ d, DLinesAt s d
 | 0, num, p, SH, v, w, _, hd, _, _, _ => absurd hd (by intro h; exact h)
 | d + 1, num, p, SH, v, w, h, hd, hSH, hp, hlen => by
  have ih := dlines_any s hG d
  obtain ⟨x, hx, hnum, hdat, hfile, hall⟩ := hd
  have hno := hG.namesOk (at_mem hx).1
  by_cases hdir : x.dir = true
  ·rw [walk_dir hx hdir] at hlen ⊢
   exact dlines_dir s hG d ih num p SH v w h x hx hdir hnum (fun e he => ⟨⟨hno e he, (hall e he).1⟩, (hall e he).2⟩) hSH hp hlen
  ·have hdir' : x.dir = false := by simpa using hdir
   rw [walk_file hx hdir'] at hlen ⊢
   exact dlines_file s hG num p SH v w h x hx hdir' hnum hdat hSH hlen
end Go.Proofs.YthhceopnnappgaaGreatDoor
