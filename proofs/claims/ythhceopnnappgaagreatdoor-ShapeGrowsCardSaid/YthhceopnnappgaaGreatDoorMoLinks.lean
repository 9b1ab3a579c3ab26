/- The model's Links: how many entries have an inode. -/
import Derived.Test.YthhceopnnappgaaGreatDoorMoReached
set_option linter.unusedVariables false
set_option linter.unusedSimpArgs false
namespace Go.Proofs.YthhceopnnappgaaGreatDoor
open Go.RowKit
theorem linkE_drop (es : List En) (q : Nat) (e : En) (num : Int) (h : es[q]? = some e) : linkE (es.drop q) num = (if e.num = num then 1 else 0) + linkE (es.drop (q + 1)) num := by
 obtain ⟨h1, h2⟩ := List.getElem?_eq_some_iff.1 h
 rw [List.drop_eq_getElem_cons h1, h2, linkE]
theorem linkI_drop (is : List Ino) (q : Nat) (x : Ino) (num : Int) (h : is[q]? = some x) : linkI (is.drop q) num = (if x.dir then linkE x.ents num else 0) + linkI (is.drop (q + 1)) num := by
 obtain ⟨h1, h2⟩ := List.getElem?_eq_some_iff.1 h
 rw [List.drop_eq_getElem_cons h1, h2, linkI]
set_option maxRecDepth 100000 in
set_option maxHeartbeats 8000000 in
theorem mlinks_any (v : Value) (s : St) (num : Int) (w : World) (h : StAt none w v s) :
  Calls Tryz.prog 23 #[v, .int .i64 num] w fun e w' => e = .returned (.int .i64 (linkI s.inos num : Nat)) ∧ Below w.heap.size w w' := by
 obtain ⟨⟨A, n, c, B, m, d, D, k, e, rfl, hI, hD, hM, h5, h6, h7⟩, hz⟩ := h
 obtain ⟨W, hW, b0, b1, b2, hal, hlt0⟩ := box_st w A n c B m d D k e
 have hbig := hz.big
 obtain ⟨R, hR⟩ : ∃ R, linkI s.inos num = R := ⟨_, rfl⟩
 have hRb : R ≤ 1099511627776 := by
  have := linkI_le s.inos num
  omega
 have hn : n ≤ 1099511627776 := by have := hI.1; omega
 have hbe : bulkE s.inos ≤ 1099511627776 := by omega
 rw [hR]
 have HR := Lib.hid hR
 have HI := Lib.hid hI
 have HAL := Lib.hid hal
 clear hI hD hM hz hbig hR hal h5 h6 h7
 go_enter Tryz.func23, Tryz.ntmps23
 go_wp2_with fail
 clear hW
 go_loopw [5, 13] (fun v3 i wr => ∃ q cnt : Nat, i = .int .i64 q ∧ v3 = .int .i64 cnt ∧ q ≤ n ∧ Below w.heap.size w wr ∧ cnt + linkI (s.inos.drop q) num = R) (fun _ i _ => n - (intOf i).toNat)
 case atStart => exact ⟨0, 0, rfl, rfl, by omega, HAL.out, by have := HR.out; simpa using this⟩
 case round =>
  obtain ⟨q, cnt, rfl, rfl, hq, hbel, hc⟩ := hrel
  have HB := Lib.hid hbel
  have hcb : cnt ≤ R := by omega
  have HIr := Lib.hid (HI.out.below hbel)
  clear hbel
  by_cases hlt : q < n
  ·obtain ⟨g, off, x, E3, m3, d3, rfl, hg, hx, hd, hmem, e0, e1, e2, hok, hE, e3⟩ := HIr.out.get q hlt
   have k0 : (0 : Int) ≤ (q : Int) := by omega
   have k1 : (q : Int) < (n : Int) := by omega
   obtain ⟨V1, hV1, u0, u1, u2, u3, hal, hlt1⟩ := box_ino wr x.num x.dir E3 m3 d3 x.data
   rw [linkI_drop _ _ _ _ hx] at hc
   have HC := Lib.hid hc
   have HEV := Lib.hid (hE.below hal)
   have HBV := Lib.hid (Cv.next HB.out hal)
   have hm3 : m3 ≤ 1099511627776 := by have := hE.1; have := bulkE_le hx; omega
   obtain ⟨DX, hDX⟩ : ∃ DX, x.dir = DX := ⟨_, rfl⟩
   have HDX := Lib.hid hDX
   rw [hDX] at e1 u1 hV1
   have hcell : ∀ wz, Below V1.heap.size V1 wz → wz.cell? ⟨wr.heap.size, 1, .none⟩ = some (.bool DX) := fun wz h => (h.cell (p := ⟨wr.heap.size, 1, .none⟩) hlt1).trans u1
   have HCE := Lib.hid hcell
   clear hd hmem hE hx hal hc hDX hcell
   go_wp2_with fail
   clear hV1 e0 e1 e2 e3
   go_loopw [5, 20] (fun v3 i wz => ∃ r c2 : Nat, i = .int .i64 r ∧ v3 = .int .i64 c2 ∧ r ≤ m3 ∧ Below V1.heap.size V1 wz ∧ c2 + ((if DX then linkE (x.ents.drop r) num else 0) + linkI (s.inos.drop (q + 1)) num) = R) (fun _ i _ => m3 - (intOf i).toNat)
   case atStart => exact ⟨0, cnt, rfl, rfl, by omega, Below.refl _ _, by have := HC.out; rw [HDX.out] at this; simpa using this⟩
   case round =>
    obtain ⟨r, c2, rfl, rfl, hr, hbel, hc⟩ := hrel
    have HBz := Lib.hid hbel
    have HEz := Lib.hid (HEV.out.below hbel)
    have z1 := HCE.out _ hbel
    have hcb2 : c2 ≤ R := by omega
    clear hbel
    by_cases hlt2 : r < m3
    ·obtain ⟨g3, off3, e, rfl, hg3, he, hd3, hmem3, f0, f1⟩ := HEz.out.get r hlt2
     have r0 : (0 : Int) ≤ (r : Int) := by omega
     have r1 : (r : Int) < (m3 : Int) := by omega
     obtain ⟨V2, hV2, v0, v1, hal, hlt3⟩ := box_en wr e.name e.num
     have z2 := HCE.out _ (Cv.next HBz.out hal)
     have HB4 := Lib.hid (Cv.next HBz.out hal)
     rw [linkE_drop _ _ _ _ he] at hc
     obtain ⟨NX, hNX⟩ : ∃ NX, (e.num == num) = NX := ⟨_, rfl⟩
     have hif : (if e.num = num then 1 else 0) = (if NX then 1 else 0) := by
      rw [← hNX]
      by_cases h : e.num = num <;> simp [h]
     rw [hif] at hc
     have HC2 := Lib.hid hc
     have cw : IntKind.i64.wrap ((c2 : Int) + 1) = (c2 : Int) + 1 := by rw [IntKind.wrap_i64]; omega
     clear hc hd3 hmem3 he hal hif
     cases DX
     ·go_wp2_with fail
      go_roundw
      case rel => exact ⟨r + 1, c2, by go_num, rfl, by omega, HB4.out, by have := HC2.out; simpa using this⟩
      case measure => simp [intOf]; omega
     ·cases NX
      ·go_wp2_with fail
       go_roundw
       case rel => exact ⟨r + 1, c2, by go_num, rfl, by omega, HB4.out, by have := HC2.out; simp at this ⊢; omega⟩
       case measure => simp [intOf]; omega
      ·go_wp2_with fail
       go_roundw
       case rel => exact ⟨r + 1, c2 + 1, by go_num, by go_num, by omega, HB4.out, by have := HC2.out; simp at this ⊢; omega⟩
       case measure => simp [intOf]; omega
    ·have q9 : decide ((r : Int) < (m3 : Int)) = false := by rw [decide_eq_false_iff_not]; omega
     have hnil : x.ents.drop r = [] := List.drop_eq_nil_of_le (by have := HEz.out.1; omega)
     rw [hnil] at hc
     have HC2 := Lib.hid hc
     clear hc hnil
     go_wp2_with fail
     go_roundw
     case rel => exact ⟨q + 1, c2, by go_num, rfl, by omega, Cv.next HBV.out HBz.out, by have := HC2.out; simpa [linkE] using this⟩
     case measure => simp [intOf]; omega
  ·have hnil : s.inos.drop q = [] := List.drop_eq_nil_of_le (by have := HIr.out.1; omega)
   rw [hnil, linkI] at hc
   have hcr : cnt = R := by omega
   have HC := Lib.hid hcr
   have q9 : decide ((q : Int) < (n : Int)) = false := by rw [decide_eq_false_iff_not]; omega
   clear hc hnil hcr
   go_wp2_with fail
   go_ret
   exact ⟨by have h := HC.out; rw [h]; rfl, HB.out⟩
end Go.Proofs.YthhceopnnappgaaGreatDoor
