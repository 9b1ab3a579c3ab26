/- Parts of the proof, side by side: ShFiles, MoLinks. -/
import Derived.Test.YthhceopnnappgaaGreatDoorShWalk
import Derived.Test.YthhceopnnappgaaGreatDoorM25
import Derived.Test.YthhceopnnappgaaGreatDoorMoReached
set_option linter.unusedVariables false
set_option linter.unusedSimpArgs false
namespace Go.Proofs.YthhceopnnappgaaGreatDoor
open Go.RowKit
def codeO (s : St) : Int := if mayV s then 0 else 1400
def filesO (s : St) : List UInt8 := if mayV s then filesL s else []
theorem ptr_box {w W : World} {A B D : Option Addr} {n c m d k e : Nat} {s : St} (h : StAt none w (.agg #[.slice A n c, .slice B m d, .slice D k e]) s) (hW : w.alloc (.cells #[.slice A n c, .slice B m d, .slice D k e] 26) = W) :
  PtrAt W w.heap.size s ∧ Below w.heap.size w W := by
 have hal : Below w.heap.size w W := by rw [← hW]; exact (Below.refl _ _).alloc (Nat.le_refl _) _
 obtain ⟨⟨A', n', c', B', m', d', D', k', e', hv, hI, hD, hM, h5, h6, h7⟩, hz⟩ := h
 cases hv
 refine ⟨⟨⟨A, n, c, B, m, d, D, k, e, ?_, hI.below hal, hD.below hal, hM.below hal, h5, h6, h7⟩, hz⟩, hal⟩
 rw [← hW]
 exact heap_alloc_new w _
theorem freshS (sp : Value) (w W : World) (hW : w.alloc (.cells #[sp, .pointer none, .slice none 0 0] 61) = W) : BldS w.heap.size w.heap.size sp [] W ∧ Below w.heap.size w W := by
 have hal : Below w.heap.size w W := by rw [← hW]; exact (Below.refl _ _).alloc (Nat.le_refl _) _
 refine ⟨.inl ⟨Nat.le_refl _, .slice none 0 0, ?_, ⟨rfl, .inl ⟨rfl, rfl⟩⟩, by simp [Value.ownBlock]⟩, hal⟩
 rw [← hW]
 exact heap_alloc_new w _
theorem filesL_ne {s : St} (h : Good s) : filesL s ≠ [] := by
 have hd := h.top
 have e : topD s = s.inos.length + 1 + 1 := rfl
 unfold filesL
 rw [e] at hd ⊢
 obtain ⟨x, hx, _⟩ := hd
 by_cases hdir : x.dir = true
 ·rw [walk_dir hx hdir]
  unfold lineD
  simp
 ·rw [walk_file hx (by simpa using hdir)]
  unfold lineF
  simp
set_option maxRecDepth 100000 in
set_option maxHeartbeats 4000000 in
theorem shfiles_any (v : Value) (s : St) (w : World) (h : StAt none w v s) (hT : Tab w) :
  Calls Tryz.prog 9 #[v] w fun e w' => e = .returned (.tuple #[.string (txt (filesO s)), .int .i64 (codeO s)]) ∧ Below w.heap.size w w' := by
 obtain ⟨A, n, c, B, m, d, D, k, e, rfl⟩ : ∃ A n c B m d D k e, v = .agg #[.slice A n c, .slice B m d, .slice D k e] := by
  obtain ⟨⟨A, n, c, B, m, d, D, k, e, hv, _⟩, _⟩ := h
  exact ⟨A, n, c, B, m, d, D, k, e, hv⟩
 obtain ⟨W, hW, b0, b1, b2, hal, hlt0⟩ := box_st w A n c B m d D k e
 have HP := Lib.hid (ptr_box h hW).1
 have HS := Lib.hid (h.below hal)
 have HAL := Lib.hid hal
 have HT := Lib.hid (hT.below hal)
 clear h hal hT
 go_enter Tryz.func9, Tryz.ntmps9
 go_wp2_with fail
 refine (mmay_any _ s _ HS.out).mono ?_
 rintro e5 w5 ⟨rfl, hb5⟩
 have HB5 := Lib.hid hb5
 clear hb5 b0 b1 b2
 by_cases hm : mayV s = true
 ·have hG := (good_iff s).1 hm
  have HG := Lib.hid hG
  rw [hm]
  have hfo : filesO s = filesL s := by unfold filesO; rw [if_pos hm]
  have hco : codeO s = 0 := by unfold codeO; rw [if_pos hm]
  have HFO := Lib.hid hfo
  have HCO := Lib.hid hco
  have hfl := hG.files_len
  obtain ⟨W2, hW2⟩ : ∃ W2, w5.alloc (.cells #[.pointer (some ⟨w.heap.size, 0, none⟩), .pointer none, .slice none 0 0] 61) = W2 := ⟨_, rfl⟩
  obtain ⟨hbl2, hal2⟩ := freshS _ _ _ hW2
  have hwalk := shwalk_any w5.heap.size w5.heap.size w.heap.size s w5 hG (HP.out.below HB5.out) rfl (HT.out.below HB5.out) (topD s) 1 ⟨#[]⟩ [] W2 hG.top hbl2 hal2 (by
   show 0 + (filesL s).length ≤ _
   omega)
  have hwalk2 : Calls Tryz.prog 34 #[.pointer (some ⟨w5.heap.size, 0, none⟩), .int .i64 1, .string ⟨#[]⟩] W2 fun e w' => e = .returned (.tuple #[]) ∧ BldS w5.heap.size w5.heap.size (.pointer (some ⟨w.heap.size, 0, none⟩)) (filesL s) w' ∧ Wr w5.heap.size w5.heap.size W2 w' := hwalk
  have HWK := Lib.hid hwalk2
  have HAL2 := Lib.hid hal2
  have HNE := Lib.hid (filesL_ne hG)
  clear hm hG hfo hco hfl hbl2 hal2 hwalk hwalk2
  go_wp2_with fail
  refine HWK.out.mono ?_
  rintro e6 w6 ⟨rfl, hl6, hw6⟩
  have HL6 := Lib.hid hl6
  have HW6 := Lib.hid (HAL2.out.trans hw6.below)
  clear hl6 hw6
  go_wp2_with fail
  refine (string_anyS _ _ _ _ _ HL6.out HNE.out).mono ?_
  rintro e7 w7 ⟨rfl, hl7, hw7⟩
  have HB7 := Lib.hid ((Cv.next HAL.out HB5.out).trans ((HW6.out.trans hw7.below).mono (Cv.next HAL.out HB5.out).size))
  clear hl7 hw7
  go_wp2_with fail
  go_ret2
  exact ⟨by rw [HFO.out, HCO.out]; rfl, HB7.out⟩
 ·have hm' : mayV s = false := by simpa using hm
  rw [hm']
  have hfo : filesO s = [] := by unfold filesO; rw [hm']; rfl
  have hco : codeO s = 1400 := by unfold codeO; rw [hm']; rfl
  have HFO := Lib.hid hfo
  have HCO := Lib.hid hco
  clear hm hm' hfo hco
  go_wp2_with fail
  go_ret2
  exact ⟨by rw [HFO.out, HCO.out]; rfl, Cv.next HAL.out HB5.out⟩
theorem linkE_drop (es : List En) (q : Nat) (e : En) (num : Int) (h : es[q]? = some e) : linkE (es.drop q) num = (if e.num = num then 1 else 0) + linkE (es.drop (q + 1)) num := by
 obtain ⟨h1, h2⟩ := List.getElem?_eq_some_iff.1 h
 rw [List.drop_eq_getElem_cons h1, h2, linkE]
theorem linkI_drop (is : List Ino) (q : Nat) (x : Ino) (num : Int) (h : is[q]? = some x) : linkI (is.drop q) num = (if x.dir then linkE x.ents num else 0) + linkI (is.drop (q + 1)) num := by
 obtain ⟨h1, h2⟩ := List.getElem?_eq_some_iff.1 h
 rw [List.drop_eq_getElem_cons h1, h2, linkI]
set_option maxRecDepth 100000 in
set_option maxHeartbeats 8000000 in
theorem mlinks_any (v : Value) (s : St) (num : Int) (w : World) (h : StAt none w v s) :
  Calls Tryz.prog 23 #[v, .int .i64 num] w fun e w' => e = .returned (.int .i64 (linkI s.inos num : Nat)) ∧ Below w.heap.size w w' := by
 obtain ⟨⟨A, n, c, B, m, d, D, k, e, rfl, hI, hD, hM, h5, h6, h7⟩, hz⟩ := h
 obtain ⟨W, hW, b0, b1, b2, hal, hlt0⟩ := box_st w A n c B m d D k e
 have hbig := hz.big
 obtain ⟨R, hR⟩ : ∃ R, linkI s.inos num = R := ⟨_, rfl⟩
 have hRb : R ≤ 1099511627776 := by
  have := linkI_le s.inos num
  omega
 have hn : n ≤ 1099511627776 := by have := hI.1; omega
 have hbe : bulkE s.inos ≤ 1099511627776 := by omega
 rw [hR]
 have HR := Lib.hid hR
 have HI := Lib.hid hI
 have HAL := Lib.hid hal
 clear hI hD hM hz hbig hR hal h5 h6 h7
 go_enter Tryz.func23, Tryz.ntmps23
 go_wp2_with fail
 clear hW
 go_loopw [5, 13] (fun v3 i wr => ∃ q cnt : Nat, i = .int .i64 q ∧ v3 = .int .i64 cnt ∧ q ≤ n ∧ Below w.heap.size w wr ∧ cnt + linkI (s.inos.drop q) num = R) (fun _ i _ => n - (intOf i).toNat)
 case atStart => exact ⟨0, 0, rfl, rfl, by omega, HAL.out, by have := HR.out; simpa using this⟩
 case round =>
  obtain ⟨q, cnt, rfl, rfl, hq, hbel, hc⟩ := hrel
  have HB := Lib.hid hbel
  have hcb : cnt ≤ R := by omega
  have HIr := Lib.hid (HI.out.below hbel)
  clear hbel
  by_cases hlt : q < n
  ·obtain ⟨g, off, x, E3, m3, d3, rfl, hg, hx, hd, hmem, e0, e1, e2, hok, hE, e3⟩ := HIr.out.get q hlt
   have k0 : (0 : Int) ≤ (q : Int) := by omega
   have k1 : (q : Int) < (n : Int) := by omega
   obtain ⟨V1, hV1, u0, u1, u2, u3, hal, hlt1⟩ := box_ino wr x.num x.dir E3 m3 d3 x.data
   rw [linkI_drop _ _ _ _ hx] at hc
   have HC := Lib.hid hc
   have HEV := Lib.hid (hE.below hal)
   have HBV := Lib.hid (Cv.next HB.out hal)
   have hm3 : m3 ≤ 1099511627776 := by have := hE.1; have := bulkE_le hx; omega
   obtain ⟨DX, hDX⟩ : ∃ DX, x.dir = DX := ⟨_, rfl⟩
   have HDX := Lib.hid hDX
   rw [hDX] at e1 u1 hV1
   have hcell : ∀ wz, Below V1.heap.size V1 wz → wz.cell? ⟨wr.heap.size, 1, .none⟩ = some (.bool DX) := fun wz h => (h.cell (p := ⟨wr.heap.size, 1, .none⟩) hlt1).trans u1
   have HCE := Lib.hid hcell
   clear hd hmem hE hx hal hc hDX hcell
   go_wp2_with fail
   clear hV1 e0 e1 e2 e3
   go_loopw [5, 20] (fun v3 i wz => ∃ r c2 : Nat, i = .int .i64 r ∧ v3 = .int .i64 c2 ∧ r ≤ m3 ∧ Below V1.heap.size V1 wz ∧ c2 + ((if DX then linkE (x.ents.drop r) num else 0) + linkI (s.inos.drop (q + 1)) num) = R) (fun _ i _ => m3 - (intOf i).toNat)
   case atStart => exact ⟨0, cnt, rfl, rfl, by omega, Below.refl _ _, by have := HC.out; rw [HDX.out] at this; simpa using this⟩
   case round =>
    obtain ⟨r, c2, rfl, rfl, hr, hbel, hc⟩ := hrel
    have HBz := Lib.hid hbel
    have HEz := Lib.hid (HEV.out.below hbel)
    have z1 := HCE.out _ hbel
    have hcb2 : c2 ≤ R := by omega
    clear hbel
    by_cases hlt2 : r < m3
    ·obtain ⟨g3, off3, e, rfl, hg3, he, hd3, hmem3, f0, f1⟩ := HEz.out.get r hlt2
     have r0 : (0 : Int) ≤ (r : Int) := by omega
     have r1 : (r : Int) < (m3 : Int) := by omega
     obtain ⟨V2, hV2, v0, v1, hal, hlt3⟩ := box_en wr e.name e.num
     have z2 := HCE.out _ (Cv.next HBz.out hal)
     have HB4 := Lib.hid (Cv.next HBz.out hal)
     rw [linkE_drop _ _ _ _ he] at hc
     obtain ⟨NX, hNX⟩ : ∃ NX, (e.num == num) = NX := ⟨_, rfl⟩
     have hif : (if e.num = num then 1 else 0) = (if NX then 1 else 0) := by
      rw [← hNX]
      by_cases h : e.num = num <;> simp [h]
     rw [hif] at hc
     have HC2 := Lib.hid hc
     have cw : IntKind.i64.wrap ((c2 : Int) + 1) = (c2 : Int) + 1 := by rw [IntKind.wrap_i64]; omega
     clear hc hd3 hmem3 he hal hif
     cases DX
     ·go_wp2_with fail
      go_roundw
      case rel => exact ⟨r + 1, c2, by go_num, rfl, by omega, HB4.out, by have := HC2.out; simpa using this⟩
      case measure => simp [intOf]; omega
     ·cases NX
      ·go_wp2_with fail
       go_roundw
       case rel => exact ⟨r + 1, c2, by go_num, rfl, by omega, HB4.out, by have := HC2.out; simp at this ⊢; omega⟩
       case measure => simp [intOf]; omega
      ·go_wp2_with fail
       go_roundw
       case rel => exact ⟨r + 1, c2 + 1, by go_num, by go_num, by omega, HB4.out, by have := HC2.out; simp at this ⊢; omega⟩
       case measure => simp [intOf]; omega
    ·have q9 : decide ((r : Int) < (m3 : Int)) = false := by rw [decide_eq_false_iff_not]; omega
     have hnil : x.ents.drop r = [] := List.drop_eq_nil_of_le (by have := HEz.out.1; omega)
     rw [hnil] at hc
     have HC2 := Lib.hid hc
     clear hc hnil
     go_wp2_with fail
     go_roundw
     case rel => exact ⟨q + 1, c2, by go_num, rfl, by omega, Cv.next HBV.out HBz.out, by have := HC2.out; simpa [linkE] using this⟩
     case measure => simp [intOf]; omega
  ·have hnil : s.inos.drop q = [] := List.drop_eq_nil_of_le (by have := HIr.out.1; omega)
   rw [hnil, linkI] at hc
   have hcr : cnt = R := by omega
   have HC := Lib.hid hcr
   have q9 : decide ((q : Int) < (n : Int)) = false := by rw [decide_eq_false_iff_not]; omega
   clear hc hnil hcr
   go_wp2_with fail
   go_ret
   exact ⟨by have h := HC.out; rw [h]; rfl, HB.out⟩
end Go.Proofs.YthhceopnnappgaaGreatDoor
