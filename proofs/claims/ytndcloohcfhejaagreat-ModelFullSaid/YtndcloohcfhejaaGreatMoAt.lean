/- The model's at and parent: where a path leads to. -/
import Derived.Test.YtndcloohcfhejaaGreatM15
import Derived.Test.YtndcloohcfhejaaGreatM03
set_option linter.unusedVariables false
set_option linter.unusedSimpArgs false
namespace Go.Proofs.YtndcloohcfhejaaGreat
open Go.RowKit
theorem walk_place {s : St} (hg : Good s) (names : List (List UInt8)) (h : (walkG s.inos names 1).2 = 0) : ∃ (i : Nat) (x : Ino), placeG s.inos (walkG s.inos names 1) = (i : Int) ∧ s.inos[i]? = some x ∧ x.num = (walkG s.inos names 1).1 := by
 obtain ⟨i, x, h1, h2, h3⟩ := atV_some (walkG_some hg.whole names 1 (by rw [hg.root_at]; omega) h)
 exact ⟨i, x, by unfold placeG; rw [if_pos h, h1], h2, h3⟩
theorem Own2.at_ {B : Nat} {w : World} {p : Nat} {s : St} {zs : List (Ino × Value)} {vI vO vM : Value} (h : Own2 B w p s zs vI vO vM) {i : Nat} {x : Ino} (hx : s.inos[i]? = some x) :
  ∃ g c E m d, vI = .slice (some ⟨g, 0, none⟩) s.inos.length c ∧ zs[i]? = some (x, .slice E m d) ∧ g < w.heap.size ∧ B ≤ g ∧ i < s.inos.length ∧ w.cell? ⟨g, i * 4, none⟩ = some (.int .i64 x.num) ∧ w.cell? ⟨g, i * 4 + 1, none⟩ = some (.bool x.dir) ∧ w.cell? ⟨g, i * 4 + 2, none⟩ = some (.slice E m d) ∧ w.cell? ⟨g, i * 4 + 3, none⟩ = some (.string x.data) ∧ (∀ j, w.frozen? ⟨g, j, none⟩ = false) ∧ SlOk E m d ∧ EntsAt none w E m x.ents := by
 have hl : s.inos.length = zs.length := by rw [← h.inos, List.length_map]
 have hil := (List.getElem?_eq_some_iff.1 hx).1
 obtain ⟨g, c, cur, hv, _, hB, hlt, hg, _, hc⟩ := h.rowI.open_ (by omega)
 rw [← h.inos, List.getElem?_map] at hx
 obtain ⟨z, hz, rfl⟩ := Option.map_eq_some_iff.1 hx
 have f := flat_get inoV 4 (fun x => rfl) zs i z hz
 obtain ⟨E, d, he, hmd, hE⟩ := (h.ents z (List.mem_of_getElem? hz)).ents
 refine ⟨g, c, E, z.1.ents.length, d, by rw [hl]; exact hv, by rw [← he]; exact hz, hlt, hB, hil, hc _ _ (f 0 (by omega)), hc _ _ (f 1 (by omega)), ?_, hc _ _ (f 3 (by omega)), fun j => frozen_of_row w g j _ _ hg, hmd, hE⟩
 rw [← he]
 exact hc _ _ (f 2 (by omega))
theorem Own2.s0 {B : Nat} {w : World} {p : Nat} {s : St} {zs : List (Ino × Value)} {vI vO vM : Value} (h : Own2 B w p s zs vI vO vM) : w.cell? ⟨p, 0, none⟩ = some vI := by rw [cell_of_row w p _ _ _ (0, 0) h.cell]; rfl
theorem Own2.s1 {B : Nat} {w : World} {p : Nat} {s : St} {zs : List (Ino × Value)} {vI vO vM : Value} (h : Own2 B w p s zs vI vO vM) : w.cell? ⟨p, 1, none⟩ = some vO := by rw [cell_of_row w p _ _ _ (0, 0) h.cell]; rfl
theorem Own2.s2 {B : Nat} {w : World} {p : Nat} {s : St} {zs : List (Ino × Value)} {vI vO vM : Value} (h : Own2 B w p s zs vI vO vM) : w.cell? ⟨p, 2, none⟩ = some vM := by rw [cell_of_row w p _ _ _ (0, 0) h.cell]; rfl
theorem Own2.lt {B : Nat} {w : World} {p : Nat} {s : St} {zs : List (Ino × Value)} {vI vO vM : Value} (h : Own2 B w p s zs vI vO vM) : p < w.heap.size := (Array.getElem?_eq_some_iff.1 h.cell).1
set_option maxRecDepth 100000 in
set_option maxHeartbeats 8000000 in
theorem mat_any (B q p : Nat) (s : St) (c : Ca) (fd num : Int) (dir : Bool) (data : ByteArray) (nv : Value) (zs : List (Ino × Value)) (vI vO vM : Value) (path : ByteArray) (w : World) (hD : DoerAt w q p c fd num dir data nv) (hO : Own2 B w p s zs vI vO vM) (hg : Good s) (hs : path.size ≤ 140737488355328) :
  Calls Tryz.prog 94 #[.pointer (some ⟨q, 0, .none⟩), .string path] w fun e w' => Below w.heap.size w w' ∧ (((findV s.inos path).2 ≠ 0 ∧ e = .panicked (faultP (findV s.inos path).2)) ∨ ((findV s.inos path).2 = 0 ∧ ∃ g n d i x, vI = .slice (some ⟨g, 0, none⟩) n d ∧ s.inos[i]? = some x ∧ x.num = (findV s.inos path).1 ∧ e = .returned (.pointer (some ⟨g, i * 4, none⟩)))) := by
 have hq := hD.lt
 have d0 := hD.c0
 have hp := hO.lt
 have HO := Lib.hid hO
 have HG := Lib.hid hg
 have HD := Lib.hid hD
 clear hO hg hD
 by_cases hpar : (parseL path.data.toList).2 = 0
 ·have hfv : findV s.inos path = walkG s.inos (parseL path.data.toList).1 1 := by unfold findV; rw [if_neg (by rw [hpar]; simp)]
  rw [hfv]
  have hlen := parse_len path.data.toList
  have HPAR := Lib.hid hpar
  obtain ⟨NS, hNS⟩ : ∃ NS, (parseL path.data.toList).1 = NS := ⟨_, rfl⟩
  have HPL := walk_place HG.out NS
  rw [hNS] at hlen ⊢
  have HNS := Lib.hid hNS
  obtain ⟨RW, hRW⟩ : ∃ RW, walkG s.inos NS 1 = RW := ⟨_, rfl⟩
  obtain ⟨KP, hKP⟩ : ∃ KP, placeG s.inos (walkG s.inos NS 1) = KP := ⟨_, rfl⟩
  rw [hKP, hRW] at HPL
  rw [hRW]
  obtain ⟨N, C⟩ := RW
  simp only at HPL ⊢
  have HW := Lib.hid hRW
  have HK := Lib.hid hKP
  have HPLA := Lib.hid HPL
  clear hpar hfv hNS hRW hKP HPL
  go_enter Tryz.func94, Tryz.ntmps94
  go_wp2_with fail
  go_region_held3 (fun w' => w'.cell? ⟨q, 0, none⟩ = some (.pointer (some ⟨p, 0, none⟩)))
   (first | go_keep | (rw [hb5.cell (by simp; omega)]; simp [*]) | (rw [hb6.cell (by have := hb5.size; simp at this ⊢; omega), hb5.cell (by simp; omega)]; simp [*]))
   (first
    | (go_at_call 132; refine (mparse_ok path _ hs HPAR.out).mono ?_; rintro e5 w5 ⟨A5, c5, rfl, hc5, hn5, hb5⟩; rw [HNS.out] at hc5 hn5 ⊢)
    | (go_at_call 37; refine (mwalk_any p s A5 NS.length c5 NS _ ((HO.out.ptr.below (Cv.drewN_below (Below.refl _ _) 1)).below hb5) HG.out hn5 (by omega)).mono ?_; rintro e6 w6 ⟨rfl, hb6, _⟩; rw [HK.out, HW.out]))
  have hb6' : Below w.heap.size w w6 := Cv.next (Cv.next (Cv.drewN_below (Below.refl _ _) 1) hb5) hb6
  have HB := Lib.hid hb6'
  have HO6 := Lib.hid (HO.out.below hb6')
  have d6 := (hb6'.cell (p := ⟨q, 0, none⟩) hq).trans d0
  clear hb5 hb6 hb6' hn5
  by_cases hC : C = 0
  ·subst hC
   obtain ⟨i, x, hk, hx, hxn⟩ := HPLA.out rfl
   obtain ⟨g, cc, E, m, d, hv, _, _, _, hil, _⟩ := HO6.out.at_ hx
   have p6 := HO6.out.s0
   rw [hv] at p6
   rw [hk]
   have i0 : (0 : Int) ≤ (i : Int) := by omega
   have i1 : (i : Int) < (s.inos.length : Int) := by omega
   go_wp2_with fail
   refine (throw_no _ _).mono ?_
   rintro e3 w3 ⟨rfl, rfl⟩
   go_wp2_with fail
   go_ret
   first | exact ⟨HB.out, .inr ⟨rfl, g, _, cc, i, x, hv, hx, hxn, rfl⟩⟩ | exact ⟨HB.out, i, x, hx, hxn, rfl⟩
  ·have hne : (C != 0) = true := by rw [bne_iff_ne]; exact hC
   go_wp2_with fail
   refine (throw_yes _ _).mono ?_
   rintro e3 w3 ⟨rfl, rfl⟩
   go_wp2_with fail
   exact panic_end rfl ⟨HB.out, .inl ⟨hC, rfl⟩⟩
 ·have hfv : findV s.inos path = (0, codeP (parseL path.data.toList).2) := by unfold findV; rw [if_pos hpar]
  rw [hfv]
  have hcp : codeP (parseL path.data.toList).2 ≠ 0 := by unfold codeP; rw [if_neg hpar]; split <;> decide
  have HPAR := Lib.hid hpar
  obtain ⟨C, hC⟩ : ∃ C, codeP (parseL path.data.toList).2 = C := ⟨_, rfl⟩
  simp only
  rw [hC] at hcp ⊢
  have HC := Lib.hid hC
  have HCP := Lib.hid hcp
  clear hpar hfv hC hcp
  go_enter Tryz.func94, Tryz.ntmps94
  go_wp2_with fail
  refine wp_region_any (by kernel_rfl) ?_
  change wpAny _ _ _ _ _ _ _ (World.drew _)
  refine wpAny_take (i := 0) (v := .pointer (some ⟨q, 0, none⟩)) rfl (by kernel_rfl) (by kernel_rfl) (by kernel_rfl) (fun _ _ _ h => h) (Or.inl ⟨by rfl, by intro w; go_simp⟩) ?_
  refine wpAny_take (i := 1) (v := .pointer (some ⟨q, 0, none⟩)) rfl (by kernel_rfl) (by kernel_rfl) (by kernel_rfl) (fun _ _ _ h => h) (Or.inl ⟨by rfl, by intro w; go_simp⟩) ?_
  refine wpAny_take (i := 2) (v := .pointer (some ⟨q, 0, none⟩)) rfl (by kernel_rfl) (by kernel_rfl) (by kernel_rfl) (fun _ _ _ h => h) (Or.inl ⟨by rfl, by intro w; go_simp⟩) ?_
  refine wpAny_take (i := 4) (v := .string path) rfl (by kernel_rfl) (by kernel_rfl) (by kernel_rfl) (fun _ _ _ h => h) (Or.inl ⟨by rfl, by intro w; go_simp⟩) ?_
  refine wpAny_ready (rs := [3, 5]) (by kernel_rfl) (by simp) (AllReady.cons rfl (fun K hK => ?_) (AllReady.cons rfl (fun K hK => ?_) AllReady.nil))
  ·go_simp
   refine hK _ _ ?_
   clear hK
   refine wpAny_ready (rs := [5]) (by kernel_rfl) (by simp) (AllReady.cons rfl (fun K hK => ?_) AllReady.nil)
   go_simp
   refine (mparse_bad path _ hs HPAR.out).mono ?_
   rintro e5 w5 ⟨rfl, hb5⟩
   rw [HC.out]
   go_simp
   exact panic_end rfl ⟨Cv.next (Cv.drewN_below (Below.refl _ _) 1) hb5, .inl ⟨HCP.out, rfl⟩⟩
  ·go_simp
   refine (mparse_bad path _ hs HPAR.out).mono ?_
   rintro e5 w5 ⟨rfl, hb5⟩
   rw [HC.out]
   go_simp
   exact panic_end rfl ⟨Cv.next (Cv.drewN_below (Below.refl _ _) 1) hb5, .inl ⟨HCP.out, rfl⟩⟩
end Go.Proofs.YtndcloohcfhejaaGreat
