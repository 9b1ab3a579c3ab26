/- Parts of the proof, side by side: MoDoer, MoAt, MoFile, MoPlain2. -/
import Derived.Test.YtilkhmhgjbhfnaaGreatDoorM11
import Derived.Test.YtilkhmhgjbhfnaaGreatDoorM12
import Derived.Deep.RegionHeld3
import Derived.Test.YtilkhmhgjbhfnaaGreatDoorM02
import Derived.Test.YtilkhmhgjbhfnaaGreatDoorM09
import Derived.Test.YtilkhmhgjbhfnaaGreatDoorM05
set_option linter.unusedVariables false
set_option linter.unusedSimpArgs false
namespace Go.Proofs.YtilkhmhgjbhfnaaGreatDoor
open Go.RowKit
structure DoerAt (w : World) (q p : Nat) (c : Ca) (fd num : Int) (dir : Bool) (data : ByteArray) (nv : Value) : Prop where
 cell : w.heap[q]? = some (.cells #[.pointer (some ⟨p, 0, none⟩), .int .i64 c.kind, .int .i64 c.core, .int .i64 c.fd, .int .i64 c.off, .int .i64 c.num, .string c.path, .string c.path2, .string c.data, .int .i64 0, .int .i64 fd, .int .i64 num, .bool dir, .string data, nv] 125 (0, 0))
section
variable {w : World} {q p : Nat} {c : Ca} {fd num : Int} {dir : Bool} {data : ByteArray} {nv : Value}
theorem DoerAt.lt (h : DoerAt w q p c fd num dir data nv) : q < w.heap.size := (Array.getElem?_eq_some_iff.1 h.cell).1
theorem DoerAt.below {w' : World} (h : DoerAt w q p c fd num dir data nv) (hb : Below w.heap.size w w') : DoerAt w' q p c fd num dir data nv := ⟨(hb.block q h.lt).trans h.cell⟩
theorem DoerAt.turns {w' : World} {B : Nat} (h : DoerAt w q p c fd num dir data nv) (hp : q ≠ p) (hb : Turns B p w w') : DoerAt w' q p c fd num dir data nv := ⟨(hb.keep q _ _ h.cell (by decide) (by decide) (by decide) (by decide) hp).trans h.cell⟩
theorem DoerAt.c0 (h : DoerAt w q p c fd num dir data nv) : w.cell? ⟨q, 0, none⟩ = some (.pointer (some ⟨p, 0, none⟩)) := by rw [cell_of_row w q _ _ _ (0, 0) h.cell]; rfl
theorem DoerAt.c1 (h : DoerAt w q p c fd num dir data nv) : w.cell? ⟨q, 1, none⟩ = some (.int .i64 c.kind) := by rw [cell_of_row w q _ _ _ (0, 0) h.cell]; rfl
theorem DoerAt.c2 (h : DoerAt w q p c fd num dir data nv) : w.cell? ⟨q, 2, none⟩ = some (.int .i64 c.core) := by rw [cell_of_row w q _ _ _ (0, 0) h.cell]; rfl
theorem DoerAt.c3 (h : DoerAt w q p c fd num dir data nv) : w.cell? ⟨q, 3, none⟩ = some (.int .i64 c.fd) := by rw [cell_of_row w q _ _ _ (0, 0) h.cell]; rfl
theorem DoerAt.c4 (h : DoerAt w q p c fd num dir data nv) : w.cell? ⟨q, 4, none⟩ = some (.int .i64 c.off) := by rw [cell_of_row w q _ _ _ (0, 0) h.cell]; rfl
theorem DoerAt.c5 (h : DoerAt w q p c fd num dir data nv) : w.cell? ⟨q, 5, none⟩ = some (.int .i64 c.num) := by rw [cell_of_row w q _ _ _ (0, 0) h.cell]; rfl
theorem DoerAt.c6 (h : DoerAt w q p c fd num dir data nv) : w.cell? ⟨q, 6, none⟩ = some (.string c.path) := by rw [cell_of_row w q _ _ _ (0, 0) h.cell]; rfl
theorem DoerAt.c7 (h : DoerAt w q p c fd num dir data nv) : w.cell? ⟨q, 7, none⟩ = some (.string c.path2) := by rw [cell_of_row w q _ _ _ (0, 0) h.cell]; rfl
theorem DoerAt.c8 (h : DoerAt w q p c fd num dir data nv) : w.cell? ⟨q, 8, none⟩ = some (.string c.data) := by rw [cell_of_row w q _ _ _ (0, 0) h.cell]; rfl
end
theorem panic_end {P : Program} {fn : Func} {R : Ending → World → Prop} {a : Act} {w : World} {code : Int} (hd : a.defers = []) (hR : R (.panicked (faultP code)) w) : bodyPost P fn R (.panic (faultP code)) a w := by
 simp [bodyPost, faultP, hd]
 exact hR
theorem codeP_N (n : Nat) : (codeN n : Int) = codeP n := by
 unfold codeN codeP
 split
 ·rfl
 ·split <;> rfl
theorem mparse_ok (path : ByteArray) (w : World) (hs : path.size ≤ 140737488355328) (h0 : (parseL path.data.toList).2 = 0) :
  Calls Tryz.prog 184 #[.string path] w fun e w' => ∃ A c, e = .returned (.slice A (parseL path.data.toList).1.length c) ∧ (parseL path.data.toList).1.length ≤ c ∧ NmAt w' A (parseL path.data.toList).1.length (parseL path.data.toList).1 ∧ Below w.heap.size w w' := by
 obtain ⟨R, hR⟩ : ∃ R, parseL path.data.toList = R := ⟨_, rfl⟩
 rw [hR] at h0 ⊢
 obtain ⟨NS, C⟩ := R
 simp only at h0 ⊢
 subst h0
 have HR := Lib.hid hR
 clear hR
 go_enter Tryz.func184, Tryz.ntmps184
 go_wp2_with fail
 refine (parse_any path _ hs).mono ?_
 rintro e1 w1 ⟨v, out, n, rfl, hp, hn, _, hb⟩
 rw [HR.out] at hp
 injection hp with hp1 hp2
 subst hp1 hp2
 obtain ⟨A, c, rfl, hc, hnm⟩ := NmAt.of_names hn
 have HNM := Lib.hid hnm
 have HB := Lib.hid hb
 clear hn hnm hb
 go_wp2_with fail
 refine (code_any 0 (by omega) _).mono ?_
 rintro e2 w2 ⟨rfl, rfl⟩
 go_wp2_with fail
 refine (throw_no _ _).mono ?_
 rintro e3 w3 ⟨rfl, rfl⟩
 go_wp2_with fail
 go_ret
 exact ⟨A, c, rfl, hc, HNM.out, HB.out⟩
theorem mparse_bad (path : ByteArray) (w : World) (hs : path.size ≤ 140737488355328) (h0 : (parseL path.data.toList).2 ≠ 0) :
  Calls Tryz.prog 184 #[.string path] w fun e w' => e = .panicked (faultP (codeP (parseL path.data.toList).2)) ∧ Below w.heap.size w w' := by
 have hle := parse_err path.data.toList
 obtain ⟨R, hR⟩ : ∃ R, parseL path.data.toList = R := ⟨_, rfl⟩
 rw [hR] at h0 hle ⊢
 obtain ⟨NS, C⟩ := R
 simp only at h0 hle ⊢
 have HR := Lib.hid hR
 clear hR
 go_enter Tryz.func184, Tryz.ntmps184
 go_wp2_with fail
 refine (parse_any path _ hs).mono ?_
 rintro e1 w1 ⟨v, out, n, rfl, hp, hn, _, hb⟩
 rw [HR.out] at hp
 injection hp with hp1 hp2
 subst hp1 hp2
 have HB := Lib.hid hb
 have hne : ((C : Int) != 0) = true := by rw [bne_iff_ne]; omega
 clear hn hb
 go_wp2_with fail
 refine (code_any C (by omega) _).mono ?_
 rintro e2 w2 ⟨rfl, rfl⟩
 rw [codeP_N]
 go_wp2_with fail
 refine (throw_yes _ _).mono ?_
 rintro e3 w3 ⟨rfl, rfl⟩
 go_wp2_with fail
 first | exact ⟨rfl, HB.out⟩ | (refine bodyPost_panic ?_; exact ⟨rfl, HB.out⟩) | (simp [bodyPost, faultP]; exact HB.out)
theorem walk_place {s : St} (hg : Good s) (names : List (List UInt8)) (h : (walkG s.inos names 1).2 = 0) : ∃ (i : Nat) (x : Ino), placeG s.inos (walkG s.inos names 1) = (i : Int) ∧ s.inos[i]? = some x ∧ x.num = (walkG s.inos names 1).1 := by
 obtain ⟨i, x, h1, h2, h3⟩ := atV_some (walkG_some hg.whole names 1 (by rw [hg.root_at]; omega) h)
 exact ⟨i, x, by unfold placeG; rw [if_pos h, h1], h2, h3⟩
theorem Own2.at_ {B : Nat} {w : World} {p : Nat} {s : St} {zs : List (Ino × Value)} {vI vO vM : Value} (h : Own2 B w p s zs vI vO vM) {i : Nat} {x : Ino} (hx : s.inos[i]? = some x) :
  ∃ g c E m d, vI = .slice (some ⟨g, 0, none⟩) s.inos.length c ∧ zs[i]? = some (x, .slice E m d) ∧ g < w.heap.size ∧ B ≤ g ∧ i < s.inos.length ∧ w.cell? ⟨g, i * 4, none⟩ = some (.int .i64 x.num) ∧ w.cell? ⟨g, i * 4 + 1, none⟩ = some (.bool x.dir) ∧ w.cell? ⟨g, i * 4 + 2, none⟩ = some (.slice E m d) ∧ w.cell? ⟨g, i * 4 + 3, none⟩ = some (.string x.data) ∧ (∀ j, w.frozen? ⟨g, j, none⟩ = false) ∧ SlOk E m d ∧ EntsAt none w E m x.ents := by
 have hl : s.inos.length = zs.length := by rw [← h.inos, List.length_map]
 have hil := (List.getElem?_eq_some_iff.1 hx).1
 obtain ⟨g, c, cur, hv, _, hB, hlt, hg, _, hc⟩ := h.rowI.open_ (by omega)
 rw [← h.inos, List.getElem?_map] at hx
 obtain ⟨z, hz, rfl⟩ := Option.map_eq_some_iff.1 hx
 have f := flat_get inoV 4 (fun x => rfl) zs i z hz
 obtain ⟨E, d, he, hmd, hE⟩ := (h.ents z (List.mem_of_getElem? hz)).ents
 refine ⟨g, c, E, z.1.ents.length, d, by rw [hl]; exact hv, by rw [← he]; exact hz, hlt, hB, hil, hc _ _ (f 0 (by omega)), hc _ _ (f 1 (by omega)), ?_, hc _ _ (f 3 (by omega)), fun j => frozen_of_row w g j _ _ hg, hmd, hE⟩
 rw [← he]
 exact hc _ _ (f 2 (by omega))
theorem Own2.s0 {B : Nat} {w : World} {p : Nat} {s : St} {zs : List (Ino × Value)} {vI vO vM : Value} (h : Own2 B w p s zs vI vO vM) : w.cell? ⟨p, 0, none⟩ = some vI := by rw [cell_of_row w p _ _ _ (0, 0) h.cell]; rfl
theorem Own2.s1 {B : Nat} {w : World} {p : Nat} {s : St} {zs : List (Ino × Value)} {vI vO vM : Value} (h : Own2 B w p s zs vI vO vM) : w.cell? ⟨p, 1, none⟩ = some vO := by rw [cell_of_row w p _ _ _ (0, 0) h.cell]; rfl
theorem Own2.s2 {B : Nat} {w : World} {p : Nat} {s : St} {zs : List (Ino × Value)} {vI vO vM : Value} (h : Own2 B w p s zs vI vO vM) : w.cell? ⟨p, 2, none⟩ = some vM := by rw [cell_of_row w p _ _ _ (0, 0) h.cell]; rfl
theorem Own2.lt {B : Nat} {w : World} {p : Nat} {s : St} {zs : List (Ino × Value)} {vI vO vM : Value} (h : Own2 B w p s zs vI vO vM) : p < w.heap.size := (Array.getElem?_eq_some_iff.1 h.cell).1
set_option maxRecDepth 100000 in
set_option maxHeartbeats 8000000 in
theorem mat_any (B q p : Nat) (s : St) (c : Ca) (fd num : Int) (dir : Bool) (data : ByteArray) (nv : Value) (zs : List (Ino × Value)) (vI vO vM : Value) (path : ByteArray) (w : World) (hD : DoerAt w q p c fd num dir data nv) (hO : Own2 B w p s zs vI vO vM) (hg : Good s) (hs : path.size ≤ 140737488355328) :
  Calls Tryz.prog 136 #[.pointer (some ⟨q, 0, .none⟩), .string path] w fun e w' => Below w.heap.size w w' ∧ (((findV s.inos path).2 ≠ 0 ∧ e = .panicked (faultP (findV s.inos path).2)) ∨ ((findV s.inos path).2 = 0 ∧ ∃ g n d i x, vI = .slice (some ⟨g, 0, none⟩) n d ∧ s.inos[i]? = some x ∧ x.num = (findV s.inos path).1 ∧ e = .returned (.pointer (some ⟨g, i * 4, none⟩)))) := by
 have hq := hD.lt
 have d0 := hD.c0
 have hp := hO.lt
 have HO := Lib.hid hO
 have HG := Lib.hid hg
 have HD := Lib.hid hD
 clear hO hg hD
 by_cases hpar : (parseL path.data.toList).2 = 0
 ·have hfv : findV s.inos path = walkG s.inos (parseL path.data.toList).1 1 := by unfold findV; rw [if_neg (by rw [hpar]; simp)]
  rw [hfv]
  have hlen := parse_len path.data.toList
  have HPAR := Lib.hid hpar
  obtain ⟨NS, hNS⟩ : ∃ NS, (parseL path.data.toList).1 = NS := ⟨_, rfl⟩
  have HPL := walk_place HG.out NS
  rw [hNS] at hlen ⊢
  have HNS := Lib.hid hNS
  obtain ⟨RW, hRW⟩ : ∃ RW, walkG s.inos NS 1 = RW := ⟨_, rfl⟩
  obtain ⟨KP, hKP⟩ : ∃ KP, placeG s.inos (walkG s.inos NS 1) = KP := ⟨_, rfl⟩
  rw [hKP, hRW] at HPL
  rw [hRW]
  obtain ⟨N, C⟩ := RW
  simp only at HPL ⊢
  have HW := Lib.hid hRW
  have HK := Lib.hid hKP
  have HPLA := Lib.hid HPL
  clear hpar hfv hNS hRW hKP HPL
  go_enter Tryz.func136, Tryz.ntmps136
  go_wp2_with fail
  go_region_held3 (fun w' => w'.cell? ⟨q, 0, none⟩ = some (.pointer (some ⟨p, 0, none⟩)))
   (first | go_keep | (rw [hb5.cell (by simp; omega)]; simp [*]) | (rw [hb6.cell (by have := hb5.size; simp at this ⊢; omega), hb5.cell (by simp; omega)]; simp [*]))
   (first
    | (go_at_call 184; refine (mparse_ok path _ hs HPAR.out).mono ?_; rintro e5 w5 ⟨A5, c5, rfl, hc5, hn5, hb5⟩; rw [HNS.out] at hc5 hn5 ⊢)
    | (go_at_call 185; refine (mwalk_any p s A5 NS.length c5 NS _ ((HO.out.ptr.below (Cv.drewN_below (Below.refl _ _) 1)).below hb5) HG.out hn5 (by omega)).mono ?_; rintro e6 w6 ⟨rfl, hb6, _⟩; rw [HK.out, HW.out]))
  have hb6' : Below w.heap.size w w6 := Cv.next (Cv.next (Cv.drewN_below (Below.refl _ _) 1) hb5) hb6
  have HB := Lib.hid hb6'
  have HO6 := Lib.hid (HO.out.below hb6')
  have d6 := (hb6'.cell (p := ⟨q, 0, none⟩) hq).trans d0
  clear hb5 hb6 hb6' hn5
  by_cases hC : C = 0
  ·subst hC
   obtain ⟨i, x, hk, hx, hxn⟩ := HPLA.out rfl
   obtain ⟨g, cc, E, m, d, hv, _, _, _, hil, _⟩ := HO6.out.at_ hx
   have p6 := HO6.out.s0
   rw [hv] at p6
   rw [hk]
   have i0 : (0 : Int) ≤ (i : Int) := by omega
   have i1 : (i : Int) < (s.inos.length : Int) := by omega
   go_wp2_with fail
   refine (throw_no _ _).mono ?_
   rintro e3 w3 ⟨rfl, rfl⟩
   go_wp2_with fail
   go_ret
   first | exact ⟨HB.out, .inr ⟨rfl, g, _, cc, i, x, hv, hx, hxn, rfl⟩⟩ | exact ⟨HB.out, i, x, hx, hxn, rfl⟩
  ·have hne : (C != 0) = true := by rw [bne_iff_ne]; exact hC
   go_wp2_with fail
   refine (throw_yes _ _).mono ?_
   rintro e3 w3 ⟨rfl, rfl⟩
   go_wp2_with fail
   exact panic_end rfl ⟨HB.out, .inl ⟨hC, rfl⟩⟩
 ·have hfv : findV s.inos path = (0, codeP (parseL path.data.toList).2) := by unfold findV; rw [if_pos hpar]
  rw [hfv]
  have hcp : codeP (parseL path.data.toList).2 ≠ 0 := by unfold codeP; rw [if_neg hpar]; split <;> decide
  have HPAR := Lib.hid hpar
  obtain ⟨C, hC⟩ : ∃ C, codeP (parseL path.data.toList).2 = C := ⟨_, rfl⟩
  simp only
  rw [hC] at hcp ⊢
  have HC := Lib.hid hC
  have HCP := Lib.hid hcp
  clear hpar hfv hC hcp
  go_enter Tryz.func136, Tryz.ntmps136
  go_wp2_with fail
  refine wp_region_any (by kernel_rfl) ?_
  change wpAny _ _ _ _ _ _ _ (World.drew _)
  refine wpAny_take (i := 0) (v := .pointer (some ⟨q, 0, none⟩)) rfl (by kernel_rfl) (by kernel_rfl) (by kernel_rfl) (fun _ _ _ h => h) (Or.inl ⟨by rfl, by intro w; go_simp⟩) ?_
  refine wpAny_take (i := 1) (v := .pointer (some ⟨q, 0, none⟩)) rfl (by kernel_rfl) (by kernel_rfl) (by kernel_rfl) (fun _ _ _ h => h) (Or.inl ⟨by rfl, by intro w; go_simp⟩) ?_
  refine wpAny_take (i := 2) (v := .pointer (some ⟨q, 0, none⟩)) rfl (by kernel_rfl) (by kernel_rfl) (by kernel_rfl) (fun _ _ _ h => h) (Or.inl ⟨by rfl, by intro w; go_simp⟩) ?_
  refine wpAny_take (i := 4) (v := .string path) rfl (by kernel_rfl) (by kernel_rfl) (by kernel_rfl) (fun _ _ _ h => h) (Or.inl ⟨by rfl, by intro w; go_simp⟩) ?_
  refine wpAny_ready (rs := [3, 5]) (by kernel_rfl) (by simp) (AllReady.cons rfl (fun K hK => ?_) (AllReady.cons rfl (fun K hK => ?_) AllReady.nil))
  ·go_simp
   refine hK _ _ ?_
   clear hK
   refine wpAny_ready (rs := [5]) (by kernel_rfl) (by simp) (AllReady.cons rfl (fun K hK => ?_) AllReady.nil)
   go_simp
   refine (mparse_bad path _ hs HPAR.out).mono ?_
   rintro e5 w5 ⟨rfl, hb5⟩
   rw [HC.out]
   go_simp
   exact panic_end rfl ⟨Cv.next (Cv.drewN_below (Below.refl _ _) 1) hb5, .inl ⟨HCP.out, rfl⟩⟩
  ·go_simp
   refine (mparse_bad path _ hs HPAR.out).mono ?_
   rintro e5 w5 ⟨rfl, hb5⟩
   rw [HC.out]
   go_simp
   exact panic_end rfl ⟨Cv.next (Cv.drewN_below (Below.refl _ _) 1) hb5, .inl ⟨HCP.out, rfl⟩⟩
theorem gopens_mem (is : List Ino) (n : Nat) : ∀ (ds : List Ds) (q : Option Ds), opensG is n ds q = true → ∀ d ∈ ds, dsBad is n d = false
 | [], _, _, d, hd => by simp at hd
 | y :: ds, q, h, d, hd => by
  unfold opensG at h
  split at h
  ·cases h
  ·rename_i h1
   split at h
   ·cases h
   ·rcases List.mem_cons.1 hd with rfl | hd
    ·simpa using h1
    ·exact gopens_mem is n ds _ h d hd
theorem Good.opens {s : St} (h : Good s) : ∀ d ∈ s.opn, 0 ≤ d.core ∧ d.core < (s.made.length : Int) ∧ 0 ≤ d.fd ∧ d.fd < 4 ∧ ∃ (i : Nat) (x : Ino), atV s.inos d.num = (i : Int) ∧ s.inos[i]? = some x ∧ x.num = d.num ∧ x.dir = false := by
 intro d hd
 have h1 := gopens_mem _ _ _ _ h.opn d hd
 unfold dsBad at h1
 simp only [Bool.or_eq_false_iff, decide_eq_false_iff_not] at h1
 obtain ⟨⟨⟨⟨a1, a2⟩, a3⟩, a4⟩, a5⟩ := h1
 refine ⟨by omega, by omega, by omega, by omega, ?_⟩
 rcases atV_cases s.inos d.num with ⟨h2, _⟩ | ⟨k, x, h2, h3, h4, _⟩
 ·rw [h2] at a5
  simp [inoAt] at a5
 ·rw [h2, inoAt_nat, h3] at a5
  exact ⟨k, x, h2, h3, h4, a5⟩
def fdP : List Ds → Int → Int → Option Nat
 | [], _, _ => none
 | d :: ds, core, fd => if d.core = core ∧ d.fd = fd then some 0 else (fdP ds core fd).map (· + 1)
def fdI (ds : List Ds) (core fd : Int) : Int := match fdP ds core fd with | none => -1 | some k => (k : Int)
theorem fdP_none : ∀ (ds : List Ds) (core fd : Int), fdP ds core fd = none → fdV ds core fd = 0 ∧ dropD ds core fd = ds
 | [], _, _, _ => ⟨rfl, rfl⟩
 | d :: ds, core, fd, h => by
  unfold fdP at h
  unfold fdV dropD
  by_cases hh : d.core = core ∧ d.fd = fd
  ·rw [if_pos hh] at h; cases h
  ·rw [if_neg hh] at h ⊢
   rw [if_neg hh]
   have := fdP_none ds core fd (by cases hf : fdP ds core fd with | none => rfl | some k => rw [hf] at h; cases h)
   exact ⟨this.1, by rw [this.2]⟩
theorem fdP_some : ∀ (ds : List Ds) (core fd : Int) (k : Nat), fdP ds core fd = some k → ∃ d, ds[k]? = some d ∧ d.core = core ∧ d.fd = fd ∧ fdV ds core fd = d.num
 | [], _, _, k, h => by cases h
 | d :: ds, core, fd, k, h => by
  unfold fdP at h
  unfold fdV
  by_cases hh : d.core = core ∧ d.fd = fd
  ·rw [if_pos hh] at h
   cases h
   exact ⟨d, rfl, hh.1, hh.2, if_pos hh⟩
  ·rw [if_neg hh] at h ⊢
   cases hf : fdP ds core fd with
   | none => rw [hf] at h; cases h
   | some j =>
    rw [hf] at h
    cases h
    obtain ⟨y, h1, h2⟩ := fdP_some ds core fd j hf
    exact ⟨y, by simpa using h1, h2⟩
theorem fdP_drop (ds : List Ds) (core fd : Int) (q : Nat) (y : Ds) (hd : ds.drop q = y :: ds.drop (q + 1)) : fdP (ds.drop q) core fd = if y.core = core ∧ y.fd = fd then some 0 else (fdP (ds.drop (q + 1)) core fd).map (· + 1) := by
 rw [hd, fdP]
theorem file1_any (q p : Nat) (c : Ca) (fd num : Int) (dir : Bool) (data : ByteArray) (nv : Value) (a b k : Int) (bx : Nat) (w : World) (hb : w.cell? ⟨bx, 0, .none⟩ = some (.pointer (some ⟨q, 0, none⟩))) (hlt : bx < w.heap.size) (hD : DoerAt w q p c fd num dir data nv) :
  Calls Tryz.prog 139 #[.agg #[.int .i64 a, .int .i64 b, .int .i64 k], .pointer (some ⟨bx, 0, .none⟩)] w fun e w' => e = .returned (.bool (a == c.core && b == c.fd)) ∧ Below w.heap.size w w' := by
 obtain ⟨V2, hV2, v0, v1, v2, hal4, hlt4⟩ := box_ds w a b k
 have z := (hal4.cell (p := ⟨bx, 0, .none⟩) hlt).trans hb
 have hD2 := hD.below hal4
 have d2 := hD2.c2
 have d3 := hD2.c3
 have HAL := Lib.hid hal4
 clear hal4 hD hD2
 obtain ⟨X, hX⟩ : ∃ X, (a == c.core) = X := ⟨_, rfl⟩
 obtain ⟨Y, hY⟩ : ∃ Y, (b == c.fd) = Y := ⟨_, rfl⟩
 rw [hX, hY]
 go_enter Tryz.func139, Tryz.ntmps139
 cases X
 ·go_wp2_with fail
  go_quiet (fail)
  go_wp2_with fail
  go_ret
  exact ⟨by first | rfl | simp, Cv.next HAL.out (Cv.drewN_below (Below.refl _ _) _)⟩
 ·go_wp2_with fail
  go_quiet (fail)
  go_wp2_with fail
  go_ret
  exact ⟨by first | rfl | simp, Cv.next HAL.out (Cv.drewN_below (Below.refl _ _) _)⟩
set_option maxRecDepth 100000 in
set_option maxHeartbeats 4000000 in
theorem indexfile_any (q p : Nat) (c : Ca) (fd num : Int) (dir : Bool) (data : ByteArray) (nv : Value) (xs : List Ds) (A : Option Addr) (n cp : Nat) (bx : Nat) (w : World) (hI : DescsAt none w A n xs) (hn : n ≤ 1099511627776) (hb : w.cell? ⟨bx, 0, .none⟩ = some (.pointer (some ⟨q, 0, none⟩))) (hblt : bx < w.heap.size) (hD : DoerAt w q p c fd num dir data nv) :
  Calls Tryz.prog 138 #[.slice A n cp, .func (.func 139) #[] #[.pointer (some ⟨bx, 0, .none⟩)]] w fun e w' => e = .returned (.int .i64 (fdI xs c.core c.fd)) ∧ Below w.heap.size w w' := by
 obtain ⟨R, hR⟩ : ∃ R, fdP xs c.core c.fd = R := ⟨_, rfl⟩
 unfold fdI
 rw [hR]
 have HI := Lib.hid hI
 have HR := Lib.hid hR
 have HD := Lib.hid hD
 clear hI hR hD
 go_enter Tryz.func138, Tryz.ntmps138
 go_wp2_with fail
 go_loopw [8] (fun j wr => ∃ r : Nat, j = .int .i64 r ∧ r ≤ n ∧ Below w.heap.size w wr ∧ (fdP (xs.drop r) c.core c.fd).map (· + r) = R) (fun j _ => n - (intOf j).toNat)
 case atStart => exact ⟨0, rfl, by omega, Below.refl _ _, by rw [List.drop_zero, HR.out]; cases R <;> rfl⟩
 case round =>
  obtain ⟨r, rfl, hq, hbel, hc⟩ := hrel
  have HB := Lib.hid hbel
  have HIr := Lib.hid (HI.out.below hbel)
  have hbr := (hbel.cell (p := ⟨bx, 0, .none⟩) hblt).trans hb
  have hbl : bx < wr.heap.size := Nat.lt_of_lt_of_le hblt hbel.size
  have HBR := Lib.hid hbr
  have HDR := Lib.hid (HD.out.below hbel)
  clear hbel hbr
  by_cases hlt : r < n
  ·obtain ⟨g, off, y, rfl, hg, hy, hd, hmem, e0, e1, e2⟩ := HIr.out.get r hlt
   rw [fdP_drop xs _ _ r y hd] at hc
   have HC := Lib.hid hc
   have k0 : (0 : Int) ≤ (r : Int) := by omega
   clear hc hd hmem hy
   go_wp2_with fail
   refine (file1_any q p c fd num dir data nv y.core y.fd y.num bx _ HBR.out hbl HDR.out).mono ?_
   rintro e5 w5 ⟨rfl, hb5⟩
   have HB5 := Lib.hid (HB.out.trans (hb5.mono HB.out.size))
   clear hb5 e0 e1 e2
   obtain ⟨bb, hbb⟩ : ∃ bb, (y.core == c.core && y.fd == c.fd) = bb := ⟨_, rfl⟩
   rw [hbb]
   have hc := HC.out
   cases bb
   ·have hnx : ¬ (y.core = c.core ∧ y.fd = c.fd) := fun h => by rw [h.1, h.2] at hbb; simp at hbb
    rw [if_neg hnx] at hc
    have HC2 := Lib.hid hc
    clear hc hbb hnx
    go_wp2_with fail
    go_roundw
    case rel => exact ⟨r + 1, by go_num, by omega, HB5.out, by
     rw [← HC2.out]
     cases fdP (xs.drop (r + 1)) c.core c.fd
     ·rfl
     ·simp; omega⟩
    case measure => simp [intOf]; omega
   ·have hnx : y.core = c.core ∧ y.fd = c.fd := by simpa using hbb
    rw [if_pos hnx] at hc
    have HC2 := Lib.hid hc
    clear hc hbb hnx
    go_wp2_with fail
    go_ret
    have h := HC2.out
    simp at h
    subst h
    exact ⟨rfl, HB5.out⟩
  ·have hnil : xs.drop r = [] := List.drop_eq_nil_of_le (by have := HI.out.1; omega)
   rw [hnil, fdP] at hc
   have HC := Lib.hid hc
   clear hc hnil
   go_wp2_with fail
   go_ret
   exact ⟨by rw [← HC.out]; rfl, HB.out⟩
end Go.Proofs.YtilkhmhgjbhfnaaGreatDoor
namespace Go.Proofs.YtilkhmhgjbhfnaaGreatDoor
theorem linkE_append : ∀ (a b : List En) (num : Int), linkE (a ++ b) num = linkE a num + linkE b num
 | [], b, num => by simp [linkE]
 | e :: a, b, num => by rw [List.cons_append, linkE, linkE, linkE_append a b num]; omega
theorem linkE_less (es : List En) (i : Nat) (e : En) (num : Int) (h : es[i]? = some e) : linkE es num = linkE (es.take i ++ es.drop (i + 1)) num + (if e.num = num then 1 else 0) := by
 have hl := (List.getElem?_eq_some_iff.1 h).1
 have he := (List.getElem?_eq_some_iff.1 h).2
 have : es = es.take i ++ e :: es.drop (i + 1) := by
  rw [← he, ← List.drop_eq_getElem_cons hl, List.take_append_drop]
 rw [linkE_append]
 conv => lhs; rw [this]
 rw [linkE_append, linkE]
 omega
theorem linkI_set : ∀ (is : List Ino) (i : Nat) (x y : Ino) (num : Int), is[i]? = some x → linkI (is.set i y) num + (if x.dir then linkE x.ents num else 0) = linkI is num + (if y.dir then linkE y.ents num else 0)
 | [], i, x, y, num, h => by simp at h
 | z :: is, 0, x, y, num, h => by
  have : z = x := by simpa using h
  subst this
  rw [List.set_cons_zero, linkI, linkI]
  omega
 | z :: is, i + 1, x, y, num, h => by
  have ih := linkI_set is i x y num (by simpa using h)
  rw [List.set_cons_succ, linkI, linkI]
  omega
theorem Good.ent_ne {s : St} (h : Good s) {i k : Nat} {x y : Ino} {e : En} (hx : s.inos[i]? = some x) (hxd : x.dir = true) (he : e ∈ x.ents) (hy : s.inos[k]? = some y) (hn : y.num = e.num) : k ≠ i := by
 intro hki
 subst hki
 rw [hx] at hy
 cases hy
 obtain ⟨j, z, hj, hz, hzn, hat⟩ := h.ent hx hxd he
 have hjk : j = k := by
  have h1 := h.idx hx
  have h2 := h.idx hz
  rw [hzn, ← hn, h1] at h2
  omega
 subst hjk
 obtain ⟨n, hl⟩ := h.lev_of (h.one j x hj hx hxd).2
 have h3 : Lev s.inos (n + 1) j := Lev.step hl hx hxd he hat
 have := h.lev_one _ _ _ _ hx hxd hl h3
 omega
theorem Good.shut {s : St} (h : Good s) {k : Nat} {y : Ino} (hy : s.inos[k]? = some y) (hd : y.dir = true) : openB s.opn y.num = false := by
 have key : ∀ (ds : List Ds), (∀ d ∈ ds, d.num ≠ y.num) → openB ds y.num = false := by
  intro ds
  induction ds with
  | nil => intro _; rfl
  | cons d ds ih =>
   intro hds
   unfold openB
   rw [if_neg (hds d (by simp)), ih (fun e he => hds e (by simp [he]))]
 refine key _ (fun d hd2 he => ?_)
 obtain ⟨_, _, _, _, i, x, hat, hx, hxn, hxd⟩ := h.opens d hd2
 rw [he, h.idx hy] at hat
 have : i = k := by omega
 subst this
 rw [hy] at hx
 cases hx
 rw [hd] at hxd
 cases hxd
theorem get_set_ne {α : Type} {l : List α} {i k : Nat} {y : α} (h : k ≠ i) : (l.set i y)[k]? = l[k]? := by
 rw [List.getElem?_set, if_neg (fun e => h e.symm)]
theorem RiseI.set {is : List Ino} (h : RiseI is) {i : Nat} {x y : Ino} (hx : is[i]? = some x) (hn : y.num = x.num) : RiseI (is.set i y) := by
 have key : ∀ (j : Nat) (z : Ino), (is.set i y)[j]? = some z → ∃ z', is[j]? = some z' ∧ z'.num = z.num := by
  intro j z hz
  by_cases e : j = i
  ·subst e
   have hl := (List.getElem?_eq_some_iff.1 hx).1
   rw [List.getElem?_set, if_pos rfl, if_pos hl] at hz
   cases hz
   exact ⟨x, hx, hn.symm⟩
  ·rw [get_set_ne e] at hz
   exact ⟨z, hz, rfl⟩
 intro a b u v hab hu hv
 obtain ⟨u', hu1, hu2⟩ := key a u hu
 obtain ⟨v', hv1, hv2⟩ := key b v hv
 rw [← hu2, ← hv2]
 exact h a b u' v' hab hu1 hv1
theorem Good.rmdir {s : St} (h : Good s) {i k j : Nat} {x y : Ino} {e : En} {nm : ByteArray} (hx : s.inos[i]? = some x) (hxd : x.dir = true) (hp : EnPos x.ents nm j true) (he : x.ents[j]? = some e) (hy : s.inos[k]? = some y) (hn : y.num = e.num) (hyd : y.dir = true) :
  sweepV { s with inos := s.inos.set i { x with ents := dropE x.ents nm } } e.num = { s with inos := dropI (s.inos.set i { x with ents := dropE x.ents nm }) e.num } := by
 have hem := List.mem_of_getElem? he
 have hk : 0 < k := by
  obtain ⟨j', z, hj', hz, hzn, _⟩ := h.ent hx hxd hem
  have h1 := h.idx hy
  have h2 := h.idx hz
  rw [hzn, ← hn, h1] at h2
  omega
 have h1 := (h.one k y hk hy hyd).1
 have h2 := linkI_set s.inos i x { x with ents := dropE x.ents nm } e.num hx
 have h3 := linkE_less x.ents j e e.num he
 rw [if_pos rfl, ← dropE_pos x.ents nm j (h.riseE (List.mem_of_getElem? hx)) hp] at h3
 rw [if_pos hxd, if_pos (show ({ x with ents := dropE x.ents nm } : Ino).dir = true from hxd)] at h2
 rw [hn] at h1
 have ho := h.shut hy hyd
 rw [hn] at ho
 unfold sweepV
 rw [if_neg]
 intro h4
 rcases h4 with h4 | h4
 ·have h5 : linkE ({ x with ents := dropE x.ents nm } : Ino).ents e.num = linkE (dropE x.ents nm) e.num := rfl
  rw [h5] at h2
  have h6 : 0 < linkI (s.inos.set i { x with ents := dropE x.ents nm }) e.num := h4
  omega
 ·have h6 : openB s.opn e.num = true := h4
  rw [ho] at h6
  cases h6
theorem EnPos.of_name {es : List En} (hr : RiseE es) {nm : ByteArray} {j : Nat} {e : En} (hj : es[j]? = some e) (hn : e.name = nm) : EnPos es nm j true := by
 have hl := (List.getElem?_eq_some_iff.1 hj).1
 refine ⟨by omega, fun k x hk hx => by rw [← hn]; exact hr k j x e hk hx hj, fun k x hk hx => ?_, fun _ => ⟨e, hj, hn⟩, fun _ => rfl⟩
 by_cases h : k = j
 ·subst h
  rw [hj] at hx
  cases hx
  rw [hn, ltN_irrefl]
 ·rw [← hn]
  exact ltN_asymm (hr j k e x (by omega) hj hx)
theorem entG_zero : ∀ (es : List En) (nm : ByteArray), (∀ e ∈ es, e.num ≠ 0) → entG es nm = 0 → ∀ e ∈ es, e.name ≠ nm
 | [], _, _, _ => by simp
 | y :: es, nm, h, h0 => by
  unfold entG at h0
  by_cases hy : y.name = nm
  ·rw [if_pos hy] at h0
   exact absurd h0 (h y (by simp))
  ·rw [if_neg hy] at h0
   intro e he
   rcases List.mem_cons.1 he with rfl | he
   ·exact hy
   ·exact entG_zero es nm (fun e he => h e (by simp [he])) h0 e he
theorem entG_some : ∀ (es : List En) (nm : ByteArray), entG es nm ≠ 0 → ∃ (j : Nat) (e : En), es[j]? = some e ∧ e.name = nm ∧ e.num = entG es nm
 | [], _, h => absurd rfl h
 | y :: es, nm, h => by
  unfold entG at h ⊢
  by_cases hy : y.name = nm
  ·rw [if_pos hy]
   exact ⟨0, y, rfl, hy, rfl⟩
  ·rw [if_neg hy] at h ⊢
   obtain ⟨j, e, h1, h2⟩ := entG_some es nm h
   exact ⟨j + 1, e, by simpa using h1, h2⟩
end Go.Proofs.YtilkhmhgjbhfnaaGreatDoor
