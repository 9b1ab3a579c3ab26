/- The model's create: Create and Mkdir. -/
import Derived.Test.YtilkhmhgjbhfnaaGreatDoorM23
import Derived.Test.YtilkhmhgjbhfnaaGreatDoorM28
import Derived.Test.YtilkhmhgjbhfnaaGreatDoorM25
import Derived.Test.YtilkhmhgjbhfnaaGreatDoorM27
set_option linter.unusedVariables false
set_option linter.unusedSimpArgs false
namespace Go.Proofs.YtilkhmhgjbhfnaaGreatDoor
open Go.RowKit
theorem inum_any (a b : Int) (w : World) (ha : 0 ≤ a ∧ a ≤ 1000) (hb : 0 ≤ b ∧ b ≤ 1000) : Calls Tryz.prog 131 #[.int .i64 a, .int .i64 b] w fun e w' => e = .returned (.int .i64 (2 + a + 8 * b)) ∧ w = w' := by
 have h1 : IntKind.i64.wrap (2 + a) = 2 + a := by rw [IntKind.wrap_i64]; omega
 have h2 : IntKind.i64.wrap (8 * b) = 8 * b := by rw [IntKind.wrap_i64]; omega
 have h3 : IntKind.i64.wrap (2 + a + 8 * b) = 2 + a + 8 * b := by rw [IntKind.wrap_i64]; omega
 go_enter Tryz.func131, Tryz.ntmps131
 go_wp2_with fail
 go_ret
 exact ⟨rfl, rfl⟩
theorem Apart.ins {zs : List (Ino × Value)} (h : Apart zs) (k : Nat) (y : Ino × Value) (hy : rowBlk y.2 = none) : Apart (zs.take k ++ [y] ++ zs.drop k) := by
 have key : ∀ (i : Nat) (a : Ino × Value), (zs.take k ++ [y] ++ zs.drop k)[i]? = some a → rowBlk a.2 = none ∨ (i ≠ min k zs.length ∧ zs[if i < k then i else i - 1]? = some a) := by
  intro i a ha
  rw [List.append_assoc, List.getElem?_append] at ha
  by_cases hi : i < (zs.take k).length
  ·rw [if_pos hi, List.getElem?_take] at ha
   rw [List.length_take] at hi
   have : i < k := by omega
   rw [if_pos this] at ha ⊢
   exact .inr ⟨by omega, ha⟩
  ·rw [if_neg hi] at ha
   rw [List.length_take] at hi ha
   by_cases h0 : i - min k zs.length = 0
   ·rw [h0] at ha
    have : y = a := by simpa using ha
    rw [← this]
    exact .inl hy
   ·rw [List.getElem?_append_right (by simp; omega), List.getElem?_drop] at ha
    have hl := (List.getElem?_eq_some_iff.1 ha).1
    simp at ha hl
    by_cases hk : k ≤ zs.length
    ·rw [Nat.min_eq_left hk] at hi h0 ha hl
     rw [if_neg hi]
     refine .inr ⟨by omega, ?_⟩
     rw [← ha]
     congr 1
     omega
    ·omega
 intro i j a b hij ha hb g hga hgb
 rcases key i a ha with h1 | ⟨h1, h2⟩
 ·rw [h1] at hga; cases hga
 ·rcases key j b hb with h3 | ⟨h3, h4⟩
  ·rw [h3] at hgb; cases hgb
  ·refine h _ _ a b ?_ h2 h4 g hga hgb
   have hi := (List.getElem?_eq_some_iff.1 h2).1
   have hj := (List.getElem?_eq_some_iff.1 h4).1
   by_cases c1 : i < k <;> by_cases c2 : j < k <;> simp only [c1, c2, if_true, if_false] at hi hj ⊢ <;> omega
theorem Own2.made_ {B : Nat} {w : World} {p : Nat} {s : St} {zs : List (Ino × Value)} {vI vO vM : Value} (h : Own2 B w p s zs vI vO vM) {co : Nat} (hc : co < s.made.length) : ∃ g e, vM = .slice (some ⟨g, 0, none⟩) s.made.length e ∧ g < w.heap.size ∧ w.cell? ⟨g, co, none⟩ = some (.int .i64 (s.made.getD co 0)) ∧ (∀ j, w.frozen? ⟨g, j, none⟩ = false) := by
 obtain ⟨g, c, cur, hv, _, _, hlt, hg, _, hcell⟩ := h.rowM.open_ (by omega)
 refine ⟨g, c, hv, hlt, hcell co _ ?_, fun j => frozen_of_row w g j _ _ hg⟩
 rw [List.getElem?_map, List.getD_eq_getElem?_getD, List.getElem?_eq_getElem hc]
 rfl
set_option maxRecDepth 100000 in
set_option maxHeartbeats 16000000 in
theorem mcreate_any (B q p : Nat) (s : St) (c : Ca) (co : Nat) (zs : List (Ino × Value)) (vI vO vM : Value) (w : World) (hN : Now B q p s c zs vI vO vM w w) (hg : Good s) (hp1 : c.path.size ≤ 140737488355328) (hco : c.core = (co : Int)) (hcm : co < s.made.length) (hk : c.kind = 0 ∨ c.kind = 1) :
  Calls Tryz.prog 85 #[.pointer (some ⟨q, 0, .none⟩)] w (Ran B q p c (make1V s c) w) := by
 obtain ⟨R, hR⟩ : ∃ R, make1V s c = R := ⟨_, rfl⟩
 have hsz := (make_sized hg c (by omega) (by omega)).1
 unfold MakeSized at hsz
 rw [hR] at hsz ⊢
 unfold make1V at hR
 rw [hco, Int.toNat_natCast] at hR hsz
 have h8 := hg.m8
 obtain ⟨MD, hMD⟩ : ∃ MD, s.made.getD co 0 = MD := ⟨_, rfl⟩
 have hmr : 0 ≤ MD ∧ MD ≤ 32 := by
  rw [← hMD, List.getD_eq_getElem?_getD, List.getElem?_eq_getElem hcm]
  exact hg.mr _ (List.getElem_mem hcm)
 have hfresh := hg.fresh (core := (co : Int)) (by omega) (by omega)
 rw [Int.toNat_natCast, hMD] at hfresh
 rw [hMD] at hR hsz
 obtain ⟨NUM, hNUM⟩ : ∃ NUM, 2 + (co : Int) + 8 * MD = NUM := ⟨_, rfl⟩
 rw [hNUM] at hR hsz hfresh
 have hnb : 2 ≤ NUM ∧ NUM ≤ 300 := by omega
 have hsp := (Small.put hg.small (parentV s.inos c.path).1 (parentV s.inos c.path).2.1 NUM ⟨by have := parentV_size s.inos c.path; show (parentV s.inos c.path).2.1.size ≤ _; omega, by show _ ≤ NUM; omega, by show NUM ≤ _; omega⟩).sized (by omega) (by omega) (by omega)
 have HR := Lib.hid hR
 have HSZ := Lib.hid hsz
 have HSP := Lib.hid hsp
 have HN0 := Lib.hid hN
 have HG := Lib.hid hg
 have HF := Lib.hid hfresh
 have HMD := Lib.hid hMD
 have HNUM := Lib.hid hNUM
 have d6 := hN.doer.c6
 clear hR hN hg hsz hsp hfresh hMD
 go_enter Tryz.func85, Tryz.ntmps85
 go_wp2_with fail
 refine (mparent_any B q p s c 0 0 false ⟨#[]⟩ (.slice none 0 0) zs vI vO vM c.path w HN0.out.doer HN0.out.own HG.out hp1).mono ?_
 rintro e4 w4 ⟨hb4, ⟨hc4, rfl⟩ | ⟨hc4, g', n', d', j, y, hvI, hy, hyn, hyd, rfl⟩⟩
 ·have hr := HR.out
  rw [if_pos hc4] at hr
  go_simp
  exact panic_end rfl ((HN0.out.step hb4).fail (by rw [← hr]; exact hc4) (by rw [← hr]))
 obtain ⟨NM, hNM⟩ : ∃ NM, (parentV s.inos c.path).2.1 = NM := ⟨_, rfl⟩
 have hnms : NM.size ≤ 140737488355328 := by rw [← hNM]; have := parentV_size s.inos c.path; omega
 have hr := HR.out
 rw [if_neg (by rw [hc4]; simp), hNM] at hr
 rw [hNM]
 have hatj := HG.out.at_ hy hyn
 rw [entV_at hatj hy, fullV_at hatj hy, setEnts_at hatj hy] at hr
 have hsp := HSP.out
 rw [hNM, setEnts_at hatj hy] at hsp
 have hsz := HSZ.out
 rw [hNM, setEnts_at hatj hy] at hsz
 have HSP1 := Lib.hid hsp
 have HSZ1 := Lib.hid hsz
 have HR3 := Lib.hid hr
 have HN4 := Lib.hid (HN0.out.step hb4)
 obtain ⟨E4, m4, e4', y0, y1, y2, y3, hE4, hgl4, hm4⟩ := HN4.out.ino hvI hy
 have HY := Lib.hid hy
 have hmem := List.mem_of_getElem? hy
 have hleny : y.ents.length ≤ 32 := HG.out.ents_len hmem
 have hm32 : m4 ≤ 1000000 := by omega
 have HE4 := Lib.hid hE4
 have HRE := Lib.hid (HG.out.riseE hmem)
 have HTX := Lib.hid (HG.out.text hmem)
 have HMEM := Lib.hid hmem
 have HVI := Lib.hid hvI
 clear hr hb4 hNM hE4 hy hyn hatj hmem hm4 hc4 hvI hsp hsz HSP HSZ HR d6
 go_wp2_with fail
 refine (mentry_any y.ents E4 m4 e4' NM _ HE4.out (by omega) HRE.out).mono ?_
 rintro e5 w5 ⟨k, b, rfl, hb5, hpos⟩
 have HN5 := Lib.hid (HN4.out.step hb5)
 have y25 := (hb5.cell (p := ⟨g', j * 4 + 2, none⟩) hgl4).trans y2
 have HE5 := Lib.hid (HE4.out.below hb5)
 have hgl5 : g' < w5.heap.size := Nat.lt_of_lt_of_le hgl4 hb5.size
 rcases HG.out.entIs HMEM.out hpos with ⟨rfl, hz⟩ | ⟨rfl, hz, en, hen, henn, hennm⟩
 rotate_left
 ·have hr := HR3.out
  rw [if_pos hz] at hr
  clear hb5 hpos y0 y1 y2 y3 hz hen henn hennm
  go_wp2_with fail
  refine (throw_yes _ _).mono ?_
  rintro e3 w3 ⟨rfl, rfl⟩
  go_wp2_with fail
  exact panic_end rfl (HN5.out.fail (by rw [← hr]; simp) (by rw [← hr]))
 have hr := HR3.out
 rw [if_neg (by rw [hz]; simp)] at hr
 have HR4 := Lib.hid hr
 have hno := entG_zero y.ents NM (fun e he => (HG.out.entNum HMEM.out he).1) hz
 have HNO := Lib.hid hno
 have d05 := HN5.out.doer.c0
 have d25 := HN5.out.doer.c2
 rw [hco] at d25
 have s25 := HN5.out.own.s2
 obtain ⟨gM, eM, hvM, hgM, m05, mfz⟩ := HN5.out.own.made_ hcm
 rw [hvM] at s25
 rw [HMD.out] at m05
 obtain ⟨ML, hML⟩ : ∃ ML, s.made.length = ML := ⟨_, rfl⟩
 rw [hML] at s25
 have co0 : (0 : Int) ≤ (co : Int) := by omega
 have co1 : (co : Int) < (ML : Int) := by omega
 have HVM := Lib.hid hvM
 clear hr HR3 hb5 hpos y0 y1 y2 y3 hz hno hvM hML
 go_wp2_with fail
 refine (throw_no _ _).mono ?_
 rintro e3 w3 ⟨rfl, rfl⟩
 go_wp2_with fail
 go_quiet (fail)
 generalize hW6 : w5.drewN nq = w6
 have hb6 : Below w5.heap.size w5 w6 := by rw [← hW6]; exact Cv.drewN_below (Below.refl _ _) _
 have HN6 := Lib.hid (HN5.out.step hb6)
 have y26 := (hb6.cell (p := ⟨g', j * 4 + 2, none⟩) hgl5).trans y25
 have HE6 := Lib.hid (HE5.out.below hb6)
 clear hb6 hW6 y25 d05 d25 s25 m05
 go_wp2_with fail
 refine (mfull_any g' (j * 4) y.ents E4 m4 e4' NM ⟨#[]⟩ w6 y26 HE6.out (by omega) HTX.out hnms).mono ?_
 rintro e7 w7 ⟨rfl, hb7⟩
 have HN7 := Lib.hid (HN6.out.step hb7)
 obtain ⟨FB, hFB⟩ : ∃ FB, decide (4 ≤ fullE y.ents NM ⟨#[]⟩) = FB := ⟨_, rfl⟩
 have hr := HR4.out
 rw [show txt [] = ⟨#[]⟩ from rfl, hFB] at hr
 rw [hFB]
 have HR5 := Lib.hid hr
 clear hr HR4 hb7 hFB y26
 have hfail : FB = true ∨ 32 ≤ MD → Ran B q p c R w (.panicked (faultP 5)) w7 := fun h => by
  have hr := HR5.out
  rw [if_pos h] at hr
  exact HN7.out.fail (by rw [← hr]; simp) (by rw [← hr])
 have HFAIL := Lib.hid hfail
 clear hfail
 cases FB
 rotate_left
 ·go_wp2_with fail
  refine (throw_yes _ _).mono ?_
  rintro e3 w3 ⟨rfl, rfl⟩
  go_wp2_with fail
  exact panic_end rfl (HFAIL.out (by simp))
 by_cases hmd : 32 ≤ MD
 ·have q1 : decide ((32 : Int) ≤ MD) = true := decide_eq_true hmd
  go_wp2_with fail
  refine (throw_yes _ _).mono ?_
  rintro e3 w3 ⟨rfl, rfl⟩
  go_wp2_with fail
  exact panic_end rfl (HFAIL.out (.inr hmd))
 have q1 : decide ((32 : Int) ≤ MD) = false := decide_eq_false hmd
 have hr := HR5.out
 rw [if_neg (fun h => h.elim (by simp) hmd)] at hr
 have HR6 := Lib.hid hr
 have d27 := HN7.out.doer.c2
 rw [hco] at d27
 clear hr HR5
 go_wp2_with fail
 refine (throw_no _ _).mono ?_
 rintro e3 w3 ⟨rfl, rfl⟩
 go_wp2_with fail
 refine (inum_any (co : Int) MD w7 (by omega) (by omega)).mono ?_
 rintro e8 w8 ⟨rfl, rfl⟩
 rw [HNUM.out]
 clear d27
 go_wp2_with fail
 refine (mput_any B p s zs vI vO vM j y NM NUM g' n' d' w7 HN7.out.own HN7.out.hB' HY.out HVI.out HRE.out HNO.out (by omega) HSP1.out).mono ?_
 rintro e9 w9 ⟨rfl, ht9, zs9, ho9⟩
 obtain ⟨S1, hS1⟩ : ∃ S1 : St, ({ s with inos := s.inos.set j { y with ents := putE y.ents NM NUM } } : St) = S1 := ⟨_, rfl⟩
 rw [hS1] at ho9
 have hm1 : S1.made = s.made := by rw [← hS1]
 have hi1 : S1.inos = s.inos.set j { y with ents := putE y.ents NM NUM } := by rw [← hS1]
 have ho1 : S1.opn = s.opn := by rw [← hS1]
 have hD9 := HN7.out.doer.turns HN7.out.ne ht9
 have hB9 : B ≤ w9.heap.size := Nat.le_trans HN7.out.hB' ht9.below.size
 have d09 := hD9.c0
 have d29 := hD9.c2
 rw [hco] at d29
 have s29 := ho9.s2
 obtain ⟨gM9, eM9, hvM9, hgM9, m09, mfz9⟩ := ho9.made_ (co := co) (by rw [hm1]; exact hcm)
 have hvm := HVM.out
 rw [hm1] at hvM9
 rw [hvM9] at hvm
 injection hvm with h1 _ h3
 injection h1 with h1
 injection h1 with h1
 subst h1 h3
 rw [hvM9] at s29
 rw [hm1, HMD.out] at m09
 obtain ⟨ML, hML⟩ : ∃ ML, s.made.length = ML := ⟨_, rfl⟩
 rw [hML] at s29
 have co2 : (co : Int) < (ML : Int) := by omega
 have mw : IntKind.i64.wrap (MD + 1) = MD + 1 := by rw [IntKind.wrap_i64]; omega
 have m0f := mfz9 co
 have hmz : Sized { S1 with made := S1.made.set co (MD + 1) } := by
  have h := HSZ1.out.2.1
  rw [← hS1]
  exact h
 have hset := (ho9.below (Cv.drewN_below (Below.refl _ _) 1)).setM (w := w9.drew) hB9 co (MD + 1) (by rw [hm1]; exact hcm) hmz hvM9
 have HT9 := Lib.hid ht9
 have HD9 := Lib.hid hD9
 have HSET := Lib.hid hset
 have HS1 := Lib.hid hS1
 have HI1 := Lib.hid hi1
 have HM1 := Lib.hid hm1
 have HO1 := Lib.hid ho1
 clear ht9 ho9 hS1 hm1 hi1 ho1 hD9 hvM9 hML hmz hset mfz9
 go_wp2_with fail
 go_region
 obtain ⟨W, hW⟩ : ∃ W, (w9.setCell ⟨gM9, co, none⟩ (.int .i64 (MD + 1))).drew = W := ⟨_, rfl⟩
 have hWd : w9.drew.setCell ⟨gM9, co, none⟩ (.int .i64 (MD + 1)) = W := hW
 rw [hWd] at HSET
 rw [hW]
 obtain ⟨S2, hS2⟩ : ∃ S2 : St, ({ S1 with made := S1.made.set co (MD + 1) } : St) = S2 := ⟨_, rfl⟩
 rw [hS2] at HSET
 have ho := HSET.out.1
 have hi2 : S2.inos = s.inos.set j { y with ents := putE y.ents NM NUM } := by rw [← hS2]; exact HI1.out
 have hri : RiseI S2.inos := by rw [hi2]; exact HG.out.riseI.set HY.out rfl
 have hbn : ∀ x ∈ S2.inos, -1000000 ≤ x.num ∧ x.num ≤ 1000000 ∧ x.num ≠ NUM := by
  intro x hx
  rw [hi2] at hx
  have key : ∀ x ∈ s.inos, -1000000 ≤ x.num ∧ x.num ≤ 1000000 ∧ x.num ≠ NUM := fun x hx => by
   obtain ⟨i, hi⟩ := List.getElem?_of_mem hx
   have := HG.out.num_range (num := x.num) (by rw [HG.out.idx hi]; omega)
   exact ⟨by omega, by omega, HF.out x hx⟩
  rcases List.mem_or_eq_of_mem_set hx with h | h
  ·exact key x h
  ·rw [h]; exact key y (List.mem_of_getElem? HY.out)
 have hT : Turns B p w9 W := (Turns.of_below (B := B) (p := p) (Cv.drewN_below (Below.refl w9.heap.size w9) 1) hB9).trans HSET.out.2
 have hBW : B ≤ W.heap.size := Nat.le_trans hB9 hT.below.size
 have hDW := HD9.out.turns HN7.out.ne hT
 have e0 := hDW.c0
 have f0 := ho.s0
 obtain ⟨AI, cI, hvI2, hokI, hII⟩ := ho.inosAt
 obtain ⟨NI, hNI⟩ : ∃ NI, S2.inos.length = NI := ⟨_, rfl⟩
 rw [hNI] at hvI2 hII hokI
 rw [hvI2] at f0
 have hNI2 : NI ≤ 1000 := by rw [← hNI, hi2, List.length_set]; have := HG.out.len; omega
 have HO := Lib.hid ho
 have HDW := Lib.hid hDW
 have HTT := Lib.hid (HT9.out.trans hT)
 have HII := Lib.hid hII
 have HRI := Lib.hid hri
 have HBN := Lib.hid hbn
 have HI2 := Lib.hid hi2
 have HS2 := Lib.hid hS2
 have HVI2 := Lib.hid hvI2
 have HNI := Lib.hid hNI
 clear hW hWd hS2 ho hi2 hri hbn hT hDW hvI2 hokI hII hNI d09 d29 s29 m09 m0f
 go_wp2_with fail
 refine (bsearchC_any S2.inos AI NI cI NUM W HII.out (by omega) HRI.out (fun x hx => ⟨(HBN.out x hx).1, (HBN.out x hx).2.1⟩) (by omega)).mono ?_
 rintro e10 w10 ⟨at_, b10, rfl, hb10, hle, hlo, hhi⟩
 have e010 := (hb10.cell (p := ⟨q, 0, none⟩) HDW.out.lt).trans e0
 have e110 := (HDW.out.below hb10).c1
 have f010 := (hb10.cell (p := ⟨p, 0, none⟩) HO.out.lt).trans f0
 have HO10 := Lib.hid (HO.out.below hb10)
 have HD10 := Lib.hid (HDW.out.below hb10)
 have HT10 := Lib.hid (HTT.out.trans (Turns.of_below (B := B) (p := p) hb10 hBW))
 have hB10 : B ≤ w10.heap.size := Nat.le_trans hBW hb10.size
 have hpi := putI_pos S2.inos at_ ⟨NUM, decide (c.kind = 1), [], txt []⟩ hle (fun k x hk hx => hlo k x hk hx) (fun k x hk hx => by
  have h1 := hhi k x hk hx
  have h2 := (HBN.out x (List.mem_of_getElem? hx)).2.2
  show NUM < x.num
  omega)
 have hat_ : at_ ≤ NI := by have := HNI.out; omega
 have HPI := Lib.hid hpi
 obtain ⟨KD, hKD⟩ : ∃ KD : Bool, (c.kind == 1) = KD := ⟨_, rfl⟩
 have hq10 := HD10.out.lt
 have hp10 := HO10.out.lt
 clear hb10 hpi hlo hhi hle e0 f0
 go_wp2_with fail
 obtain ⟨V, hV⟩ : ∃ V, w10.drew.alloc (.cells #[.int .i64 NUM, .bool KD, .slice none 0 0, .string ⟨#[]⟩] 65) = V := ⟨_, rfl⟩
 have hal : Below w10.heap.size w10 V := by rw [← hV]; exact (Cv.drewN_below (Below.refl _ _) 1).alloc (Nat.le_refl _) _
 have hbv : V.heap[w10.heap.size]? = some (.cells #[.int .i64 NUM, .bool KD, .slice none 0 0, .string ⟨#[]⟩] 65 (0, 0)) := by rw [← hV]; exact Go.heap_alloc_new w10.drew _
 have hOV := HO10.out.below hal
 have hDV := HD10.out.below hal
 have e0V := hDV.c0
 have e1V := hDV.c1
 have f0V := hOV.s0
 rw [HVI2.out] at f0V
 have fpV : V.frozen? ⟨p, 0, none⟩ = false := frozen_of_row V p 0 _ _ hOV.cell
 have hqV := hDV.lt
 have hpV := hOV.lt
 have hqp : q ≠ p := HN7.out.ne
 have hBV : B ≤ V.heap.size := Nat.le_trans hB10 hal.size
 have hzl : zs9.length = NI := by rw [← HNI.out, ← hOV.inos, List.length_map]
 have hrow : RowAt B V 65 4 (.slice AI NI cI) NI (zs9.flatMap inoV) := by
  have h := hOV.rowI
  rwa [hzl, HVI2.out] at h
 have hvb : rowBlk (.slice AI NI cI) ≠ some w10.heap.size := fun e => by
  have h := HO10.out.rowI
  rw [HVI2.out] at h
  have := (h.blk _ e).2.1
  omega
 have hone := one_ino zs9 hOV.shape
 have hnQ : some q ≠ rowBlk (.slice AI NI cI) := fun e => by
  obtain ⟨_, _, c1, h1⟩ := hrow.blk q e.symm
  exact blk_ne hDV.cell h1 (by decide) rfl
 have hnP : some p ≠ rowBlk (.slice AI NI cI) := fun e => by
  obtain ⟨_, _, c1, h1⟩ := hrow.blk p e.symm
  exact blk_ne hOV.cell h1 (by decide) rfl
 have h1x : ∀ v ∈ [Value.int .i64 NUM, .bool KD, .slice none 0 0, .string ⟨#[]⟩], v.oneCell' = true := by intro v hv; simp at hv; rcases hv with rfl | rfl | rfl | rfl <;> rfl
 obtain ⟨ys, hys⟩ : ∃ ys, zs9.take at_ ++ [((⟨NUM, KD, [], ⟨#[]⟩⟩ : Ino), Value.slice none 0 0)] ++ zs9.drop at_ = ys := ⟨_, rfl⟩
 have hkd : decide (c.kind = 1) = KD := by rw [← hKD]; by_cases h : c.kind = 1 <;> simp [h]
 have hym : ys.map Prod.fst = putI S2.inos ⟨NUM, decide (c.kind = 1), [], txt []⟩ := by
  rw [HPI.out, ← hys, List.map_append, List.map_append, List.map_take, List.map_drop, hOV.inos, hkd]
  rfl
 have hR1 : ({ S2 with inos := ys.map Prod.fst }, {}) = R := by
  rw [← HR6.out, hym, HI2.out, ← HS2.out, ← HS1.out]
  rfl
 have hsF : Sized { S2 with inos := ys.map Prod.fst } := by
  have h := HSZ1.out.2.2.1
  rw [← hR1] at h
  exact h
 have hflat : (zs9.flatMap inoV).take (at_ * 4) ++ [.int .i64 NUM, .bool KD, .slice none 0 0, .string ⟨#[]⟩] ++ (zs9.flatMap inoV).drop (at_ * 4) = ys.flatMap inoV := by
  rw [← hys, flat_take inoV 4 (fun _ => rfl), flat_drop inoV 4 (fun _ => rfl), List.flatMap_append, List.flatMap_append]
  rfl
 have hpl : ys.length = NI + 1 := by rw [← hys, List.length_append, List.length_append, List.length_take, List.length_drop, hzl]; simp; omega
 have hye : ∀ y ∈ ys, RowAt B V 131 2 y.2 y.1.ents.length (y.1.ents.flatMap enV) := by
  intro y hy
  rw [← hys] at hy
  rcases List.mem_append.1 hy with h | h
  ·rcases List.mem_append.1 h with h | h
   ·exact hOV.ents y (List.mem_of_mem_take h)
   ·have : y = ((⟨NUM, KD, [], ⟨#[]⟩⟩ : Ino), Value.slice none 0 0) := by simpa using h
    rw [this]
    exact ⟨rfl, .inl ⟨none, rfl, rfl⟩⟩
  ·exact hOV.ents y (List.mem_of_mem_drop h)
 have hya : Apart ys := by rw [← hys]; exact hOV.apart.ins at_ _ rfl
 have HYE := Lib.hid hye
 have HYA := Lib.hid hya
 have HFL := Lib.hid hflat
 have HPL := Lib.hid hpl
 have HSF := Lib.hid hsF
 have HR1 := Lib.hid hR1
 clear hys hkd hym hR1 hsF hflat hpl hye hya
 have HROW := Lib.hid hrow
 have HOV := Lib.hid hOV
 have HDV := Lib.hid hDV
 have HAL := Lib.hid hal
 have HBV := Lib.hid hbv
 have HVB := Lib.hid hvb
 have HZL := Lib.hid hzl
 have HONE := Lib.hid hone
 have H1X := Lib.hid h1x
 clear hrow hOV hDV hal hbv hvb hzl hone h1x
 refine wp_region_held2 (S := (fun w' => w'.cell? ⟨q, 0, none⟩ = some (.pointer (some ⟨p, 0, none⟩)) ∧ w'.cell? ⟨q, 1, none⟩ = some (.int .i64 c.kind) ∧ w'.cell? ⟨p, 0, none⟩ = some (.slice AI NI cI))) 24 (by kernel_rfl) (by kernel_rfl) ?_
 have hHeld := (⟨e010, e110, f010⟩ : (fun w' => w'.cell? ⟨q, 0, none⟩ = some (.pointer (some ⟨p, 0, none⟩)) ∧ w'.cell? ⟨q, 1, none⟩ = some (.int .i64 c.kind) ∧ w'.cell? ⟨p, 0, none⟩ = some (.slice AI NI cI)) w10.drew)
 intro hh
 try simp only [List.size_toArray, List.length_cons, List.length_nil, Nat.zero_add, Nat.reduceAdd, Array.replicate, List.replicate]
 refine held2_take hh (i := 0) (oi := _) (v := ?tv0) rfl (by decide) (by kernel_rfl) (by kernel_rfl) (fun _ _ _ h => h) (Or.inl ⟨by kernel_rfl, ?ty0⟩) hHeld ?tr0
 case ty0 => (intro w7 hS7; obtain ⟨s0, s1, s2⟩ := hS7; go_simp; try (with_reducible rfl))
 clear hh; intro hh
 try simp only [Act.put, List.setIfInBounds_toArray, List.set_cons_zero, List.set_cons_succ]
 refine held2_take hh (i := 1) (oi := _) (v := ?tv1) rfl (by decide) (by kernel_rfl) (by kernel_rfl) (fun _ _ _ h => h) (Or.inl ⟨by kernel_rfl, ?ty1⟩) hHeld ?tr1
 case ty1 => (intro w7 hS7; obtain ⟨s0, s1, s2⟩ := hS7; go_simp; try (with_reducible rfl))
 clear hh; intro hh
 try simp only [Act.put, List.setIfInBounds_toArray, List.set_cons_zero, List.set_cons_succ]
 refine held2_take hh (i := 2) (oi := _) (v := ?tv2) rfl (by decide) (by kernel_rfl) (by kernel_rfl) (fun _ _ _ h => h) (Or.inl ⟨by kernel_rfl, ?ty2⟩) hHeld ?tr2
 case ty2 => (intro w7 hS7; obtain ⟨s0, s1, s2⟩ := hS7; go_simp; try (with_reducible rfl))
 clear hh; intro hh
 try simp only [Act.put, List.setIfInBounds_toArray, List.set_cons_zero, List.set_cons_succ]
 refine held2_take hh (i := 3) (oi := _) (v := ?tv3) rfl (by decide) (by kernel_rfl) (by kernel_rfl) (fun _ _ _ h => h) (Or.inl ⟨by kernel_rfl, ?ty3⟩) hHeld ?tr3
 case ty3 => (intro w7 hS7; obtain ⟨s0, s1, s2⟩ := hS7; go_simp; try (with_reducible rfl))
 clear hh; intro hh
 try simp only [Act.put, List.setIfInBounds_toArray, List.set_cons_zero, List.set_cons_succ]
 refine held2_take hh (i := 4) (oi := _) (v := ?tv4) rfl (by decide) (by kernel_rfl) (by kernel_rfl) (fun _ _ _ h => h) (Or.inl ⟨by kernel_rfl, ?ty4⟩) hHeld ?tr4
 case ty4 => (intro w7 hS7; obtain ⟨s0, s1, s2⟩ := hS7; go_simp; try (with_reducible rfl))
 clear hh; intro hh
 try simp only [Act.put, List.setIfInBounds_toArray, List.set_cons_zero, List.set_cons_succ]
 refine held2_take hh (i := 5) (oi := _) (v := ?tv5) rfl (by decide) (by kernel_rfl) (by kernel_rfl) (fun _ _ _ h => h) (Or.inl ⟨by kernel_rfl, ?ty5⟩) hHeld ?tr5
 case ty5 => (intro w7 hS7; obtain ⟨s0, s1, s2⟩ := hS7; go_simp; try (with_reducible rfl))
 clear hh; intro hh
 try simp only [Act.put, List.setIfInBounds_toArray, List.set_cons_zero, List.set_cons_succ]
 refine held2_take hh (i := 6) (oi := _) (v := ?tv6) rfl (by decide) (by kernel_rfl) (by kernel_rfl) (fun _ _ _ h => h) (Or.inl ⟨by kernel_rfl, ?ty6⟩) hHeld ?tr6
 case ty6 => (intro w7 hS7; obtain ⟨s0, s1, s2⟩ := hS7; go_simp; try (with_reducible rfl))
 clear hh; intro hh
 try simp only [Act.put, List.setIfInBounds_toArray, List.set_cons_zero, List.set_cons_succ]
 refine held2_take hh (i := 7) (oi := _) (v := ?tv7) rfl (by decide) (by kernel_rfl) (by kernel_rfl) (fun _ _ _ h => h) (Or.inl ⟨by kernel_rfl, ?ty7⟩) hHeld ?tr7
 case ty7 => (intro w7 hS7; obtain ⟨s0, s1, s2⟩ := hS7; go_simp; try (with_reducible rfl))
 clear hh; intro hh
 try simp only [Act.put, List.setIfInBounds_toArray, List.set_cons_zero, List.set_cons_succ]
 refine held2_take hh (i := 8) (oi := _) (v := ?tv8) rfl (by decide) (by kernel_rfl) (by kernel_rfl) (fun _ _ _ h => h) (Or.inl ⟨by kernel_rfl, ?ty8⟩) hHeld ?tr8
 case ty8 => (intro w7 hS7; obtain ⟨s0, s1, s2⟩ := hS7; go_simp; try (with_reducible rfl))
 clear hh; intro hh
 try simp only [Act.put, List.setIfInBounds_toArray, List.set_cons_zero, List.set_cons_succ]
 refine held2_take hh (i := 9) (oi := _) (v := ?tv9) rfl (by decide) (by kernel_rfl) (by kernel_rfl) (fun _ _ _ h => h) (Or.inl ⟨by kernel_rfl, ?ty9⟩) hHeld ?tr9
 case ty9 => (intro w7 hS7; obtain ⟨s0, s1, s2⟩ := hS7; go_simp; try (with_reducible rfl))
 clear hh; intro hh
 try simp only [Act.put, List.setIfInBounds_toArray, List.set_cons_zero, List.set_cons_succ]
 refine held2_take hh (i := 10) (oi := _) (v := ?tv10) rfl (by decide) (by kernel_rfl) (by kernel_rfl) (fun _ _ _ h => h) (Or.inl ⟨by kernel_rfl, ?ty10⟩) hHeld ?tr10
 case ty10 => (intro w7 hS7; obtain ⟨s0, s1, s2⟩ := hS7; go_simp; try (with_reducible rfl))
 clear hh; intro hh
 try simp only [Act.put, List.setIfInBounds_toArray, List.set_cons_zero, List.set_cons_succ]
 refine held2_take hh (i := 11) (oi := _) (v := ?tv11) rfl (by decide) (by kernel_rfl) (by kernel_rfl) (fun _ _ _ h => h) (Or.inl ⟨by kernel_rfl, ?ty11⟩) hHeld ?tr11
 case ty11 => (intro w7 hS7; obtain ⟨s0, s1, s2⟩ := hS7; go_simp; try (with_reducible rfl))
 clear hh; intro hh
 try simp only [Act.put, List.setIfInBounds_toArray, List.set_cons_zero, List.set_cons_succ]
 refine held2_take hh (i := 12) (oi := _) (v := ?tv12) rfl (by decide) (by kernel_rfl) (by kernel_rfl) (fun _ _ _ h => h) (Or.inl ⟨by kernel_rfl, ?ty12⟩) hHeld ?tr12
 case ty12 => (intro w7 hS7; obtain ⟨s0, s1, s2⟩ := hS7; go_simp; try (with_reducible rfl))
 clear hh; intro hh
 try simp only [Act.put, List.setIfInBounds_toArray, List.set_cons_zero, List.set_cons_succ]
 refine held2_take hh (i := 13) (oi := _) (v := ?tv13) rfl (by decide) (by kernel_rfl) (by kernel_rfl) (fun _ _ _ h => h) (Or.inl ⟨by kernel_rfl, ?ty13⟩) hHeld ?tr13
 case ty13 => (intro w7 hS7; obtain ⟨s0, s1, s2⟩ := hS7; go_simp; try (with_reducible rfl))
 clear hh; intro hh
 try simp only [Act.put, List.setIfInBounds_toArray, List.set_cons_zero, List.set_cons_succ]
 refine held2_take hh (i := 14) (oi := _) (v := ?tv14) rfl (by decide) (by kernel_rfl) (by kernel_rfl) (fun _ _ _ h => h) (Or.inl ⟨by kernel_rfl, ?ty14⟩) hHeld ?tr14
 case ty14 => (intro w7 hS7; obtain ⟨s0, s1, s2⟩ := hS7; go_simp; try (with_reducible rfl))
 clear hh; intro hh
 try simp only [Act.put, List.setIfInBounds_toArray, List.set_cons_zero, List.set_cons_succ]
 refine held2_take hh (i := 15) (oi := _) (v := ?tv15) rfl (by decide) (by kernel_rfl) (by kernel_rfl) (fun _ _ _ h => h) (Or.inl ⟨by kernel_rfl, ?ty15⟩) hHeld ?tr15
 case ty15 => (intro w7 hS7; obtain ⟨s0, s1, s2⟩ := hS7; go_simp; try (with_reducible rfl))
 clear hh; intro hh
 try simp only [Act.put, List.setIfInBounds_toArray, List.set_cons_zero, List.set_cons_succ]
 refine held2_take hh (i := 16) (oi := _) (v := ?tv16) rfl (by decide) (by kernel_rfl) (by kernel_rfl) (fun _ _ _ h => h) (Or.inl ⟨by kernel_rfl, ?ty16⟩) hHeld ?tr16
 case ty16 => (intro w7 hS7; obtain ⟨s0, s1, s2⟩ := hS7; go_simp; try (with_reducible rfl))
 clear hh; intro hh
 try simp only [Act.put, List.setIfInBounds_toArray, List.set_cons_zero, List.set_cons_succ]
 refine held2_take hh (i := 17) (oi := _) (v := ?tv17) rfl (by decide) (by kernel_rfl) (by kernel_rfl) (fun _ _ _ h => h) (Or.inl ⟨by kernel_rfl, ?ty17⟩) hHeld ?tr17
 case ty17 => (intro w7 hS7; obtain ⟨s0, s1, s2⟩ := hS7; go_simp; try (with_reducible rfl))
 clear hh; intro hh
 try simp only [Act.put, List.setIfInBounds_toArray, List.set_cons_zero, List.set_cons_succ]
 refine held2_take hh (i := 18) (oi := _) (v := ?tv18) rfl (by decide) (by kernel_rfl) (by kernel_rfl) (fun _ _ _ h => h) (Or.inl ⟨by kernel_rfl, ?ty18⟩) hHeld ?tr18
 case ty18 => (intro w7 hS7; obtain ⟨s0, s1, s2⟩ := hS7; go_simp; try (with_reducible rfl))
 clear hh; intro hh
 try simp only [Act.put, List.setIfInBounds_toArray, List.set_cons_zero, List.set_cons_succ]
 refine held2_take hh (i := 19) (oi := _) (v := ?tv19) rfl (by decide) (by kernel_rfl) (by kernel_rfl) (fun _ _ _ h => h) (Or.inl ⟨by kernel_rfl, ?ty19⟩) hHeld ?tr19
 case ty19 => (intro w7 hS7; obtain ⟨s0, s1, s2⟩ := hS7; go_simp; try (with_reducible rfl))
 clear hh; intro hh
 try simp only [Act.put, List.setIfInBounds_toArray, List.set_cons_zero, List.set_cons_succ]
 refine held2_turn hh (i := 20) (oi := _) rfl (by decide) (by kernel_rfl) rfl ?_
 clear hh
 go_simp
 refine ⟨⟨e0V, e1V, f0V⟩, fun hh => ?_⟩
 try clear hHeld
 try simp only [Act.put, List.setIfInBounds_toArray, List.set_cons_zero, List.set_cons_succ]
 refine held2_turn hh (i := 21) (oi := _) rfl (by decide) (by kernel_rfl) rfl ?_
 clear hh
 go_simp
 go_at_call 135
 (refine (insI_any B NI at_ w10.heap.size (.slice AI NI cI) (zs9.flatMap inoV) [.int .i64 NUM, .bool KD, .slice none 0 0, .string ⟨#[]⟩] V HROW.out hBV hat_ (by omega) rfl HBV.out HVB.out H1X.out HONE.out).mono ?_; rintro e11 w11 ⟨v', rfl, hrow', hgr, hbl⟩; obtain ⟨A', c9, rfl, hok'⟩ := hrow'.slice; have q6 : w11.cell? ⟨q, 0, none⟩ = some (.pointer (some ⟨p, 0, none⟩)) := (World.cell?_of_block (a := ⟨q, 0, none⟩) (hgr.block q hqV hnQ)).trans e0V; have q7 : w11.cell? ⟨q, 1, none⟩ = some (.int .i64 c.kind) := (World.cell?_of_block (a := ⟨q, 1, none⟩) (hgr.block q hqV hnQ)).trans e1V; have p6 : w11.cell? ⟨p, 0, none⟩ = some (.slice AI NI cI) := (World.cell?_of_block (a := ⟨p, 0, none⟩) (hgr.block p hpV hnP)).trans f0V; have f6 : w11.frozen? ⟨p, 0, none⟩ = false := (World.frozen?_of_block (a := ⟨p, 0, none⟩) (hgr.block p hpV hnP)).trans fpV)
 refine ⟨⟨q6, q7, p6⟩, fun hh => ?_⟩
 try clear hHeld
 have hHeld : (fun w' => w'.cell? ⟨q, 0, none⟩ = some (.pointer (some ⟨p, 0, none⟩)) ∧ w'.cell? ⟨q, 1, none⟩ = some (.int .i64 c.kind) ∧ w'.cell? ⟨p, 0, none⟩ = some (.slice AI NI cI)) w11 := ⟨q6, q7, p6⟩
 try simp only [Act.put, List.setIfInBounds_toArray, List.set_cons_zero, List.set_cons_succ]
 refine held2_take hh (i := 22) (oi := _) (v := ?tv22) rfl (by decide) (by kernel_rfl) (by kernel_rfl) (fun _ _ _ h => h) (Or.inl ⟨by kernel_rfl, ?ty22⟩) hHeld ?tr22
 case ty22 => (intro w7 hS7; obtain ⟨s0, s1, s2⟩ := hS7; go_simp; try (with_reducible rfl))
 clear hh; intro hh
 try simp only [Act.put, List.setIfInBounds_toArray, List.set_cons_zero, List.set_cons_succ]
 refine held2_take hh (i := 23) (oi := _) (v := ?tv23) rfl (by decide) (by kernel_rfl) (by kernel_rfl) (fun _ _ _ h => h) (Or.inl ⟨by kernel_rfl, ?ty23⟩) hHeld ?tr23
 case ty23 => (intro w7 hS7; obtain ⟨s0, s1, s2⟩ := hS7; go_simp; try (with_reducible rfl))
 clear hh; intro hh
 try simp only [Act.put, List.setIfInBounds_toArray, List.set_cons_zero, List.set_cons_succ]
 refine held2_end (oi := _) rfl (by kernel_rfl) (by kernel_rfl) rfl ?_
 go_simp
 clear hh
 all_goals (
  rw [HFL.out] at hrow'
  rw [← HPL.out] at hrow' hbl
  have hgr2 : V.grownBy w11 (rowBlk vI) := by rw [HVI2.out]; exact hgr
  have hfin := HOV.out.setI hBV hgr2 hrow' HYE.out HYA.out HSF.out
  rw [HPL.out] at hfin
  have HFIN := Lib.hid hfin
  clear hfin hrow' hgr hgr2 hbl
  go_wp2_with fail
  go_returns
  exact HN7.out.done (by rw [← HR1.out]) rfl ((HT10.out.trans (Turns.of_below (B := B) (p := p) HAL.out hB10)).trans HFIN.out.2) ⟨_, _, _, _, by rw [← HR1.out]; exact HFIN.out.1⟩)
end Go.Proofs.YtilkhmhgjbhfnaaGreatDoor
