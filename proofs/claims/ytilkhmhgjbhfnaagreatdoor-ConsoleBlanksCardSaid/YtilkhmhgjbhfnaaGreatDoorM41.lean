/- Parts of the proof, side by side: ShOf, Sum, Hex. -/
import Derived.Test.YtilkhmhgjbhfnaaGreatDoorM40
import Derived.Test.YtilkhmhgjbhfnaaGreatDoorM24
import Derived.Test.YtilkhmhgjbhfnaaGreatDoorRows
import Derived.Test.YtilkhmhgjbhfnaaGreatDoorM09
import Derived.WalkKit
import Derived.WalkSpells
import Derived.WalkLawsBesides
import Derived.Lib.Hide
import Derived.Laws.BitsAllLaws
set_option linter.unusedVariables false
set_option linter.unusedSimpArgs false
namespace Go.Proofs.YtilkhmhgjbhfnaaGreatDoor
open Go.RowKit
def ofO (s : St) : List UInt8 := if mayV s then ofL s else []
theorem flat_le {α : Type} (f : α → List UInt8) (c : Nat) : ∀ l : List α, (∀ a ∈ l, (f a).length ≤ c) → (l.flatMap f).length ≤ l.length * c
 | [], _ => by simp
 | a :: l, h => by
  have h1 := flat_le f c l (fun x hx => h x (by simp [hx]))
  have h2 := h a (by simp)
  rw [List.flatMap_cons, List.length_append, List.length_cons, Nat.add_mul]
  omega
theorem Good.num_mem {s : St} (h : Good s) {x : Ino} (hx : x ∈ s.inos) : 1 ≤ x.num ∧ x.num ≤ 257 := by
 obtain ⟨i, hi⟩ := List.getElem?_of_mem hx
 exact h.num_at hi
theorem Good.data_mem {s : St} (h : Good s) {x : Ino} (hx : x ∈ s.inos) : x.data.size ≤ 256 := by
 by_cases hd : x.dir = true
 ·have := (h.dirs x hx hd).1; omega
 ·exact (h.files x hx (by simpa using hd)).2
theorem Good.desc_mem {s : St} (h : Good s) {d : Ds} (hd : d ∈ s.opn) : (0 ≤ d.core ∧ d.core ≤ 8) ∧ (0 ≤ d.fd ∧ d.fd ≤ 4) ∧ (1 ≤ d.num ∧ d.num ≤ 257) := by
 obtain ⟨a1, a2, a3, a4, i, x, _, a5, a6, a7⟩ := h.opens d hd
 have := h.num_at a5
 have := h.m8
 omega
def fU (s : St) (x : Ino) : List UInt8 := if !x.dir && decide (linkI s.inos x.num = 0) then lineU x else []
theorem lineU_len {x : Ino} (h : x.num ≤ 257) (hd : x.data.size ≤ 256) : (lineU x).length ≤ 600 := by
 have h3 : (decN x.num).length ≤ 3 := decN_len (by omega)
 have h5 := hexT_len x.data.data.toList
 have h6 : x.data.data.toList.length = x.data.size := Array.length_toList
 unfold lineU
 simp only [List.length_cons, List.length_append, List.length_nil]
 omega
theorem Good.fU_len {s : St} (h : Good s) {x : Ino} (hx : x ∈ s.inos) : (fU s x).length ≤ 600 := by
 unfold fU
 split
 ·exact lineU_len (h.num_mem hx).2 (h.data_mem hx)
 ·simp
theorem Good.fO_len {s : St} (h : Good s) {d : Ds} (hd : d ∈ s.opn) : (lineO d).length ≤ 600 := by
 obtain ⟨⟨_, h1⟩, ⟨_, h2⟩, ⟨_, h3⟩⟩ := h.desc_mem hd
 have e1 : (decN d.core).length ≤ 3 := decN_len (by omega)
 have e2 : (decN d.fd).length ≤ 3 := decN_len (by omega)
 have e3 : (decN d.num).length ≤ 3 := decN_len (by omega)
 unfold lineO
 simp only [List.length_cons, List.length_append, List.length_nil]
 omega
theorem Good.fM_len {s : St} (h : Good s) {m : Int} (hm : m ∈ s.made) : ((32 : UInt8) :: decN m).length ≤ 600 := by
 have e1 : (decN m).length ≤ 3 := decN_len (by have := (h.mr m hm).2; omega)
 rw [List.length_cons]
 omega
theorem take_le {α : Type} (f : α → List UInt8) (l : List α) (k : Nat) (n : Nat) (h : ∀ a ∈ l, (f a).length ≤ 600) (hn : l.length ≤ n) : ((l.take k).flatMap f).length ≤ n * 600 := by
 have h1 := flat_le f 600 (l.take k) (fun a ha => h a (List.mem_of_mem_take ha))
 have h2 : (l.take k).length * 600 ≤ n * 600 := Nat.mul_le_mul_right _ (by rw [List.length_take]; omega)
 exact Nat.le_trans h1 h2
theorem lineU_words (x : Ino) : lineU x = lineW [⟨#[117]⟩, txt (decN x.num), txt (hexT x.data.data.toList)] := by
 rw [lineW3, txt_listSh, txt_listSh]
 rfl
theorem lineO_words (d : Ds) : lineO d = lineW [⟨#[111]⟩, txt (decN d.core), txt (decN d.fd), txt (decN d.num)] := by
 rw [lineW4, txt_listSh, txt_listSh, txt_listSh]
 rfl
set_option maxRecDepth 100000 in
set_option maxHeartbeats 8000000 in
theorem shof_any (v : Value) (s : St) (w : World) (h : StAt none w v s) (hT : Tab w) :
  Calls Tryz.prog 35 #[v] w fun e w' => e = .returned (.tuple #[.string (txt (ofO s)), .int .i64 (codeO s)]) ∧ Below w.heap.size w w' := by
 obtain ⟨A, n, c, B, m, d, D, k, e, rfl⟩ : ∃ A n c B m d D k e, v = .agg #[.slice A n c, .slice B m d, .slice D k e] := by
  obtain ⟨⟨A, n, c, B, m, d, D, k, e, hv, _⟩, _⟩ := h
  exact ⟨A, n, c, B, m, d, D, k, e, hv⟩
 obtain ⟨W, hW, b0, b1, b2, hal, hlt0⟩ := box_st w A n c B m d D k e
 have HP := Lib.hid (ptr_box h hW).1
 have HS := Lib.hid (h.below hal)
 have HAL := Lib.hid hal
 have HT := Lib.hid (hT.below hal)
 obtain ⟨FO, hFO⟩ : ∃ FO, txt (filesO s) = FO := ⟨_, rfl⟩
 obtain ⟨CO, hCO⟩ : ∃ CO, codeO s = CO := ⟨_, rfl⟩
 have hfiles := shfiles_any _ s W (h.below hal) (hT.below hal)
 rw [hFO, hCO] at hfiles
 have HF := Lib.hid hfiles
 have HFO := Lib.hid hFO
 have HCO := Lib.hid hCO
 clear h hal hT hfiles hFO hCO
 go_enter Tryz.func35, Tryz.ntmps35
 go_wp2_with fail
 refine HF.out.mono ?_
 rintro e5 w5 ⟨rfl, hb5⟩
 have HB5 := Lib.hid hb5
 have HB05 := Lib.hid (Cv.next HAL.out hb5)
 have HLT : w.heap.size < w5.heap.size := Nat.lt_of_lt_of_le hlt0 hb5.size
 have d0 := (hb5.cell (p := ⟨w.heap.size, 0, none⟩) hlt0).trans b0
 have d1 := (hb5.cell (p := ⟨w.heap.size, 1, none⟩) hlt0).trans b1
 have d2 := (hb5.cell (p := ⟨w.heap.size, 2, none⟩) hlt0).trans b2
 clear hb5 b0 b1 b2
 by_cases hm : mayV s = true
 rotate_left
 ·have hm' : mayV s = false := by simpa using hm
  have hco : CO = 1400 := by rw [← HCO.out]; unfold codeO; rw [hm']; rfl
  subst hco
  have hof : ofO s = [] := by unfold ofO; rw [hm']; rfl
  have HOF := Lib.hid hof
  clear hm hm' hof
  go_wp2_with fail
  go_ret2
  exact ⟨by rw [HOF.out, HCO.out]; rfl, HB05.out⟩
 ·have hG := (good_iff s).1 hm
  have hco : CO = 0 := by rw [← HCO.out]; unfold codeO; rw [hm]; rfl
  subst hco
  have hof : ofO s = ofL s := by unfold ofO; rw [if_pos hm]
  have hfo : filesO s = filesL s := by unfold filesO; rw [if_pos hm]
  have HOF := Lib.hid hof
  have HFL := Lib.hid hfo
  have HG := Lib.hid hG
  obtain ⟨W2, hW2⟩ : ∃ W2, w5.alloc (.cells #[.pointer (some ⟨w.heap.size, 0, none⟩), .pointer none, .slice none 0 0] 112) = W2 := ⟨_, rfl⟩
  obtain ⟨hbl2, hal2⟩ := freshS _ _ _ hW2
  have hS5 := HS.out.below HB5.out
  obtain ⟨hI, hD, hM⟩ : InosAt none w5 A n s.inos ∧ DescsAt none w5 B m s.opn ∧ IntsAt none w5 D k s.made := by
   obtain ⟨⟨A', n', c', B', m', d', D', k', e', hv, h1, h2, h3, _⟩, _⟩ := hS5
   cases hv
   exact ⟨h1, h2, h3⟩
  have hT5 := HT.out.below HB5.out
  have hn : n ≤ 1000 := by have := hI.1; have := hG.len; omega
  have hmm : m ≤ 1000 := by have := hD.1; have := hG.opn_len; omega
  have hk : k ≤ 1000 := by have := hM.1; have := hG.m8; omega
  have HI := Lib.hid hI
  have HD := Lib.hid hD
  have HM := Lib.hid hM
  have HS5 := Lib.hid hS5
  have hit : ∀ (z : Int) W, 0 ≤ z → z ≤ 1000 → Below w5.heap.size w5 W → Calls Tryz.prog 32 #[.int .i64 z] W fun e w' => e = .returned (.string (txt (decN z))) ∧ Below W.heap.size W w' := fun z W h0 h1 hW => itoa_any z h0 (by omega) W (hT5.below hW)
  have HIT := Lib.hid hit
  have x0 := (hal2.cell (p := ⟨w.heap.size, 0, none⟩) HLT).trans d0
  have HBL2 := Lib.hid hbl2
  have HAL2 := Lib.hid hal2
  clear hm hG hof hfo hbl2 hS5 hI hD hM hT5 hit hal2
  go_wp2_with fail
  go_loopw [26] (fun v wr => ∃ q : Nat, v = .int .i64 q ∧ q ≤ n ∧ BldS w5.heap.size w5.heap.size (.pointer (some ⟨w.heap.size, 0, none⟩)) ((s.inos.take q).flatMap (fU s)) wr ∧ Below w5.heap.size w5 wr) (fun v _ => n - (intOf v).toNat)
  case atStart => exact ⟨0, rfl, by omega, HBL2.out, HAL2.out⟩
  case round =>
   obtain ⟨q, rfl, hq, hbl, hbr⟩ := hrel
   have HBL := Lib.hid hbl
   have HBR := Lib.hid hbr
   have hbl0 : w5.heap.size < wr.heap.size := hbl.lt
   have y0 := (hbr.cell (p := ⟨w.heap.size, 0, none⟩) HLT).trans d0
   have y1 := (hbr.cell (p := ⟨w.heap.size, 1, none⟩) HLT).trans d1
   have y2 := (hbr.cell (p := ⟨w.heap.size, 2, none⟩) HLT).trans d2
   clear hbl x0
   by_cases hlt : q < n
   ·have hIr := HI.out.below hbr
    obtain ⟨g, off, x, E, mx, dx, rfl, hg, hx, hd, hmem, c0, c1, c2, hok, hE, c3⟩ := hIr.get q hlt
    obtain ⟨V2, hV2, v0, v1, v2, v3, hal4, hlt4⟩ := box_ino wr x.num x.dir E mx dx x.data
    have hVr : Below w5.heap.size w5 V2 := hbr.trans (hal4.mono hbr.size)
    have hxm := HG.out.num_mem hmem
    have hxd := HG.out.data_mem hmem
    have htk := flat_takeSh (fU s) s.inos q x hx
    have hblV := HBL.out.keep hal4
    have z0 := (hVr.cell (p := ⟨w.heap.size, 0, none⟩) HLT).trans d0
    have z1 := (hVr.cell (p := ⟨w.heap.size, 1, none⟩) HLT).trans d1
    have z2 := (hVr.cell (p := ⟨w.heap.size, 2, none⟩) HLT).trans d2
    have HVR := Lib.hid hVr
    have HBLV := Lib.hid hblV
    have HTK := Lib.hid htk
    have hlenq := take_le (fU s) s.inos q 1000 (fun a ha => HG.out.fU_len ha) (by have := HG.out.len; omega)
    have HLQ := Lib.hid hlenq
    have k0 : (0 : Int) ≤ (q : Int) := by omega
    have hH5 : w.heap.size < V2.heap.size := Nat.lt_of_lt_of_le HLT hVr.size
    clear hIr hx hd hmem hok hE hal4 hVr htk hblV hlenq hbr
    cases hdir : x.dir
    ·rw [hdir] at c1 v1 hV2
     obtain ⟨LK, hLK⟩ : ∃ LK : Nat, linkI s.inos x.num = LK := ⟨_, rfl⟩
     have hlinks := mlinks_any _ s x.num V2 (HS5.out.below HVR.out)
     rw [hLK] at hlinks
     have HLINKS := Lib.hid hlinks
     have HLK := Lib.hid hLK
     have HDIR := Lib.hid hdir
     clear hlinks hLK hdir
     have hlnU : LK = 0 → ∀ w1 W, Below V2.heap.size V2 w1 → w1.alloc (.cells #[.string ⟨#[117]⟩, .string (txt (decN x.num)), .string (txt (hexT x.data.data.toList))] 9) = W → Calls Tryz.prog 57 #[.pointer (some ⟨w5.heap.size, 0, none⟩), .slice (some ⟨w1.heap.size, 0, none⟩) 3 3] W fun e w' => e = .returned (.tuple #[]) ∧ BldS w5.heap.size w5.heap.size (.pointer (some ⟨w.heap.size, 0, none⟩)) ((s.inos.take (q + 1)).flatMap (fU s)) w' ∧ Below w5.heap.size w5 w' ∧ w'.cell? ⟨wr.heap.size, 0, none⟩ = some (.int .i64 x.num) ∧ w'.cell? ⟨wr.heap.size, 3, none⟩ = some (.string x.data) := fun h0 w1 W h1 hW => by
      have hfu : fU s x = lineU x := by
       unfold fU
       rw [HDIR.out, HLK.out, h0]
       rfl
      have hb1 : w5.heap.size ≤ w1.heap.size := Nat.le_trans HVR.out.size h1.size
      refine (shline_new w5.heap.size w5.heap.size _ _ [⟨#[117]⟩, txt (decN x.num), txt (hexT x.data.data.toList)] w1 W 3 rfl (HBLV.out.keep h1) hW (by simp) hb1 (by
       have h3 := lineU_len hxm.2 hxd
       rw [lineU_words] at h3
       have h4 := HLQ.out
       omega)).mono ?_
      rintro e w' ⟨rfl, h3, h4⟩
      rw [HTK.out, hfu, lineU_words]
      have hblk : V2.heap[wr.heap.size]? = some (.cells #[.int .i64 x.num, .bool false, .slice E mx dx, .string x.data] 65 (0, 0)) := by rw [← hV2]; exact heap_alloc_new wr _
      have hblk2 := h4.keep _ _ ((h1.block wr.heap.size hlt4).trans hblk) (by omega) (fun cs fr he => by injection he with _ he _; exact absurd he (by decide))
      exact ⟨rfl, h3, (HVR.out.trans (h1.mono HVR.out.size)).trans h4.below, by rw [Lib.cell_of_heap hblk2]; rfl, by rw [Lib.cell_of_heap hblk2]; rfl⟩
     have HLNU := Lib.hid hlnU
     have HDAT := Lib.hid hxd
     have HNUM := Lib.hid hxm
     have HV0 := Lib.hid (And.intro v0 v3)
     clear hlnU hxd hxm
     go_wp2_with fail
     refine HLINKS.out.mono ?_
     rintro e6 w6 ⟨rfl, hb6⟩
     have u0 := (hb6.cell (p := ⟨wr.heap.size, 0, none⟩) hlt4).trans HV0.out.1
     have u3 := (hb6.cell (p := ⟨wr.heap.size, 3, none⟩) hlt4).trans HV0.out.2
     have HB6 := Lib.hid hb6
     clear hb6 v0 v1 v2 v3 z0 z1 z2 y0 y1 y2 c0 c1 c2 c3
     by_cases hz : LK = 0
     ·have HZ := Lib.hid hz
      subst hz
      go_wp2_with fail
      go_region_held3 (fun w' => w'.cell? ⟨wr.heap.size, 0, none⟩ = some (.int .i64 x.num) ∧ w'.cell? ⟨wr.heap.size, 3, none⟩ = some (.string x.data))
       (first
        | go_keep
        | (go_split_ands; refine ⟨?_, ?_⟩ <;> exact cell_later hb7 (by assumption))
        | (go_split_ands; refine ⟨?_, ?_⟩ <;> exact cell_later hb8 (by assumption))
        | (go_split_ands; refine ⟨?_, ?_⟩ <;> go_keep)
        | exact ⟨s9, t9⟩)
       (first
        | (go_at_call 32; refine (HIT.out x.num _ (by have := HNUM.out; omega) (by have := HNUM.out; omega) ((HVR.out.trans (HB6.out.mono HVR.out.size)).trans ((Below.drew (Below.refl _ _)).mono (HVR.out.trans (HB6.out.mono HVR.out.size)).size))).mono ?_; rintro e7 w7 ⟨rfl, hb7⟩)
        | (go_at_call 58; refine (hexsh_any x.data w7 (by have := HDAT.out; omega)).mono ?_; rintro e8 w8 ⟨rfl, hb8⟩; have hb9 : Below V2.heap.size V2 w8 := (HB6.out.trans (((Below.drew (Below.refl w6.heap.size w6)).trans hb7).mono HB6.out.size)).trans (hb8.mono (Nat.le_trans HB6.out.size hb7.size)))
        | (go_at_call 57; refine (HLNU.out HZ.out w8 _ hb9 rfl).mono ?_; rintro e9 w9 ⟨rfl, hl9, hw9, s9, t9⟩))
      have HL9 := Lib.hid hl9
      have HW9 := Lib.hid hw9
      clear hl9 hw9 s9 t9 hb7 hb8 hb9 u0 u3
      go_wp2_with fail
      go_roundw
      case rel => exact ⟨q + 1, by go_num, by omega, HL9.out, HW9.out⟩
      case measure => simp [intOf]; omega
     ·have hq0 : ((LK : Int) == 0) = false := by rw [beq_eq_false_iff_ne]; omega
      have hfu : fU s x = [] := by
       unfold fU
       rw [HDIR.out, HLK.out, decide_eq_false hz]
       rfl
      have hblq : BldS w5.heap.size w5.heap.size (.pointer (some ⟨w.heap.size, 0, none⟩)) ((s.inos.take (q + 1)).flatMap (fU s)) w6 := by
       rw [HTK.out, hfu, List.append_nil]
       exact HBLV.out.keep HB6.out
      have HBQ := Lib.hid hblq
      have HB7 := Lib.hid (HVR.out.trans (HB6.out.mono HVR.out.size))
      clear hfu hblq hz
      go_wp2_with fail
      go_roundw
      case rel => exact ⟨q + 1, by go_num, by omega, HBQ.out, HB7.out⟩
      case measure => simp [intOf]; omega
    ·rw [hdir] at c1 v1 hV2
     have hfu : fU s x = [] := by
      unfold fU
      rw [hdir]
      rfl
     have hblq : BldS w5.heap.size w5.heap.size (.pointer (some ⟨w.heap.size, 0, none⟩)) ((s.inos.take (q + 1)).flatMap (fU s)) V2 := by
      rw [HTK.out, hfu, List.append_nil]
      exact HBLV.out
     have HBQ := Lib.hid hblq
     clear hfu hblq
     go_wp2_with fail
     go_roundw
     case rel => exact ⟨q + 1, by go_num, by omega, HBQ.out, HVR.out⟩
     case measure => simp [intOf]; omega
   ·have hall : s.inos.take q = s.inos := List.take_of_length_le (by have := HI.out.1; omega)
    have hbl := HBL.out
    rw [hall] at hbl
    have hulen := take_le (fU s) s.inos s.inos.length 257 (fun a ha => HG.out.fU_len ha) HG.out.len
    rw [List.take_length] at hulen
    obtain ⟨UL, hUL⟩ : ∃ UL, s.inos.flatMap (fU s) = UL := ⟨_, rfl⟩
    rw [hUL] at hbl hulen
    have HBLA := Lib.hid hbl
    have HULN := Lib.hid hulen
    have HUL := Lib.hid hUL
    clear hall hbl hulen hUL hbr y0
    go_wp2_with fail
    go_loopw [53] (fun v wr => ∃ q : Nat, v = .int .i64 q ∧ q ≤ m ∧ BldS w5.heap.size w5.heap.size (.pointer (some ⟨w.heap.size, 0, none⟩)) (UL ++ (s.opn.take q).flatMap lineO) wr ∧ Below w5.heap.size w5 wr) (fun v _ => m - (intOf v).toNat)
    case atStart => exact ⟨0, rfl, by omega, by rw [List.take_zero, List.flatMap_nil, List.append_nil]; exact HBLA.out, HBR.out⟩
    case round =>
     obtain ⟨j, rfl, hj, hbl, hbr⟩ := hrel
     have HBL := Lib.hid hbl
     have HBR := Lib.hid hbr
     have hbl0 : w5.heap.size < wr.heap.size := hbl.lt
     have y2 := (hbr.cell (p := ⟨w.heap.size, 2, none⟩) HLT).trans d2
     clear hbl
     by_cases hlt2 : j < m
     ·have hDr := HD.out.below hbr
      obtain ⟨g2, off2, y, rfl, hg2, hy, hd, hmem, c0, c1, c2⟩ := hDr.get j hlt2
      obtain ⟨V2, hV2, v0, v1, v2, hal4, hlt4⟩ := box_ds wr y.core y.fd y.num
      have hVr : Below w5.heap.size w5 V2 := hbr.trans (hal4.mono hbr.size)
      have hdm := HG.out.desc_mem hmem
      have htk := flat_takeSh lineO s.opn j y hy
      have hblV := HBL.out.keep hal4
      have hlenq := take_le lineO s.opn j 32 (fun a ha => HG.out.fO_len ha) HG.out.opn_len
      have hol := HG.out.fO_len hmem
      have HVR := Lib.hid hVr
      have HBLV := Lib.hid hblV
      have hitC : ∀ W, Below V2.heap.size V2 W → Calls Tryz.prog 32 #[.int .i64 y.core] W fun e w' => e = .returned (.string (txt (decN y.core))) ∧ Below W.heap.size W w' := fun W hW => HIT.out y.core W (by omega) (by omega) (HVR.out.trans (hW.mono HVR.out.size))
      have hitF : ∀ W, Below V2.heap.size V2 W → Calls Tryz.prog 32 #[.int .i64 y.fd] W fun e w' => e = .returned (.string (txt (decN y.fd))) ∧ Below W.heap.size W w' := fun W hW => HIT.out y.fd W (by omega) (by omega) (HVR.out.trans (hW.mono HVR.out.size))
      have hitN : ∀ W, Below V2.heap.size V2 W → Calls Tryz.prog 32 #[.int .i64 y.num] W fun e w' => e = .returned (.string (txt (decN y.num))) ∧ Below W.heap.size W w' := fun W hW => HIT.out y.num W (by omega) (by omega) (HVR.out.trans (hW.mono HVR.out.size))
      have hln : ∀ w1 W, Below V2.heap.size V2 w1 → w1.alloc (.cells #[.string ⟨#[111]⟩, .string (txt (decN y.core)), .string (txt (decN y.fd)), .string (txt (decN y.num))] 9) = W → Calls Tryz.prog 57 #[.pointer (some ⟨w5.heap.size, 0, none⟩), .slice (some ⟨w1.heap.size, 0, none⟩) 4 4] W fun e w' => e = .returned (.tuple #[]) ∧ BldS w5.heap.size w5.heap.size (.pointer (some ⟨w.heap.size, 0, none⟩)) (UL ++ (s.opn.take (j + 1)).flatMap lineO) w' ∧ Below w5.heap.size w5 w' ∧ w'.cell? ⟨wr.heap.size, 0, none⟩ = some (.int .i64 y.core) ∧ w'.cell? ⟨wr.heap.size, 1, none⟩ = some (.int .i64 y.fd) ∧ w'.cell? ⟨wr.heap.size, 2, none⟩ = some (.int .i64 y.num) := fun w1 W h1 hW => by
       have hb1 : w5.heap.size ≤ w1.heap.size := Nat.le_trans HVR.out.size h1.size
       have h4 := HULN.out
       refine (shline_new w5.heap.size w5.heap.size _ _ [⟨#[111]⟩, txt (decN y.core), txt (decN y.fd), txt (decN y.num)] w1 W 4 rfl (HBLV.out.keep h1) hW (by simp) hb1 (by
        rw [lineO_words] at hol
        rw [List.length_append]
        omega)).mono ?_
       rintro e w' ⟨rfl, h3, h4⟩
       rw [htk, ← List.append_assoc, lineO_words]
       have hblk : V2.heap[wr.heap.size]? = some (.cells #[.int .i64 y.core, .int .i64 y.fd, .int .i64 y.num] 97 (0, 0)) := by rw [← hV2]; exact heap_alloc_new wr _
       have hblk2 := h4.keep _ _ ((h1.block wr.heap.size hlt4).trans hblk) (by omega) (fun cs fr he => by injection he with _ he _; exact absurd he (by decide))
       exact ⟨rfl, h3, (HVR.out.trans (h1.mono HVR.out.size)).trans h4.below, by rw [Lib.cell_of_heap hblk2]; rfl, by rw [Lib.cell_of_heap hblk2]; rfl, by rw [Lib.cell_of_heap hblk2]; rfl⟩
      have HITC := Lib.hid hitC
      have HITF := Lib.hid hitF
      have HITN := Lib.hid hitN
      have HLNO := Lib.hid hln
      have k0 : (0 : Int) ≤ (j : Int) := by omega
      clear hDr hy hd hmem hal4 hVr htk hblV hlenq hbr hitC hitF hitN hln hol hdm y2
      go_wp2_with fail
      go_region_held3 (fun w' => w'.cell? ⟨wr.heap.size, 0, none⟩ = some (.int .i64 y.core) ∧ w'.cell? ⟨wr.heap.size, 1, none⟩ = some (.int .i64 y.fd) ∧ w'.cell? ⟨wr.heap.size, 2, none⟩ = some (.int .i64 y.num))
       (first
        | go_keep
        | (go_split_ands; refine ⟨?_, ?_, ?_⟩ <;> exact cell_later hb7 (by assumption))
        | (go_split_ands; refine ⟨?_, ?_, ?_⟩ <;> exact cell_later hb8 (by assumption))
        | (go_split_ands; refine ⟨?_, ?_, ?_⟩ <;> exact cell_later hb9 (by assumption))
        | (go_split_ands; refine ⟨?_, ?_, ?_⟩ <;> go_keep)
        | exact ⟨s9, t9, r9⟩)
       (first
        | (go_at_call 32; refine (HITC.out _ (Below.drew (Below.refl _ _))).mono ?_; rintro e7 w7 ⟨rfl, hb7⟩; have hb7V : Below V2.heap.size V2 w7 := (Below.drew (Below.refl _ _)).trans hb7)
        | (go_at_call 32; refine (HITF.out w7 hb7V).mono ?_; rintro e8 w8 ⟨rfl, hb8⟩; have hb8V : Below V2.heap.size V2 w8 := hb7V.trans (hb8.mono hb7V.size))
        | (go_at_call 32; refine (HITN.out w8 hb8V).mono ?_; rintro e9 w9 ⟨rfl, hb9⟩; have hb9V : Below V2.heap.size V2 w9 := hb8V.trans (hb9.mono hb8V.size))
        | (go_at_call 57; refine (HLNO.out w9 _ hb9V rfl).mono ?_; rintro e10 w10 ⟨rfl, hl10, hw10, s9, t9, r9⟩))
      have HL9 := Lib.hid hl10
      have HW9 := Lib.hid hw10
      clear hl10 hw10 s9 t9 r9 hb7 hb8 hb9 hb7V hb8V hb9V v0 v1 v2
      go_wp2_with fail
      go_roundw
      case rel => exact ⟨j + 1, by go_num, by omega, HL9.out, HW9.out⟩
      case measure => simp [intOf]; omega
     ·have hall : s.opn.take j = s.opn := List.take_of_length_le (by have := HD.out.1; omega)
      have hbl := HBL.out
      rw [hall] at hbl
      have holen := take_le lineO s.opn s.opn.length 32 (fun a ha => HG.out.fO_len ha) HG.out.opn_len
      rw [List.take_length] at holen
      obtain ⟨OL, hOL⟩ : ∃ OL, s.opn.flatMap lineO = OL := ⟨_, rfl⟩
      rw [hOL] at hbl holen
      have HOLN := Lib.hid holen
      have HOL := Lib.hid hOL
      have hwb : Calls Tryz.prog 59 #[.pointer (some ⟨w5.heap.size, 1, none⟩), .int .u8 109] wr fun e w' => (∃ v, e = .returned v) ∧ BldS w5.heap.size w5.heap.size (.pointer (some ⟨w.heap.size, 0, none⟩)) (UL ++ OL ++ [109]) w' ∧ Below w5.heap.size w5 w' := by
       refine (writebyte_anyS w5.heap.size w5.heap.size _ (UL ++ OL) 109 109 wr rfl hbl (by
        have := HULN.out
        rw [List.length_append]
        omega) hbr.size).mono ?_
       rintro e w' ⟨rfl, h3, h4⟩
       exact ⟨⟨_, rfl⟩, h3, hbr.trans h4.below⟩
      have HWB := Lib.hid hwb
      clear hall hbl holen hOL hwb hbr
      go_wp2_with fail
      refine HWB.out.mono ?_
      rintro e6 w6 ⟨⟨v6, rfl⟩, hl6, hb6⟩
      have y2' := (hb6.cell (p := ⟨w.heap.size, 2, none⟩) HLT).trans d2
      have HL6 := Lib.hid hl6
      have HB6 := Lib.hid hb6
      clear hl6 hb6 y2
      go_wp2_with fail
      go_loopw [77] (fun v wr => ∃ q : Nat, v = .int .i64 q ∧ q ≤ k ∧ BldS w5.heap.size w5.heap.size (.pointer (some ⟨w.heap.size, 0, none⟩)) ((UL ++ OL ++ [109]) ++ madeSh (s.made.take q)) wr ∧ Below w5.heap.size w5 wr) (fun v _ => k - (intOf v).toNat)
      case atStart => exact ⟨0, rfl, by omega, by rw [List.take_zero]; show BldS _ _ _ ((UL ++ OL ++ [109]) ++ []) _; rw [List.append_nil]; exact HL6.out, HB6.out⟩
      case round =>
       obtain ⟨j, rfl, hj, hbl, hbr⟩ := hrel
       have HBL := Lib.hid hbl
       have HBR := Lib.hid hbr
       have hbl0 : w5.heap.size < wr.heap.size := hbl.lt
       clear hbl y2'
       by_cases hlt3 : j < k
       ·have hMr := HM.out.below hbr
        obtain ⟨g3, off3, rfl, hg3, hcm⟩ := hMr.2 (by omega)
        have hjl : j < s.made.length := by have := hMr.1; omega
        obtain ⟨z, hz⟩ : ∃ z, s.made[j] = z := ⟨_, rfl⟩
        have hz2 : s.made[j]? = some z := by rw [List.getElem?_eq_getElem hjl, hz]
        have cz := hcm.2 j z hz2
        have hzr := HG.out.mr z (List.mem_of_getElem? hz2)
        have htk := flat_takeSh (fun m : Int => (32 : UInt8) :: decN m) s.made j z hz2
        obtain ⟨DZ, hDZ⟩ : ∃ DZ, txt (decN z) = DZ := ⟨_, rfl⟩
        have hdl : DZ.data.toList = decN z := by rw [← hDZ, txt_listSh]
        have hds : DZ.size ≤ 3 := by
         have h1 : DZ.data.toList.length = DZ.size := Array.length_toList
         have h2 : (decN z).length ≤ 3 := decN_len (by omega)
         rw [hdl] at h1
         omega
        have hlenq := take_le (fun m : Int => (32 : UInt8) :: decN m) s.made j 8 (fun a ha => HG.out.fM_len ha) HG.out.m8
        have hitz : ∀ W, Below wr.heap.size wr W → Calls Tryz.prog 32 #[.int .i64 z] W fun e w' => e = .returned (.string DZ) ∧ Below W.heap.size W w' := fun W hW => by
         rw [← hDZ]
         exact HIT.out z W (by omega) (by omega) (HBR.out.trans (hW.mono HBR.out.size))
        have hws : ∀ w1, Below wr.heap.size wr w1 → Calls Tryz.prog 17 #[.pointer (some ⟨w5.heap.size, 1, none⟩), .string ((⟨#[32]⟩ : ByteArray) ++ DZ)] w1 fun e w' => (∃ v, e = .returned v) ∧ BldS w5.heap.size w5.heap.size (.pointer (some ⟨w.heap.size, 0, none⟩)) ((UL ++ OL ++ [109]) ++ madeSh (s.made.take (j + 1))) w' ∧ Below w5.heap.size w5 w' := fun w1 h1 => by
         obtain ⟨S, hS⟩ : ∃ S : ByteArray, (⟨#[32]⟩ : ByteArray) ++ DZ = S := ⟨_, rfl⟩
         have hsd : S.data.toList = 32 :: decN z := by rw [← hS, ← hdl]; simp
         have hsl : S.data.toList.length = S.size := Array.length_toList
         have h5 := HULN.out
         have h6 := HOLN.out
         have h7 : (madeSh (s.made.take j)).length ≤ 8 * 600 := hlenq
         have hs5 : ((UL ++ OL ++ [109]) ++ madeSh (s.made.take j)).length + S.size ≤ 140737488355328 := by
          have h2 : (decN z).length ≤ 3 := decN_len (by omega)
          rw [hsd, List.length_cons] at hsl
          simp only [List.length_append, List.length_cons, List.length_nil]
          omega
         rw [hS]
         refine (writestring_anyS w5.heap.size w5.heap.size _ _ S w1 (HBL.out.keep h1) hs5 (Nat.le_trans HBR.out.size h1.size)).mono ?_
         rintro e3 w3 ⟨rfl, hbl3, hw3⟩
         refine ⟨⟨_, rfl⟩, ?_, (HBR.out.trans (h1.mono HBR.out.size)).trans hw3.below⟩
         have h8 : madeSh (s.made.take (j + 1)) = madeSh (s.made.take j) ++ S.data.toList := by rw [hsd]; exact htk
         rw [h8, ← List.append_assoc]
         exact hbl3
        have HITZ := Lib.hid hitz
        have HWS := Lib.hid hws
        have k0 : (0 : Int) ≤ (j : Int) := by omega
        clear hMr hcm hz hz2 hzr htk hDZ hdl hlenq hitz hws hbr hjl
        go_wp2_with fail
        go_region_with (first
         | (go_at_call 32; refine (HITZ.out _ (Below.drew (Below.refl _ _))).mono ?_; rintro e7 w7 ⟨rfl, hb7⟩; have hb7V : Below wr.heap.size wr w7 := (Below.drew (Below.refl _ _)).trans hb7)
         | (go_at_call 17; refine (HWS.out w7 hb7V).mono ?_; rintro e8 w8 ⟨⟨v8, rfl⟩, hl8, hb8⟩))
        have HL8 := Lib.hid hl8
        have HB8 := Lib.hid hb8
        clear hl8 hb8 hb7 hb7V
        go_wp2_with fail
        go_roundw
        case rel => exact ⟨j + 1, by go_num, by omega, HL8.out, HB8.out⟩
        case measure => simp [intOf]; omega
       ·have hall : s.made.take j = s.made := List.take_of_length_le (by have := HM.out.1; omega)
        have hbl := HBL.out
        rw [hall] at hbl
        have hmlen := take_le (fun m : Int => (32 : UInt8) :: decN m) s.made s.made.length 8 (fun a ha => HG.out.fM_len ha) HG.out.m8
        rw [List.take_length] at hmlen
        have hml2 : (madeSh s.made).length ≤ 8 * 600 := hmlen
        obtain ⟨RL, hRL⟩ : ∃ RL, (UL ++ OL ++ [109]) ++ madeSh s.made = RL := ⟨_, rfl⟩
        have hrlen : RL.length ≤ 1000000 := by
         have h5 := HULN.out
         have h6 := HOLN.out
         rw [← hRL]
         simp only [List.length_append, List.length_cons, List.length_nil]
         omega
        have hrne : RL ≠ [] := by rw [← hRL]; simp
        have hrest : RL = restL s := by
         rw [← hRL, ← HUL.out, ← HOL.out]
         unfold restL opnL
         rw [List.append_assoc, List.append_assoc]
         rfl
        have hfos : FO.size ≤ 17179869184 := by
         have h1 : FO.data.toList.length = FO.size := Array.length_toList
         rw [← HFO.out, HFL.out, txt_listSh] at h1
         have h2 := HG.out.files_len
         rw [← HFO.out, HFL.out]
         omega
        rw [hRL] at hbl
        have HBL2 := Lib.hid hbl
        have HRNE := Lib.hid hrne
        have HREST := Lib.hid hrest
        clear hall hbl hmlen hml2 hRL hrne hrest hbr
        go_wp2_with fail
        refine (string_anyS _ _ _ _ _ HBL2.out HRNE.out).mono ?_
        rintro e7 w7 ⟨rfl, hl7, hw7⟩
        have hb7 : Below w5.heap.size w5 w7 := HBR.out.trans hw7.below
        have HB7 := Lib.hid hb7
        clear hl7 hw7 hb7
        go_wp2_with fail
        go_ret2
        refine ⟨?_, HB05.out.trans (HB7.out.mono HB05.out.size)⟩
        rw [HCO.out, HOF.out]
        have hfin : ((FO ++ (⟨RL.toArray⟩ : ByteArray)) ++ ⟨#[10]⟩) = txt (ofL s) := by
         rw [← HFO.out, HFL.out, HREST.out]
         unfold txt ofL
         have e1 := cat_list (filesL s) (restL s)
         have e2 := cat_list (filesL s ++ restL s) [10]
         rw [e1, ← List.append_assoc]
         exact e2
        rw [← hfin]
        rfl
theorem take_snoc (s : ByteArray) (k : Nat) (h : k < s.size) : s.data.toList.take (k + 1) = s.data.toList.take k ++ [s[k]] := by
 rw [List.take_succ_eq_append_getElem (by simpa using h)]; rfl
theorem ret_int {k : IntKind} {a b : Int} (h : a = b) : Ending.returned (.int k a) = .returned (.int k b) := by rw [h]
theorem val_int {k : IntKind} {a b : Int} (h : a = b) : Value.int k a = .int k b := by rw [h]
theorem wrap_u64_nat (n : Nat) (h : n < 18446744073709551616) : IntKind.u64.wrap (n : Int) = (n : Int) := by rw [IntKind.wrap_u64]; omega
theorem hM_lit : hM = 18446744073709551616 := by decide +kernel
theorem hP_lit : hP = 1099511628211 := by decide +kernel
theorem step_val (h : Nat) (hh : h < hM) (b : UInt8) :
  IntKind.u64.wrap (bits .xor .u64 (h : Int) (IntKind.u64.wrap (b.toNat : Int)) * 1099511628211) = ((stepN h b : Nat) : Int) := by
 have hb := b.toNat_lt
 have hx := xor_lt hh b
 rw [hM_lit] at hh hx
 rw [wrap_u64_nat _ (by omega), u64_xor_nat _ _ hh (by omega)]
 unfold stepN
 rw [hM_lit, hP_lit, IntKind.wrap_u64]
 generalize h ^^^ b.toNat = x at *
 omega
theorem first_val : (14695981039346656037 : Int) = ((sumN [] : Nat) : Int) := by
 rw [sumN_nil]; decide +kernel
set_option maxHeartbeats 400000 in
theorem sum_any (s : ByteArray) (w : World) (hs : s.size ≤ maxLen) :
  Calls Tryz.prog 37 #[.string s] w fun e w' => e = .returned (.int .u64 ((sumN s.data.toList : Nat) : Int)) ∧ w = w' := by
 unfold maxLen at hs
 go_enter Tryz.func37, Tryz.ntmps37
 go_wp2
 go_loop [3, 7] (fun h i => ∃ k : Nat, k ≤ s.size ∧ i = .int .i64 k ∧ h = .int .u64 ((sumN (s.data.toList.take k) : Nat) : Int)) (fun _ i => s.size - (intOf i).toNat)
 case atStart => exact ⟨0, Nat.zero_le _, rfl, val_int first_val⟩
 case round =>
  obtain ⟨k, hk, rfl, rfl⟩ := hrel
  by_cases hlt : k < s.size
  ·go_wp2
   go_round
   case rel => exact ⟨k + 1, by omega, by go_num, by rw [take_snoc s k hlt, sumN_snoc]; exact val_int (step_val _ (sumN_lt _) _)⟩
   case measure => simp [intOf]; omega
  ·go_wp2
   go_ret
   exact ⟨ret_int (by rw [List.take_of_length_le (by simp; omega)]), rfl⟩
def hexCells (x k : Nat) : Array Value := ((List.range 16).map fun j => if j < k then Value.int .u8 ((hexDigit x j).toNat : Int) else .int .u8 0).toArray
theorem hexCells_at (x k : Nat) (hk : k < 16) : (hexCells x k)[k]? = some (.int .u8 0) := by
 simp [hexCells, List.getElem?_map, List.getElem?_range hk]
theorem hexCells_set (x k : Nat) (hk : k < 16) : (hexCells x k).setIfInBounds k (.int .u8 ((hexDigit x k).toNat : Int)) = hexCells x (k + 1) := by
 apply Array.ext (by simp [hexCells])
 intro i h1 h2
 have hi : i < 16 := by simpa [hexCells] using h2
 simp only [hexCells, Array.getElem_setIfInBounds, List.getElem_toArray, List.getElem_map, List.getElem_range]
 by_cases e : k = i
 ·subst e; simp
 ·simp [e]
  by_cases h : i < k
  ·simp [h, show i < k + 1 by omega]
  ·simp [h, show ¬ i < k + 1 by omega]
theorem hex_and (x k : Nat) (hx : x < 18446744073709551616) (hk : k < 16) :
  bits .and .u64 ((x : Int) / 2 ^ (60 - 4 * k)) 15 = ((x / 16 ^ (15 - k) % 16 : Nat) : Int) := by
 have e : (2 : Nat) ^ (60 - 4 * k) = 16 ^ (15 - k) := by
  rw [show (16 : Nat) = 2 ^ 4 from rfl, ← Nat.pow_mul]; congr 1; omega
 have e2 : ((x : Int) / 2 ^ (60 - 4 * k)) = ((x / 16 ^ (15 - k) : Nat) : Int) := by
  rw [← e]; simp
 rw [e2]
 have := u64_and_nat (x / 16 ^ (15 - k)) 15 (Nat.lt_of_le_of_lt (Nat.div_le_self _ _) hx) (by omega)
 rw [show ((15 : Nat) : Int) = 15 from rfl] at this
 rw [this, nat_mask4]
theorem hex_digit (x k d : Nat) (hd : x / 16 ^ (15 - k) % 16 = d) (h : d < 16) :
  ((ByteArray.mk #[48, 49, 50, 51, 52, 53, 54, 55, 56, 57, 97, 98, 99, 100, 101, 102])[d]'h).toNat = (hexDigit x k).toNat := by
 unfold hexDigit
 rw [hd]
 have : ∀ d, (h : d < 16) → ((ByteArray.mk #[48, 49, 50, 51, 52, 53, 54, 55, 56, 57, 97, 98, 99, 100, 101, 102])[d]'h).toNat = (hexDigits.getD d 0).toNat := by decide +kernel
 exact this d h
theorem hex_back (x : Nat) (w w1 : World) (n T : Nat) (hw : w1 = w.alloc (.cells (hexCells x 16) T)) :
  (convert 37 9 (.slice (some ⟨w.heap.size, 0, none⟩) 16 n)).run Tryz.prog w1 = .ok (.string ⟨(hexN x).toArray⟩) w1 := by
 have hl : (hexN x).length = 16 := by simp [hexN]
 have := run_convert_bytes_back (P := Tryz.prog) w1 37 9 5 ⟨w.heap.size, 0, none⟩ n (hexN x) Tryz.underlying37 Tryz.underlying5 Tryz.underlying9 (by
  intro j hj
  have hj' : j < 16 := by omega
  have ha : (⟨w.heap.size, 0, none⟩ : Addr).add j = ⟨w.heap.size, j, none⟩ := by unfold Addr.add; split <;> simp_all
  rw [ha, hw, World.cell?_alloc_mark]
  simp [hexCells, hexN, List.getElem?_map, List.getElem?_range hj', hj'])
 rwa [hl] at this
set_option maxHeartbeats 400000 in
theorem hex_any (x : Nat) (hx : x < hM) (w : World) :
  Calls Tryz.prog 36 #[.int .u64 (x : Int)] w fun e w' => e = .returned (.string ⟨(hexN x).toArray⟩) ∧ Below w.heap.size w w' := by
 rw [hM_lit] at hx
 go_enter Tryz.func36, Tryz.ntmps36
 go_wp2
 go_loopw [5] (fun i wr => ∃ k : Nat, k ≤ 16 ∧ i = .int .i64 k ∧ wr = w.alloc (.cells (hexCells x k) 115)) (fun i _ => 16 - (intOf i).toNat)
 case atStart => exact ⟨0, by omega, rfl, rfl⟩
 case round =>
  obtain ⟨k, hk, rfl, rfl⟩ := hrel
  by_cases hlt : k < 16
  ·have hq := hex_and x k hx hlt
   obtain ⟨d, hd⟩ : ∃ d : Nat, x / 16 ^ (15 - k) % 16 = d := ⟨_, rfl⟩
   have hd16 : d < 16 := by omega
   rw [hd] at hq
   have hdig := hex_digit x k d hd hd16
   have hc := hexCells_at x k hlt
   have hset := hexCells_set x k hlt
   have HD := Lib.hid hd
   have HDig := Lib.hid hdig
   have HSet := Lib.hid hset
   clear hd hdig hset
   go_wp2
   go_roundw
   case rel => exact ⟨k + 1, by omega, by go_num, by rw [HDig.out, HSet.out]⟩
   case measure => simp [intOf]; omega
  ·obtain rfl : k = 16 := by omega
   have hcv := hex_back x w (w.alloc (.cells (hexCells x 16) 115)) 16 115 rfl
   go_wp2
   go_ret
   exact ⟨rfl, (Below.refl _ _).alloc (Nat.le_refl _) _⟩
end Go.Proofs.YtilkhmhgjbhfnaaGreatDoor
