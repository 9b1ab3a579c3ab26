/- Parts of the proof, side by side: MoTidy, MoDelD. -/
import Derived.Test.YtilkhmhgjbhfnaaGreatDoorM23
import Derived.Test.YtilkhmhgjbhfnaaGreatDoorM24
import Derived.Test.YtilkhmhgjbhfnaaGreatDoorM22
import Derived.Test.YtilkhmhgjbhfnaaGreatDoorM11
import Derived.Test.YtilkhmhgjbhfnaaGreatDoorM03
set_option linter.unusedVariables false
set_option linter.unusedSimpArgs false
namespace Go.Proofs.YtilkhmhgjbhfnaaGreatDoor
open Go.RowKit
theorem Own2.stAt {B : Nat} {w : World} {p : Nat} {s : St} {zs : List (Ino × Value)} {vI vO vM : Value} (h : Own2 B w p s zs vI vO vM) : ∃ A n c E m d D k e, vI = .slice A n c ∧ vO = .slice E m d ∧ vM = .slice D k e ∧ n = s.inos.length ∧ m = s.opn.length ∧ k = s.made.length ∧ StAt none w (.agg #[.slice A n c, .slice E m d, .slice D k e]) s := by
 obtain ⟨A, c, hA, hAo, hAI⟩ := h.inosAt
 obtain ⟨E, d, hE, hEo, hED⟩ := h.rowO.descs
 obtain ⟨M, k, hM, hMo, hMI⟩ := h.rowM.ints
 exact ⟨A, _, c, E, _, d, M, _, k, hA, hE, hM, rfl, rfl, rfl, ⟨⟨A, _, c, E, _, d, M, _, k, rfl, hAI, hED, hMI, hAo, hEo, hMo⟩, h.sized⟩⟩
theorem one_ino (zs : List (Ino × Value)) (h : ∀ z ∈ zs, ∃ A m c, z.2 = .slice A m c) : ∀ u ∈ zs.flatMap inoV, u.oneCell' = true := by
 intro u hu
 obtain ⟨z, hz, h1⟩ := List.mem_flatMap.1 hu
 obtain ⟨A, m, c, h2⟩ := h z hz
 simp [inoV, h2] at h1
 rcases h1 with rfl | rfl | rfl | rfl <;> rfl
theorem Own2.shape {B : Nat} {w : World} {p : Nat} {s : St} {zs : List (Ino × Value)} {vI vO vM : Value} (h : Own2 B w p s zs vI vO vM) : ∀ z ∈ zs, ∃ A m c, z.2 = .slice A m c := fun z hz => by
 obtain ⟨A, c, h1, _⟩ := (h.ents z hz).slice
 exact ⟨A, _, c, h1⟩
theorem Apart.take_drop {zs : List (Ino × Value)} (h : Apart zs) (k : Nat) : Apart (zs.take k ++ zs.drop (k + 1)) := by
 have key : ∀ (i : Nat) (a : Ino × Value), (zs.take k ++ zs.drop (k + 1))[i]? = some a → zs[if i < k then i else i + 1]? = some a := by
  intro i a ha
  rw [List.getElem?_append] at ha
  by_cases hi : i < (zs.take k).length
  ·rw [if_pos hi, List.getElem?_take] at ha
   have : i < k := by rw [List.length_take] at hi; omega
   rw [if_pos this] at ha ⊢
   exact ha
  ·rw [if_neg hi, List.getElem?_drop] at ha
   rw [List.length_take] at hi ha
   by_cases hk : k ≤ zs.length
   ·rw [Nat.min_eq_left hk] at hi ha
    rw [if_neg hi]
    rw [show k + 1 + (i - k) = i + 1 by omega] at ha
    exact ha
   ·have := (List.getElem?_eq_some_iff.1 ha).1
    omega
 intro i j a b hij ha hb g hga
 refine h _ _ a b ?_ (key i a ha) (key j b hb) g hga
 split <;> split <;> omega
set_option maxRecDepth 100000 in
set_option maxHeartbeats 8000000 in
theorem mtidy_any (B q p : Nat) (s : St) (c : Ca) (fd num : Int) (dir : Bool) (data : ByteArray) (nv : Value) (zs : List (Ino × Value)) (vI vO vM : Value) (k : Nat) (x : Ino) (w : World) (hD : DoerAt w q p c fd num dir data nv) (hO : Own2 B w p s zs vI vO vM) (hB : B ≤ w.heap.size) (hr : RiseI s.inos) (hx : s.inos[k]? = some x) (hd : x.dir = false) (hs : Sized (sweepV s x.num)) :
  Calls Tryz.prog 89 #[.pointer (some ⟨q, 0, .none⟩), .int .i64 x.num] w fun e w' => e = .returned (.tuple #[]) ∧ Turns B p w w' ∧ ∃ zs' vI', Own2 B w' p (sweepV s x.num) zs' vI' vO vM := by
 have hat : atV s.inos x.num = (k : Int) := atV_of_rise hr hx rfl
 obtain ⟨NU, hNU⟩ : ∃ NU, x.num = NU := ⟨_, rfl⟩
 rw [hNU] at hat hs ⊢
 obtain ⟨SW, hSW⟩ : ∃ SW, sweepV s NU = SW := ⟨_, rfl⟩
 rw [hSW] at hs ⊢
 have HSW := Lib.hid hSW
 obtain ⟨g, c', E2, m2, d2, hv, hz, hg, hBg, hkl, x0, x1, _⟩ := hO.at_ hx
 obtain ⟨A, n, cc, E, m, d, D, k2, e2, hA, hE, hM, hn, hm, hk2, hSt⟩ := hO.stAt
 have hAA : A = some ⟨g, 0, none⟩ := by rw [hv] at hA; injection hA with h1 _ _; exact h1.symm
 subst hAA
 subst hA hE hM
 have d0 := hD.c0
 have s0 := hO.s0
 have s1 := hO.s1
 have s2 := hO.s2
 have hq := hD.lt
 have hp := hO.lt
 have HDQ := Lib.hid hD.cell
 have hqp : q ≠ p := blk_ne hD.cell hO.cell (by decide)
 rw [hd] at x1
 have HO := Lib.hid hO
 have HX := Lib.hid hx
 have HST := Lib.hid hSt
 have HS := Lib.hid hs
 have HR := Lib.hid hr
 have HNU := Lib.hid hNU
 have k0 : (0 : Int) ≤ (k : Int) := by omega
 have k1 : (k : Int) < (n : Int) := by omega
 have kw : IntKind.i64.wrap ((k : Int) + 1) = (k : Int) + 1 := by
  have := hO.sized.big
  rw [IntKind.wrap_i64]; omega
 have HN := Lib.hid hn
 have HAT := Lib.hid hat
 clear hv hz hO hD hx hSt hs hr hn hm hk2 hat hNU hd hSW
 go_enter Tryz.func89, Tryz.ntmps89
 go_wp2_with fail
 refine (mfind_any p s NU _ HO.out.ptr HR.out).mono ?_
 rintro e1 w1 ⟨rfl, hb1⟩
 rw [HAT.out]
 have HB1 := Lib.hid hb1
 have d01 := (hb1.cell (p := ⟨q, 0, none⟩) hq).trans d0
 have s01 := (hb1.cell (p := ⟨p, 0, none⟩) hp).trans s0
 have s11 := (hb1.cell (p := ⟨p, 1, none⟩) hp).trans s1
 have s21 := (hb1.cell (p := ⟨p, 2, none⟩) hp).trans s2
 have x11 := (hb1.cell (p := ⟨g, k * 4 + 1, none⟩) hg).trans x1
 have HST1 := Lib.hid (HST.out.below hb1)
 have HO1 := Lib.hid (HO.out.below hb1)
 have hq1 : q < w1.heap.size := Nat.lt_of_lt_of_le hq hb1.size
 have hp1 : p < w1.heap.size := Nat.lt_of_lt_of_le hp hb1.size
 clear hb1 d0 s0 s1 s2 x0 x1
 go_wp2_with fail
 refine (mlinks_any _ s NU _ HST1.out).mono ?_
 rintro e2' w2 ⟨rfl, hb2⟩
 have HB2 := Lib.hid (Cv.next HB1.out hb2)
 have d02 := (hb2.cell (p := ⟨q, 0, none⟩) hq1).trans d01
 have s02 := (hb2.cell (p := ⟨p, 0, none⟩) hp1).trans s01
 have HO2 := Lib.hid (HO1.out.below hb2)
 have hq2 : q < w2.heap.size := Nat.lt_of_lt_of_le hq1 hb2.size
 have hp2 : p < w2.heap.size := Nat.lt_of_lt_of_le hp1 hb2.size
 clear hb2 d01 s01 s11 s21 x11
 by_cases hl : linkI s.inos NU = 0
 rotate_left
 ·have hsw : SW = s := by rw [← HSW.out]; unfold sweepV; rw [if_pos (.inl (by omega))]
  have HSW2 := Lib.hid hsw
  have q2 : ((linkI s.inos NU : Nat) : Int) ≠ 0 := by omega
  obtain ⟨LL, hLL⟩ : ∃ LL, linkI s.inos NU = LL := ⟨_, rfl⟩
  rw [hLL] at q2 ⊢
  have q3 : ((LL : Int) == 0) = false := by rw [beq_eq_false_iff_ne]; exact q2
  clear hsw hLL hl
  go_wp2_with fail
  go_returns
  exact ⟨rfl, Turns.of_below HB2.out hB, zs, _, by rw [HSW2.out]; exact HO2.out⟩
 rw [hl]
 go_wp2_with fail
 refine (misopen_any p s NU _ HO2.out.ptr).mono ?_
 rintro e3 w3 ⟨rfl, hb3⟩
 have HB3 := Lib.hid (Cv.next HB2.out hb3)
 have d03 := (hb3.cell (p := ⟨q, 0, none⟩) hq2).trans d02
 have s03 := (hb3.cell (p := ⟨p, 0, none⟩) hp2).trans s02
 have HO3 := Lib.hid (HO2.out.below hb3)
 have hq3 : q < w3.heap.size := Nat.lt_of_lt_of_le hq2 hb3.size
 have hp3 : p < w3.heap.size := Nat.lt_of_lt_of_le hp2 hb3.size
 clear hb3 d02 s02
 cases ho : openB s.opn NU
 rotate_left
 ·have hsw : SW = s := by rw [← HSW.out]; unfold sweepV; rw [if_pos (.inr ho)]
  have HSW2 := Lib.hid hsw
  clear hsw ho hl
  go_wp2_with fail
  go_returns
  exact ⟨rfl, Turns.of_below HB3.out hB, zs, _, by rw [HSW2.out]; exact HO3.out⟩
 have hsw : SW = { s with inos := dropI s.inos NU } := by rw [← HSW.out]; unfold sweepV; rw [if_neg (by rw [hl, ho]; simp)]
 have hdp : dropI s.inos NU = (zs.take k ++ zs.drop (k + 1)).map Prod.fst := by rw [← HNU.out, dropI_pos s.inos k x HR.out HX.out, List.map_append, List.map_take, List.map_drop, HO.out.inos]
 have hs2 := HS.out
 rw [hdp] at hsw
 rw [hsw] at hs2
 have HSW2 := Lib.hid hsw
 have HS2 := Lib.hid hs2
 have hB3 : B ≤ w3.heap.size := by have := HB3.out.size; omega
 have hzl : zs.length = n := by rw [HN.out, ← HO.out.inos, List.length_map]
 have HZL := Lib.hid hzl
 have hkz : k < n := by omega
 obtain ⟨hrow, _⟩ : RowAt B w3 65 4 (.slice (some ⟨g, 0, none⟩) n cc) n (zs.flatMap inoV) ∧ True := ⟨by have h := HO3.out.rowI; rwa [hzl] at h, trivial⟩
 have HROW : Hid (RowAt B w3.drew 65 4 (.slice (some ⟨g, 0, none⟩) n cc) n (zs.flatMap inoV)) := hrow
 have fp : ∀ j, w3.frozen? ⟨p, j, none⟩ = false := fun j => frozen_of_row w3 p j _ _ HO3.out.cell
 have hone := one_ino zs HO3.out.shape
 have hnQ : some q ≠ rowBlk (.slice (some ⟨g, 0, none⟩) n cc) := fun e => by
  obtain ⟨c1, h1⟩ := HO3.out.bI e.symm
  rw [(HB3.out.block q hq).trans HDQ.out] at h1
  injection h1 with h1
  injection h1 with _ h1 _
  exact absurd h1 (by decide)
 have hnP : some p ≠ rowBlk (.slice (some ⟨g, 0, none⟩) n cc) := fun e => by
  obtain ⟨c1, h1⟩ := HO3.out.bI e.symm
  exact blk_ne HO3.out.cell h1 (by decide) rfl
 clear hsw hdp hs2 hzl ho hl hrow
 go_wp2_with fail
 go_region_with (first
  | (go_at_call 141; (refine (delI_any B n k (.slice (some ⟨g, 0, none⟩) n cc) (zs.flatMap inoV) w3.drew HROW.out hkz hone).mono ?_; rintro e6 w6 ⟨v', rfl, hrow', hgr, hbl⟩; obtain ⟨A', c9, rfl, hok'⟩ := hrow'.slice; have q6 : w6.cell? ⟨q, 0, none⟩ = some (.pointer (some ⟨p, 0, none⟩)) := (World.cell?_of_block (a := ⟨q, 0, none⟩) (hgr.block q hq3 hnQ)).trans d03; have p6 : w6.cell? ⟨p, 0, none⟩ = some (.slice (some ⟨g, 0, none⟩) n cc) := (World.cell?_of_block (a := ⟨p, 0, none⟩) (hgr.block p hp3 hnP)).trans s03; have f6 : w6.frozen? ⟨p, 0, none⟩ = false := (World.frozen?_of_block (a := ⟨p, 0, none⟩) (hgr.block p hp3 hnP)).trans (fp 0))))
 all_goals (
  have hflat : (zs.flatMap inoV).take (k * 4) ++ (zs.flatMap inoV).drop ((k + 1) * 4) = (zs.take k ++ zs.drop (k + 1)).flatMap inoV := by
   rw [flat_take inoV 4 (fun _ => rfl), flat_drop inoV 4 (fun _ => rfl), List.flatMap_append]
  have hpl : (zs.take k ++ zs.drop (k + 1)).length = n - 1 := by rw [List.length_append, List.length_take, List.length_drop, HZL.out]; omega
  rw [hflat, ← hpl] at hrow'
  have hfin := HO3.out.setI hB3 (rw_drew hgr) hrow' (fun y hy => HO3.out.ents y (by rcases List.mem_append.1 hy with h | h; exact List.mem_of_mem_take h; exact List.mem_of_mem_drop h)) (HO3.out.apart.take_drop k) HS2.out
  rw [hpl] at hfin
  have HFIN := Lib.hid hfin
  clear hfin hrow' hgr hbl hflat
  go_wp2_with fail
  go_returns
  exact ⟨rfl, (Turns.of_below HB3.out hB).trans HFIN.out.2, _, _, by rw [HSW2.out]; exact HFIN.out.1⟩)
set_option maxHeartbeats 4000000 in
set_option maxRecDepth 100000 in
theorem delD_row (g c i m : Nat) (cur : Array Value) (xs seg zs : List Value) (w : World) (hg : w.heap[g]? = some (.cells cur 97 (0, 0))) (hsz : cur.size = c * 3) (hnc : i + m + 1 ≤ c) (hcm : c ≤ maxLen)
  (hxs : cur.toList.take ((i + m + 1) * 3) = xs) (h1c : ∀ v ∈ xs, v.oneCell' = true) (hseg : seg = xs.drop ((i + 1) * 3)) (hzs : zs = (Value.agg #[.int .i64 0, .int .i64 0, .int .i64 0]).cells.toList) :
  Calls Tryz.prog 88 #[.slice (some ⟨g, 0, none⟩) (i + m + 1) c, .int .i64 i, .int .i64 ((i : Int) + 1)] w fun e w' =>
   e = .returned (.slice (some ⟨g, 0, none⟩) (i + m) c) ∧ w' = w.drew.setRow g (layV (layV cur.toList (i * 3) seg) ((i + m) * 3) zs).toArray := by
 obtain ⟨i0, hi0, hz0, hz1, hz2⟩ := info_parts infoDs
 have hc63 : c ≤ 9223372036854775807 := by unfold maxLen at hcm; omega
 have hzl : zs.length = 3 := by rw [hzs]; rfl
 have hzo : ∀ v ∈ zs, v.oneCell' = true := by rw [hzs]; intro v hv; simp [Value.cells] at hv; rw [hv]; rfl
 have hxl : xs.length = (i + m + 1) * 3 := by rw [← hxs, List.length_take, Array.length_toList, hsz]; omega
 have hsl : seg.length = m * 3 := by rw [hseg, List.length_drop, hxl]; omega
 obtain ⟨A, hA, hsrc⟩ : ∃ A : Addr, (if c = i + 1 then some (⟨g, 0, none⟩ : Addr) else some ⟨g, (i + 1) * 3, none⟩) = some A ∧ ∀ j u, seg[j]? = some u → w.drew.cell? (A.add j) = some u := by
  by_cases h : c = i + 1
  ·refine ⟨⟨g, 0, none⟩, by rw [if_pos h], fun j u hu => ?_⟩
   have h0 : seg.length = 0 := by rw [hsl]; omega
   rw [List.length_eq_zero_iff.1 h0] at hu
   simp at hu
  ·refine ⟨⟨g, (i + 1) * 3, none⟩, by rw [if_neg h], row_cells (w := w.drew) hg _ _ (fun j v hj => ?_)⟩
   rw [hseg, ← hxs, List.getElem?_drop, List.getElem?_take] at hj
   split at hj
   ·simpa using hj
   ·cases hj
 have hap : ∀ ty sc, (Builtin.append_ #[28, 28] ty #[.slice (some ⟨g, 0, none⟩) i c, .slice (some A) m sc]).run Tryz.prog w.drew = .ok (.slice (some ⟨g, 0, none⟩) (i + m) c) (w.drew.setRow g (layV cur.toList (i * 3) seg).toArray) := fun ty sc => by
  have h := run_append_room (P := Tryz.prog) w.drew 28 ty 97 i0 Tryz.underlying28 hi0 g i c cur hg A m sc seg (by rw [hsl, hz1]) hsrc (fun v hv => h1c v (by rw [hseg] at hv; exact List.mem_of_mem_drop hv)) (by omega) (by rw [hz1, hsl, hsz]; omega)
  rw [hz1] at h
  exact h
 obtain ⟨C1, hC1⟩ : ∃ C1, C1 = (layV cur.toList (i * 3) seg).toArray := ⟨_, rfl⟩
 have hC1s : C1.size = c * 3 := by rw [hC1, layV_size (by rw [hsl, hsz]; omega), hsz]
 have hC1l : layV cur.toList (i * 3) seg = C1.toList := by rw [hC1]
 rw [← hC1] at hap
 rw [hC1l]
 obtain ⟨W1, hW1⟩ : ∃ W1, W1 = w.drew.setRow g C1 := ⟨_, rfl⟩
 have hg1 : W1.heap[g]? = some (.cells C1 97 (0, 0)) := by rw [hW1]; exact setRow_heap w.drew g cur _ _ _ hg
 rw [← hW1] at hap
 have hcl : ∀ ty cc, (Builtin.clear_ #[28] ty #[.slice (some ⟨g, (i + m) * 3, none⟩) 1 cc]).run Tryz.prog W1 = .ok (.tuple #[]) (W1.setRow g (layV C1.toList ((i + m) * 3) zs).toArray) := fun ty cc =>
  run_clear_rowK W1 28 97 ty (Value.agg #[.int .i64 0, .int .i64 0, .int .i64 0]) zs Tryz.underlying28 (fun w => by simp [zeroValue, typeInfo, hi0, hz0]) hzs.symm g ((i + m) * 3) cc C1 97 hg1 (by rw [hzl, hC1s]; omega) hzo
 have hfin : W1.setRow g (layV C1.toList ((i + m) * 3) zs).toArray = w.drew.setRow g (layV C1.toList ((i + m) * 3) zs).toArray := by rw [hW1, setRow_setRow]
 have mixed : Tryz.prog.follows Departure.mixedOrders = true := by kernel_rfl
 have hic : i ≤ c := by omega
 have hjc : i + 1 ≤ c := by omega
 have hi1 : i ≤ i + m + 1 := by omega
 have hi2 : i + 1 ≤ i + m + 1 := by omega
 have hp0 : ¬ ((i : Int) = (i : Int) + 1) := by omega
 have hp1 : (0 : Int) ≤ (i : Int) + 1 := by omega
 have hp2 : (i : Int) + 1 ≤ (i : Int) + (m : Int) + 1 := by omega
 have hp3 : (i : Int) ≤ (i : Int) + 1 := by omega
 have hp4 : (i : Int) + 1 ≤ (c : Int) := by omega
 have hp5 : (i : Int) + (m : Int) ≤ (c : Int) := by omega
 have hp6 : (i : Int) + (m : Int) + 1 ≤ (c : Int) := by omega
 have hp7 : ¬ (c = i + m) := by omega
 have hp8 : i + m ≤ c := by omega
 have HA := Lib.hid hA
 have HAP := Lib.hid hap
 have HCL := Lib.hid hcl
 have HF := Lib.hid hfin
 clear hA hsrc hap hcl hfin hg1 hW1 hC1l hC1s hC1 hsl hxl hzo hzl hg hsz hcm hxs h1c hseg hzs
 go_enter Tryz.func88, Tryz.ntmps88
 go_wp2_with fail
 go_region_law_o (refine step_append_runI rfl (.tmp 22) (.tmp 25) 28 rfl (.slice (some ⟨g, 0, none⟩) i c) (.slice (some A) m (c - (i + 1))) (by simp [Act.eval, Act.put]) (by simp [Act.eval, Act.put, HA.out]) (HAP.out 28 _) ?_)
 go_wp2_with (simp only [HCL.out])
 all_goals (go_ret; exact ⟨rfl, HF.out⟩)
theorem delD_any (B n i : Nat) (v : Value) (xs : List Value) (w : World) (h : RowAt B w 97 3 v n xs) (hi : i < n) (h1 : ∀ u ∈ xs, u.oneCell' = true) :
  Calls Tryz.prog 88 #[v, .int .i64 i, .int .i64 ((i : Int) + 1)] w fun e w' => ∃ v', e = .returned v' ∧ RowAt B w' 97 3 v' (n - 1) (xs.take (i * 3) ++ xs.drop ((i + 1) * 3)) ∧ w.grownBy w' (rowBlk v) ∧ rowBlk v' = rowBlk v := by
 obtain ⟨m, rfl⟩ : ∃ m, n = i + m + 1 := ⟨n - (i + 1), by omega⟩
 rcases h.2 with ⟨A, rfl, h0⟩ | ⟨g, cap, cur, rfl, hc, hBg, hg, hnc, hcm, hcs, htk⟩
 ·omega
 ·have hb : rowBlk (.slice (some ⟨g, 0, none⟩) (i + m + 1) cap) = some g := by simp [rowBlk, Nat.ne_of_gt hc]
  have hl : (xs.drop ((i + 1) * 3)).length = m * 3 := by rw [List.length_drop, h.1]; omega
  have hlen : (xs.take (i * 3) ++ xs.drop ((i + 1) * 3)).length = (i + m) * 3 := by
   rw [List.length_append, hl, List.length_take, h.1]
   omega
  rw [hb, Nat.add_sub_cancel]
  refine (delD_row g cap i m cur xs (xs.drop ((i + 1) * 3)) _ w hg hcs hnc hcm htk h1 rfl rfl).mono ?_
  rintro e w' ⟨rfl, rfl⟩
  have s1 := layV_size (cur := cur) (o := i * 3) (vs := xs.drop ((i + 1) * 3)) (by rw [hl, hcs]; omega)
  have s2 : (layV cur.toList (i * 3) (xs.drop ((i + 1) * 3))).length = cap * 3 := by rw [List.size_toArray] at s1; rw [s1, hcs]
  refine ⟨_, rfl, ⟨hlen, .inr ⟨g, cap, _, rfl, hc, hBg, setRow_heap w.drew g cur _ _ _ hg, by omega, hcm, ?_, ?_⟩⟩, rw_drew rw_setRow, by simp [rowBlk, Nat.ne_of_gt hc]⟩
  ·rw [List.size_toArray, layV_len, s2]
   rw [s2]
   show (i + m) * 3 + 3 ≤ _
   omega
  ·show (layV (layV cur.toList (i * 3) (xs.drop ((i + 1) * 3))) ((i + m) * 3) _).take ((i + m) * 3) = _
   rw [layV_before (by rw [s2]; omega), show (i + m) * 3 = i * 3 + (xs.drop ((i + 1) * 3)).length by rw [hl]; omega, layV_take (by rw [Array.length_toList, hcs]; omega), ← htk, List.take_take, Nat.min_eq_left (by omega)]
end Go.Proofs.YtilkhmhgjbhfnaaGreatDoor
