/- Chapter 27: what a result tells. -/
import Derived.Test.YtilkhmhgjbhfnaaGreatDoorM15
import Derived.Test.YtilkhmhgjbhfnaaGreatDoorM17
import Derived.Test.YtilkhmhgjbhfnaaGreatDoorShLib
import Derived.Test.YtilkhmhgjbhfnaaGreatDoorM06
import Derived.Test.YtilkhmhgjbhfnaaGreatDoorM03
set_option linter.unusedVariables false
set_option linter.unusedSimpArgs false
namespace Go.Proofs.YtilkhmhgjbhfnaaGreatDoor
open Go.RowKit
structure ReOk (r : Re) : Prop where
 code : 0 ≤ r.code ∧ r.code ≤ 9223372036854775807
 fd : 0 ≤ r.fd ∧ r.fd ≤ 9223372036854775807
 num : 0 ≤ r.num ∧ r.num ≤ 9223372036854775807
 data : r.data.size ≤ 1048576
 many : r.names.length ≤ 1048576
 len : ∀ kind, (Lib.join (toldL kind r) [32]).length ≤ 140737488355328
theorem cell_one_new' (w : World) (x : Value) (t : TypeId) : ∀ ad, some (⟨w.heap.size, 0, none⟩ : Addr) = some ad → ∀ j u, [x][j]? = some u → (w.alloc (.cells #[x] t)).cell? (ad.add j) = some u := by
 intro ad ha
 injection ha with ha
 subst ha
 exact cell_one_new w x t
theorem names_flat {w : World} {F : Option Addr} {f f9 : Nat} {ns : List ByteArray} (h : NmsAt none w F f ns) (hok : SlOk F f f9) : (ns.map Value.string).length = f * 1 ∧ (∀ ad, F = some ad → ∀ j u, (ns.map Value.string)[j]? = some u → w.cell? (ad.add j) = some u) ∧ (F = none → f = 0 ∧ f9 = 0) := by
 refine ⟨by rw [List.length_map, h.1]; omega, fun ad ha j u hu => ?_, fun e => ?_⟩
 ·rw [List.getElem?_map] at hu
  obtain ⟨y, hy, rfl⟩ := Option.map_eq_some_iff.1 hu
  have hj := (List.getElem?_eq_some_iff.1 hy).1
  obtain ⟨g, off, hF, hg, hm, hc⟩ := h.2 (by have := h.1; omega)
  rw [ha] at hF
  injection hF with hF
  subst hF
  have : (⟨g, off, none⟩ : Addr).add j = ⟨g, off + j, none⟩ := by unfold Addr.add; split <;> simp_all
  rw [this]
  exact hc j y hy
 ·have := hok.2 e
  have := hok.1
  omega
set_option maxRecDepth 100000 in
set_option maxHeartbeats 4000000 in
theorem told_2 (r : Re) (F : Option Addr) (f f9 : Nat) (w : World) (hok : SlOk F f f9) (hn : NmsAt none w F f r.names) (hr : ReOk r) (hT : Tab w) (h0 : Hid (r.code = 0)) :
  Calls Tryz.prog 41 #[.int .i64 2, .agg #[.int .i64 r.code, .int .i64 r.fd, .int .i64 r.num, .bool r.dir, .string r.data, .slice F f f9]] w fun e w' => e = .returned (.string (txt (Lib.join (toldL 2 r) [32]))) ∧ Below w.heap.size w w' := by
 obtain ⟨W, hW⟩ : ∃ W, w.alloc (.cells #[.int .i64 r.code, .int .i64 r.fd, .int .i64 r.num, .bool r.dir, .string r.data, .slice F f f9] 87) = W := ⟨_, rfl⟩
 have hal : Below w.heap.size w W := by rw [← hW]; exact (Below.refl _ _).alloc (Nat.le_refl _) _
 have hrow : ResAt W w.heap.size (.int .i64 r.code) (.int .i64 r.fd) (.int .i64 r.num) (.bool r.dir) (.string r.data) (.slice F f f9) := by rw [← hW]; exact heap_alloc_new w _
 obtain ⟨r0, r1, r2, r3, r4, r5, _⟩ := hrow.get
 have HN := Lib.hid (hn.below hal)
 have HT := Lib.hid (hT.below hal)
 have HB := Lib.hid hal
 have HROW := Lib.hid hrow
 have HRE := Lib.hid hr
 have hlt := hrow.lt
 obtain ⟨c0, c1⟩ := hr.code
 clear hn hT hal hrow hr
 go_enter Tryz.func41, Tryz.ntmps41
 go_wp2_with fail
 refine (itoa_any r.code c0 c1 W HT.out).mono ?_
 rintro e w1 ⟨rfl, hb1⟩
 have HB1 := Lib.hid hb1
 have s0 := (hb1.cell (p := ⟨w.heap.size, 0, none⟩) hlt).trans r0
 have s1 := (hb1.cell (p := ⟨w.heap.size, 1, none⟩) hlt).trans r1
 have s2 := (hb1.cell (p := ⟨w.heap.size, 2, none⟩) hlt).trans r2
 have s3 := (hb1.cell (p := ⟨w.heap.size, 3, none⟩) hlt).trans r3
 have s4 := (hb1.cell (p := ⟨w.heap.size, 4, none⟩) hlt).trans r4
 have s5 := (hb1.cell (p := ⟨w.heap.size, 5, none⟩) hlt).trans r5
 obtain ⟨CT, hCT⟩ : ∃ t, txt (decN r.code) = t := ⟨_, rfl⟩
 rw [hCT]
 have HCT := Lib.hid hCT
 obtain ⟨W2, hW2⟩ : ∃ W2, w1.alloc (.cells #[.string CT] 9) = W2 := ⟨_, rfl⟩
 have hal2 : Below w1.heap.size w1 W2 := by rw [← hW2]; exact (Below.refl _ _).alloc (Nat.le_refl _) _
 have hltw := Nat.lt_of_lt_of_le hlt hb1.size
 have t0 := (hal2.cell (p := ⟨w.heap.size, 0, none⟩) hltw).trans s0
 have t1 := (hal2.cell (p := ⟨w.heap.size, 1, none⟩) hltw).trans s1
 have t2 := (hal2.cell (p := ⟨w.heap.size, 2, none⟩) hltw).trans s2
 have t3 := (hal2.cell (p := ⟨w.heap.size, 3, none⟩) hltw).trans s3
 have t4 := (hal2.cell (p := ⟨w.heap.size, 4, none⟩) hltw).trans s4
 have t5 := (hal2.cell (p := ⟨w.heap.size, 5, none⟩) hltw).trans s5
 have u0 : W2.cell? ⟨w1.heap.size, 0, none⟩ = some (.string CT) := by rw [← hW2, World.cell?_alloc_mark w1 _ _ (0, 0) _]; rfl
 have HB2 := Lib.hid (Cv.next hb1 hal2)
 clear hb1 hal2 s0 s1 s2 s3 s4 s5 r0 r1 r2 r3 r4 r5 hCT
 replace h0 := h0.out
 have e0 : (r.code != 0) = false := by rw [bne_eq_false_iff_eq]; exact h0
 have H0 := Lib.hid h0
 clear h0
 have HOW := Lib.hid (show W2.ownsRow w1.heap.size 9 1 (.slice (some ⟨w1.heap.size, 0, none⟩) 1 1) 1 [.string CT] by
  rw [← hW2]
  exact World.ownsRow_lit w1 #[.string CT] 1 (Nat.le_refl _) (by unfold maxLen; omega) rfl)
 have HB29 := Lib.hid (Cv.next HB.out HB2.out)
 have hs12 : w1.heap.size ≤ W2.heap.size := by rw [← hW2]; simp
 have hw12 : w.heap.size ≤ w1.heap.size := Nat.le_of_lt hltw
 have HTOLD := Lib.hid (show toldL 2 r = [decN r.code, decN r.fd] from by unfold toldL; rw [if_neg (fun h => h H0.out)]; rfl)
 go_wp2_with fail
 refine (itoa_any r.fd HRE.out.fd.1 HRE.out.fd.2 W2 (HT.out.below HB2.out)).mono ?_
 rintro e w3 ⟨rfl, hb3⟩
 obtain ⟨V, hV⟩ : ∃ V, txt (decN r.fd) = V := ⟨_, rfl⟩
 rw [hV]
 have HV := Lib.hid hV
 have HB3 := Lib.hid (HB29.out.trans (hb3.mono HB29.out.size))
 have h13 : w1.heap.size ≤ w3.heap.size := Nat.le_trans hs12 hb3.size
 have HO3 := Lib.hid ((row_below HOW.out hb3).alloc (.cells #[.string V] 9))
 clear hb3 hV t0 t1 t2 t3 t4 t5 u0
 go_wp2_with (at_builtin; refine wpList_append_flat rfl _ _ 46 9 (.string ⟨#[]⟩) 1 16 rfl Tryz.underlying46 infoStr9 rfl (by decide) w1.heap.size _ 1 [.string CT] rfl HO3.out (some ⟨w3.heap.size, 0, none⟩) 1 1 [.string V] rfl rfl (cell_one_new' _ _ _) (fun h => by cases h) (by intro u hu; simp at hu; subst hu; rfl) ?h63 ?hb ?hB ?_)
 case h63 => unfold maxLen; omega
 case hb => omega
 case hB => simp; omega
 intro v9 w9 hown9 hgrow9
 have HO9 := Lib.hid hown9
 have HB9 := Lib.hid ((HB3.out.alloc HB3.out.size (.cells #[.string V] 9)).grown hgrow9 (by simp; omega) (fun k hk => by have := (HO3.out.lt k hk).1; omega))
 clear hown9 hgrow9
 obtain ⟨A9, c9, hv9, hc9, hn9, hg9⟩ := row_any HO9.out (by decide)
 subst hv9
 obtain ⟨g9, hA9, hl9, _, hcell9⟩ := hg9 (by omega)
 subst hA9
 have hxs : ((CT :: [V]).map (·.data.toList)) = toldL 2 r := by
  rw [HTOLD.out, ← HCT.out, ← HV.out]
  rfl
 have h1 := strings_Join g9 0 c9 (CT :: [V]) ⟨#[32]⟩ w9 (fun j x hx => by
  rw [Nat.zero_add, hcell9 j (by have := (List.getElem?_eq_some_iff.1 hx).1; have hnl := (HN.out).1; simp at this; first | (simp; omega) | omega)]
  have h2 : ((CT :: [V]).map Value.string)[j]? = some (.string x) := by rw [List.getElem?_map, hx]; rfl
  simpa using h2) hl9 (by first | (simp; done) | (have := HRE.out.many; simp; omega)) (by first | (simp; done) | simpa using hc9) (by rw [hxs]; exact HRE.out.len 2)
 rw [hxs] at h1
 have H1 := Lib.hid h1
 clear hc9 hn9 hg9 hl9 hcell9 hxs h1
 go_wp2_with fail
 refine H1.out.mono ?_
 rintro e w10 ⟨rfl, hb10⟩
 have HB10 := Lib.hid (HB9.out.trans (hb10.mono HB9.out.size))
 clear hb10
 go_wp2_with fail
 go_ret
 exact ⟨rfl, HB10.out⟩
set_option maxRecDepth 100000 in
set_option maxHeartbeats 4000000 in
theorem told_12 (r : Re) (F : Option Addr) (f f9 : Nat) (w : World) (hok : SlOk F f f9) (hn : NmsAt none w F f r.names) (hr : ReOk r) (hT : Tab w) (h0 : Hid (r.code = 0)) :
  Calls Tryz.prog 41 #[.int .i64 12, .agg #[.int .i64 r.code, .int .i64 r.fd, .int .i64 r.num, .bool r.dir, .string r.data, .slice F f f9]] w fun e w' => e = .returned (.string (txt (Lib.join (toldL 12 r) [32]))) ∧ Below w.heap.size w w' := by
 obtain ⟨W, hW⟩ : ∃ W, w.alloc (.cells #[.int .i64 r.code, .int .i64 r.fd, .int .i64 r.num, .bool r.dir, .string r.data, .slice F f f9] 87) = W := ⟨_, rfl⟩
 have hal : Below w.heap.size w W := by rw [← hW]; exact (Below.refl _ _).alloc (Nat.le_refl _) _
 have hrow : ResAt W w.heap.size (.int .i64 r.code) (.int .i64 r.fd) (.int .i64 r.num) (.bool r.dir) (.string r.data) (.slice F f f9) := by rw [← hW]; exact heap_alloc_new w _
 obtain ⟨r0, r1, r2, r3, r4, r5, _⟩ := hrow.get
 have HN := Lib.hid (hn.below hal)
 have HT := Lib.hid (hT.below hal)
 have HB := Lib.hid hal
 have HROW := Lib.hid hrow
 have HRE := Lib.hid hr
 have hlt := hrow.lt
 obtain ⟨c0, c1⟩ := hr.code
 clear hn hT hal hrow hr
 go_enter Tryz.func41, Tryz.ntmps41
 go_wp2_with fail
 refine (itoa_any r.code c0 c1 W HT.out).mono ?_
 rintro e w1 ⟨rfl, hb1⟩
 have HB1 := Lib.hid hb1
 have s0 := (hb1.cell (p := ⟨w.heap.size, 0, none⟩) hlt).trans r0
 have s1 := (hb1.cell (p := ⟨w.heap.size, 1, none⟩) hlt).trans r1
 have s2 := (hb1.cell (p := ⟨w.heap.size, 2, none⟩) hlt).trans r2
 have s3 := (hb1.cell (p := ⟨w.heap.size, 3, none⟩) hlt).trans r3
 have s4 := (hb1.cell (p := ⟨w.heap.size, 4, none⟩) hlt).trans r4
 have s5 := (hb1.cell (p := ⟨w.heap.size, 5, none⟩) hlt).trans r5
 obtain ⟨CT, hCT⟩ : ∃ t, txt (decN r.code) = t := ⟨_, rfl⟩
 rw [hCT]
 have HCT := Lib.hid hCT
 obtain ⟨W2, hW2⟩ : ∃ W2, w1.alloc (.cells #[.string CT] 9) = W2 := ⟨_, rfl⟩
 have hal2 : Below w1.heap.size w1 W2 := by rw [← hW2]; exact (Below.refl _ _).alloc (Nat.le_refl _) _
 have hltw := Nat.lt_of_lt_of_le hlt hb1.size
 have t0 := (hal2.cell (p := ⟨w.heap.size, 0, none⟩) hltw).trans s0
 have t1 := (hal2.cell (p := ⟨w.heap.size, 1, none⟩) hltw).trans s1
 have t2 := (hal2.cell (p := ⟨w.heap.size, 2, none⟩) hltw).trans s2
 have t3 := (hal2.cell (p := ⟨w.heap.size, 3, none⟩) hltw).trans s3
 have t4 := (hal2.cell (p := ⟨w.heap.size, 4, none⟩) hltw).trans s4
 have t5 := (hal2.cell (p := ⟨w.heap.size, 5, none⟩) hltw).trans s5
 have u0 : W2.cell? ⟨w1.heap.size, 0, none⟩ = some (.string CT) := by rw [← hW2, World.cell?_alloc_mark w1 _ _ (0, 0) _]; rfl
 have HB2 := Lib.hid (Cv.next hb1 hal2)
 clear hb1 hal2 s0 s1 s2 s3 s4 s5 r0 r1 r2 r3 r4 r5 hCT
 replace h0 := h0.out
 have e0 : (r.code != 0) = false := by rw [bne_eq_false_iff_eq]; exact h0
 have H0 := Lib.hid h0
 clear h0
 have HOW := Lib.hid (show W2.ownsRow w1.heap.size 9 1 (.slice (some ⟨w1.heap.size, 0, none⟩) 1 1) 1 [.string CT] by
  rw [← hW2]
  exact World.ownsRow_lit w1 #[.string CT] 1 (Nat.le_refl _) (by unfold maxLen; omega) rfl)
 have HB29 := Lib.hid (Cv.next HB.out HB2.out)
 have hs12 : w1.heap.size ≤ W2.heap.size := by rw [← hW2]; simp
 have hw12 : w.heap.size ≤ w1.heap.size := Nat.le_of_lt hltw
 have HTOLD := Lib.hid (show toldL 12 r = decN r.code :: r.names.map (·.data.toList) from by unfold toldL; rw [if_neg (fun h => h H0.out)]; rfl)
 obtain ⟨nf1, nf2, nf3⟩ := names_flat (HN.out.below HB2.out) hok
 have hfl : f ≤ 1048576 := by have := HRE.out.many; rw [(HN.out).1] at this; exact this
 have HF2 := Lib.hid nf2
 have HF1 := Lib.hid nf1
 have HF3 := Lib.hid nf3
 clear nf1 nf2 nf3
 go_wp2_with (at_builtin; refine wpList_append_flat rfl _ _ 46 9 (.string ⟨#[]⟩) 1 16 rfl Tryz.underlying46 infoStr9 rfl (by decide) w1.heap.size _ 1 [.string CT] rfl HOW.out F f f9 (r.names.map Value.string) rfl HF1.out HF2.out HF3.out (by intro u hu; obtain ⟨y, _, rfl⟩ := List.mem_map.1 hu; rfl) ?h63 ?hb ?hB ?_)
 case h63 => unfold maxLen; omega
 case hb => omega
 case hB => exact hs12
 intro v9 w9 hown9 hgrow9
 have HO9 := Lib.hid hown9
 have HB9 := Lib.hid (HB29.out.grown hgrow9 (by omega) (fun k hk => by have := (HOW.out.lt k hk).1; omega))
 clear hown9 hgrow9
 obtain ⟨A9, c9, hv9, hc9, hn9, hg9⟩ := row_any HO9.out (by decide)
 subst hv9
 obtain ⟨g9, hA9, hl9, _, hcell9⟩ := hg9 (by omega)
 subst hA9
 have hxs : ((CT :: r.names).map (·.data.toList)) = toldL 12 r := by
  rw [HTOLD.out, ← HCT.out]
  rfl
 have h1 := strings_Join g9 0 c9 (CT :: r.names) ⟨#[32]⟩ w9 (fun j x hx => by
  rw [Nat.zero_add, hcell9 j (by have := (List.getElem?_eq_some_iff.1 hx).1; have hnl := (HN.out).1; simp at this; first | (simp; omega) | omega)]
  have h2 : ((CT :: r.names).map Value.string)[j]? = some (.string x) := by rw [List.getElem?_map, hx]; rfl
  simpa using h2) hl9 (by first | (simp; done) | (have := HRE.out.many; simp; omega)) (by have h9 := hc9; have := (HN.out).1; simp only [List.length_cons]; omega) (by rw [hxs]; exact HRE.out.len 12)
 rw [hxs] at h1
 rw [show (CT :: r.names).length = 1 + f by have := (HN.out).1; simp only [List.length_cons]; omega] at h1
 have H1 := Lib.hid h1
 clear hc9 hn9 hg9 hl9 hcell9 hxs h1
 go_wp2_with fail
 refine H1.out.mono ?_
 rintro e w10 ⟨rfl, hb10⟩
 have HB10 := Lib.hid (HB9.out.trans (hb10.mono HB9.out.size))
 clear hb10
 go_wp2_with fail
 go_ret
 exact ⟨rfl, HB10.out⟩
set_option maxRecDepth 100000 in
set_option maxHeartbeats 4000000 in
theorem told_4 (r : Re) (F : Option Addr) (f f9 : Nat) (w : World) (hok : SlOk F f f9) (hn : NmsAt none w F f r.names) (hr : ReOk r) (hT : Tab w) (h0 : Hid (r.code = 0)) :
  Calls Tryz.prog 41 #[.int .i64 4, .agg #[.int .i64 r.code, .int .i64 r.fd, .int .i64 r.num, .bool r.dir, .string r.data, .slice F f f9]] w fun e w' => e = .returned (.string (txt (Lib.join (toldL 4 r) [32]))) ∧ Below w.heap.size w w' := by
 obtain ⟨W, hW⟩ : ∃ W, w.alloc (.cells #[.int .i64 r.code, .int .i64 r.fd, .int .i64 r.num, .bool r.dir, .string r.data, .slice F f f9] 87) = W := ⟨_, rfl⟩
 have hal : Below w.heap.size w W := by rw [← hW]; exact (Below.refl _ _).alloc (Nat.le_refl _) _
 have hrow : ResAt W w.heap.size (.int .i64 r.code) (.int .i64 r.fd) (.int .i64 r.num) (.bool r.dir) (.string r.data) (.slice F f f9) := by rw [← hW]; exact heap_alloc_new w _
 obtain ⟨r0, r1, r2, r3, r4, r5, _⟩ := hrow.get
 have HN := Lib.hid (hn.below hal)
 have HT := Lib.hid (hT.below hal)
 have HB := Lib.hid hal
 have HROW := Lib.hid hrow
 have HRE := Lib.hid hr
 have hlt := hrow.lt
 obtain ⟨c0, c1⟩ := hr.code
 clear hn hT hal hrow hr
 go_enter Tryz.func41, Tryz.ntmps41
 go_wp2_with fail
 refine (itoa_any r.code c0 c1 W HT.out).mono ?_
 rintro e w1 ⟨rfl, hb1⟩
 have HB1 := Lib.hid hb1
 have s0 := (hb1.cell (p := ⟨w.heap.size, 0, none⟩) hlt).trans r0
 have s1 := (hb1.cell (p := ⟨w.heap.size, 1, none⟩) hlt).trans r1
 have s2 := (hb1.cell (p := ⟨w.heap.size, 2, none⟩) hlt).trans r2
 have s3 := (hb1.cell (p := ⟨w.heap.size, 3, none⟩) hlt).trans r3
 have s4 := (hb1.cell (p := ⟨w.heap.size, 4, none⟩) hlt).trans r4
 have s5 := (hb1.cell (p := ⟨w.heap.size, 5, none⟩) hlt).trans r5
 obtain ⟨CT, hCT⟩ : ∃ t, txt (decN r.code) = t := ⟨_, rfl⟩
 rw [hCT]
 have HCT := Lib.hid hCT
 obtain ⟨W2, hW2⟩ : ∃ W2, w1.alloc (.cells #[.string CT] 9) = W2 := ⟨_, rfl⟩
 have hal2 : Below w1.heap.size w1 W2 := by rw [← hW2]; exact (Below.refl _ _).alloc (Nat.le_refl _) _
 have hltw := Nat.lt_of_lt_of_le hlt hb1.size
 have t0 := (hal2.cell (p := ⟨w.heap.size, 0, none⟩) hltw).trans s0
 have t1 := (hal2.cell (p := ⟨w.heap.size, 1, none⟩) hltw).trans s1
 have t2 := (hal2.cell (p := ⟨w.heap.size, 2, none⟩) hltw).trans s2
 have t3 := (hal2.cell (p := ⟨w.heap.size, 3, none⟩) hltw).trans s3
 have t4 := (hal2.cell (p := ⟨w.heap.size, 4, none⟩) hltw).trans s4
 have t5 := (hal2.cell (p := ⟨w.heap.size, 5, none⟩) hltw).trans s5
 have u0 : W2.cell? ⟨w1.heap.size, 0, none⟩ = some (.string CT) := by rw [← hW2, World.cell?_alloc_mark w1 _ _ (0, 0) _]; rfl
 have HB2 := Lib.hid (Cv.next hb1 hal2)
 clear hb1 hal2 s0 s1 s2 s3 s4 s5 r0 r1 r2 r3 r4 r5 hCT
 replace h0 := h0.out
 have e0 : (r.code != 0) = false := by rw [bne_eq_false_iff_eq]; exact h0
 have H0 := Lib.hid h0
 clear h0
 have HOW := Lib.hid (show W2.ownsRow w1.heap.size 9 1 (.slice (some ⟨w1.heap.size, 0, none⟩) 1 1) 1 [.string CT] by
  rw [← hW2]
  exact World.ownsRow_lit w1 #[.string CT] 1 (Nat.le_refl _) (by unfold maxLen; omega) rfl)
 have HB29 := Lib.hid (Cv.next HB.out HB2.out)
 have hs12 : w1.heap.size ≤ W2.heap.size := by rw [← hW2]; simp
 have hw12 : w.heap.size ≤ w1.heap.size := Nat.le_of_lt hltw
 have HTOLD := Lib.hid (show toldL 4 r = [decN r.code, hexT r.data.data.toList] from by unfold toldL; rw [if_neg (fun h => h H0.out)]; rfl)
 go_wp2_with fail
 refine (hexsh_any r.data W2 HRE.out.data).mono ?_
 rintro e w3 ⟨rfl, hb3⟩
 obtain ⟨V, hV⟩ : ∃ V, txt (hexT r.data.data.toList) = V := ⟨_, rfl⟩
 rw [hV]
 have HV := Lib.hid hV
 have HB3 := Lib.hid (HB29.out.trans (hb3.mono HB29.out.size))
 have h13 : w1.heap.size ≤ w3.heap.size := Nat.le_trans hs12 hb3.size
 have HO3 := Lib.hid ((row_below HOW.out hb3).alloc (.cells #[.string V] 9))
 clear hb3 hV t0 t1 t2 t3 t4 t5 u0
 go_wp2_with (at_builtin; refine wpList_append_flat rfl _ _ 46 9 (.string ⟨#[]⟩) 1 16 rfl Tryz.underlying46 infoStr9 rfl (by decide) w1.heap.size _ 1 [.string CT] rfl HO3.out (some ⟨w3.heap.size, 0, none⟩) 1 1 [.string V] rfl rfl (cell_one_new' _ _ _) (fun h => by cases h) (by intro u hu; simp at hu; subst hu; rfl) ?h63 ?hb ?hB ?_)
 case h63 => unfold maxLen; omega
 case hb => omega
 case hB => simp; omega
 intro v9 w9 hown9 hgrow9
 have HO9 := Lib.hid hown9
 have HB9 := Lib.hid ((HB3.out.alloc HB3.out.size (.cells #[.string V] 9)).grown hgrow9 (by simp; omega) (fun k hk => by have := (HO3.out.lt k hk).1; omega))
 clear hown9 hgrow9
 obtain ⟨A9, c9, hv9, hc9, hn9, hg9⟩ := row_any HO9.out (by decide)
 subst hv9
 obtain ⟨g9, hA9, hl9, _, hcell9⟩ := hg9 (by omega)
 subst hA9
 have hxs : ((CT :: [V]).map (·.data.toList)) = toldL 4 r := by
  rw [HTOLD.out, ← HCT.out, ← HV.out]
  rfl
 have h1 := strings_Join g9 0 c9 (CT :: [V]) ⟨#[32]⟩ w9 (fun j x hx => by
  rw [Nat.zero_add, hcell9 j (by have := (List.getElem?_eq_some_iff.1 hx).1; have hnl := (HN.out).1; simp at this; first | (simp; omega) | omega)]
  have h2 : ((CT :: [V]).map Value.string)[j]? = some (.string x) := by rw [List.getElem?_map, hx]; rfl
  simpa using h2) hl9 (by first | (simp; done) | (have := HRE.out.many; simp; omega)) (by first | (simp; done) | simpa using hc9) (by rw [hxs]; exact HRE.out.len 4)
 rw [hxs] at h1
 have H1 := Lib.hid h1
 clear hc9 hn9 hg9 hl9 hcell9 hxs h1
 go_wp2_with fail
 refine H1.out.mono ?_
 rintro e w10 ⟨rfl, hb10⟩
 have HB10 := Lib.hid (HB9.out.trans (hb10.mono HB9.out.size))
 clear hb10
 go_wp2_with fail
 go_ret
 exact ⟨rfl, HB10.out⟩
set_option maxRecDepth 100000 in
set_option maxHeartbeats 4000000 in
theorem told_n13 (r : Re) (F : Option Addr) (f f9 : Nat) (w : World) (hok : SlOk F f f9) (hn : NmsAt none w F f r.names) (hr : ReOk r) (hT : Tab w) (h0 : Hid (r.code = 0)) (hdir : Hid (r.dir = false)) :
  Calls Tryz.prog 41 #[.int .i64 13, .agg #[.int .i64 r.code, .int .i64 r.fd, .int .i64 r.num, .bool r.dir, .string r.data, .slice F f f9]] w fun e w' => e = .returned (.string (txt (Lib.join (toldL 13 r) [32]))) ∧ Below w.heap.size w w' := by
 obtain ⟨W, hW⟩ : ∃ W, w.alloc (.cells #[.int .i64 r.code, .int .i64 r.fd, .int .i64 r.num, .bool r.dir, .string r.data, .slice F f f9] 87) = W := ⟨_, rfl⟩
 have hal : Below w.heap.size w W := by rw [← hW]; exact (Below.refl _ _).alloc (Nat.le_refl _) _
 have hrow : ResAt W w.heap.size (.int .i64 r.code) (.int .i64 r.fd) (.int .i64 r.num) (.bool r.dir) (.string r.data) (.slice F f f9) := by rw [← hW]; exact heap_alloc_new w _
 obtain ⟨r0, r1, r2, r3, r4, r5, _⟩ := hrow.get
 have HN := Lib.hid (hn.below hal)
 have HT := Lib.hid (hT.below hal)
 have HB := Lib.hid hal
 have HROW := Lib.hid hrow
 have HRE := Lib.hid hr
 have hlt := hrow.lt
 obtain ⟨c0, c1⟩ := hr.code
 clear hn hT hal hrow hr
 go_enter Tryz.func41, Tryz.ntmps41
 go_wp2_with fail
 refine (itoa_any r.code c0 c1 W HT.out).mono ?_
 rintro e w1 ⟨rfl, hb1⟩
 have HB1 := Lib.hid hb1
 have s0 := (hb1.cell (p := ⟨w.heap.size, 0, none⟩) hlt).trans r0
 have s1 := (hb1.cell (p := ⟨w.heap.size, 1, none⟩) hlt).trans r1
 have s2 := (hb1.cell (p := ⟨w.heap.size, 2, none⟩) hlt).trans r2
 have s3 := (hb1.cell (p := ⟨w.heap.size, 3, none⟩) hlt).trans r3
 have s4 := (hb1.cell (p := ⟨w.heap.size, 4, none⟩) hlt).trans r4
 have s5 := (hb1.cell (p := ⟨w.heap.size, 5, none⟩) hlt).trans r5
 obtain ⟨CT, hCT⟩ : ∃ t, txt (decN r.code) = t := ⟨_, rfl⟩
 rw [hCT]
 have HCT := Lib.hid hCT
 obtain ⟨W2, hW2⟩ : ∃ W2, w1.alloc (.cells #[.string CT] 9) = W2 := ⟨_, rfl⟩
 have hal2 : Below w1.heap.size w1 W2 := by rw [← hW2]; exact (Below.refl _ _).alloc (Nat.le_refl _) _
 have hltw := Nat.lt_of_lt_of_le hlt hb1.size
 have t0 := (hal2.cell (p := ⟨w.heap.size, 0, none⟩) hltw).trans s0
 have t1 := (hal2.cell (p := ⟨w.heap.size, 1, none⟩) hltw).trans s1
 have t2 := (hal2.cell (p := ⟨w.heap.size, 2, none⟩) hltw).trans s2
 have t3 := (hal2.cell (p := ⟨w.heap.size, 3, none⟩) hltw).trans s3
 have t4 := (hal2.cell (p := ⟨w.heap.size, 4, none⟩) hltw).trans s4
 have t5 := (hal2.cell (p := ⟨w.heap.size, 5, none⟩) hltw).trans s5
 have u0 : W2.cell? ⟨w1.heap.size, 0, none⟩ = some (.string CT) := by rw [← hW2, World.cell?_alloc_mark w1 _ _ (0, 0) _]; rfl
 have HB2 := Lib.hid (Cv.next hb1 hal2)
 clear hb1 hal2 s0 s1 s2 s3 s4 s5 r0 r1 r2 r3 r4 r5 hCT
 replace h0 := h0.out
 have e0 : (r.code != 0) = false := by rw [bne_eq_false_iff_eq]; exact h0
 have H0 := Lib.hid h0
 clear h0
 have HOW := Lib.hid (show W2.ownsRow w1.heap.size 9 1 (.slice (some ⟨w1.heap.size, 0, none⟩) 1 1) 1 [.string CT] by
  rw [← hW2]
  exact World.ownsRow_lit w1 #[.string CT] 1 (Nat.le_refl _) (by unfold maxLen; omega) rfl)
 have HB29 := Lib.hid (Cv.next HB.out HB2.out)
 have hs12 : w1.heap.size ≤ W2.heap.size := by rw [← hW2]; simp
 have hw12 : w.heap.size ≤ w1.heap.size := Nat.le_of_lt hltw
 replace hdir := hdir.out
 have HTOLD := Lib.hid (show toldL 13 r = [decN r.code, decN r.num] from by unfold toldL; rw [if_neg (fun h => h H0.out)]; simp [hdir])
 rw [hdir] at t3
 clear hdir
 go_wp2_with fail
 refine (itoa_any r.num HRE.out.num.1 HRE.out.num.2 W2 (HT.out.below HB2.out)).mono ?_
 rintro e w3 ⟨rfl, hb3⟩
 obtain ⟨V, hV⟩ : ∃ V, txt (decN r.num) = V := ⟨_, rfl⟩
 rw [hV]
 have HV := Lib.hid hV
 have HB3 := Lib.hid (HB29.out.trans (hb3.mono HB29.out.size))
 have h13 : w1.heap.size ≤ w3.heap.size := Nat.le_trans hs12 hb3.size
 have HO3 := Lib.hid ((row_below HOW.out hb3).alloc (.cells #[.string V] 9))
 clear hb3 hV t0 t1 t2 t3 t4 t5 u0
 go_wp2_with (at_builtin; refine wpList_append_flat rfl _ _ 46 9 (.string ⟨#[]⟩) 1 16 rfl Tryz.underlying46 infoStr9 rfl (by decide) w1.heap.size _ 1 [.string CT] rfl HO3.out (some ⟨w3.heap.size, 0, none⟩) 1 1 [.string V] rfl rfl (cell_one_new' _ _ _) (fun h => by cases h) (by intro u hu; simp at hu; subst hu; rfl) ?h63 ?hb ?hB ?_)
 case h63 => unfold maxLen; omega
 case hb => omega
 case hB => simp; omega
 intro v9 w9 hown9 hgrow9
 have HO9 := Lib.hid hown9
 have HB9 := Lib.hid ((HB3.out.alloc HB3.out.size (.cells #[.string V] 9)).grown hgrow9 (by simp; omega) (fun k hk => by have := (HO3.out.lt k hk).1; omega))
 clear hown9 hgrow9
 obtain ⟨A9, c9, hv9, hc9, hn9, hg9⟩ := row_any HO9.out (by decide)
 subst hv9
 obtain ⟨g9, hA9, hl9, _, hcell9⟩ := hg9 (by omega)
 subst hA9
 have hxs : ((CT :: [V]).map (·.data.toList)) = toldL 13 r := by
  rw [HTOLD.out, ← HCT.out, ← HV.out]
  rfl
 have h1 := strings_Join g9 0 c9 (CT :: [V]) ⟨#[32]⟩ w9 (fun j x hx => by
  rw [Nat.zero_add, hcell9 j (by have := (List.getElem?_eq_some_iff.1 hx).1; have hnl := (HN.out).1; simp at this; first | (simp; omega) | omega)]
  have h2 : ((CT :: [V]).map Value.string)[j]? = some (.string x) := by rw [List.getElem?_map, hx]; rfl
  simpa using h2) hl9 (by first | (simp; done) | (have := HRE.out.many; simp; omega)) (by first | (simp; done) | simpa using hc9) (by rw [hxs]; exact HRE.out.len 13)
 rw [hxs] at h1
 have H1 := Lib.hid h1
 clear hc9 hn9 hg9 hl9 hcell9 hxs h1
 go_wp2_with fail
 refine H1.out.mono ?_
 rintro e w10 ⟨rfl, hb10⟩
 have HB10 := Lib.hid (HB9.out.trans (hb10.mono HB9.out.size))
 clear hb10
 go_wp2_with fail
 go_ret
 exact ⟨rfl, HB10.out⟩
set_option maxRecDepth 100000 in
set_option maxHeartbeats 4000000 in
theorem told_d13 (r : Re) (F : Option Addr) (f f9 : Nat) (w : World) (hok : SlOk F f f9) (hn : NmsAt none w F f r.names) (hr : ReOk r) (hT : Tab w) (h0 : Hid (r.code = 0)) (hdir : Hid (r.dir = true)) :
  Calls Tryz.prog 41 #[.int .i64 13, .agg #[.int .i64 r.code, .int .i64 r.fd, .int .i64 r.num, .bool r.dir, .string r.data, .slice F f f9]] w fun e w' => e = .returned (.string (txt (Lib.join (toldL 13 r) [32]))) ∧ Below w.heap.size w w' := by
 obtain ⟨W, hW⟩ : ∃ W, w.alloc (.cells #[.int .i64 r.code, .int .i64 r.fd, .int .i64 r.num, .bool r.dir, .string r.data, .slice F f f9] 87) = W := ⟨_, rfl⟩
 have hal : Below w.heap.size w W := by rw [← hW]; exact (Below.refl _ _).alloc (Nat.le_refl _) _
 have hrow : ResAt W w.heap.size (.int .i64 r.code) (.int .i64 r.fd) (.int .i64 r.num) (.bool r.dir) (.string r.data) (.slice F f f9) := by rw [← hW]; exact heap_alloc_new w _
 obtain ⟨r0, r1, r2, r3, r4, r5, _⟩ := hrow.get
 have HN := Lib.hid (hn.below hal)
 have HT := Lib.hid (hT.below hal)
 have HB := Lib.hid hal
 have HROW := Lib.hid hrow
 have HRE := Lib.hid hr
 have hlt := hrow.lt
 obtain ⟨c0, c1⟩ := hr.code
 clear hn hT hal hrow hr
 go_enter Tryz.func41, Tryz.ntmps41
 go_wp2_with fail
 refine (itoa_any r.code c0 c1 W HT.out).mono ?_
 rintro e w1 ⟨rfl, hb1⟩
 have HB1 := Lib.hid hb1
 have s0 := (hb1.cell (p := ⟨w.heap.size, 0, none⟩) hlt).trans r0
 have s1 := (hb1.cell (p := ⟨w.heap.size, 1, none⟩) hlt).trans r1
 have s2 := (hb1.cell (p := ⟨w.heap.size, 2, none⟩) hlt).trans r2
 have s3 := (hb1.cell (p := ⟨w.heap.size, 3, none⟩) hlt).trans r3
 have s4 := (hb1.cell (p := ⟨w.heap.size, 4, none⟩) hlt).trans r4
 have s5 := (hb1.cell (p := ⟨w.heap.size, 5, none⟩) hlt).trans r5
 obtain ⟨CT, hCT⟩ : ∃ t, txt (decN r.code) = t := ⟨_, rfl⟩
 rw [hCT]
 have HCT := Lib.hid hCT
 obtain ⟨W2, hW2⟩ : ∃ W2, w1.alloc (.cells #[.string CT] 9) = W2 := ⟨_, rfl⟩
 have hal2 : Below w1.heap.size w1 W2 := by rw [← hW2]; exact (Below.refl _ _).alloc (Nat.le_refl _) _
 have hltw := Nat.lt_of_lt_of_le hlt hb1.size
 have t0 := (hal2.cell (p := ⟨w.heap.size, 0, none⟩) hltw).trans s0
 have t1 := (hal2.cell (p := ⟨w.heap.size, 1, none⟩) hltw).trans s1
 have t2 := (hal2.cell (p := ⟨w.heap.size, 2, none⟩) hltw).trans s2
 have t3 := (hal2.cell (p := ⟨w.heap.size, 3, none⟩) hltw).trans s3
 have t4 := (hal2.cell (p := ⟨w.heap.size, 4, none⟩) hltw).trans s4
 have t5 := (hal2.cell (p := ⟨w.heap.size, 5, none⟩) hltw).trans s5
 have u0 : W2.cell? ⟨w1.heap.size, 0, none⟩ = some (.string CT) := by rw [← hW2, World.cell?_alloc_mark w1 _ _ (0, 0) _]; rfl
 have HB2 := Lib.hid (Cv.next hb1 hal2)
 clear hb1 hal2 s0 s1 s2 s3 s4 s5 r0 r1 r2 r3 r4 r5 hCT
 replace h0 := h0.out
 have e0 : (r.code != 0) = false := by rw [bne_eq_false_iff_eq]; exact h0
 have H0 := Lib.hid h0
 clear h0
 have HOW := Lib.hid (show W2.ownsRow w1.heap.size 9 1 (.slice (some ⟨w1.heap.size, 0, none⟩) 1 1) 1 [.string CT] by
  rw [← hW2]
  exact World.ownsRow_lit w1 #[.string CT] 1 (Nat.le_refl _) (by unfold maxLen; omega) rfl)
 have HB29 := Lib.hid (Cv.next HB.out HB2.out)
 have hs12 : w1.heap.size ≤ W2.heap.size := by rw [← hW2]; simp
 have hw12 : w.heap.size ≤ w1.heap.size := Nat.le_of_lt hltw
 replace hdir := hdir.out
 have HTOLD := Lib.hid (show toldL 13 r = [decN r.code, [100, 105, 114]] from by unfold toldL; rw [if_neg (fun h => h H0.out)]; simp [hdir])
 rw [hdir] at t3
 clear hdir
 obtain ⟨w3, hw3⟩ : ∃ w3, w3 = W2 := ⟨_, rfl⟩
 obtain ⟨V, hV⟩ : ∃ V : ByteArray, ⟨#[100, 105, 114]⟩ = V := ⟨_, rfl⟩
 have HV := Lib.hid hV
 have HB3 := Lib.hid (show Below w.heap.size w w3 by rw [hw3]; exact HB29.out)
 have h13 : w1.heap.size ≤ w3.heap.size := by rw [hw3]; exact hs12
 have HO3 := Lib.hid (show (w3.alloc (.cells #[.string ⟨#[100, 105, 114]⟩] 9)).ownsRow w1.heap.size 9 1 (.slice (some ⟨w1.heap.size, 0, none⟩) 1 1) 1 [.string CT] by rw [hw3]; exact HOW.out.alloc _)
 subst hw3
 subst hV
 go_wp2_with (at_builtin; refine wpList_append_flat rfl _ _ 46 9 (.string ⟨#[]⟩) 1 16 rfl Tryz.underlying46 infoStr9 rfl (by decide) w1.heap.size _ 1 [.string CT] rfl HO3.out (some ⟨w3.heap.size, 0, none⟩) 1 1 [.string ⟨#[100, 105, 114]⟩] rfl rfl (cell_one_new' _ _ _) (fun h => by cases h) (by intro u hu; simp at hu; subst hu; rfl) ?h63 ?hb ?hB ?_)
 case h63 => unfold maxLen; omega
 case hb => omega
 case hB => simp; omega
 intro v9 w9 hown9 hgrow9
 have HO9 := Lib.hid hown9
 have HB9 := Lib.hid ((HB3.out.alloc HB3.out.size (.cells #[.string ⟨#[100, 105, 114]⟩] 9)).grown hgrow9 (by simp; omega) (fun k hk => by have := (HO3.out.lt k hk).1; omega))
 clear hown9 hgrow9
 obtain ⟨A9, c9, hv9, hc9, hn9, hg9⟩ := row_any HO9.out (by decide)
 subst hv9
 obtain ⟨g9, hA9, hl9, _, hcell9⟩ := hg9 (by omega)
 subst hA9
 have hxs : ((CT :: [⟨#[100, 105, 114]⟩]).map (·.data.toList)) = toldL 13 r := by
  rw [HTOLD.out, ← HCT.out]
  rfl
 have h1 := strings_Join g9 0 c9 (CT :: [⟨#[100, 105, 114]⟩]) ⟨#[32]⟩ w9 (fun j x hx => by
  rw [Nat.zero_add, hcell9 j (by have := (List.getElem?_eq_some_iff.1 hx).1; have hnl := (HN.out).1; simp at this; first | (simp; omega) | omega)]
  have h2 : ((CT :: [⟨#[100, 105, 114]⟩]).map Value.string)[j]? = some (.string x) := by rw [List.getElem?_map, hx]; rfl
  simpa using h2) hl9 (by first | (simp; done) | (have := HRE.out.many; simp; omega)) (by first | (simp; done) | simpa using hc9) (by rw [hxs]; exact HRE.out.len 13)
 rw [hxs] at h1
 have H1 := Lib.hid h1
 clear hc9 hn9 hg9 hl9 hcell9 hxs h1
 go_wp2_with fail
 refine H1.out.mono ?_
 rintro e w10 ⟨rfl, hb10⟩
 have HB10 := Lib.hid (HB9.out.trans (hb10.mono HB9.out.size))
 clear hb10
 go_wp2_with fail
 go_ret
 exact ⟨rfl, HB10.out⟩
set_option maxRecDepth 100000 in
set_option maxHeartbeats 4000000 in
theorem told_n14 (r : Re) (F : Option Addr) (f f9 : Nat) (w : World) (hok : SlOk F f f9) (hn : NmsAt none w F f r.names) (hr : ReOk r) (hT : Tab w) (h0 : Hid (r.code = 0)) (hdir : Hid (r.dir = false)) :
  Calls Tryz.prog 41 #[.int .i64 14, .agg #[.int .i64 r.code, .int .i64 r.fd, .int .i64 r.num, .bool r.dir, .string r.data, .slice F f f9]] w fun e w' => e = .returned (.string (txt (Lib.join (toldL 14 r) [32]))) ∧ Below w.heap.size w w' := by
 obtain ⟨W, hW⟩ : ∃ W, w.alloc (.cells #[.int .i64 r.code, .int .i64 r.fd, .int .i64 r.num, .bool r.dir, .string r.data, .slice F f f9] 87) = W := ⟨_, rfl⟩
 have hal : Below w.heap.size w W := by rw [← hW]; exact (Below.refl _ _).alloc (Nat.le_refl _) _
 have hrow : ResAt W w.heap.size (.int .i64 r.code) (.int .i64 r.fd) (.int .i64 r.num) (.bool r.dir) (.string r.data) (.slice F f f9) := by rw [← hW]; exact heap_alloc_new w _
 obtain ⟨r0, r1, r2, r3, r4, r5, _⟩ := hrow.get
 have HN := Lib.hid (hn.below hal)
 have HT := Lib.hid (hT.below hal)
 have HB := Lib.hid hal
 have HROW := Lib.hid hrow
 have HRE := Lib.hid hr
 have hlt := hrow.lt
 obtain ⟨c0, c1⟩ := hr.code
 clear hn hT hal hrow hr
 go_enter Tryz.func41, Tryz.ntmps41
 go_wp2_with fail
 refine (itoa_any r.code c0 c1 W HT.out).mono ?_
 rintro e w1 ⟨rfl, hb1⟩
 have HB1 := Lib.hid hb1
 have s0 := (hb1.cell (p := ⟨w.heap.size, 0, none⟩) hlt).trans r0
 have s1 := (hb1.cell (p := ⟨w.heap.size, 1, none⟩) hlt).trans r1
 have s2 := (hb1.cell (p := ⟨w.heap.size, 2, none⟩) hlt).trans r2
 have s3 := (hb1.cell (p := ⟨w.heap.size, 3, none⟩) hlt).trans r3
 have s4 := (hb1.cell (p := ⟨w.heap.size, 4, none⟩) hlt).trans r4
 have s5 := (hb1.cell (p := ⟨w.heap.size, 5, none⟩) hlt).trans r5
 obtain ⟨CT, hCT⟩ : ∃ t, txt (decN r.code) = t := ⟨_, rfl⟩
 rw [hCT]
 have HCT := Lib.hid hCT
 obtain ⟨W2, hW2⟩ : ∃ W2, w1.alloc (.cells #[.string CT] 9) = W2 := ⟨_, rfl⟩
 have hal2 : Below w1.heap.size w1 W2 := by rw [← hW2]; exact (Below.refl _ _).alloc (Nat.le_refl _) _
 have hltw := Nat.lt_of_lt_of_le hlt hb1.size
 have t0 := (hal2.cell (p := ⟨w.heap.size, 0, none⟩) hltw).trans s0
 have t1 := (hal2.cell (p := ⟨w.heap.size, 1, none⟩) hltw).trans s1
 have t2 := (hal2.cell (p := ⟨w.heap.size, 2, none⟩) hltw).trans s2
 have t3 := (hal2.cell (p := ⟨w.heap.size, 3, none⟩) hltw).trans s3
 have t4 := (hal2.cell (p := ⟨w.heap.size, 4, none⟩) hltw).trans s4
 have t5 := (hal2.cell (p := ⟨w.heap.size, 5, none⟩) hltw).trans s5
 have u0 : W2.cell? ⟨w1.heap.size, 0, none⟩ = some (.string CT) := by rw [← hW2, World.cell?_alloc_mark w1 _ _ (0, 0) _]; rfl
 have HB2 := Lib.hid (Cv.next hb1 hal2)
 clear hb1 hal2 s0 s1 s2 s3 s4 s5 r0 r1 r2 r3 r4 r5 hCT
 replace h0 := h0.out
 have e0 : (r.code != 0) = false := by rw [bne_eq_false_iff_eq]; exact h0
 have H0 := Lib.hid h0
 clear h0
 have HOW := Lib.hid (show W2.ownsRow w1.heap.size 9 1 (.slice (some ⟨w1.heap.size, 0, none⟩) 1 1) 1 [.string CT] by
  rw [← hW2]
  exact World.ownsRow_lit w1 #[.string CT] 1 (Nat.le_refl _) (by unfold maxLen; omega) rfl)
 have HB29 := Lib.hid (Cv.next HB.out HB2.out)
 have hs12 : w1.heap.size ≤ W2.heap.size := by rw [← hW2]; simp
 have hw12 : w.heap.size ≤ w1.heap.size := Nat.le_of_lt hltw
 replace hdir := hdir.out
 have HTOLD := Lib.hid (show toldL 14 r = [decN r.code, decN r.num] from by unfold toldL; rw [if_neg (fun h => h H0.out)]; simp [hdir])
 rw [hdir] at t3
 clear hdir
 go_wp2_with fail
 refine (itoa_any r.num HRE.out.num.1 HRE.out.num.2 W2 (HT.out.below HB2.out)).mono ?_
 rintro e w3 ⟨rfl, hb3⟩
 obtain ⟨V, hV⟩ : ∃ V, txt (decN r.num) = V := ⟨_, rfl⟩
 rw [hV]
 have HV := Lib.hid hV
 have HB3 := Lib.hid (HB29.out.trans (hb3.mono HB29.out.size))
 have h13 : w1.heap.size ≤ w3.heap.size := Nat.le_trans hs12 hb3.size
 have HO3 := Lib.hid ((row_below HOW.out hb3).alloc (.cells #[.string V] 9))
 clear hb3 hV t0 t1 t2 t3 t4 t5 u0
 go_wp2_with (at_builtin; refine wpList_append_flat rfl _ _ 46 9 (.string ⟨#[]⟩) 1 16 rfl Tryz.underlying46 infoStr9 rfl (by decide) w1.heap.size _ 1 [.string CT] rfl HO3.out (some ⟨w3.heap.size, 0, none⟩) 1 1 [.string V] rfl rfl (cell_one_new' _ _ _) (fun h => by cases h) (by intro u hu; simp at hu; subst hu; rfl) ?h63 ?hb ?hB ?_)
 case h63 => unfold maxLen; omega
 case hb => omega
 case hB => simp; omega
 intro v9 w9 hown9 hgrow9
 have HO9 := Lib.hid hown9
 have HB9 := Lib.hid ((HB3.out.alloc HB3.out.size (.cells #[.string V] 9)).grown hgrow9 (by simp; omega) (fun k hk => by have := (HO3.out.lt k hk).1; omega))
 clear hown9 hgrow9
 obtain ⟨A9, c9, hv9, hc9, hn9, hg9⟩ := row_any HO9.out (by decide)
 subst hv9
 obtain ⟨g9, hA9, hl9, _, hcell9⟩ := hg9 (by omega)
 subst hA9
 have hxs : ((CT :: [V]).map (·.data.toList)) = toldL 14 r := by
  rw [HTOLD.out, ← HCT.out, ← HV.out]
  rfl
 have h1 := strings_Join g9 0 c9 (CT :: [V]) ⟨#[32]⟩ w9 (fun j x hx => by
  rw [Nat.zero_add, hcell9 j (by have := (List.getElem?_eq_some_iff.1 hx).1; have hnl := (HN.out).1; simp at this; first | (simp; omega) | omega)]
  have h2 : ((CT :: [V]).map Value.string)[j]? = some (.string x) := by rw [List.getElem?_map, hx]; rfl
  simpa using h2) hl9 (by first | (simp; done) | (have := HRE.out.many; simp; omega)) (by first | (simp; done) | simpa using hc9) (by rw [hxs]; exact HRE.out.len 14)
 rw [hxs] at h1
 have H1 := Lib.hid h1
 clear hc9 hn9 hg9 hl9 hcell9 hxs h1
 go_wp2_with fail
 refine H1.out.mono ?_
 rintro e w10 ⟨rfl, hb10⟩
 have HB10 := Lib.hid (HB9.out.trans (hb10.mono HB9.out.size))
 clear hb10
 go_wp2_with fail
 go_ret
 exact ⟨rfl, HB10.out⟩
set_option maxRecDepth 100000 in
set_option maxHeartbeats 4000000 in
theorem told_d14 (r : Re) (F : Option Addr) (f f9 : Nat) (w : World) (hok : SlOk F f f9) (hn : NmsAt none w F f r.names) (hr : ReOk r) (hT : Tab w) (h0 : Hid (r.code = 0)) (hdir : Hid (r.dir = true)) :
  Calls Tryz.prog 41 #[.int .i64 14, .agg #[.int .i64 r.code, .int .i64 r.fd, .int .i64 r.num, .bool r.dir, .string r.data, .slice F f f9]] w fun e w' => e = .returned (.string (txt (Lib.join (toldL 14 r) [32]))) ∧ Below w.heap.size w w' := by
 obtain ⟨W, hW⟩ : ∃ W, w.alloc (.cells #[.int .i64 r.code, .int .i64 r.fd, .int .i64 r.num, .bool r.dir, .string r.data, .slice F f f9] 87) = W := ⟨_, rfl⟩
 have hal : Below w.heap.size w W := by rw [← hW]; exact (Below.refl _ _).alloc (Nat.le_refl _) _
 have hrow : ResAt W w.heap.size (.int .i64 r.code) (.int .i64 r.fd) (.int .i64 r.num) (.bool r.dir) (.string r.data) (.slice F f f9) := by rw [← hW]; exact heap_alloc_new w _
 obtain ⟨r0, r1, r2, r3, r4, r5, _⟩ := hrow.get
 have HN := Lib.hid (hn.below hal)
 have HT := Lib.hid (hT.below hal)
 have HB := Lib.hid hal
 have HROW := Lib.hid hrow
 have HRE := Lib.hid hr
 have hlt := hrow.lt
 obtain ⟨c0, c1⟩ := hr.code
 clear hn hT hal hrow hr
 go_enter Tryz.func41, Tryz.ntmps41
 go_wp2_with fail
 refine (itoa_any r.code c0 c1 W HT.out).mono ?_
 rintro e w1 ⟨rfl, hb1⟩
 have HB1 := Lib.hid hb1
 have s0 := (hb1.cell (p := ⟨w.heap.size, 0, none⟩) hlt).trans r0
 have s1 := (hb1.cell (p := ⟨w.heap.size, 1, none⟩) hlt).trans r1
 have s2 := (hb1.cell (p := ⟨w.heap.size, 2, none⟩) hlt).trans r2
 have s3 := (hb1.cell (p := ⟨w.heap.size, 3, none⟩) hlt).trans r3
 have s4 := (hb1.cell (p := ⟨w.heap.size, 4, none⟩) hlt).trans r4
 have s5 := (hb1.cell (p := ⟨w.heap.size, 5, none⟩) hlt).trans r5
 obtain ⟨CT, hCT⟩ : ∃ t, txt (decN r.code) = t := ⟨_, rfl⟩
 rw [hCT]
 have HCT := Lib.hid hCT
 obtain ⟨W2, hW2⟩ : ∃ W2, w1.alloc (.cells #[.string CT] 9) = W2 := ⟨_, rfl⟩
 have hal2 : Below w1.heap.size w1 W2 := by rw [← hW2]; exact (Below.refl _ _).alloc (Nat.le_refl _) _
 have hltw := Nat.lt_of_lt_of_le hlt hb1.size
 have t0 := (hal2.cell (p := ⟨w.heap.size, 0, none⟩) hltw).trans s0
 have t1 := (hal2.cell (p := ⟨w.heap.size, 1, none⟩) hltw).trans s1
 have t2 := (hal2.cell (p := ⟨w.heap.size, 2, none⟩) hltw).trans s2
 have t3 := (hal2.cell (p := ⟨w.heap.size, 3, none⟩) hltw).trans s3
 have t4 := (hal2.cell (p := ⟨w.heap.size, 4, none⟩) hltw).trans s4
 have t5 := (hal2.cell (p := ⟨w.heap.size, 5, none⟩) hltw).trans s5
 have u0 : W2.cell? ⟨w1.heap.size, 0, none⟩ = some (.string CT) := by rw [← hW2, World.cell?_alloc_mark w1 _ _ (0, 0) _]; rfl
 have HB2 := Lib.hid (Cv.next hb1 hal2)
 clear hb1 hal2 s0 s1 s2 s3 s4 s5 r0 r1 r2 r3 r4 r5 hCT
 replace h0 := h0.out
 have e0 : (r.code != 0) = false := by rw [bne_eq_false_iff_eq]; exact h0
 have H0 := Lib.hid h0
 clear h0
 have HOW := Lib.hid (show W2.ownsRow w1.heap.size 9 1 (.slice (some ⟨w1.heap.size, 0, none⟩) 1 1) 1 [.string CT] by
  rw [← hW2]
  exact World.ownsRow_lit w1 #[.string CT] 1 (Nat.le_refl _) (by unfold maxLen; omega) rfl)
 have HB29 := Lib.hid (Cv.next HB.out HB2.out)
 have hs12 : w1.heap.size ≤ W2.heap.size := by rw [← hW2]; simp
 have hw12 : w.heap.size ≤ w1.heap.size := Nat.le_of_lt hltw
 replace hdir := hdir.out
 have HTOLD := Lib.hid (show toldL 14 r = [decN r.code, [100, 105, 114]] from by unfold toldL; rw [if_neg (fun h => h H0.out)]; simp [hdir])
 rw [hdir] at t3
 clear hdir
 obtain ⟨w3, hw3⟩ : ∃ w3, w3 = W2 := ⟨_, rfl⟩
 obtain ⟨V, hV⟩ : ∃ V : ByteArray, ⟨#[100, 105, 114]⟩ = V := ⟨_, rfl⟩
 have HV := Lib.hid hV
 have HB3 := Lib.hid (show Below w.heap.size w w3 by rw [hw3]; exact HB29.out)
 have h13 : w1.heap.size ≤ w3.heap.size := by rw [hw3]; exact hs12
 have HO3 := Lib.hid (show (w3.alloc (.cells #[.string ⟨#[100, 105, 114]⟩] 9)).ownsRow w1.heap.size 9 1 (.slice (some ⟨w1.heap.size, 0, none⟩) 1 1) 1 [.string CT] by rw [hw3]; exact HOW.out.alloc _)
 subst hw3
 subst hV
 go_wp2_with (at_builtin; refine wpList_append_flat rfl _ _ 46 9 (.string ⟨#[]⟩) 1 16 rfl Tryz.underlying46 infoStr9 rfl (by decide) w1.heap.size _ 1 [.string CT] rfl HO3.out (some ⟨w3.heap.size, 0, none⟩) 1 1 [.string ⟨#[100, 105, 114]⟩] rfl rfl (cell_one_new' _ _ _) (fun h => by cases h) (by intro u hu; simp at hu; subst hu; rfl) ?h63 ?hb ?hB ?_)
 case h63 => unfold maxLen; omega
 case hb => omega
 case hB => simp; omega
 intro v9 w9 hown9 hgrow9
 have HO9 := Lib.hid hown9
 have HB9 := Lib.hid ((HB3.out.alloc HB3.out.size (.cells #[.string ⟨#[100, 105, 114]⟩] 9)).grown hgrow9 (by simp; omega) (fun k hk => by have := (HO3.out.lt k hk).1; omega))
 clear hown9 hgrow9
 obtain ⟨A9, c9, hv9, hc9, hn9, hg9⟩ := row_any HO9.out (by decide)
 subst hv9
 obtain ⟨g9, hA9, hl9, _, hcell9⟩ := hg9 (by omega)
 subst hA9
 have hxs : ((CT :: [⟨#[100, 105, 114]⟩]).map (·.data.toList)) = toldL 14 r := by
  rw [HTOLD.out, ← HCT.out]
  rfl
 have h1 := strings_Join g9 0 c9 (CT :: [⟨#[100, 105, 114]⟩]) ⟨#[32]⟩ w9 (fun j x hx => by
  rw [Nat.zero_add, hcell9 j (by have := (List.getElem?_eq_some_iff.1 hx).1; have hnl := (HN.out).1; simp at this; first | (simp; omega) | omega)]
  have h2 : ((CT :: [⟨#[100, 105, 114]⟩]).map Value.string)[j]? = some (.string x) := by rw [List.getElem?_map, hx]; rfl
  simpa using h2) hl9 (by first | (simp; done) | (have := HRE.out.many; simp; omega)) (by first | (simp; done) | simpa using hc9) (by rw [hxs]; exact HRE.out.len 14)
 rw [hxs] at h1
 have H1 := Lib.hid h1
 clear hc9 hn9 hg9 hl9 hcell9 hxs h1
 go_wp2_with fail
 refine H1.out.mono ?_
 rintro e w10 ⟨rfl, hb10⟩
 have HB10 := Lib.hid (HB9.out.trans (hb10.mono HB9.out.size))
 clear hb10
 go_wp2_with fail
 go_ret
 exact ⟨rfl, HB10.out⟩
set_option maxRecDepth 100000 in
set_option maxHeartbeats 4000000 in
theorem told_n7 (r : Re) (F : Option Addr) (f f9 : Nat) (w : World) (hok : SlOk F f f9) (hn : NmsAt none w F f r.names) (hr : ReOk r) (hT : Tab w) (h0 : Hid (r.code = 0)) (hdir : Hid (r.dir = false)) :
  Calls Tryz.prog 41 #[.int .i64 7, .agg #[.int .i64 r.code, .int .i64 r.fd, .int .i64 r.num, .bool r.dir, .string r.data, .slice F f f9]] w fun e w' => e = .returned (.string (txt (Lib.join (toldL 7 r) [32]))) ∧ Below w.heap.size w w' := by
 obtain ⟨W, hW⟩ : ∃ W, w.alloc (.cells #[.int .i64 r.code, .int .i64 r.fd, .int .i64 r.num, .bool r.dir, .string r.data, .slice F f f9] 87) = W := ⟨_, rfl⟩
 have hal : Below w.heap.size w W := by rw [← hW]; exact (Below.refl _ _).alloc (Nat.le_refl _) _
 have hrow : ResAt W w.heap.size (.int .i64 r.code) (.int .i64 r.fd) (.int .i64 r.num) (.bool r.dir) (.string r.data) (.slice F f f9) := by rw [← hW]; exact heap_alloc_new w _
 obtain ⟨r0, r1, r2, r3, r4, r5, _⟩ := hrow.get
 have HN := Lib.hid (hn.below hal)
 have HT := Lib.hid (hT.below hal)
 have HB := Lib.hid hal
 have HROW := Lib.hid hrow
 have HRE := Lib.hid hr
 have hlt := hrow.lt
 obtain ⟨c0, c1⟩ := hr.code
 clear hn hT hal hrow hr
 go_enter Tryz.func41, Tryz.ntmps41
 go_wp2_with fail
 refine (itoa_any r.code c0 c1 W HT.out).mono ?_
 rintro e w1 ⟨rfl, hb1⟩
 have HB1 := Lib.hid hb1
 have s0 := (hb1.cell (p := ⟨w.heap.size, 0, none⟩) hlt).trans r0
 have s1 := (hb1.cell (p := ⟨w.heap.size, 1, none⟩) hlt).trans r1
 have s2 := (hb1.cell (p := ⟨w.heap.size, 2, none⟩) hlt).trans r2
 have s3 := (hb1.cell (p := ⟨w.heap.size, 3, none⟩) hlt).trans r3
 have s4 := (hb1.cell (p := ⟨w.heap.size, 4, none⟩) hlt).trans r4
 have s5 := (hb1.cell (p := ⟨w.heap.size, 5, none⟩) hlt).trans r5
 obtain ⟨CT, hCT⟩ : ∃ t, txt (decN r.code) = t := ⟨_, rfl⟩
 rw [hCT]
 have HCT := Lib.hid hCT
 obtain ⟨W2, hW2⟩ : ∃ W2, w1.alloc (.cells #[.string CT] 9) = W2 := ⟨_, rfl⟩
 have hal2 : Below w1.heap.size w1 W2 := by rw [← hW2]; exact (Below.refl _ _).alloc (Nat.le_refl _) _
 have hltw := Nat.lt_of_lt_of_le hlt hb1.size
 have t0 := (hal2.cell (p := ⟨w.heap.size, 0, none⟩) hltw).trans s0
 have t1 := (hal2.cell (p := ⟨w.heap.size, 1, none⟩) hltw).trans s1
 have t2 := (hal2.cell (p := ⟨w.heap.size, 2, none⟩) hltw).trans s2
 have t3 := (hal2.cell (p := ⟨w.heap.size, 3, none⟩) hltw).trans s3
 have t4 := (hal2.cell (p := ⟨w.heap.size, 4, none⟩) hltw).trans s4
 have t5 := (hal2.cell (p := ⟨w.heap.size, 5, none⟩) hltw).trans s5
 have u0 : W2.cell? ⟨w1.heap.size, 0, none⟩ = some (.string CT) := by rw [← hW2, World.cell?_alloc_mark w1 _ _ (0, 0) _]; rfl
 have HB2 := Lib.hid (Cv.next hb1 hal2)
 clear hb1 hal2 s0 s1 s2 s3 s4 s5 r0 r1 r2 r3 r4 r5 hCT
 replace h0 := h0.out
 have e0 : (r.code != 0) = false := by rw [bne_eq_false_iff_eq]; exact h0
 have H0 := Lib.hid h0
 clear h0
 have HOW := Lib.hid (show W2.ownsRow w1.heap.size 9 1 (.slice (some ⟨w1.heap.size, 0, none⟩) 1 1) 1 [.string CT] by
  rw [← hW2]
  exact World.ownsRow_lit w1 #[.string CT] 1 (Nat.le_refl _) (by unfold maxLen; omega) rfl)
 have HB29 := Lib.hid (Cv.next HB.out HB2.out)
 have hs12 : w1.heap.size ≤ W2.heap.size := by rw [← hW2]; simp
 have hw12 : w.heap.size ≤ w1.heap.size := Nat.le_of_lt hltw
 replace hdir := hdir.out
 have HTOLD := Lib.hid (show toldL 7 r = [decN r.code, decN r.num] from by unfold toldL; rw [if_neg (fun h => h H0.out)]; simp [hdir])
 rw [hdir] at t3
 clear hdir
 go_wp2_with fail
 refine (itoa_any r.num HRE.out.num.1 HRE.out.num.2 W2 (HT.out.below HB2.out)).mono ?_
 rintro e w3 ⟨rfl, hb3⟩
 obtain ⟨V, hV⟩ : ∃ V, txt (decN r.num) = V := ⟨_, rfl⟩
 rw [hV]
 have HV := Lib.hid hV
 have HB3 := Lib.hid (HB29.out.trans (hb3.mono HB29.out.size))
 have h13 : w1.heap.size ≤ w3.heap.size := Nat.le_trans hs12 hb3.size
 have HO3 := Lib.hid ((row_below HOW.out hb3).alloc (.cells #[.string V] 9))
 clear hb3 hV t0 t1 t2 t3 t4 t5 u0
 go_wp2_with (at_builtin; refine wpList_append_flat rfl _ _ 46 9 (.string ⟨#[]⟩) 1 16 rfl Tryz.underlying46 infoStr9 rfl (by decide) w1.heap.size _ 1 [.string CT] rfl HO3.out (some ⟨w3.heap.size, 0, none⟩) 1 1 [.string V] rfl rfl (cell_one_new' _ _ _) (fun h => by cases h) (by intro u hu; simp at hu; subst hu; rfl) ?h63 ?hb ?hB ?_)
 case h63 => unfold maxLen; omega
 case hb => omega
 case hB => simp; omega
 intro v9 w9 hown9 hgrow9
 have HO9 := Lib.hid hown9
 have HB9 := Lib.hid ((HB3.out.alloc HB3.out.size (.cells #[.string V] 9)).grown hgrow9 (by simp; omega) (fun k hk => by have := (HO3.out.lt k hk).1; omega))
 clear hown9 hgrow9
 obtain ⟨A9, c9, hv9, hc9, hn9, hg9⟩ := row_any HO9.out (by decide)
 subst hv9
 obtain ⟨g9, hA9, hl9, _, hcell9⟩ := hg9 (by omega)
 subst hA9
 have hxs : ((CT :: [V]).map (·.data.toList)) = toldL 7 r := by
  rw [HTOLD.out, ← HCT.out, ← HV.out]
  rfl
 have h1 := strings_Join g9 0 c9 (CT :: [V]) ⟨#[32]⟩ w9 (fun j x hx => by
  rw [Nat.zero_add, hcell9 j (by have := (List.getElem?_eq_some_iff.1 hx).1; have hnl := (HN.out).1; simp at this; first | (simp; omega) | omega)]
  have h2 : ((CT :: [V]).map Value.string)[j]? = some (.string x) := by rw [List.getElem?_map, hx]; rfl
  simpa using h2) hl9 (by first | (simp; done) | (have := HRE.out.many; simp; omega)) (by first | (simp; done) | simpa using hc9) (by rw [hxs]; exact HRE.out.len 7)
 rw [hxs] at h1
 have H1 := Lib.hid h1
 clear hc9 hn9 hg9 hl9 hcell9 hxs h1
 go_wp2_with fail
 refine H1.out.mono ?_
 rintro e w10 ⟨rfl, hb10⟩
 have HB10 := Lib.hid (HB9.out.trans (hb10.mono HB9.out.size))
 clear hb10
 go_wp2_with fail
 go_ret
 exact ⟨rfl, HB10.out⟩
set_option maxRecDepth 100000 in
set_option maxHeartbeats 4000000 in
theorem told_d7 (r : Re) (F : Option Addr) (f f9 : Nat) (w : World) (hok : SlOk F f f9) (hn : NmsAt none w F f r.names) (hr : ReOk r) (hT : Tab w) (h0 : Hid (r.code = 0)) (hdir : Hid (r.dir = true)) :
  Calls Tryz.prog 41 #[.int .i64 7, .agg #[.int .i64 r.code, .int .i64 r.fd, .int .i64 r.num, .bool r.dir, .string r.data, .slice F f f9]] w fun e w' => e = .returned (.string (txt (Lib.join (toldL 7 r) [32]))) ∧ Below w.heap.size w w' := by
 obtain ⟨W, hW⟩ : ∃ W, w.alloc (.cells #[.int .i64 r.code, .int .i64 r.fd, .int .i64 r.num, .bool r.dir, .string r.data, .slice F f f9] 87) = W := ⟨_, rfl⟩
 have hal : Below w.heap.size w W := by rw [← hW]; exact (Below.refl _ _).alloc (Nat.le_refl _) _
 have hrow : ResAt W w.heap.size (.int .i64 r.code) (.int .i64 r.fd) (.int .i64 r.num) (.bool r.dir) (.string r.data) (.slice F f f9) := by rw [← hW]; exact heap_alloc_new w _
 obtain ⟨r0, r1, r2, r3, r4, r5, _⟩ := hrow.get
 have HN := Lib.hid (hn.below hal)
 have HT := Lib.hid (hT.below hal)
 have HB := Lib.hid hal
 have HROW := Lib.hid hrow
 have HRE := Lib.hid hr
 have hlt := hrow.lt
 obtain ⟨c0, c1⟩ := hr.code
 clear hn hT hal hrow hr
 go_enter Tryz.func41, Tryz.ntmps41
 go_wp2_with fail
 refine (itoa_any r.code c0 c1 W HT.out).mono ?_
 rintro e w1 ⟨rfl, hb1⟩
 have HB1 := Lib.hid hb1
 have s0 := (hb1.cell (p := ⟨w.heap.size, 0, none⟩) hlt).trans r0
 have s1 := (hb1.cell (p := ⟨w.heap.size, 1, none⟩) hlt).trans r1
 have s2 := (hb1.cell (p := ⟨w.heap.size, 2, none⟩) hlt).trans r2
 have s3 := (hb1.cell (p := ⟨w.heap.size, 3, none⟩) hlt).trans r3
 have s4 := (hb1.cell (p := ⟨w.heap.size, 4, none⟩) hlt).trans r4
 have s5 := (hb1.cell (p := ⟨w.heap.size, 5, none⟩) hlt).trans r5
 obtain ⟨CT, hCT⟩ : ∃ t, txt (decN r.code) = t := ⟨_, rfl⟩
 rw [hCT]
 have HCT := Lib.hid hCT
 obtain ⟨W2, hW2⟩ : ∃ W2, w1.alloc (.cells #[.string CT] 9) = W2 := ⟨_, rfl⟩
 have hal2 : Below w1.heap.size w1 W2 := by rw [← hW2]; exact (Below.refl _ _).alloc (Nat.le_refl _) _
 have hltw := Nat.lt_of_lt_of_le hlt hb1.size
 have t0 := (hal2.cell (p := ⟨w.heap.size, 0, none⟩) hltw).trans s0
 have t1 := (hal2.cell (p := ⟨w.heap.size, 1, none⟩) hltw).trans s1
 have t2 := (hal2.cell (p := ⟨w.heap.size, 2, none⟩) hltw).trans s2
 have t3 := (hal2.cell (p := ⟨w.heap.size, 3, none⟩) hltw).trans s3
 have t4 := (hal2.cell (p := ⟨w.heap.size, 4, none⟩) hltw).trans s4
 have t5 := (hal2.cell (p := ⟨w.heap.size, 5, none⟩) hltw).trans s5
 have u0 : W2.cell? ⟨w1.heap.size, 0, none⟩ = some (.string CT) := by rw [← hW2, World.cell?_alloc_mark w1 _ _ (0, 0) _]; rfl
 have HB2 := Lib.hid (Cv.next hb1 hal2)
 clear hb1 hal2 s0 s1 s2 s3 s4 s5 r0 r1 r2 r3 r4 r5 hCT
 replace h0 := h0.out
 have e0 : (r.code != 0) = false := by rw [bne_eq_false_iff_eq]; exact h0
 have H0 := Lib.hid h0
 clear h0
 have HOW := Lib.hid (show W2.ownsRow w1.heap.size 9 1 (.slice (some ⟨w1.heap.size, 0, none⟩) 1 1) 1 [.string CT] by
  rw [← hW2]
  exact World.ownsRow_lit w1 #[.string CT] 1 (Nat.le_refl _) (by unfold maxLen; omega) rfl)
 have HB29 := Lib.hid (Cv.next HB.out HB2.out)
 have hs12 : w1.heap.size ≤ W2.heap.size := by rw [← hW2]; simp
 have hw12 : w.heap.size ≤ w1.heap.size := Nat.le_of_lt hltw
 replace hdir := hdir.out
 have HTOLD := Lib.hid (show toldL 7 r = [decN r.code, [100, 105, 114]] from by unfold toldL; rw [if_neg (fun h => h H0.out)]; simp [hdir])
 rw [hdir] at t3
 clear hdir
 obtain ⟨w3, hw3⟩ : ∃ w3, w3 = W2 := ⟨_, rfl⟩
 obtain ⟨V, hV⟩ : ∃ V : ByteArray, ⟨#[100, 105, 114]⟩ = V := ⟨_, rfl⟩
 have HV := Lib.hid hV
 have HB3 := Lib.hid (show Below w.heap.size w w3 by rw [hw3]; exact HB29.out)
 have h13 : w1.heap.size ≤ w3.heap.size := by rw [hw3]; exact hs12
 have HO3 := Lib.hid (show (w3.alloc (.cells #[.string ⟨#[100, 105, 114]⟩] 9)).ownsRow w1.heap.size 9 1 (.slice (some ⟨w1.heap.size, 0, none⟩) 1 1) 1 [.string CT] by rw [hw3]; exact HOW.out.alloc _)
 subst hw3
 subst hV
 go_wp2_with (at_builtin; refine wpList_append_flat rfl _ _ 46 9 (.string ⟨#[]⟩) 1 16 rfl Tryz.underlying46 infoStr9 rfl (by decide) w1.heap.size _ 1 [.string CT] rfl HO3.out (some ⟨w3.heap.size, 0, none⟩) 1 1 [.string ⟨#[100, 105, 114]⟩] rfl rfl (cell_one_new' _ _ _) (fun h => by cases h) (by intro u hu; simp at hu; subst hu; rfl) ?h63 ?hb ?hB ?_)
 case h63 => unfold maxLen; omega
 case hb => omega
 case hB => simp; omega
 intro v9 w9 hown9 hgrow9
 have HO9 := Lib.hid hown9
 have HB9 := Lib.hid ((HB3.out.alloc HB3.out.size (.cells #[.string ⟨#[100, 105, 114]⟩] 9)).grown hgrow9 (by simp; omega) (fun k hk => by have := (HO3.out.lt k hk).1; omega))
 clear hown9 hgrow9
 obtain ⟨A9, c9, hv9, hc9, hn9, hg9⟩ := row_any HO9.out (by decide)
 subst hv9
 obtain ⟨g9, hA9, hl9, _, hcell9⟩ := hg9 (by omega)
 subst hA9
 have hxs : ((CT :: [⟨#[100, 105, 114]⟩]).map (·.data.toList)) = toldL 7 r := by
  rw [HTOLD.out, ← HCT.out]
  rfl
 have h1 := strings_Join g9 0 c9 (CT :: [⟨#[100, 105, 114]⟩]) ⟨#[32]⟩ w9 (fun j x hx => by
  rw [Nat.zero_add, hcell9 j (by have := (List.getElem?_eq_some_iff.1 hx).1; have hnl := (HN.out).1; simp at this; first | (simp; omega) | omega)]
  have h2 : ((CT :: [⟨#[100, 105, 114]⟩]).map Value.string)[j]? = some (.string x) := by rw [List.getElem?_map, hx]; rfl
  simpa using h2) hl9 (by first | (simp; done) | (have := HRE.out.many; simp; omega)) (by first | (simp; done) | simpa using hc9) (by rw [hxs]; exact HRE.out.len 7)
 rw [hxs] at h1
 have H1 := Lib.hid h1
 clear hc9 hn9 hg9 hl9 hcell9 hxs h1
 go_wp2_with fail
 refine H1.out.mono ?_
 rintro e w10 ⟨rfl, hb10⟩
 have HB10 := Lib.hid (HB9.out.trans (hb10.mono HB9.out.size))
 clear hb10
 go_wp2_with fail
 go_ret
 exact ⟨rfl, HB10.out⟩
set_option maxRecDepth 100000 in
set_option maxHeartbeats 4000000 in
theorem told_n5 (r : Re) (F : Option Addr) (f f9 : Nat) (w : World) (hok : SlOk F f f9) (hn : NmsAt none w F f r.names) (hr : ReOk r) (hT : Tab w) (h0 : Hid (r.code = 0)) (hdir : Hid (r.dir = false)) :
  Calls Tryz.prog 41 #[.int .i64 5, .agg #[.int .i64 r.code, .int .i64 r.fd, .int .i64 r.num, .bool r.dir, .string r.data, .slice F f f9]] w fun e w' => e = .returned (.string (txt (Lib.join (toldL 5 r) [32]))) ∧ Below w.heap.size w w' := by
 obtain ⟨W, hW⟩ : ∃ W, w.alloc (.cells #[.int .i64 r.code, .int .i64 r.fd, .int .i64 r.num, .bool r.dir, .string r.data, .slice F f f9] 87) = W := ⟨_, rfl⟩
 have hal : Below w.heap.size w W := by rw [← hW]; exact (Below.refl _ _).alloc (Nat.le_refl _) _
 have hrow : ResAt W w.heap.size (.int .i64 r.code) (.int .i64 r.fd) (.int .i64 r.num) (.bool r.dir) (.string r.data) (.slice F f f9) := by rw [← hW]; exact heap_alloc_new w _
 obtain ⟨r0, r1, r2, r3, r4, r5, _⟩ := hrow.get
 have HN := Lib.hid (hn.below hal)
 have HT := Lib.hid (hT.below hal)
 have HB := Lib.hid hal
 have HROW := Lib.hid hrow
 have HRE := Lib.hid hr
 have hlt := hrow.lt
 obtain ⟨c0, c1⟩ := hr.code
 clear hn hT hal hrow hr
 go_enter Tryz.func41, Tryz.ntmps41
 go_wp2_with fail
 refine (itoa_any r.code c0 c1 W HT.out).mono ?_
 rintro e w1 ⟨rfl, hb1⟩
 have HB1 := Lib.hid hb1
 have s0 := (hb1.cell (p := ⟨w.heap.size, 0, none⟩) hlt).trans r0
 have s1 := (hb1.cell (p := ⟨w.heap.size, 1, none⟩) hlt).trans r1
 have s2 := (hb1.cell (p := ⟨w.heap.size, 2, none⟩) hlt).trans r2
 have s3 := (hb1.cell (p := ⟨w.heap.size, 3, none⟩) hlt).trans r3
 have s4 := (hb1.cell (p := ⟨w.heap.size, 4, none⟩) hlt).trans r4
 have s5 := (hb1.cell (p := ⟨w.heap.size, 5, none⟩) hlt).trans r5
 obtain ⟨CT, hCT⟩ : ∃ t, txt (decN r.code) = t := ⟨_, rfl⟩
 rw [hCT]
 have HCT := Lib.hid hCT
 obtain ⟨W2, hW2⟩ : ∃ W2, w1.alloc (.cells #[.string CT] 9) = W2 := ⟨_, rfl⟩
 have hal2 : Below w1.heap.size w1 W2 := by rw [← hW2]; exact (Below.refl _ _).alloc (Nat.le_refl _) _
 have hltw := Nat.lt_of_lt_of_le hlt hb1.size
 have t0 := (hal2.cell (p := ⟨w.heap.size, 0, none⟩) hltw).trans s0
 have t1 := (hal2.cell (p := ⟨w.heap.size, 1, none⟩) hltw).trans s1
 have t2 := (hal2.cell (p := ⟨w.heap.size, 2, none⟩) hltw).trans s2
 have t3 := (hal2.cell (p := ⟨w.heap.size, 3, none⟩) hltw).trans s3
 have t4 := (hal2.cell (p := ⟨w.heap.size, 4, none⟩) hltw).trans s4
 have t5 := (hal2.cell (p := ⟨w.heap.size, 5, none⟩) hltw).trans s5
 have u0 : W2.cell? ⟨w1.heap.size, 0, none⟩ = some (.string CT) := by rw [← hW2, World.cell?_alloc_mark w1 _ _ (0, 0) _]; rfl
 have HB2 := Lib.hid (Cv.next hb1 hal2)
 clear hb1 hal2 s0 s1 s2 s3 s4 s5 r0 r1 r2 r3 r4 r5 hCT
 replace h0 := h0.out
 have e0 : (r.code != 0) = false := by rw [bne_eq_false_iff_eq]; exact h0
 have H0 := Lib.hid h0
 clear h0
 have HOW := Lib.hid (show W2.ownsRow w1.heap.size 9 1 (.slice (some ⟨w1.heap.size, 0, none⟩) 1 1) 1 [.string CT] by
  rw [← hW2]
  exact World.ownsRow_lit w1 #[.string CT] 1 (Nat.le_refl _) (by unfold maxLen; omega) rfl)
 have HB29 := Lib.hid (Cv.next HB.out HB2.out)
 have hs12 : w1.heap.size ≤ W2.heap.size := by rw [← hW2]; simp
 have hw12 : w.heap.size ≤ w1.heap.size := Nat.le_of_lt hltw
 replace hdir := hdir.out
 have HTOLD := Lib.hid (show toldL 5 r = [decN r.code, decN r.num] from by unfold toldL; rw [if_neg (fun h => h H0.out)]; simp [hdir])
 rw [hdir] at t3
 clear hdir
 go_wp2_with fail
 refine (itoa_any r.num HRE.out.num.1 HRE.out.num.2 W2 (HT.out.below HB2.out)).mono ?_
 rintro e w3 ⟨rfl, hb3⟩
 obtain ⟨V, hV⟩ : ∃ V, txt (decN r.num) = V := ⟨_, rfl⟩
 rw [hV]
 have HV := Lib.hid hV
 have HB3 := Lib.hid (HB29.out.trans (hb3.mono HB29.out.size))
 have h13 : w1.heap.size ≤ w3.heap.size := Nat.le_trans hs12 hb3.size
 have HO3 := Lib.hid ((row_below HOW.out hb3).alloc (.cells #[.string V] 9))
 clear hb3 hV t0 t1 t2 t3 t4 t5 u0
 go_wp2_with (at_builtin; refine wpList_append_flat rfl _ _ 46 9 (.string ⟨#[]⟩) 1 16 rfl Tryz.underlying46 infoStr9 rfl (by decide) w1.heap.size _ 1 [.string CT] rfl HO3.out (some ⟨w3.heap.size, 0, none⟩) 1 1 [.string V] rfl rfl (cell_one_new' _ _ _) (fun h => by cases h) (by intro u hu; simp at hu; subst hu; rfl) ?h63 ?hb ?hB ?_)
 case h63 => unfold maxLen; omega
 case hb => omega
 case hB => simp; omega
 intro v9 w9 hown9 hgrow9
 have HO9 := Lib.hid hown9
 have HB9 := Lib.hid ((HB3.out.alloc HB3.out.size (.cells #[.string V] 9)).grown hgrow9 (by simp; omega) (fun k hk => by have := (HO3.out.lt k hk).1; omega))
 clear hown9 hgrow9
 obtain ⟨A9, c9, hv9, hc9, hn9, hg9⟩ := row_any HO9.out (by decide)
 subst hv9
 obtain ⟨g9, hA9, hl9, _, hcell9⟩ := hg9 (by omega)
 subst hA9
 have hxs : ((CT :: [V]).map (·.data.toList)) = toldL 5 r := by
  rw [HTOLD.out, ← HCT.out, ← HV.out]
  rfl
 have h1 := strings_Join g9 0 c9 (CT :: [V]) ⟨#[32]⟩ w9 (fun j x hx => by
  rw [Nat.zero_add, hcell9 j (by have := (List.getElem?_eq_some_iff.1 hx).1; have hnl := (HN.out).1; simp at this; first | (simp; omega) | omega)]
  have h2 : ((CT :: [V]).map Value.string)[j]? = some (.string x) := by rw [List.getElem?_map, hx]; rfl
  simpa using h2) hl9 (by first | (simp; done) | (have := HRE.out.many; simp; omega)) (by first | (simp; done) | simpa using hc9) (by rw [hxs]; exact HRE.out.len 5)
 rw [hxs] at h1
 have H1 := Lib.hid h1
 clear hc9 hn9 hg9 hl9 hcell9 hxs h1
 go_wp2_with fail
 refine H1.out.mono ?_
 rintro e w10 ⟨rfl, hb10⟩
 have HB10 := Lib.hid (HB9.out.trans (hb10.mono HB9.out.size))
 clear hb10
 go_wp2_with fail
 go_ret
 exact ⟨rfl, HB10.out⟩
set_option maxRecDepth 100000 in
set_option maxHeartbeats 4000000 in
theorem told_d5 (r : Re) (F : Option Addr) (f f9 : Nat) (w : World) (hok : SlOk F f f9) (hn : NmsAt none w F f r.names) (hr : ReOk r) (hT : Tab w) (h0 : Hid (r.code = 0)) (hdir : Hid (r.dir = true)) :
  Calls Tryz.prog 41 #[.int .i64 5, .agg #[.int .i64 r.code, .int .i64 r.fd, .int .i64 r.num, .bool r.dir, .string r.data, .slice F f f9]] w fun e w' => e = .returned (.string (txt (Lib.join (toldL 5 r) [32]))) ∧ Below w.heap.size w w' := by
 obtain ⟨W, hW⟩ : ∃ W, w.alloc (.cells #[.int .i64 r.code, .int .i64 r.fd, .int .i64 r.num, .bool r.dir, .string r.data, .slice F f f9] 87) = W := ⟨_, rfl⟩
 have hal : Below w.heap.size w W := by rw [← hW]; exact (Below.refl _ _).alloc (Nat.le_refl _) _
 have hrow : ResAt W w.heap.size (.int .i64 r.code) (.int .i64 r.fd) (.int .i64 r.num) (.bool r.dir) (.string r.data) (.slice F f f9) := by rw [← hW]; exact heap_alloc_new w _
 obtain ⟨r0, r1, r2, r3, r4, r5, _⟩ := hrow.get
 have HN := Lib.hid (hn.below hal)
 have HT := Lib.hid (hT.below hal)
 have HB := Lib.hid hal
 have HROW := Lib.hid hrow
 have HRE := Lib.hid hr
 have hlt := hrow.lt
 obtain ⟨c0, c1⟩ := hr.code
 clear hn hT hal hrow hr
 go_enter Tryz.func41, Tryz.ntmps41
 go_wp2_with fail
 refine (itoa_any r.code c0 c1 W HT.out).mono ?_
 rintro e w1 ⟨rfl, hb1⟩
 have HB1 := Lib.hid hb1
 have s0 := (hb1.cell (p := ⟨w.heap.size, 0, none⟩) hlt).trans r0
 have s1 := (hb1.cell (p := ⟨w.heap.size, 1, none⟩) hlt).trans r1
 have s2 := (hb1.cell (p := ⟨w.heap.size, 2, none⟩) hlt).trans r2
 have s3 := (hb1.cell (p := ⟨w.heap.size, 3, none⟩) hlt).trans r3
 have s4 := (hb1.cell (p := ⟨w.heap.size, 4, none⟩) hlt).trans r4
 have s5 := (hb1.cell (p := ⟨w.heap.size, 5, none⟩) hlt).trans r5
 obtain ⟨CT, hCT⟩ : ∃ t, txt (decN r.code) = t := ⟨_, rfl⟩
 rw [hCT]
 have HCT := Lib.hid hCT
 obtain ⟨W2, hW2⟩ : ∃ W2, w1.alloc (.cells #[.string CT] 9) = W2 := ⟨_, rfl⟩
 have hal2 : Below w1.heap.size w1 W2 := by rw [← hW2]; exact (Below.refl _ _).alloc (Nat.le_refl _) _
 have hltw := Nat.lt_of_lt_of_le hlt hb1.size
 have t0 := (hal2.cell (p := ⟨w.heap.size, 0, none⟩) hltw).trans s0
 have t1 := (hal2.cell (p := ⟨w.heap.size, 1, none⟩) hltw).trans s1
 have t2 := (hal2.cell (p := ⟨w.heap.size, 2, none⟩) hltw).trans s2
 have t3 := (hal2.cell (p := ⟨w.heap.size, 3, none⟩) hltw).trans s3
 have t4 := (hal2.cell (p := ⟨w.heap.size, 4, none⟩) hltw).trans s4
 have t5 := (hal2.cell (p := ⟨w.heap.size, 5, none⟩) hltw).trans s5
 have u0 : W2.cell? ⟨w1.heap.size, 0, none⟩ = some (.string CT) := by rw [← hW2, World.cell?_alloc_mark w1 _ _ (0, 0) _]; rfl
 have HB2 := Lib.hid (Cv.next hb1 hal2)
 clear hb1 hal2 s0 s1 s2 s3 s4 s5 r0 r1 r2 r3 r4 r5 hCT
 replace h0 := h0.out
 have e0 : (r.code != 0) = false := by rw [bne_eq_false_iff_eq]; exact h0
 have H0 := Lib.hid h0
 clear h0
 have HOW := Lib.hid (show W2.ownsRow w1.heap.size 9 1 (.slice (some ⟨w1.heap.size, 0, none⟩) 1 1) 1 [.string CT] by
  rw [← hW2]
  exact World.ownsRow_lit w1 #[.string CT] 1 (Nat.le_refl _) (by unfold maxLen; omega) rfl)
 have HB29 := Lib.hid (Cv.next HB.out HB2.out)
 have hs12 : w1.heap.size ≤ W2.heap.size := by rw [← hW2]; simp
 have hw12 : w.heap.size ≤ w1.heap.size := Nat.le_of_lt hltw
 replace hdir := hdir.out
 have HTOLD := Lib.hid (show toldL 5 r = [decN r.code, [100, 105, 114]] from by unfold toldL; rw [if_neg (fun h => h H0.out)]; simp [hdir])
 rw [hdir] at t3
 clear hdir
 obtain ⟨w3, hw3⟩ : ∃ w3, w3 = W2 := ⟨_, rfl⟩
 obtain ⟨V, hV⟩ : ∃ V : ByteArray, ⟨#[100, 105, 114]⟩ = V := ⟨_, rfl⟩
 have HV := Lib.hid hV
 have HB3 := Lib.hid (show Below w.heap.size w w3 by rw [hw3]; exact HB29.out)
 have h13 : w1.heap.size ≤ w3.heap.size := by rw [hw3]; exact hs12
 have HO3 := Lib.hid (show (w3.alloc (.cells #[.string ⟨#[100, 105, 114]⟩] 9)).ownsRow w1.heap.size 9 1 (.slice (some ⟨w1.heap.size, 0, none⟩) 1 1) 1 [.string CT] by rw [hw3]; exact HOW.out.alloc _)
 subst hw3
 subst hV
 go_wp2_with (at_builtin; refine wpList_append_flat rfl _ _ 46 9 (.string ⟨#[]⟩) 1 16 rfl Tryz.underlying46 infoStr9 rfl (by decide) w1.heap.size _ 1 [.string CT] rfl HO3.out (some ⟨w3.heap.size, 0, none⟩) 1 1 [.string ⟨#[100, 105, 114]⟩] rfl rfl (cell_one_new' _ _ _) (fun h => by cases h) (by intro u hu; simp at hu; subst hu; rfl) ?h63 ?hb ?hB ?_)
 case h63 => unfold maxLen; omega
 case hb => omega
 case hB => simp; omega
 intro v9 w9 hown9 hgrow9
 have HO9 := Lib.hid hown9
 have HB9 := Lib.hid ((HB3.out.alloc HB3.out.size (.cells #[.string ⟨#[100, 105, 114]⟩] 9)).grown hgrow9 (by simp; omega) (fun k hk => by have := (HO3.out.lt k hk).1; omega))
 clear hown9 hgrow9
 obtain ⟨A9, c9, hv9, hc9, hn9, hg9⟩ := row_any HO9.out (by decide)
 subst hv9
 obtain ⟨g9, hA9, hl9, _, hcell9⟩ := hg9 (by omega)
 subst hA9
 have hxs : ((CT :: [⟨#[100, 105, 114]⟩]).map (·.data.toList)) = toldL 5 r := by
  rw [HTOLD.out, ← HCT.out]
  rfl
 have h1 := strings_Join g9 0 c9 (CT :: [⟨#[100, 105, 114]⟩]) ⟨#[32]⟩ w9 (fun j x hx => by
  rw [Nat.zero_add, hcell9 j (by have := (List.getElem?_eq_some_iff.1 hx).1; have hnl := (HN.out).1; simp at this; first | (simp; omega) | omega)]
  have h2 : ((CT :: [⟨#[100, 105, 114]⟩]).map Value.string)[j]? = some (.string x) := by rw [List.getElem?_map, hx]; rfl
  simpa using h2) hl9 (by first | (simp; done) | (have := HRE.out.many; simp; omega)) (by first | (simp; done) | simpa using hc9) (by rw [hxs]; exact HRE.out.len 5)
 rw [hxs] at h1
 have H1 := Lib.hid h1
 clear hc9 hn9 hg9 hl9 hcell9 hxs h1
 go_wp2_with fail
 refine H1.out.mono ?_
 rintro e w10 ⟨rfl, hb10⟩
 have HB10 := Lib.hid (HB9.out.trans (hb10.mono HB9.out.size))
 clear hb10
 go_wp2_with fail
 go_ret
 exact ⟨rfl, HB10.out⟩
set_option maxRecDepth 100000 in
set_option maxHeartbeats 4000000 in
theorem told_else (kind : Int) (r : Re) (F : Option Addr) (f f9 : Nat) (w : World) (hok : SlOk F f f9) (hn : NmsAt none w F f r.names) (hr : ReOk r) (hT : Tab w) (h0 : Hid (r.code = 0)) (hk2 : Hid (¬ kind = 2)) (hk12 : Hid (¬ kind = 12)) (hk4 : Hid (¬ kind = 4)) (hk13 : Hid (¬ kind = 13)) (hk14 : Hid (¬ kind = 14)) (hk7 : Hid (¬ kind = 7)) (hk5 : Hid (¬ kind = 5)) :
  Calls Tryz.prog 41 #[.int .i64 kind, .agg #[.int .i64 r.code, .int .i64 r.fd, .int .i64 r.num, .bool r.dir, .string r.data, .slice F f f9]] w fun e w' => e = .returned (.string (txt (Lib.join (toldL kind r) [32]))) ∧ Below w.heap.size w w' := by
 obtain ⟨W, hW⟩ : ∃ W, w.alloc (.cells #[.int .i64 r.code, .int .i64 r.fd, .int .i64 r.num, .bool r.dir, .string r.data, .slice F f f9] 87) = W := ⟨_, rfl⟩
 have hal : Below w.heap.size w W := by rw [← hW]; exact (Below.refl _ _).alloc (Nat.le_refl _) _
 have hrow : ResAt W w.heap.size (.int .i64 r.code) (.int .i64 r.fd) (.int .i64 r.num) (.bool r.dir) (.string r.data) (.slice F f f9) := by rw [← hW]; exact heap_alloc_new w _
 obtain ⟨r0, r1, r2, r3, r4, r5, _⟩ := hrow.get
 have HN := Lib.hid (hn.below hal)
 have HT := Lib.hid (hT.below hal)
 have HB := Lib.hid hal
 have HROW := Lib.hid hrow
 have HRE := Lib.hid hr
 have hlt := hrow.lt
 obtain ⟨c0, c1⟩ := hr.code
 clear hn hT hal hrow hr
 go_enter Tryz.func41, Tryz.ntmps41
 go_wp2_with fail
 refine (itoa_any r.code c0 c1 W HT.out).mono ?_
 rintro e w1 ⟨rfl, hb1⟩
 have HB1 := Lib.hid hb1
 have s0 := (hb1.cell (p := ⟨w.heap.size, 0, none⟩) hlt).trans r0
 have s1 := (hb1.cell (p := ⟨w.heap.size, 1, none⟩) hlt).trans r1
 have s2 := (hb1.cell (p := ⟨w.heap.size, 2, none⟩) hlt).trans r2
 have s3 := (hb1.cell (p := ⟨w.heap.size, 3, none⟩) hlt).trans r3
 have s4 := (hb1.cell (p := ⟨w.heap.size, 4, none⟩) hlt).trans r4
 have s5 := (hb1.cell (p := ⟨w.heap.size, 5, none⟩) hlt).trans r5
 obtain ⟨CT, hCT⟩ : ∃ t, txt (decN r.code) = t := ⟨_, rfl⟩
 rw [hCT]
 have HCT := Lib.hid hCT
 obtain ⟨W2, hW2⟩ : ∃ W2, w1.alloc (.cells #[.string CT] 9) = W2 := ⟨_, rfl⟩
 have hal2 : Below w1.heap.size w1 W2 := by rw [← hW2]; exact (Below.refl _ _).alloc (Nat.le_refl _) _
 have hltw := Nat.lt_of_lt_of_le hlt hb1.size
 have t0 := (hal2.cell (p := ⟨w.heap.size, 0, none⟩) hltw).trans s0
 have t1 := (hal2.cell (p := ⟨w.heap.size, 1, none⟩) hltw).trans s1
 have t2 := (hal2.cell (p := ⟨w.heap.size, 2, none⟩) hltw).trans s2
 have t3 := (hal2.cell (p := ⟨w.heap.size, 3, none⟩) hltw).trans s3
 have t4 := (hal2.cell (p := ⟨w.heap.size, 4, none⟩) hltw).trans s4
 have t5 := (hal2.cell (p := ⟨w.heap.size, 5, none⟩) hltw).trans s5
 have u0 : W2.cell? ⟨w1.heap.size, 0, none⟩ = some (.string CT) := by rw [← hW2, World.cell?_alloc_mark w1 _ _ (0, 0) _]; rfl
 have HB2 := Lib.hid (Cv.next hb1 hal2)
 clear hb1 hal2 s0 s1 s2 s3 s4 s5 r0 r1 r2 r3 r4 r5 hCT
 replace h0 := h0.out
 have e0 : (r.code != 0) = false := by rw [bne_eq_false_iff_eq]; exact h0
 have H0 := Lib.hid h0
 clear h0
 have HOW := Lib.hid (show W2.ownsRow w1.heap.size 9 1 (.slice (some ⟨w1.heap.size, 0, none⟩) 1 1) 1 [.string CT] by
  rw [← hW2]
  exact World.ownsRow_lit w1 #[.string CT] 1 (Nat.le_refl _) (by unfold maxLen; omega) rfl)
 have HB29 := Lib.hid (Cv.next HB.out HB2.out)
 have hs12 : w1.heap.size ≤ W2.heap.size := by rw [← hW2]; simp
 have hw12 : w.heap.size ≤ w1.heap.size := Nat.le_of_lt hltw
 replace hk2 := hk2.out
 replace hk12 := hk12.out
 replace hk4 := hk4.out
 replace hk13 := hk13.out
 replace hk14 := hk14.out
 replace hk7 := hk7.out
 replace hk5 := hk5.out
 have HTOLD := Lib.hid (show toldL kind r = [decN r.code] from by unfold toldL; rw [if_neg (fun h => h H0.out)]; simp [hk2, hk12, hk4, hk13, hk14, hk7, hk5])
 have e2 : (kind == 2) = false := by rw [beq_eq_false_iff_ne]; exact hk2
 have e12 : (kind == 12) = false := by rw [beq_eq_false_iff_ne]; exact hk12
 have e4 : (kind == 4) = false := by rw [beq_eq_false_iff_ne]; exact hk4
 have e13 : (kind == 13) = false := by rw [beq_eq_false_iff_ne]; exact hk13
 have e14 : (kind == 14) = false := by rw [beq_eq_false_iff_ne]; exact hk14
 have e7 : (kind == 7) = false := by rw [beq_eq_false_iff_ne]; exact hk7
 have e5 : (kind == 5) = false := by rw [beq_eq_false_iff_ne]; exact hk5
 clear hk2 hk12 hk4 hk13 hk14 hk7 hk5
 obtain ⟨w9, hw9⟩ : ∃ w9, w9 = W2 := ⟨_, rfl⟩
 have HO9 := Lib.hid (show w9.ownsRow w1.heap.size 9 1 (.slice (some ⟨w1.heap.size, 0, none⟩) 1 1) 1 [.string CT] by rw [hw9]; exact HOW.out)
 have HB9 := Lib.hid (show Below w.heap.size w w9 by rw [hw9]; exact HB29.out)
 subst hw9
 obtain ⟨A9, c9, hv9, hc9, hn9, hg9⟩ := row_any HO9.out (by decide)
 injection hv9 with hv9 _ hv8
 subst hv8
 obtain ⟨g9, hA9, hl9, _, hcell9⟩ := hg9 (by omega)
 rw [hA9] at hv9
 injection hv9 with hv9
 injection hv9 with hv9
 subst hv9
 have hxs : ((CT :: []).map (·.data.toList)) = toldL kind r := by
  rw [HTOLD.out, ← HCT.out]
  rfl
 have h1 := strings_Join w1.heap.size 0 1 (CT :: []) ⟨#[32]⟩ w9 (fun j x hx => by
  rw [Nat.zero_add, hcell9 j (by have := (List.getElem?_eq_some_iff.1 hx).1; have hnl := (HN.out).1; simp at this; first | (simp; omega) | omega)]
  have h2 : ((CT :: []).map Value.string)[j]? = some (.string x) := by rw [List.getElem?_map, hx]; rfl
  simpa using h2) hl9 (by first | (simp; done) | (have := HRE.out.many; simp; omega)) (by first | (simp; done) | simpa using hc9) (by rw [hxs]; exact HRE.out.len kind)
 rw [hxs] at h1
 have H1 := Lib.hid h1
 clear hc9 hn9 hg9 hl9 hcell9 hxs h1
 go_wp2_with fail
 refine H1.out.mono ?_
 rintro e w10 ⟨rfl, hb10⟩
 have HB10 := Lib.hid (HB9.out.trans (hb10.mono HB9.out.size))
 clear hb10
 go_wp2_with fail
 go_ret
 exact ⟨rfl, HB10.out⟩
set_option maxRecDepth 100000 in
set_option maxHeartbeats 4000000 in
theorem told_any (kind : Int) (r : Re) (F : Option Addr) (f f9 : Nat) (w : World) (hok : SlOk F f f9) (hn : NmsAt none w F f r.names) (hr : ReOk r) (hT : Tab w) :
  Calls Tryz.prog 41 #[.int .i64 kind, .agg #[.int .i64 r.code, .int .i64 r.fd, .int .i64 r.num, .bool r.dir, .string r.data, .slice F f f9]] w fun e w' => e = .returned (.string (txt (Lib.join (toldL kind r) [32]))) ∧ Below w.heap.size w w' := by
 by_cases h0 : r.code = 0
 ·by_cases hk2 : kind = 2
  ·subst hk2
   exact told_2 r F f f9 w hok hn hr hT (Lib.hid h0)
  ·by_cases hk12 : kind = 12
   ·subst hk12
    exact told_12 r F f f9 w hok hn hr hT (Lib.hid h0)
   ·by_cases hk4 : kind = 4
    ·subst hk4
     exact told_4 r F f f9 w hok hn hr hT (Lib.hid h0)
    ·by_cases hk13 : kind = 13
     ·subst hk13
      cases hd : r.dir with
      | false => have h9 := told_n13 r F f f9 w hok hn hr hT (Lib.hid h0) (Lib.hid hd); rw [hd] at h9; exact h9
      | true => have h9 := told_d13 r F f f9 w hok hn hr hT (Lib.hid h0) (Lib.hid hd); rw [hd] at h9; exact h9
     ·by_cases hk14 : kind = 14
      ·subst hk14
       cases hd : r.dir with
       | false => have h9 := told_n14 r F f f9 w hok hn hr hT (Lib.hid h0) (Lib.hid hd); rw [hd] at h9; exact h9
       | true => have h9 := told_d14 r F f f9 w hok hn hr hT (Lib.hid h0) (Lib.hid hd); rw [hd] at h9; exact h9
      ·by_cases hk7 : kind = 7
       ·subst hk7
        cases hd : r.dir with
        | false => have h9 := told_n7 r F f f9 w hok hn hr hT (Lib.hid h0) (Lib.hid hd); rw [hd] at h9; exact h9
        | true => have h9 := told_d7 r F f f9 w hok hn hr hT (Lib.hid h0) (Lib.hid hd); rw [hd] at h9; exact h9
       ·by_cases hk5 : kind = 5
        ·subst hk5
         cases hd : r.dir with
         | false => have h9 := told_n5 r F f f9 w hok hn hr hT (Lib.hid h0) (Lib.hid hd); rw [hd] at h9; exact h9
         | true => have h9 := told_d5 r F f f9 w hok hn hr hT (Lib.hid h0) (Lib.hid hd); rw [hd] at h9; exact h9
        ·exact told_else kind r F f f9 w hok hn hr hT (Lib.hid h0) (Lib.hid hk2) (Lib.hid hk12) (Lib.hid hk4) (Lib.hid hk13) (Lib.hid hk14) (Lib.hid hk7) (Lib.hid hk5)
 ·obtain ⟨W, hW⟩ : ∃ W, w.alloc (.cells #[.int .i64 r.code, .int .i64 r.fd, .int .i64 r.num, .bool r.dir, .string r.data, .slice F f f9] 87) = W := ⟨_, rfl⟩
  have hal : Below w.heap.size w W := by rw [← hW]; exact (Below.refl _ _).alloc (Nat.le_refl _) _
  have hrow : ResAt W w.heap.size (.int .i64 r.code) (.int .i64 r.fd) (.int .i64 r.num) (.bool r.dir) (.string r.data) (.slice F f f9) := by rw [← hW]; exact heap_alloc_new w _
  obtain ⟨r0, r1, r2, r3, r4, r5, _⟩ := hrow.get
  have HN := Lib.hid (hn.below hal)
  have HT := Lib.hid (hT.below hal)
  have HB := Lib.hid hal
  have HROW := Lib.hid hrow
  have HRE := Lib.hid hr
  have hlt := hrow.lt
  obtain ⟨c0, c1⟩ := hr.code
  clear hn hT hal hrow hr
  go_enter Tryz.func41, Tryz.ntmps41
  go_wp2_with fail
  refine (itoa_any r.code c0 c1 W HT.out).mono ?_
  rintro e w1 ⟨rfl, hb1⟩
  have HB1 := Lib.hid hb1
  have s0 := (hb1.cell (p := ⟨w.heap.size, 0, none⟩) hlt).trans r0
  have s1 := (hb1.cell (p := ⟨w.heap.size, 1, none⟩) hlt).trans r1
  have s2 := (hb1.cell (p := ⟨w.heap.size, 2, none⟩) hlt).trans r2
  have s3 := (hb1.cell (p := ⟨w.heap.size, 3, none⟩) hlt).trans r3
  have s4 := (hb1.cell (p := ⟨w.heap.size, 4, none⟩) hlt).trans r4
  have s5 := (hb1.cell (p := ⟨w.heap.size, 5, none⟩) hlt).trans r5
  obtain ⟨CT, hCT⟩ : ∃ t, txt (decN r.code) = t := ⟨_, rfl⟩
  rw [hCT]
  have HCT := Lib.hid hCT
  obtain ⟨W2, hW2⟩ : ∃ W2, w1.alloc (.cells #[.string CT] 9) = W2 := ⟨_, rfl⟩
  have hal2 : Below w1.heap.size w1 W2 := by rw [← hW2]; exact (Below.refl _ _).alloc (Nat.le_refl _) _
  have hltw := Nat.lt_of_lt_of_le hlt hb1.size
  have t0 := (hal2.cell (p := ⟨w.heap.size, 0, none⟩) hltw).trans s0
  have t1 := (hal2.cell (p := ⟨w.heap.size, 1, none⟩) hltw).trans s1
  have t2 := (hal2.cell (p := ⟨w.heap.size, 2, none⟩) hltw).trans s2
  have t3 := (hal2.cell (p := ⟨w.heap.size, 3, none⟩) hltw).trans s3
  have t4 := (hal2.cell (p := ⟨w.heap.size, 4, none⟩) hltw).trans s4
  have t5 := (hal2.cell (p := ⟨w.heap.size, 5, none⟩) hltw).trans s5
  have u0 : W2.cell? ⟨w1.heap.size, 0, none⟩ = some (.string CT) := by rw [← hW2, World.cell?_alloc_mark w1 _ _ (0, 0) _]; rfl
  have HB2 := Lib.hid (Cv.next hb1 hal2)
  clear hb1 hal2 s0 s1 s2 s3 s4 s5 r0 r1 r2 r3 r4 r5 hCT
  have e0 : (r.code != 0) = true := by rw [bne_iff_ne]; exact h0
  have hj : Lib.join (toldL kind r) [32] = decN r.code := by
   unfold toldL
   rw [if_pos h0]
   simp [Lib.join, List.intercalate, List.intersperse]
  have HJ := Lib.hid hj
  clear h0 hj
  go_wp2_with fail
  go_ret
  exact ⟨by rw [HJ.out, HCT.out]; rfl, Cv.next HB.out HB2.out⟩
end Go.Proofs.YtilkhmhgjbhfnaaGreatDoor
