/- Parts of the proof, side by side: MoMayC, FsDo2, MoDo0. -/
import Derived.Test.YtndcloohcfhejaaGreatM10
import Derived.Test.YtndcloohcfhejaaGreatM35
import Derived.Test.YtndcloohcfhejaaGreatM11
import Derived.Test.YtndcloohcfhejaaGreatM06
import Derived.Test.YtndcloohcfhejaaGreatM33
set_option linter.unusedVariables false
set_option linter.unusedSimpArgs false
namespace Go.Proofs.YtndcloohcfhejaaGreat
open Go.RowKit
def mayC (s : St) (c : Ca) : Bool := decide (0 ≤ c.kind) && decide (c.kind ≤ 16) && decide (0 ≤ c.core) && decide (c.core < (s.made.length : Int)) && mayV s
set_option maxRecDepth 100000 in
set_option maxHeartbeats 8000000 in
theorem mmayc_any (g1 g2 : Nat) (A : Option Addr) (n c' : Nat) (E : Option Addr) (m d : Nat) (D : Option Addr) (k e : Nat) (s : St) (c : Ca) (w : World) (hb : w.heap[g1]? = some (.cells #[.slice A n c', .slice E m d, .slice D k e] 27 (0, 0))) (h : StAt none w (.agg #[.slice A n c', .slice E m d, .slice D k e]) s) (hc : w.heap[g2]? = some (caRow c)) :
  Calls Tryz.prog 31 #[.pointer (some ⟨g1, 0, .none⟩), .pointer (some ⟨g2, 0, .none⟩)] w fun e w' => e = .returned (.bool (mayC s c)) ∧ Below w.heap.size w w' := by
 have hk : k = s.made.length := by
  obtain ⟨A', n', c9, B', m', d', D', k', e', hv, _, _, hM, _⟩ := h.at_
  injection hv with hv
  have h2 := congrArg (fun a : Array Value => a[2]?) hv
  simp at h2
  rw [hM.1]
  exact h2.2.1
 obtain ⟨MV, hMV⟩ : ∃ MV, mayV s = MV := ⟨_, rfl⟩
 have hmay : ∀ X : Ext w, Calls Tryz.prog 24 #[.agg #[.slice A n c', .slice E m d, .slice D k e]] X.w fun e w' => e = .returned (.bool MV) ∧ Below X.w.heap.size X.w w' := fun X => by
  have h9 := mmay_any _ s X.w (h.below X.bel)
  rw [hMV] at h9
  exact h9
 obtain ⟨KD, hKD⟩ : ∃ KD, c.kind = KD := ⟨_, rfl⟩
 obtain ⟨CO, hCO⟩ : ∃ CO, c.core = CO := ⟨_, rfl⟩
 unfold caRow at hc
 have s0 : w.cell? ⟨g1, 0, none⟩ = some (.slice A n c') := by rw [cell_of_row w g1 _ _ _ (0, 0) hb]; rfl
 have s1 : w.cell? ⟨g1, 1, none⟩ = some (.slice E m d) := by rw [cell_of_row w g1 _ _ _ (0, 0) hb]; rfl
 have s2 : w.cell? ⟨g1, 2, none⟩ = some (.slice D k e) := by rw [cell_of_row w g1 _ _ _ (0, 0) hb]; rfl
 have t0 : w.cell? ⟨g2, 0, none⟩ = some (.int .i64 KD) := by rw [cell_of_row w g2 _ _ _ (0, 0) hc, ← hKD]; rfl
 have t1 : w.cell? ⟨g2, 1, none⟩ = some (.int .i64 CO) := by rw [cell_of_row w g2 _ _ _ (0, 0) hc, ← hCO]; rfl
 have hX : ∀ (X : Ext w) (p : Addr), (w.cell? p).isSome = true → X.w.cell? p = w.cell? p := fun X p h => X.cell p h
 have HMAY := Lib.hid hmay
 have HK := Lib.hid (And.intro hKD hCO)
 have HC := Lib.hid (And.intro hk hMV)
 have hm : mayC s c = (decide (0 ≤ KD) && decide (KD ≤ 16) && decide (0 ≤ CO) && decide (CO < (k : Int)) && MV) := by unfold mayC; rw [hKD, hCO, ← hk, hMV]
 clear hmay hKD hCO hk hMV hb hc h
 have HM := Lib.hid hm
 clear hm
 by_cases h0 : 0 ≤ KD
 rotate_left
 ·have q0 : decide (0 ≤ KD) = false := decide_eq_false h0
  clear h0
  have HR := Lib.hid (show mayC s c = false by rw [HM.out, q0]; simp)
  rw [HR.out]
  clear HK HC
  go_enter Tryz.func31, Tryz.ntmps31
  go_wp2_with fail
  refine wp_region_ext (by kernel_rfl) (by kernel_rfl) ?_
  repeat (go_big_quiet_step ((go_at_call 24; rename_i X; exact Calls.ext_of (HMAY.out X))))
  refine wpQuiet_nil ?_
  rintro w9 ⟨X, rfl⟩
  have HB := Lib.hid X.bel
  clear hX
  go_wp2_with fail
  go_ret
  exact ⟨rfl, HB.out⟩
 have q0 : decide (0 ≤ KD) = true := decide_eq_true h0
 clear h0
 by_cases h1 : KD ≤ 16
 rotate_left
 ·have q1 : decide (KD ≤ 16) = false := decide_eq_false h1
  clear h1
  have HR := Lib.hid (show mayC s c = false by rw [HM.out, q1]; simp)
  rw [HR.out]
  clear HK HC
  go_enter Tryz.func31, Tryz.ntmps31
  go_wp2_with fail
  refine wp_region_ext (by kernel_rfl) (by kernel_rfl) ?_
  repeat (go_big_quiet_step ((go_at_call 24; rename_i X; exact Calls.ext_of (HMAY.out X))))
  refine wpQuiet_nil ?_
  rintro w9 ⟨X, rfl⟩
  have HB := Lib.hid X.bel
  clear hX
  go_wp2_with fail
  go_ret
  exact ⟨rfl, HB.out⟩
 have q1 : decide (KD ≤ 16) = true := decide_eq_true h1
 clear h1
 by_cases h2 : 0 ≤ CO
 rotate_left
 ·have q2 : decide (0 ≤ CO) = false := decide_eq_false h2
  clear h2
  have HR := Lib.hid (show mayC s c = false by rw [HM.out, q2]; simp)
  rw [HR.out]
  clear HK HC
  go_enter Tryz.func31, Tryz.ntmps31
  go_wp2_with fail
  refine wp_region_ext (by kernel_rfl) (by kernel_rfl) ?_
  repeat (go_big_quiet_step ((go_at_call 24; rename_i X; exact Calls.ext_of (HMAY.out X))))
  refine wpQuiet_nil ?_
  rintro w9 ⟨X, rfl⟩
  have HB := Lib.hid X.bel
  clear hX
  go_wp2_with fail
  go_ret
  exact ⟨rfl, HB.out⟩
 have q2 : decide (0 ≤ CO) = true := decide_eq_true h2
 clear h2
 by_cases h3 : CO < (k : Int)
 rotate_left
 ·have q3 : decide (CO < (k : Int)) = false := decide_eq_false h3
  clear h3
  have HR := Lib.hid (show mayC s c = false by rw [HM.out, q3]; simp)
  rw [HR.out]
  clear HK HC
  go_enter Tryz.func31, Tryz.ntmps31
  go_wp2_with fail
  refine wp_region_ext (by kernel_rfl) (by kernel_rfl) ?_
  repeat (go_big_quiet_step ((go_at_call 24; rename_i X; exact Calls.ext_of (HMAY.out X))))
  refine wpQuiet_nil ?_
  rintro w9 ⟨X, rfl⟩
  have HB := Lib.hid X.bel
  clear hX
  go_wp2_with fail
  go_ret
  exact ⟨rfl, HB.out⟩
 have q3 : decide (CO < (k : Int)) = true := decide_eq_true h3
 clear h3
 have HR := Lib.hid (show mayC s c = MV by rw [HM.out, q0, q1, q2, q3]; rfl)
 rw [HR.out]
 clear HK HC
 go_enter Tryz.func31, Tryz.ntmps31
 go_wp2_with fail
 refine wp_region_ext (by kernel_rfl) (by kernel_rfl) ?_
 repeat (go_big_quiet_step ((go_at_call 24; rename_i X; exact Calls.ext_of (HMAY.out X))))
 refine wpQuiet_nil ?_
 rintro w9 ⟨X, rfl⟩
 have HB := Lib.hid X.bel
 clear hX
 go_wp2_with fail
 go_ret
 exact ⟨rfl, HB.out⟩
theorem results_cells {fn : Func} {p q : Tmp} {ty tz : TypeId} (h : fn.results = #[.cell p ty, .cell q tz]) (tmps : Array Value) (P : Program) (w : World) :
  (results fn tmps).run P w =
   ((asAddr (tmps.getD p undef)).run P w).andThen fun a w₁ => ((loadVar ty a).run P w₁).andThen fun v w₂ => ((asAddr (tmps.getD q undef)).run P w₂).andThen fun b w₃ => ((loadVar tz b).run P w₃).andThen fun z w₄ => .ok (.tuple #[v, z]) w₄ := by
 simp only [results, h]
 simp [Sem.run_bind, Result.andThen]
theorem do_start (A : Option Addr) (n c' : Nat) (E : Option Addr) (m d : Nat) (D : Option Addr) (k e : Nat) (s : St) (c : Ca) (w : World) (h : StAt none w (.agg #[.slice A n c', .slice E m d, .slice D k e]) s) :
  ∃ W W2 W3 W4, w.alloc (.cells #[.slice A n c', .slice E m d, .slice D k e] 27) = W ∧ W.alloc (.cells #[.int .i64 c.kind, .int .i64 c.core, .int .i64 c.fd, .int .i64 c.off, .int .i64 c.num, .string c.path, .string c.path2, .string c.data] 35) = W2 ∧
   W2.alloc (.cells #[.slice none 0 0, .slice none 0 0, .slice none 0 0] 27) = W3 ∧ W3.alloc (.cells #[.int .i64 0, .int .i64 0, .int .i64 0, .bool false, .string ⟨#[]⟩, .slice none 0 0] 31) = W4 ∧
   W.heap.size = w.heap.size + 1 ∧ W2.heap.size = w.heap.size + 2 ∧ W3.heap.size = w.heap.size + 3 ∧ W4.heap.size = w.heap.size + 4 ∧
   StAt none W4 (.agg #[.slice A n c', .slice E m d, .slice D k e]) s ∧ OutAt W4 w.heap.size (.slice A n c') (.slice E m d) (.slice D k e) ∧ W4.heap[w.heap.size + 1]? = some (caRow c) ∧
   OutAt W4 (w.heap.size + 2) (.slice none 0 0) (.slice none 0 0) (.slice none 0 0) ∧ ResAt W4 (w.heap.size + 3) (.int .i64 0) (.int .i64 0) (.int .i64 0) (.bool false) (.string ⟨#[]⟩) (.slice none 0 0) ∧ Below w.heap.size w W4 := by
 obtain ⟨W, hW⟩ : ∃ W, w.alloc (.cells #[.slice A n c', .slice E m d, .slice D k e] 27) = W := ⟨_, rfl⟩
 have l1 : Below w.heap.size w W := by rw [← hW]; exact (Below.refl _ _).alloc (Nat.le_refl _) _
 have o1 : OutAt W w.heap.size (.slice A n c') (.slice E m d) (.slice D k e) := by rw [← hW]; exact heap_alloc_new w _
 have z1 : W.heap.size = w.heap.size + 1 := by rw [← hW]; simp
 obtain ⟨W2, hW2, hbc, l2, z2⟩ := box_ca W c
 obtain ⟨W3, hW3⟩ : ∃ W3, W2.alloc (.cells #[.slice none 0 0, .slice none 0 0, .slice none 0 0] 27) = W3 := ⟨_, rfl⟩
 have l3 : Below W2.heap.size W2 W3 := by rw [← hW3]; exact (Below.refl _ _).alloc (Nat.le_refl _) _
 have z3 : W3.heap.size = W2.heap.size + 1 := by rw [← hW3]; simp
 have o3 : OutAt W3 W2.heap.size (.slice none 0 0) (.slice none 0 0) (.slice none 0 0) := by rw [← hW3]; exact heap_alloc_new W2 _
 obtain ⟨W4, hW4⟩ : ∃ W4, W3.alloc (.cells #[.int .i64 0, .int .i64 0, .int .i64 0, .bool false, .string ⟨#[]⟩, .slice none 0 0] 31) = W4 := ⟨_, rfl⟩
 have l4 : Below W3.heap.size W3 W4 := by rw [← hW4]; exact (Below.refl _ _).alloc (Nat.le_refl _) _
 have z4 : W4.heap.size = W3.heap.size + 1 := by rw [← hW4]; simp
 have r4 : ResAt W4 W3.heap.size (.int .i64 0) (.int .i64 0) (.int .i64 0) (.bool false) (.string ⟨#[]⟩) (.slice none 0 0) := by rw [← hW4]; exact heap_alloc_new W3 _
 have l24 := Cv.next l3 l4
 have l14 := Cv.next l2 l24
 have l04 := Cv.next l1 l14
 refine ⟨W, W2, W3, W4, hW, hW2, hW3, hW4, z1, by omega, by omega, by omega, h.below l04, (l14.block w.heap.size (by omega)).trans o1, ?_, ?_, ?_, l04⟩
 ·rw [← z1]
  exact (l24.block W.heap.size (by omega)).trans hbc
 ·rw [show w.heap.size + 2 = W2.heap.size by omega]
  exact (l4.block W2.heap.size (by omega)).trans o3
 ·rw [show w.heap.size + 3 = W3.heap.size by omega]
  exact r4
theorem do_results (tmps : Array Value) (g4 g5 : Nat) (a b d x0 x1 x2 x3 x4 x5 : Value) (w : World) (h4 : tmps.getD 4 undef = .pointer (some ⟨g4, 0, none⟩)) (h5 : tmps.getD 5 undef = .pointer (some ⟨g5, 0, none⟩)) (hO : OutAt w g4 a b d) (hR : ResAt w g5 x0 x1 x2 x3 x4 x5) :
  (results Tryz.f15 tmps).run Tryz.prog w = .ok (.tuple #[.agg #[a, b, d], .agg #[x0, x1, x2, x3, x4, x5]]) w := by
 rw [results_cells rfl, h4, h5]
 have hl1 := run_loadVar_row (P := Tryz.prog) w g4 _ 27 _ (0, 0) _ hO Tryz.underlying27 rfl (by kernel_rfl)
 have hl2 := run_loadVar_row (P := Tryz.prog) w g5 _ 31 _ (0, 0) _ hR Tryz.underlying31 rfl (by kernel_rfl)
 simp [asAddr, hl1, hl2, Result.andThen]
theorem RowAt.nmsB {B : Nat} {w : World} {v : Value} {n : Nat} {ns : List ByteArray} (h : RowAt B w 9 1 v n (ns.map bstrV)) : ∃ A c, v = .slice A n c ∧ SlOk A n c ∧ NmsAt (some B) w A n ns := by
 obtain ⟨A, c, hv, hok⟩ := h.slice
 have hl : ns.length = n := by have h1 := h.1; simpa using h1
 refine ⟨A, c, hv, hok, hl, fun h0 => ?_⟩
 obtain ⟨g, c', hv', hlt, hm, hc⟩ := h.mine h0
 rw [hv] at hv'
 injection hv' with e1 _ _
 refine ⟨g, 0, e1, hlt, hm, fun j e he => ?_⟩
 rw [Nat.zero_add]
 exact hc _ _ (by rw [List.getElem?_map, he]; rfl)
theorem nms_nil (lo : Option Nat) (w : World) : NmsAt lo w none 0 [] := ⟨rfl, fun h => absurd h (by omega)⟩
theorem mayC_good {s : St} {c : Ca} (h : mayC s c = true) : Good s ∧ 0 ≤ c.kind ∧ c.kind ≤ 16 ∧ 0 ≤ c.core ∧ c.core < (s.made.length : Int) := by
 unfold mayC at h
 simp only [Bool.and_eq_true, decide_eq_true_eq] at h
 exact ⟨(good_iff s).1 h.2, h.1.1.1.1, h.1.1.1.2, h.1.1.2, h.1.2⟩
theorem mayC_bad {s : St} {c : Ca} (h : mayC s c = false) : doV s c = (s, { code := 9 }) := by
 unfold doV doF
 rw [if_pos]
 unfold mayC at h
 simp only [Bool.and_eq_false_iff, decide_eq_false_iff_not] at h
 rcases h with (((h | h) | h) | h) | h
 ·exact .inr (.inr (.inr (.inl (by omega))))
 ·exact .inr (.inr (.inr (.inr (by omega))))
 ·exact .inr (.inl (by omega))
 ·exact .inr (.inr (.inl (by omega)))
 ·exact .inl h
set_option maxRecDepth 100000 in
set_option maxHeartbeats 4000000 in
theorem mDo_no (v : Value) (s : St) (c : Ca) (w : World) (h : StAt none w v s) (hno : mayC s c = false) :
  Calls Tryz.prog 15 #[v, caV c] w fun e w' => ∃ zs vI vO vM rv, e = .returned (.tuple #[.agg #[vI, vO, vM], rv]) ∧ OwnR w.heap.size w' (doV s c).1 zs vI vO vM ∧ ResIs (some w.heap.size) w' rv (doV s c).2 ∧ Below w.heap.size w w' := by
 rw [mayC_bad hno]
 obtain ⟨A, n, c', E, m, d, D, k, e, rfl, _⟩ := h.at_
 obtain ⟨W, W2, W3, W4, hW, hW2, hW3, hW4, z1, z2, z3, z4, hst, ho0, hca, ho2, hr3, hbel⟩ := do_start A n c' E m d D k e s c w h
 have HST := Lib.hid hst
 have HO0 := Lib.hid ho0
 have HCA := Lib.hid hca
 have HO2 := Lib.hid ho2
 have HR3 := Lib.hid hr3
 have HB := Lib.hid hbel
 obtain ⟨p0, p1, p2, _⟩ := ho0.get
 have hmf : ∀ (fn : Fn) (first cap : Array Value) (w : World), (Instr.makeFunc fn first cap).run Tryz.prog w = .ok (.func fn first cap) w := fun _ _ _ _ => rfl
 unfold caV
 clear h hst ho0 hca ho2 hr3 hbel
 go_enter_defers Tryz.func15, Tryz.ntmps15
 go_wp2_with fail
 refine (mmayc_any w.heap.size (w.heap.size + 1) A n c' E m d D k e s c W4 HO0.out HST.out HCA.out).mono ?_
 rintro e5 w5 ⟨rfl, hb5⟩
 rw [hno]
 have q0 := (hb5.cell (p := ⟨w.heap.size, 0, none⟩) (by show w.heap.size < _; omega)).trans p0
 have q1 := (hb5.cell (p := ⟨w.heap.size, 1, none⟩) (by show w.heap.size < _; omega)).trans p1
 have q2 := (hb5.cell (p := ⟨w.heap.size, 2, none⟩) (by show w.heap.size < _; omega)).trans p2
 have HB5 := Lib.hid hb5
 have hs5 := hb5.size
 clear hb5 p0 p1 p2 hW hW2 hW3 hW4
 go_wp2_with fail
 refine (mclone_any _ s w5 (HST.out.below HB5.out)).mono ?_
 rintro e6 w6 ⟨zs, vI, vO, vM, rfl, hown6, hb6⟩
 obtain ⟨A1, c1, rfl, _⟩ := hown6.rowI.slice
 obtain ⟨A2, c2, rfl, _⟩ := hown6.rowO.slice
 obtain ⟨A3, c3, rfl, _⟩ := hown6.rowM.slice
 have hbw : Below W4.heap.size W4 w6 := Cv.next HB5.out hb6
 have hO6 : OutAt w6 (w.heap.size + 2) _ _ _ := (hbw.block (w.heap.size + 2) (by omega)).trans HO2.out
 have hR6 : ResAt w6 (w.heap.size + 3) _ _ _ _ _ _ := (hbw.block (w.heap.size + 3) (by omega)).trans HR3.out
 obtain ⟨x0, x1, x2, xf⟩ := hO6.get
 obtain ⟨U4, hU4, hr4, hk4, hB4⟩ := hO6.three (.slice A1 zs.length c1) (.slice A2 s.opn.length c2) (.slice A3 s.made.length c3)
 have hRU : ResAt U4 (w.heap.size + 3) _ _ _ _ _ _ := (((hk4 31 (by decide)).same (w.heap.size + 3) _ hR6)).trans hR6
 obtain ⟨y0, y1, y2, y3, y4, y5, yf⟩ := hRU.get
 obtain ⟨U6, hU6, hr6, hk6, hB6, hs6, _⟩ := hRU.six (.int .i64 9) (.int .i64 0) (.int .i64 0) (.bool false) (.string ⟨#[]⟩) (.slice none 0 0)
 have hO9 : OutAt U6 (w.heap.size + 2) _ _ _ := (hs6 (w.heap.size + 2) (by omega)).trans hr4
 have hown9 : OwnR w.heap.size U6 s zs (.slice A1 zs.length c1) (.slice A2 s.opn.length c2) (.slice A3 s.made.length c3) := ((hown6.lower (by omega)).keep (hk4 _ (by decide)) (hk4 _ (by decide)) (hk4 _ (by decide)) (hk4 _ (by decide))).keep (hk6 _ (by decide)) (hk6 _ (by decide)) (hk6 _ (by decide)) (hk6 _ (by decide))
 have hBF : Below w.heap.size w U6 := hB6 _ w (by omega) (hB4 _ w (by omega) (Cv.next HB.out hbw))
 have HF := Lib.hid (And.intro hO9 (And.intro hown9 (And.intro hr6 hBF)))
 clear hO9 hown9 hBF hr6 hk6 hB6 hs6 hr4 hk4 hB4 hRU hown6 hb6 hbw hO6 hR6
 go_wp2_with fail
 exact ⟨_, do_results _ _ _ _ _ _ _ _ _ _ _ _ U6 rfl rfl HF.out.1 HF.out.2.2.1, zs, _, _, _, _, rfl, HF.out.2.1, ⟨none, 0, 0, rfl, ⟨Nat.le_refl _, fun _ => rfl⟩, nms_nil _ _⟩, HF.out.2.2.2⟩
end Go.Proofs.YtndcloohcfhejaaGreat
