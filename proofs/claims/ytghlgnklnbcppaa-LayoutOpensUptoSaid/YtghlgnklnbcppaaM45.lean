/- Parts of the proof, side by side: LayoutOpensW, OpenState, LayoutOpensJ. -/
import Derived.Test.YtghlgnklnbcppaaM39
import Derived.Test.YtghlgnklnbcppaaM40
import Derived.Test.YtghlgnklnbcppaaM44
import Derived.Test.YtghlgnklnbcppaaRows
import Derived.Test.YtghlgnklnbcppaaM00
import Derived.Test.YtghlgnklnbcppaaFsMake
import Derived.ProofKit
import Derived.OpenShut
import Derived.ChangeSlices
import Derived.Deep.SlicePairs
import Derived.Lib.SmallJoins
set_option linter.unusedVariables false
set_option linter.unusedSimpArgs false
set_option linter.unusedVariables false
set_option linter.unusedSimpArgs false
namespace Go.Proofs.Ytghlgnklnbcppaa
open Go.RowKit
theorem boxSR (w : World) (a b c : Value) (code fd num : Int) (dir : Bool) (data : ByteArray) (F : Option Addr) (f f' : Nat) : ∃ V1 V, w.alloc (.cells #[a, b, c] 26) = V1 ∧ V1.alloc (.cells #[.int .i64 code, .int .i64 fd, .int .i64 num, .bool dir, .string data, .slice F f f'] 37) = V ∧ V1.heap.size = w.heap.size + 1 ∧ V.heap.size = w.heap.size + 2 ∧
  OutAt V w.heap.size a b c ∧ Below w.heap.size w V := by
 obtain ⟨V1, hV1⟩ : ∃ V1, w.alloc (.cells #[a, b, c] 26) = V1 := ⟨_, rfl⟩
 have l1 : Below w.heap.size w V1 := by rw [← hV1]; exact (Below.refl _ _).alloc (Nat.le_refl _) _
 have o1 : OutAt V1 w.heap.size a b c := by rw [← hV1]; exact heap_alloc_new w _
 have y1 : V1.heap.size = w.heap.size + 1 := by rw [← hV1]; simp
 obtain ⟨V2, hV2⟩ : ∃ V2, V1.alloc (.cells #[.int .i64 code, .int .i64 fd, .int .i64 num, .bool dir, .string data, .slice F f f'] 37) = V2 := ⟨_, rfl⟩
 have l2 : Below V1.heap.size V1 V2 := by rw [← hV2]; exact (Below.refl _ _).alloc (Nat.le_refl _) _
 exact ⟨V1, V2, hV1, hV2, y1, by rw [← hV2]; simp; omega, (l2.block _ (by omega)).trans o1, Cv.next l1 l2⟩
theorem lput_yes {s : St} (hm : mayV s = true) : lputR s = (⟨(putL s).toArray⟩, 0) := by unfold lputR; rw [if_pos hm]
theorem lput_no {s : St} (hm : mayV s = false) : lputR s = (⟨#[]⟩, 1902) := by unfold lputR; rw [if_neg (by rw [hm]; decide)]
theorem sized_noopen {s : St} (h : Sized s) : Sized { s with opn := [] } :=
 ⟨by have := h.big; show s.inos.length + bulkE s.inos + 0 + s.made.length ≤ _; omega, h.text, h.nums⟩
set_option maxRecDepth 100000 in
set_option maxHeartbeats 8000000 in
theorem layoutOpens_walk (v : Value) (s : St) (c : Ca) (w : World) (h : StAt none w v s) (hp1 : c.path.size ≤ 140737488355328) (hp2 : c.path2.size ≤ 140737488355328) :
  Calls Try.prog 3 #[v, caV c] w fun e w' => e = .returned (.bool true) ∧ Below w.heap.size w w' := by
 obtain ⟨A, n, c', E, m, d, D, k, e, rfl, hI, hD, hM, h5, h6, h7⟩ := h.at_
 obtain ⟨V1, hV1, hz1, ho1, hb1⟩ := boxS w (.slice A n c') (.slice E m d) (.slice D k e)
 obtain ⟨V2, hV2, hc2, hb2, hz2⟩ := box_ca V1 c
 rw [hz1] at hc2
 have hst0 := (h.below hb1).below hb2
 have hO0 := ho1.go hb2
 have hB0 : Below w.heap.size w V2 := Cv.next hb1 hb2
 have HST := Lib.hid hst0
 have HO := Lib.hid hO0
 have HB := Lib.hid hB0
 have HC : Hid (V2.heap[w.heap.size + 1]? = _) := Lib.hid hc2
 have HK := Lib.hid hM.1
 have HP1 := Lib.hid hp1
 have HP2 := Lib.hid hp2
 unfold caV
 clear h hb1 hb2 hst0 hO0 hB0 hp1 hp2 hc2 ho1 hI hD hM h5 h6 h7
 go_enter Try.func3, Try.ntmps3
 go_wp2_with fail
 refine (awake19 V2).mono ?_
 rintro e3 V3 ⟨rfl, hb3⟩
 have HST3 := Lib.hid (HST.out.below hb3)
 have HO3 := Lib.hid (HO.out.go hb3)
 have HC3 : Hid (V3.heap[w.heap.size + 1]? = _) := Lib.hid ((hb3.block (w.heap.size + 1) (by omega)).trans HC.out)
 have HB3 := Lib.hid (Cv.next HB.out hb3)
 obtain ⟨o0, o1, o2, _⟩ := HO3.out.get
 have hz3 := hb3.size
 clear hb3
 go_wp2_with fail
 refine (lputr_any _ s V3 HST3.out).mono ?_
 rintro e4 V4 ⟨rfl, hb4⟩
 have HST4 := Lib.hid (HST3.out.below hb4)
 have HO4 := Lib.hid (HO3.out.go hb4)
 have HC4 : Hid (V4.heap[w.heap.size + 1]? = _) := Lib.hid ((hb4.block (w.heap.size + 1) (by omega)).trans HC3.out)
 have HB4 := Lib.hid (Cv.next HB3.out hb4)
 obtain ⟨p0, p1, p2, _⟩ := HO4.out.get
 have hz4 := hb4.size
 clear hb4 o0 o1 o2
 cases hm : mayV s
 ·rw [lput_no hm]
  clear hm
  go_wp2_with fail
  refine (num19 1902 V4).mono ?_
  rintro e5 V5 ⟨rfl, rfl⟩
  go_wp2_with fail
  go_ret
  exact ⟨rfl, HB4.out⟩
 ·obtain ⟨T, hT⟩ : ∃ T, (⟨(putL s).toArray⟩ : ByteArray) = T := ⟨_, rfl⟩
  obtain ⟨f, -⟩ := ((good_iff s).1 hm).frm
  have hk1 : 1 ≤ k := by have := f.m1; have := HK.out; omega
  have hk8 : k ≤ 8 := by have := f.m8; have := HK.out; omega
  have q0 : ((k : Int) == 0) = false := by rw [beq_eq_false_iff_ne]; omega
  have wk : IntKind.u64.wrap (k : Int) = (k : Int) := by rw [IntKind.wrap_u64]; omega
  obtain ⟨C, hC, hCk⟩ := Cv.tmod_u64 c.core k (by omega)
  have wC : IntKind.i64.wrap (C : Int) = (C : Int) := IntWalk.i64_in _ (by omega)
  have hput0 := lput_yes hm
  rw [hT] at hput0
  have hputP : ∀ t, mayV t = true → putL t = putL s → lputR t = (T, 0) := fun t h1 h2 => by rw [lput_yes h1, h2, hT]
  have HPUT := Lib.hid hputP
  have HP0 := Lib.hid hput0
  have HM := Lib.hid hm
  have hc4 := HC4.out
  have k0 : V4.cell? ⟨w.heap.size + 1, 0, none⟩ = some (.int .i64 c.kind) := by rw [cell_of_row V4 _ _ _ _ (0, 0) hc4]; rfl
  have k1 : V4.cell? ⟨w.heap.size + 1, 1, none⟩ = some (.int .i64 c.core) := by rw [cell_of_row V4 _ _ _ _ (0, 0) hc4]; rfl
  have k2 : V4.cell? ⟨w.heap.size + 1, 2, none⟩ = some (.int .i64 c.fd) := by rw [cell_of_row V4 _ _ _ _ (0, 0) hc4]; rfl
  have k3 : V4.cell? ⟨w.heap.size + 1, 3, none⟩ = some (.int .i64 c.off) := by rw [cell_of_row V4 _ _ _ _ (0, 0) hc4]; rfl
  have k4 : V4.cell? ⟨w.heap.size + 1, 4, none⟩ = some (.int .i64 c.num) := by rw [cell_of_row V4 _ _ _ _ (0, 0) hc4]; rfl
  have k5 : V4.cell? ⟨w.heap.size + 1, 5, none⟩ = some (.string c.path) := by rw [cell_of_row V4 _ _ _ _ (0, 0) hc4]; rfl
  have k6 : V4.cell? ⟨w.heap.size + 1, 6, none⟩ = some (.string c.path2) := by rw [cell_of_row V4 _ _ _ _ (0, 0) hc4]; rfl
  have k7 : V4.cell? ⟨w.heap.size + 1, 7, none⟩ = some (.string c.data) := by rw [cell_of_row V4 _ _ _ _ (0, 0) hc4]; rfl
  rw [hput0]
  clear hput0 hputP hm f hT hc4
  go_wp2_with fail
  refine (num19 0 V4).mono ?_
  rintro e5 V5 ⟨rfl, rfl⟩
  obtain ⟨X1, hX1, hcX, hbX, hzX⟩ := box_ca V4 c
  obtain ⟨P, hP⟩ : ∃ P, V4.heap.size = P := ⟨_, rfl⟩
  have l1 : w.heap.size + 1 < V4.heap.size := by omega
  have x1 := (hbX.cell (p := ⟨w.heap.size + 1, 1, none⟩) l1).trans k1
  have s0 := (hbX.cell (p := ⟨w.heap.size, 0, none⟩) (by show w.heap.size < _; omega)).trans p0
  have s1 := (hbX.cell (p := ⟨w.heap.size, 1, none⟩) (by show w.heap.size < _; omega)).trans p1
  have s2 := (hbX.cell (p := ⟨w.heap.size, 2, none⟩) (by show w.heap.size < _; omega)).trans p2
  rw [hP] at hcX hzX hbX
  have n1 : w.heap.size + 1 ≠ P := by omega
  have n0 : w.heap.size ≠ P := by omega
  have n1' := Ne.symm n1
  have n0' := Ne.symm n0
  have y0 : X1.cell? ⟨P, 0, none⟩ = some (.int .i64 c.kind) := by rw [cell_of_row X1 _ _ _ _ (0, 0) hcX]; rfl
  have y1 : X1.cell? ⟨P, 1, none⟩ = some (.int .i64 c.core) := by rw [cell_of_row X1 _ _ _ _ (0, 0) hcX]; rfl
  have y2 : X1.cell? ⟨P, 2, none⟩ = some (.int .i64 c.fd) := by rw [cell_of_row X1 _ _ _ _ (0, 0) hcX]; rfl
  have y3 : X1.cell? ⟨P, 3, none⟩ = some (.int .i64 c.off) := by rw [cell_of_row X1 _ _ _ _ (0, 0) hcX]; rfl
  have y4 : X1.cell? ⟨P, 4, none⟩ = some (.int .i64 c.num) := by rw [cell_of_row X1 _ _ _ _ (0, 0) hcX]; rfl
  have y5 : X1.cell? ⟨P, 5, none⟩ = some (.string c.path) := by rw [cell_of_row X1 _ _ _ _ (0, 0) hcX]; rfl
  have y6 : X1.cell? ⟨P, 6, none⟩ = some (.string c.path2) := by rw [cell_of_row X1 _ _ _ _ (0, 0) hcX]; rfl
  have y7 : X1.cell? ⟨P, 7, none⟩ = some (.string c.data) := by rw [cell_of_row X1 _ _ _ _ (0, 0) hcX]; rfl
  have yf : ∀ j, X1.frozen? ⟨P, j, none⟩ = false := fun j => frozen_of_row X1 P j _ _ hcX
  have yf0 := yf 0
  have yf1 := yf 1
  obtain ⟨X3, hX3⟩ : ∃ X3, (X1.setCell ⟨P, 0, none⟩ (.int .i64 2)).setCell ⟨P, 1, none⟩ (.int .i64 (C : Int)) = X3 := ⟨_, rfl⟩
  have hb3 : Below P V4 X3 := by rw [← hX3]; exact (hbX.setCell (Nat.le_refl _) _).setCell (Nat.le_refl _) _
  have hz5 : X3.heap.size = P + 1 := by rw [← hX3]; simp [World.setCell, hzX]
  have HST5 := Lib.hid (HST4.out.below (w' := X3) (by rw [hP]; exact hb3))
  have HO5 := Lib.hid (HO4.out.go (w' := X3) (by rw [hP]; exact hb3))
  have HB5 := Lib.hid (Cv.next HB4.out (c := X3) (by rw [hP]; exact hb3))
  have hcX3 : X3.heap[P]? = some (.cells #[.int .i64 2, .int .i64 (C : Int), .int .i64 c.fd, .int .i64 c.off, .int .i64 c.num, .string c.path, .string c.path2, .string c.data] 28 (0, 0)) := by rw [← hX3]; exact heap_setCell_same _ P 1 _ _ _ (heap_setCell_same _ P 0 _ _ _ hcX)
  have z0 : X3.cell? ⟨P, 0, none⟩ = some (.int .i64 2) := by rw [cell_of_row X3 _ _ _ _ (0, 0) hcX3]; rfl
  have z1 : X3.cell? ⟨P, 1, none⟩ = some (.int .i64 (C : Int)) := by rw [cell_of_row X3 _ _ _ _ (0, 0) hcX3]; rfl
  have z2 : X3.cell? ⟨P, 2, none⟩ = some (.int .i64 c.fd) := by rw [cell_of_row X3 _ _ _ _ (0, 0) hcX3]; rfl
  have z3 : X3.cell? ⟨P, 3, none⟩ = some (.int .i64 c.off) := by rw [cell_of_row X3 _ _ _ _ (0, 0) hcX3]; rfl
  have z4 : X3.cell? ⟨P, 4, none⟩ = some (.int .i64 c.num) := by rw [cell_of_row X3 _ _ _ _ (0, 0) hcX3]; rfl
  have z5 : X3.cell? ⟨P, 5, none⟩ = some (.string c.path) := by rw [cell_of_row X3 _ _ _ _ (0, 0) hcX3]; rfl
  have z6 : X3.cell? ⟨P, 6, none⟩ = some (.string c.path2) := by rw [cell_of_row X3 _ _ _ _ (0, 0) hcX3]; rfl
  have z7 : X3.cell? ⟨P, 7, none⟩ = some (.string c.data) := by rw [cell_of_row X3 _ _ _ _ (0, 0) hcX3]; rfl
  obtain ⟨t0, t1, t2, _⟩ := HO5.out.get
  have hdo := Do_doc (.agg #[.slice A n c', .slice E m d, .slice D k e]) s ⟨2, C, c.fd, c.off, c.num, c.path, c.path2, c.data⟩ X3 HST5.out HP1.out HP2.out
  obtain ⟨R, hR⟩ : ∃ R, doV s ⟨2, C, c.fd, c.off, c.num, c.path, c.path2, c.data⟩ = R := ⟨_, rfl⟩
  have hmR : mayV R.1 = true := by rw [← hR]; exact may_doV _ _ HM.out
  have hpR : putL R.1 = putL s := by rw [← hR]; exact put_open _ _ rfl
  rw [hR] at hdo
  have HPR := Lib.hid (HPUT.out _ hmR hpR)
  have HDO := Lib.hid hdo
  clear hcX hbX hb3 yf hcX3 hdo hR hmR hpR
  go_wp2_with fail
  refine HDO.out.mono ?_
  rintro e6 x6 ⟨v6, rv, rfl, hst6, ⟨F, f, f', rfl, hokF, hnF⟩, hb6⟩
  obtain ⟨A6, n6, c6, E6, m6, d6, D6, k6, e6, rfl, _⟩ := hst6.at_
  obtain ⟨U1, V6, hU1, hU, hy1, hy, hoU, hbU⟩ := boxSR x6 (.slice A6 n6 c6) (.slice E6 m6 d6) (.slice D6 k6 e6) R.2.code R.2.fd R.2.num R.2.dir R.2.data F f f'
  have hbb : Below X3.heap.size X3 V6 := Cv.next hb6 hbU
  have HST6 := Lib.hid (HST5.out.below hbb)
  have HO6 := Lib.hid (HO5.out.go hbb)
  have HB6 := Lib.hid (Cv.next HB5.out hbb)
  have HSR := Lib.hid (hst6.weak.below hbU)
  have hz6 := hbb.size
  obtain ⟨a0, a1, a2, _⟩ := hoU.get
  obtain ⟨b0, b1, b2, _⟩ := HO6.out.get
  clear hst6 hokF hnF hb6 hoU hbU hbb t0 t1 t2 z0 z1 z2 z3 z4 z5 z6 z7 hX3
  go_wp2_with fail
  refine (lputr_any _ R.1 V6 HSR.out).mono ?_
  rintro e7 V7 ⟨rfl, hb7⟩
  rw [HPR.out]
  have HST7 := Lib.hid (HST6.out.below hb7)
  have HO7 := Lib.hid (HO6.out.go hb7)
  have HB7 := Lib.hid (Cv.next HB6.out hb7)
  obtain ⟨b0, b1, b2, _⟩ := HO7.out.get
  have hz7 := hb7.size
  clear hb7
  go_wp2_with fail
  refine (copy_any _ s V7 HST7.out).mono ?_
  rintro e8 x8 ⟨v8, rfl, hst8, hb8⟩
  obtain ⟨A8, n8, c8, E8, m8, d8, D8, k8, e8, rfl, hI8, hD8, hM8, h85, h86, h87⟩ := hst8.at_
  obtain ⟨V8, hV8, hz8, ho8, hb8'⟩ := boxS x8 (.slice A8 n8 c8) (.slice E8 m8 d8) (.slice D8 k8 e8)
  obtain ⟨Q, hQ⟩ : ∃ Q, x8.heap.size = Q := ⟨_, rfl⟩
  rw [hQ] at ho8 hz8
  have hoQ : OutAt (V8.setCell ⟨Q, 1, none⟩ (.slice none 0 0)) Q (.slice A8 n8 c8) (.slice none 0 0) (.slice D8 k8 e8) := heap_setCell_same V8 Q 1 _ _ _ ho8
  obtain ⟨r0, r1, r2, rf⟩ := ho8.get
  have rf1 := rf 1
  obtain ⟨V9, hV9⟩ : ∃ V9, V8.setCell ⟨Q, 1, none⟩ (.slice none 0 0) = V9 := ⟨_, rfl⟩
  have hb9 : Below x8.heap.size x8 V9 := by rw [← hV9]; exact hb8'.setCell (by rw [hQ]; exact Nat.le_refl _) _
  rw [hV9] at hoQ
  obtain ⟨g0, g1, g2, _⟩ := hoQ.get
  have hst9 : StAt none V9 (.agg #[.slice A8 n8 c8, .slice none 0 0, .slice D8 k8 e8]) { s with opn := [] } :=
   ⟨⟨A8, n8, c8, none, 0, 0, D8, k8, e8, rfl, (hI8.weak).below hb9, ⟨rfl, fun h => absurd h (by omega)⟩, (hM8.weak).below hb9, h85, ⟨by omega, fun _ => rfl⟩, h87⟩, sized_noopen hst8.2⟩
  have HST9 := Lib.hid hst9
  have hbb9 : Below V7.heap.size V7 V9 := Cv.next hb8 hb9
  have HSS9 := Lib.hid (HST7.out.below hbb9)
  have HO9 := Lib.hid (HO7.out.go hbb9)
  have HB9 := Lib.hid (Cv.next HB7.out hbb9)
  clear hst8 hb8 hI8 hD8 hM8 h85 h86 h87 hb8' ho8 hoQ rf hb9 hst9 hbb9 b0 b1 b2
  go_wp2_with fail
  refine (bare_any _ { s with opn := [] } V9 HST9.out).mono ?_
  rintro e10 V10 ⟨v10, rfl, hst10, hb10⟩
  have hst10' : StAt none V10 v10 (bareV s) := hst10
  obtain ⟨A10, n10, c10, E10, m10, d10, D10, k10, e10, rfl, _⟩ := hst10.at_
  have HST10 := Lib.hid hst10'
  have HSS10 := Lib.hid (HSS9.out.below hb10)
  have HO10 := Lib.hid (HO9.out.go hb10)
  have HB10 := Lib.hid (Cv.next HB9.out hb10)
  clear hst10 hst10' hb10 g0 g1 g2
  have HPB := Lib.hid (HPUT.out _ (may_bare HM.out) (put_bare s))
  go_wp2_with fail
  refine (lputr_any _ (bareV s) V10 HST10.out).mono ?_
  rintro e11 V11 ⟨rfl, hb11⟩
  rw [HPB.out]
  have HSS11 := Lib.hid (HSS10.out.below hb11)
  have HO11 := Lib.hid (HO10.out.go hb11)
  have HB11 := Lib.hid (Cv.next HB10.out hb11)
  obtain ⟨b0, b1, b2, _⟩ := HO11.out.get
  clear hb11
  go_wp2_with fail
  refine (num19 0 V11).mono ?_
  rintro e12 V12 ⟨rfl, rfl⟩
  go_wp2_with fail
  refine (num19 0 V11).mono ?_
  rintro e12 V12 ⟨rfl, rfl⟩
  go_wp2_with fail
  refine (size_any _ s V11 HSS11.out).mono ?_
  rintro e13 V13 ⟨rfl, hb13⟩
  rw [HP0.out]
  have HB13 := Lib.hid (Cv.next HB11.out hb13)
  clear hb13
  go_wp2_with fail
  go_ret
  exact ⟨rfl, HB13.out⟩
end Go.Proofs.Ytghlgnklnbcppaa

set_option linter.unusedVariables false
set_option linter.unusedSimpArgs false
namespace Go.Proofs.Ytghlgnklnbcppaa
open Go.ChangeShapes Go.WideShapes Go.ChangeAt Go.RowKit Go.Deep Go.Joins
set_option maxRecDepth 100000
theorem bulkS_pos {H : Type} (d : DataW H) : 1 ≤ Rows.uptoBulk d := by
 cases d with
 | lit l => cases l <;> simp [Rows.uptoBulk]
 | nil => simp [Rows.uptoBulk]
 | ptr d => simp [Rows.uptoBulk]
 | slice elems spare => simp [Rows.uptoBulk]
 | agg parts => simp [Rows.uptoBulk]
 | iface t d => simp [Rows.uptoBulk]
 | map entries => simp [Rows.uptoBulk]
 | held h => simp [Rows.uptoBulk]
theorem bulkS_part {H : Type} {d : DataW H} {l : List (DataW H)} (h : d ∈ l) : Rows.uptoBulk d ≤ Rows.uptoBulkAll l := by
 induction l with
 | nil => cases h
 | cons x r ih =>
  simp only [Rows.uptoBulkAll]
  cases List.mem_cons.1 h with
  | inl e => subst e; omega
  | inr e => have := ih e; omega
theorem bulkS_len {H : Type} (l : List (DataW H)) : l.length ≤ Rows.uptoBulkAll l := by
 induction l with
 | nil => simp [Rows.uptoBulkAll]
 | cons x r ih => have := bulkS_pos x; simp only [Rows.uptoBulkAll, List.length_cons]; omega
theorem bulkS_slice {H : Type} (elems spare : List (DataW H)) : Rows.uptoBulkAll elems + 1 ≤ Rows.uptoBulk (.slice elems spare) := by
 simp only [Rows.uptoBulk]
 omega
theorem bulkS_string {H : Type} (s : ByteArray) : s.size ≤ Rows.uptoBulk (H := H) (.lit (.string s.data.toList)) := by
 simp only [Rows.uptoBulk]
 have : s.data.toList.length = s.size := Array.length_toList
 omega
theorem lit_i64 {z : Int} (h : (Lit.int .i64 z).wf = true) : -9223372036854775808 ≤ z ∧ z ≤ 9223372036854775807 := by
 simpa [Lit.wf, IntKind.min, IntKind.max, IntKind.bits, IntKind.signed] using h
theorem lt_of_cellS {w : World} {p : Addr} {u : Value} (h : w.cell? p = some u) : p.block < w.heap.size := by
 rcases Nat.lt_or_ge p.block w.heap.size with hl | hl
 ·exact hl
 ·exfalso
  unfold World.cell? at h
  rw [Array.getElem?_eq_none hl] at h
  cases h
theorem addS (b off i : Nat) : (⟨b, off, none⟩ : Addr).add i = ⟨b, off + i, none⟩ := by unfold Addr.add; split <;> simp_all
theorem spotS {w : World} {a : Addr} {u : Value} (h : w.cell? (a.add 0) = some u) : ∃ g off, a = ⟨g, off, none⟩ ∧ g < w.heap.size := by
 obtain ⟨b, off, spot⟩ := a
 have hs : spot = none := by simpa [Addr.add] using World.cell?_spot h
 subst hs
 rw [addS] at h
 exact ⟨b, off, rfl, lt_of_cellS h⟩
section
variable {H : Type} {enc : TypeId × Value → H} {W : World} {sp : Nat → Bool} {hd : Bool} {f : Nat}
theorem ent_cells {cs : List Value} {D : DataW H} {Pl : List MemPlace} (h : DataW.trod enc Try.prog W 0 sp hd f 103 cs = some (D, Pl)) (hl : cs.length = 2) :
  ∃ (s : ByteArray) (z : Int), cs = [.string s, .int .i64 z] ∧ s.size ≤ Rows.uptoBulk D ∧ (Lit.int .i64 z).wf = true := by
 have c1 : Try.prog.cellsOf 3 = 1 := by kernel_rfl
 have c9 : Try.prog.cellsOf 9 = 1 := by kernel_rfl
 obtain ⟨y0, y1, n, hx, _, h0, h1⟩ := trod_struct2 Try.underlying103 h
 match cs, hl with
 | [v0, v1], _ =>
  simp [c1, c9] at h0 h1
  obtain ⟨s, hs, hy, _⟩ := DataW.trod_string Try.underlying9 h0
  obtain ⟨z, hz, _, hw⟩ := DataW.trod_int Try.underlying3 h1
  simp at hs hz
  subst hs hz
  simp at hx
  refine ⟨s, z, rfl, ?_, hw⟩
  rw [hx.1, hy]
  have := bulkS_string (H := H) s
  simp only [Rows.uptoBulk, Rows.uptoBulkAll] at this ⊢
  omega
theorem desc_cells {cs : List Value} {D : DataW H} {Pl : List MemPlace} (h : DataW.trod enc Try.prog W 0 sp hd f 51 cs = some (D, Pl)) (hl : cs.length = 3) :
  ∃ a b k : Int, cs = [.int .i64 a, .int .i64 b, .int .i64 k] := by
 have c1 : Try.prog.cellsOf 3 = 1 := by kernel_rfl
 obtain ⟨y0, y1, y2, n, hx, _, h0, h1, h2⟩ := trod_struct3 Try.underlying51 h
 match cs, hl with
 | [v0, v1, v2], _ =>
  simp [c1] at h0 h1 h2
  obtain ⟨z0, hz0, _⟩ := DataW.trod_int Try.underlying3 h0
  obtain ⟨z1, hz1, _⟩ := DataW.trod_int Try.underlying3 h1
  obtain ⟨z2, hz2, _⟩ := DataW.trod_int Try.underlying3 h2
  simp at hz0 hz1 hz2
  subst hz0 hz1 hz2
  exact ⟨_, _, _, rfl⟩
theorem isEnts_of {v : Value} {d : DataW H} {p : List MemPlace} (h : DataW.trod enc Try.prog W 0 sp hd f 70 [v] = some (d, p)) :
  ∃ A n c es, v = .slice A n c ∧ SlOk A n c ∧ EntsAt none W A n es ∧ es.length ≤ Rows.uptoBulk d ∧ ∀ e ∈ es, e.name.size ≤ Rows.uptoBulk d ∧ -9223372036854775808 ≤ e.num ∧ e.num ≤ 9223372036854775807 := by
 rcases Go.Deep.open_slice Try.underlying70 h with ⟨hcs, hx⟩ | ⟨a, len, cap, m, f', D, Pl, hcs, _, hl, hm, hmm, hx, hcell⟩
 ·simp at hcs
  exact ⟨none, 0, 0, [], hcs, ⟨Nat.le_refl _, fun _ => rfl⟩, ⟨rfl, fun h => absurd h (by omega)⟩, Nat.zero_le _, fun e he => by cases he⟩
 ·simp at hcs
  simp at hx
  have hnm : len ≤ m := by rw [hmm]; split <;> omega
  have ce : Try.prog.cellsOf 103 = 2 := by kernel_rfl
  have each : ∀ j, j < len → ∃ z : En, W.cell? (a.add (j * 2)) = some (.string z.name) ∧ W.cell? (a.add (j * 2 + 1)) = some (.int .i64 z.num) ∧ z.name.size ≤ Rows.uptoBulk (D j) ∧ (Lit.int .i64 z.num).wf = true := by
   intro j hj
   obtain ⟨cs', h1, h2⟩ := hcell j (by omega)
   rw [ce] at h1
   obtain ⟨_, hlen, hc⟩ := World.cells?_some h1
   obtain ⟨s, z, rfl, hs, hw⟩ := ent_cells h2 hlen
   have e0 := hc 0 (by omega)
   have e1 := hc 1 (by omega)
   rw [Go.Deep.add_add] at e0 e1
   exact ⟨⟨s, z⟩, by simpa using e0, by simpa using e1, hs, hw⟩
  have hV : ∃ F : Nat → En, ∀ j, j < len → W.cell? (a.add (j * 2)) = some (.string (F j).name) ∧ W.cell? (a.add (j * 2 + 1)) = some (.int .i64 (F j).num) ∧ (F j).name.size ≤ Rows.uptoBulk (D j) ∧ (Lit.int .i64 (F j).num).wf = true := by
   refine ⟨fun j => if h : j < len then (each j h).choose else ⟨⟨#[]⟩, 0⟩, fun j hj => ?_⟩
   simp only [hj, dif_pos]
   exact (each j hj).choose_spec
  obtain ⟨F, hF⟩ := hV
  have hb := bulkS_slice ((List.range len).map D) ((List.range (m - len)).map fun j => D (len + j))
  rw [hx.1]
  refine ⟨some a, len, cap, (List.range len).map F, hcs, ⟨hl, fun e => by cases e⟩, ⟨by simp, fun hn => ?_⟩, ?_, fun e he => ?_⟩
  ·obtain ⟨g, off, rfl, hg⟩ := spotS (hF 0 hn).1
   refine ⟨g, off, rfl, hg, Mine.any _ _ _, fun j e he => ?_⟩
   have hj : j < len := by have := (List.getElem?_eq_some_iff.1 he).1; simpa using this
   have : e = F j := by simpa [hj] using he.symm
   subst this
   obtain ⟨h1, h2, _⟩ := hF j hj
   rw [addS] at h1 h2
   exact ⟨h1, by rw [Nat.add_assoc]; exact h2⟩
  ·have := bulkS_len ((List.range len).map D)
   simp at this ⊢
   omega
  ·obtain ⟨j, hj, rfl⟩ := List.mem_map.1 he
   obtain ⟨_, _, h3, h4⟩ := hF j (List.mem_range.1 hj)
   have h5 : Rows.uptoBulk (D j) ≤ Rows.uptoBulkAll ((List.range len).map D) := bulkS_part (List.mem_map.2 ⟨j, hj, rfl⟩)
   exact ⟨by omega, lit_i64 h4⟩
theorem ino_cells {cs : List Value} {D : DataW H} {Pl : List MemPlace} (h : DataW.trod enc Try.prog W 0 sp hd f 72 cs = some (D, Pl)) (hl : cs.length = 4) :
  ∃ (x : Ino) (A : Option Addr) (n c : Nat), cs = [.int .i64 x.num, .bool x.dir, .slice A n c, .string x.data] ∧ SlOk A n c ∧ EntsAt none W A n x.ents ∧ 1 + x.ents.length ≤ Rows.uptoBulk D ∧ x.data.size ≤ Rows.uptoBulk D ∧ (Lit.int .i64 x.num).wf = true ∧ ∀ e ∈ x.ents, e.name.size ≤ Rows.uptoBulk D ∧ -9223372036854775808 ≤ e.num ∧ e.num ≤ 9223372036854775807 := by
 have c1 : Try.prog.cellsOf 3 = 1 := by kernel_rfl
 have c9 : Try.prog.cellsOf 9 = 1 := by kernel_rfl
 have c4 : Try.prog.cellsOf 4 = 1 := by kernel_rfl
 have c7 : Try.prog.cellsOf 70 = 1 := by kernel_rfl
 obtain ⟨y0, y1, y2, y3, n, hx, _, h0, h1, h2, h3⟩ := trod_struct4 Try.underlying72 h
 match cs, hl with
 | [v0, v1, v2, v3], _ =>
  simp [c1, c9, c4, c7] at h0 h1 h2 h3
  obtain ⟨z, hz, _, hw⟩ := DataW.trod_int Try.underlying3 h0
  obtain ⟨b, hb, _⟩ := DataW.trod_bool Try.underlying4 h1
  obtain ⟨A, k, c, es, rfl, hok, hE, hel, hen⟩ := isEnts_of (v := v2) (d := y2.1) (p := y2.2) h2
  obtain ⟨s, hs, hy, _⟩ := DataW.trod_string Try.underlying9 h3
  simp at hz hb hs
  subst hz hb hs
  simp at hx
  have hbs := bulkS_string (H := H) s
  have hD : Rows.uptoBulk D = Rows.uptoBulk y0.1 + (Rows.uptoBulk y1.1 + (Rows.uptoBulk y2.1 + (Rows.uptoBulk y3.1 + 0))) + 1 := by
   rw [hx.1]
   simp only [Rows.uptoBulk, Rows.uptoBulkAll]
  rw [← show y3.1 = .lit (.string s.data.toList) by rw [hy]] at hbs
  refine ⟨⟨z, b, es, s⟩, A, k, c, rfl, hok, hE, by show 1 + es.length ≤ _; omega, by show s.size ≤ _; omega, hw, fun e he => ?_⟩
  obtain ⟨h5, h6⟩ := hen e he
  exact ⟨by omega, h6⟩
theorem bulkE_cons (x : Ino) (l : List Ino) : bulkE (x :: l) = x.ents.length + bulkE l := rfl
theorem bulk_inos {D : Nat → DataW H} {F : Nat → Ino} : ∀ l : List Nat, (∀ j ∈ l, 1 + (F j).ents.length ≤ Rows.uptoBulk (D j)) → (l.map F).length + bulkE (l.map F) ≤ Rows.uptoBulkAll (l.map D)
 | [], _ => by simp [bulkE, Rows.uptoBulkAll]
 | j :: l, h => by
  have h1 := h j (by simp)
  have h2 := bulk_inos l (fun i hi => h i (by simp [hi]))
  rw [List.map_cons, List.map_cons, bulkE_cons, List.length_cons]
  simp only [Rows.uptoBulkAll]
  omega
theorem isInos_of {v : Value} {d : DataW H} {p : List MemPlace} (h : DataW.trod enc Try.prog W 0 sp hd f 22 [v] = some (d, p)) :
  ∃ A n c is, v = .slice A n c ∧ SlOk A n c ∧ InosAt none W A n is ∧ is.length + bulkE is ≤ Rows.uptoBulk d ∧ ∀ x ∈ is, x.data.size ≤ Rows.uptoBulk d ∧ (-9223372036854775808 ≤ x.num ∧ x.num ≤ 9223372036854775807) ∧ ∀ e ∈ x.ents, e.name.size ≤ Rows.uptoBulk d ∧ -9223372036854775808 ≤ e.num ∧ e.num ≤ 9223372036854775807 := by
 rcases Go.Deep.open_slice Try.underlying22 h with ⟨hcs, hx⟩ | ⟨a, len, cap, m, f', D, Pl, hcs, _, hl, hm, hmm, hx, hcell⟩
 ·simp at hcs
  exact ⟨none, 0, 0, [], hcs, ⟨Nat.le_refl _, fun _ => rfl⟩, ⟨rfl, fun h => absurd h (by omega)⟩, Nat.zero_le _, fun e he => by cases he⟩
 ·simp at hcs
  simp at hx
  have hnm : len ≤ m := by rw [hmm]; split <;> omega
  have ce : Try.prog.cellsOf 72 = 4 := by kernel_rfl
  have each : ∀ j, j < len → ∃ x : Ino, (W.cell? (a.add (j * 4)) = some (.int .i64 x.num) ∧ W.cell? (a.add (j * 4 + 1)) = some (.bool x.dir) ∧ (∃ A n c, W.cell? (a.add (j * 4 + 2)) = some (.slice A n c) ∧ SlOk A n c ∧ EntsAt none W A n x.ents) ∧ W.cell? (a.add (j * 4 + 3)) = some (.string x.data)) ∧
    1 + x.ents.length ≤ Rows.uptoBulk (D j) ∧ x.data.size ≤ Rows.uptoBulk (D j) ∧ (Lit.int .i64 x.num).wf = true ∧ ∀ e ∈ x.ents, e.name.size ≤ Rows.uptoBulk (D j) ∧ -9223372036854775808 ≤ e.num ∧ e.num ≤ 9223372036854775807 := by
   intro j hj
   obtain ⟨cs', h1, h2⟩ := hcell j (by omega)
   rw [ce] at h1
   obtain ⟨_, hlen, hc⟩ := World.cells?_some h1
   obtain ⟨x, A, n, c, rfl, hok, hE, hr⟩ := ino_cells h2 hlen
   have e0 := hc 0 (by omega)
   have e1 := hc 1 (by omega)
   have e2 := hc 2 (by omega)
   have e3 := hc 3 (by omega)
   rw [Go.Deep.add_add] at e0 e1 e2 e3
   exact ⟨x, ⟨by simpa using e0, by simpa using e1, ⟨A, n, c, by simpa using e2, hok, hE⟩, by simpa using e3⟩, hr⟩
  have hV : ∃ F : Nat → Ino, ∀ j, j < len → (W.cell? (a.add (j * 4)) = some (.int .i64 (F j).num) ∧ W.cell? (a.add (j * 4 + 1)) = some (.bool (F j).dir) ∧ (∃ A n c, W.cell? (a.add (j * 4 + 2)) = some (.slice A n c) ∧ SlOk A n c ∧ EntsAt none W A n (F j).ents) ∧ W.cell? (a.add (j * 4 + 3)) = some (.string (F j).data)) ∧
    1 + (F j).ents.length ≤ Rows.uptoBulk (D j) ∧ (F j).data.size ≤ Rows.uptoBulk (D j) ∧ (Lit.int .i64 (F j).num).wf = true ∧ ∀ e ∈ (F j).ents, e.name.size ≤ Rows.uptoBulk (D j) ∧ -9223372036854775808 ≤ e.num ∧ e.num ≤ 9223372036854775807 := by
   refine ⟨fun j => if h : j < len then (each j h).choose else ⟨0, false, [], ⟨#[]⟩⟩, fun j hj => ?_⟩
   simp only [hj, dif_pos]
   exact (each j hj).choose_spec
  obtain ⟨F, hF⟩ := hV
  have hb := bulkS_slice ((List.range len).map D) ((List.range (m - len)).map fun j => D (len + j))
  rw [hx.1]
  refine ⟨some a, len, cap, (List.range len).map F, hcs, ⟨hl, fun e => by cases e⟩, ⟨by simp, fun hn => ?_⟩, ?_, fun x hx' => ?_⟩
  ·obtain ⟨g, off, rfl, hg⟩ := spotS (hF 0 hn).1.1
   refine ⟨g, off, rfl, hg, Mine.any _ _ _, fun j x he => ?_⟩
   have hj : j < len := by have := (List.getElem?_eq_some_iff.1 he).1; simpa using this
   have : x = F j := by simpa [hj] using he.symm
   subst this
   obtain ⟨⟨h1, h2, ⟨B, k, c, h3, h4, h5⟩, h6⟩, _⟩ := hF j hj
   rw [addS] at h1 h2 h3 h6
   refine ⟨h1, by rw [Nat.add_assoc]; exact h2, ⟨B, k, c, by rw [Nat.add_assoc]; exact h3, h4, h5⟩, by rw [Nat.add_assoc]; exact h6⟩
  ·have := bulk_inos (D := D) (F := F) (List.range len) (fun j hj => (hF j (List.mem_range.1 hj)).2.1)
   omega
  ·obtain ⟨j, hj, rfl⟩ := List.mem_map.1 hx'
   obtain ⟨_, _, h3, h4, h6⟩ := hF j (List.mem_range.1 hj)
   have h5 : Rows.uptoBulk (D j) ≤ Rows.uptoBulkAll ((List.range len).map D) := bulkS_part (List.mem_map.2 ⟨j, hj, rfl⟩)
   exact ⟨by omega, lit_i64 h4, fun e he => ⟨by have := (h6 e he).1; omega, (h6 e he).2⟩⟩
theorem isDescs_of {v : Value} {d : DataW H} {p : List MemPlace} (h : DataW.trod enc Try.prog W 0 sp hd f 23 [v] = some (d, p)) :
  ∃ A n c ds, v = .slice A n c ∧ SlOk A n c ∧ DescsAt none W A n ds ∧ ds.length ≤ Rows.uptoBulk d := by
 rcases Go.Deep.open_slice Try.underlying23 h with ⟨hcs, hx⟩ | ⟨a, len, cap, m, f', D, Pl, hcs, _, hl, hm, hmm, hx, hcell⟩
 ·simp at hcs
  exact ⟨none, 0, 0, [], hcs, ⟨Nat.le_refl _, fun _ => rfl⟩, ⟨rfl, fun h => absurd h (by omega)⟩, Nat.zero_le _⟩
 ·simp at hcs
  simp at hx
  have hnm : len ≤ m := by rw [hmm]; split <;> omega
  have ce : Try.prog.cellsOf 51 = 3 := by kernel_rfl
  have each : ∀ j, j < len → ∃ z : Ds, W.cell? (a.add (j * 3)) = some (.int .i64 z.core) ∧ W.cell? (a.add (j * 3 + 1)) = some (.int .i64 z.fd) ∧ W.cell? (a.add (j * 3 + 2)) = some (.int .i64 z.num) := by
   intro j hj
   obtain ⟨cs', h1, h2⟩ := hcell j (by omega)
   rw [ce] at h1
   obtain ⟨_, hlen, hc⟩ := World.cells?_some h1
   obtain ⟨x, y, z, rfl⟩ := desc_cells h2 hlen
   have e0 := hc 0 (by omega)
   have e1 := hc 1 (by omega)
   have e2 := hc 2 (by omega)
   rw [Go.Deep.add_add] at e0 e1 e2
   exact ⟨⟨x, y, z⟩, by simpa using e0, by simpa using e1, by simpa using e2⟩
  have hV : ∃ F : Nat → Ds, ∀ j, j < len → W.cell? (a.add (j * 3)) = some (.int .i64 (F j).core) ∧ W.cell? (a.add (j * 3 + 1)) = some (.int .i64 (F j).fd) ∧ W.cell? (a.add (j * 3 + 2)) = some (.int .i64 (F j).num) := by
   refine ⟨fun j => if h : j < len then (each j h).choose else ⟨0, 0, 0⟩, fun j hj => ?_⟩
   simp only [hj, dif_pos]
   exact (each j hj).choose_spec
  obtain ⟨F, hF⟩ := hV
  have hb := bulkS_slice ((List.range len).map D) ((List.range (m - len)).map fun j => D (len + j))
  rw [hx.1]
  refine ⟨some a, len, cap, (List.range len).map F, hcs, ⟨hl, fun e => by cases e⟩, ⟨by simp, fun hn => ?_⟩, ?_⟩
  ·obtain ⟨g, off, rfl, hg⟩ := spotS (hF 0 hn).1
   refine ⟨g, off, rfl, hg, Mine.any _ _ _, fun j e he => ?_⟩
   have hj : j < len := by have := (List.getElem?_eq_some_iff.1 he).1; simpa using this
   have : e = F j := by simpa [hj] using he.symm
   subst this
   obtain ⟨h1, h2, h3⟩ := hF j hj
   rw [addS] at h1 h2 h3
   exact ⟨h1, by rw [Nat.add_assoc]; exact h2, by rw [Nat.add_assoc]; exact h3⟩
  ·have := bulkS_len ((List.range len).map D)
   simp at this ⊢
   omega
theorem isMade_of {v : Value} {d : DataW H} {p : List MemPlace} (h : DataW.trod enc Try.prog W 0 sp hd f 24 [v] = some (d, p)) :
  ∃ A n c xs, v = .slice A n c ∧ SlOk A n c ∧ IntsAt none W A n xs ∧ xs.length ≤ Rows.uptoBulk d ∧ ∀ x ∈ xs, -9223372036854775808 ≤ x ∧ x ≤ 9223372036854775807 := by
 rcases Go.Deep.open_slice Try.underlying24 h with ⟨hcs, hx⟩ | ⟨a, len, cap, m, f', D, Pl, hcs, _, hl, hm, hmm, hx, hcell⟩
 ·simp at hcs
  exact ⟨none, 0, 0, [], hcs, ⟨Nat.le_refl _, fun _ => rfl⟩, ⟨rfl, fun h => absurd h (by omega)⟩, Nat.zero_le _, fun e he => by cases he⟩
 ·simp at hcs
  simp at hx
  have hnm : len ≤ m := by rw [hmm]; split <;> omega
  have ce : Try.prog.cellsOf 3 = 1 := by kernel_rfl
  have each : ∀ j, j < len → ∃ z : Int, W.cell? (a.add j) = some (.int .i64 z) ∧ (Lit.int .i64 z).wf = true := by
   intro j hj
   obtain ⟨cs', h1, h2⟩ := hcell j (by omega)
   rw [ce] at h1
   obtain ⟨_, hlen, hc⟩ := World.cells?_some h1
   obtain ⟨z, hz, _, hw⟩ := DataW.trod_int Try.underlying3 h2
   subst hz
   have e0 := hc 0 (by omega)
   rw [Go.Deep.add_add] at e0
   exact ⟨z, by simpa using e0, hw⟩
  have hV : ∃ F : Nat → Int, ∀ j, j < len → W.cell? (a.add j) = some (.int .i64 (F j)) ∧ (Lit.int .i64 (F j)).wf = true := by
   refine ⟨fun j => if h : j < len then (each j h).choose else 0, fun j hj => ?_⟩
   simp only [hj, dif_pos]
   exact (each j hj).choose_spec
  obtain ⟨F, hF⟩ := hV
  have hb := bulkS_slice ((List.range len).map D) ((List.range (m - len)).map fun j => D (len + j))
  rw [hx.1]
  refine ⟨some a, len, cap, (List.range len).map F, hcs, ⟨hl, fun e => by cases e⟩, ⟨by simp, fun hn => ?_⟩, ?_, fun e he => ?_⟩
  ·obtain ⟨g, off, rfl, hg⟩ := spotS (hF 0 hn).1
   refine ⟨g, off, rfl, hg, Mine.any _ _ _, fun j e he => ?_⟩
   have hj : j < len := by have := (List.getElem?_eq_some_iff.1 he).1; simpa using this
   have : e = F j := by simpa [hj] using he.symm
   subst this
   obtain ⟨h1, _⟩ := hF j hj
   rw [addS] at h1
   exact h1
  ·have := bulkS_len ((List.range len).map D)
   simp at this ⊢
   omega
  ·obtain ⟨j, hj, rfl⟩ := List.mem_map.1 he
   exact lit_i64 (hF j (List.mem_range.1 hj)).2
theorem isState_of {r : Go.Reach} {v : Value} {d : DataW H} {p : List MemPlace} {b : Nat} (hv : Value.okWide Try.prog W r b 26 v) (h : DataW.Trod enc Try.prog W 0 sp hd 26 v d p) (hb : Rows.uptoBulk d ≤ 1048576) :
  ∃ s : St, StAt none W v s := by
 obtain ⟨v0, v1, v2, y0, y1, y2, n, rfl, rfl, rfl, h0, h1, h2⟩ := open_agg3 Try.underlying26 (by kernel_rfl) (by kernel_rfl) hv h
 obtain ⟨A, n0, c0, is, rfl, k0, g0, l0, t0⟩ := isInos_of (v := v0) (d := y0.1) (p := y0.2) h0
 obtain ⟨B, n1, c1, ds, rfl, k1, g1, l1⟩ := isDescs_of (v := v1) (d := y1.1) (p := y1.2) h1
 obtain ⟨D, n2, c2, xs, rfl, k2, g2, l2, t2⟩ := isMade_of (v := v2) (d := y2.1) (p := y2.2) h2
 simp only [Rows.uptoBulk, Rows.uptoBulkAll] at hb
 exact ⟨⟨is, ds, xs⟩, ⟨A, n0, c0, B, n1, c1, D, n2, c2, rfl, g0, g1, g2, k0, k1, k2⟩, ⟨by show is.length + bulkE is + ds.length + xs.length ≤ _; omega, fun x hx => ⟨by have := (t0 x hx).1; omega, fun e he => by have := ((t0 x hx).2.2 e he).1; omega⟩, ⟨fun x hx => ⟨(t0 x hx).2.1.1, (t0 x hx).2.1.2, fun e he => ((t0 x hx).2.2 e he).2⟩, t2⟩⟩⟩
theorem array8 {α : Type} {cs : Array α} (h : cs.size = 8) : ∃ c0 c1 c2 c3 c4 c5 c6 c7, cs = #[c0, c1, c2, c3, c4, c5, c6, c7] := by
 obtain ⟨l⟩ := cs
 match l, h with
 | [c0, c1, c2, c3, c4, c5, c6, c7], _ => exact ⟨c0, c1, c2, c3, c4, c5, c6, c7, rfl⟩
theorem isCall_of {r : Go.Reach} {v : Value} {d : DataW H} {p : List MemPlace} {b : Nat} (hv : Value.okWide Try.prog W r b 28 v) (h : DataW.Trod enc Try.prog W 0 sp hd 28 v d p) (hb : Rows.uptoBulk d ≤ 1048576) :
  ∃ c : Ca, v = caV c ∧ c.path.size ≤ 1048576 ∧ c.path2.size ≤ 1048576 ∧ c.data.size ≤ 1048576 := by
 have C1 : Try.prog.cellsOf 3 = 1 := by kernel_rfl
 have C9 : Try.prog.cellsOf 9 = 1 := by kernel_rfl
 obtain ⟨cs, rfl, hsz⟩ := okWide_struct Try.underlying28 hv
 obtain ⟨c0, c1, c2, c3, c4, c5, c6, c7, rfl⟩ := array8 (hsz.trans (by kernel_rfl))
 obtain ⟨fuel, hf⟩ := h
 obtain ⟨xs, n, _, hx, _, hlen, hfs⟩ := DataW.trod_struct Try.underlying28 hf
 match xs, hlen with
 | [y0, y1, y2, y3, y4, y5, y6, y7], _ =>
  have g0 := hfs 0 _ rfl
  have g1 := hfs 1 _ rfl
  have g2 := hfs 2 _ rfl
  have g3 := hfs 3 _ rfl
  have g4 := hfs 4 _ rfl
  have g5 := hfs 5 _ rfl
  have g6 := hfs 6 _ rfl
  have g7 := hfs 7 _ rfl
  simp [C1, C9, Value.cells] at g0 g1 g2 g3 g4 g5 g6 g7
  obtain ⟨z0, hz0, _⟩ := DataW.trod_int Try.underlying3 g0
  obtain ⟨z1, hz1, _⟩ := DataW.trod_int Try.underlying3 g1
  obtain ⟨z2, hz2, _⟩ := DataW.trod_int Try.underlying3 g2
  obtain ⟨z3, hz3, _⟩ := DataW.trod_int Try.underlying3 g3
  obtain ⟨z4, hz4, _⟩ := DataW.trod_int Try.underlying3 g4
  obtain ⟨s5, hs5, hy5, _⟩ := DataW.trod_string Try.underlying9 g5
  obtain ⟨s6, hs6, hy6, _⟩ := DataW.trod_string Try.underlying9 g6
  obtain ⟨s7, hs7, hy7, _⟩ := DataW.trod_string Try.underlying9 g7
  simp at hz0 hz1 hz2 hz3 hz4 hs5 hs6 hs7
  subst hz0 hz1 hz2 hz3 hz4 hs5 hs6 hs7
  simp at hx
  rw [hx.1, hy5, hy6, hy7] at hb
  have b5 := bulkS_string (H := H) s5
  have b6 := bulkS_string (H := H) s6
  have b7 := bulkS_string (H := H) s7
  simp only [Rows.uptoBulk, Rows.uptoBulkAll] at hb b5 b6 b7
  exact ⟨⟨z0, z1, z2, z3, z4, s5, s6, s7⟩, rfl, by show s5.size ≤ _; omega, by show s6.size ≤ _; omega, by show s7.size ≤ _; omega⟩
end
end Go.Proofs.Ytghlgnklnbcppaa

set_option linter.unusedVariables false
set_option linter.unusedSimpArgs false
namespace Go.Proofs.Ytghlgnklnbcppaa
open Go.RowKit
theorem opens_join (W : World) (v : Value) (s : St) (h : StAt none W v s) (c : Ca) (h1 : c.path.size ≤ 1048576) (h2 : c.path2.size ≤ 1048576) (h3 : c.data.size ≤ 1048576) :
  Calls Try.prog 3 #[v, caV c] W fun e w' => e = .returned (.bool true) ∧ Below W.heap.size W w' :=
 layoutOpens_walk v s c W h (by omega) (by omega)
end Go.Proofs.Ytghlgnklnbcppaa
