/- The law ConsoleBytes: its walk. -/
import Derived.Test.YtilkhmhgjbhfnaaGreatDoorConOne
set_option linter.unusedVariables false
set_option linter.unusedSimpArgs false
namespace Go.Proofs.YtilkhmhgjbhfnaaGreatDoor
open Go.RowKit
theorem conv_two27 (W : World) (g C : Nat) (x y : UInt8) (h : W.cell? ⟨g, 0, none⟩ = some (.int .u8 (x.toNat : Int))) (k : W.cell? ⟨g, 1, none⟩ = some (.int .u8 (y.toNat : Int))) :
  (convert 37 9 (.slice (some ⟨g, 0, none⟩) 2 C)).run Tryz.prog W = .ok (.string ⟨#[x, y]⟩) W :=
 run_convert_bytes_back (P := Tryz.prog) W 37 9 5 ⟨g, 0, none⟩ C [x, y] Tryz.underlying37 Tryz.underlying5 Tryz.underlying9 (by
  intro j hj
  match j, hj with
  | 0, _ => simpa [Addr.add] using h
  | 1, _ => simpa [Addr.add] using k)
theorem hex_at : ∀ i : Fin 16, (⟨#[48, 49, 50, 51, 52, 53, 54, 55, 56, 57, 97, 98, 99, 100, 101, 102]⟩ : ByteArray)[i.val]'(by exact i.isLt) = hexD i.val := by decide +kernel
set_option maxRecDepth 100000 in
set_option maxHeartbeats 8000000 in
theorem bytes_walk (off b : Int) (w : World) (hT : Tab w) (hM : ∃ m, w.cell? ⟨0, 0, none⟩ = some (.int .i64 m)) :
  Calls Tryz.prog 5 #[.int .i64 off, .int .i64 b] w fun e w' => e = .returned (.bool true) ∧ Below w.heap.size w w' := by
 obtain ⟨o, ho, hoo⟩ := Cv.tmod_u64 off 200 (by omega)
 rw [show ((200 : Nat) : Int) = 200 from rfl] at hoo
 have wo : IntKind.i64.wrap (o : Int) = (o : Int) := IntWalk.i64_in _ (by omega)
 have wo1 : IntKind.i64.wrap ((o : Int) + 1) = (o : Int) + 1 := IntWalk.i64_in _ (by omega)
 obtain ⟨i, hi, hii⟩ := Cv.and_i64 (IntKind.i64.wrap (b.tdiv 16)) 15 (by omega)
 rw [show ((15 : Nat) : Int) = 15 from rfl] at hii
 have hii' : bits .and .i64 (wrap64 (b.tdiv 16)) 15 = (i : Int) := by unfold wrap64; have h := hii; rw [IntKind.wrap_i64] at h; exact h
 obtain ⟨j, hj, hjj⟩ := Cv.and_i64 b 15 (by omega)
 rw [show ((15 : Nat) : Int) = 15 from rfl] at hjj
 have i0 : (0 : Int) ≤ (i : Int) := by omega
 have i1 : (i : Int) < 16 := by omega
 have j0 : (0 : Int) ≤ (j : Int) := by omega
 have j1 : (j : Int) < 16 := by omega
 have ii : i < 16 := by omega
 have jj : j < 16 := by omega
 have hxi := hex_at ⟨i, ii⟩
 have hxj := hex_at ⟨j, jj⟩
 simp only [] at hxi hxj
 have hcv := fun (W : World) (g n : Nat) => conv_two27 W g n (hexD i) (hexD j)
 have HT := Lib.hid hT
 have HM := Lib.hid hM
 clear hT hM hi hj
 go_enter Tryz.func5, Tryz.ntmps5
 go_wp2_with fail
 refine (awake27 w HT.out HM.out).mono ?_
 rintro e1 w1 ⟨rfl, hb1⟩
 have HB1 := Lib.hid hb1
 have HM1 := Lib.hid (maxlen_below HM.out hb1)
 have HT1 := Lib.hid (HT.out.below hb1)
 clear hb1
 go_wp2_with fail
 go_region
 clear hcv hxi hxj hii hii' hjj i0 i1 j0 j1
 obtain ⟨w2, hw2⟩ : ∃ w2, ((w1.alloc (.cells #[.int .u8 ((hexD i).toNat : Int), .int .u8 ((hexD j).toNat : Int)] 5)).drew) = w2 := ⟨_, rfl⟩
 have hb2 : Below w1.heap.size w1 w2 := by rw [← hw2]; exact Below.drew ((Below.refl _ _).alloc (Nat.le_refl _) _)
 rw [hw2]
 have HB2 := Lib.hid (Cv.next HB1.out hb2)
 have HM2 := Lib.hid (maxlen_below HM1.out hb2)
 have HT2 := Lib.hid (HT1.out.below hb2)
 clear hb2 hw2
 obtain ⟨d1, d2, d3, _⟩ := dec_ok o (by omega)
 obtain ⟨x1, _⟩ := hex_ok i ii j jj
 have e3 := (dec_ok (o + 1) (by omega)).2.2.1
 obtain ⟨H, hH⟩ : ∃ H : ByteArray, (⟨#[hexD i, hexD j]⟩ : ByteArray) = H := ⟨_, rfl⟩
 obtain ⟨D, hD⟩ : ∃ D : ByteArray, Dc.dec3B o = D := ⟨_, rfl⟩
 obtain ⟨D1, hD1⟩ : ∃ D1 : ByteArray, Dc.dec3B (o + 1) = D1 := ⟨_, rfl⟩
 have sz : ∀ b : ByteArray, b.size = b.data.toList.length := fun b => by rw [Array.length_toList]; rfl
 have lH : H.data.toList = [hexD i, hexD j] := by rw [← hH]
 have lD : D.data.toList = Dc.dec3L o := by rw [← hD]; rfl
 have lD1 : D1.data.toList = Dc.dec3L (o + 1) := by rw [← hD1]; rfl
 have sH : H.size = 2 := by rw [sz, lH]; rfl
 have sD : D.size ≤ 3 := by rw [sz, lD]; exact d3
 have sD1 : D1.size ≤ 3 := by rw [sz, lD1]; exact e3
 have ap : ∀ x y : ByteArray, (x ++ y).data.toList = x.data.toList ++ y.data.toList := fun x y => by rw [ByteArray.data_append, Array.toList_append]
 have sa : ∀ x y : ByteArray, (x ++ y).size = x.size + y.size := fun x y => by rw [sz, ap, List.length_append, ← sz, ← sz]
 obtain ⟨X1, hX1⟩ : ∃ X : ByteArray, (⟨#[99, 114, 101, 97, 116, 101, 32, 48, 32, 47, 113, 10, 111, 112, 101, 110, 32, 48, 32, 47, 113, 10, 119, 114, 105, 116, 101, 32, 48, 32, 48, 32]⟩ ++ D : ByteArray) = X := ⟨_, rfl⟩
 obtain ⟨X2, hX2⟩ : ∃ X : ByteArray, (X1 ++ ⟨#[32]⟩ : ByteArray) = X := ⟨_, rfl⟩
 obtain ⟨X3, hX3⟩ : ∃ X : ByteArray, (X2 ++ H : ByteArray) = X := ⟨_, rfl⟩
 obtain ⟨A, hA⟩ : ∃ X : ByteArray, (X3 ++ ⟨#[10]⟩ : ByteArray) = X := ⟨_, rfl⟩
 obtain ⟨Y1, hY1⟩ : ∃ X : ByteArray, (⟨#[114, 101, 97, 100, 32, 48, 32, 48, 32]⟩ ++ D : ByteArray) = X := ⟨_, rfl⟩
 obtain ⟨Y2, hY2⟩ : ∃ X : ByteArray, (Y1 ++ ⟨#[32, 53]⟩ : ByteArray) = X := ⟨_, rfl⟩
 have lA : A.data.toList = preL o i j ++ [10] := by
  rw [← hA, ap, ← hX3, ap, ← hX2, ap, ← hX1, ap, lD, lH]
  unfold preL lnC lnO lnW
  simp only [List.append_assoc, List.cons_append, List.nil_append]
 have lY : Y2 = txt (lnR o) := by
  apply ByteArray.ext
  apply Array.toList_inj.1
  rw [← hY2, ap, ← hY1, ap, lD]
  unfold lnR
  show _ = [114, 101, 97, 100] ++ 32 :: ([48] ++ 32 :: ([48] ++ 32 :: (Dc.dec3L o ++ 32 :: [53])))
  simp only [List.append_assoc, List.cons_append, List.nil_append]
 have s1 : X1.size = 32 + D.size := by rw [← hX1, sa]; rfl
 have s2 : X2.size = X1.size + 1 := by rw [← hX2, sa]; rfl
 have s3 : X3.size = X2.size + H.size := by rw [← hX3, sa]
 have s4 : A.size = X3.size + 1 := by rw [← hA, sa]; rfl
 have s5 : Y1.size = 9 + D.size := by rw [← hY1, sa]; rfl
 have s6 : Y2.size = Y1.size + 2 := by rw [← hY2, sa]; rfl
 obtain ⟨T1, hT1⟩ : ∃ T, txt [48, 32, hexD i, hexD j] = T := ⟨_, rfl⟩
 obtain ⟨T2, hT2⟩ : ∃ T, txt ([48, 32] ++ Dc.dec3L (o + 1)) = T := ⟨_, rfl⟩
 have c1 : (⟨#[48, 32]⟩ ++ H : ByteArray) = T1 := by
  apply ByteArray.ext
  apply Array.toList_inj.1
  rw [ap, lH, ← hT1]
  rfl
 have c2 : (⟨#[48, 32]⟩ ++ D1 : ByteArray) = T2 := by
  apply ByteArray.ext
  apply Array.toList_inj.1
  rw [ap, lD1, ← hT2]
  rfl
 have noR : ∀ b ∈ (txt (lnR o)).data.toList, b ≠ 10 := by
  intro b hb
  have hb : b ∈ lnR o := hb
  unfold lnR at hb
  simp only [List.mem_append, List.mem_cons, List.not_mem_nil, or_false] at hb
  rcases hb with (rfl | rfl | rfl | rfl) | rfl | rfl | rfl | rfl | rfl | hb | rfl | rfl
  all_goals first
   | decide
   | exact (d1 b hb).2.2
 have ask : ∀ (s : ByteArray) (LS : List UInt8), (∀ b ∈ s.data.toList, b ≠ 10) → mute (wordsB s) = false → s.size ≤ 100 → (lineV (stB27 (preL o i j)) (wordsB s)).2 = LS → ∀ u : World, Below w2.heap.size w2 u → Calls Tryz.prog 13 #[.string A, .string s] u fun e w' => e = .returned (.string (txt LS)) ∧ Below u.heap.size u w' := fun s LS h1 h2 h3 h4 u hu =>
  one_any A s (preL o i j) u (HT2.out.below hu) (maxlen_below HM2.out hu) lA h1 h2 (by omega) LS h4
 have k1 := ask (txt (lnR o)) _ noR (by rw [words_R o ho]; rfl) (by rw [← lY]; omega) (ask_read o i j ho ii jj)
 have k2 := ask (txt lnS) _ (by decide) (by rw [words_SB.1]; rfl) (by decide) (ask_size o i j ho ii jj)
 have k3 := ask (txt lnT) _ (by decide) (by rw [words_SB.2.1]; rfl) (by decide) (ask_stat o i j ho ii jj)
 have k4 := ask (txt lnF) _ (by decide) (by rw [words_SB.2.2.1]; rfl) (by decide) (ask_far o i j ho ii jj)
 have k5 := ask (txt lnB) _ (by decide) (by rw [words_SB.2.2.2]; rfl) (by decide) (ask_bad o i j ho ii jj)
 rw [← lY, hT1] at k1
 rw [hT2] at k2 k3
 rw [show txt [48, 32, 45] = ⟨#[48, 32, 45]⟩ from rfl] at k4
 rw [show txt [52] = ⟨#[52]⟩ from rfl] at k5
 have K1 := Lib.hid k1
 have K2 := Lib.hid k2
 have K3 := Lib.hid k3
 have K4 := Lib.hid k4
 have K5 := Lib.hid k5
 have q1 : ¬ 9223372036854775807 < 32 + D.size := by omega
 have q2 : ¬ 9223372036854775807 < X1.size + 1 := by omega
 have q3 : ¬ 9223372036854775807 < X2.size + H.size := by omega
 have q4 : ¬ 9223372036854775807 < X3.size + 1 := by omega
 have q5 : ¬ 9223372036854775807 < 9 + D.size := by omega
 have q6 : ¬ 9223372036854775807 < Y1.size + 2 := by omega
 have q7 : ¬ 9223372036854775807 < 2 + H.size := by omega
 have q8 : ¬ 9223372036854775807 < 2 + D1.size := by omega
 have HD := Lib.hid hD
 have HD1 := Lib.hid hD1
 rw [hH]
 clear d1 d2 d3 x1 e3 hH hD hD1 sz lH lD lD1 sH sD sD1 ap sa lA lY s1 s2 s3 s4 s5 s6 hT1 hT2 noR ask k1 k2 k3 k4 k5
 go_wp2_with fail
 refine (Dc.decimal3_any o (by omega) w2).mono ?_
 rintro e3 w3 ⟨rfl, hb3⟩
 rw [HD.out]
 have HB3 := Lib.hid hb3
 clear hb3
 go_wp2_with fail
 refine (Dc.decimal3_any o (by omega) w3).mono ?_
 rintro e4 w4 ⟨rfl, hb4⟩
 rw [HD.out]
 have HB4 := Lib.hid (Cv.next HB3.out hb4)
 clear hb4
 go_wp2_with fail
 refine (K1.out _ HB4.out).mono ?_
 rintro e5 w5 ⟨rfl, hb5⟩
 have HB5 := Lib.hid (Cv.next HB4.out hb5)
 clear hb5
 go_wp2_with fail
 refine (K2.out _ HB5.out).mono ?_
 rintro e6 w6 ⟨rfl, hb6⟩
 have HB6 := Lib.hid (Cv.next HB5.out hb6)
 clear hb6
 go_wp2_with fail
 have hd7 := Dc.decimal3_any (o + 1) (by omega) w6
 rw [Int.natCast_add, show ((1 : Nat) : Int) = 1 from rfl] at hd7
 refine hd7.mono ?_
 clear hd7
 rintro e7 w7 ⟨rfl, hb7⟩
 rw [HD1.out]
 have HB7 := Lib.hid (Cv.next HB6.out hb7)
 clear hb7
 go_wp2_with fail
 refine (K3.out _ HB7.out).mono ?_
 rintro e8 w8 ⟨rfl, hb8⟩
 have HB8 := Lib.hid (Cv.next HB7.out hb8)
 clear hb8
 go_wp2_with fail
 have hd9 := Dc.decimal3_any (o + 1) (by omega) w8
 rw [Int.natCast_add, show ((1 : Nat) : Int) = 1 from rfl] at hd9
 refine hd9.mono ?_
 clear hd9
 rintro e9 w9 ⟨rfl, hb9⟩
 rw [HD1.out]
 have HB9 := Lib.hid (Cv.next HB8.out hb9)
 clear hb9
 go_wp2_with fail
 refine (K4.out _ HB9.out).mono ?_
 rintro e10 w10 ⟨rfl, hb10⟩
 have HB10 := Lib.hid (Cv.next HB9.out hb10)
 clear hb10
 go_wp2_with fail
 refine (K5.out _ HB10.out).mono ?_
 rintro e11 w11 ⟨rfl, hb11⟩
 have HB11 := Lib.hid (Cv.next HB10.out hb11)
 clear hb11
 go_wp2_with fail
 go_ret
 exact ⟨rfl, HB2.out.trans (HB11.out.mono HB2.out.size)⟩
end Go.Proofs.YtilkhmhgjbhfnaaGreatDoor
