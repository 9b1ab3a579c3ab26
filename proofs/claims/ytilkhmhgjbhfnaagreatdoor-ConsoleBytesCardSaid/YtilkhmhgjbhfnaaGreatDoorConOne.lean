/- Chapter 27: what a line tells behind others. -/
import Derived.Test.YtilkhmhgjbhfnaaGreatDoorConBytesQ
import Derived.Test.YtilkhmhgjbhfnaaGreatDoorM44
set_option linter.unusedVariables false
set_option linter.unusedSimpArgs false
namespace Go.Proofs.YtilkhmhgjbhfnaaGreatDoor
open Go.RowKit
set_option maxRecDepth 100000 in
set_option maxHeartbeats 4000000 in
theorem one_any (A s : ByteArray) (f : List UInt8) (w : World) (hT : Tab w) (hM : ∃ m, w.cell? ⟨0, 0, none⟩ = some (.int .i64 m)) (hA : A.data.toList = f ++ [10]) (hs : ∀ b ∈ s.data.toList, b ≠ 10) (hm : mute (wordsB s) = false) (hsz : A.size + s.size ≤ 65536) (LS : List UInt8) (hLS : (lineV (stB27 f) (wordsB s)).2 = LS) :
  Calls Tryz.prog 13 #[.string A, .string s] w fun e w' => e = .returned (.string (txt LS)) ∧ Below w.heap.size w w' := by
 obtain ⟨A2, hA2⟩ : ∃ A2 : ByteArray, (A ++ s : ByteArray) = A2 := ⟨_, rfl⟩
 have hr := runB_one A s f hA hs hm
 rw [hLS, hA2] at hr
 have sz : ∀ b : ByteArray, b.size = b.data.toList.length := fun b => by rw [Array.length_toList]; rfl
 have hs2 : A2.size = A.size + s.size := by rw [← hA2, sz, ByteArray.data_append, Array.toList_append, List.length_append, ← sz, ← sz]
 have q1 : ¬ 9223372036854775807 < A.size + s.size := by omega
 obtain ⟨T, hTx⟩ : ∃ T, txt (runB A2) = T := ⟨_, rfl⟩
 obtain ⟨U, hUx⟩ : ∃ U, txt (runB A) = U := ⟨_, rfl⟩
 have hTL : T.data.toList = U.data.toList ++ (LS ++ [10]) := by rw [← hTx, ← hUx, hr]; rfl
 have hTS : T.size = U.size + LS.length + 1 := by rw [sz T, hTL, List.length_append, List.length_append, ← sz]; simp; omega
 have hTb : T.size ≤ 100000000 := by
  have h1 : (runB A2).length ≤ ((linesB A2).map wordsB).length * 1001 := runW_len _ _
  have h2 := linesB_many A2
  rw [List.length_map] at h1
  rw [show T.size = (runB A2).length by rw [← hTx, sz]; rfl]
  exact run_small h1 (by omega)
 have hx1 : T.extract 0 U.size = U := by
  apply ByteArray.ext
  apply Array.toList_inj.1
  rw [Lib.extract_from_zero, hTL, sz U, List.take_left]
 have hx2 : T.extract U.size (T.size - 1) = txt LS := by
  rw [extract_txt, hTL, sz U, List.drop_left, hTS, ← sz U]
  congr 1
  rw [show U.size + LS.length + 1 - 1 - U.size = LS.length by omega, List.take_left]
 have hlt : T.size - 1 < T.size := by omega
 have hx3 : T[T.size - 1]'hlt = 10 := by
  have h1 : T.data.toList[T.size - 1]? = some 10 := by
   rw [hTL, List.getElem?_append_right (by rw [← sz]; omega), ← sz, hTS, show U.size + LS.length + 1 - 1 - U.size = LS.length by omega, List.getElem?_append_right (Nat.le_refl _), Nat.sub_self]
   rfl
  have h2 := List.getElem?_eq_some_iff.1 h1
  obtain ⟨h3, h4⟩ := h2
  rw [← h4]
  rfl
 have hle : decide ((T.size : Int) ≤ (U.size : Int)) = false := decide_eq_false (by omega)
 have hle2 : ¬(T.size : Int) ≤ (U.size : Int) := by omega
 have hUT : (U.size : Int) ≤ (T.size : Int) := by omega
 have hTT : U.size ≤ T.size := by omega
 have h1T : IntKind.i64.wrap ((T.size : Int) - 1) = ((T.size - 1 : Nat) : Int) := by
  rw [IntWalk.i64_in _ (by omega)]
  omega
 have hrun1 := fun u h1 h2 => run_any A2 u (by omega) h1 h2
 have hrun2 := fun u h1 h2 => run_any A u (by omega) h1 h2
 simp only [hTx] at hrun1
 simp only [hUx] at hrun2
 have HR1 := Lib.hid hrun1
 have HR2 := Lib.hid hrun2
 have HT := Lib.hid hT
 have HM := Lib.hid hM
 clear hTS hTb hr sz hs2 hTx hUx hTL hrun1 hrun2 hT hM hA hs hm hsz hLS
 go_enter Tryz.func13, Tryz.ntmps13
 go_wp2_with fail
 try rw [hA2]
 refine (HR1.out w HT.out HM.out).mono ?_
 rintro e1 w1 ⟨rfl, hb1⟩
 have HB1 := Lib.hid hb1
 have HM1 := Lib.hid (maxlen_below HM.out hb1)
 have HT1 := Lib.hid (HT.out.below hb1)
 clear hb1
 go_wp2_with fail
 refine (HR2.out w1 HT1.out HM1.out).mono ?_
 rintro e2 w2 ⟨rfl, hb2⟩
 have HB2 := Lib.hid (Cv.next HB1.out hb2)
 clear hb2
 go_wp2_with fail
 refine (num27 0 w2).mono ?_
 rintro e3 w3 ⟨rfl, rfl⟩
 go_wp2_with fail
 refine (num27 0 w2).mono ?_
 rintro e4 w4 ⟨rfl, rfl⟩
 go_wp2_with fail
 go_ret
 exact ⟨rfl, HB2.out⟩
end Go.Proofs.YtilkhmhgjbhfnaaGreatDoor
