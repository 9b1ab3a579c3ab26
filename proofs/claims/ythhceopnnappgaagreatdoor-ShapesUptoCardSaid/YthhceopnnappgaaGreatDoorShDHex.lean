/- The document's Hex; its numbers. -/
import Derived.Test.YthhceopnnappgaaGreatDoorM32
import Derived.Test.YthhceopnnappgaaGreatDoorShHex
import Derived.Test.YthhceopnnappgaaGreatDoorM38
import Derived.Deep.AppendLies
import Derived.Deep.RegionHeld3
set_option linter.unusedVariables false
set_option linter.unusedSimpArgs false
namespace Go.Proofs.YthhceopnnappgaaGreatDoor
open Go.RowKit
theorem dec3_dec {x : Nat} (h : x < 1000) : Dc.dec3L x = Lib.decDigits x := by
 unfold Dc.dec3L
 by_cases h1 : x < 10
 ·rw [Lib.decDigits_one h1]
  unfold Dc.decG
  rw [if_pos h1]
  rfl
 ·rw [Lib.decDigits, dif_neg h1]
  unfold Dc.decG
  rw [if_neg h1]
  by_cases h2 : x / 10 < 10
  ·rw [Lib.decDigits_one h2]
   unfold Dc.decG
   rw [if_pos h2]
   rfl
  ·rw [Lib.decDigits, dif_neg h2]
   unfold Dc.decG
   rw [if_neg h2]
   have h3 : x / 10 / 10 < 10 := by omega
   rw [Lib.decDigits_one h3]
   unfold Dc.decG
   rw [if_pos h3]
   rfl
theorem ddec_any (n : Int) (h0 : 0 ≤ n) (h1 : n < 1000) (w : World) :
  Calls Tryz.prog 31 #[.int .i64 n] w fun e w' => e = .returned (.string (txt (decN n))) ∧ Below w.heap.size w w' := by
 obtain ⟨u, rfl⟩ : ∃ u : Nat, n = (u : Int) := ⟨n.toNat, by omega⟩
 have := Dc.decimal3_any u (by omega) w
 have e : Dc.dec3B u = txt (decN (u : Int)) := by
  unfold Dc.dec3B txt decN
  rw [dec3_dec (by omega)]
  rfl
 rw [e] at this
 exact this
theorem two_news (w : World) (a b : Value) : ∀ (j : Nat) (u : Value), [a, b][j]? = some u → (w.alloc (.cells #[a, b] 5)).cell? ((⟨w.heap.size, 0, none⟩ : Addr).add j) = some u := by
 intro j u hu
 rw [Cv.addr_add, Lib.cell_of_heap (heap_alloc_new w _)]
 rw [← hu]
 simp
set_option maxRecDepth 100000 in
set_option maxHeartbeats 4000000 in
theorem dhex_any (s : ByteArray) (w : World) (hs : s.size ≤ 1048576) :
  Calls Tryz.prog 32 #[.string s] w fun e w' => e = .returned (.string (txt (hexT s.data.toList))) ∧ Below w.heap.size w w' := by
 obtain ⟨i0, hi, hz0, hz1, hz2⟩ := info_parts infoByte
 have hll : s.data.toList.length = s.size := Array.length_toList
 have HLL := Lib.hid hll
 clear hll
 go_enter Tryz.func32, Tryz.ntmps32
 go_wp2_with fail
 ·rename_i he
  go_ret
  refine ⟨?_, Below.refl _ _⟩
  rw [ByteArray.toList_eq] at he
  unfold hexT
  rw [if_pos (List.isEmpty_iff.1 he)]
  rfl
 ·rename_i he _ _
  rw [ByteArray.toList_eq] at he
  have hne : s.data.toList ≠ [] := fun e => by rw [e] at he; cases he
  have HNE := Lib.hid hne
  clear he hne
  go_loopw [4, 5] (fun v i wr => ∃ q : Nat, i = .int .i64 q ∧ q ≤ s.size ∧ wr.ownsRow w.heap.size 5 1 v (2 * q) (Lib.byteCells (hexL (s.data.toList.take q))) ∧ Below w.heap.size w wr) (fun _ i _ => s.size - (intOf i).toNat)
  case atStart => exact ⟨0, rfl, by omega, World.ownsRow_nil _ _ _ _, Below.refl _ _⟩
  case round =>
   obtain ⟨q, rfl, hq, hown, hbel⟩ := hrel
   have HOWN := Lib.hid hown
   have HB := Lib.hid hbel
   clear hbel
   by_cases hlt : q < s.size
   ·have q1 : decide ((q : Int) < (s.size : Int)) = true := by rw [decide_eq_true_eq]; omega
    have k0 : (0 : Int) ≤ (q : Int) := by omega
    have hb : s[q].toNat < 256 := UInt8.toNat_lt _
    obtain ⟨C, hC⟩ : ∃ C, s[q].toNat = C := ⟨_, rfl⟩
    obtain ⟨H, hH⟩ : ∃ H, C / 16 = H := ⟨_, rfl⟩
    obtain ⟨L, hL⟩ : ∃ L, C % 16 = L := ⟨_, rfl⟩
    have k1 : H < 16 := by omega
    have k2 : L < 16 := by omega
    have k3 : (H : Int) < 16 := by omega
    have k4 : (L : Int) < 16 := by omega
    have e1 : (C : Int) / 16 = (H : Int) := by rw [← hH]; rfl
    have e2 : (C : Int) % 16 = (L : Int) := by rw [← hL]; rfl
    have e3 : IntKind.u8.wrap (H : Int) = (H : Int) := by rw [IntKind.wrap_u8']; omega
    have e4 : IntKind.u8.wrap (L : Int) = (L : Int) := by rw [IntKind.wrap_u8']; omega
    have e5 : (C : Int).tdiv 16 = (H : Int) := by rw [← hH]; rfl
    have e6 : (C : Int).tmod 16 = (L : Int) := by rw [← hL]; rfl
    obtain ⟨X, hX⟩ : ∃ X : UInt8, (⟨#[48, 49, 50, 51, 52, 53, 54, 55, 56, 57, 97, 98, 99, 100, 101, 102]⟩ : ByteArray)[H]'k1 = X := ⟨_, rfl⟩
    obtain ⟨Y, hY⟩ : ∃ Y : UInt8, (⟨#[48, 49, 50, 51, 52, 53, 54, 55, 56, 57, 97, 98, 99, 100, 101, 102]⟩ : ByteArray)[L]'k2 = Y := ⟨_, rfl⟩
    have hXd : X = hexD H := by rw [← hX]; exact tabH_at H k1
    have hYd : Y = hexD L := by rw [← hY]; exact tabH_at L k2
    have hgq : s.data.toList.getD q 0 = s[q] := (Lib.getD_at s q hlt).symm
    have htk : hexL (s.data.toList.take (q + 1)) = hexL (s.data.toList.take q) ++ [X, Y] := by
     rw [hexL_take _ _ (by have := HLL.out; omega), hgq, hXd, hYd, ← hH, ← hL, ← hC]
     simp
    obtain ⟨W1, hW1⟩ : ∃ W1, wr.drew.alloc (.cells #[.int .u8 (X.toNat : Int), .int .u8 (Y.toNat : Int)] 5) = W1 := ⟨_, rfl⟩
    have hown1 : W1.ownsRow w.heap.size 5 1 u4 (2 * q) (Lib.byteCells (hexL (s.data.toList.take q))) := by
     rw [← hW1]
     exact World.ownsRow.alloc (w := wr.drew) hown _
    obtain ⟨v', w', hap, hown', hgr, hnil⟩ := run_append_own (P := Tryz.prog) W1 w.heap.size 57 57 5 i0 (.int .u8 0) 1 1 Tryz.underlying57 hi hz0 hz1 hz2 rfl (by decide) u4 (2 * q) _ hown1 ⟨wr.heap.size, 0, none⟩ 2 2 [.int .u8 (X.toNat : Int), .int .u8 (Y.toNat : Int)] rfl (by rw [← hW1]; exact two_news wr.drew _ _) (by intro u hu; simp at hu; rcases hu with rfl | rfl <;> rfl) (by unfold maxLen; omega) (by omega) (by rw [← hW1]; have := HB.out.size; simp; omega)
    have hbel' : Below w.heap.size w w' := by
     have h1 : Below w.heap.size w W1 := by rw [← hW1]; exact (Below.drew HB.out).alloc (Below.drew HB.out).size _
     refine h1.grown hgr h1.size (fun g hg => (hown1.lt g hg).1)
    have hrow' : w'.ownsRow w.heap.size 5 1 v' (2 * (q + 1)) (Lib.byteCells (hexL (s.data.toList.take (q + 1)))) := by
     rw [htk, Lib.byteCells_append]
     exact hown'
    have HAP := Lib.hid hap
    have HBEL := Lib.hid hbel'
    have HROW := Lib.hid hrow'
    clear hH hL hXd hYd hgq htk hown1 hap hown' hgr hnil hbel' hrow' hown hi hz0 hz1 hz2
    go_wp2_with fail
    go_region_law (refine step_append_runI rfl (.tmp 14) (.tmp 27) 57 rfl u4 (.slice (some ⟨wr.heap.size, 0, none⟩) 2 2) (by simp [Act.eval, Act.put]) (by simp [Act.eval, Act.put]) HAP.out ?_)
    all_goals (
     go_wp2_with fail
     go_roundw
     case rel => exact ⟨q + 1, by go_num, by omega, HROW.out, HBEL.out⟩
     case measure => simp [intOf]; omega)
   ·have q1 : decide ((q : Int) < (s.size : Int)) = false := by rw [decide_eq_false_iff_not]; omega
    have hall : s.data.toList.take q = s.data.toList := List.take_of_length_le (by have := HLL.out; omega)
    have hqs : q = s.size := by omega
    subst hqs
    rw [hall] at hown
    have hlen : (hexL s.data.toList).length = 2 * s.size := by rw [hexL_len, HLL.out]
    have hs0 : 0 < s.size := by
     have h1 := HLL.out
     cases hh : s.data.toList with
     | nil => exact absurd hh HNE.out
     | cons a r => rw [hh, List.length_cons] at h1; omega
    have hrow : Dc.byteV (hexL s.data.toList) = Lib.byteCells (hexL s.data.toList) := rfl
    rcases Dc.byteRow_of_owns (l := hexL s.data.toList) hown hlen with ⟨hv, hn⟩ | ⟨g, cap, hv, hr, _⟩
    ·rw [hn] at hlen; simp at hlen; omega
    ·rw [hv]
     have hcv := Cv.back_of hr (2 * s.size) cap hlen
     have HT : Hid (hexT s.data.toList = hexL s.data.toList) := Lib.hid (by unfold hexT; rw [if_neg HNE.out])
     clear hown hr hall hlen hrow hv
     go_wp2_with fail
     go_ret
     exact ⟨by rw [HT.out]; rfl, HB.out⟩
end Go.Proofs.YthhceopnnappgaaGreatDoor
