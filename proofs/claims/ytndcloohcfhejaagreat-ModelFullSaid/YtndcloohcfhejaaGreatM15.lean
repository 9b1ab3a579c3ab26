/- Parts of the proof, side by side: Parse, ParseAny, MoDoer. -/
import Derived.Test.YtndcloohcfhejaaGreatM03
import Derived.Test.YtndcloohcfhejaaGreatM02
import Derived.Lib.OthersKept
import Derived.WalkSmall
import Derived.Test.YtndcloohcfhejaaGreatM13
import Derived.Test.YtndcloohcfhejaaGreatM14
import Derived.Deep.RegionHeld3
set_option linter.unusedVariables false
set_option linter.unusedSimpArgs false
namespace Go.Proofs.YtndcloohcfhejaaGreat
open Go.RowKit
theorem names_below {B : Nat} {w w' : World} {v : Value} {out : List (List UInt8)} (h : Names B w v out) (hb : Below w.heap.size w w') : Names B w' v out := by
 rcases h with ⟨hl, h⟩
 refine ⟨hl, ?_⟩
 rcases h with h | ⟨g, cap, cur, hv, hg, hh, r⟩
 ·exact Or.inl h
 ·have hlt : g < w.heap.size := by
   rcases Nat.lt_or_ge g w.heap.size with h | h
   ·exact h
   ·rw [Array.getElem?_eq_none h] at hh; cases hh
  exact Or.inr ⟨g, cap, cur, hv, hg, (hb.block g hlt).trans hh, r⟩
theorem names_mono {B B' : Nat} {w : World} {v : Value} {out : List (List UInt8)} (h : Names B w v out) (hb : B' ≤ B) : Names B' w v out := by
 rcases h with ⟨hl, h⟩
 refine ⟨hl, ?_⟩
 rcases h with h | ⟨g, cap, cur, hv, hg, r⟩
 ·exact Or.inl h
 ·exact Or.inr ⟨g, cap, cur, hv, by omega, r⟩
theorem iterPos_of {w : World} {k : Nat} {s : ByteArray} {p : Nat} (h : w.heap[k]? = some (.stringIter s p)) : w.iterPos k = p := by simp [World.iterPos, h]
set_option maxRecDepth 100000 in
set_option maxHeartbeats 2000000 in
theorem parse_long (s : ByteArray) (w : World) (hs : s.size ≤ 140737488355328) (h0 : s.size ≤ 64) (hd : ∃ h : 0 < s.size, s[0] = 47) (h1 : ¬ s.size = 1) :
  Calls Tryz.prog 35 #[.string s] w (Parsed s w) := by
 obtain ⟨hp, hb0⟩ := hd
 have hsz : s.data.toList.length = s.size := rfl
 have hh := (path_head s).2 ⟨hp, hb0⟩
 have hpar : parseL s.data.toList = scanP (s.data.toList.drop 1 ++ [47]) [] [] := by
  unfold parseL
  rw [if_neg (by omega), if_neg (fun e => e hh), if_neg (by omega)]
 have htl := ByteArray.toList_eq s
 have he0 : s.toList.isEmpty = false := by
  rw [htl]
  cases e : s.data.toList with
  | nil => rw [e] at hsz; simp at hsz; omega
  | cons a l => rfl
 have he1 : ¬ s.toList = [] := by intro e; rw [e] at he0; simp at he0
 have q1 : ((s.size : Int) == 1) = false := by rw [beq_eq_false_iff_ne]; omega
 have hts : (s ++ ByteArray.mk #[47]).size = s.size + 1 := by rw [ByteArray.size_append]; rfl
 have htd : (s ++ ByteArray.mk #[47]).data.toList = s.data.toList ++ [47] := by simp
 have hg0 : s.data.toList.getD 0 0 = 47 := by rw [getD_at hp]; exact hb0
 obtain ⟨i0, hi, hz0, hz1, hz2⟩ := info_parts infoS
 obtain ⟨R, hR⟩ : ∃ R, parseL s.data.toList = R := ⟨_, rfl⟩
 rw [hpar] at hR
 have HR := Lib.hid hR
 have Hpar := Lib.hid hpar
 have Hts := Lib.hid hts
 have Htd := Lib.hid htd
 have Hg0 := Lib.hid hg0
 clear htl hsz hpar hR hts htd hg0 hh
 go_enter Tryz.func35, Tryz.ntmps35
 go_wp2_with fail
 clear he0 he1 q1
 go_loopw [4, 5, 6, 7] (fun v fr _ _ wr => ∃ (p j : Nat) (out : List (List UInt8)) (x : Value), fr = .int .i64 p ∧ v = x ∧ ((j = 0 ∧ p = 1 ∧ out = []) ∨ (1 ≤ p ∧ p ≤ j ∧ out.length ≤ j ∧ scanP ((s.data.toList ++ [47]).drop j) (piece s.data.toList p j) out = R)) ∧ j ≤ s.size + 1 ∧ wr.heap[w.heap.size]? = some (.stringIter (s ++ ⟨#[47]⟩) j) ∧ Names (w.heap.size + 1) wr x out ∧ Below w.heap.size w wr) (fun _ _ _ _ wr => s.size + 1 - wr.iterPos w.heap.size)
 case atStart => exact ⟨1, 0, [], _, rfl, rfl, Or.inl ⟨rfl, rfl, rfl⟩, by omega, World.iter_heap _ _ _, World.ownsRow_nil _ _ _ _, below_iter _ _ _⟩
 case round =>
  obtain ⟨p, j, out, v, rfl, rfl, hcase, hj, hit, hown, hbel⟩ := hrel
  obtain ⟨A, c, rfl⟩ := names_shape hown
  have hlen : s.data.toList.length = s.size := rfl
  have Hlen := Lib.hid hlen
  clear hlen
  have hlt0 : w.heap.size < wr.heap.size := (Array.getElem?_eq_some_iff.1 hit).1
  have Hit := Lib.hid hit
  by_cases hend : j = s.size + 1
  ·have hnx : ∀ ty, (Instr.next (.pointer (some ⟨w.heap.size, 0, none⟩)) true ty).run Tryz.prog wr = _ := fun ty => Lib.run_next_end_at wr w.heap.size (s ++ ⟨#[47]⟩) j ty hit (by rw [Hts.out]; omega)
   obtain ⟨hp1, hpj, hol, hscan⟩ : 1 ≤ p ∧ p ≤ j ∧ out.length ≤ j ∧ scanP ((s.data.toList ++ [47]).drop j) (piece s.data.toList p j) out = R := by
    rcases hcase with h | h
    ·omega
    ·exact h
   rw [drop_out _ _ (by rw [Hlen.out]; exact hend), scanP_nil] at hscan
   have Hs := Lib.hid hscan
   have Hown := Lib.hid hown
   have Hbel := Lib.hid hbel
   have hol2 : out.length ≤ 65 := by omega
   clear hscan hown hbel hend hit hcase
   by_cases hdeep : 4 < out.length
   ·go_wp2_with fail
    go_ret2
    exact ⟨_, [], 1102, rfl, by rw [Hpar.out, HR.out, ← Hs.out, if_pos hdeep], World.ownsRow_nil _ _ _ _, fun _ => rfl, Hbel.out⟩
   ·go_wp2_with fail
    go_ret2
    exact ⟨_, out, 0, rfl, by rw [Hpar.out, HR.out, ← Hs.out, if_neg hdeep], names_mono Hown.out (by omega), fun h => absurd rfl h, Hbel.out⟩
  have hpos : j < (s ++ ByteArray.mk #[47]).size := by rw [Hts.out]; omega
  have hd := decode_list (s ++ ByteArray.mk #[47]) j
  rw [Htd.out] at hd
  have hnx : ∀ ty, (Instr.next (.pointer (some ⟨w.heap.size, 0, none⟩)) true ty).run Tryz.prog wr = _ := fun ty => Lib.run_next_any_at wr w.heap.size (s ++ ⟨#[47]⟩) j ty hit hpos
  rw [hd] at hnx
  have hit0 : ∀ q, (wr.iterAt w.heap.size (s ++ ⟨#[47]⟩) q).heap[w.heap.size]? = some (.stringIter (s ++ ⟨#[47]⟩) q) := fun q => Lib.iterAt_heap wr _ _ _ _ hit
  have hown0 : ∀ q, Names (w.heap.size + 1) (wr.iterAt w.heap.size (s ++ ⟨#[47]⟩) q) (.slice A out.length c) out := fun q => ownsRow_iterAt hown (by omega) _ _
  have hbel0 : ∀ q, Below w.heap.size w (wr.iterAt w.heap.size (s ++ ⟨#[47]⟩) q) := fun q => Lib.below_iterAt hbel (Nat.le_refl _) _ _
  have hsz0 : ∀ q, (wr.iterAt w.heap.size (s ++ ⟨#[47]⟩) q).heap.size = wr.heap.size := fun q => Lib.iterAt_size _ _ _ _
  by_cases hstart : j = 0
  ·have hc0 : p = 1 ∧ out = [] := by
    rcases hcase with h | h
    ·exact h.2
    ·omega
   obtain ⟨rfl, rfl⟩ := hc0
   have hq : decodeL ((s.data.toList ++ [47]).drop j) = (47, 1) := by
    apply decodeL_slash
    rw [hstart]
    cases e : s.data.toList with
    | nil => rfl
    | cons a l => have := Hg0.out; rw [e] at this; exact this
   rw [hq] at hnx
   simp only at hnx
   have hit1 := hit0 (j + 1)
   have hown1 := hown0 (j + 1)
   have hbel1 := hbel0 (j + 1)
   obtain ⟨W, hW⟩ : ∃ W, wr.iterAt w.heap.size (s ++ ⟨#[47]⟩) (j + 1) = W := ⟨_, rfl⟩
   rw [hW] at hit1 hown1 hbel1 hnx
   subst hstart
   have Hit1 := Lib.hid hit1
   have Hown1 := Lib.hid hown1
   have Hbel1 := Lib.hid hbel1
   clear hit hit0 hown hown0 hbel hbel0 hsz0 hcase hd hq hend hit1 hown1 hbel1 hW
   go_wp2_with fail
   go_roundw
   case rel => exact ⟨1, 1, [], _, rfl, rfl, Or.inr ⟨by omega, by omega, by simp, by
    rw [piece_self, ← HR.out, List.drop_append_of_le_length (by rw [Hlen.out]; omega)]⟩, by omega, Hit1.out, Hown1.out, Hbel1.out⟩
   case measure => rw [iterPos_of Hit1.out, iterPos_of Hit.out]; omega
  obtain ⟨hp1, hpj, hol, hscan⟩ : 1 ≤ p ∧ p ≤ j ∧ out.length ≤ j ∧ scanP ((s.data.toList ++ [47]).drop j) (piece s.data.toList p j) out = R := by
   rcases hcase with h | h
   ·omega
   ·exact h
  have q0 : ((j : Int) == 0) = false := by rw [beq_eq_false_iff_ne]; omega
  by_cases hsl : (s.data.toList ++ [47]).getD j 0 = 47
  ·have hq : decodeL ((s.data.toList ++ [47]).drop j) = (47, 1) := by
    apply decodeL_slash
    refine Eq.trans ?_ hsl
    simp [List.getD_eq_getElem?_getD, List.getElem?_drop]
   rw [hq] at hnx
   simp only at hnx
   have hdrop : (s.data.toList ++ [47]).drop j = 47 :: (s.data.toList ++ [47]).drop (j + 1) := by
    have hjl : j < (s.data.toList ++ [47]).length := by rw [List.length_append, Hlen.out]; simp; omega
    rw [List.drop_eq_getElem_cons hjl]
    have : (s.data.toList ++ [47])[j] = 47 := by
     have h := hsl
     rw [List.getD_eq_getElem?_getD, List.getElem?_eq_getElem hjl] at h
     exact h
    rw [this]
   rw [hdrop] at hscan
   have hj2 : j ≤ s.size := by omega
   have hps : (s.extract p j).size ≤ 64 := by simp; omega
   have hpc : (s.extract p j).data.toList = piece s.data.toList p j := by rw [extract_piece]
   obtain ⟨W, hW⟩ : ∃ W, wr.iterAt w.heap.size (s ++ ⟨#[47]⟩) (j + 1) = W := ⟨_, rfl⟩
   have hit1 := hit0 (j + 1)
   have hown1 := hown0 (j + 1)
   have hbel1 := hbel0 (j + 1)
   have hsz1 := hsz0 (j + 1)
   rw [hW] at hit1 hown1 hbel1 hnx hsz1
   rw [← hsz1] at hlt0
   have Hs := Lib.hid hscan
   have Hpc := Lib.hid hpc
   clear hit hit0 hown hown0 hbel hbel0 hsz0 hcase hd hq hend hW hsz1 hscan hpc hdrop hsl hstart
   have hit0 := Lib.hid hit1
   have hown0 := Lib.hid hown1
   have hbel0 := Lib.hid hbel1
   clear hit1 hown1 hbel1
   go_wp2_with fail
   have hit1 := hit0.out
   have hown1 := hown0.out
   have hbel1 := hbel0.out
   clear hit0 hown0 hbel0
   have hit0 := hit1
   have hown0 := hown1
   have hbel0 := hbel1
   clear hit1 hown1 hbel1
   rcases checkL_cases (piece s.data.toList p j) with hk | hk | hk
   ·refine (check_lit _ 0 (by omega) (by rw [Hpc.out]; exact hk) _).mono ?_
    rintro e w1 ⟨rfl, hbc⟩
    have hown1 : Names (w.heap.size + 1) w1 (.slice A out.length c) out := names_below (Lib.hid hown0).out hbc
    have hit1 : w1.heap[w.heap.size]? = some (.stringIter (s ++ ⟨#[47]⟩) (j + 1)) := (hbc.block _ hlt0).trans hit0
    have hbel1 : Below w.heap.size w w1 := hbel0.trans (hbc.mono hbel0.size)
    have hsz1 : w.heap.size < w1.heap.size := Nat.lt_of_lt_of_le hlt0 hbc.size
    have Hown1 := Lib.hid hown1
    have Hit1 := Lib.hid hit1
    have Hbel1 := Lib.hid hbel1
    have Hk := Lib.hid hk
    clear hk hown1 hit1 hbel1 hbc hown0 hit0 hbel0
    go_wp2_with (at_builtin; refine wpList_append_own _ rfl _ _ 29 rfl (w.heap.size + 1) 9 i0 (.string ⟨#[]⟩) 1 16 Tryz.underlying29 hi hz0 hz1 hz2 rfl (by decide) _ _ _ rfl (Hown1.out.alloc _) ⟨w1.heap.size, 0, none⟩ 1 1 [.string (s.extract p j)] rfl rfl ?ca1 ?ca2 ?ca3 ?ca4 ?ca5 ?_)
    case ca1 => exact cell_one_new _ _ _
    case ca2 => intro u hu; simp at hu; subst hu; rfl
    case ca3 => unfold maxLen; omega
    case ca4 => omega
    case ca5 => simp; omega
    intro v' w2 hown' hgrow _
    have hpush : Names (w.heap.size + 1) w2 v' (out ++ [piece s.data.toList p j]) := names_push (by rw [extract_piece] at hown'; exact hown')
    have hit2 : w2.heap[w.heap.size]? = some (.stringIter (s ++ ⟨#[47]⟩) (j + 1)) := by
     rw [hgrow.block _ (by simp; omega) (by intro e; have := own_ge Hown1.out _ e.symm; omega), Below.heap_alloc _ _ _ (by omega)]
     exact Hit1.out
    have hb2 : Below w.heap.size w w2 := ((Hbel1.out.alloc (Hbel1.out.size) _).grown hgrow (by simp; omega) (fun k hk => by have := own_ge Hown1.out k hk; omega))
    have HP := Lib.hid hpush
    have HB := Lib.hid hb2
    have HI := Lib.hid hit2
    clear hown' hgrow hpush hb2 hit2
    go_wp2
    go_roundw
    case rel => exact ⟨j + 1, j + 1, out ++ [piece s.data.toList p j], _, by go_num, rfl, Or.inr ⟨by omega, by omega, by simp; omega, by rw [piece_self, ← Hs.out, scanP_ok _ _ _ Hk.out]⟩, by omega, HI.out, HP.out, HB.out⟩
    case measure => rw [iterPos_of HI.out, iterPos_of Hit.out]; simp; omega
   ·refine (check_lit _ 800 (by omega) (by rw [Hpc.out]; exact hk) _).mono ?_
    rintro e w1 ⟨rfl, hbc⟩
    have Hk := Lib.hid hk
    have Hbel1 := Lib.hid (hbel0.trans (hbc.mono hbel0.size))
    clear hk hbc hown0 hit0 hbel0
    go_wp2_with fail
    go_ret2
    exact ⟨_, [], 1100, rfl, by rw [Hpar.out, HR.out, ← Hs.out, scanP_form _ _ _ Hk.out], World.ownsRow_nil _ _ _ _, fun _ => rfl, Hbel1.out⟩
   ·refine (check_lit _ 801 (by omega) (by rw [Hpc.out]; exact hk) _).mono ?_
    rintro e w1 ⟨rfl, hbc⟩
    have Hk := Lib.hid hk
    have Hbel1 := Lib.hid (hbel0.trans (hbc.mono hbel0.size))
    clear hk hbc hown0 hit0 hbel0
    go_wp2_with fail
    go_ret2
    exact ⟨_, [], 1101, rfl, by rw [Hpar.out, HR.out, ← Hs.out, scanP_long _ _ _ Hk.out], World.ownsRow_nil _ _ _ _, fun _ => rfl, Hbel1.out⟩
  ·have hjl : j < (s.data.toList ++ [47]).length := by rw [List.length_append, Hlen.out]; simp; omega
   have hjs : j < s.size := by
    rcases Nat.lt_or_ge j s.size with h | h
    ·exact h
    ·exfalso
     apply hsl
     have : j = s.data.toList.length := by rw [Hlen.out]; omega
     rw [this]
     simp
   have hno : ¬ ((s.data.toList ++ [47]).drop j).getD 0 0 = 47 := by
    simpa [List.getD_eq_getElem?_getD, List.getElem?_drop] using hsl
   have hc47 := (decodeL_noslash _ hno).1
   have hskip := (decodeL_noslash _ hno).2
   have hw := decodeL_width ((s.data.toList ++ [47]).drop j)
   have hf := decodeL_fits ((s.data.toList ++ [47]).drop j) (by intro e; rw [e] at hno; have := congrArg List.length e; rw [List.length_drop] at this; simp at this; omega)
   rw [List.length_drop, List.length_append, Hlen.out] at hf
   have hle := decodeL_le ((s.data.toList ++ [47]).drop j)
   have hrune := scanP_rune (s.data.toList ++ [47]) p j out hpj hjl hsl
   obtain ⟨q, hq⟩ : ∃ q, decodeL ((s.data.toList ++ [47]).drop j) = q := ⟨_, rfl⟩
   rw [hq] at hnx hc47 hskip hw hf hle hrune
   obtain ⟨cc, v⟩ := q
   simp only at hnx hc47 hskip hw hf hle hrune
   have hjv : j + v ≤ s.size := by
    rcases Nat.lt_or_ge s.size (j + v) with h | h
    ·exfalso
     have hmem : (47 : UInt8) ∈ ((s.data.toList ++ [47]).drop j).take v := by
      have hlast : ((s.data.toList ++ [47]).drop j).take v = (s.data.toList ++ [47]).drop j := by
       rw [List.take_of_length_le]
       rw [List.length_drop, List.length_append, Hlen.out]
       simp
       omega
      rw [hlast, List.drop_append_of_le_length (by rw [Hlen.out]; omega)]
      simp
     exact hskip _ hmem rfl
    ·exact h
   rw [piece_left _ _ _ _ (by rw [Hlen.out]; omega), piece_left _ _ _ _ (by rw [Hlen.out]; omega)] at hrune
   rw [hrune] at hscan
   have q47 : ((cc : Int) != 47) = true := by rw [bne_iff_ne]; omega
   obtain ⟨W, hW⟩ : ∃ W, wr.iterAt w.heap.size (s ++ ⟨#[47]⟩) (j + v) = W := ⟨_, rfl⟩
   have hit1 := hit0 (j + v)
   have hown1 := hown0 (j + v)
   have hbel1 := hbel0 (j + v)
   rw [hW] at hit1 hown1 hbel1 hnx
   have Hs := Lib.hid hscan
   have Hit1 := Lib.hid hit1
   have Hown1 := Lib.hid hown1
   have Hbel1 := Lib.hid hbel1
   clear hit hit0 hown hown0 hbel hbel0 hsz0 hcase hd hq hend hW hscan hsl hstart hrune hskip hno hit1 hown1 hbel1 hc47
   go_wp2_with fail
   go_roundw
   case rel => exact ⟨p, j + v, out, _, rfl, rfl, Or.inr ⟨hp1, by omega, by omega, Hs.out⟩, by omega, Hit1.out, Hown1.out, Hbel1.out⟩
   case measure => rw [iterPos_of Hit1.out, iterPos_of Hit.out]; omega
set_option maxHeartbeats 1000000 in
theorem parse_any (s : ByteArray) (w : World) (hs : s.size ≤ 140737488355328) :
  Calls Tryz.prog 35 #[.string s] w (Parsed s w) := by
 have hsz : s.data.toList.length = s.size := rfl
 have htl := ByteArray.toList_eq s
 by_cases h64 : 64 < s.size
 ·have hp := parse_64 (l := s.data.toList) (by omega)
  have HP := Lib.hid hp
  clear hp htl hsz
  go_enter Tryz.func35, Tryz.ntmps35
  go_wp2_with fail
  go_ret2
  exact ⟨_, [], 1101, rfl, HP.out, World.ownsRow_nil _ _ _ _, fun _ => rfl, Below.refl _ _⟩
 by_cases hh : s.data.toList.head? = some 47
 ·obtain ⟨hp0, hb0⟩ := (path_head s).1 hh
  by_cases h1 : s.size = 1
  ·have hp := parse_root (l := s.data.toList) (by omega) hh (by omega)
   have he : s.toList = [47] := by
    rw [htl]
    match hl : s.data.toList, hh with
    | [a], hh => simp at hh; rw [hh]
    | a :: b :: r, _ => rw [hl] at hsz; simp at hsz; omega
   have HP := Lib.hid hp
   have H1 := Lib.hid h1
   have q1 : ((s.size : Int) == 1) = true := by rw [beq_iff_eq]; omega
   have he0 : s.toList.isEmpty = false := by rw [he]; rfl
   have he1 : ¬ s.toList = [] := by rw [he]; simp
   clear he
   have h1' : s.size ≤ 64 := by omega
   clear hp htl hsz hh h1
   go_enter Tryz.func35, Tryz.ntmps35
   go_wp2_with fail
   go_ret2
   exact ⟨_, [], 0, rfl, HP.out, World.ownsRow_nil _ _ _ _, fun _ => rfl, Below.refl _ _⟩
  ·exact (parse_long s w hs (by omega) ⟨hp0, hb0⟩ h1).mono fun _ _ h => h
 ·have hp := parse_form (l := s.data.toList) (by omega) hh
  have HP := Lib.hid hp
  by_cases h0 : s.size = 0
  ·have he : s.toList = [] := by rw [htl]; exact List.eq_nil_of_length_eq_zero (by omega)
   have h0' : s.size ≤ 64 := by omega
   clear hp htl hsz hh h0
   go_enter Tryz.func35, Tryz.ntmps35
   go_wp2_with fail
   go_ret2
   exact ⟨_, [], 1100, rfl, HP.out, World.ownsRow_nil _ _ _ _, fun _ => rfl, Below.refl _ _⟩
  ·have hp0 : 0 < s.size := by omega
   have hne := no_head_ne hp0 hh
   have he0 : s.toList.isEmpty = false := by
    rw [htl]
    cases e : s.data.toList with
    | nil => rw [e] at hsz; simp at hsz; omega
    | cons a l => rfl
   have he1 : ¬ s.toList = [] := by intro e; rw [e] at he0; simp at he0
   clear hp htl hsz hh h0
   go_enter Tryz.func35, Tryz.ntmps35
   go_wp2_with fail
   go_ret2
   exact ⟨_, [], 1100, rfl, HP.out, World.ownsRow_nil _ _ _ _, fun _ => rfl, Below.refl _ _⟩
def codeN (n : Nat) : Nat := if n = 0 then 0 else if n = 1101 ∨ n = 1102 then 6 else 9
set_option maxHeartbeats 400000 in
theorem code_any (n : Nat) (hn : n ≤ 65536) (w : World) : Calls Tryz.prog 36 #[.int .i64 (n : Int)] w fun e w' => e = .returned (.int .i64 (codeN n : Int)) ∧ w = w' := by
 by_cases h0 : n = 0
 ·subst h0
  go_enter Tryz.func36, Tryz.ntmps36
  go_wp2
  go_ret
  exact ⟨rfl, rfl⟩
 by_cases h1 : n = 1101
 ·subst h1
  go_enter Tryz.func36, Tryz.ntmps36
  go_wp2
  go_ret
  exact ⟨rfl, rfl⟩
 by_cases h2 : n = 1102
 ·subst h2
  go_enter Tryz.func36, Tryz.ntmps36
  go_wp2
  go_ret
  exact ⟨rfl, rfl⟩
 ·have hc : codeN n = 9 := by unfold codeN; rw [if_neg h0, if_neg (by omega)]
  rw [hc]
  have q0 : ((n : Int) == 0) = false := by rw [beq_eq_false_iff_ne]; omega
  have q1 : ((n : Int) == 1101) = false := by rw [beq_eq_false_iff_ne]; omega
  have q2 : ((n : Int) == 1102) = false := by rw [beq_eq_false_iff_ne]; omega
  go_enter Tryz.func36, Tryz.ntmps36
  go_wp2
  go_ret
  exact ⟨rfl, rfl⟩
structure DoerAt (w : World) (q p : Nat) (c : Ca) (fd num : Int) (dir : Bool) (data : ByteArray) (nv : Value) : Prop where
 cell : w.heap[q]? = some (.cells #[.pointer (some ⟨p, 0, none⟩), .int .i64 c.kind, .int .i64 c.core, .int .i64 c.fd, .int .i64 c.off, .int .i64 c.num, .string c.path, .string c.path2, .string c.data, .int .i64 0, .int .i64 fd, .int .i64 num, .bool dir, .string data, nv] 72 (0, 0))
section
variable {w : World} {q p : Nat} {c : Ca} {fd num : Int} {dir : Bool} {data : ByteArray} {nv : Value}
theorem DoerAt.lt (h : DoerAt w q p c fd num dir data nv) : q < w.heap.size := (Array.getElem?_eq_some_iff.1 h.cell).1
theorem DoerAt.below {w' : World} (h : DoerAt w q p c fd num dir data nv) (hb : Below w.heap.size w w') : DoerAt w' q p c fd num dir data nv := ⟨(hb.block q h.lt).trans h.cell⟩
theorem DoerAt.turns {w' : World} {B : Nat} (h : DoerAt w q p c fd num dir data nv) (hp : q ≠ p) (hb : Turns B p w w') : DoerAt w' q p c fd num dir data nv := ⟨(hb.keep q _ _ h.cell (by decide) (by decide) (by decide) (by decide) hp).trans h.cell⟩
theorem DoerAt.c0 (h : DoerAt w q p c fd num dir data nv) : w.cell? ⟨q, 0, none⟩ = some (.pointer (some ⟨p, 0, none⟩)) := by rw [cell_of_row w q _ _ _ (0, 0) h.cell]; rfl
theorem DoerAt.c1 (h : DoerAt w q p c fd num dir data nv) : w.cell? ⟨q, 1, none⟩ = some (.int .i64 c.kind) := by rw [cell_of_row w q _ _ _ (0, 0) h.cell]; rfl
theorem DoerAt.c2 (h : DoerAt w q p c fd num dir data nv) : w.cell? ⟨q, 2, none⟩ = some (.int .i64 c.core) := by rw [cell_of_row w q _ _ _ (0, 0) h.cell]; rfl
theorem DoerAt.c3 (h : DoerAt w q p c fd num dir data nv) : w.cell? ⟨q, 3, none⟩ = some (.int .i64 c.fd) := by rw [cell_of_row w q _ _ _ (0, 0) h.cell]; rfl
theorem DoerAt.c4 (h : DoerAt w q p c fd num dir data nv) : w.cell? ⟨q, 4, none⟩ = some (.int .i64 c.off) := by rw [cell_of_row w q _ _ _ (0, 0) h.cell]; rfl
theorem DoerAt.c5 (h : DoerAt w q p c fd num dir data nv) : w.cell? ⟨q, 5, none⟩ = some (.int .i64 c.num) := by rw [cell_of_row w q _ _ _ (0, 0) h.cell]; rfl
theorem DoerAt.c6 (h : DoerAt w q p c fd num dir data nv) : w.cell? ⟨q, 6, none⟩ = some (.string c.path) := by rw [cell_of_row w q _ _ _ (0, 0) h.cell]; rfl
theorem DoerAt.c7 (h : DoerAt w q p c fd num dir data nv) : w.cell? ⟨q, 7, none⟩ = some (.string c.path2) := by rw [cell_of_row w q _ _ _ (0, 0) h.cell]; rfl
theorem DoerAt.c8 (h : DoerAt w q p c fd num dir data nv) : w.cell? ⟨q, 8, none⟩ = some (.string c.data) := by rw [cell_of_row w q _ _ _ (0, 0) h.cell]; rfl
end
theorem panic_end {P : Program} {fn : Func} {R : Ending → World → Prop} {a : Act} {w : World} {code : Int} (hd : a.defers = []) (hR : R (.panicked (faultP code)) w) : bodyPost P fn R (.panic (faultP code)) a w := by
 simp [bodyPost, faultP, hd]
 exact hR
theorem codeP_N (n : Nat) : (codeN n : Int) = codeP n := by
 unfold codeN codeP
 split
 ·rfl
 ·split <;> rfl
theorem mparse_ok (path : ByteArray) (w : World) (hs : path.size ≤ 140737488355328) (h0 : (parseL path.data.toList).2 = 0) :
  Calls Tryz.prog 132 #[.string path] w fun e w' => ∃ A c, e = .returned (.slice A (parseL path.data.toList).1.length c) ∧ (parseL path.data.toList).1.length ≤ c ∧ NmAt w' A (parseL path.data.toList).1.length (parseL path.data.toList).1 ∧ Below w.heap.size w w' := by
 obtain ⟨R, hR⟩ : ∃ R, parseL path.data.toList = R := ⟨_, rfl⟩
 rw [hR] at h0 ⊢
 obtain ⟨NS, C⟩ := R
 simp only at h0 ⊢
 subst h0
 have HR := Lib.hid hR
 clear hR
 go_enter Tryz.func132, Tryz.ntmps132
 go_wp2_with fail
 refine (parse_any path _ hs).mono ?_
 rintro e1 w1 ⟨v, out, n, rfl, hp, hn, _, hb⟩
 rw [HR.out] at hp
 injection hp with hp1 hp2
 subst hp1 hp2
 obtain ⟨A, c, rfl, hc, hnm⟩ := NmAt.of_names hn
 have HNM := Lib.hid hnm
 have HB := Lib.hid hb
 clear hn hnm hb
 go_wp2_with fail
 refine (code_any 0 (by omega) _).mono ?_
 rintro e2 w2 ⟨rfl, rfl⟩
 go_wp2_with fail
 refine (throw_no _ _).mono ?_
 rintro e3 w3 ⟨rfl, rfl⟩
 go_wp2_with fail
 go_ret
 exact ⟨A, c, rfl, hc, HNM.out, HB.out⟩
theorem mparse_bad (path : ByteArray) (w : World) (hs : path.size ≤ 140737488355328) (h0 : (parseL path.data.toList).2 ≠ 0) :
  Calls Tryz.prog 132 #[.string path] w fun e w' => e = .panicked (faultP (codeP (parseL path.data.toList).2)) ∧ Below w.heap.size w w' := by
 have hle := parse_err path.data.toList
 obtain ⟨R, hR⟩ : ∃ R, parseL path.data.toList = R := ⟨_, rfl⟩
 rw [hR] at h0 hle ⊢
 obtain ⟨NS, C⟩ := R
 simp only at h0 hle ⊢
 have HR := Lib.hid hR
 clear hR
 go_enter Tryz.func132, Tryz.ntmps132
 go_wp2_with fail
 refine (parse_any path _ hs).mono ?_
 rintro e1 w1 ⟨v, out, n, rfl, hp, hn, _, hb⟩
 rw [HR.out] at hp
 injection hp with hp1 hp2
 subst hp1 hp2
 have HB := Lib.hid hb
 have hne : ((C : Int) != 0) = true := by rw [bne_iff_ne]; omega
 clear hn hb
 go_wp2_with fail
 refine (code_any C (by omega) _).mono ?_
 rintro e2 w2 ⟨rfl, rfl⟩
 rw [codeP_N]
 go_wp2_with fail
 refine (throw_yes _ _).mono ?_
 rintro e3 w3 ⟨rfl, rfl⟩
 go_wp2_with fail
 first | exact ⟨rfl, HB.out⟩ | (refine bodyPost_panic ?_; exact ⟨rfl, HB.out⟩) | (simp [bodyPost, faultP]; exact HB.out)
end Go.Proofs.YtndcloohcfhejaaGreat
