/- Parts of the proof, side by side: ConRun, ConAwake. -/
import Derived.Test.YtilkhmhgjbhfnaaGreatDoorM42
import Derived.Test.YtilkhmhgjbhfnaaGreatDoorM43
import Derived.Test.YtilkhmhgjbhfnaaGreatDoorM17
set_option linter.unusedVariables false
set_option linter.unusedSimpArgs false
namespace Go.Proofs.YtilkhmhgjbhfnaaGreatDoor
open Go.RowKit
theorem BldH.off {B b P : Nat} {l : List UInt8} {w w' : World} {x y z : Value} (h : BldH B b l w) (hp : PlAt w P x y z) (ho : Off P w w') : BldH B b l w' := by
 have key : ∀ p, Lib.BuilderAtF 54 5 B b p (Lib.byteCells l) w → Lib.BuilderAtF 54 5 B b p (Lib.byteCells l) w' := by
  intro p hq
  have hlt := hq.lt
  obtain ⟨hB, v, h1, h2, h3⟩ := hq
  have hbp : b ≠ P := fun e => by
   subst e
   rw [show w.heap[b]? = _ from hp] at h1
   injection h1 with h1
   injection h1 with _ h1 _
   exact absurd h1 (by decide)
  refine ⟨hB, v, (ho.same b hlt hbp).trans h1, ⟨h2.1, ?_⟩, h3⟩
  rcases h2.2 with h | ⟨g, cap, cur, fz, e1, e2, e3, e4⟩
  ·exact .inl h
  ·have hgp : g ≠ P := fun e => by
    subst e
    rw [show w.heap[g]? = _ from hp] at e3
    injection e3 with e3
    injection e3 with _ e3 _
    exact absurd e3 (by decide)
   exact .inr ⟨g, cap, cur, fz, e1, e2, (ho.same g (Array.getElem?_eq_some_iff.1 e3).1 hgp).trans e3, e4⟩
 rcases h with h | h
 ·exact .inl (key _ h)
 ·exact .inr (key _ h)
theorem BldH.row {B b : Nat} {l : List UInt8} {w : World} (h : BldH B b l w) : ∃ cur, w.heap[b]? = some (.cells cur 54 (0, 0)) := by
 rcases h with ⟨_, v, h, _⟩ | ⟨_, v, h, _⟩
 ·exact ⟨_, h⟩
 ·exact ⟨_, h⟩
theorem Wr.keepT {B b : Nat} {w w' : World} (h : Wr B b w w') (hb : ∃ cur, w.heap[b]? = some (.cells cur 54 (0, 0))) (t : TypeId) (h1 : t ≠ 54) (h2 : t ≠ 5) : KeepT t w w' :=
 ⟨h.below.size, fun k cur hk => (h.keep k _ hk (fun e => by
  subst e
  obtain ⟨c, hc⟩ := hb
  rw [hc] at hk
  injection hk with hk
  injection hk with _ hk _
  exact h1 hk.symm) (fun cs fr e => by
  injection e with _ e _
  exact h2 e)).trans hk.symm⟩
set_option maxRecDepth 100000 in
set_option maxHeartbeats 2000000 in
theorem string_nilH (b : Nat) (w : World) (h : w.heap[b]? = some (.cells #[.pointer none, .slice none 0 0] 54 (0, 0))) :
  Calls Tryz.prog 19 #[.pointer (some ⟨b, 0, none⟩)] w fun e w' => e = .returned (.string ⟨#[]⟩) ∧ Below w.heap.size w w' := by
 have c1 : w.cell? ⟨b, 1, none⟩ = some (.slice none 0 0) := by
  rw [Lib.cell_of_heap h]; rfl
 have hSD : ∀ W, (Builtin.unsafeSliceData_ #[37] 91 #[.slice none 0 0]).run Tryz.prog W = .ok (.pointer none) W := fun W => Lib.run_unsafeSliceData_nil _ _ _ _ _
 have hUS : ∀ W, (Builtin.unsafeString_ #[91, 3] 9 #[.pointer none, .int .i64 0]).run Tryz.prog W = .ok (.string ⟨#[]⟩) W := fun W => Lib.run_unsafeString_none _ _ _ _ _
 go_enter Tryz.func19, Tryz.ntmps19
 go_wp2_with fail
 go_region
 all_goals (go_wp2_with fail; go_ret; exact ⟨rfl, Below.drew (Below.refl _ _)⟩)
theorem stW_good : ∀ (xs : List (List ByteArray)) (s : St), Good s → Good (stW s xs)
 | [], s, h => h
 | ws :: r, s, h => by
  unfold stW
  split
  ·exact stW_good r s h
  ·exact stW_good r _ (lineV_good h ws)
theorem stW_snoc (ws : List ByteArray) : ∀ (xs : List (List ByteArray)) (s : St), stW s (xs ++ [ws]) = if mute ws then stW s xs else (lineV (stW s xs) ws).1
 | [], s => rfl
 | x :: r, s => by
  rw [List.cons_append, stW, stW]
  split
  ·exact stW_snoc ws r s
  ·exact stW_snoc ws r _
theorem runW_one (s : St) (ws : List ByteArray) : runW s [ws] = if mute ws then [] else (lineV s ws).2 ++ [10] := by
 rw [runW]
 rfl
theorem runW_len : ∀ (xs : List (List ByteArray)) (s : St), (runW s xs).length ≤ xs.length * 1001
 | [], s => Nat.zero_le _
 | ws :: r, s => by
  have e : (ws :: r).length * 1001 = r.length * 1001 + 1001 := Nat.succ_mul _ _
  rw [e, runW]
  split
  ·exact Nat.le_trans (runW_len r s) (Nat.le_add_right _ _)
  ·have h1 := runW_len r (lineV s ws).1
   have h2 := lineV_len s ws
   rw [List.length_append, List.length_cons]
   generalize r.length * 1001 = K at h1 ⊢
   omega
theorem run_small {k L : Nat} (h1 : L ≤ k * 1001) (hk : k ≤ 65538) : L ≤ 100000000 := by omega
theorem newV_good : Good (newV 2) := (good_iff _).1 (by decide +kernel)
structure RunAt (w : World) (P bb SR : Nat) (LN : List ByteArray) (S : St) (L : List UInt8) (a b c : Value) (wr : World) : Prop where
 pl : PlAt wr P a b c
 st : StAt (some 0) wr (.agg #[a, b, c]) S
 bl : BldH w.heap.size bb L wr
 new : L = [] → wr.heap[bb]? = some (.cells #[.pointer none, .slice none 0 0] 54 (0, 0))
 sr : wr.heap[SR]? = some (.cells (LN.map Value.string).toArray 9 (0, 0))
 bel : Below w.heap.size w wr
theorem RunAt.below {w : World} {P bb SR : Nat} {LN : List ByteArray} {S : St} {L : List UInt8} {a b c : Value} {wr w' : World} (h : RunAt w P bb SR LN S L a b c wr) (hb : Below wr.heap.size wr w') : RunAt w P bb SR LN S L a b c w' :=
 ⟨(hb.block P h.pl.lt).trans h.pl, h.st.below hb, h.bl.keep hb, fun e => (hb.block bb (Array.getElem?_eq_some_iff.1 (h.new e)).1).trans (h.new e), (hb.block SR (Array.getElem?_eq_some_iff.1 h.sr).1).trans h.sr, h.bel.trans (hb.mono h.bel.size)⟩
theorem RunAt.cell {w : World} {P bb SR : Nat} {LN : List ByteArray} {S : St} {L : List UInt8} {a b c : Value} {wr : World} (h : RunAt w P bb SR LN S L a b c wr) {q : Nat} {x : ByteArray} (hx : LN[q]? = some x) : wr.cell? ⟨SR, q, none⟩ = some (.string x) := by
 rw [cell_of_row wr _ _ _ _ (0, 0) h.sr, List.getElem?_toArray, List.getElem?_map, hx]
 rfl
theorem RunAt.line {w : World} {P bb SR : Nat} {LN : List ByteArray} {S S' : St} {L : List UInt8} {a b c a' b' c' : Value} {wr w' : World} (h : RunAt w P bb SR LN S L a b c wr) (hP : w.heap.size ≤ P) (hs : StAt (some 0) w' (.agg #[a', b', c']) S') (hp : PlAt w' P a' b' c') (ho : Off P wr w') (hb : Below P wr w') (hbb : bb ≠ P) (hsr : SR ≠ P) : RunAt w P bb SR LN S' L a' b' c' w' :=
 ⟨hp, hs, h.bl.off h.pl ho, fun e => (ho.same bb (Array.getElem?_eq_some_iff.1 (h.new e)).1 hbb).trans (h.new e), (ho.same SR (Array.getElem?_eq_some_iff.1 h.sr).1 hsr).trans h.sr, h.bel.trans (hb.mono hP)⟩
theorem RunAt.wrote {w : World} {P bb SR : Nat} {LN : List ByteArray} {S : St} {L T : List UInt8} {a b c : Value} {wr w' : World} (h : RunAt w P bb SR LN S L a b c wr) (hP : P ≠ bb) (hsr : SR ≠ bb) (hT : T ≠ []) (hl : BldH w.heap.size bb (L ++ T) w') (hw : Wr w.heap.size bb wr w') : RunAt w P bb SR LN S (L ++ T) a b c w' :=
 have k := hw.keepT h.bl.row
 ⟨hw.keep P _ h.pl hP (fun cs fr e => by injection e with _ e _; exact absurd e (by decide)), h.st.keep3 (k _ (by decide) (by decide)) (k _ (by decide) (by decide)) (k _ (by decide) (by decide)) (k _ (by decide) (by decide)), hl, fun e => absurd (List.append_eq_nil_iff.1 e).2 hT, hw.keep SR _ h.sr hsr (fun cs fr e => by injection e with _ e _; exact absurd e (by decide)), h.bel.trans hw.below⟩
theorem first_byte (y : ByteArray) (h : 0 < y.size) : y[0]'h = y.data.toList.headD 0 := by
 obtain ⟨⟨l⟩⟩ := y
 cases l with
 | nil => exact absurd h (Nat.lt_irrefl 0)
 | cons a t => rfl
theorem mute_first (y : ByteArray) (r : List ByteArray) (h : 0 < y.size) : ((((y[0]'h).toNat : Int)) != 35) = !mute (y :: r) := by
 have e : mute (y :: r) = (y.data.toList.headD 0 == 35) := rfl
 rw [first_byte, e]
 generalize y.data.toList.headD 0 = c
 by_cases hc : c = 35
 ·subst hc
  rfl
 ·have h1 : (c == 35) = false := by rw [beq_eq_false_iff_ne]; exact hc
  have h2 : ((c.toNat : Int) != 35) = true := by
   rw [bne_iff_ne]
   intro e2
   exact hc (UInt8.toNat_inj.1 (by show c.toNat = 35; omega))
  rw [h1, h2]
  rfl
set_option maxRecDepth 100000 in
set_option maxHeartbeats 8000000 in
theorem run_any (s : ByteArray) (w : World) (h : s.size ≤ 65536) (hT : Tab w) (hM : ∃ m, w.cell? ⟨0, 0, none⟩ = some (.int .i64 m)) :
  Calls Tryz.prog 7 #[.string s] w fun e w' => e = .returned (.tuple #[.string (txt (runB s)), .int .i64 0]) ∧ Below w.heap.size w w' := by
 have h' : decide ((65536 : Int) < (s.size : Int)) = false := decide_eq_false (by omega)
 have HS := Lib.hid h
 have HT := Lib.hid hT
 have HM := Lib.hid hM
 clear h hT hM
 obtain ⟨LN, hLN⟩ : ∃ LN, linesB s = LN := ⟨_, rfl⟩
 have hsz : ∀ x ∈ LN, x.size ≤ 65536 := fun x hx => by rw [← hLN] at hx; have := linesB_size s x hx; have := HS.out; omega
 have hmany : LN.length ≤ 65538 := by have := linesB_many s; rw [hLN] at this; have := HS.out; omega
 have hrun : runB s = runW (newV 2) (LN.map wordsB) := by unfold runB; rw [hLN]
 rw [hrun]
 clear hrun
 go_enter Tryz.func7, Tryz.ntmps7
 go_wp2_with fail
 refine (mnew_any 2 (by omega) (by omega) w).mono ?_
 rintro e1 w1 ⟨v, rfl, hst1, hb1⟩
 obtain ⟨A, n, c, E, m, d, D, k, g, rfl, _⟩ := hst1.at_
 have HST := Lib.hid hst1
 have HB1 := Lib.hid hb1
 clear hst1 hb1
 go_upto_region 6 with fail
 obtain ⟨W4, hW4⟩ : ∃ W4, (((w1.alloc (.cells #[.slice A n c, .slice E m d, .slice D k g] 31)).alloc (.cells #[.slice A n c, .slice E m d, .slice D k g] 51)).alloc (.cells #[.pointer none, .slice none 0 0] 54)) = W4 := ⟨_, rfl⟩
 have z4 : W4.heap.size = w1.heap.size + 3 := by rw [← hW4]; simp
 have hb4 : Below w1.heap.size w1 W4 := by rw [← hW4]; exact (((Below.refl _ _).alloc (Nat.le_refl _) _).alloc (by simp) _).alloc (by simp; omega) _
 have hp4 : PlAt W4 (w1.heap.size + 1) (.slice A n c) (.slice E m d) (.slice D k g) := by
  rw [← hW4]
  exact row_past (row_new _ _ _ (by simp)) (by simp)
 have hn4 : W4.heap[w1.heap.size + 1 + 1]? = some (.cells #[.pointer none, .slice none 0 0] 54 (0, 0)) := by
  rw [← hW4]
  exact row_new _ _ _ (by simp)
 have hz1 := HB1.out.size
 have hbw4 : Below w.heap.size w W4 := Cv.next HB1.out hb4
 have hbl4 : BldH w.heap.size (w1.heap.size + 1 + 1) [] W4 := .inl ⟨by omega, _, hn4, World.ownsRowF_nil _ _ _ _, by simp [Value.ownBlock]⟩
 obtain ⟨mm, hmm⟩ := HM.out
 have hm4 : W4.cell? ⟨0, 0, none⟩ = some (.int .i64 mm) := (hbw4.cell (p := ⟨0, 0, none⟩) (World.block_lt_of_cell? w ⟨0, 0, none⟩ hmm)).trans hmm
 have hsp := strings_Split s ⟨#[10]⟩ mm W4 (by have := HS.out; omega) hm4 (by decide)
 rw [show Lib.splitB ⟨#[10]⟩ 0 (Lib.countB s ⟨#[10]⟩) s = linesB s from rfl, ← linesB_len] at hsp
 have hst4 : StAt (some 0) W4 (.agg #[.slice A n c, .slice E m d, .slice D k g]) (newV 2) := (HST.out.lower (Nat.zero_le _)).below hb4
 rw [hLN] at hsp
 obtain ⟨w5, hw5⟩ : ∃ w5, W4.alloc (.cells (LN.map Value.string).toArray 9) = w5 := ⟨_, rfl⟩
 have hb5 : Below W4.heap.size W4 w5 := by rw [← hw5]; exact (Below.refl _ _).alloc (Nat.le_refl _) _
 have hr5 : w5.heap[W4.heap.size]? = some (.cells (LN.map Value.string).toArray 9 (0, 0)) := by rw [← hw5]; exact heap_alloc_new W4 _
 have z5 : w5.heap.size = W4.heap.size + 1 := by rw [← hw5]; simp
 have hR5 : RunAt w (w1.heap.size + 1) (w1.heap.size + 1 + 1) W4.heap.size LN (newV 2) [] (.slice A n c) (.slice E m d) (.slice D k g) w5 :=
  ⟨(hb5.block _ hp4.lt).trans hp4, hst4.below hb5, hbl4.keep hb5, fun _ => (hb5.block _ (Array.getElem?_eq_some_iff.1 hn4).1).trans hn4, hr5, Cv.next hbw4 hb5⟩
 have HR5 := Lib.hid hR5
 have HSP := Lib.hid hsp
 have HSZ := Lib.hid hsz
 have HMANY := Lib.hid hmany
 rw [hW4]
 obtain ⟨P, hPq⟩ : ∃ P, w1.heap.size + 1 = P := ⟨_, rfl⟩
 obtain ⟨bb, hbq⟩ : ∃ bb, P + 1 = bb := ⟨_, rfl⟩
 obtain ⟨SR, hSq⟩ : ∃ SR, W4.heap.size = SR := ⟨_, rfl⟩
 simp only [hPq] at HR5 ⊢
 simp only [hbq] at HR5 ⊢
 have hP0 : w.heap.size ≤ P := by omega
 have n1 : bb ≠ P := by omega
 have n2 : SR ≠ P := by omega
 have n3 : SR ≠ bb := by omega
 clear hW4 hb4 hp4 hn4 hbw4 hbl4 hm4 hmm hsp hst4 hLN hsz hmany hb5 hr5 hR5
 go_wp2_with fail
 refine HSP.out.mono ?_
 rintro e2 w2 ⟨rfl, rfl⟩
 rw [hw5]
 simp only [hSq] at HR5 ⊢
 clear hw5
 go_wp2_with fail
 go_loopw [24] (fun j wr => ∃ (q : Nat) (a b c : Value), j = .int .i64 (q : Int) ∧ q ≤ LN.length ∧ RunAt w P bb SR LN (stW (newV 2) ((LN.take q).map wordsB)) (runW (newV 2) ((LN.take q).map wordsB)) a b c wr) (fun j _ => LN.length - (intOf j).toNat)
 case atStart => exact ⟨0, _, _, _, rfl, Nat.zero_le _, HR5.out⟩
 case round =>
  obtain ⟨q, a, b, c, rfl, hq, hR⟩ := hrel
  by_cases hlt : q < LN.length
  ·obtain ⟨x, hx⟩ : ∃ x, LN[q]? = some x := ⟨_, List.getElem?_eq_getElem hlt⟩
   have hxs := HSZ.out x (List.mem_of_getElem? hx)
   have htk : (LN.take (q + 1)).map wordsB = (LN.take q).map wordsB ++ [wordsB x] := by rw [List.take_add_one, hx, List.map_append]; rfl
   have hc := hR.cell hx
   have hlb := HMANY.out
   have k0 : (0 : Int) ≤ (q : Int) := by omega
   have k1 : (q : Int) < (LN.length : Int) := by omega
   have hgd := stW_good ((LN.take q).map wordsB) _ newV_good
   have hll := runW_len ((LN.take q).map wordsB) (newV 2)
   rw [List.length_map] at hll
   have hwok := words_ok x
   obtain ⟨S1, hS1⟩ : ∃ S1, stW (newV 2) ((LN.take q).map wordsB) = S1 := ⟨_, rfl⟩
   obtain ⟨L1, hL1⟩ : ∃ L1, runW (newV 2) ((LN.take q).map wordsB) = L1 := ⟨_, rfl⟩
   have hstep : stW (newV 2) ((LN.take (q + 1)).map wordsB) = if mute (wordsB x) then S1 else (lineV S1 (wordsB x)).1 := by rw [htk, stW_snoc, hS1]
   have hstepL : runW (newV 2) ((LN.take (q + 1)).map wordsB) = L1 ++ if mute (wordsB x) then [] else (lineV S1 (wordsB x)).2 ++ [10] := by rw [htk, runW_app, runW_one, hS1, hL1]
   rw [hS1, hL1] at hR
   rw [hS1] at hgd
   rw [hL1] at hll
   have hw := fun u => words_any x u (by omega)
   obtain ⟨WS, hWS⟩ : ∃ WS, wordsB x = WS := ⟨_, rfl⟩
   rw [hWS] at hstep hstepL hwok
   simp only [hWS] at hw
   have HR := Lib.hid hR
   have HGD := Lib.hid hgd
   have HLL := Lib.hid hll
   have HWOK := Lib.hid hwok
   have HSTEP := Lib.hid hstep
   have HSTEPL := Lib.hid hstepL
   have HW := Lib.hid hw
   have HX := Lib.hid hxs
   clear hR hgd hll hwok hstep hstepL hw hxs htk hS1 hL1 hx hWS
   go_wp2_with fail
   refine (HW.out _).mono ?_
   rintro e6 w6 ⟨A6, rfl, hnm, hb6⟩
   have HR6 := Lib.hid (HR.out.below hb6)
   have HNM := Lib.hid hnm
   clear hb6 hnm hc
   rcases WS with _ | ⟨y, r⟩
   ·have h1 : stW (newV 2) ((LN.take (q + 1)).map wordsB) = S1 := HSTEP.out
    have h2 : runW (newV 2) ((LN.take (q + 1)).map wordsB) = L1 := HSTEPL.out.trans (List.append_nil _)
    have H1 := Lib.hid h1
    have H2 := Lib.hid h2
    clear h1 h2
    go_wp2_with fail
    go_roundw
    case rel => exact ⟨q + 1, a, b, c, by go_num, by omega, by rw [H1.out, H2.out]; exact HR6.out⟩
    case measure => simp [intOf]; omega
   ·have c0 := cell0_of HNM.out 0 rfl
    have hy1 := (HWOK.out.1 y List.mem_cons_self).1
    have m0 : (0 : Int) < ((y :: r).length : Int) := by rw [List.length_cons]; omega
    obtain ⟨N, hN⟩ : ∃ N, (y :: r).length = N := ⟨_, rfl⟩
    rw [hN] at m0 ⊢
    have hmf := mute_first y r hy1
    cases hB : mute (y :: r)
    ·rw [hB] at hmf
     have hs1 := HSTEP.out
     have hs2 := HSTEPL.out
     rw [hB] at hs1 hs2
     have hmf' : (((y[0]'hy1).toNat : Int) != 35) = true := hmf
     have H1 := Lib.hid (show stW (newV 2) ((LN.take (q + 1)).map wordsB) = (lineV S1 (y :: r)).1 from hs1)
     have H2 := Lib.hid (show runW (newV 2) ((LN.take (q + 1)).map wordsB) = L1 ++ ((lineV S1 (y :: r)).2 ++ [10]) from hs2)
     clear hmf hB hs1 hs2 HSTEP HSTEPL
     go_wp2_with fail
     have hnm := HNM.out
     rw [hN] at hnm
     refine (line_any A6 P N a b c y r S1 w w6 HGD.out HT.out HR6.out.bel hP0 HR6.out.pl HR6.out.st hnm (fun z hz => by have := (HWOK.out.1 z hz).2; have := HX.out; omega) (by have := HWOK.out.2; rw [hN] at this; have := HX.out; omega)).mono ?_
     clear hnm
     rintro e7 w7 ⟨a7, b7, c7, rfl, hp7, hst7, ho7, hb7⟩
     have HR7 := Lib.hid (HR6.out.line hP0 hst7 hp7 ho7 hb7 n1 n2)
     clear hp7 hst7 ho7 hb7
     have hls := lineV_len S1 (y :: r)
     obtain ⟨LS, hLS⟩ : ∃ LS, (lineV S1 (y :: r)).2 = LS := ⟨_, rfl⟩
     rw [hLS] at hls
     simp only [hLS] at H2 ⊢
     obtain ⟨X, hX⟩ : ∃ X, txt LS = X := ⟨_, rfl⟩
     have hXL : X.data.toList = LS := by rw [← hX]; exact txt_listSh _
     have hXS : X.size = LS.length := by rw [← hXL, Array.length_toList]; rfl
     rw [hX]
     have q1 : ¬ 9223372036854775807 < X.size + 1 := by omega
     have hcat : (X ++ ⟨#[10]⟩ : ByteArray).data.toList = LS ++ [10] := by rw [ByteArray.data_append, Array.toList_append, hXL]
     have hcs : (X ++ ⟨#[10]⟩ : ByteArray).size = LS.length + 1 := by rw [show (X ++ ⟨#[10]⟩ : ByteArray).size = (X ++ ⟨#[10]⟩ : ByteArray).data.toList.length by rw [Array.length_toList]; rfl, hcat, List.length_append]; rfl
     obtain ⟨XN, hXN⟩ : ∃ XN : ByteArray, (X ++ ⟨#[10]⟩ : ByteArray) = XN := ⟨_, rfl⟩
     rw [hXN] at hcat hcs
     have hlb2 : L1.length ≤ 100000000 := run_small HLL.out (by rw [List.length_take]; omega)
     have hwl : L1.length + XN.size ≤ 140737488355328 := by rw [hcs]; omega
     have HWL := Lib.hid hwl
     clear hlb2 hwl
     have HCAT := Lib.hid hcat
     have HCS := Lib.hid hcs
     have HLS := Lib.hid hls
     clear hX hXL hXS hcat hcs hls hLS
     go_wp2_with fail
     try rw [hXN]
     refine (writestring_anyH w.heap.size bb L1 XN w7 HR7.out.bl HWL.out HR7.out.bel.size).mono ?_
     rintro e8 w8 ⟨rfl, hbl8, hw8⟩
     rw [HCAT.out] at hbl8
     have HR8 := Lib.hid (HR7.out.wrote (Ne.symm n1) n3 (by simp) hbl8 hw8)
     clear hbl8 hw8
     go_wp2_with fail
     go_roundw
     case rel => exact ⟨q + 1, a7, b7, c7, by go_num, by omega, by rw [H1.out, H2.out]; exact HR8.out⟩
     case measure => simp [intOf]; omega
    ·rw [hB] at hmf
     have hs1 := HSTEP.out
     have hs2 := HSTEPL.out
     rw [hB] at hs1 hs2
     have hmf' : (((y[0]'hy1).toNat : Int) != 35) = false := hmf
     have H1 := Lib.hid (show stW (newV 2) ((LN.take (q + 1)).map wordsB) = S1 from hs1)
     have H2 := Lib.hid (show runW (newV 2) ((LN.take (q + 1)).map wordsB) = L1 from hs2.trans (List.append_nil _))
     clear hmf hB hs1 hs2 HSTEP HSTEPL
     go_wp2_with fail
     go_roundw
     case rel => exact ⟨q + 1, a, b, c, by go_num, by omega, by rw [H1.out, H2.out]; exact HR6.out⟩
     case measure => simp [intOf]; omega
  ·have k1 : ¬(q : Int) < (LN.length : Int) := by omega
   have k1' : decide ((q : Int) < (LN.length : Int)) = false := decide_eq_false k1
   obtain rfl : q = LN.length := by omega
   rw [List.take_length] at hR
   obtain ⟨L, hL⟩ : ∃ L, runW (newV 2) (LN.map wordsB) = L := ⟨_, rfl⟩
   rw [hL] at hR
   have HR := Lib.hid hR
   have HL := Lib.hid hL
   clear hR hL hq hlt
   go_wp2_with fail
   by_cases h0 : L = []
   ·refine (string_nilH bb _ (HR.out.new h0)).mono ?_
    rintro e9 w9 ⟨rfl, hb9⟩
    have HB9 := Lib.hid (HR.out.bel.trans (hb9.mono HR.out.bel.size))
    clear hb9
    go_wp2_with fail
    refine bodyPost_ret (results_tmp2 rfl _ _ _) rfl ?_
    exact ⟨by rw [HL.out, h0]; rfl, HB9.out⟩
   ·refine (string_anyH w.heap.size bb L _ HR.out.bl h0).mono ?_
    rintro e9 w9 ⟨rfl, _, hw9⟩
    have HB9 := Lib.hid (HR.out.bel.trans hw9.below)
    clear hw9
    go_wp2_with fail
    refine bodyPost_ret (results_tmp2 rfl _ _ _) rfl ?_
    exact ⟨by rw [HL.out]; rfl, HB9.out⟩
theorem num27 (n : Int) (w : World) : Calls Tryz.prog 8 #[.int .i64 n] w fun e w' => e = .returned (.int .i64 n) ∧ w = w' := by
 go_enter Tryz.func8, Tryz.ntmps8
 go_wp2_with fail
 go_ret
 exact ⟨rfl, rfl⟩
theorem maxlen_below {w w' : World} (h : ∃ m, w.cell? ⟨0, 0, none⟩ = some (.int .i64 m)) (hb : Below w.heap.size w w') : ∃ m, w'.cell? ⟨0, 0, none⟩ = some (.int .i64 m) := by
 obtain ⟨m, hm⟩ := h
 exact ⟨m, (hb.cell (p := ⟨0, 0, none⟩) (World.block_lt_of_cell? w ⟨0, 0, none⟩ hm)).trans hm⟩
set_option maxRecDepth 100000 in
set_option maxHeartbeats 4000000 in
theorem awake27 (w : World) (hT : Tab w) (hM : ∃ m, w.cell? ⟨0, 0, none⟩ = some (.int .i64 m)) :
  Calls Tryz.prog 9 #[] w fun e w' => e = .returned (.bool true) ∧ Below w.heap.size w w' := by
 have hrun := run_any awakeS w (by decide) hT hM
 rw [con_awake] at hrun
 have HR := Lib.hid hrun
 clear hrun hT hM
 go_enter Tryz.func9, Tryz.ntmps9
 go_wp2_with fail
 refine HR.out.mono ?_
 rintro e1 w1 ⟨rfl, hb1⟩
 have HB1 := Lib.hid hb1
 clear hb1
 rw [show txt [48, 10, 48, 32, 48, 10, 48, 32, 50, 10, 48, 32, 54, 57, 10, 48, 32, 97, 10, 101, 114, 114, 111, 114, 32, 50, 55, 48, 48, 10, 48, 32, 100, 105, 114, 10, 48, 32, 49, 10, 50, 32, 51, 49, 52, 10] = ⟨#[48, 10, 48, 32, 48, 10, 48, 32, 50, 10, 48, 32, 54, 57, 10, 48, 32, 97, 10, 101, 114, 114, 111, 114, 32, 50, 55, 48, 48, 10, 48, 32, 100, 105, 114, 10, 48, 32, 49, 10, 50, 32, 51, 49, 52, 10]⟩ from rfl]
 go_wp2_with fail
 refine (num27 0 w1).mono ?_
 rintro e2 w2 ⟨rfl, rfl⟩
 go_wp2_with fail
 go_ret
 exact ⟨rfl, HB1.out⟩
end Go.Proofs.YtilkhmhgjbhfnaaGreatDoor
