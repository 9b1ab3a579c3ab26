/- Parts of the proof, side by side: ShDSame, Lend. -/
import Derived.Test.YthhceopnnappgaaGreatDoorShDOf
import Derived.Test.YthhceopnnappgaaGreatDoorM37
import Derived.Test.YthhceopnnappgaaGreatDoorFsCopy
import Derived.Test.YthhceopnnappgaaGreatDoorM29
set_option linter.unusedVariables false
set_option linter.unusedSimpArgs false
namespace Go.Proofs.YthhceopnnappgaaGreatDoor
open Go.RowKit
set_option maxRecDepth 100000 in
set_option maxHeartbeats 4000000 in
theorem dsame_any (u v : Value) (s t : St) (w : World) (hs : StAt none w u s) (ht : StAt none w v t) :
  Calls Tryz.prog 13 #[u, v] w fun e w' => e = .returned (.bool (sameO s t)) ∧ Below w.heap.size w w' := by
 obtain ⟨A, n, c, B, m, d, D, k, e, rfl⟩ : ∃ A n c B m d D k e, u = .agg #[.slice A n c, .slice B m d, .slice D k e] := by
  obtain ⟨⟨A, n, c, B, m, d, D, k, e, hv, _⟩, _⟩ := hs
  exact ⟨A, n, c, B, m, d, D, k, e, hv⟩
 obtain ⟨A', n', c', B', m', d', D', k', e', rfl⟩ : ∃ A n c B m d D k e, v = .agg #[.slice A n c, .slice B m d, .slice D k e] := by
  obtain ⟨⟨A, n, c, B, m, d, D, k, e, hv, _⟩, _⟩ := ht
  exact ⟨A, n, c, B, m, d, D, k, e, hv⟩
 obtain ⟨W0, hW0, a0, a1, a2, hal0, hlt0⟩ := box_st w A n c B m d D k e
 obtain ⟨W, hW, b0, b1, b2, hal1, hlt1⟩ := box_st W0 A' n' c' B' m' d' D' k' e'
 have hal : Below w.heap.size w W := Cv.next hal0 hal1
 have x0 := (hal1.cell (p := ⟨w.heap.size, 0, none⟩) hlt0).trans a0
 have x1 := (hal1.cell (p := ⟨w.heap.size, 1, none⟩) hlt0).trans a1
 have x2 := (hal1.cell (p := ⟨w.heap.size, 2, none⟩) hlt0).trans a2
 obtain ⟨XS, hXS⟩ : ∃ X, txt (ofO s) = X := ⟨_, rfl⟩
 obtain ⟨XT, hXT⟩ : ∃ X, txt (ofO t) = X := ⟨_, rfl⟩
 obtain ⟨CS, hCS⟩ : ∃ C, codeO s = C := ⟨_, rfl⟩
 obtain ⟨CT, hCT⟩ : ∃ C, codeO t = C := ⟨_, rfl⟩
 have h1 := dof_any _ s W (hs.below hal)
 rw [hXS, hCS] at h1
 have h2 : ∀ w5, Below W.heap.size W w5 → Calls Tryz.prog 8 #[.agg #[.slice A' n' c', .slice B' m' d', .slice D' k' e']] w5 fun e w' => e = .returned (.tuple #[.string XT, .int .i64 CT]) ∧ Below w5.heap.size w5 w' := fun w5 h5 => by
  rw [← hXT, ← hCT]
  exact dof_any _ t w5 ((ht.below hal).below h5)
 have H1 := Lib.hid h1
 have H2 := Lib.hid h2
 have HAL := Lib.hid hal
 have fin : sameO s t = (decide (CS = 0) && decide (CT = 0) && (XS.toList == XT.toList)) := by
  rw [← hXS, ← hXT, ← hCS, ← hCT, ByteArray.toList_eq, ByteArray.toList_eq, txt_listSh, txt_listSh]
  unfold sameO codeO ofO
  cases mayV s <;> cases mayV t <;> simp
 have HFIN := Lib.hid fin
 have HB0 := Lib.hid (And.intro b0 (And.intro b1 b2))
 clear hs ht h1 h2 hal hal0 hal1 hXS hXT hCS hCT fin a0 a1 a2
 go_enter Tryz.func13, Tryz.ntmps13
 go_wp2_with fail
 refine H1.out.mono ?_
 rintro e5 w5 ⟨rfl, hb5⟩
 have y0 := (hb5.cell (p := ⟨W0.heap.size, 0, none⟩) hlt1).trans HB0.out.1
 have y1 := (hb5.cell (p := ⟨W0.heap.size, 1, none⟩) hlt1).trans HB0.out.2.1
 have y2 := (hb5.cell (p := ⟨W0.heap.size, 2, none⟩) hlt1).trans HB0.out.2.2
 have HB5 := Lib.hid hb5
 clear hb5 b0 b1 b2 x0 x1 x2
 go_wp2_with fail
 refine (H2.out w5 HB5.out).mono ?_
 rintro e6 w6 ⟨rfl, hb6⟩
 have HB6 := Lib.hid ((HAL.out.trans (HB5.out.mono HAL.out.size)).trans (hb6.mono (HAL.out.trans (HB5.out.mono HAL.out.size)).size))
 clear hb6 y0 y1 y2
 obtain ⟨bs, hbs⟩ : ∃ b, decide (CS = 0) = b := ⟨_, rfl⟩
 obtain ⟨bt, hbt⟩ : ∃ b, decide (CT = 0) = b := ⟨_, rfl⟩
 have hfin := HFIN.out
 rw [hbs, hbt] at hfin
 have HF := Lib.hid hfin
 clear hfin
 cases bs
 ·have q1 : (CS == 0) = false := by rw [beq_eq_false_iff_ne]; exact of_decide_eq_false hbs
  clear hbs hbt
  go_wp2_with fail
  go_ret
  exact ⟨by rw [HF.out]; rfl, HB6.out⟩
 ·have q1 : (CS == 0) = true := by rw [beq_iff_eq]; exact of_decide_eq_true hbs
  cases bt
  ·have q2 : (CT == 0) = false := by rw [beq_eq_false_iff_ne]; exact of_decide_eq_false hbt
   clear hbs hbt
   go_wp2_with fail
   go_ret
   exact ⟨by rw [HF.out]; rfl, HB6.out⟩
  ·have q2 : (CT == 0) = true := by rw [beq_iff_eq]; exact of_decide_eq_true hbt
   clear hbs hbt
   go_wp2_with fail
   go_ret
   exact ⟨by rw [HF.out]; rfl, HB6.out⟩
end Go.Proofs.YthhceopnnappgaaGreatDoor
namespace Go.Proofs.YthhceopnnappgaaGreatDoor
open Go.RowKit
def Lent (lo : Nat) (w : World) (e : TypeId) (k : Nat) (A : Option Addr) (n c : Nat) (xs ms : List Value) : Prop :=
 ∃ g cur, A = some ⟨g, 0, none⟩ ∧ lo ≤ g ∧ w.heap[g]? = some (.cells cur e (0, 0)) ∧ n + 2 ≤ c ∧ c ≤ maxLen ∧ cur.size = c * k ∧ xs.length = n * k ∧ cur.toList.take ((n + 2) * k) = xs ++ ms
theorem Lent.below {lo : Nat} {w w' : World} {e : TypeId} {k : Nat} {A : Option Addr} {n c : Nat} {xs ms : List Value} (h : Lent lo w e k A n c xs ms) (hb : Below w.heap.size w w') : Lent lo w' e k A n c xs ms := by
 obtain ⟨g, cur, h1, h2, h3, h4⟩ := h
 exact ⟨g, cur, h1, h2, (hb.block g (Array.getElem?_eq_some_iff.1 h3).1).trans h3, h4⟩
theorem Lent.keep {lo : Nat} {w w' : World} {e : TypeId} {k : Nat} {A : Option Addr} {n c : Nat} {xs ms : List Value} (h : Lent lo w e k A n c xs ms) (hk : KeepT e w w') : Lent lo w' e k A n c xs ms := by
 obtain ⟨g, cur, h1, h2, h3, h4⟩ := h
 exact ⟨g, cur, h1, h2, (hk.same g cur h3).trans h3, h4⟩
theorem Lent.lower {lo lo' : Nat} {w : World} {e : TypeId} {k : Nat} {A : Option Addr} {n c : Nat} {xs ms : List Value} (h : Lent lo w e k A n c xs ms) (hl : lo' ≤ lo) : Lent lo' w e k A n c xs ms := by
 obtain ⟨g, cur, h1, h2, h4⟩ := h
 exact ⟨g, cur, h1, Nat.le_trans hl h2, h4⟩
theorem Lent.cell {lo : Nat} {w : World} {e : TypeId} {k : Nat} {A : Option Addr} {n c : Nat} {xs ms : List Value} (h : Lent lo w e k A n c xs ms) : ∃ g, A = some ⟨g, 0, none⟩ ∧ g < w.heap.size ∧ ∀ j u, (xs ++ ms)[j]? = some u → w.cell? ⟨g, j, none⟩ = some u := by
 obtain ⟨g, cur, h1, h2, h3, h4, h5, h6, h7, h8⟩ := h
 refine ⟨g, h1, (Array.getElem?_eq_some_iff.1 h3).1, fun j u hj => ?_⟩
 rw [← h8, List.getElem?_take] at hj
 split at hj
 ·rw [cell_of_row w g j _ _ (0, 0) h3]
  simpa using hj
 ·cases hj
theorem Lent.of_row {B : Nat} {w : World} {e : TypeId} {k : Nat} {v : Value} {n : Nat} {xs ms : List Value} (h : w.ownsRow B e k v (n + 2) (xs ++ ms)) (hx : xs.length = n * k) : ∃ g c, v = .slice (some ⟨g, 0, none⟩) (n + 2) c ∧ n + 2 ≤ c ∧ c ≤ maxLen ∧ Lent B w e k (some ⟨g, 0, none⟩) n c xs ms := by
 rcases h.2 with ⟨_, h0⟩ | ⟨g, cap, cur, rfl, hb, hg, hn, hm, hs, ht⟩
 ·omega
 ·exact ⟨g, cap, rfl, hn, hm, g, cur, rfl, hb, hg, hn, hm, hs, hx, ht⟩
theorem Lent.row {lo : Nat} {w : World} {e : TypeId} {k : Nat} {A : Option Addr} {n c : Nat} {xs ms : List Value} (h : Lent lo w e k A n c xs ms) : w.ownsRow lo e k (.slice A n c) n xs := by
 obtain ⟨g, cur, rfl, h2, h3, h4, h5, h6, h7, h8⟩ := h
 refine ⟨h7, .inr ⟨g, c, cur, rfl, h2, h3, by omega, h5, h6, ?_⟩⟩
 have h9 := congrArg (List.take (n * k)) h8
 rw [List.take_take, Nat.min_eq_left (Nat.mul_le_mul_right _ (by omega)), ← h7, List.take_left] at h9
 rw [← h7]
 exact h9
set_option maxRecDepth 100000 in
set_option maxHeartbeats 2000000 in
theorem copyents_any (A : Option Addr) (n c : Nat) (es : List En) (w : World) (h : EntsAt none w A n es) (hok : SlOk A n c) (hn : n ≤ 1099511627776) :
  Calls Tryz.prog 47 #[.slice A n c] w fun e w' => ∃ v', e = .returned v' ∧ w'.ownsRow w.heap.size 84 2 v' n (es.flatMap enV) ∧ Below w.heap.size w w' := by
 have hal : Below w.heap.size w (w.alloc (.cells #[] 84)) := (Below.refl _ _).alloc (Nat.le_refl _) _
 have HF := Lib.hid ((h.below hal).flat hok)
 have HRE := Lib.hid (row_empty w w.heap.size 84 2 (Nat.le_refl _))
 have HAL := Lib.hid hal
 clear h hal
 go_enter Tryz.func47, Tryz.ntmps47
 go_wp2_with (at_builtin; refine wpList_append_flat rfl _ _ 50 84 (.agg #[.string ⟨#[]⟩, .int .i64 0]) 2 24 rfl Tryz.underlying50 infoEnt rfl (by decide) w.heap.size _ 0 [] rfl HRE.out A n c (es.flatMap enV) rfl HF.out.1 HF.out.2.1 HF.out.2.2 (enV_one _) ?h63 ?hb ?hB ?_)
 case h63 => unfold maxLen; omega
 case hb => omega
 case hB => simp
 intro v' w' hown hgr
 have hb' : Below w.heap.size w w' := HAL.out.grown hgr (by simp) (fun k hk => by simp [Value.ownBlock] at hk; omega)
 have HO : Hid (w'.ownsRow w.heap.size 84 2 v' n (es.flatMap enV)) := Lib.hid (by simpa using hown)
 have HB := Lib.hid hb'
 clear hown hgr hb'
 go_wp2_with fail
 go_ret
 exact ⟨_, rfl, HO.out, HB.out⟩
set_option maxRecDepth 100000 in
set_option maxHeartbeats 2000000 in
theorem lendents_any (A : Option Addr) (n c : Nat) (es : List En) (w : World) (h : EntsAt none w A n es) (hok : SlOk A n c) (hn : n ≤ 1099511627776) :
  Calls Tryz.prog 22 #[.slice A n c] w fun e w' => ∃ g c', e = .returned (.slice (some ⟨g, 0, none⟩) n c') ∧ Lent w.heap.size w' 84 2 (some ⟨g, 0, none⟩) n c' (es.flatMap enV) [.string ⟨#[126]⟩, .int .i64 0, .string ⟨#[126]⟩, .int .i64 0] ∧ Below w.heap.size w w' := by
 have hfl := (h.flat hok).1
 have HFL := Lib.hid hfl
 go_enter Tryz.func22, Tryz.ntmps22
 go_wp2_with fail
 refine (copyents_any A n c es w h hok hn).mono ?_
 rintro e1 w1 ⟨v1, rfl, hown1, hb1⟩
 obtain ⟨ii, hi, hz0, hz1, hz2⟩ := info_parts infoEnt
 have HR := Lib.hid hown1
 have HB1 := Lib.hid hb1
 have hs1 := hb1.size
 clear h hok hown1 hb1 hfl
 go_wp2_with (at_builtin; refine wpList_append_own _ rfl _ _ 50 rfl w.heap.size 84 ii (.agg #[.string ⟨#[]⟩, .int .i64 0]) 2 24 Tryz.underlying50 hi hz0 hz1 hz2 rfl (by decide) _ n _ rfl (HR.out.alloc _) ⟨w1.heap.size, 0, .none⟩ 2 2 [.string ⟨#[126]⟩, .int .i64 0, .string ⟨#[126]⟩, .int .i64 0] rfl rfl (new_four w1 [.string ⟨#[126]⟩, .int .i64 0, .string ⟨#[126]⟩, .int .i64 0] _) ?ca2 ?ca3 ?ca4 ?ca5 ?_)
 case ca2 => intro u hu; simp at hu; rcases hu with rfl | rfl | rfl | rfl <;> rfl
 case ca3 => unfold maxLen; omega
 case ca4 => omega
 case ca5 => first | omega | (simp; omega)
 intro v2 w2 hown2 hgr2 _
 obtain ⟨g, cap, rfl, hnc, hcm, hlent⟩ := Lent.of_row hown2 HFL.out
 have hb2 : Below w.heap.size w w2 := (HB1.out.alloc hs1 _).grown hgr2 (by simp; omega) (fun k hk => (HR.out.lt k hk).1)
 have HL := Lib.hid hlent
 have HB2 := Lib.hid hb2
 have hncI : (n : Int) ≤ (cap : Int) := by omega
 have hnc2 : n ≤ cap := by omega
 clear hown2 hgr2 hlent hb2
 go_wp2_with fail
 go_ret
 exact ⟨g, cap, rfl, HL.out, HB2.out⟩
set_option maxRecDepth 100000 in
set_option maxHeartbeats 2000000 in
theorem copydescs_any (A : Option Addr) (n c : Nat) (es : List Ds) (w : World) (h : DescsAt none w A n es) (hok : SlOk A n c) (hn : n ≤ 1099511627776) :
  Calls Tryz.prog 45 #[.slice A n c] w fun e w' => ∃ v', e = .returned v' ∧ w'.ownsRow w.heap.size 67 3 v' n (es.flatMap dsV) ∧ Below w.heap.size w w' := by
 have hal : Below w.heap.size w (w.alloc (.cells #[] 67)) := (Below.refl _ _).alloc (Nat.le_refl _) _
 have HF := Lib.hid ((h.below hal).flat hok)
 have HRE := Lib.hid (row_empty w w.heap.size 67 3 (Nat.le_refl _))
 have HAL := Lib.hid hal
 clear h hal
 go_enter Tryz.func45, Tryz.ntmps45
 go_wp2_with (at_builtin; refine wpList_append_flat rfl _ _ 23 67 (.agg #[.int .i64 0, .int .i64 0, .int .i64 0]) 3 24 rfl Tryz.underlying23 infoDs rfl (by decide) w.heap.size _ 0 [] rfl HRE.out A n c (es.flatMap dsV) rfl HF.out.1 HF.out.2.1 HF.out.2.2 (dsV_one _) ?h63 ?hb ?hB ?_)
 case h63 => unfold maxLen; omega
 case hb => omega
 case hB => simp
 intro v' w' hown hgr
 have hb' : Below w.heap.size w w' := HAL.out.grown hgr (by simp) (fun k hk => by simp [Value.ownBlock] at hk; omega)
 have HO : Hid (w'.ownsRow w.heap.size 67 3 v' n (es.flatMap dsV)) := Lib.hid (by simpa using hown)
 have HB := Lib.hid hb'
 clear hown hgr hb'
 go_wp2_with fail
 go_ret
 exact ⟨_, rfl, HO.out, HB.out⟩
set_option maxRecDepth 100000 in
set_option maxHeartbeats 2000000 in
theorem lenddescs_any (A : Option Addr) (n c : Nat) (es : List Ds) (w : World) (h : DescsAt none w A n es) (hok : SlOk A n c) (hn : n ≤ 1099511627776) :
  Calls Tryz.prog 20 #[.slice A n c] w fun e w' => ∃ g c', e = .returned (.slice (some ⟨g, 0, none⟩) n c') ∧ Lent w.heap.size w' 67 3 (some ⟨g, 0, none⟩) n c' (es.flatMap dsV) [.int .i64 77777, .int .i64 0, .int .i64 0, .int .i64 77777, .int .i64 0, .int .i64 0] ∧ Below w.heap.size w w' := by
 have hfl := (h.flat hok).1
 have HFL := Lib.hid hfl
 go_enter Tryz.func20, Tryz.ntmps20
 go_wp2_with fail
 refine (copydescs_any A n c es w h hok hn).mono ?_
 rintro e1 w1 ⟨v1, rfl, hown1, hb1⟩
 obtain ⟨ii, hi, hz0, hz1, hz2⟩ := info_parts infoDs
 have HR := Lib.hid hown1
 have HB1 := Lib.hid hb1
 have hs1 := hb1.size
 clear h hok hown1 hb1 hfl
 go_wp2_with (at_builtin; refine wpList_append_own _ rfl _ _ 23 rfl w.heap.size 67 ii (.agg #[.int .i64 0, .int .i64 0, .int .i64 0]) 3 24 Tryz.underlying23 hi hz0 hz1 hz2 rfl (by decide) _ n _ rfl (HR.out.alloc _) ⟨w1.heap.size, 0, .none⟩ 2 2 [.int .i64 77777, .int .i64 0, .int .i64 0, .int .i64 77777, .int .i64 0, .int .i64 0] rfl rfl (new_four w1 [.int .i64 77777, .int .i64 0, .int .i64 0, .int .i64 77777, .int .i64 0, .int .i64 0] _) ?ca2 ?ca3 ?ca4 ?ca5 ?_)
 case ca2 => intro u hu; simp at hu; rcases hu with rfl | rfl | rfl | rfl | rfl | rfl <;> rfl
 case ca3 => unfold maxLen; omega
 case ca4 => omega
 case ca5 => first | omega | (simp; omega)
 intro v2 w2 hown2 hgr2 _
 obtain ⟨g, cap, rfl, hnc, hcm, hlent⟩ := Lent.of_row hown2 HFL.out
 have hb2 : Below w.heap.size w w2 := (HB1.out.alloc hs1 _).grown hgr2 (by simp; omega) (fun k hk => (HR.out.lt k hk).1)
 have HL := Lib.hid hlent
 have HB2 := Lib.hid hb2
 have hncI : (n : Int) ≤ (cap : Int) := by omega
 have hnc2 : n ≤ cap := by omega
 clear hown2 hgr2 hlent hb2
 go_wp2_with fail
 go_ret
 exact ⟨g, cap, rfl, HL.out, HB2.out⟩
set_option maxRecDepth 100000 in
set_option maxHeartbeats 2000000 in
theorem copyints_any (A : Option Addr) (n c : Nat) (es : List Int) (w : World) (h : IntsAt none w A n es) (hok : SlOk A n c) (hn : n ≤ 1099511627776) :
  Calls Tryz.prog 46 #[.slice A n c] w fun e w' => ∃ v', e = .returned v' ∧ w'.ownsRow w.heap.size 3 1 v' n (es.map (Value.int .i64)) ∧ Below w.heap.size w w' := by
 have hal : Below w.heap.size w (w.alloc (.cells #[] 3)) := (Below.refl _ _).alloc (Nat.le_refl _) _
 have HF := Lib.hid ((h.below hal).flat hok)
 have HRE := Lib.hid (row_empty w w.heap.size 3 1 (Nat.le_refl _))
 have HAL := Lib.hid hal
 clear h hal
 go_enter Tryz.func46, Tryz.ntmps46
 go_wp2_with (at_builtin; refine wpList_append_flat rfl _ _ 24 3 (.int .i64 0) 1 8 rfl Tryz.underlying24 infoNum rfl (by decide) w.heap.size _ 0 [] rfl HRE.out A n c (es.map (Value.int .i64)) rfl HF.out.1 HF.out.2.1 HF.out.2.2 (ints_one _) ?h63 ?hb ?hB ?_)
 case h63 => unfold maxLen; omega
 case hb => omega
 case hB => simp
 intro v' w' hown hgr
 have hb' : Below w.heap.size w w' := HAL.out.grown hgr (by simp) (fun k hk => by simp [Value.ownBlock] at hk; omega)
 have HO : Hid (w'.ownsRow w.heap.size 3 1 v' n (es.map (Value.int .i64))) := Lib.hid (by simpa using hown)
 have HB := Lib.hid hb'
 clear hown hgr hb'
 go_wp2_with fail
 go_ret
 exact ⟨_, rfl, HO.out, HB.out⟩
set_option maxRecDepth 100000 in
set_option maxHeartbeats 2000000 in
theorem lendints_any (A : Option Addr) (n c : Nat) (es : List Int) (w : World) (h : IntsAt none w A n es) (hok : SlOk A n c) (hn : n ≤ 1099511627776) :
  Calls Tryz.prog 21 #[.slice A n c] w fun e w' => ∃ g c', e = .returned (.slice (some ⟨g, 0, none⟩) n c') ∧ Lent w.heap.size w' 3 1 (some ⟨g, 0, none⟩) n c' (es.map (Value.int .i64)) [.int .i64 (-7777), .int .i64 (-8888)] ∧ Below w.heap.size w w' := by
 have hfl := (h.flat hok).1
 have HFL := Lib.hid hfl
 go_enter Tryz.func21, Tryz.ntmps21
 go_wp2_with fail
 refine (copyints_any A n c es w h hok hn).mono ?_
 rintro e1 w1 ⟨v1, rfl, hown1, hb1⟩
 obtain ⟨ii, hi, hz0, hz1, hz2⟩ := info_parts infoNum
 have HR := Lib.hid hown1
 have HB1 := Lib.hid hb1
 have hs1 := hb1.size
 clear h hok hown1 hb1 hfl
 go_wp2_with (at_builtin; refine wpList_append_own _ rfl _ _ 24 rfl w.heap.size 3 ii (.int .i64 0) 1 8 Tryz.underlying24 hi hz0 hz1 hz2 rfl (by decide) _ n _ rfl (HR.out.alloc _) ⟨w1.heap.size, 0, .none⟩ 2 2 [.int .i64 (-7777), .int .i64 (-8888)] rfl rfl (new_four w1 [.int .i64 (-7777), .int .i64 (-8888)] _) ?ca2 ?ca3 ?ca4 ?ca5 ?_)
 case ca2 => intro u hu; simp at hu; rcases hu with rfl | rfl <;> rfl
 case ca3 => unfold maxLen; omega
 case ca4 => omega
 case ca5 => first | omega | (simp; omega)
 intro v2 w2 hown2 hgr2 _
 obtain ⟨g, cap, rfl, hnc, hcm, hlent⟩ := Lent.of_row hown2 HFL.out
 have hb2 : Below w.heap.size w w2 := (HB1.out.alloc hs1 _).grown hgr2 (by simp; omega) (fun k hk => (HR.out.lt k hk).1)
 have HL := Lib.hid hlent
 have HB2 := Lib.hid hb2
 have hncI : (n : Int) ≤ (cap : Int) := by omega
 have hnc2 : n ≤ cap := by omega
 clear hown2 hgr2 hlent hb2
 go_wp2_with fail
 go_ret
 exact ⟨g, cap, rfl, HL.out, HB2.out⟩
end Go.Proofs.YthhceopnnappgaaGreatDoor
