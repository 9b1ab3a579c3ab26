/- Parts of the proof, side by side: MoRunAll, LaClone, MoCloneR. -/
import Derived.Test.YtndcloohcfhejaaM22
import Derived.Test.YtndcloohcfhejaaMoClose
import Derived.Test.YtndcloohcfhejaaMoCreate
import Derived.Test.YtndcloohcfhejaaMoOpenD
import Derived.Test.YtndcloohcfhejaaM32
import Derived.Test.YtndcloohcfhejaaM33
import Derived.Test.YtndcloohcfhejaaM34
import Derived.Test.YtndcloohcfhejaaM35
import Derived.Test.YtndcloohcfhejaaM36
import Derived.Test.YtndcloohcfhejaaM05
import Derived.Test.YtndcloohcfhejaaM14
set_option linter.unusedVariables false
set_option linter.unusedSimpArgs false
namespace Go.Proofs.Ytndcloohcfhejaa
open Go.RowKit
theorem make1V_fail (s : St) (c : Ca) (h : (make1V s c).2.code ≠ 0) : make1V s c = (s, { code := (make1V s c).2.code }) := by
 unfold make1V at h ⊢
 split
 ·rfl
 ·split
  ·rfl
  ·split
   ·rfl
   ·rename_i h1 h2 h3
    rw [if_neg h1, if_neg h2, if_neg h3] at h
    exact absurd rfl h
theorem openedV_fail (s : St) (c : Ca) (want : Int) (h : (openedV s c want).2.1.code ≠ 0) : ((openedV s c want).1, (openedV s c want).2.1) = (s, { code := (openedV s c want).2.1.code }) := by
 unfold openedV at h ⊢
 split
 ·rfl
 ·rename_i h1
  rw [if_neg h1] at h
  split
  ·rfl
  ·rename_i h2
   rw [if_neg h2] at h
   split
   ·rfl
   ·rename_i h3
    rw [if_neg h3] at h
    split
    ·rename_i h4
     rw [if_pos h4] at h
     split
     ·rename_i h5
      rw [if_pos h5] at h
      all_goals exact absurd rfl h
     ·rename_i h5
      rw [if_neg h5] at h
      all_goals exact absurd rfl h
    ·rename_i h4
     rw [if_neg h4] at h
     exact absurd rfl h
theorem byFdV_fail (s : St) (c : Ca) (h : (byFdV s c).2.code ≠ 0) : byFdV s c = (s, { code := (byFdV s c).2.code }) := by
 obtain ⟨R, hR⟩ : ∃ R, byFdV s c = R := ⟨_, rfl⟩
 rw [hR] at h ⊢
 unfold byFdV at hR
 repeat' (first | (subst hR; first | rfl | exact absurd rfl h) | split at hR)
theorem linkV_fail (s : St) (c : Ca) (h : (linkV s c).2.code ≠ 0) : linkV s c = (s, { code := (linkV s c).2.code }) := by
 obtain ⟨R, hR⟩ : ∃ R, linkV s c = R := ⟨_, rfl⟩
 rw [hR] at h ⊢
 unfold linkV at hR
 repeat' (first | (subst hR; first | rfl | exact absurd rfl h) | split at hR)
theorem renameV_fail (s : St) (c : Ca) (dir : Int) (name : ByteArray) (num : Int) (h : (renameV s c dir name num).2.code ≠ 0) : renameV s c dir name num = (s, { code := (renameV s c dir name num).2.code }) := by
 obtain ⟨R, hR⟩ : ∃ R, renameV s c dir name num = R := ⟨_, rfl⟩
 rw [hR] at h ⊢
 unfold renameV at hR
 obtain ⟨but, hb⟩ : ∃ but, (if (parentV s.inos c.path2).1 = dir then name else txt []) = but := ⟨_, rfl⟩
 rw [hb] at hR
 repeat' (first | (subst hR; first | rfl | exact absurd rfl h) | split at hR)
theorem namesV_fail (s : St) (c : Ca) (h : (namesV s c).2.code ≠ 0) : namesV s c = (s, { code := (namesV s c).2.code }) := by
 obtain ⟨R, hR⟩ : ∃ R, namesV s c = R := ⟨_, rfl⟩
 rw [hR] at h ⊢
 unfold namesV at hR
 split at hR
 ·subst hR; exact linkV_fail s c h
 ·split at hR
  ·subst hR; rfl
  ·split at hR
   ·subst hR; rfl
   ·split at hR
    ·subst hR; exact renameV_fail s c _ _ _ h
    ·repeat' (first | (subst hR; first | rfl | exact absurd rfl h) | split at hR)
theorem looksV_fail (s : St) (c : Ca) (h : (looksV s c).code ≠ 0) : looksV s c = { code := (looksV s c).code } := by
 obtain ⟨R, hR⟩ : ∃ R, looksV s c = R := ⟨_, rfl⟩
 rw [hR] at h ⊢
 unfold looksV at hR
 repeat' (first | (subst hR; first | rfl | exact absurd rfl h) | split at hR)
theorem doF_fail (s : St) (c : Ca) (want : Int) (h : (doF s c want).2.1.code ≠ 0) : ((doF s c want).1, (doF s c want).2.1) = (s, { code := (doF s c want).2.1.code }) := by
 unfold doF at h ⊢
 split
 ·rfl
 ·rename_i h1
  rw [if_neg h1] at h
  split
  ·rename_i h2
   rw [if_pos h2] at h
   exact make1V_fail s c h
  ·rename_i h2
   rw [if_neg h2] at h
   split
   ·rename_i h3
    rw [if_pos h3] at h
    exact openedV_fail s c want h
   ·rename_i h3
    rw [if_neg h3] at h
    split
    ·rename_i h4
     rw [if_pos h4] at h
     exact byFdV_fail s c h
    ·rename_i h4
     rw [if_neg h4] at h
     split
     ·rename_i h5
      rw [if_pos h5] at h
      exact namesV_fail s c h
     ·rename_i h5
      rw [if_neg h5] at h
      split
      ·rename_i h6
       rw [if_pos h6] at h
       have := looksV_fail s c h
       exact congrArg (fun r => (s, r)) this
      ·rename_i h6
       rw [if_neg h6] at h
       all_goals exact absurd rfl h
theorem doV_fail (s : St) (c : Ca) (h : (doV s c).2.code ≠ 0) : doV s c = (s, { code := (doV s c).2.code }) := doF_fail s c (-1) h
theorem namesV_link (s : St) (c : Ca) (hk : c.kind = 8) : namesV s c = linkV s c := by unfold namesV; rw [if_pos hk]
theorem mrun_all (B q p : Nat) (s : St) (c : Ca) (zs : List (Ino × Value)) (vI vO vM : Value) (w : World) (hN : Now B q p s c zs vI vO vM w w) (hg : Good s) (hp1 : c.path.size ≤ 140737488355328) (hp2 : c.path2.size ≤ 140737488355328) (hds : c.data.size ≤ 140737488355328)
  (hk0 : 0 ≤ c.kind) (hk1 : c.kind ≤ 16) (hc0 : 0 ≤ c.core) (hc1 : c.core < (s.made.length : Int)) :
  Calls Try.prog 17 #[.pointer (some ⟨q, 0, .none⟩)] w (Ran B q p c (doV s c) w) := by
 have hm := (good_iff s).2 hg
 have h0 : ¬ (mayV s = false ∨ c.core < 0 ∨ (s.made.length : Int) ≤ c.core ∨ c.kind < 0 ∨ 16 < c.kind) := by
  rw [hm]
  simp
  omega
 have hdo : doV s c = if c.kind ≤ 1 then make1V s c else if c.kind = 2 then ((openedV s c (-1)).1, (openedV s c (-1)).2.1) else if c.kind ≤ 7 ∨ c.kind = 15 then byFdV s c else if c.kind ≤ 11 then namesV s c else if c.kind ≤ 14 then (s, looksV s c) else (s, {}) := by
  unfold doV doF
  rw [if_neg h0]
  repeat' (first | rfl | split)
 have hkk : c.kind = 0 ∨ c.kind = 1 ∨ c.kind = 2 ∨ c.kind = 3 ∨ c.kind = 4 ∨ c.kind = 5 ∨ c.kind = 6 ∨ c.kind = 7 ∨ c.kind = 8 ∨ c.kind = 9 ∨ c.kind = 10 ∨ c.kind = 11 ∨ c.kind = 12 ∨ c.kind = 13 ∨ c.kind = 14 ∨ c.kind = 15 ∨ c.kind = 16 := by omega
 have hco : c.core = ((c.core.toNat : Nat) : Int) := by omega
 rcases hkk with hk | hk | hk | hk | hk | hk | hk | hk | hk | hk | hk | hk | hk | hk | hk | hk | hk
 ·rw [hdo, if_pos (by omega)]
  exact mrun_0 B q p s c zs vI vO vM _ w hN hk (mcreate_any B q p s c c.core.toNat zs vI vO vM w hN hg hp1 hco (by omega) (.inl hk))
 ·rw [hdo, if_pos (by omega)]
  exact mrun_1 B q p s c zs vI vO vM _ w hN hk (mcreate_any B q p s c c.core.toNat zs vI vO vM w hN hg hp1 hco (by omega) (.inr hk))
 ·rw [hdo, if_neg (by omega), if_pos hk]
  exact mrun_2 B q p s c zs vI vO vM _ w hN hk (mopen_any B q p s c zs vI vO vM w hN hg hp1)
 ·rw [hdo, if_neg (by omega), if_neg (by omega), if_pos (by omega)]
  exact mrun_3 B q p s c zs vI vO vM w hN hg hk
 ·rw [hdo, if_neg (by omega), if_neg (by omega), if_pos (by omega)]
  exact mrun_4 B q p s c zs vI vO vM _ w hN hk (mread_any B q p s c zs vI vO vM w hN hg hk)
 ·rw [hdo, if_neg (by omega), if_neg (by omega), if_pos (by omega)]
  exact mrun_5 B q p s c zs vI vO vM _ w hN hk (mwrite_any B q p s c zs vI vO vM w hN hg hk hds)
 ·rw [hdo, if_neg (by omega), if_neg (by omega), if_pos (by omega)]
  exact mrun_6 B q p s c zs vI vO vM _ w hN hk (mtrunc_any B q p s c zs vI vO vM w hN hg hk)
 ·rw [hdo, if_neg (by omega), if_neg (by omega), if_pos (by omega)]
  exact mrun_7 B q p s c zs vI vO vM _ w hN hk (msize_any B q p s c zs vI vO vM w hN hg hk)
 ·rw [hdo, if_neg (by omega), if_neg (by omega), if_neg (by omega), if_pos (by omega), namesV_link s c hk]
  exact mrun_8 B q p s c zs vI vO vM _ w hN hk (mlink_any B q p s c zs vI vO vM w hN hg hp1 hp2)
 ·rw [hdo, if_neg (by omega), if_neg (by omega), if_neg (by omega), if_pos (by omega), namesV_remove s c (.inl hk)]
  exact mrun_9 B q p s c zs vI vO vM _ w hN hk (mremove_any B q p s c zs vI vO vM w hN hg hp1 (.inl hk))
 ·rw [hdo, if_neg (by omega), if_neg (by omega), if_neg (by omega), if_pos (by omega), namesV_remove s c (.inr hk)]
  exact mrun_10 B q p s c zs vI vO vM _ w hN hk (mremove_any B q p s c zs vI vO vM w hN hg hp1 (.inr hk))
 ·rw [hdo, if_neg (by omega), if_neg (by omega), if_neg (by omega), if_pos (by omega), namesV_rename s c hk]
  exact mrun_11 B q p s c zs vI vO vM _ w hN hk (mrename_any B q p s c zs vI vO vM w hN hg hp1 hp2 hk)
 ·rw [hdo, if_neg (by omega), if_neg (by omega), if_neg (by omega), if_neg (by omega), if_pos (by omega)]
  exact mrun_12 B q p s c zs vI vO vM _ w hN hk (mlist_any B q p s c zs vI vO vM w hN hg hp1 hk)
 ·rw [hdo, if_neg (by omega), if_neg (by omega), if_neg (by omega), if_neg (by omega), if_pos (by omega)]
  exact mrun_13 B q p s c zs vI vO vM _ w hN hk (mstat_any B q p s c zs vI vO vM w hN hg hp1 hk)
 ·rw [hdo, if_neg (by omega), if_neg (by omega), if_neg (by omega), if_neg (by omega), if_pos (by omega)]
  exact mrun_14 B q p s c zs vI vO vM _ w hN hk (mlinksof_any B q p s c zs vI vO vM w hN hg hp1 hk)
 ·rw [hdo, if_neg (by omega), if_neg (by omega), if_pos (by omega)]
  exact mrun_15 B q p s c zs vI vO vM w hN hg hk
 ·rw [hdo, if_neg (by omega), if_neg (by omega), if_neg (by omega), if_neg (by omega), if_neg (by omega)]
  exact mrun_16 B q p s c zs vI vO vM w hN hk
theorem eql_slice_nil {P : Program} (t e : TypeId) (h : P.underlying t = some (.slice e)) (a : Option Addr) (l c : Nat) (w : World) : (binOp .eql t (.slice a l c) (.slice .none 0 0)).run P w = .ok (.bool a.isNone) w := by
 simp only [binOp]
 simp [run_equal_slice_nil w t e a l c h]
theorem InosAt.zs {w : World} {g off n : Nat} {is : List Ino} (h : InosAt none w (some ⟨g, off, none⟩) n is) (hn : 0 < n) :
  ∃ zs : List (Ino × Value), zs.map Prod.fst = is ∧ (∀ z ∈ zs, ∃ A m c, z.2 = .slice A m c ∧ SlOk A m c ∧ EntsAt none w A m z.1.ents) ∧ ∀ j u, (zs.flatMap inoV)[j]? = some u → w.cell? ((⟨g, off, none⟩ : Addr).add j) = some u := by
 obtain ⟨g', off', hA, hg, _, hc⟩ := h.2 hn
 injection hA with hA
 injection hA with e1 e2
 subst e1 e2
 obtain ⟨zs, hzs⟩ : ∃ zs : List (Ino × Value), zs = is.mapIdx (fun j x => (x, (w.cell? ⟨g, off + j * 4 + 2, none⟩).getD (.bool false))) := ⟨_, rfl⟩
 have hget : ∀ j z, zs[j]? = some z → ∃ x, is[j]? = some x ∧ z = (x, (w.cell? ⟨g, off + j * 4 + 2, none⟩).getD (.bool false)) := by
  intro j z hz
  rw [hzs, List.getElem?_mapIdx] at hz
  obtain ⟨x, hx, he⟩ := Option.map_eq_some_iff.1 hz
  exact ⟨x, hx, he.symm⟩
 refine ⟨zs, ?_, ?_, ?_⟩
 ·apply List.ext_getElem?
  intro j
  rw [hzs, List.getElem?_map, List.getElem?_mapIdx]
  cases is[j]? <;> rfl
 ·intro z hz
  obtain ⟨j, hj⟩ := List.getElem?_of_mem hz
  obtain ⟨x, hx, rfl⟩ := hget j z hj
  obtain ⟨_, _, ⟨B, m, c, h3, h4, h5⟩, _⟩ := hc j x hx
  exact ⟨B, m, c, by simp [h3], h4, h5⟩
 ·refine flat_cells inoV 4 (fun _ => rfl) (by decide) zs (fun j z hz i hi => ?_)
  obtain ⟨x, hx, rfl⟩ := hget j z hz
  obtain ⟨h1, h2, ⟨B, m, c, h3, _, _⟩, h4⟩ := hc j x hx
  rcases i with _ | _ | _ | _ | i
  ·exact h1
  ·exact h2
  ·show w.cell? ⟨g, off + j * 4 + 2, none⟩ = some ((w.cell? ⟨g, off + j * 4 + 2, none⟩).getD (.bool false))
   rw [h3]; rfl
  ·exact h4
  ·omega
theorem inoV_one {w : World} (zs : List (Ino × Value)) (he : ∀ z ∈ zs, ∃ A m c, z.2 = .slice A m c ∧ SlOk A m c ∧ EntsAt none w A m z.1.ents) : ∀ u ∈ zs.flatMap inoV, u.oneCell' = true := by
 intro u hu
 obtain ⟨z, hz, hu2⟩ := List.mem_flatMap.1 hu
 obtain ⟨A, m, c, h1, _⟩ := he z hz
 simp [inoV, h1] at hu2
 rcases hu2 with rfl | rfl | rfl | rfl <;> rfl
set_option maxRecDepth 100000 in
set_option maxHeartbeats 2000000 in
theorem cloneE_row (xs : List Value) (A : Option Addr) (n c : Nat) (w : World) (hok : SlOk A n c) (hl : xs.length = n * 2) (hx : ∀ ad, A = some ad → ∀ j u, xs[j]? = some u → w.cell? (ad.add j) = some u) (h1 : ∀ u ∈ xs, u.oneCell' = true) (hn : n ≤ 1099511627776) :
  Calls Try.prog 34 #[.slice A n c] w fun e w' => ∃ v', e = .returned v' ∧ RowAt w.heap.size w' 75 2 v' n xs ∧ Below w.heap.size w w' := by
 have heq := eql_slice_nil (P := Try.prog) 50 75 Try.underlying50
 rcases A with _ | ad
 ·have hc0 := hok.2 rfl
  have hn0 : n = 0 := by have := hok.1; omega
  subst hn0 hc0
  have hx0 : xs = [] := List.length_eq_zero_iff.1 (by omega)
  subst hx0
  clear hx h1 hl hok
  go_enter Try.func34, Try.ntmps34
  go_wp2_with fail
  go_ret
  exact ⟨_, rfl, ⟨rfl, .inl ⟨none, rfl, rfl⟩⟩, Below.refl _ _⟩
 ·have hal : Below w.heap.size w (w.alloc (.cells #[] 75)) := (Below.refl _ _).alloc (Nat.le_refl _) _
  have hown := row_empty w w.heap.size 75 2 (Nat.le_refl _)
  have hx2 : ∀ ad', some ad = some ad' → ∀ j u, xs[j]? = some u → (w.alloc (.cells #[] 75)).cell? (ad'.add j) = some u := fun ad' he j u hj => by
   have h := hx ad' he j u hj
   exact (hal.cell (World.block_lt_of_cell? _ _ h)).trans h
  have HO := Lib.hid hown
  have HL := Lib.hid hl
  have HX := Lib.hid hx2
  have HAL := Lib.hid hal
  have H1 := Lib.hid h1
  clear hok hl hx hx2 hal hown h1
  go_enter Try.func34, Try.ntmps34
  go_wp2_with (at_builtin; refine wpList_append_flat rfl _ _ 50 75 (.agg #[.string ⟨#[]⟩, .int .i64 0]) 2 24 rfl Try.underlying50 infoEnt rfl (by decide) w.heap.size _ 0 [] rfl HO.out (some ad) n c xs rfl HL.out HX.out (fun e => by cases e) H1.out ?h63 ?hb ?hB ?_)
  case h63 => unfold maxLen; omega
  case hb => omega
  case hB => exact HAL.out.size
  intro v' w2 hown' hgrow
  have hb2 : Below w.heap.size w w2 := HAL.out.grown hgrow HAL.out.size fun x hx => (HO.out.lt x hx).1
  have hown2 : w2.ownsRow w.heap.size 75 2 v' n xs := by simpa using hown'
  have HR := Lib.hid (RowAt.of_own hown2)
  have HB2 := Lib.hid hb2
  clear hown' hown2 hgrow hb2
  go_wp2_with fail
  go_ret
  exact ⟨v', rfl, HR.out, HB2.out⟩
set_option maxRecDepth 100000 in
set_option maxHeartbeats 2000000 in
theorem cloneD_row (xs : List Value) (A : Option Addr) (n c : Nat) (w : World) (hok : SlOk A n c) (hl : xs.length = n * 3) (hx : ∀ ad, A = some ad → ∀ j u, xs[j]? = some u → w.cell? (ad.add j) = some u) (h1 : ∀ u ∈ xs, u.oneCell' = true) (hn : n ≤ 1099511627776) :
  Calls Try.prog 35 #[.slice A n c] w fun e w' => ∃ v', e = .returned v' ∧ RowAt w.heap.size w' 66 3 v' n xs ∧ Below w.heap.size w w' := by
 have heq := eql_slice_nil (P := Try.prog) 24 66 Try.underlying24
 rcases A with _ | ad
 ·have hc0 := hok.2 rfl
  have hn0 : n = 0 := by have := hok.1; omega
  subst hn0 hc0
  have hx0 : xs = [] := List.length_eq_zero_iff.1 (by omega)
  subst hx0
  clear hx h1 hl hok
  go_enter Try.func35, Try.ntmps35
  go_wp2_with fail
  go_ret
  exact ⟨_, rfl, ⟨rfl, .inl ⟨none, rfl, rfl⟩⟩, Below.refl _ _⟩
 ·have hal : Below w.heap.size w (w.alloc (.cells #[] 66)) := (Below.refl _ _).alloc (Nat.le_refl _) _
  have hown := row_empty w w.heap.size 66 3 (Nat.le_refl _)
  have hx2 : ∀ ad', some ad = some ad' → ∀ j u, xs[j]? = some u → (w.alloc (.cells #[] 66)).cell? (ad'.add j) = some u := fun ad' he j u hj => by
   have h := hx ad' he j u hj
   exact (hal.cell (World.block_lt_of_cell? _ _ h)).trans h
  have HO := Lib.hid hown
  have HL := Lib.hid hl
  have HX := Lib.hid hx2
  have HAL := Lib.hid hal
  have H1 := Lib.hid h1
  clear hok hl hx hx2 hal hown h1
  go_enter Try.func35, Try.ntmps35
  go_wp2_with (at_builtin; refine wpList_append_flat rfl _ _ 24 66 (.agg #[.int .i64 0, .int .i64 0, .int .i64 0]) 3 24 rfl Try.underlying24 infoDs rfl (by decide) w.heap.size _ 0 [] rfl HO.out (some ad) n c xs rfl HL.out HX.out (fun e => by cases e) H1.out ?h63 ?hb ?hB ?_)
  case h63 => unfold maxLen; omega
  case hb => omega
  case hB => exact HAL.out.size
  intro v' w2 hown' hgrow
  have hb2 : Below w.heap.size w w2 := HAL.out.grown hgrow HAL.out.size fun x hx => (HO.out.lt x hx).1
  have hown2 : w2.ownsRow w.heap.size 66 3 v' n xs := by simpa using hown'
  have HR := Lib.hid (RowAt.of_own hown2)
  have HB2 := Lib.hid hb2
  clear hown' hown2 hgrow hb2
  go_wp2_with fail
  go_ret
  exact ⟨v', rfl, HR.out, HB2.out⟩
set_option maxRecDepth 100000 in
set_option maxHeartbeats 2000000 in
theorem cloneM_row (xs : List Value) (A : Option Addr) (n c : Nat) (w : World) (hok : SlOk A n c) (hl : xs.length = n * 1) (hx : ∀ ad, A = some ad → ∀ j u, xs[j]? = some u → w.cell? (ad.add j) = some u) (h1 : ∀ u ∈ xs, u.oneCell' = true) (hn : n ≤ 1099511627776) :
  Calls Try.prog 36 #[.slice A n c] w fun e w' => ∃ v', e = .returned v' ∧ RowAt w.heap.size w' 3 1 v' n xs ∧ Below w.heap.size w w' := by
 have heq := eql_slice_nil (P := Try.prog) 25 3 Try.underlying25
 rcases A with _ | ad
 ·have hc0 := hok.2 rfl
  have hn0 : n = 0 := by have := hok.1; omega
  subst hn0 hc0
  have hx0 : xs = [] := List.length_eq_zero_iff.1 (by omega)
  subst hx0
  clear hx h1 hl hok
  go_enter Try.func36, Try.ntmps36
  go_wp2_with fail
  go_ret
  exact ⟨_, rfl, ⟨rfl, .inl ⟨none, rfl, rfl⟩⟩, Below.refl _ _⟩
 ·have hal : Below w.heap.size w (w.alloc (.cells #[] 3)) := (Below.refl _ _).alloc (Nat.le_refl _) _
  have hown := row_empty w w.heap.size 3 1 (Nat.le_refl _)
  have hx2 : ∀ ad', some ad = some ad' → ∀ j u, xs[j]? = some u → (w.alloc (.cells #[] 3)).cell? (ad'.add j) = some u := fun ad' he j u hj => by
   have h := hx ad' he j u hj
   exact (hal.cell (World.block_lt_of_cell? _ _ h)).trans h
  have HO := Lib.hid hown
  have HL := Lib.hid hl
  have HX := Lib.hid hx2
  have HAL := Lib.hid hal
  have H1 := Lib.hid h1
  clear hok hl hx hx2 hal hown h1
  go_enter Try.func36, Try.ntmps36
  go_wp2_with (at_builtin; refine wpList_append_flat rfl _ _ 25 3 (.int .i64 0) 1 8 rfl Try.underlying25 infoNum rfl (by decide) w.heap.size _ 0 [] rfl HO.out (some ad) n c xs rfl HL.out HX.out (fun e => by cases e) H1.out ?h63 ?hb ?hB ?_)
  case h63 => unfold maxLen; omega
  case hb => omega
  case hB => exact HAL.out.size
  intro v' w2 hown' hgrow
  have hb2 : Below w.heap.size w w2 := HAL.out.grown hgrow HAL.out.size fun x hx => (HO.out.lt x hx).1
  have hown2 : w2.ownsRow w.heap.size 3 1 v' n xs := by simpa using hown'
  have HR := Lib.hid (RowAt.of_own hown2)
  have HB2 := Lib.hid hb2
  clear hown' hown2 hgrow hb2
  go_wp2_with fail
  go_ret
  exact ⟨v', rfl, HR.out, HB2.out⟩
set_option maxRecDepth 100000 in
set_option maxHeartbeats 2000000 in
theorem cloneI_row (xs : List Value) (A : Option Addr) (n c : Nat) (w : World) (hok : SlOk A n c) (hl : xs.length = n * 4) (hx : ∀ ad, A = some ad → ∀ j u, xs[j]? = some u → w.cell? (ad.add j) = some u) (h1 : ∀ u ∈ xs, u.oneCell' = true) (hn : n ≤ 1099511627776) :
  Calls Try.prog 33 #[.slice A n c] w fun e w' => ∃ v', e = .returned v' ∧ RowAt w.heap.size w' 52 4 v' n xs ∧ Below w.heap.size w w' := by
 have heq := eql_slice_nil (P := Try.prog) 23 52 Try.underlying23
 rcases A with _ | ad
 ·have hc0 := hok.2 rfl
  have hn0 : n = 0 := by have := hok.1; omega
  subst hn0 hc0
  have hx0 : xs = [] := List.length_eq_zero_iff.1 (by omega)
  subst hx0
  clear hx h1 hl hok
  go_enter Try.func33, Try.ntmps33
  go_wp2_with fail
  go_ret
  exact ⟨_, rfl, ⟨rfl, .inl ⟨none, rfl, rfl⟩⟩, Below.refl _ _⟩
 ·have hal : Below w.heap.size w (w.alloc (.cells #[] 52)) := (Below.refl _ _).alloc (Nat.le_refl _) _
  have hown := row_empty w w.heap.size 52 4 (Nat.le_refl _)
  have hx2 : ∀ ad', some ad = some ad' → ∀ j u, xs[j]? = some u → (w.alloc (.cells #[] 52)).cell? (ad'.add j) = some u := fun ad' he j u hj => by
   have h := hx ad' he j u hj
   exact (hal.cell (World.block_lt_of_cell? _ _ h)).trans h
  have HO := Lib.hid hown
  have HL := Lib.hid hl
  have HX := Lib.hid hx2
  have HAL := Lib.hid hal
  have H1 := Lib.hid h1
  clear hok hl hx hx2 hal hown h1
  go_enter Try.func33, Try.ntmps33
  go_wp2_with (at_builtin; refine wpList_append_flat rfl _ _ 23 52 (.agg #[.int .i64 0, .bool false, .slice none 0 0, .string ⟨#[]⟩]) 4 56 rfl Try.underlying23 infoIno rfl (by decide) w.heap.size _ 0 [] rfl HO.out (some ad) n c xs rfl HL.out HX.out (fun e => by cases e) H1.out ?h63 ?hb ?hB ?_)
  case h63 => unfold maxLen; omega
  case hb => omega
  case hB => exact HAL.out.size
  intro v' w2 hown' hgrow
  have hb2 : Below w.heap.size w w2 := HAL.out.grown hgrow HAL.out.size fun x hx => (HO.out.lt x hx).1
  have hown2 : w2.ownsRow w.heap.size 52 4 v' n xs := by simpa using hown'
  have HR := Lib.hid (RowAt.of_own hown2)
  have HB2 := Lib.hid hb2
  clear hown' hown2 hgrow hb2
  go_wp2_with fail
  go_ret
  exact ⟨v', rfl, HR.out, HB2.out⟩
end Go.Proofs.Ytndcloohcfhejaa
