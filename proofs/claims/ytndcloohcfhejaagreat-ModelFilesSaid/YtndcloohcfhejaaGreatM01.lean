/- Parts of the proof, side by side: FsReach, FsRead, Ext, FsRead2, FsRead3. -/
import Derived.Test.YtndcloohcfhejaaGreatM00
import Derived.Lib.Hide
import Derived.WalkKit
import Derived.BigQuiet
import Derived.Deep.QuietTactic
import Derived.StillTailTactics
set_option linter.unusedVariables false
set_option linter.unusedSimpArgs false
namespace Go.Proofs.YtndcloohcfhejaaGreat
inductive Reach (is : List Ino) : Nat → Prop where
 | root (k : Nat) : atV is 1 = (k : Int) → Reach is k
 | step (k j : Nat) (x : Ino) (e : En) : Reach is k → is[k]? = some x → x.dir = true → e ∈ x.ents → atV is e.num = (j : Int) → Reach is j
structure Found (is : List Ino) (todo : List Int) (f : List Bool) : Prop where
 len : f.length = is.length
 sound : ∀ k, f.getD k false = true → Reach is k
 left_ : ∀ t ∈ todo, ∀ j : Nat, atV is t = (j : Int) → Reach is j
 closed : ∀ (k : Nat) (x : Ino), f.getD k false = true → is[k]? = some x → x.dir = true → ∀ e ∈ x.ents, ∀ j : Nat, atV is e.num = (j : Int) → f.getD j false = true ∨ e.num ∈ todo
 root : ∀ j : Nat, atV is 1 = (j : Int) → f.getD j false = true ∨ (1 : Int) ∈ todo
theorem Found.done {is : List Ino} {f : List Bool} (h : Found is [] f) (k : Nat) : f.getD k false = true ↔ Reach is k := by
 refine ⟨h.sound k, fun hr => ?_⟩
 induction hr with
 | root k hk => rcases h.root k hk with h1 | h1; exact h1; simp at h1
 | step k j x e _ hx hd he hj ih => rcases h.closed k x ih hx hd e he j hj with h1 | h1; exact h1; simp at h1
def sumUn : List Ino → List Bool → Nat
 | [], _ => 0
 | x :: xs, f => (if f.headD false then 0 else x.ents.length) + sumUn xs f.tail
theorem sumUn_start : ∀ (is : List Ino) (n : Nat), sumUn is (List.replicate n false) = bulkE is
 | [], _ => rfl
 | x :: xs, 0 => by
  show (if false = true then 0 else x.ents.length) + sumUn xs (List.replicate 0 false) = x.ents.length + bulkE xs
  rw [sumUn_start xs 0]
  simp
 | x :: xs, n + 1 => by
  show (if false = true then 0 else x.ents.length) + sumUn xs (List.replicate n false) = x.ents.length + bulkE xs
  rw [sumUn_start xs n]
  simp
theorem sumUn_set : ∀ (is : List Ino) (f : List Bool) (k : Nat) (x : Ino), k < f.length → f.getD k false = false → is[k]? = some x → sumUn is f = x.ents.length + sumUn is (f.set k true)
 | [], _, _, _, _, _, h => by simp at h
 | y :: ys, [], _, _, hk, _, _ => by simp at hk
 | y :: ys, b :: f, 0, x, _, hf, hx => by
  have e : y = x := by simpa using hx
  subst e
  have hb : b = false := by simpa using hf
  subst hb
  show (if false = true then 0 else y.ents.length) + sumUn ys f = y.ents.length + ((if true = true then 0 else y.ents.length) + sumUn ys f)
  simp
 | y :: ys, b :: f, k + 1, x, hk, hf, hx => by
  have ih := sumUn_set ys f k x (by simpa using hk) (by simpa using hf) (by simpa using hx)
  show (if b = true then 0 else y.ents.length) + sumUn ys f = x.ents.length + ((if b = true then 0 else y.ents.length) + sumUn ys (f.set k true))
  omega
theorem getD_set (f : List Bool) (k j : Nat) (hk : k < f.length) : (f.set k true).getD j false = if j = k then true else f.getD j false := by
 rw [List.getD_eq_getElem?_getD, List.getElem?_set]
 by_cases h : k = j
 ·subst h
  simp [hk]
 ·rw [if_neg h, if_neg (Ne.symm h), List.getD_eq_getElem?_getD]
theorem atV_lt {is : List Ino} {t : Int} {k : Nat} (h : atV is t = (k : Int)) : ∃ x, is[k]? = some x ∧ x.num = t := by
 rcases atV_cases is t with ⟨h1, _⟩ | ⟨j, x, h1, h2, h3, _⟩
 ·omega
 ·have : j = k := by omega
  subst this
  exact ⟨x, h2, h3⟩
theorem inoAt_some {is : List Ino} {k : Int} {x : Ino} (h : inoAt is k = some x) : ∃ j : Nat, k = (j : Int) ∧ is[j]? = some x := by
 unfold inoAt at h
 by_cases hk : k < 0
 ·rw [if_pos hk] at h; cases h
 ·rw [if_neg hk] at h
  exact ⟨k.toNat, by omega, h⟩
theorem inoAt_none {is : List Ino} {t : Int} (h : inoAt is (atV is t) = none) (j : Nat) : atV is t ≠ (j : Int) := fun e => by
 obtain ⟨x, hx, _⟩ := atV_lt e
 rw [e, inoAt_nat, hx] at h
 cases h
theorem mem_last {todo : List Int} {t : Int} (h : todo.getLast? = some t) (u : Int) : u ∈ todo ↔ u ∈ todo.dropLast ∨ u = t := by
 obtain ⟨ys, rfl⟩ := List.getLast?_eq_some_iff.1 h
 simp
theorem Found.skip {is : List Ino} {todo : List Int} {f : List Bool} {t : Int} (h : Found is todo f) (hl : todo.getLast? = some t) (hs : ∀ j : Nat, atV is t = (j : Int) → f.getD j false = true) : Found is todo.dropLast f where
 len := h.len
 sound := h.sound
 left_ := fun u hu => h.left_ u ((mem_last hl u).2 (.inl hu))
 closed := fun k x hk hx hd e he j hj => by
  rcases h.closed k x hk hx hd e he j hj with h1 | h1
  ·exact .inl h1
  ·rcases (mem_last hl _).1 h1 with h2 | h2
   ·exact .inr h2
   ·exact .inl (hs j (by rw [← h2]; exact hj))
 root := fun j hj => by
  rcases h.root j hj with h1 | h1
  ·exact .inl h1
  ·rcases (mem_last hl _).1 h1 with h2 | h2
   ·exact .inr h2
   ·exact .inl (hs j (by rw [← h2]; exact hj))
theorem Found.take {is : List Ino} {todo : List Int} {f : List Bool} {t : Int} {k : Nat} {x : Ino} (h : Found is todo f) (hl : todo.getLast? = some t) (hk : atV is t = (k : Int)) (hx : is[k]? = some x) :
  Found is (todo.dropLast ++ (if x.dir then x.ents.map (·.num) else [])) (f.set k true) := by
 have hkl : k < f.length := by rw [h.len]; exact (List.getElem?_eq_some_iff.1 hx).1
 have hr : Reach is k := h.left_ t ((mem_last hl t).2 (.inr rfl)) k hk
 have old : ∀ j, f.getD j false = true → (f.set k true).getD j false = true := fun j hj => by rw [getD_set f k j hkl]; split; rfl; exact hj
 have new : (f.set k true).getD k false = true := by rw [getD_set f k k hkl, if_pos rfl]
 refine ⟨by rw [List.length_set]; exact h.len, fun j hj => ?_, fun u hu j hj => ?_, fun j y hj hy hd e he i hi => ?_, fun j hj => ?_⟩
 ·rw [getD_set f k j hkl] at hj
  by_cases e : j = k
  ·subst e; exact hr
  ·rw [if_neg e] at hj; exact h.sound j hj
 ·rcases List.mem_append.1 hu with hu | hu
  ·exact h.left_ u ((mem_last hl u).2 (.inl hu)) j hj
  ·by_cases hd : x.dir = true
   ·rw [if_pos hd] at hu
    obtain ⟨e, he, rfl⟩ := List.mem_map.1 hu
    exact .step k j x e hr hx hd he hj
   ·rw [if_neg hd] at hu
    simp at hu
 ·by_cases ej : j = k
  ·subst ej
   have : x = y := by rw [hx] at hy; exact Option.some.inj hy
   subst this
   exact .inr (List.mem_append.2 (.inr (by rw [if_pos hd]; exact List.mem_map_of_mem he)))
  ·rw [getD_set f k j hkl, if_neg ej] at hj
   rcases h.closed j y hj hy hd e he i hi with h1 | h1
   ·exact .inl (old i h1)
   ·rcases (mem_last hl _).1 h1 with h2 | h2
    ·exact .inr (List.mem_append.2 (.inl h2))
    ·rw [h2, hk] at hi
     have : k = i := by omega
     subst this
     exact .inl new
 ·rcases h.root j hj with h1 | h1
  ·exact .inl (old j h1)
  ·rcases (mem_last hl _).1 h1 with h2 | h2
   ·exact .inr (List.mem_append.2 (.inl h2))
   ·rw [h2, hk] at hj
    have : k = j := by omega
    subst this
    exact .inl new
theorem reachF_spec : ∀ (n : Nat) (is : List Ino) (todo : List Int) (f : List Bool), Found is todo f → todo.length + sumUn is f ≤ n → Found is [] (reachF is n todo f)
 | 0, is, todo, f, h, hn => by
  have : todo = [] := List.eq_nil_of_length_eq_zero (by omega)
  subst this
  exact h
 | n + 1, is, todo, f, h, hn => by
  unfold reachF
  cases hl : todo.getLast? with
  | none =>
   have : todo = [] := List.getLast?_eq_none_iff.1 hl
   subst this
   exact h
  | some t =>
   have hlen : todo.length = todo.dropLast.length + 1 := by
    obtain ⟨ys, rfl⟩ := List.getLast?_eq_some_iff.1 hl
    simp
   simp only
   cases hx : inoAt is (atV is t) with
   | none =>
    simp only
    exact reachF_spec n is _ f (h.skip hl fun j hj => absurd hj (inoAt_none hx j)) (by omega)
   | some x =>
    simp only
    obtain ⟨k, hk, hx2⟩ := inoAt_some hx
    have ek : (atV is t).toNat = k := by omega
    rw [ek]
    by_cases hf : f.getD k false = true
    ·rw [if_pos hf]
     exact reachF_spec n is _ f (h.skip hl fun j hj => by
      have : j = k := by omega
      rw [this]; exact hf) (by omega)
    ·rw [if_neg hf]
     have hkl : k < f.length := by rw [h.len]; exact (List.getElem?_eq_some_iff.1 hx2).1
     have hs := sumUn_set is f k x hkl (by simpa using hf) hx2
     refine reachF_spec n is _ _ (h.take hl hk hx2) ?_
     rw [List.length_append]
     have : (if x.dir = true then x.ents.map (·.num) else []).length ≤ x.ents.length := by split <;> simp
     omega
theorem Found.start (is : List Ino) : Found is [1] (List.replicate is.length false) := by
 have hno : ∀ k, (List.replicate is.length false).getD k false = false := fun k => by
  rw [List.getD_eq_getElem?_getD, List.getElem?_replicate]
  split <;> rfl
 refine ⟨by simp, fun k hk => ?_, fun t ht j hj => ?_, fun k x hk => ?_, fun j hj => .inr (by simp)⟩
 ·rw [hno] at hk; cases hk
 ·have e : t = 1 := by simpa using ht
  rw [e] at hj
  exact .root j hj
 ·rw [hno] at hk; cases hk
theorem reachV_found (is : List Ino) : Found is [] (reachV is) := reachF_spec _ is _ _ (Found.start is) (by rw [sumUn_start]; simp)
theorem reachV_iff (is : List Ino) (k : Nat) : (reachV is).getD k false = true ↔ Reach is k := (reachV_found is).done k
theorem reachV_len (is : List Ino) : (reachV is).length = is.length := (reachV_found is).len
theorem Found.same {is : List Ino} {f : List Bool} (h : Found is [] f) : f = reachV is := by
 apply List.ext_getElem?
 intro k
 have h1 := h.done k
 rw [← reachV_iff] at h1
 have hl := h.len
 have hv := reachV_len is
 by_cases hk : k < is.length
 ·rw [List.getD_eq_getElem?_getD, List.getD_eq_getElem?_getD, List.getElem?_eq_getElem (by omega), List.getElem?_eq_getElem (by omega)] at h1
  rw [List.getElem?_eq_getElem (by omega), List.getElem?_eq_getElem (by omega)]
  simp only [Option.getD_some] at h1
  congr 1
  exact Bool.eq_iff_iff.2 h1
 ·rw [List.getElem?_eq_none (by omega), List.getElem?_eq_none (by omega)]
end Go.Proofs.YtndcloohcfhejaaGreat
namespace Go.Proofs.YtndcloohcfhejaaGreat
open Go.RowKit
theorem box_st (w : World) (A : Option Addr) (n c : Nat) (B : Option Addr) (m d : Nat) (D : Option Addr) (k e : Nat) : ∃ W, w.alloc (.cells #[.slice A n c, .slice B m d, .slice D k e] 27) = W ∧ W.cell? ⟨w.heap.size, 0, .none⟩ = some (.slice A n c) ∧ W.cell? ⟨w.heap.size, 1, .none⟩ = some (.slice B m d) ∧ W.cell? ⟨w.heap.size, 2, .none⟩ = some (.slice D k e) ∧ Below w.heap.size w W ∧ w.heap.size < W.heap.size := by
 refine ⟨_, rfl, ?_, ?_, ?_, (Below.refl _ _).alloc (Nat.le_refl _) _, by simp⟩
 ·exact (World.cell?_alloc_mark w _ _ (0, 0) _).trans rfl
 ·exact (World.cell?_alloc_mark w _ _ (0, 0) _).trans rfl
 ·exact (World.cell?_alloc_mark w _ _ (0, 0) _).trans rfl
set_option maxHeartbeats 1000000 in
theorem at_any (v : Value) (s : St) (num : Int) (w : World) (h : StAt none w v s) :
  Calls Tryz.prog 124 #[v, .int .i64 num] w fun e w' => e = .returned (.int .i64 (atV s.inos num)) ∧ Below w.heap.size w w' := by
 obtain ⟨⟨A, n, c, B, m, d, D, k, e, rfl, hI, hD, hM, h5, h6, h7⟩, hz⟩ := h
 obtain ⟨R, hR⟩ : ∃ R, atV s.inos num = R := ⟨_, rfl⟩
 rw [hR]
 have hbig := hz.big
 have hn := hI.1
 have hn2 : n ≤ 1099511627776 := by omega
 obtain ⟨W, hW, b0, b1, b2, hal, _⟩ := box_st w A n c B m d D k e
 have HI := Lib.hid (hI.below hal)
 have HR := Lib.hid hR
 have HAL := Lib.hid hal
 clear hI hD hM hz hR hbig hn b1 b2 hal
 go_enter Tryz.func124, Tryz.ntmps124
 go_wp2_with fail
 clear hW
 go_loop [5] (fun i => ∃ k : Nat, i = .int .i64 k ∧ k ≤ n ∧ atG (s.inos.drop k) num k = R) (fun i => n - (intOf i).toNat)
 case atStart => exact ⟨0, rfl, by omega, HR.out⟩
 case round =>
  obtain ⟨k, rfl, hk, hc⟩ := hrel
  by_cases hlt : k < n
  ·obtain ⟨g, off, x, E, m2, d2, rfl, hg, hx, hd, hmem, c0, _, _, _, _, _⟩ := HI.out.get k hlt
   rw [hd, atG] at hc
   by_cases hq : x.num = num
   ·rw [if_pos hq] at hc
    subst hq
    have Hc := Lib.hid hc
    clear hc hd hx hmem
    go_wp2
    go_ret
    exact ⟨Cv.ret_int Hc.out, HAL.out⟩
   ·rw [if_neg hq] at hc
    have q : (x.num == num) = false := by rw [beq_eq_false_iff_ne]; exact hq
    have Hc := Lib.hid hc
    clear hc hd hx hmem
    go_wp2
    go_round
    case rel => exact ⟨k + 1, by go_num, by omega, Hc.out⟩
    case measure => simp [intOf]; omega
  ·have : s.inos.drop k = [] := List.drop_eq_nil_of_le (by have := HI.out.1; omega)
   rw [this, atG] at hc
   have Hc := Lib.hid hc
   clear hc this
   go_wp2
   go_ret
   exact ⟨Cv.ret_int Hc.out, HAL.out⟩
set_option maxHeartbeats 1000000 in
theorem isopen_any (v : Value) (s : St) (num : Int) (w : World) (h : StAt none w v s) :
  Calls Tryz.prog 118 #[v, .int .i64 num] w fun e w' => e = .returned (.bool (openB s.opn num)) ∧ Below w.heap.size w w' := by
 obtain ⟨⟨A, n, c, B, m, d, D, k, e, rfl, hI, hD, hM, h5, h6, h7⟩, hz⟩ := h
 obtain ⟨R, hR⟩ : ∃ R, openB s.opn num = R := ⟨_, rfl⟩
 rw [hR]
 have hbig := hz.big
 have hn := hD.1
 have hn2 : m ≤ 1099511627776 := by omega
 obtain ⟨W, hW, b0, b1, b2, hal, _⟩ := box_st w A n c B m d D k e
 have HD := Lib.hid (hD.below hal)
 have HR := Lib.hid hR
 have HAL := Lib.hid hal
 clear hI hD hM hz hR hbig hn b0 b2 hal
 go_enter Tryz.func118, Tryz.ntmps118
 go_wp2_with fail
 clear hW
 go_loop [5] (fun i => ∃ k : Nat, i = .int .i64 k ∧ k ≤ m ∧ openB (s.opn.drop k) num = R) (fun i => m - (intOf i).toNat)
 case atStart => exact ⟨0, rfl, by omega, HR.out⟩
 case round =>
  obtain ⟨k, rfl, hk, hc⟩ := hrel
  by_cases hlt : k < m
  ·obtain ⟨g, off, x, rfl, hg, hx, hd, hmem, _, _, c2⟩ := HD.out.get k hlt
   rw [hd, openB] at hc
   by_cases hq : x.num = num
   ·rw [if_pos hq] at hc
    subst hq
    have Hc := Lib.hid hc
    clear hc hd hx hmem
    go_wp2
    go_ret
    exact ⟨Cv.ret_bool Hc.out, HAL.out⟩
   ·rw [if_neg hq] at hc
    have q : (x.num == num) = false := by rw [beq_eq_false_iff_ne]; exact hq
    have Hc := Lib.hid hc
    clear hc hd hx hmem
    go_wp2
    go_round
    case rel => exact ⟨k + 1, by go_num, by omega, Hc.out⟩
    case measure => simp [intOf]; omega
  ·have : s.opn.drop k = [] := List.drop_eq_nil_of_le (by have := HD.out.1; omega)
   rw [this, openB] at hc
   have Hc := Lib.hid hc
   clear hc this
   go_wp2
   go_ret
   exact ⟨Cv.ret_bool Hc.out, HAL.out⟩
set_option maxHeartbeats 1000000 in
theorem fd_any (v : Value) (s : St) (core fd : Int) (w : World) (h : StAt none w v s) :
  Calls Tryz.prog 125 #[v, .int .i64 core, .int .i64 fd] w fun e w' => e = .returned (.int .i64 (fdV s.opn core fd)) ∧ Below w.heap.size w w' := by
 obtain ⟨⟨A, n, c, B, m, d, D, k, e, rfl, hI, hD, hM, h5, h6, h7⟩, hz⟩ := h
 obtain ⟨R, hR⟩ : ∃ R, fdV s.opn core fd = R := ⟨_, rfl⟩
 rw [hR]
 have hbig := hz.big
 have hn := hD.1
 have hn2 : m ≤ 1099511627776 := by omega
 obtain ⟨W, hW, b0, b1, b2, hal, _⟩ := box_st w A n c B m d D k e
 have HD := Lib.hid (hD.below hal)
 have HR := Lib.hid hR
 have HAL := Lib.hid hal
 clear hI hD hM hz hR hbig hn b0 b2 hal
 go_enter Tryz.func125, Tryz.ntmps125
 go_wp2_with fail
 clear hW
 go_loop [7] (fun i => ∃ k : Nat, i = .int .i64 k ∧ k ≤ m ∧ fdV (s.opn.drop k) core fd = R) (fun i => m - (intOf i).toNat)
 case atStart => exact ⟨0, rfl, by omega, HR.out⟩
 case round =>
  obtain ⟨k, rfl, hk, hc⟩ := hrel
  by_cases hlt : k < m
  ·obtain ⟨g, off, x, rfl, hg, hx, hd, hmem, c0, c1, c2⟩ := HD.out.get k hlt
   rw [hd, fdV] at hc
   by_cases hq1 : x.core = core
   ·by_cases hq2 : x.fd = fd
    ·rw [if_pos ⟨hq1, hq2⟩] at hc
     subst hq1 hq2
     have Hc := Lib.hid hc
     clear hc hd hx hmem
     go_wp2
     go_ret
     exact ⟨Cv.ret_int Hc.out, HAL.out⟩
    ·rw [if_neg (fun h => hq2 h.2)] at hc
     subst hq1
     have q : (x.fd == fd) = false := by rw [beq_eq_false_iff_ne]; exact hq2
     have Hc := Lib.hid hc
     clear hc hd hx hmem
     go_wp2
     go_round
     case rel => exact ⟨k + 1, by go_num, by omega, Hc.out⟩
     case measure => simp [intOf]; omega
   ·rw [if_neg (fun h => hq1 h.1)] at hc
    have q : (x.core == core) = false := by rw [beq_eq_false_iff_ne]; exact hq1
    have Hc := Lib.hid hc
    clear hc hd hx hmem
    go_wp2
    go_round
    case rel => exact ⟨k + 1, by go_num, by omega, Hc.out⟩
    case measure => simp [intOf]; omega
  ·have : s.opn.drop k = [] := List.drop_eq_nil_of_le (by have := HD.out.1; omega)
   rw [this, fdV] at hc
   have Hc := Lib.hid hc
   clear hc this
   go_wp2
   go_ret
   exact ⟨Cv.ret_int Hc.out, HAL.out⟩
structure Ext (W : World) where
 w : World
 bel : Below W.heap.size W w
instance extSome (W : World) : Nonempty (Ext W) := ⟨⟨W, Below.refl _ _⟩⟩
theorem Ext.cell {W : World} (x : Ext W) (p : Addr) (h : (W.cell? p).isSome = true) : x.w.cell? p = W.cell? p := by
 obtain ⟨u, hu⟩ := Option.isSome_iff_exists.1 h
 exact x.bel.cell (World.block_lt_of_cell? W p hu)
theorem wp_region_ext {P : Program} {id : Nat} {Q : Exit → Act → World → Prop} {a : Act} {w : World} {l : List Oper} (hm : P.follows .mixedOrders = true) (hB : Region.lexB .any l.toArray = true)
  (h : wpQuiet P l.toArray (fun w' => ∃ x : Ext w, w' = x.w) (fun a' => ∀ w', (∃ x : Ext w, w' = x.w) → Q .normal a' w') l a) : (Code.region id l.toArray true).wp P Q a w :=
 wp_region_quiet (C := fun w' => ∃ x : Ext w, w' = x.w) hm hB ⟨⟨w.drew, Cv.drewN_below (Below.refl _ _) 1⟩, rfl⟩ (by simpa using h)
theorem Calls.ext_of {P : Program} {f : FuncId} {args : Array Value} {W : World} {x : Ext W} {v : Value}
  (h : Calls P f args x.w fun e w' => e = .returned v ∧ Below x.w.heap.size x.w w') : Calls P f args x.w fun e w'' => e = .returned v ∧ ∃ y : Ext W, w'' = y.w :=
 h.mono fun _ w' ⟨he, hb⟩ => ⟨he, ⟨w', Cv.next x.bel hb⟩, rfl⟩
theorem Calls.ext_of_same {P : Program} {f : FuncId} {args : Array Value} {W : World} {x : Ext W} {v : Value}
  (h : Calls P f args x.w fun e w' => e = .returned v ∧ x.w = w') : Calls P f args x.w fun e w'' => e = .returned v ∧ ∃ y : Ext W, w'' = y.w :=
 h.mono fun _ w' ⟨he, hb⟩ => ⟨he, x, hb.symm⟩
theorem still_of_quiet {P : Program} {ops : Array Oper} {w : World} {Q : Act → Prop} : ∀ (l : List Oper) (a : Act), wpQuiet P ops (fun w' => w' = w) Q l a → wpStill P ops w Q l a
 | [], a, h => h
 | o :: rest, a, h => by
  unfold wpQuiet at h
  unfold wpStill
  split at h
  ·rename_i hw
   rw [if_pos hw]
   obtain ⟨v, h1, h2⟩ := h
   have h3 := h1 w rfl
   unfold Oper.quietAt at h3
   unfold Oper.still
   generalize (execOp a.eval o).run P w = r at h3 ⊢
   have h4 := still_of_quiet rest _ h2
   cases r with
   | ok n w' =>
    cases n <;> simp only [Oper.quietUpon] at h3
    case value u =>
     obtain ⟨e1, e2⟩ := h3
     subst e1 e2
     exact ⟨rfl, h4⟩
    case skip =>
     obtain ⟨e1, e2⟩ := h3
     subst e1 e2
     exact ⟨rfl, h4⟩
    case enter f args =>
     obtain ⟨e1, hc⟩ := h3
     subst e1
     exact ⟨rfl, v, hc, h4⟩
   | halt x w' => simp only [Oper.quietUpon] at h3
  ·rename_i hw
   rw [if_neg hw]
   exact still_of_quiet rest _ h
theorem wp_region_quiet_tail {P : Program} {id : Nat} {Q : Exit → Act → World → Prop} {a : Act} {w : World} {l : List Oper} (n : Nat) (hm : P.follows .mixedOrders = true) (hB : Region.lexTailB .any l.toArray n = true)
  (h : wpQuiet P l.toArray (fun w' => w' = w.drew) (fun a' => wpList P l.toArray Q (l.drop n) a' w.drew) (l.take n) a) : (Code.region id l.toArray true).wp P Q a w :=
 wp_region_still_tail n hm hB (still_of_quiet _ _ h)
theorem ba_list_ne {a b : ByteArray} (h : a ≠ b) : (a.toList == b.toList) = false := by
 rw [beq_eq_false_iff_ne, ByteArray.toList_eq, ByteArray.toList_eq]
 intro e
 apply h
 cases a with | mk da => cases b with | mk db => exact congrArg ByteArray.mk (Array.toList_inj.1 e)
theorem ba_list_eq {a b : ByteArray} (h : a = b) : (a.toList == b.toList) = true := by rw [h]; exact beq_self_eq_true _
theorem linkE_len : ∀ (es : List En) (num : Int), linkE es num ≤ es.length
 | [], _ => Nat.le_refl _
 | e :: es, num => by
  unfold linkE
  have := linkE_len es num
  rw [List.length_cons]
  split <;> omega
theorem linkI_len : ∀ (is : List Ino) (num : Int), linkI is num ≤ bulkE is
 | [], _ => Nat.le_refl _
 | x :: xs, num => by
  unfold linkI
  have := linkI_len xs num
  have h2 := linkE_len x.ents num
  show _ ≤ x.ents.length + bulkE xs
  split <;> omega
set_option maxHeartbeats 2000000 in
theorem links_any (v : Value) (s : St) (num : Int) (w : World) (h : StAt none w v s) :
  Calls Tryz.prog 25 #[v, .int .i64 num] w fun e w' => e = .returned (.int .i64 (linkI s.inos num : Nat)) ∧ Below w.heap.size w w' := by
 obtain ⟨⟨A, n, c, B, m, d, D, k, e, rfl, hI, hD, hM, h5, h6, h7⟩, hz⟩ := h
 have hll := linkI_len s.inos num
 obtain ⟨R, hR⟩ : ∃ R, linkI s.inos num = R := ⟨_, rfl⟩
 rw [hR] at hll ⊢
 have hbig := hz.big
 have hn := hI.1
 have hn2 : n ≤ 1099511627776 := by omega
 have hR2 : R ≤ 1099511627776 := by omega
 have hB2 : bulkE s.inos ≤ 1099511627776 := by omega
 obtain ⟨W, hW, b0, b1, b2, hal, _⟩ := box_st w A n c B m d D k e
 have HI := Lib.hid (hI.below hal)
 have HR := Lib.hid hR
 have HAL := Lib.hid hal
 have HB2 := Lib.hid hB2
 clear hI hD hM hz hR hbig hn b1 b2 hal hll hB2
 go_enter Tryz.func25, Tryz.ntmps25
 go_wp2_with fail
 clear hW
 go_loop [5, 6, 7] (fun many i _ => ∃ k q : Nat, i = .int .i64 k ∧ many = .int .i64 q ∧ k ≤ n ∧ q + linkI (s.inos.drop k) num = R) (fun _ i _ => n - (intOf i).toNat)
 case atStart => exact ⟨0, 0, rfl, rfl, by omega, by rw [List.drop_zero, Nat.zero_add]; exact HR.out⟩
 case round =>
  obtain ⟨k, q, rfl, rfl, hk, hc⟩ := hrel
  by_cases hlt : k < n
  ·obtain ⟨g, off, x, E, m2, d2, rfl, hg, hx, hd, hmem, _, c1, c2, hmd, hE, _⟩ := HI.out.get k hlt
   rw [hd, linkI] at hc
   have hle := bulkE_le hx
   have hm2 : m2 ≤ 1099511627776 := by have := hE.1; have := HB2.out; omega
   obtain ⟨T, hT⟩ : ∃ T, linkI (List.drop (k + 1) s.inos) num = T := ⟨_, rfl⟩
   rw [hT] at hc
   have HC := Lib.hid hc
   have HT := Lib.hid hT
   have HE := Lib.hid hE
   clear hc hT hE hd hx hmem hle
   by_cases hdir : x.dir = true
   ·rw [hdir] at c1
    go_wp2
    go_loop [5, 7] (fun many j => ∃ i q : Nat, j = .int .i64 i ∧ many = .int .i64 q ∧ i ≤ m2 ∧ q + linkE (x.ents.drop i) num + T = R) (fun _ j => m2 - (intOf j).toNat)
    case atStart => exact ⟨0, q, rfl, rfl, by omega, by have := HC.out; rw [if_pos hdir] at this; rw [List.drop_zero]; omega⟩
    case round =>
     obtain ⟨i, q2, rfl, rfl, hi, hc⟩ := hrel
     by_cases hlt2 : i < m2
     ·obtain ⟨g2, off2, y, rfl, hg2, hy, hd2, _, e0, e1⟩ := HE.out.get i hlt2
      rw [hd2, linkE] at hc
      by_cases hq : y.num = num
      ·rw [if_pos hq] at hc
       subst hq
       have HC2 := Lib.hid hc
       have hq2 : q2 ≤ 1099511627776 := by omega
       clear hc hd2 hy e0
       go_wp2
       go_round
       case rel => exact ⟨i + 1, q2 + 1, by go_num, by go_num, by omega, by have := HC2.out; omega⟩
       case measure => simp [intOf]; omega
      ·rw [if_neg hq] at hc
       have qn : (y.num == num) = false := by rw [beq_eq_false_iff_ne]; exact hq
       have HC2 := Lib.hid hc
       clear hc hd2 hy e0
       go_wp2
       go_round
       case rel => exact ⟨i + 1, q2, by go_num, rfl, by omega, by have := HC2.out; omega⟩
       case measure => simp [intOf]; omega
     ·have : x.ents.drop i = [] := List.drop_eq_nil_of_le (by have := HE.out.1; omega)
      rw [this, linkE] at hc
      have HC2 := Lib.hid hc
      clear hc this
      go_wp2
      go_round
      case rel => exact ⟨k + 1, q2, by go_num, rfl, by omega, by rw [HT.out]; exact HC2.out⟩
      case measure => simp [intOf]; omega
   ·have hdir2 : x.dir = false := by simpa using hdir
    rw [hdir2] at c1
    go_wp2
    go_loop [5, 7] (fun many j => j = .int .i64 0 ∧ many = .int .i64 q) (fun _ j => 0)
    case atStart => exact ⟨rfl, rfl⟩
    case round =>
     obtain ⟨rfl, rfl⟩ := hrel
     by_cases hlt2 : 0 < m2
     ·go_wp2
      go_round
      case rel => exact ⟨k + 1, q, by go_num, rfl, by omega, by have := HC.out; rw [if_neg (by rw [hdir2]; simp)] at this; rw [HT.out]; omega⟩
      case measure => simp [intOf]; omega
     ·have hm0 : m2 = 0 := by omega
      subst hm0
      go_wp2
      go_round
      case rel => exact ⟨k + 1, q, by go_num, rfl, by omega, by have := HC.out; rw [if_neg (by rw [hdir2]; simp)] at this; rw [HT.out]; omega⟩
      case measure => simp [intOf]; omega
  ·have : s.inos.drop k = [] := List.drop_eq_nil_of_le (by have := HI.out.1; omega)
   rw [this, linkI] at hc
   have Hc := Lib.hid hc
   clear hc this
   go_wp2
   go_ret
   exact ⟨Cv.ret_int (by have := Hc.out; omega), HAL.out⟩
theorem StAt.of_parts {lo : Option Nat} {w : World} {A : Option Addr} {n c : Nat} {B : Option Addr} {m d : Nat} {D : Option Addr} {k e : Nat} {s : St} (h1 : InosAt lo w A n s.inos) (h2 : DescsAt lo w B m s.opn) (h3 : IntsAt lo w D k s.made) (h5 : SlOk A n c) (h6 : SlOk B m d) (h7 : SlOk D k e) (hz : Sized s) :
  StAt lo w (.agg #[.slice A n c, .slice B m d, .slice D k e]) s := ⟨⟨A, n, c, B, m, d, D, k, e, rfl, h1, h2, h3, h5, h6, h7⟩, hz⟩
set_option maxHeartbeats 2000000 in
theorem entry_any (v : Value) (s : St) (dir : Int) (name : ByteArray) (w : World) (h : StAt none w v s) :
  Calls Tryz.prog 120 #[v, .int .i64 dir, .string name] w fun e w' => e = .returned (.int .i64 (entV s.inos dir name)) ∧ Below w.heap.size w w' := by
 obtain ⟨⟨A, n, c, B, m, d, D, k, e, rfl, hI, hD, hM, h5, h6, h7⟩, hz⟩ := h
 obtain ⟨R, hR⟩ : ∃ R, entV s.inos dir name = R := ⟨_, rfl⟩
 rw [hR]
 have hbig := hz.big
 have hn := hI.1
 have hn2 : n ≤ 1099511627776 := by omega
 obtain ⟨W, hW, b0, b1, b2, hal, hlt0⟩ := box_st w A n c B m d D k e
 have HS := Lib.hid ((StAt.of_parts hI hD hM h5 h6 h7 hz).below hal)
 have HI := Lib.hid (hI.below hal)
 have HAL := Lib.hid hal
 have HB2 : Hid (bulkE s.inos ≤ 1099511627776) := Lib.hid (by omega)
 rw [entV] at hR
 have HR := Lib.hid hR
 clear hI hD hM hz hbig hn hal hR
 go_enter Tryz.func120, Tryz.ntmps120
 go_wp2_with fail
 refine (at_any _ s dir _ HS.out).mono ?_
 rintro e w1 ⟨rfl, hb1⟩
 have b3 := (hb1.cell (p := ⟨w.heap.size, 0, .none⟩) hlt0).trans b0
 have HI1 := Lib.hid (HI.out.below hb1)
 have HB1 := Lib.hid hb1
 clear hW b0 b1 b2 hb1 HI
 rcases atV_cases s.inos dir with ⟨hat, _⟩ | ⟨i, x, hat, hx, _, _⟩
 ·rw [hat]
  have hr := HR.out
  rw [hat] at hr
  have HR2 := Lib.hid (show (0 : Int) = R from hr)
  clear hr hat
  go_wp2
  go_ret
  exact ⟨Cv.ret_int HR2.out, Cv.next HAL.out HB1.out⟩
 ·rw [hat]
  have hr := HR.out
  rw [hat, inoAt_nat, hx] at hr
  simp only at hr
  have hin : i < n := by have := (List.getElem?_eq_some_iff.1 hx).1; have := HI1.out.1; omega
  obtain ⟨g, off, x', E, m2, d2, rfl, hg, hx', hd, hmem, _, c1, c2, hmd, hE, _⟩ := HI1.out.get i hin
  have ex : x = x' := by rw [hx] at hx'; exact Option.some.inj hx'
  subst ex
  have hle := bulkE_le hx
  have hm2 : m2 ≤ 1099511627776 := by have := hE.1; have := HB2.out; omega
  have HR2 := Lib.hid hr
  have HE := Lib.hid hE
  have q0 : decide ((i : Int) < 0) = false := by simp
  clear hr hat hx hx' hd hmem hle hE c1
  go_wp2_with fail
  go_loop [8] (fun j => ∃ k : Nat, j = .int .i64 k ∧ k ≤ m2 ∧ entG (x.ents.drop k) name = R) (fun j => m2 - (intOf j).toNat)
  case atStart => exact ⟨0, rfl, by omega, HR2.out⟩
  case round =>
   obtain ⟨k, rfl, hk, hc⟩ := hrel
   by_cases hlt : k < m2
   ·obtain ⟨g2, off2, y, rfl, hg2, hy, hd2, _, e0, e1⟩ := HE.out.get k hlt
    rw [hd2, entG] at hc
    by_cases hq : y.name = name
    ·rw [if_pos hq] at hc
     subst hq
     have Hc := Lib.hid hc
     clear hc hd2 hy
     go_wp2
     go_ret
     exact ⟨Cv.ret_int Hc.out, Cv.next HAL.out HB1.out⟩
    ·rw [if_neg hq] at hc
     have q : (y.name.toList == name.toList) = false := ba_list_ne hq
     have Hc := Lib.hid hc
     clear hc hd2 hy
     go_wp2
     go_round
     case rel => exact ⟨k + 1, by go_num, by omega, Hc.out⟩
     case measure => simp [intOf]; omega
   ·have : x.ents.drop k = [] := List.drop_eq_nil_of_le (by have := HE.out.1; omega)
    rw [this, entG] at hc
    have Hc := Lib.hid hc
    clear hc this
    go_wp2
    go_ret
    exact ⟨Cv.ret_int Hc.out, Cv.next HAL.out HB1.out⟩
set_option maxHeartbeats 1000000 in
theorem given_any (v : Value) (s : St) (num : Int) (w : World) (h : StAt none w v s) (hn1 : -9223372036854775808 ≤ num) (hn2 : num ≤ 9223372036854775807) :
  Calls Tryz.prog 116 #[v, .int .i64 num] w fun e w' => e = .returned (.bool (givenV s.made num)) ∧ Below w.heap.size w w' := by
 obtain ⟨⟨A, n, c, B, m, d, D, k, e, rfl, hI, hD, hM, h5, h6, h7⟩, hz⟩ := h
 obtain ⟨R, hR⟩ : ∃ R, givenV s.made num = R := ⟨_, rfl⟩
 rw [hR]
 unfold givenV at hR
 have hbig := hz.big
 have hn := hM.1
 have hk2 : k ≤ 1099511627776 := by omega
 obtain ⟨W, hW, b0, b1, b2, hal, _⟩ := box_st w A n c B m d D k e
 have HM := Lib.hid (hM.below hal)
 have HAL := Lib.hid hal
 have HR := Lib.hid hR
 clear hI hD hM hz hR hbig hn b0 b1 hal
 go_enter Tryz.func116, Tryz.ntmps116
 by_cases h2 : num < 2
 ·have hr := HR.out
  rw [if_pos h2] at hr
  have HR2 := Lib.hid hr
  clear hr
  go_wp2_with fail
  go_ret
  exact ⟨Cv.ret_bool HR2.out, HAL.out⟩
 ·have hr := HR.out
  rw [if_neg h2] at hr
  obtain ⟨N, rfl⟩ : ∃ N : Nat, num = (N : Int) + 2 := ⟨(num - 2).toNat, by omega⟩
  obtain ⟨C, hC⟩ : ∃ C : Nat, N % 8 = C := ⟨_, rfl⟩
  obtain ⟨Q, hQ⟩ : ∃ Q : Nat, N / 8 = Q := ⟨_, rfl⟩
  have e0 : (N : Int) + 2 - 2 = (N : Int) := by omega
  have e1 : (N : Int) % 8 = (C : Int) := by omega
  have e2 : (N : Int) / 8 = (Q : Int) := by omega
  rw [e0, e1, e2, Int.toNat_natCast] at hr
  have t1 : (N : Int).tmod 8 = (C : Int) := by rw [← hC]; rfl
  have t2 : (N : Int).tdiv 8 = (Q : Int) := by rw [← hQ]; rfl
  have q0 : decide ((N : Int) + 2 < 2) = false := by simp; omega
  have hN : N ≤ 9223372036854775805 := by omega
  have hC7 : C < 8 := by omega
  have hQ2 : Q ≤ 9223372036854775805 := by omega
  have w1 : IntKind.i64.wrap (N : Int) = (N : Int) := by rw [IntKind.wrap_i64]; omega
  have w2 : IntKind.i64.wrap ((N : Int) + 2 - 2) = (N : Int) := by rw [e0, w1]
  clear h2 hn1 hn2 e1 e2 hC hQ HR
  by_cases hlt : C < k
  ·obtain ⟨g, off, x, rfl, hg, hx, hd, hmem, c0⟩ := HM.out.get C hlt
   have hkm := HM.out.1
   have hgd : s.made.getD C 0 = x := by rw [List.getD_eq_getElem?_getD, hx]; rfl
   rw [hgd] at hr
   have HR2 := Lib.hid hr
   clear hr hd hmem hx hgd
   go_wp2_with fail
   go_ret
   refine ⟨Cv.ret_bool ?_, HAL.out⟩
   rw [← HR2.out, decide_eq_true (show (C : Int) < (s.made.length : Int) by omega)]
   rfl
  ·have hkm := HM.out.1
   have q1 : decide ((C : Int) < (k : Int)) = false := by simp; omega
   have HR2 := Lib.hid hr
   clear hr
   go_wp2_with fail
   go_ret
   refine ⟨Cv.ret_bool ?_, HAL.out⟩
   rw [← HR2.out, decide_eq_false (show ¬ (C : Int) < (s.made.length : Int) by omega)]
   rfl
end Go.Proofs.YtndcloohcfhejaaGreat
