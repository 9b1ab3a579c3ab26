/- Parts of the proof, side by side: MoReachP, LaInode, MoEnts2, MoInos. -/
import Derived.Test.YtilkhmhgjbhfnaaGreatDoorM04
import Derived.Test.YtilkhmhgjbhfnaaGreatDoorM06
import Derived.Laws.BitsAllLaws
import Derived.RegionTactic
import Derived.Test.YtilkhmhgjbhfnaaGreatDoorM03
import Derived.Test.YtilkhmhgjbhfnaaGreatDoorM05
set_option linter.unusedVariables false
set_option linter.unusedSimpArgs false
namespace Go.Proofs.YtilkhmhgjbhfnaaGreatDoor
def Linked (is : List Ino) : Prop := ∀ x ∈ is, (x.dir = false → x.ents = []) ∧ ∀ e ∈ x.ents, 0 ≤ atV is e.num
structure FoundQ (is : List Ino) (todo : List Int) (cur : Nat) (rest : List En) (f : List Bool) : Prop where
 len : f.length = is.length
 sound : ∀ k, f.getD k false = true → Reach is k
 queue : ∀ t ∈ todo, ∃ k : Nat, t = (k : Int) ∧ f.getD k false = true
 closed : ∀ (k : Nat) (x : Ino), f.getD k false = true → is[k]? = some x → x.dir = true → ∀ e ∈ x.ents, ∀ j : Nat, atV is e.num = (j : Int) → f.getD j false = true ∨ (k : Int) ∈ todo ∨ (k = cur ∧ e ∈ rest)
 root : ∀ j : Nat, atV is 1 = (j : Int) → f.getD j false = true
theorem FoundQ.done {is : List Ino} {f : List Bool} {cur : Nat} (h : FoundQ is [] cur [] f) : f = reachV is :=
 Found.same ⟨h.len, h.sound, fun t ht => by simp at ht, fun k x hk hx hd e he j hj => by
  rcases h.closed k x hk hx hd e he j hj with h1 | h1 | h1
  ·exact .inl h1
  ·simp at h1
  ·simp at h1, fun j hj => .inl (h.root j hj)⟩
theorem FoundQ.start {is : List Ino} {x : Ino} (h0 : is[0]? = some x) (hn : x.num = 1) : FoundQ is [0] 0 [] ((List.replicate is.length false).set 0 true) := by
 have hl : 0 < is.length := (List.getElem?_eq_some_iff.1 h0).1
 have ha : atV is 1 = (0 : Nat) := by
  rcases atV_cases is 1 with ⟨_, h2⟩ | ⟨k, y, h1, h2, h3, h4⟩
  ·exact absurd hn (h2 x (List.mem_of_getElem? h0))
  ·rcases Nat.eq_zero_or_pos k with h | h
   ·rw [h1, h]
   ·exact absurd hn (h4 0 x h h0)
 have hf : ∀ k, ((List.replicate is.length false).set 0 true).getD k false = true → k = 0 := fun k hk => by
  rw [getD_set _ 0 k (by simpa using hl)] at hk
  split at hk
  ·assumption
  ·rw [List.getD_eq_getElem?_getD, List.getElem?_replicate] at hk
   split at hk <;> cases hk
 have hf0 : ((List.replicate is.length false).set 0 true).getD 0 false = true := by rw [getD_set _ 0 0 (by simpa using hl), if_pos rfl]
 refine ⟨by simp, fun k hk => ?_, fun t ht => ?_, fun k y hk hy hd e he j hj => ?_, fun j hj => ?_⟩
 ·rw [hf k hk]; exact .root 0 ha
 ·have : t = 0 := by simpa using ht
  exact ⟨0, this, hf0⟩
 ·rw [hf k hk]; exact .inr (.inl (by simp))
 ·have : j = 0 := by rw [ha] at hj; omega
  rw [this]; exact hf0
theorem FoundQ.take {is : List Ino} {t : Int} {ts : List Int} {f : List Bool} {c : Nat} (h : FoundQ is (t :: ts) c [] f) : ∃ (k : Nat) (x : Ino), t = (k : Int) ∧ is[k]? = some x ∧ f.getD k false = true ∧ FoundQ is ts k x.ents f := by
 obtain ⟨k, rfl, hk⟩ := h.queue t (by simp)
 have hkl : k < is.length := by
  rw [← h.len]
  apply Classical.byContradiction
  intro hn
  rw [List.getD_eq_getElem?_getD, List.getElem?_eq_none (by omega)] at hk
  cases hk
 refine ⟨k, is[k], rfl, List.getElem?_eq_getElem hkl, hk, ⟨h.len, h.sound, fun u hu => h.queue u (by simp [hu]), fun i y hi hy hd e he j hj => ?_, h.root⟩⟩
 rcases h.closed i y hi hy hd e he j hj with h1 | h1 | h1
 ·exact .inl h1
 ·rcases List.mem_cons.1 h1 with h2 | h2
  ·have e1 : i = k := by omega
   subst e1
   rw [List.getElem?_eq_getElem hkl] at hy
   have : is[i] = y := Option.some.inj hy
   rw [this]
   exact .inr (.inr ⟨rfl, he⟩)
  ·exact .inr (.inl h2)
 ·simp at h1
theorem FoundQ.old {is : List Ino} {ts : List Int} {k j : Nat} {e : En} {es : List En} {f : List Bool} (h : FoundQ is ts k (e :: es) f) (hj : atV is e.num = (j : Int)) (hf : f.getD j false = true) : FoundQ is ts k es f := by
 refine ⟨h.len, h.sound, h.queue, fun i y hi hy hd e2 he i2 hi2 => ?_, h.root⟩
 rcases h.closed i y hi hy hd e2 he i2 hi2 with h1 | h1 | ⟨h1, h2⟩
 ·exact .inl h1
 ·exact .inr (.inl h1)
 ·rcases List.mem_cons.1 h2 with h3 | h3
  ·subst h3
   have : i2 = j := by omega
   rw [this]; exact .inl hf
  ·exact .inr (.inr ⟨h1, h3⟩)
theorem FoundQ.new {is : List Ino} {ts : List Int} {k j : Nat} {x : Ino} {e : En} {es : List En} {f : List Bool} (h : FoundQ is ts k (e :: es) f) (hk : f.getD k false = true) (hx : is[k]? = some x) (hd : x.dir = true) (he : e ∈ x.ents) (hj : atV is e.num = (j : Int)) :
  FoundQ is (ts ++ [(j : Int)]) k es (f.set j true) := by
 have hjl : j < f.length := by
  rw [h.len]
  obtain ⟨y, hy, _⟩ := atV_lt hj
  exact (List.getElem?_eq_some_iff.1 hy).1
 have old : ∀ i, f.getD i false = true → (f.set j true).getD i false = true := fun i hi => by rw [getD_set f j i hjl]; split; rfl; exact hi
 have new : (f.set j true).getD j false = true := by rw [getD_set f j j hjl, if_pos rfl]
 refine ⟨by rw [List.length_set]; exact h.len, fun i hi => ?_, fun t ht => ?_, fun i y hi hy hd2 e2 he2 i2 hi2 => ?_, fun i hi => old i (h.root i hi)⟩
 ·rw [getD_set f j i hjl] at hi
  by_cases e1 : i = j
  ·subst e1
   exact .step k i x e (h.sound k hk) hx hd he hj
  ·rw [if_neg e1] at hi; exact h.sound i hi
 ·rcases List.mem_append.1 ht with h1 | h1
  ·obtain ⟨i, e1, e2⟩ := h.queue t h1
   exact ⟨i, e1, old i e2⟩
  ·exact ⟨j, by simpa using h1, new⟩
 ·by_cases e1 : i = j
  ·subst e1; exact .inr (.inl (by simp))
  ·rw [getD_set f j i hjl, if_neg e1] at hi
   rcases h.closed i y hi hy hd2 e2 he2 i2 hi2 with h1 | h1 | ⟨h1, h2⟩
   ·exact .inl (old _ h1)
   ·exact .inr (.inl (List.mem_append.2 (.inl h1)))
   ·rcases List.mem_cons.1 h2 with h3 | h3
    ·subst h3
     have : i2 = j := by omega
     rw [this]; exact .inl new
    ·exact .inr (.inr ⟨h1, h3⟩)
def unF : List Bool → Nat
 | [] => 0
 | b :: f => (if b then 0 else 1) + unF f
theorem unF_le : ∀ f : List Bool, unF f ≤ f.length
 | [] => Nat.le_refl _
 | b :: f => by
  have := unF_le f
  unfold unF
  rw [List.length_cons]
  split <;> omega
theorem unF_set : ∀ (f : List Bool) (k : Nat), k < f.length → f.getD k false = false → unF f = unF (f.set k true) + 1
 | [], _, h, _ => by simp at h
 | b :: f, 0, _, h => by
  have : b = false := by simpa using h
  subst this
  show 1 + unF f = 0 + unF f + 1
  omega
 | b :: f, k + 1, h, h2 => by
  have := unF_set f k (by simpa using h) (by simpa using h2)
  show (if b = true then 0 else 1) + unF f = (if b = true then 0 else 1) + unF (f.set k true) + 1
  omega
def partL (is : List Ino) (i q : Nat) (num : Int) : Nat := linkI (is.take i) num + (match is[i]? with | none => 0 | some x => linkE (x.ents.take q) num)
theorem linkE_take (es : List En) (q : Nat) (e : En) (num : Int) (h : es[q]? = some e) : linkE (es.take (q + 1)) num = linkE (es.take q) num + if e.num = num then 1 else 0 := by
 induction es generalizing q with
 | nil => simp at h
 | cons x xs ih =>
  cases q with
  | zero =>
   have : x = e := by simpa using h
   subst this
   simp [linkE]
  | succ q =>
   have := ih q (by simpa using h)
   simp only [List.take_succ_cons, linkE]
   rw [this]
   omega
theorem linkI_take (is : List Ino) (i : Nat) (x : Ino) (num : Int) (h : is[i]? = some x) : linkI (is.take (i + 1)) num = linkI (is.take i) num + if x.dir then linkE x.ents num else 0 := by
 induction is generalizing i with
 | nil => simp at h
 | cons y ys ih =>
  cases i with
  | zero =>
   have : y = x := by simpa using h
   subst this
   simp [linkI]
  | succ i =>
   have := ih i (by simpa using h)
   simp only [List.take_succ_cons, linkI]
   rw [this]
   omega
theorem partL_zero (is : List Ino) (num : Int) : partL is 0 0 num = 0 := by
 unfold partL
 cases is with
 | nil => rfl
 | cons x xs => simp [linkI, linkE]
theorem partL_entry {is : List Ino} {i q : Nat} {x : Ino} {e : En} (hx : is[i]? = some x) (he : x.ents[q]? = some e) (num : Int) : partL is i (q + 1) num = partL is i q num + if e.num = num then 1 else 0 := by
 unfold partL
 rw [hx]
 simp only
 rw [linkE_take _ _ _ _ he]
 omega
theorem partL_next {is : List Ino} (hl : Linked is) {i q : Nat} {x : Ino} (hx : is[i]? = some x) (hq : x.ents.length ≤ q) (num : Int) : partL is (i + 1) 0 num = partL is i q num := by
 unfold partL
 rw [hx, linkI_take _ _ _ _ hx]
 simp only
 rw [List.take_of_length_le hq]
 have h0 : (match is[i + 1]? with | none => 0 | some x => linkE (x.ents.take 0) num) = 0 := by
  cases is[i + 1]? with
  | none => rfl
  | some y => simp [linkE]
 rw [h0]
 cases hd : x.dir
 ·rw [(hl x (List.mem_of_getElem? hx)).1 hd]
  simp [linkE]
 ·simp
theorem partL_all {is : List Ino} {i : Nat} (h : is.length ≤ i) (num : Int) : partL is i 0 num = linkI is num := by
 unfold partL
 rw [List.take_of_length_le h, List.getElem?_eq_none h]
 simp
theorem linkE_le : ∀ (es : List En) (num : Int), linkE es num ≤ es.length
 | [], _ => Nat.le_refl _
 | e :: es, num => by
  have := linkE_le es num
  unfold linkE
  rw [List.length_cons]
  split <;> omega
theorem linkI_le : ∀ (is : List Ino) (num : Int), linkI is num ≤ bulkE is
 | [], _ => Nat.le_refl _
 | x :: xs, num => by
  have h1 := linkI_le xs num
  have h2 := linkE_le x.ents num
  have h3 : bulkE (x :: xs) = x.ents.length + bulkE xs := rfl
  unfold linkI
  rw [h3]
  split <;> omega
theorem bulkE_take (is : List Ino) (i : Nat) (x : Ino) (h : is[i]? = some x) : bulkE (is.take i) + x.ents.length ≤ bulkE is := by
 induction is generalizing i with
 | nil => simp at h
 | cons y ys ih =>
  have h3 : bulkE (y :: ys) = y.ents.length + bulkE ys := rfl
  cases i with
  | zero =>
   have : y = x := by simpa using h
   subst this
   rw [h3, List.take_zero]
   have : bulkE [] = 0 := rfl
   omega
  | succ i =>
   have := ih i (by simpa using h)
   rw [List.take_succ_cons, h3]
   have h4 : bulkE (y :: ys.take i) = y.ents.length + bulkE (ys.take i) := rfl
   omega
theorem partL_le (is : List Ino) (i q : Nat) (num : Int) : partL is i q num ≤ bulkE is := by
 unfold partL
 cases h : is[i]? with
 | none =>
  have : is.length ≤ i := List.getElem?_eq_none_iff.1 h
  rw [List.take_of_length_le this]
  have := linkI_le is num
  simp only
  omega
 | some x =>
  have h1 := bulkE_take is i x h
  have h2 := linkI_le (is.take i) num
  have h3 := linkE_le (x.ents.take q) num
  have h4 : (x.ents.take q).length ≤ x.ents.length := by simp; omega
  simp only
  omega
end Go.Proofs.YtilkhmhgjbhfnaaGreatDoor
namespace Go.Proofs.YtilkhmhgjbhfnaaGreatDoor
open Go.RowKit
structure InoOk (x : Ino) : Prop where
 num : 0 ≤ x.num ∧ x.num ≤ 1099511627776
 data : x.data.size ≤ 1099511627776
 ents : x.ents.length ≤ 1099511627776 ∧ ∀ e ∈ x.ents, 0 ≤ e.num ∧ e.num ≤ 1099511627776 ∧ e.name.size ≤ 1099511627776
set_option maxRecDepth 100000 in
set_option maxHeartbeats 8000000 in
theorem mayents_any (p : Nat) (s : St) (es : List En) (E : Option Addr) (m2 d2 : Nat) (w : World) (h : PtrAt w p s) (hr : RiseI s.inos) (hE : EntsAt none w E m2 es) (hm2 : m2 ≤ 1099511627776) (htx : ∀ e ∈ es, e.name.size ≤ 140737488355328) :
  Calls Tryz.prog 173 #[.pointer (some ⟨p, 0, .none⟩), .slice E m2 d2] w fun e w' => e = .returned (.bool (entsV s.inos es)) ∧ Below w.heap.size w w' := by
 obtain ⟨R, hR⟩ : ∃ R, entsV s.inos es = R := ⟨_, rfl⟩
 rw [hR]
 unfold entsV at hR
 obtain ⟨V, hV, hmany, hal3⟩ := many_arr w 241
 have HP := Lib.hid h
 have HRI := Lib.hid hr
 have HE := Lib.hid hE
 have HAL3 := Lib.hid hal3
 have HR := Lib.hid hR
 have HTX := Lib.hid htx
 have HMY := Lib.hid hmany
 clear h hr hE hal3 hR htx hmany
 go_enter Tryz.func173, Tryz.ntmps173
 go_wp2_with fail
 clear hV
 go_loopw [11] (fun i wr => ∃ (k : Nat) (f : Nat → Nat), i = .int .i64 k ∧ k ≤ m2 ∧ Below w.heap.size w wr ∧ ManyT wr w.heap.size f ∧ (∀ j, f j ≤ k) ∧ entsG s.inos (es.drop k) (prevN es k) f = R) (fun i _ => m2 - (intOf i).toNat)
 case atStart => exact ⟨0, fun _ => 0, rfl, by omega, HAL3.out, HMY.out, fun _ => Nat.le_refl _, HR.out⟩
 case round =>
  obtain ⟨k, f, rfl, hk, hbel, hmy, hfk, hc⟩ := hrel
  have HB := Lib.hid hbel
  have HM := Lib.hid hmy
  have HF := Lib.hid hfk
  have HPr := Lib.hid (HP.out.below hbel)
  have HEr := Lib.hid (HE.out.below hbel)
  clear hbel hmy hfk
  by_cases hlt : k < m2
  ·obtain ⟨g, off, y, rfl, hg, hy, hd, hmem, e0, e1⟩ := HEr.out.get k hlt
   rw [hd, entsG] at hc
   have hsz := HTX.out y hmem
   have k0 : (0 : Int) ≤ (k : Int) := by omega
   have k1 : (k : Int) < (m2 : Int) := by omega
   obtain ⟨BD, hBD⟩ : ∃ BD, entBad s.inos (prevN es k) y = BD := ⟨_, rfl⟩
   rw [hBD] at hc
   have HBD := Lib.hid hBD
   have HC := Lib.hid hc
   have HY := Lib.hid hy
   clear hBD
   clear hc hd hmem hy
   obtain ⟨V2, hV2, v0, v1, hal4, hlt4⟩ := box_en wr y.name y.num
   have HAL4 := Lib.hid hal4
   have HPV := Lib.hid (HPr.out.below hal4)
   have HEV := Lib.hid (HEr.out.below hal4)
   clear hal4
   go_upto_region 5 with fail
   have hx : ∀ (X : Ext V2) (p : Addr), (V2.cell? p).isSome = true → X.w.cell? p = V2.cell? p := fun X p h => X.cell p h
   clear hV2 e0 e1
   obtain ⟨CK, hCK⟩ : ∃ CK, mayL y.name.data.toList = CK := ⟨_, rfl⟩
   have HCK := Lib.hid hCK
   obtain ⟨FD, hFD⟩ : ∃ FD, atV s.inos y.num = FD := ⟨_, rfl⟩
   have HFD := Lib.hid hFD
   have hbd : BD = (!CK || (match prevN es k with | none => false | some q => !ltN q y.name) || decide (y.num = 1) || decide (FD < 0)) := by
    rw [← HBD.out, ← hCK, ← hFD]; unfold entBad chkB mayL
    cases hz : checkL y.name.data.toList <;> rfl
   have HBB := Lib.hid hbd
   clear hCK hFD hbd
   go_cut [46] (fun c wx => c = .bool BD ∧ ∃ X : Ext V2, wx = X.w)
   case first =>
    obtain ⟨N1, hN1⟩ : ∃ N1, (y.num == 1) = N1 := ⟨_, rfl⟩
    have hN1' : decide (y.num = 1) = N1 := by rw [← hN1]; rfl
    have HN1 := Lib.hid hN1'
    obtain ⟨F0, hF0⟩ : ∃ F0, decide (FD < 0) = F0 := ⟨_, rfl⟩
    have HF0 := Lib.hid hF0
    by_cases hk0 : k = 0
    ·have q1 : decide ((0 : Int) < (k : Int)) = false := by rw [decide_eq_false_iff_not]; omega
     have q1n : decide (0 < k) = false := by rw [decide_eq_false_iff_not]; omega
     have hp : prevN es k = none := if_pos hk0
     have HBC := HBB.out
     rw [hp, HN1.out, HF0.out] at HBC
     have HBX := Lib.hid HBC
     clear HBC hp hk0
     cases CK <;> cases N1 <;> (
      refine wre ?_
      repeat (go_big_quiet_step (first | (go_at_call 206; rename_i X; exact Calls.ext_of (by have := may_any y.name X.w hsz; rw [HCK.out] at this; exact this)) | (go_at_call 140; rename_i X; exact Calls.ext_of (by have := mfind_any p s y.num X.w (HPV.out.below X.bel) HRI.out; rw [HFD.out] at this; exact this))))
      refine wpQuiet_nil ?_
      rintro w7 ⟨X, rfl⟩
      go_wp2_with fail
      go_meet
      exact ⟨congrArg Value.bool (by rw [HBX.out]; simp), X, rfl⟩)
    ·obtain ⟨j, rfl⟩ : ∃ j, k = j + 1 := ⟨k - 1, by omega⟩
     have q1 : decide ((0 : Int) < ((j + 1 : Nat) : Int)) = true := by rw [decide_eq_true_eq]; omega
     have q1b : decide ((0 : Int) < (j : Int) + 1) = true := by rw [decide_eq_true_eq]; omega
     obtain ⟨g', off', y', hA', hg', hy', _, hmem', f0, f1⟩ := HEV.out.get j (by omega)
     injection hA' with hA'
     injection hA' with hA1 hA2
     subst hA1 hA2
     have hp : prevN es (j + 1) = some y'.name := by unfold prevN; rw [if_neg (by omega), Nat.add_sub_cancel, hy']; rfl
     have j0 : (0 : Int) ≤ (j : Int) := by omega
     have j1 : (j : Int) < (m2 : Int) := by omega
     have jw : IntKind.i64.wrap ((j : Int) + 1 - 1) = (j : Int) := by rw [IntKind.wrap_i64]; omega
     obtain ⟨LT, hLT⟩ : ∃ LT, Op.bytesLess y'.name.toList y.name.toList = LT := ⟨_, rfl⟩
     have hlt2 : ltN y'.name y.name = LT := by unfold ltN; rw [← hLT, bytesLess_eq, ByteArray.toList_eq, ByteArray.toList_eq]
     have HBC := HBB.out
     rw [hp, HN1.out, HF0.out] at HBC
     dsimp only at HBC
     rw [hlt2] at HBC
     have HBX := Lib.hid HBC
     clear HBC hp hy' hmem' hk0 hlt2
     cases CK <;> cases LT <;> cases N1 <;> (
      refine wre ?_
      repeat (go_big_quiet_step (first | (go_at_call 206; rename_i X; exact Calls.ext_of (by have := may_any y.name X.w hsz; rw [HCK.out] at this; exact this)) | (go_at_call 140; rename_i X; exact Calls.ext_of (by have := mfind_any p s y.num X.w (HPV.out.below X.bel) HRI.out; rw [HFD.out] at this; exact this))))
      refine wpQuiet_nil ?_
      rintro w7 ⟨X, rfl⟩
      go_wp2_with fail
      go_meet
      exact ⟨congrArg Value.bool (by rw [HBX.out]; simp), X, rfl⟩)
   case rest =>
    obtain ⟨rfl, X, rfl⟩ := hcut
    generalize hZe : X.w = Z
    have hZ := hZe ▸ X.bel
    clear hZe X
    have hbx := Cv.next HAL4.out hZ
    have e0 := (hZ.cell (p := ⟨wr.heap.size, 0, .none⟩) hlt4).trans v0
    have HMZ := Lib.hid (HM.out.below hbx)
    have HWZ := Lib.hid (Cv.next HB.out hbx)
    clear hx v0 v1 hbx hZ HBB
    cases BD
    rotate_left
    ·have hr := HC.out
     rw [if_pos rfl] at hr
     have HR2 := Lib.hid hr
     clear hr
     go_wp2_with fail
     go_ret
     exact ⟨Cv.ret_bool HR2.out, HWZ.out⟩
    ·have hr := HC.out
     rw [if_neg (by simp)] at hr
     obtain ⟨b, hb⟩ : ∃ b, bktB y.name = b := ⟨_, rfl⟩
     rw [hb] at hr
     have hb8 : b < 8 := by rw [← hb]; exact bktB_lt _
     have HBK := Lib.hid hb
     have HR2 := Lib.hid hr
     clear hr hb
     go_wp2_with fail
     refine (bucketm_any y.name _ (Nat.le_trans hsz (by unfold maxLen; omega))).mono ?_
     rintro e w2 ⟨rfl, hb2⟩
     rw [HBK.out]
     have hbx := hb2
     have HMZ2 := Lib.hid (HMZ.out.below hb2)
     have HWZ2 := Lib.hid (Cv.next HWZ.out hb2)
     have hfb := HF.out b
     obtain ⟨cb, fz⟩ := HMZ2.out.get b hb8
     have b0 : (0 : Int) ≤ (b : Int) := by omega
     have b8 : (b : Int) < 8 := by omega
     have wf : IntKind.i64.wrap ((f b : Int) + 1) = (f b : Int) + 1 := by rw [IntKind.wrap_i64]; omega
     clear hbx hb2 e0
     by_cases h4 : 4 < f b + 1
     ·have hr := HR2.out
      rw [if_pos h4] at hr
      have HR3 := Lib.hid hr
      have q4 : decide ((4 : Int) < (f b : Int) + 1) = true := by simp; omega
      clear hr
      go_wp2_with fail
      go_ret
      exact ⟨Cv.ret_bool HR3.out, HWZ2.out.setCell (Nat.le_refl _) _⟩
     ·have hr := HR2.out
      rw [if_neg h4] at hr
      have HR3 := Lib.hid hr
      have q4 : decide ((4 : Int) < (f b : Int) + 1) = false := by simp; omega
      clear hr
      go_wp2_with fail
      go_roundw
      case rel => exact ⟨k + 1, fun j => if j = b then f j + 1 else f j, by go_num, by omega, HWZ2.out.setCell (Nat.le_refl _) _, HMZ2.out.set b hb8, fun j => by have := HF.out j; simp only; split <;> omega, by
       have e : prevN es (k + 1) = some y.name := by unfold prevN; rw [if_neg (by omega), Nat.add_sub_cancel, HY.out]; rfl
       rw [e]
       exact HR3.out⟩
      case measure => simp [intOf]; omega
  ·have : es.drop k = [] := List.drop_eq_nil_of_le (by have := HEr.out.1; omega)
   rw [this, entsG] at hc
   have HC := Lib.hid hc
   clear hc this
   go_wp2_with fail
   go_ret
   exact ⟨Cv.ret_bool HC.out, HB.out⟩
theorem RiseI.of_nums {made : List Int} {is : List Ino} (h : numsP made none is = true) : RiseI is := by
 have hp := numsP_pair h
 intro i j x y hij hx hy
 rw [List.pairwise_iff_getElem] at hp
 obtain ⟨h1, h2⟩ := List.getElem?_eq_some_iff.1 hx
 obtain ⟨h3, h4⟩ := List.getElem?_eq_some_iff.1 hy
 have := hp i j h1 h3 hij
 rw [h2, h4] at this
 exact this
def mInosV (s : St) : Bool := rootB s.inos && numsP s.made none s.inos && shapesM s.inos s.inos
set_option maxRecDepth 100000 in
set_option maxHeartbeats 8000000 in
theorem mayinos_any (p : Nat) (s : St) (w : World) (h : PtrAt w p s) :
  Calls Tryz.prog 119 #[.pointer (some ⟨p, 0, .none⟩)] w fun e w' => e = .returned (.bool (mInosV s)) ∧ Below w.heap.size w w' := by
 obtain ⟨A, n, c, E, m, d, D, k, e, hp, c0, c1, c2, hI, hD, hM, hn, _, hk⟩ := h.val
 obtain ⟨R, hR⟩ : ∃ R, mInosV s = R := ⟨_, rfl⟩
 rw [hR]
 unfold mInosV at hR
 have hnl := hI.1
 by_cases hn0 : n = 0
 ·go_enter Tryz.func119, Tryz.ntmps119
  go_wp2_with fail
  go_ret
  have hnil : s.inos = [] := List.eq_nil_of_length_eq_zero (by omega)
  exact ⟨by rw [← hR, hnil]; rfl, Below.refl _ _⟩
 obtain ⟨g, off, x, E0, m0, d0, rfl, hg, hx, hd, hmem, f0, f1, f2, f3, f4, f5⟩ := hI.get 0 (by omega)
 obtain ⟨xs, hxs⟩ : ∃ xs, s.inos = x :: xs := by
  cases e : s.inos with
  | nil => rw [e] at hx; cases hx
  | cons y ys => rw [e] at hx; injection hx with hx; subst hx; exact ⟨_, rfl⟩
 have hroot : rootB s.inos = (decide (x.num = 1) && x.dir) := by rw [hxs]; rfl
 have q0 : ((n : Int) == 0) = false := by rw [beq_eq_false_iff_ne]; omega
 have n1 : 0 < n := by omega
 have n2 : (0 : Int) < (n : Int) := by omega
 have f00 : w.cell? ⟨g, off, none⟩ = some (.int .i64 x.num) := by have := f0; simpa using this
 have f11 : w.cell? ⟨g, off + 1, none⟩ = some (.bool x.dir) := by have := f1; simpa using this
 rw [hroot] at hR
 have HR := Lib.hid hR
 have HI := Lib.hid hI
 have HXS := Lib.hid hxs
 have HP := Lib.hid h
 have HZ := Lib.hid h.sized
 clear hR hx hd hmem f0 f1 f2 f3 f4 f5 hxs hroot hn0 h
 by_cases hrt : x.num = 1 ∧ x.dir = true
 rotate_left
 ·have hr := HR.out
  have e1 : (decide (x.num = 1) && x.dir) = false := by
   rw [Bool.and_eq_false_iff, decide_eq_false_iff_not]
   by_cases h1 : x.num = 1
   ·right
    cases hd : x.dir
    ·rfl
    ·exact absurd ⟨h1, hd⟩ hrt
   ·exact Or.inl h1
  rw [e1, Bool.false_and, Bool.false_and] at hr
  have HR2 := Lib.hid hr
  obtain ⟨N1, hN1⟩ : ∃ N1, (x.num != 1) = N1 := ⟨_, rfl⟩
  obtain ⟨DX, hDX⟩ : ∃ DX, x.dir = DX := ⟨_, rfl⟩
  rw [hDX] at f11
  clear hr e1
  cases N1
  ·have : x.num = 1 := by simpa using hN1
   cases DX
   ·clear hrt
    go_enter Tryz.func119, Tryz.ntmps119
    go_wp2_with fail
    go_ret
    exact ⟨Cv.ret_bool HR2.out, Below.refl _ _⟩
   ·exact absurd ⟨this, hDX⟩ hrt
  ·clear hrt
   go_enter Tryz.func119, Tryz.ntmps119
   go_wp2_with fail
   go_ret
   exact ⟨Cv.ret_bool HR2.out, Below.refl _ _⟩
 obtain ⟨hx1, hx2⟩ := hrt
 rw [hx2] at f11
 have qn : (x.num != 1) = false := by rw [hx1]; rfl
 have hr := HR.out
 rw [decide_eq_true hx1, hx2, Bool.true_and, Bool.true_and] at hr
 obtain ⟨NV, hNV⟩ : ∃ NV, numsP s.made none s.inos = NV := ⟨_, rfl⟩
 rw [hNV] at hr
 have hnm : numsM s.made (s.inos.drop 1) x.num = NV := by rw [← hNV, HXS.out]; rfl
 have HNV := Lib.hid hNV
 have HNM := Lib.hid hnm
 have HR2 := Lib.hid hr
 clear hr hNV hnm hx1 hx2
 go_enter Tryz.func119, Tryz.ntmps119
 go_wp2_with fail
 go_loopw [3] (fun i wr => ∃ (q : Nat) (y : Ino), i = .int .i64 q ∧ 1 ≤ q ∧ q ≤ n ∧ Below w.heap.size w wr ∧ s.inos[q - 1]? = some y ∧ numsM s.made (s.inos.drop q) y.num = NV) (fun i _ => n - (intOf i).toNat)
 case atStart => exact ⟨1, x, rfl, by omega, by omega, Below.refl _ _, by rw [HXS.out]; rfl, HNM.out⟩
 case round =>
  obtain ⟨q, y, rfl, hq1, hqn, hbel, hy, hc⟩ := hrel
  have HB := Lib.hid hbel
  have HIr := Lib.hid (HI.out.below hbel)
  have HPr := Lib.hid (HP.out.below hbel)
  have r0 := (hbel.cell (p := ⟨p, 0, .none⟩) hp).trans c0
  have hX := @Ext.cell wr
  clear hbel
  by_cases hlt : q < n
  ·obtain ⟨j, rfl⟩ : ∃ j, q = j + 1 := ⟨q - 1, by omega⟩
   rw [Nat.add_sub_cancel] at hy
   obtain ⟨g', off', z, E2, m2, d2, hA', hg', hz, hd, hmem, e0, e1, e2, e3, e4, e5⟩ := HIr.out.get (j + 1) (by omega)
   injection hA' with hA'
   injection hA' with hA1 hA2
   subst hA1 hA2
   obtain ⟨g', off', y', E3, m3, d3, hA', hg3, hy', _, _, t0, _, _, _, _, _⟩ := HIr.out.get j (by omega)
   injection hA' with hA'
   injection hA' with hA1 hA2
   subst hA1 hA2
   have ey : y' = y := by rw [hy] at hy'; exact (Option.some.inj hy').symm
   subst ey
   rw [hd, numsM] at hc
   obtain ⟨GV, hGV⟩ : ∃ GV, givenV s.made z.num = GV := ⟨_, rfl⟩
   have hzn := HZ.out.nums.1 z hmem
   have HC := Lib.hid hc
   have HGV := Lib.hid hGV
   have HZ2 := Lib.hid hz
   have j0 : (0 : Int) ≤ (j : Int) + 1 := by omega
   have j1 : (j : Int) + 1 < (n : Int) := by omega
   have j2 : (0 : Int) ≤ (j : Int) := by omega
   have j3 : (j : Int) < (n : Int) := by omega
   have jw : IntKind.i64.wrap ((j : Int) + 1 - 1) = (j : Int) := by rw [IntKind.wrap_i64]; omega
   have jw2 : IntKind.i64.wrap (j : Int) = (j : Int) := by rw [IntKind.wrap_i64]; omega
   obtain ⟨LE, hLE⟩ : ∃ LE, decide (z.num ≤ y'.num) = LE := ⟨_, rfl⟩
   have HLE := Lib.hid hLE
   clear hc hGV hz hd hmem hy hy' e1 e2 e3 e4 e5
   go_wp2_with fail
   refine wre ?_
   cases LE
   ·repeat (go_big_quiet_step (first | (go_at_call 172; rename_i X; exact Calls.ext_of (by have := maynum_any p s z.num X.w (HPr.out.below X.bel) hzn.1 hzn.2.1; rw [HGV.out] at this; exact this))))
    refine wpQuiet_nil ?_
    rintro w7 ⟨X, rfl⟩
    have HB7 := Lib.hid (HB.out.trans (X.bel.mono HB.out.size))
    have hle : ¬ z.num ≤ y'.num := by have := HLE.out; rw [decide_eq_false_iff_not] at this; exact this
    clear hX
    cases GV
    ·have hc := HC.out
     rw [HGV.out, if_pos (.inr rfl)] at hc
     have hr := HR2.out
     rw [← hc, Bool.false_and] at hr
     have HR3 := Lib.hid hr
     clear hc hr
     go_wp2_with fail
     go_ret
     exact ⟨Cv.ret_bool HR3.out, HB7.out⟩
    ·have hc := HC.out
     rw [HGV.out, if_neg (by rintro (h | h); exact hle h; cases h)] at hc
     have HC3 := Lib.hid hc
     clear hc
     go_wp2_with fail
     go_roundw
     case rel => exact ⟨j + 1 + 1, z, by go_num, by omega, by omega, HB7.out, by rw [Nat.add_sub_cancel]; exact HZ2.out, HC3.out⟩
     case measure => simp [intOf]; omega
   ·repeat (go_big_quiet_step (fail))
    refine wpQuiet_nil ?_
    rintro w7 ⟨X, rfl⟩
    have HB7 := Lib.hid (HB.out.trans (X.bel.mono HB.out.size))
    have hle : z.num ≤ y'.num := by have := HLE.out; rw [decide_eq_true_eq] at this; exact this
    have hc := HC.out
    rw [if_pos (.inl hle)] at hc
    have hr := HR2.out
    rw [← hc, Bool.false_and] at hr
    have HR3 := Lib.hid hr
    clear hX hc hr hle
    go_wp2_with fail
    go_ret
    exact ⟨Cv.ret_bool HR3.out, HB7.out⟩
  ·have hnil : s.inos.drop q = [] := List.drop_eq_nil_of_le (by have := HI.out.1; omega)
   rw [hnil, numsM] at hc
   have HC := Lib.hid hc
   have q1 : decide ((q : Int) < (n : Int)) = false := by rw [decide_eq_false_iff_not]; omega
   have hnv := HNV.out
   rw [← hc] at hnv
   have HRI := Lib.hid (RiseI.of_nums hnv)
   have hr := HR2.out
   rw [← hc, Bool.true_and] at hr
   have HR3 := Lib.hid hr
   clear hc hnil hy hnv hr hX
   go_wp2_with fail
   clear q1
   go_loopw [77] (fun i wr2 => ∃ q : Nat, i = .int .i64 q ∧ q ≤ n ∧ Below w.heap.size w wr2 ∧ shapesM s.inos (s.inos.drop q) = R) (fun i _ => n - (intOf i).toNat)
   case atStart => exact ⟨0, rfl, by omega, HB.out, HR3.out⟩
   case round =>
    obtain ⟨q, rfl, hq, hbel2, hc⟩ := hrel
    have HB2 := Lib.hid hbel2
    have HI2 := Lib.hid (HI.out.below hbel2)
    have HP2 := Lib.hid (HP.out.below hbel2)
    clear hbel2
    by_cases hlt2 : q < n
    ·obtain ⟨g', off', z, E2, m2, d2, hA', hg', hz, hd, hmem, e0, e1, e2, e3, e4, e5⟩ := HI2.out.get q hlt2
     injection hA' with hA'
     injection hA' with hA1 hA2
     subst hA1 hA2
     rw [hd, shapesM] at hc
     have k0 : (0 : Int) ≤ (q : Int) := by omega
     have k1 : (q : Int) < (n : Int) := by omega
     have htx := (HZ.out.text z hmem).2
     have hm2 : m2 ≤ 1099511627776 := by have := e4.1; have := HZ.out.big; have := bulkE_le hz; omega
     obtain ⟨V2, hV2, v0, v1, v2, v3, hal4, hlt4⟩ := box_ino _ z.num z.dir E2 m2 d2 z.data
     have HAL4 := Lib.hid hal4
     have HPV := Lib.hid (HP2.out.below hal4)
     have HEV := Lib.hid (e4.below hal4)
     obtain ⟨EV, hEV⟩ : ∃ EV, entsV s.inos z.ents = EV := ⟨_, rfl⟩
     have HEVV := Lib.hid hEV
     have HEL := Lib.hid e4.1
     have HC2 := Lib.hid hc
     have HTX := Lib.hid htx
     have hX := @Ext.cell V2
     clear hal4 hEV hc hd hz e4 htx
     obtain ⟨DX, hDX⟩ : ∃ DX, z.dir = DX := ⟨_, rfl⟩
     rw [hDX] at v1 e1 hV2
     have HDX := Lib.hid hDX
     obtain ⟨DS, hDS⟩ : ∃ DS : Nat, z.data.size = DS := ⟨_, rfl⟩
     have HDS := Lib.hid hDS
     have HB4 := Lib.hid (Cv.next HB2.out HAL4.out)
     have hds : DS ≤ 140737488355328 := by rw [← hDS]; exact (HZ.out.text z hmem).1
     clear hDX
     cases DX
     ·by_cases hm0 : m2 = 0
      ·have qe : z.ents = [] := List.eq_nil_of_length_eq_zero (by have := HEL.out; omega)
       have q0 : decide ((0 : Int) < (m2 : Int)) = false := by rw [decide_eq_false_iff_not]; omega
       have q0n : decide (0 < m2) = false := by rw [decide_eq_false_iff_not]; omega
       by_cases hd2 : 256 < DS
       ·have q1 : decide ((256 : Int) < (DS : Int)) = true := by rw [decide_eq_true_eq]; omega
        have hc := HC2.out
        rw [if_neg (by rw [HDX.out]; decide), if_pos (.inr (by rw [HDS.out]; exact hd2))] at hc
        have HC3 := Lib.hid hc
        clear hc hm0 qe
        go_wp2_with fail
        go_ret
        exact ⟨Cv.ret_bool HC3.out, HB4.out⟩
       ·have q1 : decide ((256 : Int) < (DS : Int)) = false := by rw [decide_eq_false_iff_not]; omega
        have hc := HC2.out
        rw [if_neg (by rw [HDX.out]; decide), if_neg (by rintro (h | h); exact h qe; rw [HDS.out] at h; omega)] at hc
        have HC3 := Lib.hid hc
        clear hc hm0 qe
        go_wp2_with fail
        go_roundw
        case rel => exact ⟨q + 1, by go_num, by omega, HB4.out, HC3.out⟩
        case measure => simp [intOf]; omega
      ·have qe : z.ents ≠ [] := fun h => hm0 (by have := HEL.out; rw [h] at this; simpa using this.symm)
       have q0 : decide ((0 : Int) < (m2 : Int)) = true := by rw [decide_eq_true_eq]; omega
       have q0n : decide (0 < m2) = true := by rw [decide_eq_true_eq]; omega
       have hc := HC2.out
       rw [if_neg (by rw [HDX.out]; decide), if_pos (.inl qe)] at hc
       have HC3 := Lib.hid hc
       clear hc hm0 qe
       go_wp2_with fail
       go_ret
       exact ⟨Cv.ret_bool HC3.out, HB4.out⟩
     ·by_cases hd0 : DS = 0
      ·have qs : z.data.toList = [] := by
        rw [ByteArray.toList_eq]
        exact List.eq_nil_of_length_eq_zero (by have := HDS.out; rw [hd0] at this; exact this)
       have HD0 : Hid (z.data.size = 0) := Lib.hid (by rw [HDS.out]; exact hd0)
       clear hd0 hDS
       go_wp2_with fail
       refine (mayents_any p s z.ents E2 m2 d2 _ HPV.out HRI.out HEV.out hm2 HTX.out).mono ?_
       rintro e5 w5 ⟨rfl, hb5⟩
       rw [HEVV.out]
       have y1 : w5.cell? ⟨_, 1, .none⟩ = _ := (hb5.cell hlt4).trans v1
       have HB5 := Lib.hid (Cv.next HB4.out hb5)
       clear hb5
       cases EV
       ·have hc := HC2.out
        rw [if_pos HDX.out, if_pos (.inr HEVV.out)] at hc
        have HC3 := Lib.hid hc
        clear hc
        go_wp2_with fail
        go_ret
        exact ⟨Cv.ret_bool HC3.out, HB5.out⟩
       ·have hc := HC2.out
        rw [if_pos HDX.out, if_neg (by rintro (h | h); exact h HD0.out; rw [HEVV.out] at h; cases h)] at hc
        have HC3 := Lib.hid hc
        clear hc
        go_wp2_with fail
        go_roundw
        case rel => exact ⟨q + 1, by go_num, by omega, HB5.out, HC3.out⟩
        case measure => simp [intOf]; omega
      ·have qs : ¬ z.data.toList = [] := by
        intro h
        rw [ByteArray.toList_eq] at h
        apply hd0
        have h2 : z.data.size = z.data.data.toList.length := rfl
        rw [← HDS.out, h2, h]
        rfl
       have hc := HC2.out
       rw [if_pos HDX.out, if_pos (.inl (by rw [HDS.out]; exact hd0))] at hc
       have HC3 := Lib.hid hc
       clear hc
       go_wp2_with fail
       go_ret
       exact ⟨Cv.ret_bool HC3.out, HB4.out⟩
    ·have hnil : s.inos.drop q = [] := List.drop_eq_nil_of_le (by have := HI.out.1; omega)
     rw [hnil, shapesM] at hc
     have HC2 := Lib.hid hc
     have q2 : decide ((q : Int) < (n : Int)) = false := by rw [decide_eq_false_iff_not]; omega
     clear hc hnil
     go_wp2_with fail
     go_ret
     exact ⟨Cv.ret_bool HC2.out, HB2.out⟩
end Go.Proofs.YtilkhmhgjbhfnaaGreatDoor
