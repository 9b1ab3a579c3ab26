/- Parts of the proof, side by side: MoReachP, MoEnts2. -/
import Derived.Test.YthhceopnnappgaaGreatDoorM17
import Derived.Test.YthhceopnnappgaaGreatDoorM19
set_option linter.unusedVariables false
set_option linter.unusedSimpArgs false
namespace Go.Proofs.YthhceopnnappgaaGreatDoor
def Linked (is : List Ino) : Prop := ∀ x ∈ is, (x.dir = false → x.ents = []) ∧ ∀ e ∈ x.ents, 0 ≤ atV is e.num
structure FoundQ (is : List Ino) (todo : List Int) (cur : Nat) (rest : List En) (f : List Bool) : Prop where
 len : f.length = is.length
 sound : ∀ k, f.getD k false = true → Reach is k
 queue : ∀ t ∈ todo, ∃ k : Nat, t = (k : Int) ∧ f.getD k false = true
 closed : ∀ (k : Nat) (x : Ino), f.getD k false = true → is[k]? = some x → x.dir = true → ∀ e ∈ x.ents, ∀ j : Nat, atV is e.num = (j : Int) → f.getD j false = true ∨ (k : Int) ∈ todo ∨ (k = cur ∧ e ∈ rest)
 root : ∀ j : Nat, atV is 1 = (j : Int) → f.getD j false = true
theorem FoundQ.done {is : List Ino} {f : List Bool} {cur : Nat} (h : FoundQ is [] cur [] f) : f = reachV is :=
 Found.same ⟨h.len, h.sound, fun t ht => by simp at ht, fun k x hk hx hd e he j hj => by
  rcases h.closed k x hk hx hd e he j hj with h1 | h1 | h1
  ·exact .inl h1
  ·simp at h1
  ·simp at h1, fun j hj => .inl (h.root j hj)⟩
theorem FoundQ.start {is : List Ino} {x : Ino} (h0 : is[0]? = some x) (hn : x.num = 1) : FoundQ is [0] 0 [] ((List.replicate is.length false).set 0 true) := by
 have hl : 0 < is.length := (List.getElem?_eq_some_iff.1 h0).1
 have ha : atV is 1 = (0 : Nat) := by
  rcases atV_cases is 1 with ⟨_, h2⟩ | ⟨k, y, h1, h2, h3, h4⟩
  ·exact absurd hn (h2 x (List.mem_of_getElem? h0))
  ·rcases Nat.eq_zero_or_pos k with h | h
   ·rw [h1, h]
   ·exact absurd hn (h4 0 x h h0)
 have hf : ∀ k, ((List.replicate is.length false).set 0 true).getD k false = true → k = 0 := fun k hk => by
  rw [getD_set _ 0 k (by simpa using hl)] at hk
  split at hk
  ·assumption
  ·rw [List.getD_eq_getElem?_getD, List.getElem?_replicate] at hk
   split at hk <;> cases hk
 have hf0 : ((List.replicate is.length false).set 0 true).getD 0 false = true := by rw [getD_set _ 0 0 (by simpa using hl), if_pos rfl]
 refine ⟨by simp, fun k hk => ?_, fun t ht => ?_, fun k y hk hy hd e he j hj => ?_, fun j hj => ?_⟩
 ·rw [hf k hk]; exact .root 0 ha
 ·have : t = 0 := by simpa using ht
  exact ⟨0, this, hf0⟩
 ·rw [hf k hk]; exact .inr (.inl (by simp))
 ·have : j = 0 := by rw [ha] at hj; omega
  rw [this]; exact hf0
theorem FoundQ.take {is : List Ino} {t : Int} {ts : List Int} {f : List Bool} {c : Nat} (h : FoundQ is (t :: ts) c [] f) : ∃ (k : Nat) (x : Ino), t = (k : Int) ∧ is[k]? = some x ∧ f.getD k false = true ∧ FoundQ is ts k x.ents f := by
 obtain ⟨k, rfl, hk⟩ := h.queue t (by simp)
 have hkl : k < is.length := by
  rw [← h.len]
  apply Classical.byContradiction
  intro hn
  rw [List.getD_eq_getElem?_getD, List.getElem?_eq_none (by omega)] at hk
  cases hk
 refine ⟨k, is[k], rfl, List.getElem?_eq_getElem hkl, hk, ⟨h.len, h.sound, fun u hu => h.queue u (by simp [hu]), fun i y hi hy hd e he j hj => ?_, h.root⟩⟩
 rcases h.closed i y hi hy hd e he j hj with h1 | h1 | h1
 ·exact .inl h1
 ·rcases List.mem_cons.1 h1 with h2 | h2
  ·have e1 : i = k := by omega
   subst e1
   rw [List.getElem?_eq_getElem hkl] at hy
   have : is[i] = y := Option.some.inj hy
   rw [this]
   exact .inr (.inr ⟨rfl, he⟩)
  ·exact .inr (.inl h2)
 ·simp at h1
theorem FoundQ.old {is : List Ino} {ts : List Int} {k j : Nat} {e : En} {es : List En} {f : List Bool} (h : FoundQ is ts k (e :: es) f) (hj : atV is e.num = (j : Int)) (hf : f.getD j false = true) : FoundQ is ts k es f := by
 refine ⟨h.len, h.sound, h.queue, fun i y hi hy hd e2 he i2 hi2 => ?_, h.root⟩
 rcases h.closed i y hi hy hd e2 he i2 hi2 with h1 | h1 | ⟨h1, h2⟩
 ·exact .inl h1
 ·exact .inr (.inl h1)
 ·rcases List.mem_cons.1 h2 with h3 | h3
  ·subst h3
   have : i2 = j := by omega
   rw [this]; exact .inl hf
  ·exact .inr (.inr ⟨h1, h3⟩)
theorem FoundQ.new {is : List Ino} {ts : List Int} {k j : Nat} {x : Ino} {e : En} {es : List En} {f : List Bool} (h : FoundQ is ts k (e :: es) f) (hk : f.getD k false = true) (hx : is[k]? = some x) (hd : x.dir = true) (he : e ∈ x.ents) (hj : atV is e.num = (j : Int)) :
  FoundQ is (ts ++ [(j : Int)]) k es (f.set j true) := by
 have hjl : j < f.length := by
  rw [h.len]
  obtain ⟨y, hy, _⟩ := atV_lt hj
  exact (List.getElem?_eq_some_iff.1 hy).1
 have old : ∀ i, f.getD i false = true → (f.set j true).getD i false = true := fun i hi => by rw [getD_set f j i hjl]; split; rfl; exact hi
 have new : (f.set j true).getD j false = true := by rw [getD_set f j j hjl, if_pos rfl]
 refine ⟨by rw [List.length_set]; exact h.len, fun i hi => ?_, fun t ht => ?_, fun i y hi hy hd2 e2 he2 i2 hi2 => ?_, fun i hi => old i (h.root i hi)⟩
 ·rw [getD_set f j i hjl] at hi
  by_cases e1 : i = j
  ·subst e1
   exact .step k i x e (h.sound k hk) hx hd he hj
  ·rw [if_neg e1] at hi; exact h.sound i hi
 ·rcases List.mem_append.1 ht with h1 | h1
  ·obtain ⟨i, e1, e2⟩ := h.queue t h1
   exact ⟨i, e1, old i e2⟩
  ·exact ⟨j, by simpa using h1, new⟩
 ·by_cases e1 : i = j
  ·subst e1; exact .inr (.inl (by simp))
  ·rw [getD_set f j i hjl, if_neg e1] at hi
   rcases h.closed i y hi hy hd2 e2 he2 i2 hi2 with h1 | h1 | ⟨h1, h2⟩
   ·exact .inl (old _ h1)
   ·exact .inr (.inl (List.mem_append.2 (.inl h1)))
   ·rcases List.mem_cons.1 h2 with h3 | h3
    ·subst h3
     have : i2 = j := by omega
     rw [this]; exact .inl new
    ·exact .inr (.inr ⟨h1, h3⟩)
def unF : List Bool → Nat
 | [] => 0
 | b :: f => (if b then 0 else 1) + unF f
theorem unF_le : ∀ f : List Bool, unF f ≤ f.length
 | [] => Nat.le_refl _
 | b :: f => by
  have := unF_le f
  unfold unF
  rw [List.length_cons]
  split <;> omega
theorem unF_set : ∀ (f : List Bool) (k : Nat), k < f.length → f.getD k false = false → unF f = unF (f.set k true) + 1
 | [], _, h, _ => by simp at h
 | b :: f, 0, _, h => by
  have : b = false := by simpa using h
  subst this
  show 1 + unF f = 0 + unF f + 1
  omega
 | b :: f, k + 1, h, h2 => by
  have := unF_set f k (by simpa using h) (by simpa using h2)
  show (if b = true then 0 else 1) + unF f = (if b = true then 0 else 1) + unF (f.set k true) + 1
  omega
def partL (is : List Ino) (i q : Nat) (num : Int) : Nat := linkI (is.take i) num + (match is[i]? with | none => 0 | some x => linkE (x.ents.take q) num)
theorem linkE_take (es : List En) (q : Nat) (e : En) (num : Int) (h : es[q]? = some e) : linkE (es.take (q + 1)) num = linkE (es.take q) num + if e.num = num then 1 else 0 := by
 induction es generalizing q with
 | nil => simp at h
 | cons x xs ih =>
  cases q with
  | zero =>
   have : x = e := by simpa using h
   subst this
   simp [linkE]
  | succ q =>
   have := ih q (by simpa using h)
   simp only [List.take_succ_cons, linkE]
   rw [this]
   omega
theorem linkI_take (is : List Ino) (i : Nat) (x : Ino) (num : Int) (h : is[i]? = some x) : linkI (is.take (i + 1)) num = linkI (is.take i) num + if x.dir then linkE x.ents num else 0 := by
 induction is generalizing i with
 | nil => simp at h
 | cons y ys ih =>
  cases i with
  | zero =>
   have : y = x := by simpa using h
   subst this
   simp [linkI]
  | succ i =>
   have := ih i (by simpa using h)
   simp only [List.take_succ_cons, linkI]
   rw [this]
   omega
theorem partL_zero (is : List Ino) (num : Int) : partL is 0 0 num = 0 := by
 unfold partL
 cases is with
 | nil => rfl
 | cons x xs => simp [linkI, linkE]
theorem partL_entry {is : List Ino} {i q : Nat} {x : Ino} {e : En} (hx : is[i]? = some x) (he : x.ents[q]? = some e) (num : Int) : partL is i (q + 1) num = partL is i q num + if e.num = num then 1 else 0 := by
 unfold partL
 rw [hx]
 simp only
 rw [linkE_take _ _ _ _ he]
 omega
theorem partL_next {is : List Ino} (hl : Linked is) {i q : Nat} {x : Ino} (hx : is[i]? = some x) (hq : x.ents.length ≤ q) (num : Int) : partL is (i + 1) 0 num = partL is i q num := by
 unfold partL
 rw [hx, linkI_take _ _ _ _ hx]
 simp only
 rw [List.take_of_length_le hq]
 have h0 : (match is[i + 1]? with | none => 0 | some x => linkE (x.ents.take 0) num) = 0 := by
  cases is[i + 1]? with
  | none => rfl
  | some y => simp [linkE]
 rw [h0]
 cases hd : x.dir
 ·rw [(hl x (List.mem_of_getElem? hx)).1 hd]
  simp [linkE]
 ·simp
theorem partL_all {is : List Ino} {i : Nat} (h : is.length ≤ i) (num : Int) : partL is i 0 num = linkI is num := by
 unfold partL
 rw [List.take_of_length_le h, List.getElem?_eq_none h]
 simp
theorem linkE_le : ∀ (es : List En) (num : Int), linkE es num ≤ es.length
 | [], _ => Nat.le_refl _
 | e :: es, num => by
  have := linkE_le es num
  unfold linkE
  rw [List.length_cons]
  split <;> omega
theorem linkI_le : ∀ (is : List Ino) (num : Int), linkI is num ≤ bulkE is
 | [], _ => Nat.le_refl _
 | x :: xs, num => by
  have h1 := linkI_le xs num
  have h2 := linkE_le x.ents num
  have h3 : bulkE (x :: xs) = x.ents.length + bulkE xs := rfl
  unfold linkI
  rw [h3]
  split <;> omega
theorem bulkE_take (is : List Ino) (i : Nat) (x : Ino) (h : is[i]? = some x) : bulkE (is.take i) + x.ents.length ≤ bulkE is := by
 induction is generalizing i with
 | nil => simp at h
 | cons y ys ih =>
  have h3 : bulkE (y :: ys) = y.ents.length + bulkE ys := rfl
  cases i with
  | zero =>
   have : y = x := by simpa using h
   subst this
   rw [h3, List.take_zero]
   have : bulkE [] = 0 := rfl
   omega
  | succ i =>
   have := ih i (by simpa using h)
   rw [List.take_succ_cons, h3]
   have h4 : bulkE (y :: ys.take i) = y.ents.length + bulkE (ys.take i) := rfl
   omega
theorem partL_le (is : List Ino) (i q : Nat) (num : Int) : partL is i q num ≤ bulkE is := by
 unfold partL
 cases h : is[i]? with
 | none =>
  have : is.length ≤ i := List.getElem?_eq_none_iff.1 h
  rw [List.take_of_length_le this]
  have := linkI_le is num
  simp only
  omega
 | some x =>
  have h1 := bulkE_take is i x h
  have h2 := linkI_le (is.take i) num
  have h3 := linkE_le (x.ents.take q) num
  have h4 : (x.ents.take q).length ≤ x.ents.length := by simp; omega
  simp only
  omega
end Go.Proofs.YthhceopnnappgaaGreatDoor
namespace Go.Proofs.YthhceopnnappgaaGreatDoor
open Go.RowKit
set_option maxRecDepth 100000 in
set_option maxHeartbeats 8000000 in
theorem mayents_any (p : Nat) (s : St) (es : List En) (E : Option Addr) (m2 d2 : Nat) (w : World) (h : PtrAt w p s) (hr : RiseI s.inos) (hE : EntsAt none w E m2 es) (hm2 : m2 ≤ 1099511627776) (htx : ∀ e ∈ es, e.name.size ≤ 140737488355328) :
  Calls Tryz.prog 77 #[.pointer (some ⟨p, 0, .none⟩), .slice E m2 d2] w fun e w' => e = .returned (.bool (entsV s.inos es)) ∧ Below w.heap.size w w' := by
 obtain ⟨R, hR⟩ : ∃ R, entsV s.inos es = R := ⟨_, rfl⟩
 rw [hR]
 unfold entsV at hR
 obtain ⟨V, hV, hmany, hal3⟩ := many_arr w 137
 have HP := Lib.hid h
 have HRI := Lib.hid hr
 have HE := Lib.hid hE
 have HAL3 := Lib.hid hal3
 have HR := Lib.hid hR
 have HTX := Lib.hid htx
 have HMY := Lib.hid hmany
 clear h hr hE hal3 hR htx hmany
 go_enter Tryz.func77, Tryz.ntmps77
 go_wp2_with fail
 clear hV
 go_loopw [11] (fun i wr => ∃ (k : Nat) (f : Nat → Nat), i = .int .i64 k ∧ k ≤ m2 ∧ Below w.heap.size w wr ∧ ManyT wr w.heap.size f ∧ (∀ j, f j ≤ k) ∧ entsG s.inos (es.drop k) (prevN es k) f = R) (fun i _ => m2 - (intOf i).toNat)
 case atStart => exact ⟨0, fun _ => 0, rfl, by omega, HAL3.out, HMY.out, fun _ => Nat.le_refl _, HR.out⟩
 case round =>
  obtain ⟨k, f, rfl, hk, hbel, hmy, hfk, hc⟩ := hrel
  have HB := Lib.hid hbel
  have HM := Lib.hid hmy
  have HF := Lib.hid hfk
  have HPr := Lib.hid (HP.out.below hbel)
  have HEr := Lib.hid (HE.out.below hbel)
  clear hbel hmy hfk
  by_cases hlt : k < m2
  ·obtain ⟨g, off, y, rfl, hg, hy, hd, hmem, e0, e1⟩ := HEr.out.get k hlt
   rw [hd, entsG] at hc
   have hsz := HTX.out y hmem
   have k0 : (0 : Int) ≤ (k : Int) := by omega
   have k1 : (k : Int) < (m2 : Int) := by omega
   obtain ⟨BD, hBD⟩ : ∃ BD, entBad s.inos (prevN es k) y = BD := ⟨_, rfl⟩
   rw [hBD] at hc
   have HBD := Lib.hid hBD
   have HC := Lib.hid hc
   have HY := Lib.hid hy
   clear hBD
   clear hc hd hmem hy
   obtain ⟨V2, hV2, v0, v1, hal4, hlt4⟩ := box_en wr y.name y.num
   have HAL4 := Lib.hid hal4
   have HPV := Lib.hid (HPr.out.below hal4)
   have HEV := Lib.hid (HEr.out.below hal4)
   clear hal4
   go_upto_region 5 with fail
   have hx : ∀ (X : Ext V2) (p : Addr), (V2.cell? p).isSome = true → X.w.cell? p = V2.cell? p := fun X p h => X.cell p h
   clear hV2 e0 e1
   obtain ⟨CK, hCK⟩ : ∃ CK, mayL y.name.data.toList = CK := ⟨_, rfl⟩
   have HCK := Lib.hid hCK
   obtain ⟨FD, hFD⟩ : ∃ FD, atV s.inos y.num = FD := ⟨_, rfl⟩
   have HFD := Lib.hid hFD
   have hbd : BD = (!CK || (match prevN es k with | none => false | some q => !ltN q y.name) || decide (y.num = 1) || decide (FD < 0)) := by
    rw [← HBD.out, ← hCK, ← hFD]; unfold entBad chkB mayL
    cases hz : checkL y.name.data.toList <;> rfl
   have HBB := Lib.hid hbd
   clear hCK hFD hbd
   go_cut [46] (fun c wx => c = .bool BD ∧ ∃ X : Ext V2, wx = X.w)
   case first =>
    obtain ⟨N1, hN1⟩ : ∃ N1, (y.num == 1) = N1 := ⟨_, rfl⟩
    have hN1' : decide (y.num = 1) = N1 := by rw [← hN1]; rfl
    have HN1 := Lib.hid hN1'
    obtain ⟨F0, hF0⟩ : ∃ F0, decide (FD < 0) = F0 := ⟨_, rfl⟩
    have HF0 := Lib.hid hF0
    by_cases hk0 : k = 0
    ·have q1 : decide ((0 : Int) < (k : Int)) = false := by rw [decide_eq_false_iff_not]; omega
     have q1n : decide (0 < k) = false := by rw [decide_eq_false_iff_not]; omega
     have hp : prevN es k = none := if_pos hk0
     have HBC := HBB.out
     rw [hp, HN1.out, HF0.out] at HBC
     have HBX := Lib.hid HBC
     clear HBC hp hk0
     cases CK <;> cases N1 <;> (
      refine wre ?_
      repeat (go_big_quiet_step (first | (go_at_call 105; rename_i X; exact Calls.ext_of (by have := may_any y.name X.w hsz; rw [HCK.out] at this; exact this)) | (go_at_call 78; rename_i X; exact Calls.ext_of (by have := mfind_any p s y.num X.w (HPV.out.below X.bel) HRI.out; rw [HFD.out] at this; exact this))))
      refine wpQuiet_nil ?_
      rintro w7 ⟨X, rfl⟩
      go_wp2_with fail
      go_meet
      exact ⟨congrArg Value.bool (by rw [HBX.out]; simp), X, rfl⟩)
    ·obtain ⟨j, rfl⟩ : ∃ j, k = j + 1 := ⟨k - 1, by omega⟩
     have q1 : decide ((0 : Int) < ((j + 1 : Nat) : Int)) = true := by rw [decide_eq_true_eq]; omega
     have q1b : decide ((0 : Int) < (j : Int) + 1) = true := by rw [decide_eq_true_eq]; omega
     obtain ⟨g', off', y', hA', hg', hy', _, hmem', f0, f1⟩ := HEV.out.get j (by omega)
     injection hA' with hA'
     injection hA' with hA1 hA2
     subst hA1 hA2
     have hp : prevN es (j + 1) = some y'.name := by unfold prevN; rw [if_neg (by omega), Nat.add_sub_cancel, hy']; rfl
     have j0 : (0 : Int) ≤ (j : Int) := by omega
     have j1 : (j : Int) < (m2 : Int) := by omega
     have jw : IntKind.i64.wrap ((j : Int) + 1 - 1) = (j : Int) := by rw [IntKind.wrap_i64]; omega
     obtain ⟨LT, hLT⟩ : ∃ LT, Op.bytesLess y'.name.toList y.name.toList = LT := ⟨_, rfl⟩
     have hlt2 : ltN y'.name y.name = LT := by unfold ltN; rw [← hLT, bytesLess_eq, ByteArray.toList_eq, ByteArray.toList_eq]
     have HBC := HBB.out
     rw [hp, HN1.out, HF0.out] at HBC
     dsimp only at HBC
     rw [hlt2] at HBC
     have HBX := Lib.hid HBC
     clear HBC hp hy' hmem' hk0 hlt2
     cases CK <;> cases LT <;> cases N1 <;> (
      refine wre ?_
      repeat (go_big_quiet_step (first | (go_at_call 105; rename_i X; exact Calls.ext_of (by have := may_any y.name X.w hsz; rw [HCK.out] at this; exact this)) | (go_at_call 78; rename_i X; exact Calls.ext_of (by have := mfind_any p s y.num X.w (HPV.out.below X.bel) HRI.out; rw [HFD.out] at this; exact this))))
      refine wpQuiet_nil ?_
      rintro w7 ⟨X, rfl⟩
      go_wp2_with fail
      go_meet
      exact ⟨congrArg Value.bool (by rw [HBX.out]; simp), X, rfl⟩)
   case rest =>
    obtain ⟨rfl, X, rfl⟩ := hcut
    generalize hZe : X.w = Z
    have hZ := hZe ▸ X.bel
    clear hZe X
    have hbx := Cv.next HAL4.out hZ
    have e0 := (hZ.cell (p := ⟨wr.heap.size, 0, .none⟩) hlt4).trans v0
    have HMZ := Lib.hid (HM.out.below hbx)
    have HWZ := Lib.hid (Cv.next HB.out hbx)
    clear hx v0 v1 hbx hZ HBB
    cases BD
    rotate_left
    ·have hr := HC.out
     rw [if_pos rfl] at hr
     have HR2 := Lib.hid hr
     clear hr
     go_wp2_with fail
     go_ret
     exact ⟨Cv.ret_bool HR2.out, HWZ.out⟩
    ·have hr := HC.out
     rw [if_neg (by simp)] at hr
     obtain ⟨b, hb⟩ : ∃ b, bktB y.name = b := ⟨_, rfl⟩
     rw [hb] at hr
     have hb8 : b < 8 := by rw [← hb]; exact bktB_lt _
     have HBK := Lib.hid hb
     have HR2 := Lib.hid hr
     clear hr hb
     go_wp2_with fail
     refine (bucketm_any y.name _ (Nat.le_trans hsz (by unfold maxLen; omega))).mono ?_
     rintro e w2 ⟨rfl, hb2⟩
     rw [HBK.out]
     have hbx := hb2
     have HMZ2 := Lib.hid (HMZ.out.below hb2)
     have HWZ2 := Lib.hid (Cv.next HWZ.out hb2)
     have hfb := HF.out b
     obtain ⟨cb, fz⟩ := HMZ2.out.get b hb8
     have b0 : (0 : Int) ≤ (b : Int) := by omega
     have b8 : (b : Int) < 8 := by omega
     have wf : IntKind.i64.wrap ((f b : Int) + 1) = (f b : Int) + 1 := by rw [IntKind.wrap_i64]; omega
     clear hbx hb2 e0
     by_cases h4 : 4 < f b + 1
     ·have hr := HR2.out
      rw [if_pos h4] at hr
      have HR3 := Lib.hid hr
      have q4 : decide ((4 : Int) < (f b : Int) + 1) = true := by simp; omega
      clear hr
      go_wp2_with fail
      go_ret
      exact ⟨Cv.ret_bool HR3.out, HWZ2.out.setCell (Nat.le_refl _) _⟩
     ·have hr := HR2.out
      rw [if_neg h4] at hr
      have HR3 := Lib.hid hr
      have q4 : decide ((4 : Int) < (f b : Int) + 1) = false := by simp; omega
      clear hr
      go_wp2_with fail
      go_roundw
      case rel => exact ⟨k + 1, fun j => if j = b then f j + 1 else f j, by go_num, by omega, HWZ2.out.setCell (Nat.le_refl _) _, HMZ2.out.set b hb8, fun j => by have := HF.out j; simp only; split <;> omega, by
       have e : prevN es (k + 1) = some y.name := by unfold prevN; rw [if_neg (by omega), Nat.add_sub_cancel, HY.out]; rfl
       rw [e]
       exact HR3.out⟩
      case measure => simp [intOf]; omega
  ·have : es.drop k = [] := List.drop_eq_nil_of_le (by have := HEr.out.1; omega)
   rw [this, entsG] at hc
   have HC := Lib.hid hc
   clear hc this
   go_wp2_with fail
   go_ret
   exact ⟨Cv.ret_bool HC.out, HB.out⟩
end Go.Proofs.YthhceopnnappgaaGreatDoor
