/- Parts of the proof, side by side: LaPutP, FsByFd2. -/
import Derived.Test.YthhceopnnappgaaGreatDoorM08
import Derived.Laws.BitsAllLaws
import Derived.RegionTactic
import Derived.Test.YthhceopnnappgaaGreatDoorM26
import Derived.Test.YthhceopnnappgaaGreatDoorM07
import Derived.Test.YthhceopnnappgaaGreatDoorM29
import Derived.Test.YthhceopnnappgaaGreatDoorFsByFd
import Derived.Test.YthhceopnnappgaaGreatDoorFsByFdW
set_option linter.unusedVariables false
set_option linter.unusedSimpArgs false
namespace Go.Proofs.YthhceopnnappgaaGreatDoor
theorem madeG_all : ∀ (l : List Int), madeG l = true → ∀ x ∈ l, 0 ≤ x ∧ x ≤ 32
 | [], _, x, hx => by simp at hx
 | y :: l, h, x, hx => by
  unfold madeG at h
  split at h
  ·cases h
  ·rcases List.mem_cons.1 hx with h1 | h1
   ·subst h1; omega
   ·exact madeG_all l h x h1
theorem entsG_names (is : List Ino) : ∀ (es : List En) (p : Option ByteArray) (many : Nat → Nat), entsG is es p many = true → ∀ e ∈ es, e.name.size ≤ 12
 | [], _, _, _, e, he => by simp at he
 | y :: es, p, many, h, e, he => by
  unfold entsG at h
  split at h
  ·cases h
  ·rename_i hb
   split at h
   ·cases h
   ·rcases List.mem_cons.1 he with h1 | h1
    ·subst h1
     apply Classical.byContradiction
     intro hn
     apply hb
     have hs : e.name.data.toList.length = e.name.size := Array.length_toList
     have hc : chkB e.name = 801 := by
      unfold chkB checkL
      rw [if_pos (by omega)]
     unfold entBad
     rw [hc]
     simp
    ·exact entsG_names is es _ _ h e h1
theorem shapes_more (is : List Ino) : ∀ (xs : List Ino), shapesM is xs = true → ∀ x ∈ xs, x.data.size ≤ 256 ∧ ∀ e ∈ x.ents, e.name.size ≤ 12
 | [], _, x, hx => by simp at hx
 | y :: xs, h, x, hx => by
  unfold shapesM at h
  by_cases hd : y.dir = true
  ·rw [if_pos hd] at h
   split at h
   ·cases h
   ·rename_i hc
    rcases List.mem_cons.1 hx with h1 | h1
    ·subst h1
     have : entsV is x.ents = true := by
      cases hv : entsV is x.ents
      ·exact absurd (.inr hv) hc
      ·rfl
     refine ⟨?_, entsG_names is _ _ _ this⟩
     have : x.data.size = 0 := by
      apply Classical.byContradiction
      intro hn
      exact hc (.inl hn)
     omega
    ·exact shapes_more is xs h x h1
  ·rw [if_neg hd] at h
   split at h
   ·cases h
   ·rename_i hc
    rcases List.mem_cons.1 hx with h1 | h1
    ·subst h1
     have he : x.ents = [] := by
      apply Classical.byContradiction
      intro hn
      exact hc (.inl hn)
     refine ⟨?_, by rw [he]; simp⟩
     apply Classical.byContradiction
     intro hn
     exact hc (.inr (by omega))
    ·exact shapes_more is xs h x h1
structure MayOk (s : St) : Prop where
 made : 1 ≤ s.made.length ∧ s.made.length ≤ 8 ∧ ∀ m ∈ s.made, 0 ≤ m ∧ m ≤ 32
 inos : 1 ≤ s.inos.length ∧ s.inos.length ≤ 257
 nums : ∀ x ∈ s.inos, 1 ≤ x.num ∧ x.num ≤ 257
 data : ∀ x ∈ s.inos, x.data.size ≤ 256 ∧ ∀ e ∈ x.ents, e.name.size ≤ 12
 linked : Linked s.inos
 rise : RiseI s.inos
theorem may_facts {s : St} (h : mayV s = true) : MayOk s := by
 rw [mayV_eq, Bool.and_eq_true, Bool.and_eq_true, Bool.and_eq_true] at h
 obtain ⟨⟨⟨h1, h2⟩, _⟩, _⟩ := h
 have hm : mMadeV s = true := h1
 have hi : mInosV s = true := h2
 obtain ⟨f1, f2, f3, x0, f4, f5⟩ := mInos_facts hm hi
 rw [Bool.and_eq_true, Bool.and_eq_true, decide_eq_true_eq, decide_eq_true_eq] at h1
 rw [Bool.and_eq_true, Bool.and_eq_true] at h2
 refine ⟨⟨h1.1.1, h1.1.2, madeG_all _ h1.2⟩, ⟨?_, f3⟩, ?_, shapes_more _ _ h2.2, f2, f1⟩
 ·have := (List.getElem?_eq_some_iff.1 f4).1
  omega
 ·cases e : s.inos with
  | nil => intro x hx; simp at hx
  | cons y ys =>
   rw [e] at f4 h2
   have hy : y = x0 := by simpa using f4
   subst hy
   obtain ⟨p1, _, p3⟩ := nums_pair s.made ys y.num h2.1.2
   intro x hx
   rcases List.mem_cons.1 hx with h3 | h3
   ·subst h3; omega
   ·have := p1 x h3
    have := given_le h1.2 (p3 x h3)
    omega
end Go.Proofs.YthhceopnnappgaaGreatDoor
namespace Go.Proofs.YthhceopnnappgaaGreatDoor
open Go.RowKit
theorem opensG_mem (is : List Ino) (n : Nat) : ∀ (ds : List Ds) (q : Option Ds), opensG is n ds q = true → ∀ d ∈ ds, dsBad is n d = false
 | [], _, _, d, hd => by simp at hd
 | y :: ds, q, h, d, hd => by
  unfold opensG at h
  split at h
  ·cases h
  ·rename_i h1
   split at h
   ·cases h
   ·rcases List.mem_cons.1 hd with rfl | hd
    ·simpa using h1
    ·exact opensG_mem is n ds _ h d hd
theorem may_opens {s : St} (h : mayV s = true) : ∀ d ∈ s.opn, 0 ≤ d.core ∧ d.core < (s.made.length : Int) ∧ 0 ≤ d.fd ∧ d.fd < 4 ∧ ∃ (i : Nat) (x : Ino), atV s.inos d.num = (i : Int) ∧ s.inos[i]? = some x ∧ x.num = d.num ∧ x.dir = false := by
 intro d hd
 have ho : opensV s = true := by
  unfold mayV at h
  simp only [Bool.and_eq_true] at h
  exact h.1.1.1.2
 have h1 := opensG_mem _ _ _ _ ho d hd
 unfold dsBad at h1
 simp only [Bool.or_eq_false_iff, decide_eq_false_iff_not] at h1
 obtain ⟨⟨⟨⟨a1, a2⟩, a3⟩, a4⟩, a5⟩ := h1
 refine ⟨by omega, by omega, by omega, by omega, ?_⟩
 rcases atV_cases s.inos d.num with ⟨h2, _⟩ | ⟨k, x, h2, h3, h4, _⟩
 ·rw [h2] at a5
  simp [inoAt] at a5
 ·rw [h2, inoAt_nat, h3] at a5
  exact ⟨k, x, h2, h3, h4, a5⟩
theorem fdV_mem : ∀ (ds : List Ds) (core fd : Int), fdV ds core fd ≠ 0 → ∃ d ∈ ds, d.num = fdV ds core fd ∧ d.core = core ∧ d.fd = fd
 | [], _, _, h => absurd rfl h
 | y :: ds, core, fd, h => by
  unfold fdV at h ⊢
  split
  ·rename_i h1
   exact ⟨y, List.mem_cons_self, rfl, h1.1, h1.2⟩
  ·rename_i h1
   rw [if_neg h1] at h
   obtain ⟨d, h2, h3⟩ := fdV_mem ds core fd h
   exact ⟨d, List.mem_cons_of_mem _ h2, h3⟩
theorem dataAt_of {is : List Ino} {num : Int} {i : Nat} {x : Ino} (h1 : atV is num = (i : Int)) (h2 : is[i]? = some x) : dataAt is num = x.data := by
 unfold dataAt
 rw [h1, inoAt_nat, h2]
theorem setData_of {is : List Ino} {num : Int} {i : Nat} {x : Ino} (h1 : atV is num = (i : Int)) (h2 : is[i]? = some x) (d : ByteArray) : setData is num d = is.set i { x with data := d } := by
 unfold setData
 rw [h1, Int.toNat_natCast, modify_set _ _ _ _ h2]
theorem byfd_any (B p : Nat) (s : St) (c : Ca) (w : World) (h : Own B w p s) (hB : B ≤ w.heap.size) (hm : mayV s = true) (hk : (3 ≤ c.kind ∧ c.kind ≤ 7) ∨ c.kind = 15) :
  Calls Tryz.prog 68 #[.pointer (some ⟨p, 0, .none⟩), caV c] w fun e w' => e = .returned (resV (byFdV s c).2) ∧ Own B w' p (byFdV s c).1 ∧ Below B w w' ∧ Aside p w w' := by
 obtain ⟨kind, core, fd, off, num, path, path2, data⟩ := c
 obtain ⟨NU, hNU⟩ : ∃ NU, fdV s.opn core fd = NU := ⟨_, rfl⟩
 have hdata := (may_facts hm).data
 by_cases h0 : NU = 0
 ·have e : byFdV s ⟨kind, core, fd, off, num, path, path2, data⟩ = (s, { code := 4 }) := by
   unfold byFdV
   rw [if_pos (by rw [hNU]; exact h0)]
  rw [e]
  exact byfd_none B p s core fd off num path path2 data NU kind w h hB hNU h0
 ·obtain ⟨d, hd, hdn, hdc, hdf⟩ := fdV_mem s.opn core fd (by rw [hNU]; exact h0)
  obtain ⟨_, _, _, _, i, x, hat, hx, hxn, hxd⟩ := may_opens hm d hd
  rw [hdn, hNU] at hat
  have hxs : x.data.size ≤ 256 := (hdata x (List.mem_of_getElem? hx)).1
  have e1 := dataAt_of hat hx
  have e2 := setData_of hat hx
  unfold byFdV
  simp only
  rw [hNU, if_neg h0, e1]
  have hk' : kind = 3 ∨ kind = 4 ∨ kind = 5 ∨ kind = 6 ∨ kind = 7 ∨ kind = 15 := by
   have : (3 ≤ kind ∧ kind ≤ 7) ∨ kind = 15 := hk
   omega
  rcases hk' with rfl | rfl | rfl | rfl | rfl | rfl
  ·exact byfd_close B p s core fd off num path path2 data NU i x w h hB hNU h0 hat hx
  ·rw [if_neg (by decide), if_pos rfl]
   by_cases hb : off < 0 ∨ 256 < off ∨ num < 0 ∨ 256 < num
   ·rw [if_pos hb]
    exact byfd_read_bad B p s core fd off num path path2 data NU i x w h hB hNU h0 hat hx hb
   ·rw [if_neg hb]
    obtain ⟨o, rfl⟩ : ∃ o : Nat, off = (o : Int) := ⟨off.toNat, by omega⟩
    obtain ⟨q, rfl⟩ : ∃ q : Nat, num = (q : Int) := ⟨num.toNat, by omega⟩
    exact byfd_read B p s core fd o q path path2 data NU i x w h hB hNU h0 hat hx hxs (by omega) (by omega)
  ·rw [if_neg (by decide), if_neg (by decide), if_pos rfl]
   by_cases hb : off < 0 ∨ 256 < off ∨ 256 < data.size
   ·rw [if_pos hb]
    exact byfd_write_bad B p s core fd off num path path2 data NU i x w h hB hNU h0 hat hx hb
   ·rw [if_neg hb]
    obtain ⟨o, rfl⟩ : ∃ o : Nat, off = (o : Int) := ⟨off.toNat, by omega⟩
    by_cases hf : 256 < (o : Int) + (data.size : Int)
    ·rw [if_pos hf]
     exact byfd_write_full B p s core fd o num path path2 data NU i x w h hB hNU h0 hat hx (by omega) (by omega) (by omega)
    ·rw [if_neg hf]
     by_cases h9 : data.size = 0
     ·rw [if_pos h9]
      have hd0 : data = ⟨#[]⟩ := by
       cases data with | mk dd =>
       have : dd.size = 0 := h9
       rw [Array.size_eq_zero_iff.1 this]
      exact byfd_write_none B p s core fd o num path path2 data NU i x w h hB hNU h0 hat hx (by omega) hd0
     ·rw [if_neg h9, e2]
      exact byfd_write B p s core fd o num path path2 data NU i x w h hB hNU h0 hat hx hxs (by omega) (by omega) h9
  ·rw [if_neg (by decide), if_neg (by decide), if_neg (by decide), if_pos rfl]
   by_cases hb : num < 0 ∨ 256 < num
   ·rw [if_pos hb]
    exact byfd_trunc_bad B p s core fd off num path path2 data NU i x w h hB hNU h0 hat hx hb
   ·rw [if_neg hb]
    obtain ⟨o, rfl⟩ : ∃ o : Nat, num = (o : Int) := ⟨num.toNat, by omega⟩
    rw [e2]
    exact byfd_trunc2 B p s core fd off path path2 data NU i x w h hB hNU h0 hat hx o (by omega)
  ·rw [if_neg (by decide), if_neg (by decide), if_neg (by decide), if_neg (by decide), if_pos rfl]
   exact byfd_size B p s core fd off num path path2 data NU i x w h hB hNU h0 hat hx
  ·rw [if_neg (by decide), if_neg (by decide), if_neg (by decide), if_neg (by decide), if_neg (by decide)]
   exact byfd_sync B p s core fd off num path path2 data NU i x w h hB hNU h0 hat hx
end Go.Proofs.YthhceopnnappgaaGreatDoor
