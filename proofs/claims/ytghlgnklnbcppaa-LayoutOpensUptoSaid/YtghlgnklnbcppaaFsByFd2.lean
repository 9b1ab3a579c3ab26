/- byFd of the document: by its contract, at a state that may be. -/
import Derived.Test.YtghlgnklnbcppaaFsByFd
import Derived.Test.YtghlgnklnbcppaaFsByFdW
import Derived.Test.YtghlgnklnbcppaaM10
set_option linter.unusedVariables false
set_option linter.unusedSimpArgs false
namespace Go.Proofs.Ytghlgnklnbcppaa
open Go.RowKit
theorem opensG_mem (is : List Ino) (n : Nat) : ∀ (ds : List Ds) (q : Option Ds), opensG is n ds q = true → ∀ d ∈ ds, dsBad is n d = false
 | [], _, _, d, hd => by simp at hd
 | y :: ds, q, h, d, hd => by
  unfold opensG at h
  split at h
  ·cases h
  ·rename_i h1
   split at h
   ·cases h
   ·rcases List.mem_cons.1 hd with rfl | hd
    ·simpa using h1
    ·exact opensG_mem is n ds _ h d hd
theorem may_opens {s : St} (h : mayV s = true) : ∀ d ∈ s.opn, 0 ≤ d.core ∧ d.core < (s.made.length : Int) ∧ 0 ≤ d.fd ∧ d.fd < 4 ∧ ∃ (i : Nat) (x : Ino), atV s.inos d.num = (i : Int) ∧ s.inos[i]? = some x ∧ x.num = d.num ∧ x.dir = false := by
 intro d hd
 have ho : opensV s = true := by
  unfold mayV at h
  simp only [Bool.and_eq_true] at h
  exact h.1.1.1.2
 have h1 := opensG_mem _ _ _ _ ho d hd
 unfold dsBad at h1
 simp only [Bool.or_eq_false_iff, decide_eq_false_iff_not] at h1
 obtain ⟨⟨⟨⟨a1, a2⟩, a3⟩, a4⟩, a5⟩ := h1
 refine ⟨by omega, by omega, by omega, by omega, ?_⟩
 rcases atV_cases s.inos d.num with ⟨h2, _⟩ | ⟨k, x, h2, h3, h4, _⟩
 ·rw [h2] at a5
  simp [inoAt] at a5
 ·rw [h2, inoAt_nat, h3] at a5
  exact ⟨k, x, h2, h3, h4, a5⟩
theorem fdV_mem : ∀ (ds : List Ds) (core fd : Int), fdV ds core fd ≠ 0 → ∃ d ∈ ds, d.num = fdV ds core fd ∧ d.core = core ∧ d.fd = fd
 | [], _, _, h => absurd rfl h
 | y :: ds, core, fd, h => by
  unfold fdV at h ⊢
  split
  ·rename_i h1
   exact ⟨y, List.mem_cons_self, rfl, h1.1, h1.2⟩
  ·rename_i h1
   rw [if_neg h1] at h
   obtain ⟨d, h2, h3⟩ := fdV_mem ds core fd h
   exact ⟨d, List.mem_cons_of_mem _ h2, h3⟩
theorem dataAt_of {is : List Ino} {num : Int} {i : Nat} {x : Ino} (h1 : atV is num = (i : Int)) (h2 : is[i]? = some x) : dataAt is num = x.data := by
 unfold dataAt
 rw [h1, inoAt_nat, h2]
theorem setData_of {is : List Ino} {num : Int} {i : Nat} {x : Ino} (h1 : atV is num = (i : Int)) (h2 : is[i]? = some x) (d : ByteArray) : setData is num d = is.set i { x with data := d } := by
 unfold setData
 rw [h1, Int.toNat_natCast, modify_set _ _ _ _ h2]
theorem byfd_any (B p : Nat) (s : St) (c : Ca) (w : World) (h : Own B w p s) (hB : B ≤ w.heap.size) (hm : mayV s = true) (hk : (3 ≤ c.kind ∧ c.kind ≤ 7) ∨ c.kind = 15) :
  Calls Try.prog 64 #[.pointer (some ⟨p, 0, .none⟩), caV c] w fun e w' => e = .returned (resV (byFdV s c).2) ∧ Own B w' p (byFdV s c).1 ∧ Below B w w' ∧ Aside p w w' := by
 obtain ⟨kind, core, fd, off, num, path, path2, data⟩ := c
 obtain ⟨NU, hNU⟩ : ∃ NU, fdV s.opn core fd = NU := ⟨_, rfl⟩
 have hdata := (may_facts hm).data
 by_cases h0 : NU = 0
 ·have e : byFdV s ⟨kind, core, fd, off, num, path, path2, data⟩ = (s, { code := 4 }) := by
   unfold byFdV
   rw [if_pos (by rw [hNU]; exact h0)]
  rw [e]
  exact byfd_none B p s core fd off num path path2 data NU kind w h hB hNU h0
 ·obtain ⟨d, hd, hdn, hdc, hdf⟩ := fdV_mem s.opn core fd (by rw [hNU]; exact h0)
  obtain ⟨_, _, _, _, i, x, hat, hx, hxn, hxd⟩ := may_opens hm d hd
  rw [hdn, hNU] at hat
  have hxs : x.data.size ≤ 256 := (hdata x (List.mem_of_getElem? hx)).1
  have e1 := dataAt_of hat hx
  have e2 := setData_of hat hx
  unfold byFdV
  simp only
  rw [hNU, if_neg h0, e1]
  have hk' : kind = 3 ∨ kind = 4 ∨ kind = 5 ∨ kind = 6 ∨ kind = 7 ∨ kind = 15 := by
   have : (3 ≤ kind ∧ kind ≤ 7) ∨ kind = 15 := hk
   omega
  rcases hk' with rfl | rfl | rfl | rfl | rfl | rfl
  ·exact byfd_close B p s core fd off num path path2 data NU i x w h hB hNU h0 hat hx
  ·rw [if_neg (by decide), if_pos rfl]
   by_cases hb : off < 0 ∨ 256 < off ∨ num < 0 ∨ 256 < num
   ·rw [if_pos hb]
    exact byfd_read_bad B p s core fd off num path path2 data NU i x w h hB hNU h0 hat hx hb
   ·rw [if_neg hb]
    obtain ⟨o, rfl⟩ : ∃ o : Nat, off = (o : Int) := ⟨off.toNat, by omega⟩
    obtain ⟨q, rfl⟩ : ∃ q : Nat, num = (q : Int) := ⟨num.toNat, by omega⟩
    exact byfd_read B p s core fd o q path path2 data NU i x w h hB hNU h0 hat hx hxs (by omega) (by omega)
  ·rw [if_neg (by decide), if_neg (by decide), if_pos rfl]
   by_cases hb : off < 0 ∨ 256 < off ∨ 256 < data.size
   ·rw [if_pos hb]
    exact byfd_write_bad B p s core fd off num path path2 data NU i x w h hB hNU h0 hat hx hb
   ·rw [if_neg hb]
    obtain ⟨o, rfl⟩ : ∃ o : Nat, off = (o : Int) := ⟨off.toNat, by omega⟩
    by_cases hf : 256 < (o : Int) + (data.size : Int)
    ·rw [if_pos hf]
     exact byfd_write_full B p s core fd o num path path2 data NU i x w h hB hNU h0 hat hx (by omega) (by omega) (by omega)
    ·rw [if_neg hf]
     by_cases h9 : data.size = 0
     ·rw [if_pos h9]
      have hd0 : data = ⟨#[]⟩ := by
       cases data with | mk dd =>
       have : dd.size = 0 := h9
       rw [Array.size_eq_zero_iff.1 this]
      exact byfd_write_none B p s core fd o num path path2 data NU i x w h hB hNU h0 hat hx (by omega) hd0
     ·rw [if_neg h9, e2]
      exact byfd_write B p s core fd o num path path2 data NU i x w h hB hNU h0 hat hx hxs (by omega) (by omega) h9
  ·rw [if_neg (by decide), if_neg (by decide), if_neg (by decide), if_pos rfl]
   by_cases hb : num < 0 ∨ 256 < num
   ·rw [if_pos hb]
    exact byfd_trunc_bad B p s core fd off num path path2 data NU i x w h hB hNU h0 hat hx hb
   ·rw [if_neg hb]
    obtain ⟨o, rfl⟩ : ∃ o : Nat, num = (o : Int) := ⟨num.toNat, by omega⟩
    rw [e2]
    exact byfd_trunc2 B p s core fd off path path2 data NU i x w h hB hNU h0 hat hx o (by omega)
  ·rw [if_neg (by decide), if_neg (by decide), if_neg (by decide), if_neg (by decide), if_pos rfl]
   exact byfd_size B p s core fd off num path path2 data NU i x w h hB hNU h0 hat hx
  ·rw [if_neg (by decide), if_neg (by decide), if_neg (by decide), if_neg (by decide), if_neg (by decide)]
   exact byfd_sync B p s core fd off num path path2 data NU i x w h hB hNU h0 hat hx
end Go.Proofs.Ytghlgnklnbcppaa
