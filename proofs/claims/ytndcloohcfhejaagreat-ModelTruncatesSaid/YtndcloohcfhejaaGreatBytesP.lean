/- Bytes of a file at the state 'made': cut, lengthened, written, read. No program in sight. -/
import Derived.Test.YtndcloohcfhejaaGreatMayB
set_option linter.unusedVariables false
set_option linter.unusedSimpArgs false
namespace Go.Proofs.YtndcloohcfhejaaGreat
theorem may_call2 {s : St} {c : Ca} (hm : mayV s = true) (hk0 : 0 ≤ c.kind) (hk1 : c.kind ≤ 16) (hc0 : 0 ≤ c.core) (hc1 : c.core < (s.made.length : Int)) : ¬ (mayV s = false ∨ c.core < 0 ∨ (s.made.length : Int) ≤ c.core ∨ c.kind < 0 ∨ 16 < c.kind) := by
 rw [hm]
 rintro (h | h | h | h | h)
 ·cases h
 all_goals omega
theorem doV_fd {s : St} {c : Ca} (hm : mayV s = true) (hk : 3 ≤ c.kind ∧ c.kind ≤ 7) (hc0 : 0 ≤ c.core) (hc1 : c.core < (s.made.length : Int)) : doV s c = byFdV s c := by
 unfold doV doF
 rw [if_neg (may_call2 hm (by omega) (by omega) hc0 hc1), if_neg (by omega), if_neg (by omega), if_pos (by omega)]
def digsL : List UInt8 := [48, 49, 50, 51, 52, 53, 54, 55, 56, 57]
theorem dataAt_18 (o : List Ds) (D E : ByteArray) : dataAt (stB o D E).inos 18 = D := rfl
theorem fd_one : fdV opn1 0 0 = 18 := by decide
theorem txt_list (l : List UInt8) : (txt l).data.toList = l := rfl
theorem read_at {s : St} {fd n : Int} {D : ByteArray} (hm : mayV s = true) (h0 : 0 < (s.made.length : Int)) (hf : fdV s.opn 0 fd = n) (hn : n ≠ 0) (hd : dataAt s.inos n = D) (off num : Nat) (h1 : off ≤ 256) (h2 : num ≤ 256) :
  doV s ⟨4, 0, fd, (off : Int), (num : Int), ⟨#[]⟩, ⟨#[]⟩, ⟨#[]⟩⟩ = (s, { data := txt ((D.data.toList.drop off).take num) }) := by
 rw [doV_fd hm ⟨show (3 : Int) ≤ 4 by decide, show (4 : Int) ≤ 7 by decide⟩ (Int.le_refl 0) h0]
 have h9 : ¬ ((off : Int) < 0 ∨ 256 < (off : Int) ∨ (num : Int) < 0 ∨ 256 < (num : Int)) := by omega
 have h8 : ¬ (4 : Int) = 3 := by decide
 unfold byFdV
 simp only [hf, hd, if_neg hn, if_neg h8, if_true, if_neg h9, Int.toNat_natCast]

theorem trunc_bad {s : St} {fd n : Int} (hm : mayV s = true) (h0 : 0 < (s.made.length : Int)) (hf : fdV s.opn 0 fd = n) (hn : n ≠ 0) (k : Int) (hk : k < 0 ∨ 256 < k) : doV s ⟨6, 0, fd, 0, k, ⟨#[]⟩, ⟨#[]⟩, ⟨#[]⟩⟩ = (s, { code := 9 }) := by
 rw [doV_fd hm ⟨show (3 : Int) ≤ 6 by decide, show (6 : Int) ≤ 7 by decide⟩ (Int.le_refl 0) h0]
 unfold byFdV
 simp only [hf, if_neg hn, if_neg (show ¬ (6 : Int) = 3 by decide), if_neg (show ¬ (6 : Int) = 4 by decide), if_neg (show ¬ (6 : Int) = 5 by decide), if_true, if_pos hk]

theorem trunc_ok {s : St} {fd n : Int} {D : ByteArray} (hm : mayV s = true) (h0 : 0 < (s.made.length : Int)) (hf : fdV s.opn 0 fd = n) (hn : n ≠ 0) (hd : dataAt s.inos n = D) (k : Nat) (hk : k ≤ 256) :
  doV s ⟨6, 0, fd, 0, (k : Int), ⟨#[]⟩, ⟨#[]⟩, ⟨#[]⟩⟩ = ({ s with inos := setData s.inos n (txt (sizedL D.data.toList k)) }, {}) := by
 rw [doV_fd hm ⟨show (3 : Int) ≤ 6 by decide, show (6 : Int) ≤ 7 by decide⟩ (Int.le_refl 0) h0]
 have h9 : ¬ ((k : Int) < 0 ∨ 256 < (k : Int)) := by omega
 unfold byFdV
 simp only [hf, hd, if_neg hn, if_neg (show ¬ (6 : Int) = 3 by decide), if_neg (show ¬ (6 : Int) = 4 by decide), if_neg (show ¬ (6 : Int) = 5 by decide), if_true, if_neg h9, Int.toNat_natCast]

theorem sizedL_lenB (l : List UInt8) (k : Nat) : (sizedL l k).length = k := by
 unfold sizedL
 rw [List.length_take, List.length_append, List.length_replicate]
 omega
theorem sizedL_get (l : List UInt8) (k i : Nat) (h : i < k) : (sizedL l k)[i]? = some (l.getD i 0) := by
 unfold sizedL
 rw [List.getElem?_take, if_pos h, List.getD_eq_getElem?_getD]
 by_cases hi : i < l.length
 ·rw [List.getElem?_append_left hi, List.getElem?_eq_getElem hi]
  rfl
 ·rw [List.getElem?_append_right (by omega), List.getElem?_eq_none (by omega : l.length ≤ i), List.getElem?_replicate, if_pos (by omega)]
  rfl
end Go.Proofs.YtndcloohcfhejaaGreat
