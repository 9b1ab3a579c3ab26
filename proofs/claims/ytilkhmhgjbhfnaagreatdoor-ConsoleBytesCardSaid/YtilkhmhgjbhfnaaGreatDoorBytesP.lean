/- Bytes of a file at the state 'made': cut, lengthened, written, read. No program in sight. -/
import Derived.Test.YtilkhmhgjbhfnaaGreatDoorMadeP
import Derived.KernelRfl
set_option linter.unusedVariables false
set_option linter.unusedSimpArgs false
namespace Go.Proofs.YtilkhmhgjbhfnaaGreatDoor
theorem may_call2 {s : St} {c : Ca} (hm : mayV s = true) (hk0 : 0 ≤ c.kind) (hk1 : c.kind ≤ 16) (hc0 : 0 ≤ c.core) (hc1 : c.core < (s.made.length : Int)) : ¬ (mayV s = false ∨ c.core < 0 ∨ (s.made.length : Int) ≤ c.core ∨ c.kind < 0 ∨ 16 < c.kind) := by
 rw [hm]
 rintro (h | h | h | h | h)
 ·cases h
 all_goals omega
theorem doV_fd {s : St} {c : Ca} (hm : mayV s = true) (hk : 3 ≤ c.kind ∧ c.kind ≤ 7) (hc0 : 0 ≤ c.core) (hc1 : c.core < (s.made.length : Int)) : doV s c = byFdV s c := by
 unfold doV doF
 rw [if_neg (may_call2 hm (by omega) (by omega) hc0 hc1), if_neg (by omega), if_neg (by omega), if_pos (by omega)]
theorem txt_self (b : ByteArray) : txt b.data.toList = b := rfl
theorem read_at {s : St} {fd n : Int} {D : ByteArray} (hm : mayV s = true) (h0 : 0 < (s.made.length : Int)) (hf : fdV s.opn 0 fd = n) (hn : n ≠ 0) (hd : dataAt s.inos n = D) (off num : Nat) (h1 : off ≤ 256) (h2 : num ≤ 256) :
  doV s ⟨4, 0, fd, (off : Int), (num : Int), ⟨#[]⟩, ⟨#[]⟩, ⟨#[]⟩⟩ = (s, { data := txt ((D.data.toList.drop off).take num) }) := by
 rw [doV_fd hm ⟨show (3 : Int) ≤ 4 by decide, show (4 : Int) ≤ 7 by decide⟩ (Int.le_refl 0) h0]
 have h9 : ¬ ((off : Int) < 0 ∨ 256 < (off : Int) ∨ (num : Int) < 0 ∨ 256 < (num : Int)) := by omega
 have h8 : ¬ (4 : Int) = 3 := by decide
 unfold byFdV
 simp only [hf, hd, if_neg hn, if_neg h8, if_true, if_neg h9, Int.toNat_natCast]

theorem size_at {s : St} {fd n : Int} {D : ByteArray} (hm : mayV s = true) (h0 : 0 < (s.made.length : Int)) (hf : fdV s.opn 0 fd = n) (hn : n ≠ 0) (hd : dataAt s.inos n = D) :
  doV s ⟨7, 0, fd, 0, 0, ⟨#[]⟩, ⟨#[]⟩, ⟨#[]⟩⟩ = (s, { num := D.size }) := by
 rw [doV_fd hm ⟨show (3 : Int) ≤ 7 by decide, show (7 : Int) ≤ 7 by decide⟩ (Int.le_refl 0) h0]
 unfold byFdV
 simp only [hf, hd, if_neg hn, if_neg (show ¬ (7 : Int) = 3 by decide), if_neg (show ¬ (7 : Int) = 4 by decide), if_neg (show ¬ (7 : Int) = 5 by decide), if_neg (show ¬ (7 : Int) = 6 by decide), if_true]

def wroteL (l : List UInt8) (off : Nat) (d : List UInt8) : List UInt8 := if d.length = 0 then l else layL l off d
theorem write_ok {s : St} {fd n : Int} {D : ByteArray} (hm : mayV s = true) (h0 : 0 < (s.made.length : Int)) (hf : fdV s.opn 0 fd = n) (hn : n ≠ 0) (hd : dataAt s.inos n = D) (hself : setData s.inos n D = s.inos) (off : Nat) (d : ByteArray) (h1 : off + d.size ≤ 256) :
  doV s ⟨5, 0, fd, (off : Int), 0, ⟨#[]⟩, ⟨#[]⟩, d⟩ = ({ s with inos := setData s.inos n (txt (wroteL D.data.toList off d.data.toList)) }, { num := d.size }) := by
 rw [doV_fd hm ⟨show (3 : Int) ≤ 5 by decide, show (5 : Int) ≤ 7 by decide⟩ (Int.le_refl 0) h0]
 have h9 : ¬ ((off : Int) < 0 ∨ 256 < (off : Int) ∨ 256 < d.size) := by omega
 have h8 : ¬ (256 : Int) < (off : Int) + (d.size : Int) := by omega
 have hl : d.data.toList.length = d.size := rfl
 unfold byFdV wroteL
 simp only [hf, hd, if_neg hn, if_neg (show ¬ (5 : Int) = 3 by decide), if_neg (show ¬ (5 : Int) = 4 by decide), if_true, if_neg h9, if_neg h8, hl, Int.toNat_natCast]
 by_cases hz : d.size = 0
 ·rw [if_pos hz, if_pos hz, txt_self, hself, hz]
  rfl
 ·rw [if_neg hz, if_neg hz]

theorem sizedL_lenB (l : List UInt8) (k : Nat) : (sizedL l k).length = k := by
 unfold sizedL
 rw [List.length_take, List.length_append, List.length_replicate]
 omega
theorem sizedL_get (l : List UInt8) (k i : Nat) (h : i < k) : (sizedL l k)[i]? = some (l.getD i 0) := by
 unfold sizedL
 rw [List.getElem?_take, if_pos h, List.getD_eq_getElem?_getD]
 by_cases hi : i < l.length
 ·rw [List.getElem?_append_left hi, List.getElem?_eq_getElem hi]
  rfl
 ·rw [List.getElem?_append_right (by omega), List.getElem?_eq_none (by omega : l.length ≤ i), List.getElem?_replicate, if_pos (by omega)]
  rfl
theorem layL_lenB (l : List UInt8) (off : Nat) (d : List UInt8) : (layL l off d).length = max l.length (off + d.length) := by
 unfold layL
 rw [List.length_append, List.length_append, List.length_take, List.length_drop, sizedL_lenB]
 omega
theorem layL_get (l : List UInt8) (off : Nat) (d : List UInt8) (i : Nat) (h : i < max l.length (off + d.length)) : (layL l off d)[i]? = some (if off ≤ i ∧ i < off + d.length then d.getD (i - off) 0 else l.getD i 0) := by
 unfold layL
 have ht : ((sizedL l (max l.length (off + d.length))).take off).length = off := by rw [List.length_take, sizedL_lenB]; omega
 by_cases h1 : i < off
 ·rw [if_neg (by omega), List.getElem?_append_left (by rw [List.length_append, ht]; omega), List.getElem?_append_left (by rw [ht]; exact h1), List.getElem?_take, if_pos h1, sizedL_get _ _ _ h]
 ·by_cases h2 : i < off + d.length
  ·rw [if_pos ⟨by omega, h2⟩, List.getElem?_append_left (by rw [List.length_append, ht]; exact h2), List.getElem?_append_right (by rw [ht]; omega), ht, List.getD_eq_getElem?_getD, List.getElem?_eq_getElem (by omega : i - off < d.length)]
   rfl
  ·rw [if_neg (by omega), List.getElem?_append_right (by rw [List.length_append, ht]; omega), List.length_append, ht, List.getElem?_drop, show off + d.length + (i - (off + d.length)) = i by omega, sizedL_get _ _ _ h]
theorem wroteL_len (l : List UInt8) (off : Nat) (d : List UInt8) : (wroteL l off d).length = if d.length = 0 then l.length else max l.length (off + d.length) := by
 unfold wroteL
 split
 ·rfl
 ·exact layL_lenB _ _ _
theorem wroteL_get (l : List UInt8) (off : Nat) (d : List UInt8) (i : Nat) (h : i < (wroteL l off d).length) : (wroteL l off d)[i]? = some (if off ≤ i ∧ i < off + d.length then d.getD (i - off) 0 else l.getD i 0) := by
 rw [wroteL_len] at h
 unfold wroteL
 by_cases h0 : d.length = 0
 ·rw [if_pos h0] at h ⊢
  rw [if_neg (by omega), List.getD_eq_getElem?_getD, List.getElem?_eq_getElem h]
  rfl
 ·rw [if_neg h0] at h ⊢
  exact layL_get _ _ _ _ h
end Go.Proofs.YtilkhmhgjbhfnaaGreatDoor
