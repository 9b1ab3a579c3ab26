/- Chapter 27: the words of a line of plain bytes. No program in sight. -/
import Derived.Test.YtilkhmhgjbhfnaaGreatDoorM16
import Derived.Test.YtilkhmhgjbhfnaaGreatDoorM17
import Derived.Lib.TrimUEq
set_option linter.unusedVariables false
set_option linter.unusedSimpArgs false
namespace Go.Proofs.YtilkhmhgjbhfnaaGreatDoor
theorem ascii_decode (s : ByteArray) (pos : Nat) (b : UInt8) (h : s.data.toList[pos]? = some b) (hb : b.toNat < 128) : Utf8.decode s pos = (b.toNat, 1) := by
 have e : s.data.toList.getD pos 0 = b := by rw [List.getD_eq_getElem?_getD, h]; rfl
 rw [Lib.decode_N, e]
 exact (rune_num _ _ _ _ _).1 hb
def fieldsL : List UInt8 → List UInt8 → List (List UInt8)
 | [], cur => if cur = [] then [] else [cur]
 | b :: r, cur => if blankP b.toNat then (if cur = [] then fieldsL r [] else cur :: fieldsL r []) else fieldsL r (cur ++ [b])
def curOf (l : List UInt8) (pos : Nat) : Option Nat → List UInt8
 | none => []
 | some a => (l.drop a).take (pos - a)
theorem extract_txt (s : ByteArray) (a b : Nat) : s.extract a b = txt ((s.data.toList.drop a).take (b - a)) := by
 apply ByteArray.ext
 apply Array.toList_inj.1
 rw [Lib.extract_data]
 rfl
theorem curOf_ne {l : List UInt8} {pos a : Nat} (h1 : a < pos) (h2 : pos ≤ l.length) : curOf l pos (some a) ≠ [] := by
 intro e
 have := congrArg List.length e
 simp only [curOf, List.length_take, List.length_drop, List.length_nil] at this
 omega
theorem curOf_next {l : List UInt8} {pos a : Nat} {b : UInt8} (h1 : a ≤ pos) (h : l[pos]? = some b) : curOf l (pos + 1) (some a) = (l.drop a).take (pos - a) ++ [b] := by
 show (l.drop a).take (pos + 1 - a) = _
 rw [show pos + 1 - a = (pos - a) + 1 by omega, List.take_add_one, List.getElem?_drop, show a + (pos - a) = pos by omega, h]
 rfl
theorem spans_end (s : ByteArray) (pos : Nat) (st : Option Nat) (acc : List (Nat × Nat)) (hp : pos = s.size) (hst : ∀ a, st = some a → a < pos) :
  (Lib.closeSpans s (acc, st)).map (fun x => s.extract x.1 x.2) = acc.map (fun x => s.extract x.1 x.2) ++ (fieldsL [] (curOf s.data.toList pos st)).map txt := by
 have hsz : s.data.toList.length = s.size := by rw [Array.length_toList]; rfl
 unfold Lib.closeSpans
 cases st with
 | none => exact (List.append_nil _).symm
 | some a =>
  have h1 := hst a rfl
  have h2 : curOf s.data.toList pos (some a) ≠ [] := curOf_ne h1 (by omega)
  show (acc ++ [(a, s.size)]).map _ = _
  rw [List.map_append, fieldsL, if_neg h2, List.map_cons, List.map_nil, List.map_cons, List.map_nil]
  show _ ++ [s.extract a s.size] = _
  rw [extract_txt, ← hp]
  rfl
theorem spans_ascii (s : ByteArray) (ha : ∀ b ∈ s.data.toList, b.toNat < 128) : ∀ (f pos : Nat) (st : Option Nat) (acc : List (Nat × Nat)), pos ≤ s.size → s.size - pos ≤ f → (∀ a, st = some a → a < pos) →
  (Lib.closeSpans s (Lib.spansFromP blankP s f pos st acc)).map (fun x => s.extract x.1 x.2) = acc.map (fun x => s.extract x.1 x.2) ++ (fieldsL (s.data.toList.drop pos) (curOf s.data.toList pos st)).map txt := by
 have hsz : s.data.toList.length = s.size := by rw [Array.length_toList]; rfl
 intro f
 induction f with
 | zero =>
  intro pos st acc h1 h2 hst
  have e : Lib.spansFromP blankP s 0 pos st acc = (acc, st) := rfl
  rw [e, List.drop_eq_nil_of_le (by omega)]
  exact spans_end s pos st acc (by omega) hst
 | succ f ih =>
  intro pos st acc h1 h2 hst
  by_cases hp : pos < s.size
  ·obtain ⟨b, hb⟩ : ∃ b, s.data.toList[pos]? = some b := ⟨_, List.getElem?_eq_getElem (by omega)⟩
   have hdec := ascii_decode s pos b hb (ha b (List.mem_of_getElem? hb))
   have hdrop : s.data.toList.drop pos = b :: s.data.toList.drop (pos + 1) := by
    have hlt : pos < s.data.toList.length := by omega
    rw [List.drop_eq_getElem_cons hlt]
    congr 1
    rw [List.getElem?_eq_getElem hlt] at hb
    exact Option.some.inj hb
   unfold Lib.spansFromP
   rw [if_pos hp, hdec, hdrop, fieldsL]
   by_cases hbl : blankP b.toNat = true
   ·rw [if_pos hbl, if_pos hbl]
    cases st with
    | none =>
     rw [show curOf s.data.toList pos none = [] from rfl, if_pos rfl]
     have := ih (pos + 1) none acc (by omega) (by omega) (fun a h => nomatch h)
     rw [this]
     rfl
    | some a =>
     have hne := curOf_ne (l := s.data.toList) (hst a rfl) (by omega)
     rw [if_neg hne]
     have := ih (pos + 1) none (acc ++ [(a, pos)]) (by omega) (by omega) (fun a h => nomatch h)
     show (Lib.closeSpans s (Lib.spansFromP blankP s f (pos + 1) none (acc ++ [(a, pos)]))).map _ = _
     rw [this, List.map_append, List.append_assoc]
     congr 1
     show [s.extract a pos] ++ _ = _
     rw [extract_txt]
     rfl
   ·rw [if_neg hbl, if_neg hbl]
    cases st with
    | none =>
     have := ih (pos + 1) (some pos) acc (by omega) (by omega) (fun a h => by cases h; omega)
     rw [curOf_next (Nat.le_refl _) hb, Nat.sub_self] at this
     exact this
    | some a =>
     have hlt := hst a rfl
     have := ih (pos + 1) (some a) acc (by omega) (by omega) (fun a h => by cases h; omega)
     rw [curOf_next (Nat.le_of_lt hlt) hb] at this
     exact this
  ·rw [Lib.spansFromP_end _ _ _ _ _ _ hp, List.drop_eq_nil_of_le (by omega)]
   exact spans_end s pos st acc (by omega) hst
theorem words_ascii (l : List UInt8) (ha : ∀ b ∈ l, b.toNat < 128) : wordsB (txt l) = (fieldsL l []).map txt := by
 have h := spans_ascii (txt l) ha (txt l).size 0 none [] (Nat.zero_le _) (Nat.le_refl _) (fun a h => nomatch h)
 exact h
theorem fields_word : ∀ (x r cur : List UInt8), (∀ b ∈ x, blankP b.toNat = false) → fieldsL (x ++ r) cur = fieldsL r (cur ++ x)
 | [], r, cur, _ => by rw [List.append_nil]; rfl
 | b :: x, r, cur, h => by
  rw [List.cons_append, fieldsL, if_neg (by rw [h b List.mem_cons_self]; decide), fields_word x r _ (fun y hy => h y (List.mem_cons_of_mem _ hy)), List.append_assoc]
  rfl
theorem fields_cut {x r : List UInt8} (h : ∀ b ∈ x, blankP b.toNat = false) (hx : x ≠ []) : fieldsL (x ++ 32 :: r) [] = x :: fieldsL r [] := by
 rw [fields_word x _ [] h, List.nil_append, fieldsL, if_pos (by decide), if_neg hx]
theorem fields_last {x : List UInt8} (h : ∀ b ∈ x, blankP b.toNat = false) (hx : x ≠ []) : fieldsL x [] = [x] := by
 have := fields_word x [] [] h
 rw [List.append_nil, List.nil_append] at this
 rw [this, fieldsL, if_neg hx]
end Go.Proofs.YtilkhmhgjbhfnaaGreatDoor
