/- Parts of the proof, side by side: Conv, PlainName, FsPlain. -/
import Derived.Test.YthhceopnnappgaaGreatDoorRows
import Derived.WalkKit
import Derived.WalkSpells
import Derived.WalkLawsBesides
import Derived.Lib.Hide
import Derived.Laws.BitsAllLaws
import Derived.Laws.IdiomStrings
import Derived.Lib.DecodeN
set_option linter.unusedVariables false
set_option linter.unusedSimpArgs false
namespace Go.Proofs.YthhceopnnappgaaGreatDoor.Cv
open Go.RowKit
theorem ret_int {k : IntKind} {a b : Int} (h : a = b) : Ending.returned (.int k a) = .returned (.int k b) := by rw [h]
theorem ret_bool {a b : Bool} (h : a = b) : Ending.returned (.bool a) = .returned (.bool b) := by rw [h]
theorem next {a b c : World} (h : Below a.heap.size a b) (k : Below b.heap.size b c) : Below a.heap.size a c := h.trans (k.mono h.size)
theorem drewN_below {B : Nat} {a w : World} (h : Below B a w) (n : Nat) : Below B a (w.drewN n) := ⟨h.os, h.tape, h.output, h.size, h.block⟩
theorem addr_add (g j : Nat) : (⟨g, 0, none⟩ : Addr).add j = ⟨g, j, none⟩ := by unfold Addr.add; split <;> simp_all
def ByteRow (W : World) (g : Nat) (l : List UInt8) : Prop := g < W.heap.size ∧ ∀ j, j < l.length → W.cell? ⟨g, j, none⟩ = some (.int .u8 ((l.getD j 0).toNat : Int)) ∧ W.frozen? ⟨g, j, none⟩ = false
theorem ByteRow.drew {W : World} {g : Nat} {l : List UInt8} (h : ByteRow W g l) : ByteRow W.drew g l := h
theorem ByteRow.drewN {W : World} {g : Nat} {l : List UInt8} (h : ByteRow W g l) (n : Nat) : ByteRow (W.drewN n) g l := h
theorem ByteRow.below {W W' : World} {B g : Nat} {l : List UInt8} (h : ByteRow W g l) (hb : Below B W W') (hg : g < B) : ByteRow W' g l :=
 ⟨Nat.lt_of_lt_of_le h.1 hb.size, fun j hj => ⟨(hb.cell (p := ⟨g, j, none⟩) hg).trans (h.2 j hj).1, (hb.frozen (p := ⟨g, j, none⟩) hg).trans (h.2 j hj).2⟩⟩
theorem ByteRow.set {W : World} {g k : Nat} {l : List UInt8} (h : ByteRow W g l) (hk : k < l.length) (b : UInt8) : ByteRow (W.setCell ⟨g, k, none⟩ (.int .u8 (b.toNat : Int))) g (l.set k b) := by
 refine ⟨by simpa [World.setCell] using h.1, fun j hj => ?_⟩
 have hj' : j < l.length := by simpa using hj
 refine ⟨?_, by rw [World.frozen?_setCell]; exact (h.2 j hj').2⟩
 by_cases e : k = j
 ·subst e
  rw [World.cell?_setCell_same' _ _ _ (by rw [(h.2 k hk).1]; rfl)]
  simp [hj']
 ·rw [World.cell?_setCell_other _ _ _ _ (by simp [e]), (h.2 j hj').1]
  simp [List.getElem?_set, e]
theorem back_of {W : World} {g : Nat} {l : List UInt8} (h : ByteRow W g l) (n C : Nat) (hn : l.length = n) :
  (convert 57 9 (.slice (some ⟨g, 0, none⟩) n C)).run Tryz.prog W = .ok (.string ⟨l.toArray⟩) W := by
 subst hn
 exact run_convert_bytes_back (P := Tryz.prog) W 57 9 5 ⟨g, 0, none⟩ C l Tryz.underlying57 Tryz.underlying5 Tryz.underlying9 (fun j hj => by
  rw [addr_add, (h.2 j hj).1]
  simp [hj])
end Go.Proofs.YthhceopnnappgaaGreatDoor.Cv
namespace Go.Proofs.YthhceopnnappgaaGreatDoor
open Go.Lib (decodeN decode_at)
def decodeL (l : List UInt8) : Nat × Nat := decodeN l.length (l.getD 0 0).toNat (l.getD 1 0).toNat (l.getD 2 0).toNat (l.getD 3 0).toNat
theorem get_list (s : ByteArray) (i : Nat) : s.get! i = s.data.toList.getD i 0 := by
 show s.data[i]! = _
 rw [List.getD_eq_getElem?_getD, Array.getElem?_toList]
 rcases Nat.lt_or_ge i s.data.size with h | h
 ·rw [getElem!_pos s.data i h, Array.getElem?_eq_getElem h]; rfl
 ·rw [getElem!_neg s.data i (by omega), Array.getElem?_eq_none h]; rfl
theorem decode_list (s : ByteArray) (i : Nat) : Utf8.decode s i = decodeL (s.data.toList.drop i) := by
 rw [decode_at]
 unfold decodeL
 simp only [get_list, List.length_drop, List.getD_eq_getElem?_getD, List.getElem?_drop, Array.length_toList, Nat.add_zero]
 rfl
def badRune (p : Nat × Nat) : Bool := p.1 == 65533 && p.2 == 1
theorem decodeN_width (n b0 b1 b2 b3 : Nat) : 1 ≤ (decodeN n b0 b1 b2 b3).2 ∧ (decodeN n b0 b1 b2 b3).2 ≤ 4 := by
 unfold decodeN
 repeat' split
 all_goals simp
theorem decodeL_width (l : List UInt8) : 1 ≤ (decodeL l).2 ∧ (decodeL l).2 ≤ 4 := decodeN_width _ _ _ _ _
theorem decodeN_fits (n b0 b1 b2 b3 : Nat) (h : 1 ≤ n) : (decodeN n b0 b1 b2 b3).2 ≤ n := by
 unfold decodeN
 repeat' split
 all_goals (simp only; omega)
theorem decodeN_le (n b0 b1 b2 b3 : Nat) : (decodeN n b0 b1 b2 b3).1 ≤ 1114111 := by
 unfold decodeN
 repeat' split
 all_goals (simp only; omega)
theorem decodeL_le (l : List UInt8) : (decodeL l).1 ≤ 1114111 := decodeN_le _ _ _ _ _
theorem decodeL_fits (l : List UInt8) (h : l ≠ []) : (decodeL l).2 ≤ l.length :=
 decodeN_fits _ _ _ _ _ (by cases l with | nil => exact absurd rfl h | cons a l => simp)
def runesF : Nat → List UInt8 → List (Nat × Nat)
 | 0, _ => []
 | n + 1, l => if l.isEmpty then [] else decodeL l :: runesF n (l.drop (decodeL l).2)
def runes (l : List UInt8) : List (Nat × Nat) := runesF l.length l
theorem runesF_fuel : ∀ (n m : Nat) (l : List UInt8), l.length ≤ n → l.length ≤ m → runesF n l = runesF m l
 | 0, 0, _, _, _ => rfl
 | 0, m + 1, l, h, _ => by
  have : l = [] := List.eq_nil_of_length_eq_zero (by omega)
  subst this
  simp [runesF]
 | n + 1, 0, l, _, h => by
  have : l = [] := List.eq_nil_of_length_eq_zero (by omega)
  subst this
  simp [runesF]
 | n + 1, m + 1, l, h1, h2 => by
  unfold runesF
  by_cases e : l.isEmpty
  ·simp [e]
  ·have hw := decodeL_width l
   have hd : (l.drop (decodeL l).2).length = l.length - (decodeL l).2 := List.length_drop
   rw [if_neg e, if_neg e, runesF_fuel n m _ (by omega) (by omega)]
theorem runes_cons (l : List UInt8) (h : l ≠ []) : runes l = decodeL l :: runes (l.drop (decodeL l).2) := by
 have hw := decodeL_width l
 have hd : (l.drop (decodeL l).2).length = l.length - (decodeL l).2 := List.length_drop
 obtain ⟨n, hn⟩ : ∃ n, l.length = n + 1 := by
  cases l with
  | nil => exact absurd rfl h
  | cons a l => exact ⟨l.length, rfl⟩
 have e : ¬ l.isEmpty = true := by simpa using h
 show runesF l.length l = _
 rw [hn]
 show (if l.isEmpty then [] else decodeL l :: runesF n (l.drop (decodeL l).2)) = _
 rw [if_neg e, runesF_fuel n (l.drop (decodeL l).2).length _ (by omega) (Nat.le_refl _)]
 rfl
def hashStep (h : Nat) (p : Nat × Nat) : Nat := (31 * h + p.1) % 4294967296
def hashFrom (l : List UInt8) (h : Nat) : Nat := (runes l).foldl hashStep h
def hashL (l : List UInt8) : Nat := hashFrom l 7
theorem hashFrom_nil (h : Nat) : hashFrom [] h = h := rfl
theorem hashFrom_cons (l : List UInt8) (h : Nat) (hl : l ≠ []) : hashFrom l h = hashFrom (l.drop (decodeL l).2) (hashStep h (decodeL l)) := by
 unfold hashFrom; rw [runes_cons l hl]; rfl
theorem hashStep_lt (h : Nat) (p : Nat × Nat) : hashStep h p < 4294967296 := Nat.mod_lt _ (by omega)
theorem foldl_hash_lt (l : List (Nat × Nat)) : ∀ h : Nat, h < 4294967296 → l.foldl hashStep h < 4294967296 := by
 induction l with
 | nil => intro h hh; exact hh
 | cons p l ih => intro h _; exact ih _ (hashStep_lt h p)
theorem hashL_lt (l : List UInt8) : hashL l < 4294967296 := foldl_hash_lt _ _ (by omega)
def runeBad (p : Nat × Nat) : Bool := p.1 == 47 || decide (p.1 < 32) || p.1 == 127 || badRune p
def anyBad (l : List UInt8) : Bool := (runes l).any runeBad
theorem anyBad_nil : anyBad [] = false := rfl
theorem anyBad_cons (l : List UInt8) (hl : l ≠ []) : anyBad l = (runeBad (decodeL l) || anyBad (l.drop (decodeL l).2)) := by
 unfold anyBad; rw [runes_cons l hl]; rfl
def checkL (l : List UInt8) : Nat := if 12 < l.length then 801 else if l = [] ∨ l = [46] ∨ l = [46, 46] then 800 else if anyBad l then 800 else 0
def nextL (l : List UInt8) (k : Nat) : Int := if k < l.length ∧ 128 ≤ (l.getD k 0).toNat ∧ (l.getD k 0).toNat ≤ 191 then ((l.getD k 0).toNat : Int) - 128 else -1
theorem nextL_range (l : List UInt8) (k : Nat) : -1 ≤ nextL l k ∧ nextL l k ≤ 63 := by unfold nextL; split <;> omega
theorem nextL_drop (l : List UInt8) (p k : Nat) : nextL (l.drop p) k = nextL l (p + k) := by
 unfold nextL
 have e : (l.drop p).getD k 0 = l.getD (p + k) 0 := by simp [List.getD_eq_getElem?_getD, List.getElem?_drop]
 have e2 : (k < (l.drop p).length) = (p + k < l.length) := by rw [List.length_drop]; exact propext ⟨fun h => by omega, fun h => by omega⟩
 simp only [e, e2]
def rune1I (c a b d : Int) : Int × Int :=
 if c < 128 then (c, 1)
 else if 194 ≤ c ∧ c ≤ 223 ∧ 0 ≤ a then ((c - 192) * 64 + a, 2)
 else if 224 ≤ c ∧ c ≤ 239 ∧ 0 ≤ a ∧ 0 ≤ b then
  (if 2048 ≤ (c - 224) * 4096 + a * 64 + b ∧ ((c - 224) * 4096 + a * 64 + b < 55296 ∨ 57343 < (c - 224) * 4096 + a * 64 + b) then ((c - 224) * 4096 + a * 64 + b, 3) else (65533, 0))
 else if 240 ≤ c ∧ c ≤ 244 ∧ 0 ≤ a ∧ 0 ≤ b ∧ 0 ≤ d then
  (if 65536 ≤ (c - 240) * 262144 + a * 4096 + b * 64 + d ∧ (c - 240) * 262144 + a * 4096 + b * 64 + d ≤ 1114111 then ((c - 240) * 262144 + a * 4096 + b * 64 + d, 4) else (65533, 0))
 else (65533, 0)
def rune1L (l : List UInt8) : Nat × Nat := if badRune (decodeL l) then (65533, 0) else decodeL l
def nextN (n k b : Nat) : Int := if k < n ∧ 128 ≤ b ∧ b ≤ 191 then (b : Int) - 128 else -1
theorem nextN_cases (n k b : Nat) (hb : b < 256) : ((k < n ∧ b / 64 = 2) ∧ nextN n k b = (b : Int) - 128) ∨ (¬ (k < n ∧ b / 64 = 2) ∧ nextN n k b = -1) := by
 unfold nextN
 by_cases h : k < n ∧ 128 ≤ b ∧ b ≤ 191
 ·rw [if_pos h]; exact .inl ⟨⟨h.1, by omega⟩, rfl⟩
 ·rw [if_neg h]; exact .inr ⟨by omega, rfl⟩
def shown (p : Nat × Nat) : Int × Int := if badRune p then (65533, 0) else ((p.1 : Int), (p.2 : Int))
theorem shown_bad : shown (65533, 1) = (65533, 0) := rfl
theorem shown_ok (x w : Nat) (h : x ≠ 65533 ∨ w ≠ 1) : shown (x, w) = ((x : Int), (w : Int)) := by
 unfold shown badRune
 rw [if_neg (by simp; omega)]
theorem pair_eq {a b c d : Int} (h : a = c) (k : b = d) : (a, b) = (c, d) := by rw [h, k]
set_option maxRecDepth 10000 in
set_option maxHeartbeats 4000000 in
theorem rune1_core (n b0 b1 b2 b3 : Nat) (hn : 1 ≤ n) (h0 : b0 < 256) (h1 : b1 < 256) (h2 : b2 < 256) (h3 : b3 < 256) :
  rune1I (b0 : Int) (nextN n 1 b1) (nextN n 2 b2) (nextN n 3 b3) = shown (decodeN n b0 b1 b2 b3) := by
 generalize ha : nextN n 1 b1 = a
 generalize hb : nextN n 2 b2 = b
 generalize hd : nextN n 3 b3 = d
 have ca := nextN_cases n 1 b1 h1
 have cb := nextN_cases n 2 b2 h2
 have cd := nextN_cases n 3 b3 h3
 rw [ha] at ca
 rw [hb] at cb
 rw [hd] at cd
 clear ha hb hd
 unfold decodeN
 by_cases k1 : b0 < 128
 ·rw [if_pos k1, shown_ok _ _ (by omega)]
  unfold rune1I
  rw [if_pos (by omega)]
  rfl
 rw [if_neg k1]
 by_cases k2 : b0 / 32 = 6 ∧ (1 < n ∧ b1 / 64 = 2)
 ·rw [if_pos k2]
  unfold rune1I
  rw [if_neg (by omega)]
  by_cases k : b0 % 32 * 64 + b1 % 64 ≥ 128
  ·rw [if_pos k, shown_ok _ _ (by omega), if_pos (by omega)]
   exact pair_eq (by omega) rfl
  ·rw [if_neg k, shown_bad, if_neg (by omega), if_neg (by omega), if_neg (by omega)]
 rw [if_neg k2]
 by_cases k3 : b0 / 16 = 14 ∧ (1 < n ∧ b1 / 64 = 2) ∧ (2 < n ∧ b2 / 64 = 2)
 ·rw [if_pos k3]
  unfold rune1I
  rw [if_neg (by omega), if_neg (by omega), if_pos (by omega)]
  have e : ((b0 : Int) - 224) * 4096 + a * 64 + b = ((b0 % 16 * 4096 + b1 % 64 * 64 + b2 % 64 : Nat) : Int) := by omega
  rw [e]
  generalize b0 % 16 * 4096 + b1 % 64 * 64 + b2 % 64 = x at *
  by_cases k : x ≥ 2048 ∧ (x < 55296 ∨ (57344 ≤ x ∧ x ≤ 1114111))
  ·rw [if_pos k, shown_ok _ _ (by omega), if_pos (by omega)]
   rfl
  ·rw [if_neg k, shown_bad, if_neg (by omega)]
 rw [if_neg k3]
 by_cases k4 : b0 / 8 = 30 ∧ (1 < n ∧ b1 / 64 = 2) ∧ (2 < n ∧ b2 / 64 = 2) ∧ (3 < n ∧ b3 / 64 = 2)
 ·rw [if_pos k4]
  unfold rune1I
  rw [if_neg (by omega), if_neg (by omega), if_neg (by omega)]
  by_cases k5 : b0 ≤ 244
  ·rw [if_pos (by omega)]
   have e : ((b0 : Int) - 240) * 262144 + a * 4096 + b * 64 + d = ((b0 % 8 * 262144 + b1 % 64 * 4096 + b2 % 64 * 64 + b3 % 64 : Nat) : Int) := by omega
   rw [e]
   generalize b0 % 8 * 262144 + b1 % 64 * 4096 + b2 % 64 * 64 + b3 % 64 = x at *
   by_cases k : x ≥ 65536 ∧ (x < 55296 ∨ (57344 ≤ x ∧ x ≤ 1114111))
   ·rw [if_pos k, shown_ok _ _ (by omega), if_pos (by omega)]
    rfl
   ·rw [if_neg k, shown_bad, if_neg (by omega)]
  ·rw [if_neg (by omega), if_neg (by omega), shown_bad]
 rw [if_neg k4, shown_bad]
 unfold rune1I
 rw [if_neg (by omega), if_neg (by omega), if_neg (by omega), if_neg (by omega)]
theorem rune1_list (l : List UInt8) (h : l ≠ []) : rune1I ((l.getD 0 0).toNat : Int) (nextL l 1) (nextL l 2) (nextL l 3) = (((rune1L l).1 : Int), ((rune1L l).2 : Int)) := by
 have := rune1_core l.length (l.getD 0 0).toNat (l.getD 1 0).toNat (l.getD 2 0).toNat (l.getD 3 0).toNat
  (by cases l with | nil => exact absurd rfl h | cons a l => simp) (l.getD 0 0).toNat_lt (l.getD 1 0).toNat_lt (l.getD 2 0).toNat_lt (l.getD 3 0).toNat_lt
 have e : shown (decodeL l) = (((rune1L l).1 : Int), ((rune1L l).2 : Int)) := by
  unfold shown rune1L
  split <;> rfl
 rw [← e]
 exact this
end Go.Proofs.YthhceopnnappgaaGreatDoor
namespace Go.Proofs.YthhceopnnappgaaGreatDoor
structure En where
 name : ByteArray
 num : Int
structure Ino where
 num : Int
 dir : Bool
 ents : List En
 data : ByteArray
structure Ds where
 core : Int
 fd : Int
 num : Int
structure St where
 inos : List Ino
 opn : List Ds
 made : List Int
def atG : List Ino → Int → Nat → Int
 | [], _, _ => -1
 | x :: xs, num, k => if x.num = num then (k : Int) else atG xs num (k + 1)
def atV (is : List Ino) (num : Int) : Int := atG is num 0
theorem atG_cases : ∀ (is : List Ino) (num : Int) (b : Nat), (atG is num b = -1 ∧ ∀ x ∈ is, x.num ≠ num) ∨ ∃ (k : Nat) (x : Ino), atG is num b = ((b + k : Nat) : Int) ∧ is[k]? = some x ∧ x.num = num ∧ ∀ (j : Nat) (y : Ino), j < k → is[j]? = some y → y.num ≠ num
 | [], num, b => Or.inl ⟨rfl, by simp⟩
 | x :: xs, num, b => by
  unfold atG
  by_cases h : x.num = num
  ·rw [if_pos h]
   exact Or.inr ⟨0, x, rfl, rfl, h, fun j y hj => absurd hj (by omega)⟩
  ·rw [if_neg h]
   rcases atG_cases xs num (b + 1) with ⟨h1, h2⟩ | ⟨k, y, h1, h2, h3, h4⟩
   ·exact Or.inl ⟨h1, by intro z hz; rcases List.mem_cons.1 hz with rfl | hz; exact h; exact h2 z hz⟩
   ·refine Or.inr ⟨k + 1, y, by rw [h1]; congr 1; omega, by simpa using h2, h3, fun j z hj hz => ?_⟩
    cases j with
    | zero =>
     have : x = z := by simpa using hz
     subst this
     exact h
    | succ j => exact h4 j z (by omega) (by simpa using hz)
theorem atV_cases (is : List Ino) (num : Int) : (atV is num = -1 ∧ ∀ x ∈ is, x.num ≠ num) ∨ ∃ (k : Nat) (x : Ino), atV is num = (k : Int) ∧ is[k]? = some x ∧ x.num = num ∧ ∀ (j : Nat) (y : Ino), j < k → is[j]? = some y → y.num ≠ num := by
 rcases atG_cases is num 0 with h | ⟨k, x, h1, h2⟩
 ·exact Or.inl h
 ·exact Or.inr ⟨k, x, by rw [atV, h1]; congr 1; omega, h2⟩
def entG : List En → ByteArray → Int
 | [], _ => 0
 | e :: es, n => if e.name = n then e.num else entG es n
def inoAt (is : List Ino) (k : Int) : Option Ino := if k < 0 then none else is[k.toNat]?
def entV (is : List Ino) (dir : Int) (name : ByteArray) : Int :=
 match inoAt is (atV is dir) with
 | none => 0
 | some x => entG x.ents name
theorem inoAt_nat (is : List Ino) (k : Nat) : inoAt is (k : Int) = is[k]? := by unfold inoAt; rw [if_neg (by omega)]; rfl
def linkE : List En → Int → Nat
 | [], _ => 0
 | e :: es, num => (if e.num = num then 1 else 0) + linkE es num
def linkI : List Ino → Int → Nat
 | [], _ => 0
 | x :: xs, num => (if x.dir then linkE x.ents num else 0) + linkI xs num
def ltB : List UInt8 → List UInt8 → Bool
 | [], [] => false
 | [], _ :: _ => true
 | _ :: _, [] => false
 | a :: xs, b :: ys => if a = b then ltB xs ys else decide (a < b)
def ltN (a b : ByteArray) : Bool := ltB a.data.toList b.data.toList
def givenV (made : List Int) (num : Int) : Bool :=
 if num < 2 then false else decide ((num - 2) % 8 < (made.length : Int)) && decide ((num - 2) / 8 < made.getD ((num - 2) % 8).toNat 0)
def bktB (s : ByteArray) : Nat := hashL s.data.toList % 8
def chkB (s : ByteArray) : Nat := checkL s.data.toList
def bktE : List En → Nat → Nat
 | [], _ => 0
 | e :: es, b => (if bktB e.name = b then 1 else 0) + bktE es b
def entBad (is : List Ino) (p : Option ByteArray) (e : En) : Bool :=
 decide (chkB e.name ≠ 0) || (match p with | none => false | some q => !ltN q e.name) || decide (e.num = 1) || decide (atV is e.num < 0)
def entsG (is : List Ino) : List En → Option ByteArray → (Nat → Nat) → Bool
 | [], _, _ => true
 | e :: es, p, many =>
  if entBad is p e = true then false
  else if 4 < many (bktB e.name) + 1 then false
  else entsG is es (some e.name) (fun b => if b = bktB e.name then many b + 1 else many b)
def entsV (is : List Ino) (es : List En) : Bool := entsG is es none (fun _ => 0)
def reachF (is : List Ino) : Nat → List Int → List Bool → List Bool
 | 0, _, f => f
 | n + 1, todo, f =>
  match todo.getLast? with
  | none => f
  | some t =>
   match inoAt is (atV is t) with
   | none => reachF is n todo.dropLast f
   | some x => if f.getD (atV is t).toNat false then reachF is n todo.dropLast f else reachF is n (todo.dropLast ++ (if x.dir then x.ents.map (·.num) else [])) (f.set (atV is t).toNat true)
def bulkE (is : List Ino) : Nat := is.foldr (fun x n => x.ents.length + n) 0
def reachV (is : List Ino) : List Bool := reachF is (2 + bulkE is) [1] (List.replicate is.length false)
def openB : List Ds → Int → Bool
 | [], _ => false
 | d :: ds, num => if d.num = num then true else openB ds num
def dsBad (is : List Ino) (cores : Nat) (d : Ds) : Bool :=
 decide (d.core < 0) || decide ((cores : Int) ≤ d.core) || decide (d.fd < 0) || decide (4 ≤ d.fd) || (match inoAt is (atV is d.num) with | none => true | some x => x.dir)
def dsPrev (p : Option Ds) (d : Ds) : Bool := match p with | none => false | some o => decide (d.core < o.core) || (decide (o.core = d.core) && decide (d.fd ≤ o.fd))
def opensG (is : List Ino) (cores : Nat) : List Ds → Option Ds → Bool
 | [], _ => true
 | d :: ds, p => if dsBad is cores d = true then false else if dsPrev p d = true then false else opensG is cores ds (some d)
def opensV (s : St) : Bool := opensG s.inos s.made.length s.opn none
def madeG : List Int → Bool
 | [] => true
 | x :: xs => if x < 0 ∨ 32 < x then false else madeG xs
def badNum (made : List Int) (p : Option Int) (n : Int) : Bool :=
 match p with
 | none => false
 | some q => decide (n ≤ q) || !givenV made n
def inoBad (s : St) (p : Option Int) (x : Ino) : Bool :=
 badNum s.made p x.num || decide (256 < x.data.size) || (x.dir && decide (x.data.size ≠ 0)) || (!x.dir && !x.ents.isEmpty) || !entsV s.inos x.ents
def inoLost (s : St) (first : Bool) (x : Ino) (f : Bool) : Bool :=
 (!first && x.dir && (decide (linkI s.inos x.num ≠ 1) || !f)) || (!x.dir && !f && !openB s.opn x.num)
def inosG (s : St) : List Ino → Option Int → List Bool → Bool
 | [], _, _ => true
 | x :: xs, p, f => if inoBad s p x = true then false else if inoLost s p.isNone x (f.headD false) = true then false else inosG s xs (some x.num) f.tail
def rootB : List Ino → Bool
 | [] => false
 | x :: _ => decide (x.num = 1) && x.dir
def mayV (s : St) : Bool :=
 decide (1 ≤ s.made.length) && decide (s.made.length ≤ 8) && rootB s.inos && opensV s && madeG s.made && decide (s.inos.length ≤ 257) && inosG s s.inos none (reachV s.inos)
end Go.Proofs.YthhceopnnappgaaGreatDoor
