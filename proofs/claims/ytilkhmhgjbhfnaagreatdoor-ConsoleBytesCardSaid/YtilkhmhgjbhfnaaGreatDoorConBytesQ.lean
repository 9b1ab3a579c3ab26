/- Chapter 27: what is written by a script is read back by one. No program in sight. -/
import Derived.Test.YtilkhmhgjbhfnaaGreatDoorConFields
import Derived.Test.YtilkhmhgjbhfnaaGreatDoorM42
import Derived.Test.YtilkhmhgjbhfnaaGreatDoorM43
import Derived.Test.YtilkhmhgjbhfnaaGreatDoorBytesP
set_option linter.unusedVariables false
set_option linter.unusedSimpArgs false
namespace Go.Proofs.YtilkhmhgjbhfnaaGreatDoor
theorem splitL_none : ∀ l : List UInt8, (∀ b ∈ l, b ≠ 10) → splitL l = [l]
 | [], _ => rfl
 | b :: r, h => by
  rw [splitL, if_neg (h b List.mem_cons_self), splitL_none r fun x hx => h x (List.mem_cons_of_mem _ hx)]
  rfl
def stB27 (f : List UInt8) : St := stW (newV 2) (((splitL f).map txt).map wordsB)
theorem stB27_good (f : List UInt8) : Good (stB27 f) := by
 unfold stB27
 generalize ((splitL f).map txt).map wordsB = xs
 have key : ∀ (xs : List (List ByteArray)) (s : St), Good s → Good (stW s xs) := by
  intro xs
  induction xs with
  | nil => intro s h; exact h
  | cons ws r ih =>
   intro s h
   unfold stW
   split
   ·exact ih s h
   ·exact ih _ (lineV_good h ws)
 exact key xs _ ((good_iff _).1 (by decide +kernel))
theorem runB_one (A s : ByteArray) (f : List UInt8) (hA : A.data.toList = f ++ [10]) (hs : ∀ b ∈ s.data.toList, b ≠ 10) (hm : mute (wordsB s) = false) : runB (A ++ s) = runB A ++ ((lineV (stB27 f) (wordsB s)).2 ++ [10]) := by
 have e1 : (A ++ s).data.toList = f ++ 10 :: s.data.toList := by rw [ByteArray.data_append, Array.toList_append, hA, List.append_assoc]; rfl
 have r1 : runB (A ++ s) = runW (newV 2) (((splitL f).map txt).map wordsB ++ [wordsB s]) := by
  unfold runB
  rw [lines_eq, e1, splitL_app, List.map_append, List.map_append, splitL_none _ hs]
  rfl
 have r2 : runB A = runW (newV 2) (((splitL f).map txt).map wordsB) := by
  unfold runB
  rw [lines_eq, hA, splitL_app, List.map_append, List.map_append, runW_app]
  have : ((splitL []).map txt).map wordsB = [[]] := by
   show [wordsB (txt [])] = [[]]
   rw [words_txt]
  rw [this]
  exact List.append_nil _
 rw [r1, runW_app, r2]
 congr 1
 rw [runW, hm]
 rfl
theorem cmd_words : cmdV [104, 97, 115, 104] = none ∧ cmdV [115, 117, 109] = none := by decide
theorem line_of (s : St) (w : ByteArray) (r : List ByteArray) {k : Int} {ks : List UInt8} {C : Ca} {R : St × Re} (h1 : cmdV w.data.toList = some (k, ks)) (hc : callV k ks r = (C, true)) (hd : doV s C = R) : lineV s (w :: r) = (R.1, Lib.join (toldL k R.2) [32]) := by
 have n1 : ¬(w.data.toList = [104, 97, 115, 104] ∧ r.length = 1) := fun h => by rw [h.1, cmd_words.1] at h1; cases h1
 have n2 : ¬(w.data.toList = [115, 117, 109] ∧ r.length = 0) := fun h => by rw [h.1, cmd_words.2] at h1; cases h1
 unfold lineV
 simp only [if_neg n1, if_neg n2, h1, hc, if_true, hd]
theorem stW_last (ws : List ByteArray) : ∀ (xs : List (List ByteArray)) (s : St), mute ws = false → stW s (xs ++ [ws]) = (lineV (stW s xs) ws).1
 | [], s, h => by
  show (if mute ws then stW s [] else stW (lineV s ws).1 []) = _
  rw [h]
  rfl
 | x :: r, s, h => by
  rw [List.cons_append, stW, stW]
  split
  ·exact stW_last ws r s h
  ·exact stW_last ws r _ h
def stQ (D : ByteArray) : St := ⟨[⟨1, true, [⟨⟨#[113]⟩, 2⟩], ⟨#[]⟩⟩, ⟨2, false, [], D⟩], [⟨0, 0, 2⟩], [1, 0]⟩
def lnC : List UInt8 := [99, 114, 101, 97, 116, 101, 32, 48, 32, 47, 113]
def lnO : List UInt8 := [111, 112, 101, 110, 32, 48, 32, 47, 113]
def lnW (o i j : Nat) : List UInt8 := [119, 114, 105, 116, 101] ++ 32 :: ([48] ++ 32 :: ([48] ++ 32 :: (Dc.dec3L o ++ 32 :: [hexD i, hexD j])))
def lnR (o : Nat) : List UInt8 := [114, 101, 97, 100] ++ 32 :: ([48] ++ 32 :: ([48] ++ 32 :: (Dc.dec3L o ++ 32 :: [53])))
def preL (o i j : Nat) : List UInt8 := lnC ++ 10 :: (lnO ++ 10 :: lnW o i j)
theorem st_first : stW (newV 2) (((splitL (lnC ++ 10 :: lnO)).map txt).map wordsB) = stQ ⟨#[]⟩ := by decide +kernel
theorem dec_ok : ∀ o < 202, (∀ b ∈ Dc.dec3L o, blankP b.toNat = false ∧ b.toNat < 128 ∧ b ≠ 10) ∧ Dc.dec3L o ≠ [] ∧ (Dc.dec3L o).length ≤ 3 ∧ numOk (txt (Dc.dec3L o)) = true ∧ numV (txt (Dc.dec3L o)) = (o : Int) ∧ decN (o : Int) = Dc.dec3L o := by decide +kernel
theorem hex_ok : ∀ i < 16, ∀ j < 16, (∀ b ∈ [hexD i, hexD j], blankP b.toNat = false ∧ b.toNat < 128 ∧ b ≠ 10) ∧ unhexB (txt [hexD i, hexD j]) = (txt [UInt8.ofNat (16 * i + j)], true) ∧ hexT [UInt8.ofNat (16 * i + j)] = [hexD i, hexD j] := by decide +kernel
theorem one_ok : numOk (txt [48]) = true ∧ numV (txt [48]) = 0 ∧ numOk (txt [53]) = true ∧ numV (txt [53]) = 5 := by decide +kernel
theorem words_W (o i j : Nat) (ho : o < 200) (hi : i < 16) (hj : j < 16) : wordsB (txt (lnW o i j)) = [txt [119, 114, 105, 116, 101], txt [48], txt [48], txt (Dc.dec3L o), txt [hexD i, hexD j]] := by
 obtain ⟨d1, d2, _⟩ := dec_ok o (by omega)
 obtain ⟨x1, _⟩ := hex_ok i hi j hj
 have ha : ∀ b ∈ lnW o i j, b.toNat < 128 := by
  intro b hb
  unfold lnW at hb
  simp only [List.mem_append, List.mem_cons, List.not_mem_nil, or_false] at hb
  rcases hb with (rfl | rfl | rfl | rfl | rfl) | rfl | rfl | rfl | rfl | rfl | hb | rfl | hb
  all_goals first
   | decide
   | exact (d1 b hb).2.1
   | exact (x1 b (by simpa using hb)).2.1
 rw [words_ascii _ ha, lnW, fields_cut (by decide) (by decide), fields_cut (by decide) (by decide), fields_cut (by decide) (by decide), fields_cut (fun b hb => (d1 b hb).1) d2, fields_last (fun b hb => (x1 b hb).1) (by simp)]
 rfl
theorem words_R (o : Nat) (ho : o < 200) : wordsB (txt (lnR o)) = [txt [114, 101, 97, 100], txt [48], txt [48], txt (Dc.dec3L o), txt [53]] := by
 obtain ⟨d1, d2, _⟩ := dec_ok o (by omega)
 have ha : ∀ b ∈ lnR o, b.toNat < 128 := by
  intro b hb
  unfold lnR at hb
  simp only [List.mem_append, List.mem_cons, List.not_mem_nil, or_false] at hb
  rcases hb with (rfl | rfl | rfl | rfl) | rfl | rfl | rfl | rfl | rfl | hb | rfl | rfl
  all_goals first
   | decide
   | exact (d1 b hb).2.1
 rw [words_ascii _ ha, lnR, fields_cut (by decide) (by decide), fields_cut (by decide) (by decide), fields_cut (by decide) (by decide), fields_cut (fun b hb => (d1 b hb).1) d2, fields_last (by decide) (by decide)]
 rfl
theorem q_may (D : ByteArray) : (stQ D).made.length = 2 ∧ fdV (stQ D).opn 0 0 = 2 ∧ dataAt (stQ D).inos 2 = D ∧ ∀ X, setData (stQ D).inos 2 X = (stQ X).inos := ⟨rfl, rfl, rfl, fun _ => rfl⟩
def wrote (o n : Nat) : ByteArray := txt (wroteL [] o [UInt8.ofNat n])
theorem putWs_go {c c' : Ca} {k : UInt8} {w : ByteArray} {ks : List UInt8} {ws : List ByteArray} (h : putW c k w = (c', true)) : putWs c (k :: ks) (w :: ws) = putWs c' ks ws := by
 rw [putWs, h]
 rfl
theorem call_W (o i j : Nat) (ho : o < 200) (hi : i < 16) (hj : j < 16) : callV 5 [110, 102, 111, 120] [txt [48], txt [48], txt (Dc.dec3L o), txt [hexD i, hexD j]] = (⟨5, 0, 0, (o : Int), 0, ⟨#[]⟩, ⟨#[]⟩, txt [UInt8.ofNat (16 * i + j)]⟩, true) := by
 obtain ⟨_, _, _, d4, d5, _⟩ := dec_ok o (by omega)
 obtain ⟨_, x2, _⟩ := hex_ok i hi j hj
 obtain ⟨n1, n2, _⟩ := one_ok
 have p1 : putW (call0 5) 110 (txt [48]) = (⟨5, 0, 0, 0, 0, ⟨#[]⟩, ⟨#[]⟩, ⟨#[]⟩⟩, true) := by
  show ({ call0 5 with core := numV (txt [48]) }, numOk (txt [48])) = _
  rw [n1, n2]
  rfl
 have p2 : putW ⟨5, 0, 0, 0, 0, ⟨#[]⟩, ⟨#[]⟩, ⟨#[]⟩⟩ 102 (txt [48]) = (⟨5, 0, 0, 0, 0, ⟨#[]⟩, ⟨#[]⟩, ⟨#[]⟩⟩, true) := by
  show ((⟨5, 0, numV (txt [48]), 0, 0, ⟨#[]⟩, ⟨#[]⟩, ⟨#[]⟩⟩ : Ca), numOk (txt [48])) = _
  rw [n1, n2]
 have p3 : putW ⟨5, 0, 0, 0, 0, ⟨#[]⟩, ⟨#[]⟩, ⟨#[]⟩⟩ 111 (txt (Dc.dec3L o)) = (⟨5, 0, 0, (o : Int), 0, ⟨#[]⟩, ⟨#[]⟩, ⟨#[]⟩⟩, true) := by
  show ((⟨5, 0, 0, numV (txt (Dc.dec3L o)), 0, ⟨#[]⟩, ⟨#[]⟩, ⟨#[]⟩⟩ : Ca), numOk (txt (Dc.dec3L o))) = _
  rw [d4, d5]
 have p4 : putW ⟨5, 0, 0, (o : Int), 0, ⟨#[]⟩, ⟨#[]⟩, ⟨#[]⟩⟩ 120 (txt [hexD i, hexD j]) = (⟨5, 0, 0, (o : Int), 0, ⟨#[]⟩, ⟨#[]⟩, txt [UInt8.ofNat (16 * i + j)]⟩, true) := by
  show ((⟨5, 0, 0, (o : Int), 0, ⟨#[]⟩, ⟨#[]⟩, (unhexB (txt [hexD i, hexD j])).1⟩ : Ca), (unhexB (txt [hexD i, hexD j])).2) = _
  rw [x2]
 have e0 : callV 5 [110, 102, 111, 120] [txt [48], txt [48], txt (Dc.dec3L o), txt [hexD i, hexD j]] = putWs (call0 5) [110, 102, 111, 120] [txt [48], txt [48], txt (Dc.dec3L o), txt [hexD i, hexD j]] := rfl
 rw [e0, putWs_go p1, putWs_go p2, putWs_go p3, putWs_go p4]
 rfl
theorem call_R (o : Nat) (ho : o < 200) : callV 4 [110, 102, 111, 107] [txt [48], txt [48], txt (Dc.dec3L o), txt [53]] = (⟨4, 0, 0, (o : Int), (5 : Nat), ⟨#[]⟩, ⟨#[]⟩, ⟨#[]⟩⟩, true) := by
 obtain ⟨_, _, _, d4, d5, _⟩ := dec_ok o (by omega)
 obtain ⟨n1, n2, n3, n4⟩ := one_ok
 have p1 : putW (call0 4) 110 (txt [48]) = (⟨4, 0, 0, 0, 0, ⟨#[]⟩, ⟨#[]⟩, ⟨#[]⟩⟩, true) := by
  show ({ call0 4 with core := numV (txt [48]) }, numOk (txt [48])) = _
  rw [n1, n2]
  rfl
 have p2 : putW ⟨4, 0, 0, 0, 0, ⟨#[]⟩, ⟨#[]⟩, ⟨#[]⟩⟩ 102 (txt [48]) = (⟨4, 0, 0, 0, 0, ⟨#[]⟩, ⟨#[]⟩, ⟨#[]⟩⟩, true) := by
  show ((⟨4, 0, numV (txt [48]), 0, 0, ⟨#[]⟩, ⟨#[]⟩, ⟨#[]⟩⟩ : Ca), numOk (txt [48])) = _
  rw [n1, n2]
 have p3 : putW ⟨4, 0, 0, 0, 0, ⟨#[]⟩, ⟨#[]⟩, ⟨#[]⟩⟩ 111 (txt (Dc.dec3L o)) = (⟨4, 0, 0, (o : Int), 0, ⟨#[]⟩, ⟨#[]⟩, ⟨#[]⟩⟩, true) := by
  show ((⟨4, 0, 0, numV (txt (Dc.dec3L o)), 0, ⟨#[]⟩, ⟨#[]⟩, ⟨#[]⟩⟩ : Ca), numOk (txt (Dc.dec3L o))) = _
  rw [d4, d5]
 have p4 : putW ⟨4, 0, 0, (o : Int), 0, ⟨#[]⟩, ⟨#[]⟩, ⟨#[]⟩⟩ 107 (txt [53]) = (⟨4, 0, 0, (o : Int), (5 : Nat), ⟨#[]⟩, ⟨#[]⟩, ⟨#[]⟩⟩, true) := by
  show ((⟨4, 0, 0, (o : Int), numV (txt [53]), ⟨#[]⟩, ⟨#[]⟩, ⟨#[]⟩⟩ : Ca), numOk (txt [53])) = _
  rw [n3, n4]
  rfl
 have e0 : callV 4 [110, 102, 111, 107] [txt [48], txt [48], txt (Dc.dec3L o), txt [53]] = putWs (call0 4) [110, 102, 111, 107] [txt [48], txt [48], txt (Dc.dec3L o), txt [53]] := rfl
 rw [e0, putWs_go p1, putWs_go p2, putWs_go p3, putWs_go p4]
 rfl
theorem wrote_len (o n : Nat) : (wrote o n).data.toList.length = o + 1 := by
 show (wroteL [] o [UInt8.ofNat n]).length = _
 rw [wroteL_len, if_neg (by simp)]
 show max 0 (o + 1) = o + 1
 omega
theorem wrote_drop (o n : Nat) : ((wrote o n).data.toList.drop o).take 5 = [UInt8.ofNat n] := by
 have hl := wrote_len o n
 have hg : (wrote o n).data.toList[o]? = some (UInt8.ofNat n) := by
  show (wroteL [] o [UInt8.ofNat n])[o]? = _
  rw [wroteL_get _ _ _ _ (by have := hl; exact (by omega : o < (wrote o n).data.toList.length)), if_pos ⟨Nat.le_refl _, by simp⟩, Nat.sub_self]
  rfl
 have hlt : o < (wrote o n).data.toList.length := by omega
 rw [List.drop_eq_getElem_cons hlt, List.drop_eq_nil_of_le (by omega)]
 rw [List.getElem?_eq_getElem hlt] at hg
 rw [Option.some.inj hg]
 rfl
theorem st_W (o i j : Nat) (ho : o < 200) (hi : i < 16) (hj : j < 16) : stB27 (preL o i j) = stQ (wrote o (16 * i + j)) ∧ mayV (stQ (wrote o (16 * i + j))) = true := by
 have hm0 : mayV (stQ ⟨#[]⟩) = true := by decide +kernel
 obtain ⟨d1, d2, _⟩ := dec_ok o (by omega)
 obtain ⟨x1, _⟩ := hex_ok i hi j hj
 have hno : ∀ b ∈ lnW o i j, b ≠ 10 := by
  intro b hb
  unfold lnW at hb
  simp only [List.mem_append, List.mem_cons, List.not_mem_nil, or_false] at hb
  rcases hb with (rfl | rfl | rfl | rfl | rfl) | rfl | rfl | rfl | rfl | rfl | hb | rfl | hb
  all_goals first
   | decide
   | exact (d1 b hb).2.2
   | exact (x1 b (by simpa using hb)).2.2
 have hw := words_W o i j ho hi hj
 have hmu : mute [txt [119, 114, 105, 116, 101], txt [48], txt [48], txt (Dc.dec3L o), txt [hexD i, hexD j]] = false := rfl
 obtain ⟨q1, q2, q3, q4⟩ := q_may ⟨#[]⟩
 have hdo := write_ok (s := stQ ⟨#[]⟩) (fd := 0) (n := 2) (D := ⟨#[]⟩) hm0 (by decide) q2 (by decide) q3 (q4 _) o (txt [UInt8.ofNat (16 * i + j)]) (by show o + 1 ≤ 256; omega)
 rw [q4] at hdo
 have hl := line_of (stQ ⟨#[]⟩) (txt [119, 114, 105, 116, 101]) [txt [48], txt [48], txt (Dc.dec3L o), txt [hexD i, hexD j]] (k := 5) (ks := [110, 102, 111, 120]) rfl (call_W o i j ho hi hj) hdo
 have e : stB27 (preL o i j) = stQ (wrote o (16 * i + j)) := by
  unfold stB27 preL
  rw [show lnC ++ 10 :: (lnO ++ 10 :: lnW o i j) = (lnC ++ 10 :: lnO) ++ 10 :: lnW o i j by rw [List.append_assoc]; rfl, splitL_app, splitL_none _ hno, List.map_append, List.map_append, List.map_cons, List.map_nil, List.map_cons, List.map_nil, hw, stW_last _ _ _ hmu, st_first, hl]
  rfl
 refine ⟨e, ?_⟩
 rw [← e]
 exact (good_iff _).2 (stB27_good _)
theorem join2 (a b : List UInt8) : Lib.join [a, b] [32] = a ++ 32 :: b := by
 rw [Lib.join_cons]
 unfold Lib.joinTail
 simp
theorem dec_0 : decN 0 = [48] := by decide +kernel
theorem ask_read (o i j : Nat) (ho : o < 200) (hi : i < 16) (hj : j < 16) : (lineV (stB27 (preL o i j)) (wordsB (txt (lnR o)))).2 = [48, 32, hexD i, hexD j] := by
 obtain ⟨e, hm⟩ := st_W o i j ho hi hj
 obtain ⟨_, _, x3⟩ := hex_ok i hi j hj
 obtain ⟨q1, q2, q3, q4⟩ := q_may (wrote o (16 * i + j))
 have hdo := read_at (s := stQ (wrote o (16 * i + j))) (fd := 0) (n := 2) hm (by rw [q1]; decide) q2 (by decide) q3 o 5 (by omega) (by omega)
 rw [wrote_drop] at hdo
 rw [e, words_R o ho, line_of _ _ _ (k := 4) (ks := [110, 102, 111, 107]) rfl (call_R o ho) hdo]
 show Lib.join [decN 0, hexT [UInt8.ofNat (16 * i + j)]] [32] = _
 rw [join2, x3, dec_0]
 rfl
def lnS : List UInt8 := [115, 105, 122, 101, 32, 48, 32, 48]
def lnT : List UInt8 := [115, 116, 97, 116, 32, 49, 32, 47, 113]
def lnF : List UInt8 := [114, 101, 97, 100, 32, 48, 32, 48, 32, 50, 48, 48, 32, 49]
def lnB : List UInt8 := [115, 105, 122, 101, 32, 49, 32, 48]
theorem words_SB : wordsB (txt lnS) = [txt [115, 105, 122, 101], txt [48], txt [48]] ∧ wordsB (txt lnT) = [txt [115, 116, 97, 116], txt [49], txt [47, 113]] ∧ wordsB (txt lnF) = [txt [114, 101, 97, 100], txt [48], txt [48], txt [50, 48, 48], txt [49]] ∧ wordsB (txt lnB) = [txt [115, 105, 122, 101], txt [49], txt [48]] := by decide +kernel
theorem nums_ok : numOk (txt [49]) = true ∧ numV (txt [49]) = 1 ∧ numOk (txt [50, 48, 48]) = true ∧ numV (txt [50, 48, 48]) = 200 := by decide +kernel
theorem putN (c : Ca) (w : ByteArray) (v : Int) (h : numOk w = true) (hv : numV w = v) : putW c 110 w = ({ c with core := v }, true) ∧ putW c 102 w = ({ c with fd := v }, true) ∧ putW c 111 w = ({ c with off := v }, true) ∧ putW c 107 w = ({ c with num := v }, true) := by
 refine ⟨?_, ?_, ?_, ?_⟩
 ·show ({ c with core := numV w }, numOk w) = _
  rw [h, hv]
 ·show ({ c with fd := numV w }, numOk w) = _
  rw [h, hv]
 ·show ({ c with off := numV w }, numOk w) = _
  rw [h, hv]
 ·show ({ c with num := numV w }, numOk w) = _
  rw [h, hv]
theorem call_S (a : ByteArray) (v : Int) (h : numOk a = true) (hv : numV a = v) : callV 7 [110, 102] [a, txt [48]] = (⟨7, v, 0, 0, 0, ⟨#[]⟩, ⟨#[]⟩, ⟨#[]⟩⟩, true) := by
 obtain ⟨n1, n2, _⟩ := one_ok
 have e0 : callV 7 [110, 102] [a, txt [48]] = putWs (call0 7) [110, 102] [a, txt [48]] := rfl
 rw [e0, putWs_go (putN _ _ _ h hv).1, putWs_go (putN _ _ _ n1 n2).2.1]
 rfl
theorem call_T : callV 13 [110, 112] [txt [49], txt [47, 113]] = (⟨13, 1, 0, 0, 0, txt [47, 113], ⟨#[]⟩, ⟨#[]⟩⟩, true) := by
 obtain ⟨n1, n2, _⟩ := nums_ok
 have e0 : callV 13 [110, 112] [txt [49], txt [47, 113]] = putWs (call0 13) [110, 112] [txt [49], txt [47, 113]] := rfl
 have p2 : putW { call0 13 with core := 1 } 112 (txt [47, 113]) = (⟨13, 1, 0, 0, 0, txt [47, 113], ⟨#[]⟩, ⟨#[]⟩⟩, true) := rfl
 rw [e0, putWs_go (putN _ _ _ n1 n2).1, putWs_go p2]
 rfl
theorem call_F : callV 4 [110, 102, 111, 107] [txt [48], txt [48], txt [50, 48, 48], txt [49]] = (⟨4, 0, 0, ((200 : Nat) : Int), ((1 : Nat) : Int), ⟨#[]⟩, ⟨#[]⟩, ⟨#[]⟩⟩, true) := by
 obtain ⟨n1, n2, _⟩ := one_ok
 obtain ⟨m1, m2, m3, m4⟩ := nums_ok
 have e0 : callV 4 [110, 102, 111, 107] [txt [48], txt [48], txt [50, 48, 48], txt [49]] = putWs (call0 4) [110, 102, 111, 107] [txt [48], txt [48], txt [50, 48, 48], txt [49]] := rfl
 rw [e0, putWs_go (putN _ _ _ n1 n2).1, putWs_go (putN _ _ _ n1 n2).2.1, putWs_go (putN _ _ _ m3 m4).2.2.1, putWs_go (putN _ _ _ m1 m2).2.2.2]
 rfl
theorem wrote_size (o n : Nat) : (wrote o n).size = o + 1 := by
 rw [show (wrote o n).size = (wrote o n).data.toList.length by rw [Array.length_toList]; rfl, wrote_len]
theorem ask_size (o i j : Nat) (ho : o < 200) (hi : i < 16) (hj : j < 16) : (lineV (stB27 (preL o i j)) (wordsB (txt lnS))).2 = [48, 32] ++ Dc.dec3L (o + 1) := by
 obtain ⟨e, hm⟩ := st_W o i j ho hi hj
 obtain ⟨q1, q2, q3, q4⟩ := q_may (wrote o (16 * i + j))
 have hdo := size_at (s := stQ (wrote o (16 * i + j))) (fd := 0) (n := 2) hm (by rw [q1]; decide) q2 (by decide) q3
 rw [wrote_size] at hdo
 obtain ⟨n1, n2, _⟩ := one_ok
 rw [e, words_SB.1, line_of _ _ _ (k := 7) (ks := [110, 102]) rfl (call_S _ 0 n1 n2) hdo]
 show Lib.join [decN 0, decN ((o + 1 : Nat) : Int)] [32] = _
 rw [join2, dec_0, (dec_ok (o + 1) (by omega)).2.2.2.2.2]
 rfl
theorem parse_q : parseL [47, 113] = ([[113]], 0) := by decide +kernel
theorem find_q (D : ByteArray) : findV (stQ D).inos (txt [47, 113]) = (2, 0) := by
 unfold findV
 rw [show (txt [47, 113]).data.toList = [47, 113] from rfl, parse_q]
 rfl
theorem ask_stat (o i j : Nat) (ho : o < 200) (hi : i < 16) (hj : j < 16) : (lineV (stB27 (preL o i j)) (wordsB (txt lnT))).2 = [48, 32] ++ Dc.dec3L (o + 1) := by
 obtain ⟨e, hm⟩ := st_W o i j ho hi hj
 have hdo : doV (stQ (wrote o (16 * i + j))) ⟨13, 1, 0, 0, 0, txt [47, 113], ⟨#[]⟩, ⟨#[]⟩⟩ = (stQ (wrote o (16 * i + j)), { num := ((o + 1 : Nat) : Int) }) := by
  unfold doV doF
  rw [if_neg (may_call2 hm (by decide) (by decide) (by decide) (by show (1 : Int) < 2; decide)), if_neg (by decide), if_neg (by decide), if_neg (by decide), if_neg (by decide), if_pos (by decide)]
  unfold looksV
  simp only [find_q]
  rw [if_neg (by decide), if_neg (by decide), if_pos (by decide), ← wrote_size o (16 * i + j)]
  rfl
 rw [e, words_SB.2.1, line_of _ _ _ (k := 13) (ks := [110, 112]) rfl call_T hdo]
 show Lib.join [decN 0, decN ((o + 1 : Nat) : Int)] [32] = _
 rw [join2, dec_0, (dec_ok (o + 1) (by omega)).2.2.2.2.2]
 rfl
theorem ask_far (o i j : Nat) (ho : o < 200) (hi : i < 16) (hj : j < 16) : (lineV (stB27 (preL o i j)) (wordsB (txt lnF))).2 = [48, 32, 45] := by
 obtain ⟨e, hm⟩ := st_W o i j ho hi hj
 obtain ⟨q1, q2, q3, q4⟩ := q_may (wrote o (16 * i + j))
 have hdo := read_at (s := stQ (wrote o (16 * i + j))) (fd := 0) (n := 2) hm (by rw [q1]; decide) q2 (by decide) q3 200 1 (by omega) (by omega)
 rw [List.drop_eq_nil_of_le (by rw [wrote_len]; omega)] at hdo
 rw [e, words_SB.2.2.1, line_of _ _ _ (k := 4) (ks := [110, 102, 111, 107]) rfl call_F hdo]
 show Lib.join [decN 0, hexT []] [32] = _
 rw [join2, dec_0]
 rfl
theorem ask_bad (o i j : Nat) (ho : o < 200) (hi : i < 16) (hj : j < 16) : (lineV (stB27 (preL o i j)) (wordsB (txt lnB))).2 = [52] := by
 obtain ⟨e, hm⟩ := st_W o i j ho hi hj
 have hdo : doV (stQ (wrote o (16 * i + j))) ⟨7, 1, 0, 0, 0, ⟨#[]⟩, ⟨#[]⟩, ⟨#[]⟩⟩ = (stQ (wrote o (16 * i + j)), { code := 4 }) := by
  rw [doV_fd hm ⟨show (3 : Int) ≤ 7 by decide, show (7 : Int) ≤ 7 by decide⟩ (by decide) (by show (1 : Int) < 2; decide)]
  unfold byFdV
  exact if_pos (show fdV (stQ (wrote o (16 * i + j))).opn 1 0 = 0 from rfl)
 obtain ⟨m1, m2, _⟩ := nums_ok
 rw [e, words_SB.2.2.2, line_of _ _ _ (k := 7) (ks := [110, 102]) rfl (call_S _ 1 m1 m2) hdo]
 show Lib.join [decN 4] [32] = _
 rw [Lib.join_one]
 decide +kernel
end Go.Proofs.YtilkhmhgjbhfnaaGreatDoor
