/- Parts of the proof, side by side: ShP, ConP. -/
import Derived.Test.YtilkhmhgjbhfnaaGreatDoorM05
import Derived.Test.YtilkhmhgjbhfnaaGreatDoorM02
import Derived.Test.YtilkhmhgjbhfnaaGreatDoorM14
import Derived.Lib.ItoaNum
import Derived.Test.YtilkhmhgjbhfnaaGreatDoorM09
import Derived.Test.YtilkhmhgjbhfnaaGreatDoorM00
import Derived.Lib.FieldsP
import Derived.Lib.Split
import Derived.Lib.Atoi
import Derived.Lib.Strings
import Derived.Lib.Join
set_option linter.unusedVariables false
set_option linter.unusedSimpArgs false
namespace Go.Proofs.YtilkhmhgjbhfnaaGreatDoor
def hexD (n : Nat) : UInt8 := if n < 10 then UInt8.ofNat (48 + n) else UInt8.ofNat (87 + n)
def hexL : List UInt8 → List UInt8
 | [] => []
 | b :: bs => hexD (b.toNat / 16) :: hexD (b.toNat % 16) :: hexL bs
def hexT (l : List UInt8) : List UInt8 := if l = [] then [45] else hexL l
theorem hexL_len : ∀ l : List UInt8, (hexL l).length = 2 * l.length
 | [] => rfl
 | b :: bs => by simp only [hexL, List.length_cons, hexL_len bs]; omega
theorem hexT_len (l : List UInt8) : (hexT l).length ≤ 2 * l.length + 1 := by
 unfold hexT
 split
 ·simp
 ·rw [hexL_len]; omega
def decN (n : Int) : List UInt8 := Lib.decDigits n.toNat
theorem nDigits_three {u : Nat} (h : u < 1000) : Lib.nDigits u ≤ 3 := by
 by_cases h1 : u < 10
 ·rw [Lib.nDigits_small h1]; omega
 ·rw [Lib.nDigits_big h1]
  by_cases h2 : u / 10 < 10
  ·rw [Lib.nDigits_small h2]; omega
  ·rw [Lib.nDigits_big h2, Lib.nDigits_small (by omega)]
   omega
theorem decN_len {n : Int} (h : n < 1000) : (decN n).length ≤ 3 := by
 unfold decN
 rw [Lib.decDigits_length]
 exact nDigits_three (by omega)
def shownL (p : List UInt8) : List UInt8 := if p = [] then [47] else p
def lineD (p : List UInt8) (num : Int) : List UInt8 := 100 :: 32 :: (shownL p ++ 32 :: (decN num ++ [10]))
def lineF (p : List UInt8) (num : Int) (d : List UInt8) : List UInt8 := 102 :: 32 :: (shownL p ++ 32 :: (decN num ++ 32 :: (hexT d ++ [10])))
def stepSh (p : List UInt8) (n : ByteArray) : List UInt8 := p ++ 47 :: n.data.toList
def walkL (is : List Ino) : Nat → Int → List UInt8 → List UInt8
 | 0, _, _ => []
 | n + 1, num, p =>
  match inoAt is (atV is num) with
  | none => []
  | some x => if x.dir then lineD p num ++ x.ents.flatMap (fun e => walkL is n e.num (stepSh p e.name)) else lineF p num x.data.data.toList
def topD (s : St) : Nat := s.inos.length + 2
def filesL (s : St) : List UInt8 := walkL s.inos (topD s) 1 []
def lineU (x : Ino) : List UInt8 := 117 :: 32 :: (decN x.num ++ 32 :: (hexT x.data.data.toList ++ [10]))
def unlL (s : St) (xs : List Ino) : List UInt8 := xs.flatMap (fun x => if !x.dir && decide (linkI s.inos x.num = 0) then lineU x else [])
def lineO (d : Ds) : List UInt8 := 111 :: 32 :: (decN d.core ++ 32 :: (decN d.fd ++ 32 :: (decN d.num ++ [10])))
def opnL (ds : List Ds) : List UInt8 := ds.flatMap lineO
def madeSh (ms : List Int) : List UInt8 := ms.flatMap (fun m => 32 :: decN m)
def restL (s : St) : List UInt8 := unlL s s.inos ++ (opnL s.opn ++ 109 :: madeSh s.made)
def ofL (s : St) : List UInt8 := filesL s ++ (restL s ++ [10])
def DeepT (is : List Ino) : Nat → Int → Prop
 | 0, _ => False
 | n + 1, num => ∃ x, inoAt is (atV is num) = some x ∧ (1 ≤ num ∧ num ≤ 257) ∧ x.data.size ≤ 256 ∧ (x.dir = false → x.ents = []) ∧ ∀ e ∈ x.ents, e.name.size ≤ 12 ∧ DeepT is n e.num
theorem txt_listSh (l : List UInt8) : (txt l).data.toList = l := by unfold txt; simp
theorem take_lenSh {α : Type} (f : α → List UInt8) (l : List α) (k : Nat) (a : α) (h : l[k]? = some a) : ((l.take k).flatMap f).length + (f a).length ≤ (l.flatMap f).length := by
 obtain ⟨hk, e⟩ := List.getElem?_eq_some_iff.1 h
 have h1 : l = l.take k ++ (a :: l.drop (k + 1)) := by
  rw [← e, List.getElem_cons_drop, List.take_append_drop]
 conv => rhs; rw [h1]
 rw [List.flatMap_append, List.flatMap_cons, List.length_append, List.length_append]
 omega
theorem flat_takeSh {α : Type} (f : α → List UInt8) (l : List α) (k : Nat) (a : α) (h : l[k]? = some a) : (l.take (k + 1)).flatMap f = (l.take k).flatMap f ++ f a := by
 rw [List.take_add_one, h]
 simp
theorem at_mem {is : List Ino} {n : Int} {x : Ino} (h : inoAt is (atV is n) = some x) : x ∈ is ∧ x.num = n := by
 rcases atV_cases is n with ⟨h1, _⟩ | ⟨k, y, h1, hy, hn, _⟩
 ·rw [h1] at h; simp [inoAt] at h
 ·rw [h1, inoAt_nat, hy] at h
  cases h
  exact ⟨List.mem_of_getElem? hy, hn⟩
theorem chk_size12 {n : ByteArray} (h : chkB n = 0) : n.size ≤ 12 := by
 unfold chkB checkL at h
 by_cases h1 : 12 < n.data.toList.length
 ·rw [if_pos h1] at h; cases h
 ·have : n.data.toList.length = n.size := Array.length_toList
  omega
theorem Good.num_at {s : St} (h : Good s) {i : Nat} {x : Ino} (hx : s.inos[i]? = some x) : 1 ≤ x.num ∧ x.num ≤ 257 := by
 have h8 := h.m8
 rcases Nat.eq_zero_or_pos i with rfl | hi
 ·obtain ⟨r, hr, hrn, _⟩ := h.root
  rw [hx] at hr; cases hr
  omega
 ·have hg := h.given i x hi hx
  unfold givenV at hg
  by_cases h2 : x.num < 2
  ·rw [if_pos h2] at hg; cases hg
  ·rw [if_neg h2] at hg
   simp only [Bool.and_eq_true, decide_eq_true_eq] at hg
   have hm : s.made.getD ((x.num - 2) % 8).toNat 0 ≤ 32 := by
    rw [List.getD_eq_getElem?_getD]
    rcases hq : s.made[((x.num - 2) % 8).toNat]? with _ | m
    ·simp
    ·exact (h.mr m (List.mem_of_getElem? hq)).2
   omega
theorem Good.deepT {s : St} (h : Good s) : ∀ (n : Nat) (num : Int), Deep s.inos n num → 0 ≤ atV s.inos num → DeepT s.inos (n + 1) num
 | 0, num, hd, _ => absurd hd (by intro h; exact h)
 | n + 1, num, hd, hat => by
  rcases atV_cases s.inos num with ⟨h1, _⟩ | ⟨i, x, h1, hx, hxn, _⟩
  ·omega
  ·have hi : inoAt s.inos (atV s.inos num) = some x := by rw [h1, inoAt_nat, hx]
   have hm : x ∈ s.inos := List.mem_of_getElem? hx
   have hsz : x.data.size ≤ 256 := by
    by_cases hdir : x.dir = true
    ·have := (h.dirs x hm hdir).1; omega
    ·exact (h.files x hm (by simpa using hdir)).2
   refine ⟨x, hi, by rw [← hxn]; exact h.num_at hx, hsz, fun hf => (h.files x hm hf).1, fun e he => ?_⟩
   by_cases hdir : x.dir = true
   ·have h2 := (h.dirs x hm hdir).2
    obtain ⟨j, y, hj, hy, hyn, haty⟩ := h.ent hx hdir he
    have hch : chkB e.name = 0 := ((entsG_each s.inos x.ents none (fun _ => 0) h2).1 e he).1
    refine ⟨chk_size12 hch, ?_⟩
    by_cases hyd : y.dir = true
    ·refine h.deepT n e.num (hd x hi e he ?_) (by omega)
     unfold dirAt
     rw [haty, inoAt_nat, hy]
     exact hyd
    ·have hyf : y.dir = false := by simpa using hyd
     have hym : y ∈ s.inos := List.mem_of_getElem? hy
     exact ⟨y, by rw [haty, inoAt_nat, hy], by rw [← hyn]; exact h.num_at hy, (h.files y hym hyf).2, fun _ => (h.files y hym hyf).1, by rw [(h.files y hym hyf).1]; simp⟩
   ·rw [(h.files x hm (by simpa using hdir)).1] at he
    simp at he
theorem Good.top {s : St} (h : Good s) : DeepT s.inos (topD s) 1 := by
 obtain ⟨r, hr, hrn, hrd⟩ := h.root
 have ha := h.root_at
 have := h.deepT (1 + s.inos.length) 1 (h.deep 1 (by unfold dirAt; rw [ha, inoAt_nat, hr]; exact hrd)) (by omega)
 have e : topD s = 1 + s.inos.length + 1 := by unfold topD; omega
 rw [e]
 exact this
/-! How long a state's text is: few lines at each level. -/
theorem sum_few : ∀ (L : List Int) (ns : List Int) (f : Int → Nat), (∀ n ∈ ns, f n ≠ 0 → n ∈ L ∧ ns.count n ≤ 1) → (ns.map f).sum ≤ (L.map f).sum
 | [], ns, f, h => by
  have : ∀ n ∈ ns, f n = 0 := fun n hn => by
   by_cases h0 : f n = 0
   ·exact h0
   ·exact absurd (h n hn h0).1 (by simp)
  have h2 : ns.map f = ns.map (fun _ => 0) := List.map_congr_left this
  have h3 : ∀ l : List Int, (l.map (fun _ => 0)).sum = 0 := by
   intro l
   induction l with
   | nil => rfl
   | cons a l ih => rw [List.map_cons, List.sum_cons, ih]
  rw [h2, h3]
  exact Nat.zero_le _
 | a :: L, ns, f, h => by
  have h1 := sum_few L ns (fun n => if n = a then 0 else f n) (fun n hn h0 => by
   by_cases e : n = a
   ·simp [e] at h0
   ·simp only [if_neg e] at h0
    have := h n hn h0
    refine ⟨?_, this.2⟩
    rcases List.mem_cons.1 this.1 with h3 | h3
    ·exact absurd h3 e
    ·exact h3)
  have h2 : ∀ ms : List Int, (ms.map f).sum = ms.count a * f a + (ms.map (fun n => if n = a then 0 else f n)).sum := by
   intro ms
   induction ms with
   | nil => simp
   | cons m ms ih =>
    rw [List.map_cons, List.sum_cons, ih, List.map_cons, List.sum_cons, List.count_cons]
    by_cases e : m = a
    ·subst e; simp [Nat.add_mul]; omega
    ·simp [e]; omega
  have h3 : ns.count a * f a ≤ f a := by
   by_cases h0 : f a = 0
   ·simp [h0]
   ·by_cases hm : a ∈ ns
    ·have := (h a hm h0).2
     calc ns.count a * f a ≤ 1 * f a := Nat.mul_le_mul_right _ this
      _ = f a := Nat.one_mul _
    ·rw [List.count_eq_zero.2 hm]; simp
  have h4 : (L.map (fun n => if n = a then 0 else f n)).sum ≤ (L.map f).sum := by
   clear h h1 h2 h3
   induction L with
   | nil => simp
   | cons m ms ih =>
    rw [List.map_cons, List.sum_cons, List.map_cons, List.sum_cons]
    by_cases e : m = a
    ·simp [e]; omega
    ·simp [e]; omega
  rw [h2 ns, List.map_cons, List.sum_cons]
  omega
def kidsN (is : List Ino) (n : Int) : List En := match inoAt is (atV is n) with | none => [] | some x => if x.dir then x.ents else []
def belowN (is : List Ino) (ns : List Int) : List Int := ns.flatMap (fun n => (kidsN is n).map (·.num))
def Few (s : St) (ns : List Int) : Prop := ∀ n, dirAt s.inos n = true → ns.count n ≤ 1
theorem kids_dir {is : List Ino} {n : Int} (h : kidsN is n ≠ []) : dirAt is n = true ∧ 0 ≤ atV is n := by
 unfold kidsN at h
 unfold dirAt
 rcases hq : inoAt is (atV is n) with _ | x
 ·rw [hq] at h; exact absurd rfl h
 ·rw [hq] at h
  by_cases hd : x.dir = true
  ·refine ⟨hd, ?_⟩
   unfold inoAt at hq
   by_cases h0 : atV is n < 0
   ·rw [if_pos h0] at hq; cases hq
   ·omega
  ·simp [hd] at h
theorem Good.kids_at {s : St} (h : Good s) {i : Nat} {x : Ino} (hx : s.inos[i]? = some x) : kidsN s.inos x.num = if x.dir then x.ents else [] := by
 unfold kidsN
 rw [h.idx hx, inoAt_nat, hx]
theorem linkE_cons (e : En) (es : List En) (m : Int) : linkE (e :: es) m = (if e.num = m then 1 else 0) + linkE es m := rfl
theorem linkI_cons (x : Ino) (xs : List Ino) (m : Int) : linkI (x :: xs) m = (if x.dir then linkE x.ents m else 0) + linkI xs m := rfl
theorem linkE_count (es : List En) (m : Int) : (es.map (·.num)).count m = linkE es m := by
 induction es with
 | nil => rfl
 | cons e es ih =>
  rw [List.map_cons, List.count_cons, ih, linkE_cons]
  by_cases he : e.num = m
  ·simp [he]; omega
  ·simp [he]
theorem below_count (is : List Ino) (m : Int) : ∀ ns : List Int, (belowN is ns).count m = (ns.map (fun n => linkE (kidsN is n) m)).sum
 | [] => rfl
 | n :: ns => by
  have := below_count is m ns
  unfold belowN at this ⊢
  rw [List.flatMap_cons, List.count_append, this, List.map_cons, List.sum_cons, linkE_count]
theorem below_len (is : List Ino) : ∀ ns : List Int, (belowN is ns).length = (ns.map (fun n => (kidsN is n).length)).sum
 | [] => rfl
 | n :: ns => by
  have := below_len is ns
  unfold belowN at this ⊢
  rw [List.flatMap_cons, List.length_append, this, List.map_cons, List.sum_cons, List.length_map]
theorem mem_num {is : List Ino} {n : Int} (h : 0 ≤ atV is n) : n ∈ is.map (·.num) := by
 obtain ⟨y, hy, hn⟩ := atV_ge.1 h
 exact List.mem_map.2 ⟨y, hy, hn⟩
theorem Good.few {s : St} (h : Good s) {ns : List Int} (hf : Few s ns) : Few s (belowN s.inos ns) ∧ (belowN s.inos ns).length ≤ 8224 := by
 have hk : ∀ x ∈ s.inos, kidsN s.inos x.num = if x.dir then x.ents else [] := fun x hx => by
  obtain ⟨i, hi⟩ := List.getElem?_of_mem hx
  exact h.kids_at hi
 constructor
 ·intro m hm
  rw [below_count]
  have h1 := sum_few (s.inos.map (·.num)) ns (fun n => linkE (kidsN s.inos n) m) (fun n _ h0 => by
   have hne : kidsN s.inos n ≠ [] := fun e => h0 (by simp only [e]; rfl)
   have := kids_dir hne
   exact ⟨mem_num this.2, hf n this.1⟩)
  refine Nat.le_trans h1 ?_
  have h2 : ∀ xs : List Ino, (∀ x ∈ xs, x ∈ s.inos) → ((xs.map (·.num)).map (fun n => linkE (kidsN s.inos n) m)).sum = linkI xs m := by
   intro xs
   induction xs with
   | nil => intro _; rfl
   | cons x xs ih =>
    intro hx
    rw [List.map_cons, List.map_cons, List.sum_cons, ih (fun y hy => hx y (by simp [hy])), hk x (hx x (by simp)), linkI_cons]
    by_cases hd : x.dir = true
    ·rw [if_pos hd, if_pos hd]
    ·rw [if_neg hd, if_neg hd]
     rfl
  rw [h2 s.inos (fun _ hx => hx)]
  unfold dirAt at hm
  rcases atV_cases s.inos m with ⟨h3, _⟩ | ⟨i, x, h3, hx, hxn, _⟩
  ·rw [h3] at hm; simp [inoAt] at hm
  ·rw [h3, inoAt_nat, hx] at hm
   rcases Nat.eq_zero_or_pos i with rfl | hi
   ·obtain ⟨r, hr, hrn, _⟩ := h.root
    rw [hx] at hr; cases hr
    have : ∀ xs : List Ino, (∀ x ∈ xs, x ∈ s.inos) → linkI xs m = 0 := by
     intro xs
     induction xs with
     | nil => intro _; rfl
     | cons z xs ih =>
      intro hz
      rw [linkI_cons, ih (fun y hy => hz y (by simp [hy]))]
      by_cases hd : z.dir = true
      ·have hv := (h.dirs z (hz z (by simp)) hd).2
       have hl : ∀ es : List En, (∀ e ∈ es, e.num ≠ m) → linkE es m = 0 := by
        intro es
        induction es with
        | nil => intro _; rfl
        | cons e es ih2 =>
         intro he
         rw [linkE_cons, if_neg (he e (by simp)), ih2 (fun y hy => he y (by simp [hy]))]
       rw [if_pos hd, hl z.ents (fun e he => by
        have := (entsG_ne1 s.inos z.ents none (fun _ => 0) hv e he).1
        rw [← hxn, hrn]
        exact this)]
      ·rw [if_neg hd]
    rw [this s.inos (fun _ hx => hx)]
    omega
   ·have := (h.one i x hi hx hm).1
    rw [hxn] at this
    omega
 ·rw [below_len]
  have h1 := sum_few (s.inos.map (·.num)) ns (fun n => (kidsN s.inos n).length) (fun n _ h0 => by
   have hne : kidsN s.inos n ≠ [] := fun e => h0 (by simp only [e]; rfl)
   have := kids_dir hne
   exact ⟨mem_num this.2, hf n this.1⟩)
  refine Nat.le_trans h1 ?_
  have h2 : ∀ xs : List Ino, (∀ x ∈ xs, x ∈ s.inos) → ((xs.map (·.num)).map (fun n => (kidsN s.inos n).length)).sum ≤ 32 * xs.length := by
   intro xs
   induction xs with
   | nil => intro _; simp
   | cons x xs ih =>
    intro hx
    have := ih (fun y hy => hx y (by simp [hy]))
    have h3 : (kidsN s.inos x.num).length ≤ 32 := by
     rw [hk x (hx x (by simp))]
     split
     ·exact h.ents_len (hx x (by simp))
     ·simp
    rw [List.map_cons, List.map_cons, List.sum_cons, List.length_cons]
    omega
  have := h2 s.inos (fun _ hx => hx)
  have := h.len
  omega
theorem shown_len (p : List UInt8) : (shownL p).length ≤ p.length + 1 := by
 unfold shownL
 split
 ·simp
 ·omega
theorem sum_flat {α β : Type} (f : α → List β) (g : β → Nat) : ∀ l : List α, ((l.flatMap f).map g).sum = (l.map (fun a => ((f a).map g).sum)).sum
 | [] => rfl
 | a :: l => by rw [List.flatMap_cons, List.map_append, List.sum_append, sum_flat f g l, List.map_cons, List.sum_cons]
theorem flat_lenSh {α : Type} (f : α → List UInt8) : ∀ l : List α, (l.flatMap f).length = (l.map (fun a => (f a).length)).sum
 | [] => rfl
 | a :: l => by rw [List.flatMap_cons, List.length_append, flat_lenSh f l, List.map_cons, List.sum_cons]
theorem sum_le {α : Type} (f g : α → Nat) (c : Nat) : ∀ l : List α, (∀ a ∈ l, f a ≤ c + g a) → (l.map f).sum ≤ l.length * c + (l.map g).sum
 | [], _ => by simp
 | a :: l, h => by
  have h1 := sum_le f g c l (fun x hx => h x (by simp [hx]))
  have h2 := h a (by simp)
  rw [List.map_cons, List.sum_cons, List.map_cons, List.sum_cons, List.length_cons, Nat.add_mul]
  omega
theorem walk_dir {is : List Ino} {n : Nat} {num : Int} {p : List UInt8} {x : Ino} (hx : inoAt is (atV is num) = some x) (hd : x.dir = true) : walkL is (n + 1) num p = lineD p num ++ x.ents.flatMap (fun e => walkL is n e.num (stepSh p e.name)) := by
 conv => lhs; unfold walkL
 rw [hx]
 simp only [hd, if_true]
theorem walk_file {is : List Ino} {n : Nat} {num : Int} {p : List UInt8} {x : Ino} (hx : inoAt is (atV is num) = some x) (hd : x.dir = false) : walkL is (n + 1) num p = lineF p num x.data.data.toList := by
 conv => lhs; unfold walkL
 rw [hx]
 simp [hd]
theorem walk_one {is : List Ino} {n : Nat} {num : Int} {p : List UInt8} (hd : DeepT is (n + 1) num) :
  (walkL is (n + 1) num p).length ≤ (p.length + 530) + ((kidsN is num).map (fun e => (walkL is n e.num (stepSh p e.name)).length)).sum := by
 obtain ⟨x, hx, hr, hs, hf, _⟩ := hd
 have h3 : (decN num).length ≤ 3 := decN_len (by omega)
 have h4 := shown_len p
 have h5 := hexT_len x.data.data.toList
 have h6 : x.data.data.toList.length = x.data.size := Array.length_toList
 by_cases hdir : x.dir = true
 ·have hk : kidsN is num = x.ents := by unfold kidsN; rw [hx]; simp [hdir]
  rw [walk_dir hx hdir, hk, List.length_append, flat_lenSh]
  have : (lineD p num).length ≤ p.length + 530 := by
   unfold lineD
   simp only [List.length_cons, List.length_append, List.length_nil]
   omega
  omega
 ·rw [walk_file hx (by simpa using hdir)]
  unfold lineF
  simp only [List.length_cons, List.length_append, List.length_nil]
  omega
theorem Good.walk_len {s : St} (h : Good s) : ∀ (d a : Nat) (ps : List (Int × List UInt8)), Few s (ps.map Prod.fst) → ps.length ≤ 8225 → (∀ q ∈ ps, DeepT s.inos d q.1 ∧ q.2.length ≤ a) →
  (ps.map (fun q => (walkL s.inos d q.1 q.2).length)).sum ≤ d * (8225 * (a + 13 * d + 530))
 | 0, a, ps, _, _, hd => by
  have : ∀ q ∈ ps, False := fun q hq => (hd q hq).1
  cases ps with
  | nil => simp
  | cons q ps => exact absurd (this q (by simp)) (by simp)
 | d + 1, a, ps, hf, hl, hd => by
  have h1 := sum_le (fun q : Int × List UInt8 => (walkL s.inos (d + 1) q.1 q.2).length) (fun q => ((kidsN s.inos q.1).map (fun e => (walkL s.inos d e.num (stepSh q.2 e.name)).length)).sum) (a + 530) ps (fun q hq => by
   have := walk_one (p := q.2) (hd q hq).1
   have := (hd q hq).2
   omega)
  have hfew := h.few hf
  have e1 : (ps.flatMap (fun q => (kidsN s.inos q.1).map (fun e => (e.num, stepSh q.2 e.name)))).map Prod.fst = belowN s.inos (ps.map Prod.fst) := by
   unfold belowN
   rw [List.map_flatMap, List.flatMap_map]
   congr 1
   funext q
   rw [List.map_map]
   rfl
  have h2 := h.walk_len d (a + 13) (ps.flatMap (fun q => (kidsN s.inos q.1).map (fun e => (e.num, stepSh q.2 e.name)))) (by rw [e1]; exact hfew.1) (by
   have := congrArg List.length e1
   rw [List.length_map] at this
   rw [this]
   exact Nat.le_succ_of_le hfew.2) (fun q hq => by
    obtain ⟨r, hr, hq⟩ := List.mem_flatMap.1 hq
    obtain ⟨e, he, rfl⟩ := List.mem_map.1 hq
    obtain ⟨x, hx, _, _, _, hall⟩ := (hd r hr).1
    have he2 : e ∈ x.ents := by
     unfold kidsN at he
     rw [hx] at he
     by_cases hdir : x.dir = true
     ·simpa [hdir] using he
     ·simp [hdir] at he
    have h3 := hall e he2
    refine ⟨h3.2, ?_⟩
    have h4 := (hd r hr).2
    have h5 : e.name.data.toList.length = e.name.size := Array.length_toList
    unfold stepSh
    simp only [List.length_append, List.length_cons]
    omega)
  rw [sum_flat] at h2
  simp only [List.map_map] at h2
  have e3 : ps.length * (a + 530) ≤ 8225 * (a + 530) := Nat.mul_le_mul_right _ hl
  have e4 : (d + 1) * (8225 * (a + 13 * (d + 1) + 530)) = d * (8225 * (a + 13 + 13 * d + 530)) + 8225 * (a + 13 * (d + 1) + 530) := by
   rw [Nat.add_mul, Nat.one_mul]
   have : a + 13 * (d + 1) + 530 = a + 13 + 13 * d + 530 := by omega
   rw [this]
  rw [e4]
  refine Nat.le_trans h1 ?_
  have e5 : 8225 * (a + 530) ≤ 8225 * (a + 13 * (d + 1) + 530) := Nat.mul_le_mul_left _ (by omega)
  have e6 : (ps.map (fun q => ((kidsN s.inos q.1).map (fun e => (walkL s.inos d e.num (stepSh q.2 e.name)).length)).sum)).sum ≤ d * (8225 * (a + 13 + 13 * d + 530)) := h2
  rw [Nat.add_comm]
  exact Nat.add_le_add e6 (Nat.le_trans e3 e5)
def maxT : Nat := 259 * (8225 * (0 + 13 * 259 + 530))
theorem maxT_le : maxT ≤ 17179869184 := by decide +kernel
theorem Good.files_len {s : St} (h : Good s) : (filesL s).length ≤ 17179869184 := by
 have hl := h.len
 have h1 := h.walk_len (topD s) 0 [(1, [])] (fun n _ => by
  show [(1 : Int)].count n ≤ 1
  exact Nat.le_trans List.count_le_length (Nat.le_refl _)) (by simp) (fun q hq => by
   have : q = (1, []) := by simpa using hq
   subst this
   exact ⟨h.top, Nat.le_refl _⟩)
 have h2 : topD s ≤ 259 := by unfold topD; omega
 have h3 : topD s * (8225 * (0 + 13 * topD s + 530)) ≤ maxT := Nat.mul_le_mul h2 (Nat.mul_le_mul_left _ (Nat.add_le_add_right (Nat.add_le_add_left (Nat.mul_le_mul_left _ h2) _) _))
 have h4 : (([(1, [])] : List (Int × List UInt8)).map (fun q => (walkL s.inos (topD s) q.1 q.2).length)).sum = (filesL s).length := rfl
 rw [h4] at h1
 exact Nat.le_trans h1 (Nat.le_trans h3 maxT_le)
def blankP (x : Nat) : Bool := x == 32 || x == 9
def wordsB (s : ByteArray) : List ByteArray := Lib.goFieldsP blankP s
def digitB (b : UInt8) : Bool := decide (48 ≤ b.toNat) && decide (b.toNat ≤ 57)
def numOk (w : ByteArray) : Bool := decide (Lib.trimPrefix w.data.toList [45] ≠ []) && decide ((Lib.trimPrefix w.data.toList [45]).length ≤ 10) && (Lib.trimPrefix w.data.toList [45]).all digitB
def numV (w : ByteArray) : Int := if numOk w then (Lib.atoi w.data.toList).getD 0 else 0
def hexV (b : UInt8) : Int := if 48 ≤ b.toNat ∧ b.toNat ≤ 57 then (b.toNat : Int) - 48 else if 97 ≤ b.toNat ∧ b.toNat ≤ 102 then (b.toNat : Int) - 87 else -1
def unhexL : List UInt8 → Option (List UInt8)
  | a :: b :: r => if hexV a < 0 ∨ hexV b < 0 then none else (unhexL r).map (UInt8.ofNat (hexV a * 16 + hexV b).toNat :: ·)
  | _ => some []
def unhexB (s : ByteArray) : ByteArray × Bool :=
  if s.data.toList = [45] then (⟨#[]⟩, true) else match unhexL s.data.toList with
    | none => (⟨#[]⟩, false)
    | some t => (⟨t.toArray⟩, decide (s.data.toList ≠ []) && decide (s.data.toList.length % 2 = 0))
def cmds : List (List UInt8 × Int × List UInt8) :=
  [([116, 114, 117, 110, 99, 97, 116, 101], 6, [110, 102, 107]), ([119, 114, 105, 116, 101], 5, [110, 102, 111, 120]), ([114, 101, 97, 100], 4, [110, 102, 111, 107]), ([115, 105, 122, 101], 7, [110, 102]), ([99, 108, 111, 115, 101], 3, [110, 102]),
   ([114, 101, 110, 97, 109, 101], 11, [110, 112, 113]), ([108, 105, 110, 107], 8, [110, 112, 113]), ([108, 105, 110, 107, 115], 14, [110, 112]), ([115, 116, 97, 116], 13, [110, 112]), ([108, 105, 115, 116], 12, [110, 112]),
   ([114, 109, 100, 105, 114], 10, [110, 112]), ([117, 110, 108, 105, 110, 107], 9, [110, 112]), ([111, 112, 101, 110], 2, [110, 112]), ([109, 107, 100, 105, 114], 1, [110, 112]), ([99, 114, 101, 97, 116, 101], 0, [110, 112])]
def cmdV (w : List UInt8) : Option (Int × List UInt8) := (cmds.find? (fun x => x.1 == w)).map (·.2)
def putW (c : Ca) (k : UInt8) (w : ByteArray) : Ca × Bool :=
  if k = 110 then ({ c with core := numV w }, numOk w) else if k = 102 then ({ c with fd := numV w }, numOk w) else if k = 111 then ({ c with off := numV w }, numOk w) else if k = 107 then ({ c with num := numV w }, numOk w)
  else if k = 112 then ({ c with path := w }, true) else if k = 113 then ({ c with path2 := w }, true) else ({ c with data := (unhexB w).1 }, (unhexB w).2)
def putWs : Ca → List UInt8 → List ByteArray → Ca × Bool
  | c, k :: ks, w :: ws => if (putW c k w).2 then putWs (putW c k w).1 ks ws else ((putW c k w).1, false)
  | c, _, _ => (c, true)
def call0 (kind : Int) : Ca := ⟨kind, 0, 0, 0, 0, ⟨#[]⟩, ⟨#[]⟩, ⟨#[]⟩⟩
def callV (kind : Int) (ks : List UInt8) (ws : List ByteArray) : Ca × Bool := if ws.length = ks.length then putWs (call0 kind) ks ws else (call0 kind, false)
def toldL (kind : Int) (r : Re) : List (List UInt8) :=
  if r.code ≠ 0 then [decN r.code] else decN r.code :: (if kind = 2 then [decN r.fd] else if kind = 12 then r.names.map (·.data.toList) else if kind = 4 then [hexT r.data.data.toList] else if kind = 13 ∨ kind = 14 ∨ kind = 7 ∨ kind = 5 then [if r.dir then [100, 105, 114] else decN r.num] else [])
def badL : List UInt8 := [101, 114, 114, 111, 114, 32, 50, 55, 48, 48]
def lineV (s : St) (ws : List ByteArray) : St × List UInt8 :=
  match ws with
  | [] => (s, [])
  | w :: r =>
    if w.data.toList = [104, 97, 115, 104] ∧ r.length = 1 then (s, decN (hashL (r.headD ⟨#[]⟩).data.toList % 8 : Nat) ++ 32 :: decN (hashL (r.headD ⟨#[]⟩).data.toList : Nat))
    else if w.data.toList = [115, 117, 109] ∧ r.length = 0 then (s, hexN (sumN (ofL s)))
    else match cmdV w.data.toList with
      | none => (s, badL)
      | some (k, ks) => if (callV k ks r).2 then ((doV s (callV k ks r).1).1, Lib.join (toldL k (doV s (callV k ks r).1).2) [32]) else (s, badL)
def mute (ws : List ByteArray) : Bool := match ws with
  | [] => true
  | w :: _ => w.data.toList.headD 0 == 35
def runW (s : St) : List (List ByteArray) → List UInt8
  | [] => []
  | ws :: r => if mute ws then runW s r else (lineV s ws).2 ++ 10 :: runW (lineV s ws).1 r
def stW (s : St) : List (List ByteArray) → St
  | [] => s
  | ws :: r => if mute ws then stW s r else stW (lineV s ws).1 r
def linesB (s : ByteArray) : List ByteArray := Lib.splitB ⟨#[10]⟩ 0 (Lib.countB s ⟨#[10]⟩) s
def runB (s : ByteArray) : List UInt8 := runW (newV 2) ((linesB s).map wordsB)
theorem runW_app (a b : List (List ByteArray)) : ∀ s, runW s (a ++ b) = runW s a ++ runW (stW s a) b := by
  induction a with
  | nil => intro s; rfl
  | cons x r ih =>
    intro s
    rw [List.cons_append, runW, runW, stW]
    split
    · exact ih s
    · rw [ih, List.append_assoc, List.cons_append]
end Go.Proofs.YtilkhmhgjbhfnaaGreatDoor
