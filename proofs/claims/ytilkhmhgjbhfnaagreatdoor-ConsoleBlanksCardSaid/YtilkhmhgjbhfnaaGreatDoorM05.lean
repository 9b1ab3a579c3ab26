/- Parts of the proof, side by side: Deep2, Small, MoFind, MoFind2, MoMade, MoEnts. -/
import Derived.Test.YtilkhmhgjbhfnaaGreatDoorM04
import Derived.Test.YtilkhmhgjbhfnaaGreatDoorM02
import Derived.Test.YtilkhmhgjbhfnaaGreatDoorM01
import Derived.Test.YtilkhmhgjbhfnaaGreatDoorM03
set_option linter.unusedVariables false
set_option linter.unusedSimpArgs false
namespace Go.Proofs.YtilkhmhgjbhfnaaGreatDoor
theorem Deep.more {is : List Ino} : ∀ (n : Nat) (num : Int), Deep is n num → Deep is (n + 1) num
 | 0, num, h => absurd h (by intro h; exact h)
 | n + 1, num, h => fun x hx e he hd => Deep.more n e.num (h x hx e he hd)
theorem Deep.le {is : List Ino} {n m : Nat} {num : Int} (h : Deep is n num) (hm : n ≤ m) : Deep is m num := by
 induction m with
 | zero =>
  have : n = 0 := by omega
  subst this
  exact h
 | succ m ih =>
  by_cases e : n = m + 1
  ·subst e; exact h
  ·exact Deep.more _ _ (ih (by omega))
structure Way (s : St) (l : List Nat) (i : Nat) : Prop where
 nodup : l.Nodup
 lt : ∀ j ∈ l, j < s.inos.length
 lev : ∀ j ∈ l, ∃ a z, a < l.length ∧ Lev s.inos a j ∧ s.inos[j]? = some z ∧ z.dir = true
 last : ∃ k, k + 1 = l.length ∧ Lev s.inos k i
theorem Good.deep_way {s : St} (h : Good s) : ∀ (m : Nat) (l : List Nat) (i : Nat) (x : Ino), Way s l i → s.inos[i]? = some x → x.dir = true → m + l.length = s.inos.length + 1 → Deep s.inos m x.num
 | 0, l, i, x, hw, hx, hd, hm => by
  have := nodup_bound _ _ hw.nodup hw.lt
  omega
 | m + 1, l, i, x, hw, hx, hd, hm => by
  intro x' hx' e he hde
  rw [h.idx hx, inoAt_nat, hx] at hx'
  cases hx'
  obtain ⟨j, y, hj0, hy, hyn, hat⟩ := h.ent hx hd he
  obtain ⟨k, hk, hlk⟩ := hw.last
  have hyd : y.dir = true := by
   unfold dirAt at hde
   rw [hat, inoAt_nat, hy] at hde
   exact hde
  have hlj : Lev s.inos (k + 1) j := Lev.step hlk hx hd he hat
  have hnot : j ∉ l := fun hm2 => by
   obtain ⟨a, z, ha, hla, hz, hzd⟩ := hw.lev j hm2
   have := h.lev_one _ _ _ _ hz hzd hla hlj
   omega
  rw [← hyn]
  refine h.deep_way m (j :: l) j y ⟨List.nodup_cons.2 ⟨hnot, hw.nodup⟩, ?_, ?_, ⟨k + 1, by rw [List.length_cons]; omega, hlj⟩⟩ hy hyd (by rw [List.length_cons]; omega)
  ·intro q hq
   rcases List.mem_cons.1 hq with rfl | hq
   ·exact (List.getElem?_eq_some_iff.1 hy).1
   ·exact hw.lt q hq
  ·intro q hq
   rcases List.mem_cons.1 hq with rfl | hq
   ·exact ⟨k + 1, y, by rw [List.length_cons]; omega, hlj, hy, hyd⟩
   ·obtain ⟨a, z, ha, h2⟩ := hw.lev q hq
    exact ⟨a, z, by rw [List.length_cons]; omega, h2⟩
theorem Good.way {s : St} (h : Good s) : ∀ (k i : Nat) (x : Ino), Lev s.inos k i → s.inos[i]? = some x → x.dir = true → ∃ l, Way s l i ∧ l.length = k + 1 := by
 intro k i x hl
 induction hl generalizing x with
 | root =>
  intro hx hd
  refine ⟨[0], ⟨List.nodup_cons.2 ⟨by simp, List.nodup_nil⟩, ?_, ?_, ⟨0, rfl, Lev.root⟩⟩, rfl⟩
  ·intro j hj
   have : j = 0 := by simpa using hj
   subst this
   exact (List.getElem?_eq_some_iff.1 hx).1
  ·intro j hj
   have : j = 0 := by simpa using hj
   subst this
   exact ⟨0, x, by simp, Lev.root, hx, hd⟩
 | @step k' i' j' x' e' hl' hx' hd' he' hj' ih =>
  intro hx hd
  obtain ⟨l, hw, hlen⟩ := ih x' hx' hd'
  have hlj : Lev s.inos (k' + 1) j' := Lev.step hl' hx' hd' he' hj'
  have hnot : j' ∉ l := fun hm2 => by
   obtain ⟨a, z, ha, hla, hz, hzd⟩ := hw.lev j' hm2
   have := h.lev_one _ _ _ _ hz hzd hla hlj
   omega
  refine ⟨j' :: l, ⟨List.nodup_cons.2 ⟨hnot, hw.nodup⟩, ?_, ?_, ⟨k' + 1, by rw [List.length_cons]; omega, hlj⟩⟩, by rw [List.length_cons, hlen]⟩
  ·intro q hq
   rcases List.mem_cons.1 hq with rfl | hq
   ·exact (List.getElem?_eq_some_iff.1 hx).1
   ·exact hw.lt q hq
  ·intro q hq
   rcases List.mem_cons.1 hq with rfl | hq
   ·exact ⟨k' + 1, x, by rw [List.length_cons]; omega, hlj, hx, hd⟩
   ·obtain ⟨a, z, ha, h2⟩ := hw.lev q hq
    exact ⟨a, z, by rw [List.length_cons]; omega, h2⟩
theorem Good.root_at {s : St} (h : Good s) : atV s.inos 1 = ((0 : Nat) : Int) := by
 obtain ⟨r, hr, hrn, _⟩ := h.root
 have := h.idx hr
 rw [hrn] at this
 exact this
theorem Good.lev_of {s : St} (h : Good s) {i : Nat} (hr : Reach s.inos i) : ∃ k, Lev s.inos k i := by
 induction hr with
 | root k hk =>
  rw [h.root_at] at hk
  have : k = 0 := by omega
  subst this
  exact ⟨0, Lev.root⟩
 | step k j x e _ hx hd he hj ih =>
  obtain ⟨k', hk'⟩ := ih
  exact ⟨k' + 1, Lev.step hk' hx hd he hj⟩
theorem Good.deep {s : St} (h : Good s) (num : Int) (hd : dirAt s.inos num = true) : Deep s.inos (1 + s.inos.length) num := by
 unfold dirAt at hd
 rcases atV_cases s.inos num with ⟨h1, _⟩ | ⟨i, x, h1, hx, hxn, _⟩
 ·rw [h1] at hd
  simp [inoAt] at hd
 ·rw [h1, inoAt_nat, hx] at hd
  have hd2 : x.dir = true := hd
  have hr : Reach s.inos i := by
   rcases Nat.eq_zero_or_pos i with rfl | hi
   ·exact Reach.root 0 h.root_at
   ·exact (h.one i x hi hx hd2).2
  obtain ⟨k, hl⟩ := h.lev_of hr
  obtain ⟨l, hw, hlen⟩ := h.way k i x hl hx hd2
  have hle := nodup_bound _ _ hw.nodup hw.lt
  have := h.deep_way (s.inos.length + 1 - l.length) l i x hw hx hd2 (by omega)
  rw [hxn] at this
  exact this.le (by omega)
def sum8 (f : Nat → Nat) : Nat := f 0 + f 1 + f 2 + f 3 + f 4 + f 5 + f 6 + f 7
theorem sum8_add (f : Nat → Nat) (b : Nat) (hb : b < 8) : sum8 (fun q => if q = b then f q + 1 else f q) = sum8 f + 1 := by
 have : b = 0 ∨ b = 1 ∨ b = 2 ∨ b = 3 ∨ b = 4 ∨ b = 5 ∨ b = 6 ∨ b = 7 := by omega
 unfold sum8
 rcases this with rfl | rfl | rfl | rfl | rfl | rfl | rfl | rfl <;> simp <;> omega
theorem entsG_len (is : List Ino) : ∀ (es : List En) (p : Option ByteArray) (many : Nat → Nat), (∀ b, b < 8 → many b ≤ 4) → entsG is es p many = true → es.length + sum8 many ≤ 32
 | [], _, many, hm, _ => by
  have := hm 0 (by omega); have := hm 1 (by omega); have := hm 2 (by omega); have := hm 3 (by omega); have := hm 4 (by omega); have := hm 5 (by omega); have := hm 6 (by omega); have := hm 7 (by omega)
  unfold sum8
  simp
  omega
 | e :: es, p, many, hm, h => by
  unfold entsG at h
  split at h
  ·cases h
  ·split at h
   ·cases h
   ·rename_i h2
    have hb : bktB e.name < 8 := Nat.mod_lt _ (by omega)
    have ih := entsG_len is es _ _ (fun b hb8 => by
     show (if b = bktB e.name then many b + 1 else many b) ≤ 4
     split
     ·rename_i e9; subst e9; omega
     ·exact hm b hb8) h
    have h3 := sum8_add many (bktB e.name) hb
    rw [List.length_cons]
    have e4 : sum8 (fun b => if b = bktB e.name then many b + 1 else many b) = sum8 many + 1 := h3
    omega
theorem entsV_len {is : List Ino} {es : List En} (h : entsV is es = true) : es.length ≤ 32 := by
 have := entsG_len is es none _ (fun _ _ => by show 0 ≤ 4; omega) h
 omega
theorem opensG_len (is : List Ino) (n : Nat) : ∀ (ds : List Ds) (o : Ds), 0 ≤ o.core → 0 ≤ o.fd → o.fd < 4 → o.core < (n : Int) → opensG is n ds (some o) = true → (ds.length : Int) + o.core * 4 + o.fd + 1 ≤ 4 * n
 | [], o, h1, h2, h3, h4, _ => by simp; omega
 | d :: ds, o, h1, h2, h3, h4, h => by
  unfold opensG at h
  split at h
  ·cases h
  ·rename_i hb
   split at h
   ·cases h
   ·rename_i hp
    unfold dsBad at hb
    simp only [Bool.or_eq_true, decide_eq_true_eq, not_or] at hb
    unfold dsPrev at hp
    simp only [Bool.or_eq_true, Bool.and_eq_true, decide_eq_true_eq, not_or, not_and] at hp
    have ih := opensG_len is n ds d (by omega) (by omega) (by omega) (by omega) h
    have h9 : o.core * 4 + o.fd < d.core * 4 + d.fd := by
     by_cases e : o.core = d.core
     ·have := hp.2 e
      omega
     ·omega
    rw [List.length_cons]
    push_cast
    omega
theorem opensV_len {s : St} (h : opensV s = true) (h8 : s.made.length ≤ 8) : s.opn.length ≤ 32 := by
 unfold opensV at h
 cases ho : s.opn with
 | nil => simp
 | cons d ds =>
  rw [ho] at h
  unfold opensG at h
  split at h
  ·cases h
  ·rename_i hb
   split at h
   ·cases h
   ·unfold dsBad at hb
    simp only [Bool.or_eq_true, decide_eq_true_eq, not_or] at hb
    have := opensG_len s.inos s.made.length ds d (by omega) (by omega) (by omega) (by omega) h
    rw [List.length_cons]
    omega
theorem Good.len {s : St} (h : Good s) : s.inos.length ≤ 257 := by
 have h1 := (good_iff s).2 h
 unfold mayV at h1
 simp only [Bool.and_eq_true, decide_eq_true_eq] at h1
 exact h1.1.2
theorem Good.ents_len {s : St} (h : Good s) {x : Ino} (hx : x ∈ s.inos) : x.ents.length ≤ 32 := by
 cases hd : x.dir
 ·rw [(h.files x hx hd).1]; simp
 ·exact entsV_len (h.dirs x hx hd).2
theorem Good.opn_len {s : St} (h : Good s) : s.opn.length ≤ 32 := opensV_len h.opn h.m8
end Go.Proofs.YtilkhmhgjbhfnaaGreatDoor
namespace Go.Proofs.YtilkhmhgjbhfnaaGreatDoor
open Go.RowKit
def RiseI (is : List Ino) : Prop := ∀ (i j : Nat) (x y : Ino), i < j → is[i]? = some x → is[j]? = some y → x.num < y.num
structure PtrAt (w : World) (p : Nat) (s : St) : Prop where
 at_ : ∃ A n c E m d D k e, w.heap[p]? = some (.cells #[.slice A n c, .slice E m d, .slice D k e] 31 (0, 0)) ∧ InosAt none w A n s.inos ∧ DescsAt none w E m s.opn ∧ IntsAt none w D k s.made ∧ SlOk A n c ∧ SlOk E m d ∧ SlOk D k e
 sized : Sized s
theorem PtrAt.below {w w' : World} {p : Nat} {s : St} (h : PtrAt w p s) (hb : Below w.heap.size w w') : PtrAt w' p s := by
 obtain ⟨⟨A, n, c, E, m, d, D, k, e, h1, h2, h3, h4, h5, h6, h7⟩, hz⟩ := h
 exact ⟨⟨A, n, c, E, m, d, D, k, e, (hb.block p (Array.getElem?_eq_some_iff.1 h1).1).trans h1, h2.below hb, h3.below hb, h4.below hb, h5, h6, h7⟩, hz⟩
theorem atV_none {is : List Ino} {num : Int} (h : ∀ x ∈ is, x.num ≠ num) : atV is num = -1 := by
 rcases atV_cases is num with ⟨h1, _⟩ | ⟨k, x, _, h2, h3, _⟩
 ·exact h1
 ·exact absurd h3 (h x (List.mem_of_getElem? h2))
theorem atV_of_rise {is : List Ino} {num : Int} {j : Nat} {x : Ino} (hr : RiseI is) (hx : is[j]? = some x) (hn : x.num = num) : atV is num = (j : Int) := by
 rcases atV_cases is num with ⟨h1, h2⟩ | ⟨k, y, h1, h2, h3, _⟩
 ·exact absurd hn (h2 x (List.mem_of_getElem? hx))
 ·rw [h1]
  by_cases e1 : k < j
  ·have := hr k j y x e1 h2 hx; omega
  ·by_cases e2 : j < k
   ·have := hr j k x y e2 hx h2; omega
   ·congr 1; omega
def cmpI (a b : Int) : Int := if a < b then -1 else if b < a then 1 else 0
theorem cmp_any (x1 x2 x3 x4 : Value) (num a : Int) (w : World) (h1 : x1 = .int .i64 a) :
  Calls Tryz.prog 194 #[.agg #[x1, x2, x3, x4], .int .i64 num] w fun e w' => e = .returned (.int .i64 (cmpI a num)) ∧ Below w.heap.size w w' := by
 subst h1
 go_enter Tryz.func194, Tryz.ntmps194
 unfold cmpI
 by_cases h1 : a < num
 ·rw [if_pos h1]
  have q1 : decide (a < num) = true := decide_eq_true h1
  go_wp2_with fail
  go_ret
  exact ⟨rfl, (Below.refl _ _).alloc (Nat.le_refl _) _⟩
 ·have q1 : decide (a < num) = false := decide_eq_false h1
  rw [if_neg h1]
  by_cases h2 : num < a
  ·rw [if_pos h2]
   have q2 : decide (num < a) = true := decide_eq_true h2
   go_wp2_with fail
   go_ret
   exact ⟨rfl, (Below.refl _ _).alloc (Nat.le_refl _) _⟩
  ·rw [if_neg h2]
   have q2 : decide (num < a) = false := decide_eq_false h2
   go_wp2_with fail
   go_ret
   exact ⟨rfl, (Below.refl _ _).alloc (Nat.le_refl _) _⟩
set_option maxRecDepth 100000 in
set_option maxHeartbeats 4000000 in
theorem bsearch_any (is : List Ino) (A : Option Addr) (n c : Nat) (num : Int) (w : World) (hI : InosAt none w A n is) (hn : n ≤ 1099511627776) (hr : RiseI is) :
  Calls Tryz.prog 133 #[.slice A n c, .int .i64 num, .func (.func 194) #[] #[]] w fun e w' => ∃ i b, e = .returned (.tuple #[.int .i64 (i : Nat), .bool b]) ∧ Below w.heap.size w w' ∧ atV is num = if b then (i : Int) else -1 := by
 have HI := Lib.hid hI
 go_enter Tryz.func133, Tryz.ntmps133
 clear hI
 go_wp2_with fail
 go_loopw [9, 10] (fun iv jv wr => ∃ i j : Nat, iv = .int .i64 i ∧ jv = .int .i64 j ∧ i ≤ j ∧ j ≤ n ∧ (∀ (k : Nat) (x : Ino), k < i → is[k]? = some x → x.num < num) ∧ (∀ (k : Nat) (x : Ino), j ≤ k → is[k]? = some x → num ≤ x.num) ∧ Below w.heap.size w wr) (fun iv jv _ => (intOf jv).toNat - (intOf iv).toNat)
 case atStart => exact ⟨0, n, rfl, rfl, by omega, by omega, fun k x hk => by omega, fun k x hk hx => by have := (List.getElem?_eq_some_iff.1 hx).1; have := HI.out.1; omega, Below.refl _ _⟩
 case round =>
  obtain ⟨i, j, rfl, rfl, hij, hjn, hlo, hhi, hbel⟩ := hrel
  have HB := Lib.hid hbel
  have HIr := Lib.hid (HI.out.below hbel)
  have HLO := Lib.hid hlo
  have HHI := Lib.hid hhi
  clear hbel hlo hhi
  by_cases hlt : i < j
  ·obtain ⟨h, hh⟩ : ∃ h, (i + j) / 2 = h := ⟨_, rfl⟩
   have hh1 : i ≤ h := by omega
   have hh2 : h < j := by omega
   obtain ⟨g, off, x, E, m, d, rfl, hg, hx, hd, hmem, c0, c1, c2, c3, hok, hE⟩ := HIr.out.get h (by omega)
   have HHH := Lib.hid hh
   have hx2 : is[h]? = some x := hx
   have HX := Lib.hid hx2
   have HRR := Lib.hid hr
   have HHH2 : Hid (h < j) := Lib.hid hh2
   clear hx2
   go_wp2_with fail
   refine (cmp_any _ _ _ _ num x.num _ rfl).mono ?_
   rintro e5 w5 ⟨rfl, hb5⟩
   have e2 : ((i : Int) + (j : Int)) / 2 = (h : Int) := by have := HHH.out; omega
   rw [e2]
   have HB5 := Lib.hid (HB.out.trans (hb5.mono HB.out.size))
   clear hb5 c0 c1 c2 c3
   by_cases hc : x.num < num
   ·have q1 : cmpI x.num num = -1 := by unfold cmpI; rw [if_pos hc]
    rw [q1]
    clear q1
    go_wp2_with fail
    go_roundw
    case rel => exact ⟨h + 1, j, by go_num, rfl, by omega, hjn, fun k y hk hy => by
     by_cases e : k = h
     ·subst e
      have := HX.out
      rw [hy] at this
      cases this
      exact hc
     ·have := HRR.out k h y x (by omega) hy HX.out
      omega, HHI.out, HB5.out⟩
    case measure => simp [intOf]; omega
   ·have q1 : decide (cmpI x.num num < 0) = false := by unfold cmpI; rw [if_neg hc]; split <;> rfl
    go_wp2_with fail
    go_roundw
    case rel => exact ⟨i, h, rfl, rfl, hh1, by omega, HLO.out, fun k y hk hy => by
     by_cases e : k = h
     ·subst e
      have := HX.out
      rw [hy] at this
      cases this
      omega
     ·have := HRR.out h k x y (by omega) HX.out hy
      omega, HB5.out⟩
    case measure => simp [intOf]; omega
  ·have eij : j = i := by omega
   subst eij
   by_cases hin : j < n
   ·obtain ⟨g, off, x, E, m, d, rfl, hg, hx, hd, hmem, c0, c1, c2, c3, hok, hE⟩ := HIr.out.get j hin
    have HX := Lib.hid hx
    have HRR := Lib.hid hr
    go_wp2_with fail
    refine (cmp_any _ _ _ _ num x.num _ rfl).mono ?_
    rintro e5 w5 ⟨rfl, hb5⟩
    have HB5 := Lib.hid (HB.out.trans (hb5.mono HB.out.size))
    clear hb5 c0 c1 c2 c3
    by_cases hc : x.num = num
    ·have q1 : cmpI x.num num = 0 := by unfold cmpI; rw [if_neg (by omega), if_neg (by omega)]
     rw [q1]
     clear q1
     go_wp2_with fail
     go_ret2
     refine ⟨j, true, rfl, HB5.out, ?_⟩
     rw [if_pos rfl]
     exact atV_of_rise HRR.out HX.out hc
    ·have q1 : (cmpI x.num num == 0) = false := by unfold cmpI; rw [beq_eq_false_iff_ne]; split; omega; split <;> omega
     go_wp2_with fail
     go_ret2
     refine ⟨j, false, rfl, HB5.out, ?_⟩
     rw [if_neg (by decide)]
     refine atV_none fun y hy => ?_
     obtain ⟨k, hk⟩ := List.getElem?_of_mem hy
     by_cases e1 : k < j
     ·have := HLO.out k y e1 hk; omega
     ·by_cases e2 : k = j
      ·subst e2
       have := HX.out
       rw [hk] at this
       cases this
       exact hc
      ·have h1 := HRR.out j k x y (by omega) HX.out hk
       have h2 := HHI.out j x (by omega) HX.out
       omega
   ·have q1 : decide ((j : Int) < (n : Int)) = false := by rw [decide_eq_false_iff_not]; omega
    clear hlt
    go_wp2_with fail
    go_ret2
    refine ⟨j, false, rfl, HB.out, ?_⟩
    rw [if_neg (by decide)]
    refine atV_none fun y hy => ?_
    obtain ⟨k, hk⟩ := List.getElem?_of_mem hy
    have h1 := (List.getElem?_eq_some_iff.1 hk).1
    have h2 := HIr.out.1
    have := HLO.out k y (by omega) hk
    omega
theorem PtrAt.val {w : World} {p : Nat} {s : St} (h : PtrAt w p s) : ∃ A n c E m d D k e, p < w.heap.size ∧ w.cell? ⟨p, 0, none⟩ = some (.slice A n c) ∧ w.cell? ⟨p, 1, none⟩ = some (.slice E m d) ∧ w.cell? ⟨p, 2, none⟩ = some (.slice D k e) ∧
  InosAt none w A n s.inos ∧ DescsAt none w E m s.opn ∧ IntsAt none w D k s.made ∧ n ≤ 1099511627776 ∧ m ≤ 1099511627776 ∧ k ≤ 1099511627776 := by
 obtain ⟨⟨A, n, c, E, m, d, D, k, e, h1, h2, h3, h4, h5, h6, h7⟩, hz⟩ := h
 have hbig := hz.big
 have l1 := h2.1
 have l2 := h3.1
 have l3 := h4.1
 refine ⟨A, n, c, E, m, d, D, k, e, (Array.getElem?_eq_some_iff.1 h1).1, ?_, ?_, ?_, h2, h3, h4, by omega, by omega, by omega⟩ <;> (rw [cell_of_row w p _ _ _ (0, 0) h1]; rfl)
set_option maxRecDepth 100000 in
set_option maxHeartbeats 4000000 in
theorem mfind_any (p : Nat) (s : St) (num : Int) (w : World) (h : PtrAt w p s) (hr : RiseI s.inos) :
  Calls Tryz.prog 140 #[.pointer (some ⟨p, 0, .none⟩), .int .i64 num] w fun e w' => e = .returned (.int .i64 (atV s.inos num)) ∧ Below w.heap.size w w' := by
 obtain ⟨A, n, c, E, m, d, D, k, e, hp, c0, c1, c2, hI, hD, hM, hn, _, _⟩ := h.val
 obtain ⟨R, hR⟩ : ∃ R, atV s.inos num = R := ⟨_, rfl⟩
 rw [hR]
 go_enter Tryz.func140, Tryz.ntmps140
 go_wp2_with fail
 refine (bsearch_any s.inos A n c num w hI hn hr).mono ?_
 rintro e1 w1 ⟨i, b, rfl, hb, hat⟩
 rw [hR] at hat
 cases b
 ·rw [if_neg (by decide)] at hat
  subst hat
  go_wp2_with fail
  go_ret
  exact ⟨rfl, hb⟩
 ·rw [if_pos rfl] at hat
  subst hat
  go_wp2_with fail
  go_ret
  exact ⟨rfl, hb⟩
theorem made1_any (x : Int) (w : World) : Calls Tryz.prog 171 #[.int .i64 x] w fun e w' => e = .returned (.bool (decide (x < 0) || decide (32 < x))) ∧ w = w' := by
 go_enter Tryz.func171, Tryz.ntmps171
 by_cases h1 : x < 0
 ·have q1 : decide (x < 0) = true := decide_eq_true h1
  go_wp2_with fail
  go_ret
  exact ⟨by rw [q1]; rfl, rfl⟩
 ·have q1 : decide (x < 0) = false := decide_eq_false h1
  go_wp2_with fail
  go_ret
  exact ⟨by first | rfl | (rw [q1]; rfl), rfl⟩
set_option maxRecDepth 100000 in
set_option maxHeartbeats 4000000 in
theorem indexmade_any (xs : List Int) (A : Option Addr) (n c : Nat) (w : World) (hI : IntsAt none w A n xs) (hn : n ≤ 1099511627776) :
  Calls Tryz.prog 203 #[.slice A n c, .func (.func 171) #[] #[]] w fun e w' => ∃ r : Int, e = .returned (.int .i64 r) ∧ w = w' ∧ (madeG xs = decide (r < 0)) := by
 obtain ⟨R, hR⟩ : ∃ R, madeG xs = R := ⟨_, rfl⟩
 rw [hR]
 have HI := Lib.hid hI
 have HR := Lib.hid hR
 clear hI hR
 go_enter Tryz.func203, Tryz.ntmps203
 go_wp2_with fail
 go_loop [8] (fun j => ∃ q : Nat, j = .int .i64 q ∧ q ≤ n ∧ madeG (xs.drop q) = R) (fun j => n - (intOf j).toNat)
 case atStart => exact ⟨0, rfl, by omega, HR.out⟩
 case round =>
  obtain ⟨q, rfl, hq, hc⟩ := hrel
  by_cases hlt : q < n
  ·obtain ⟨g, off, x, rfl, hg, hx, hd, hmem, c0⟩ := HI.out.get q hlt
   rw [hd, madeG] at hc
   have HC := Lib.hid hc
   have k0 : (0 : Int) ≤ (q : Int) := by omega
   clear hc hd hmem hx
   go_wp2_with fail
   refine (made1_any x _).mono ?_
   rintro e5 w5 ⟨rfl, rfl⟩
   obtain ⟨bb, hbb⟩ : ∃ bb, (decide (x < 0) || decide (32 < x)) = bb := ⟨_, rfl⟩
   rw [hbb]
   have hc := HC.out
   cases bb
   ·have hnx : ¬(x < 0 ∨ 32 < x) := by
     rw [Bool.or_eq_false_iff, decide_eq_false_iff_not, decide_eq_false_iff_not] at hbb
     omega
    rw [if_neg hnx] at hc
    have HC2 := Lib.hid hc
    clear hc hbb
    go_wp2_with fail
    go_round
    case rel => exact ⟨q + 1, by go_num, by omega, HC2.out⟩
    case measure => simp [intOf]; omega
   ·have hnx : x < 0 ∨ 32 < x := by
     rw [Bool.or_eq_true, decide_eq_true_eq, decide_eq_true_eq] at hbb
     exact hbb
    rw [if_pos hnx] at hc
    have HC2 := Lib.hid hc
    clear hc hbb
    go_wp2_with fail
    go_ret
    refine ⟨(q : Int), rfl, rfl, ?_⟩
    rw [← HC2.out, decide_eq_false (show ¬ (q : Int) < 0 by omega)]
  ·have hnil : xs.drop q = [] := List.drop_eq_nil_of_le (by have := HI.out.1; omega)
   rw [hnil, madeG] at hc
   have HC := Lib.hid hc
   clear hc hnil
   go_wp2_with fail
   go_ret
   exact ⟨-1, rfl, rfl, HC.out.symm⟩
theorem containsmade_any (xs : List Int) (A : Option Addr) (n c : Nat) (w : World) (hI : IntsAt none w A n xs) (hn : n ≤ 1099511627776) :
  Calls Tryz.prog 170 #[.slice A n c, .func (.func 171) #[] #[]] w fun e w' => e = .returned (.bool (!madeG xs)) ∧ w = w' := by
 go_enter Tryz.func170, Tryz.ntmps170
 go_wp2_with fail
 refine (indexmade_any xs A n c w hI hn).mono ?_
 rintro e5 w5 ⟨r, rfl, rfl, hr⟩
 by_cases h0 : 0 ≤ r
 ·have q0 : decide ((0 : Int) ≤ r) = true := decide_eq_true h0
  go_wp2_with fail
  go_ret
  exact ⟨by rw [hr, decide_eq_false (by omega)]; rfl, rfl⟩
 ·have q0 : decide ((0 : Int) ≤ r) = false := decide_eq_false h0
  go_wp2_with fail
  go_ret
  exact ⟨by rw [hr, decide_eq_true (by omega)]; rfl, rfl⟩
def mMadeV (s : St) : Bool := decide (1 ≤ s.made.length) && decide (s.made.length ≤ 8) && madeG s.made
set_option maxRecDepth 100000 in
set_option maxHeartbeats 4000000 in
theorem maymade_any (p : Nat) (s : St) (w : World) (h : PtrAt w p s) :
  Calls Tryz.prog 118 #[.pointer (some ⟨p, 0, .none⟩)] w fun e w' => e = .returned (.bool (mMadeV s)) ∧ w = w' := by
 obtain ⟨A, n, c, E, m, d, D, k, e, hp, c0, c1, c2, hI, hD, hM, hn, _, hk⟩ := h.val
 have hkl := hM.1
 go_enter Tryz.func118, Tryz.ntmps118
 unfold mMadeV
 by_cases h1 : 1 ≤ k
 ·by_cases h8 : k ≤ 8
  ·have q1 : decide ((k : Int) < 1) = false := by rw [decide_eq_false_iff_not]; omega
   have q8 : decide ((8 : Int) < (k : Int)) = false := by rw [decide_eq_false_iff_not]; omega
   go_wp2_with fail
   refine (containsmade_any s.made D k e _ hM hk).mono ?_
   rintro e5 w5 ⟨rfl, rfl⟩
   go_wp2_with fail
   go_ret
   exact ⟨by rw [decide_eq_true (show 1 ≤ s.made.length by omega), decide_eq_true (show s.made.length ≤ 8 by omega)]; simp, rfl⟩
  ·have q1 : decide ((k : Int) < 1) = false := by rw [decide_eq_false_iff_not]; omega
   have q8 : decide ((8 : Int) < (k : Int)) = true := by rw [decide_eq_true_eq]; omega
   go_wp2_with fail
   go_ret
   exact ⟨by rw [decide_eq_false (show ¬ s.made.length ≤ 8 by omega)]; simp, rfl⟩
 ·have q1 : decide ((k : Int) < 1) = true := by rw [decide_eq_true_eq]; omega
  go_wp2_with fail
  go_ret
  exact ⟨by rw [decide_eq_false (show ¬ 1 ≤ s.made.length by omega)]; simp, rfl⟩
theorem core_any (num : Int) (h1 : -9223372036854775808 ≤ num) (h2 : num ≤ 9223372036854775807) (w : World) :
  Calls Tryz.prog 204 #[.int .i64 num] w fun e w' => e = .returned (.int .i64 (if num < 2 then -1 else (num - 2) % 8)) ∧ w = w' := by
 go_enter Tryz.func204, Tryz.ntmps204
 by_cases h : num < 2
 ·have q : decide (num < 2) = true := decide_eq_true h
  rw [if_pos h]
  go_wp2_with fail
  go_ret
  exact ⟨rfl, rfl⟩
 ·have q : decide (num < 2) = false := decide_eq_false h
  rw [if_neg h]
  have e1 : (num - 2).tmod 8 = (num - 2) % 8 := Int.tmod_eq_emod_of_nonneg (by omega)
  have w1 : IntKind.i64.wrap (num - 2) = num - 2 := by rw [IntKind.wrap_i64]; omega
  have w2 : IntKind.i64.wrap ((num - 2) % 8) = (num - 2) % 8 := by rw [IntKind.wrap_i64]; omega
  go_wp2_with fail
  go_ret
  exact ⟨rfl, rfl⟩
theorem made_any (num : Int) (h1 : 2 ≤ num) (h2 : num ≤ 9223372036854775807) (w : World) :
  Calls Tryz.prog 205 #[.int .i64 num] w fun e w' => e = .returned (.int .i64 ((num - 2) / 8)) ∧ w = w' := by
 go_enter Tryz.func205, Tryz.ntmps205
 have e1 : (num - 2).tdiv 8 = (num - 2) / 8 := Int.tdiv_eq_ediv_of_nonneg (by omega)
 have w1 : IntKind.i64.wrap (num - 2) = num - 2 := by rw [IntKind.wrap_i64]; omega
 have w2 : IntKind.i64.wrap ((num - 2) / 8) = (num - 2) / 8 := by rw [IntKind.wrap_i64]; omega
 go_wp2_with fail
 go_ret
 exact ⟨rfl, rfl⟩
theorem bytesLess_eq : ∀ (a b : List UInt8), Op.bytesLess a b = ltB a b
 | [], [] => rfl
 | [], _ :: _ => rfl
 | _ :: _, [] => rfl
 | a :: al, b :: bl => by
  unfold Op.bytesLess ltB
  rw [bytesLess_eq al bl]
  by_cases h : a = b
  ·subst h
   rw [if_pos rfl]
   simp
  ·rw [if_neg h]
   have : (a == b) = false := by rw [beq_eq_false_iff_ne]; exact h
   simp [this]
theorem bucketm_any (s : ByteArray) (w : World) (hs : s.size ≤ maxLen) :
  Calls Tryz.prog 33 #[.string s] w fun e w' => e = .returned (.int .i64 ((bktB s : Nat) : Int)) ∧ Below w.heap.size w w' := by
 have h1 : hashL s.data.toList % 8 < 8 := Nat.mod_lt _ (by omega)
 obtain ⟨H, hH⟩ : ∃ H, hashL s.data.toList = H := ⟨_, rfl⟩
 have hb : bktB s = H % 8 := by unfold bktB; rw [hH]
 rw [hb]
 go_enter Tryz.func33, Tryz.ntmps33
 go_wp2_with fail
 refine (hash_any s _ hs).mono ?_
 rintro e w1 ⟨rfl, hbl⟩
 rw [hH]
 have e1 : (H : Int).tmod 8 = ((H % 8 : Nat) : Int) := rfl
 go_wp2_with fail
 go_ret
 exact ⟨by first | rfl | simp, hbl⟩
set_option maxRecDepth 100000 in
set_option maxHeartbeats 4000000 in
theorem maynum_any (p : Nat) (s : St) (num : Int) (w : World) (h : PtrAt w p s) (h1 : -9223372036854775808 ≤ num) (h2 : num ≤ 9223372036854775807) :
  Calls Tryz.prog 172 #[.pointer (some ⟨p, 0, .none⟩), .int .i64 num] w fun e w' => e = .returned (.bool (givenV s.made num)) ∧ Below w.heap.size w w' := by
 obtain ⟨A, n, c, E, m, d, D, k, e, hp, c0, c1, c2, hI, hD, hM, hn, _, hk⟩ := h.val
 have hkl := hM.1
 obtain ⟨R, hR⟩ : ∃ R, givenV s.made num = R := ⟨_, rfl⟩
 rw [hR]
 unfold givenV at hR
 have hX := @Ext.cell w
 go_enter Tryz.func172, Tryz.ntmps172
 go_wp2_with fail
 refine (core_any num h1 h2 _).mono ?_
 rintro e1 w1 ⟨rfl, rfl⟩
 by_cases hnum : num < 2
 ·rw [if_pos hnum] at hR ⊢
  subst hR
  go_wp2_with fail
  refine wre ?_
  repeat (go_big_quiet_step (fail))
  refine wpQuiet_nil ?_
  rintro w7 ⟨X, rfl⟩
  go_wp2_with fail
  go_ret
  exact ⟨rfl, X.bel⟩
 ·rw [if_neg hnum] at hR ⊢
  obtain ⟨C, hC⟩ : ∃ C : Nat, (num - 2) % 8 = (C : Int) := ⟨((num - 2) % 8).toNat, by omega⟩
  obtain ⟨Q, hQ⟩ : ∃ Q : Int, (num - 2) / 8 = Q := ⟨_, rfl⟩
  rw [hC, hQ, Int.toNat_natCast] at hR
  rw [hC]
  have q0 : decide ((0 : Int) ≤ (C : Int)) = true := by rw [decide_eq_true_eq]; omega
  by_cases hlt : C < k
  ·have q1 : decide ((C : Int) < (k : Int)) = true := by rw [decide_eq_true_eq]; omega
   obtain ⟨g, off, x, rfl, hg, hx, hd, hmem, cx⟩ := hM.get C hlt
   have hgd : s.made.getD C 0 = x := by rw [List.getD_eq_getElem?_getD, hx]; rfl
   rw [hgd, decide_eq_true (show (C : Int) < (s.made.length : Int) by omega), Bool.true_and] at hR
   subst hR
   have k0 : (0 : Int) ≤ (C : Int) := by omega
   have k1 : (C : Int) < (k : Int) := by omega
   clear hd hx hmem hgd hI hD hM
   go_wp2_with fail
   refine wre ?_
   repeat (go_big_quiet_step (first | (go_at_call 205; exact Calls.ext_of_same (by have := made_any num (by omega) h2; rw [hQ] at this; exact this _))))
   refine wpQuiet_nil ?_
   rintro w7 ⟨X, rfl⟩
   go_wp2_with fail
   go_ret
   exact ⟨rfl, X.bel⟩
  ·have q1 : decide ((C : Int) < (k : Int)) = false := by rw [decide_eq_false_iff_not]; omega
   rw [decide_eq_false (show ¬ (C : Int) < (s.made.length : Int) by omega), Bool.false_and] at hR
   subst hR
   go_wp2_with fail
   refine wre ?_
   repeat (go_big_quiet_step (fail))
   refine wpQuiet_nil ?_
   rintro w7 ⟨X, rfl⟩
   go_wp2_with fail
   go_ret
   exact ⟨rfl, X.bel⟩
def ManyT (w : World) (M : Nat) (f : Nat → Nat) : Prop := ∃ (cur : Array Value) (t : TypeId), w.heap[M]? = some (.cells cur t (0, 0)) ∧ ∀ j, j < 8 → cur[j]? = some (.int .i64 (f j : Nat))
theorem ManyT.lt {w : World} {M : Nat} {f : Nat → Nat} (h : ManyT w M f) : M < w.heap.size := by
 obtain ⟨cur, t, hh, _⟩ := h
 exact (Array.getElem?_eq_some_iff.1 hh).1
theorem ManyT.below {w w' : World} {M : Nat} {f : Nat → Nat} (h : ManyT w M f) (hb : Below w.heap.size w w') : ManyT w' M f := by
 have hl := h.lt
 obtain ⟨cur, t, hh, hc⟩ := h
 exact ⟨cur, t, (hb.block M hl).trans hh, hc⟩
theorem ManyT.get {w : World} {M : Nat} {f : Nat → Nat} (h : ManyT w M f) (j : Nat) (hj : j < 8) : w.cell? ⟨M, j, .none⟩ = some (.int .i64 (f j : Nat)) ∧ w.frozen? ⟨M, j, .none⟩ = false := by
 obtain ⟨cur, t, hh, hc⟩ := h
 exact ⟨by rw [cell_of_row w M j cur _ (0, 0) hh]; exact hc j hj, frozen_of_row w M j cur _ hh⟩
theorem ManyT.set {w : World} {M : Nat} {f : Nat → Nat} (h : ManyT w M f) (b : Nat) (hb : b < 8) : ManyT (w.setCell ⟨M, b, .none⟩ (.int .i64 ((f b : Int) + 1))) M (fun j => if j = b then f j + 1 else f j) := by
 obtain ⟨cur, t, hh, hc⟩ := h
 refine ⟨_, t, heap_setCell_same w M b cur _ _ hh, fun j hj => ?_⟩
 rw [Array.getElem?_setIfInBounds]
 by_cases e : b = j
 ·subst e
  have : b < cur.size := (Array.getElem?_eq_some_iff.1 (hc b hb)).1
  simp [this]
 ·have e2 : ¬ j = b := fun h => e h.symm
  simp only [e, e2, if_false]
  exact hc j hj
theorem many_arr (w : World) (t : TypeId) : ∃ W, w.alloc (.cells #[.int .i64 0, .int .i64 0, .int .i64 0, .int .i64 0, .int .i64 0, .int .i64 0, .int .i64 0, .int .i64 0] t) = W ∧ ManyT W w.heap.size (fun _ => 0) ∧ Below w.heap.size w W := by
 refine ⟨_, rfl, ⟨_, t, heap_alloc_new w _, fun j hj => ?_⟩, (Below.refl _ _).alloc (Nat.le_refl _) _⟩
 have : j = 0 ∨ j = 1 ∨ j = 2 ∨ j = 3 ∨ j = 4 ∨ j = 5 ∨ j = 6 ∨ j = 7 := by omega
 rcases this with h | h | h | h | h | h | h | h <;> subst h <;> rfl
end Go.Proofs.YtilkhmhgjbhfnaaGreatDoor
