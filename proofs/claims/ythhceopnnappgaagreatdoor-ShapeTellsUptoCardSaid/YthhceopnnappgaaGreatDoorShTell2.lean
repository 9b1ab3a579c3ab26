/- States whose texts are one are one: the tree's lines. No program in sight. -/
import Derived.Test.YthhceopnnappgaaGreatDoorShTell
set_option linter.unusedVariables false
set_option linter.unusedSimpArgs false
namespace Go.Proofs.YthhceopnnappgaaGreatDoor
structure Rc where
 path : List (List UInt8)
 num : Int
 dat : Option (List UInt8)
def lineR (r : Rc) : List UInt8 := match r.dat with | none => lineD (pathT r.path) r.num | some d => lineF (pathT r.path) r.num d
structure RcOk (r : Rc) : Prop where
 path : ∀ n ∈ r.path, NameOk n
 num : 0 ≤ r.num
theorem lineD_body (p : List UInt8) (n : Int) (R : List UInt8) : lineD p n ++ R = 100 :: 32 :: ((shownL p ++ 32 :: decN n) ++ 10 :: R) := by simp [lineD]
theorem lineF_body (p : List UInt8) (n : Int) (d R : List UInt8) : lineF p n d ++ R = 102 :: 32 :: (((shownL p ++ 32 :: decN n) ++ 32 :: hexT d) ++ 10 :: R) := by simp [lineF]
theorem app_ne {a b : List UInt8} {s : UInt8} (ha : ∀ c ∈ a, c ≠ s) (hb : ∀ c ∈ b, c ≠ s) : ∀ c ∈ a ++ b, c ≠ s := fun c hc => (List.mem_append.1 hc).elim (ha c) (hb c)
theorem cons_ne {b : List UInt8} {s x : UInt8} (hx : x ≠ s) (hb : ∀ c ∈ b, c ≠ s) : ∀ c ∈ x :: b, c ≠ s := fun c hc => (List.mem_cons.1 hc).elim (fun e => e ▸ hx) (hb c)
theorem lineR_inj (a b : Rc) (R R' : List UInt8) (ha : RcOk a) (hb : RcOk b) (h : lineR a ++ R = lineR b ++ R') : a = b ∧ R = R' := by
 obtain ⟨p, n, d⟩ := a
 obtain ⟨q, m, e⟩ := b
 have hp10 := path_no10 ha.path
 have hq10 := path_no10 hb.path
 have d10 : ∀ k : Int, ∀ c ∈ decN k, c ≠ 10 := fun k => decN_ne k 10 (.inl (by decide))
 have d32 : ∀ k : Int, ∀ c ∈ decN k, c ≠ 32 := fun k => decN_ne k 32 (.inl (by decide))
 have x10 : ∀ k : List UInt8, ∀ c ∈ hexT k, c ≠ 10 := fun k => hexT_ne k 10 (by decide)
 have x32 : ∀ k : List UInt8, ∀ c ∈ hexT k, c ≠ 32 := fun k => hexT_ne k 32 (by decide)
 cases d with
 | none =>
  cases e with
  | none =>
   unfold lineR at h
   simp only [lineD_body, List.cons.injEq, true_and] at h
   have h1 := cut_eq 10 _ _ _ _ (app_ne hp10 (cons_ne (by decide) (d10 n))) (app_ne hq10 (cons_ne (by decide) (d10 m))) h
   have h2 := cutr_eq 32 _ _ _ _ (d32 n) (d32 m) h1.1
   have e1 := shown_inj ha.path hb.path h2.1
   have e2 := decN_inj ha.num hb.num h2.2
   simp only at e1 e2
   exact ⟨by rw [e1, e2], h1.2⟩
  | some e =>
   unfold lineR at h
   simp only [lineD_body, lineF_body, List.cons.injEq] at h
   exact absurd h.1 (by decide)
 | some d =>
  cases e with
  | none =>
   unfold lineR at h
   simp only [lineD_body, lineF_body, List.cons.injEq] at h
   exact absurd h.1 (by decide)
  | some e =>
   unfold lineR at h
   simp only [lineF_body, List.cons.injEq, true_and] at h
   have h1 := cut_eq 10 _ _ _ _ (app_ne (app_ne hp10 (cons_ne (by decide) (d10 n))) (cons_ne (by decide) (x10 d))) (app_ne (app_ne hq10 (cons_ne (by decide) (d10 m))) (cons_ne (by decide) (x10 e))) h
   have h2 := cutr_eq 32 _ _ _ _ (x32 d) (x32 e) h1.1
   have h3 := cutr_eq 32 _ _ _ _ (d32 n) (d32 m) h2.1
   have e1 := shown_inj ha.path hb.path h3.1
   have e2 := decN_inj ha.num hb.num h3.2
   have e3 := hexT_inj h2.2
   simp only at e1 e2
   exact ⟨by rw [e1, e2, e3], h1.2⟩
theorem lineR_head (r : Rc) : ∃ c t, lineR r = c :: t ∧ (c = 100 ∨ c = 102) := by
 obtain ⟨p, n, d⟩ := r
 cases d with
 | none => exact ⟨_, _, rfl, .inl rfl⟩
 | some d => exact ⟨_, _, rfl, .inr rfl⟩
def recs (is : List Ino) : Nat → Int → List (List UInt8) → List Rc
 | 0, _, _ => []
 | n + 1, num, p =>
  match inoAt is (atV is num) with
  | none => []
  | some x => if x.dir then ⟨p, num, none⟩ :: x.ents.flatMap (fun e => recs is n e.num (p ++ [e.name.data.toList])) else [⟨p, num, some x.data.data.toList⟩]
theorem pathT_step (p : List (List UInt8)) (n : ByteArray) : pathT (p ++ [n.data.toList]) = stepSh (pathT p) n := by
 unfold pathT stepSh
 rw [List.flatMap_append]
 simp
theorem walk_recs (is : List Ino) : ∀ (n : Nat) (num : Int) (p : List (List UInt8)), walkL is n num (pathT p) = (recs is n num p).flatMap lineR
 | 0, num, p => rfl
 | n + 1, num, p => by
  unfold walkL recs
  cases inoAt is (atV is num) with
  | none => rfl
  | some x =>
   by_cases hd : x.dir = true
   ·simp only [hd, if_true, List.flatMap_cons]
    congr 1
    rw [List.flatMap_assoc]
    congr 1
    funext e
    rw [← pathT_step, walk_recs is n]
   ·simp [hd, lineR]
structure NamesAll (is : List Ino) : Prop where
 ok : ∀ x ∈ is, ∀ e ∈ x.ents, NameOk e.name.data.toList
 one : ∀ x ∈ is, x.ents.Pairwise (fun a b => a.name.data.toList ≠ b.name.data.toList)
theorem ltB_irreflSh : ∀ l : List UInt8, ltB l l = false
 | [] => rfl
 | a :: l => by unfold ltB; rw [if_pos rfl]; exact ltB_irreflSh l
theorem Good.namesAll {s : St} (h : Good s) : NamesAll s.inos := by
 constructor
 ·intro x hx e he
  by_cases hd : x.dir = true
  ·have h2 := (h.dirs x hx hd).2
   exact chk_ok ((entsG_each s.inos x.ents none (fun _ => 0) h2).1 e he).1
  ·rw [(h.files x hx (by simpa using hd)).1] at he
   cases he
 ·intro x hx
  by_cases hd : x.dir = true
  ·have h2 := (entsV_iff.1 (h.dirs x hx hd).2).rise
   rw [List.pairwise_iff_getElem]
   intro i j hi hj hij e
   have h3 := h2 i j _ _ hij (List.getElem?_eq_getElem hi) (List.getElem?_eq_getElem hj)
   unfold ltN at h3
   rw [e, ltB_irreflSh] at h3
   cases h3
  ·rw [(h.files x hx (by simpa using hd)).1]
   exact List.Pairwise.nil
theorem recs_ok {is : List Ino} (hN : NamesAll is) : ∀ (n : Nat) (num : Int) (p : List (List UInt8)), DeepT is n num → (∀ m ∈ p, NameOk m) → ∀ r ∈ recs is n num p, RcOk r
 | 0, num, p, hd, _, r, _ => absurd hd (by intro h; exact h)
 | n + 1, num, p, hd, hp, r, hr => by
  obtain ⟨x, hx, hr1, _, _, hall⟩ := hd
  unfold recs at hr
  rw [hx] at hr
  by_cases hdir : x.dir = true
  ·simp only [hdir, if_true, List.mem_cons] at hr
   rcases hr with rfl | hr
   ·exact ⟨hp, by show 0 ≤ num; omega⟩
   ·obtain ⟨e, he, hr⟩ := List.mem_flatMap.1 hr
    refine recs_ok hN n e.num _ (hall e he).2 (fun m hm => ?_) r hr
    rcases List.mem_append.1 hm with hm | hm
    ·exact hp m hm
    ·have : m = e.name.data.toList := by simpa using hm
     rw [this]
     exact hN.ok x (at_mem hx).1 e he
  ·have : r = ⟨p, num, some x.data.data.toList⟩ := by simpa [hdir] using hr
   subst this
   exact ⟨hp, by show 0 ≤ num; omega⟩
theorem recs_at {is : List Ino} : ∀ (n : Nat) (num : Int) (p : List (List UInt8)), ∀ r ∈ recs is n num p, ∃ x, inoAt is (atV is r.num) = some x ∧ r.dat = if x.dir then none else some x.data.data.toList
 | 0, num, p, r, hr => by cases hr
 | n + 1, num, p, r, hr => by
  unfold recs at hr
  cases hx : inoAt is (atV is num) with
  | none => rw [hx] at hr; cases hr
  | some x =>
   rw [hx] at hr
   by_cases hdir : x.dir = true
   ·simp only [hdir, if_true, List.mem_cons] at hr
    rcases hr with rfl | hr
    ·exact ⟨x, hx, by simp [hdir]⟩
    ·obtain ⟨e, he, hr⟩ := List.mem_flatMap.1 hr
     exact recs_at n e.num _ r hr
   ·have : r = ⟨p, num, some x.data.data.toList⟩ := by simpa [hdir] using hr
    subst this
    exact ⟨x, hx, by simp [hdir]⟩
theorem recs_pre {is : List Ino} : ∀ (n : Nat) (num : Int) (p : List (List UInt8)), ∀ r ∈ recs is n num p, ∃ t, r.path = p ++ t
 | 0, num, p, r, hr => by cases hr
 | n + 1, num, p, r, hr => by
  unfold recs at hr
  cases hx : inoAt is (atV is num) with
  | none => rw [hx] at hr; cases hr
  | some x =>
   rw [hx] at hr
   by_cases hdir : x.dir = true
   ·simp only [hdir, if_true, List.mem_cons] at hr
    rcases hr with rfl | hr
    ·exact ⟨[], by simp⟩
    ·obtain ⟨e, he, hr⟩ := List.mem_flatMap.1 hr
     obtain ⟨t, ht⟩ := recs_pre n e.num _ r hr
     exact ⟨e.name.data.toList :: t, by rw [ht]; simp⟩
   ·have : r = ⟨p, num, some x.data.data.toList⟩ := by simpa [hdir] using hr
    subst this
    exact ⟨[], by simp⟩
theorem recs_head {is : List Ino} {n : Nat} {num : Int} {p : List (List UInt8)} (hd : DeepT is (n + 1) num) : ∃ dat tl, recs is (n + 1) num p = ⟨p, num, dat⟩ :: tl ∧ ∀ r ∈ tl, ∃ a t, r.path = p ++ a :: t := by
 obtain ⟨x, hx, _⟩ := hd
 unfold recs
 rw [hx]
 by_cases hdir : x.dir = true
 ·simp only [hdir, if_true]
  refine ⟨none, _, rfl, fun r hr => ?_⟩
  obtain ⟨e, he, hr⟩ := List.mem_flatMap.1 hr
  obtain ⟨t, ht⟩ := recs_pre n e.num _ r hr
  exact ⟨e.name.data.toList, t, by rw [ht]; simp⟩
 ·simp only [hdir]
  exact ⟨_, [], rfl, by simp⟩
def kidR (q : List (List UInt8)) (r : Rc) : Option (List UInt8 × Int) := if r.path.length = q.length + 1 ∧ r.path.take q.length = q then some (r.path.getD q.length [], r.num) else none
def kidsR (R : List Rc) (q : List (List UInt8)) : List (List UInt8 × Int) := R.filterMap (kidR q)
theorem kids_flat {α : Type} (f : α → List Rc) (q : List (List UInt8)) : ∀ l : List α, kidsR (l.flatMap f) q = l.flatMap (fun a => kidsR (f a) q)
 | [] => rfl
 | a :: l => by
  have := kids_flat f q l
  unfold kidsR at this ⊢
  rw [List.flatMap_cons, List.filterMap_append, this, List.flatMap_cons]
theorem kids_top {is : List Ino} {d : Nat} {m : Int} {p : List (List UInt8)} {a : List UInt8} (hd : DeepT is d m) : kidsR (recs is d m (p ++ [a])) p = [(a, m)] := by
 match d, hd with
 | 0, hd => exact absurd hd (by intro h; exact h)
 | d + 1, hd =>
  obtain ⟨dat, tl, e, htl⟩ := recs_head (p := p ++ [a]) hd
  unfold kidsR
  rw [e, List.filterMap_cons]
  have h1 : kidR p ⟨p ++ [a], m, dat⟩ = some (a, m) := by
   unfold kidR
   simp
  rw [h1]
  have h2 : tl.filterMap (kidR p) = [] := by
   rw [List.filterMap_eq_nil_iff]
   intro r hr
   obtain ⟨b, t, ht⟩ := htl r hr
   unfold kidR
   rw [if_neg]
   intro ⟨h3, _⟩
   rw [ht] at h3
   simp only [List.length_append, List.length_cons, List.length_nil] at h3
   omega
  rw [h2]
theorem flat_one {β : Type} (f : En → List β) : ∀ (es : List En) (e : En), es.Pairwise (fun a b => a.name.data.toList ≠ b.name.data.toList) → e ∈ es → (∀ e' ∈ es, e'.name.data.toList ≠ e.name.data.toList → f e' = []) → es.flatMap f = f e
 | [], e, _, he, _ => by cases he
 | x :: es, e, hp, he, hf => by
  rw [List.pairwise_cons] at hp
  rw [List.flatMap_cons]
  rcases List.mem_cons.1 he with rfl | he
  ·have : es.flatMap f = [] := by
    rw [List.flatMap_eq_nil_iff]
    exact fun y hy => hf y (by simp [hy]) (fun h => hp.1 y hy h.symm)
   rw [this, List.append_nil]
  ·rw [hf x (by simp) (hp.1 e he), List.nil_append]
   exact flat_one f es e hp.2 he (fun y hy => hf y (by simp [hy]))
theorem kids_main {is : List Ino} (hN : NamesAll is) : ∀ (d : Nat) (n : Int) (p : List (List UInt8)), DeepT is d n → ∀ (q : List (List UInt8)) (m : Int), ⟨q, m, none⟩ ∈ recs is d n p →
  ∃ x, inoAt is (atV is m) = some x ∧ x.dir = true ∧ kidsR (recs is d n p) q = x.ents.map (fun e => (e.name.data.toList, e.num))
 | 0, n, p, hd, q, m, _ => absurd hd (by intro h; exact h)
 | d + 1, n, p, hd, q, m, hm => by
  have hd0 := hd
  obtain ⟨x, hx, _, _, _, hall⟩ := hd
  by_cases hdir : x.dir = true
  ·have e : recs is (d + 1) n p = ⟨p, n, none⟩ :: x.ents.flatMap (fun e => recs is d e.num (p ++ [e.name.data.toList])) := by
    conv => lhs; unfold recs
    rw [hx]
    simp only [hdir, if_true]
   rw [e] at hm ⊢
   have hk0 : ∀ q' : List (List UInt8), p.length + 1 ≤ q'.length + 1 → kidR q' ⟨p, n, none⟩ = none := fun q' hq => by
    unfold kidR
    rw [if_neg]
    intro ⟨h3, _⟩
    simp only at h3
    omega
   have hcons : ∀ q' : List (List UInt8), p.length + 1 ≤ q'.length + 1 → kidsR (⟨p, n, none⟩ :: x.ents.flatMap (fun e => recs is d e.num (p ++ [e.name.data.toList]))) q' = x.ents.flatMap (fun e => kidsR (recs is d e.num (p ++ [e.name.data.toList])) q') := fun q' hq => by
    rw [← kids_flat]
    unfold kidsR
    rw [List.filterMap_cons, hk0 q' hq]
   rcases List.mem_cons.1 hm with h1 | h1
   ·have e1 : q = p := by injection h1
    have e2 : m = n := by injection h1
    subst e1 e2
    refine ⟨x, hx, hdir, ?_⟩
    rw [hcons q (Nat.le_refl _)]
    have : ∀ es : List En, (∀ e ∈ es, e ∈ x.ents) → es.flatMap (fun e => kidsR (recs is d e.num (q ++ [e.name.data.toList])) q) = es.map (fun e => (e.name.data.toList, e.num)) := by
     intro es
     induction es with
     | nil => intro _; rfl
     | cons y es ih =>
      intro hy
      rw [List.flatMap_cons, kids_top (hall y (hy y (by simp))).2, ih (fun z hz => hy z (by simp [hz])), List.map_cons]
      rfl
    exact this x.ents (fun _ h => h)
   ·obtain ⟨e0, he0, hr⟩ := List.mem_flatMap.1 h1
    obtain ⟨t, ht⟩ := recs_pre d e0.num _ _ hr
    simp only at ht
    obtain ⟨y, hy, hyd, hk⟩ := kids_main hN d e0.num _ (hall e0 he0).2 q m hr
    refine ⟨y, hy, hyd, ?_⟩
    have hql : q.length = p.length + 1 + t.length := by rw [ht]; simp; omega
    rw [hcons q (by omega), flat_one _ x.ents e0 (hN.one x (at_mem hx).1) he0 (fun e' he' hne => ?_)]
    ·exact hk
    ·unfold kidsR
     rw [List.filterMap_eq_nil_iff]
     intro r hr'
     obtain ⟨t', ht'⟩ := recs_pre d e'.num _ r hr'
     unfold kidR
     rw [if_neg]
     intro ⟨_, h4⟩
     apply hne
     have h5 := congrArg (fun l => l[p.length]?) h4
     simp only [List.getElem?_take] at h5
     rw [if_pos (by omega), ht', ht] at h5
     simpa using h5
  ·exfalso
   unfold recs at hm
   rw [hx] at hm
   simp [hdir] at hm
end Go.Proofs.YthhceopnnappgaaGreatDoor
