/- Parts of the proof, side by side: MoPlain3, MoDelD. -/
import Derived.Test.YtndcloohcfhejaaGreatM21
import Derived.Test.YtndcloohcfhejaaGreatM13
import Derived.Test.YtndcloohcfhejaaGreatM05
set_option linter.unusedVariables false
set_option linter.unusedSimpArgs false
namespace Go.Proofs.YtndcloohcfhejaaGreat
def ltD (a b : Ds) : Prop := a.core < b.core ∨ (a.core = b.core ∧ a.fd < b.fd)
def RiseD (ds : List Ds) : Prop := ∀ (i j : Nat) (x y : Ds), i < j → ds[i]? = some x → ds[j]? = some y → ltD x y
theorem ltD_trans {a b c : Ds} (h1 : ltD a b) (h2 : ltD b c) : ltD a c := by unfold ltD at *; omega
theorem opensG_rise (is : List Ino) (n : Nat) : ∀ (ds : List Ds) (p : Option Ds), opensG is n ds p = true → RiseD ds ∧ ∀ q x, p = some q → ds[0]? = some x → ltD q x
 | [], p, h => ⟨fun i j x y _ hx => by simp at hx, fun q x _ hx => by simp at hx⟩
 | d :: ds, p, h => by
  unfold opensG at h
  by_cases h1 : dsBad is n d = true
  ·rw [if_pos h1] at h; cases h
  ·rw [if_neg h1] at h
   by_cases h2 : dsPrev p d = true
   ·rw [if_pos h2] at h; cases h
   ·rw [if_neg h2] at h
    obtain ⟨r1, r2⟩ := opensG_rise is n ds (some d) h
    have key : ∀ (j : Nat) (y : Ds), ds[j]? = some y → ltD d y := by
     intro j
     induction j with
     | zero => intro y hy; exact r2 _ _ rfl hy
     | succ j ih =>
      intro y hy
      have hjl : j < ds.length := by have := (List.getElem?_eq_some_iff.1 hy).1; omega
      exact ltD_trans (ih _ (List.getElem?_eq_getElem hjl)) (r1 j (j + 1) _ _ (by omega) (List.getElem?_eq_getElem hjl) hy)
    refine ⟨fun i j x y hij hx hy => ?_, fun q x hp hx => ?_⟩
    ·cases j with
     | zero => omega
     | succ j =>
      have hy2 : ds[j]? = some y := by simpa using hy
      cases i with
      | zero =>
       have : d = x := by simpa using hx
       subst this
       exact key j y hy2
      | succ i => exact r1 i j x y (by omega) (by simpa using hx) hy2
    ·have : d = x := by simpa using hx
     subst this
     subst hp
     unfold dsPrev at h2
     simp only [Bool.or_eq_true, Bool.and_eq_true, decide_eq_true_eq] at h2
     unfold ltD
     omega
theorem Good.riseD {s : St} (h : Good s) : RiseD s.opn := (opensG_rise _ _ _ _ h.opn).1
structure Scan (ds : List Ds) (core : Int) (i : Nat) (fd : Nat) (at_ : Nat) : Prop where
 le : at_ ≤ i
 lo : ∀ (k : Nat) (d : Ds), k < at_ → ds[k]? = some d → d.core < core ∨ (d.core = core ∧ d.fd < (fd : Int))
 hi : ∀ (k : Nat) (d : Ds), at_ ≤ k → k < i → ds[k]? = some d → core < d.core ∨ (d.core = core ∧ (fd : Int) < d.fd)
 all : ∀ f, f < fd → ∃ (k : Nat) (d : Ds), k < i ∧ ds[k]? = some d ∧ d.core = core ∧ d.fd = (f : Int)
theorem Scan.start (ds : List Ds) (core : Int) : Scan ds core 0 0 0 := ⟨Nat.le_refl _, fun k d hk => by omega, fun k d _ hk => by omega, fun f hf => by omega⟩
theorem Scan.step {ds : List Ds} {core : Int} {i fd at_ : Nat} (h : Scan ds core i fd at_) (hr : RiseD ds) (h0 : ∀ d ∈ ds, 0 ≤ d.fd) {o : Ds} (ho : ds[i]? = some o) :
  (o.core < core → Scan ds core (i + 1) fd (i + 1)) ∧ (¬ o.core < core → o.core = core → o.fd = (fd : Int) → Scan ds core (i + 1) (fd + 1) (i + 1)) ∧ (¬ o.core < core → ¬ (o.core = core ∧ o.fd = (fd : Int)) → Scan ds core (i + 1) fd at_) := by
 refine ⟨fun hc => ?_, fun hn hc hf => ?_, fun hn hne => ?_⟩
 ·refine ⟨Nat.le_refl _, fun k d hk hd => ?_, fun k d h1 h2 => by omega, fun f hf => ?_⟩
  ·by_cases e : k = i
   ·subst e
    rw [ho] at hd
    cases hd
    exact .inl hc
   ·have := hr k i d o (by omega) hd ho
    unfold ltD at this
    left; omega
  ·obtain ⟨k, d, h1, h2⟩ := h.all f hf
   exact ⟨k, d, by omega, h2⟩
 ·refine ⟨Nat.le_refl _, fun k d hk hd => ?_, fun k d h1 h2 => by omega, fun f hf2 => ?_⟩
  ·by_cases e : k = i
   ·subst e
    rw [ho] at hd
    cases hd
    right; exact ⟨hc, by omega⟩
   ·have := hr k i d o (by omega) hd ho
    unfold ltD at this
    omega
  ·by_cases e : f = fd
   ·subst e
    exact ⟨i, o, by omega, ho, hc, hf⟩
   ·obtain ⟨k, d, h1, h2⟩ := h.all f (by omega)
    exact ⟨k, d, by omega, h2⟩
 ·refine ⟨by have := h.le; omega, h.lo, fun k d h1 h2 hd => ?_, fun f hf => ?_⟩
  ·by_cases e : k = i
   ·subst e
    rw [ho] at hd
    cases hd
    by_cases hc : o.core = core
    ·right
     refine ⟨hc, ?_⟩
     by_cases hlt : o.fd < (fd : Int)
     ·have hz := h0 o (List.mem_of_getElem? ho)
      obtain ⟨k', d', h3, h4, h5, h6⟩ := h.all o.fd.toNat (by omega)
      have := hr k' k d' o h3 h4 ho
      unfold ltD at this
      omega
     ·have : o.fd ≠ (fd : Int) := fun e => hne ⟨hc, e⟩
      omega
    ·left; omega
   ·exact h.hi k d h1 (by omega) hd
  ·obtain ⟨k, d, h1, h2⟩ := h.all f hf
   exact ⟨k, d, by omega, h2⟩
theorem putD_pos : ∀ (ds : List Ds) (i : Nat) (y : Ds), i ≤ ds.length → (∀ (k : Nat) (d : Ds), k < i → ds[k]? = some d → ltD d y) → (∀ (k : Nat) (d : Ds), i ≤ k → ds[k]? = some d → ltD y d) → putD ds y = ds.take i ++ [y] ++ ds.drop i
 | [], i, y, hi, _, _ => by
  have : i = 0 := by simpa using hi
  subst this
  rfl
 | e :: t, 0, y, hi, _, h2 => by
  have := h2 0 e (Nat.le_refl _) rfl
  unfold ltD at this
  unfold putD
  rw [if_pos (by omega)]
  rfl
 | e :: t, i + 1, y, hi, h1, h2 => by
  have := h1 0 e (by omega) rfl
  unfold ltD at this
  unfold putD
  rw [if_neg (by omega), putD_pos t i y (by simpa using hi) (fun k x hk hx => h1 (k + 1) x (by omega) (by simpa using hx)) (fun k x hk hx => h2 (k + 1) x (by omega) (by simpa using hx))]
  rfl
theorem fdV_none : ∀ (ds : List Ds) (core fd : Int), (∀ d ∈ ds, ¬ (d.core = core ∧ d.fd = fd)) → fdV ds core fd = 0
 | [], _, _, _ => rfl
 | d :: ds, core, fd, h => by
  unfold fdV
  rw [if_neg (h d (by simp)), fdV_none ds core fd (fun e he => h e (by simp [he]))]
theorem fdV_has : ∀ (ds : List Ds) (core fd : Int), (∀ d ∈ ds, d.num ≠ 0) → (∃ d ∈ ds, d.core = core ∧ d.fd = fd) → fdV ds core fd ≠ 0
 | [], _, _, _, h => by obtain ⟨d, hd, _⟩ := h; simp at hd
 | y :: ds, core, fd, hn, h => by
  unfold fdV
  by_cases hy : y.core = core ∧ y.fd = fd
  ·rw [if_pos hy]; exact hn y (by simp)
  ·rw [if_neg hy]
   refine fdV_has ds core fd (fun d hd => hn d (by simp [hd])) ?_
   obtain ⟨d, hd, h2⟩ := h
   rcases List.mem_cons.1 hd with rfl | hd
   ·exact absurd h2 hy
   ·exact ⟨d, hd, h2⟩
theorem Good.scan {s : St} (h : Good s) {core : Int} {fd at_ : Nat} (hs : Scan s.opn core s.opn.length fd at_) : fd ≤ 4 ∧ freeFd s.opn core = fd ∧ ∀ num, putD s.opn ⟨core, (fd : Int), num⟩ = s.opn.take at_ ++ [⟨core, (fd : Int), num⟩] ++ s.opn.drop at_ := by
 have hn : ∀ d ∈ s.opn, d.num ≠ 0 := fun d hd => by
  obtain ⟨_, _, _, _, i, x, hat, _⟩ := h.opens d hd
  have := (h.num_range (num := d.num) (by omega)).1
  omega
 have hlt : fd ≤ 4 := by
  rcases Nat.lt_or_ge 4 fd with h1 | h1
  ·obtain ⟨k, d, _, hd, _, hf⟩ := hs.all 4 h1
   have := h.opens d (List.mem_of_getElem? hd)
   omega
  ·exact h1
 have hhas : ∀ f, f < fd → fdV s.opn core (f : Int) ≠ 0 := fun f hf => by
  obtain ⟨k, d, _, hd, h1, h2⟩ := hs.all f hf
  exact fdV_has _ _ _ hn ⟨d, List.mem_of_getElem? hd, h1, h2⟩
 have hno : fdV s.opn core (fd : Int) = 0 := fdV_none _ _ _ (fun d hd hh => by
  obtain ⟨k, hk⟩ := List.getElem?_of_mem hd
  by_cases h1 : k < at_
  ·have := hs.lo k d h1 hk; omega
  ·have := hs.hi k d (by omega) (List.getElem?_eq_some_iff.1 hk).1 hk; omega)
 refine ⟨hlt, ?_, fun num => ?_⟩
 ·unfold freeFd
  have a0 : 0 < fd → fdV s.opn core 0 ≠ 0 := hhas 0
  have a1 : 1 < fd → fdV s.opn core 1 ≠ 0 := hhas 1
  have a2 : 2 < fd → fdV s.opn core 2 ≠ 0 := hhas 2
  have a3 : 3 < fd → fdV s.opn core 3 ≠ 0 := hhas 3
  match fd, hlt with
  | 0, _ =>
   have hno2 : fdV s.opn core 0 = 0 := hno
   rw [if_pos hno2]
  | 1, _ =>
   have hno2 : fdV s.opn core 1 = 0 := hno
   rw [if_neg (a0 (by omega)), if_pos hno2]
  | 2, _ =>
   have hno2 : fdV s.opn core 2 = 0 := hno
   rw [if_neg (a0 (by omega)), if_neg (a1 (by omega)), if_pos hno2]
  | 3, _ =>
   have hno2 : fdV s.opn core 3 = 0 := hno
   rw [if_neg (a0 (by omega)), if_neg (a1 (by omega)), if_neg (a2 (by omega)), if_pos hno2]
  | 4, _ => rw [if_neg (a0 (by omega)), if_neg (a1 (by omega)), if_neg (a2 (by omega)), if_neg (a3 (by omega))]
 ·refine putD_pos _ _ _ hs.le (fun k d hk hd => ?_) (fun k d hk hd => ?_)
  ·have := hs.lo k d hk hd
   unfold ltD; simp only; omega
  ·have := hs.hi k d hk (List.getElem?_eq_some_iff.1 hd).1 hd
   unfold ltD; simp only; omega
end Go.Proofs.YtndcloohcfhejaaGreat
namespace Go.Proofs.YtndcloohcfhejaaGreat
open Go.RowKit
set_option maxHeartbeats 4000000 in
set_option maxRecDepth 100000 in
theorem delD_row (g c i m : Nat) (cur : Array Value) (xs seg zs : List Value) (w : World) (hg : w.heap[g]? = some (.cells cur 79 (0, 0))) (hsz : cur.size = c * 3) (hnc : i + m + 1 ≤ c) (hcm : c ≤ maxLen)
  (hxs : cur.toList.take ((i + m + 1) * 3) = xs) (h1c : ∀ v ∈ xs, v.oneCell' = true) (hseg : seg = xs.drop ((i + 1) * 3)) (hzs : zs = (Value.agg #[.int .i64 0, .int .i64 0, .int .i64 0]).cells.toList) :
  Calls Tryz.prog 50 #[.slice (some ⟨g, 0, none⟩) (i + m + 1) c, .int .i64 i, .int .i64 ((i : Int) + 1)] w fun e w' =>
   e = .returned (.slice (some ⟨g, 0, none⟩) (i + m) c) ∧ w' = w.drew.setRow g (layV (layV cur.toList (i * 3) seg) ((i + m) * 3) zs).toArray := by
 obtain ⟨i0, hi0, hz0, hz1, hz2⟩ := info_parts infoDs
 have hc63 : c ≤ 9223372036854775807 := by unfold maxLen at hcm; omega
 have hzl : zs.length = 3 := by rw [hzs]; rfl
 have hzo : ∀ v ∈ zs, v.oneCell' = true := by rw [hzs]; intro v hv; simp [Value.cells] at hv; rw [hv]; rfl
 have hxl : xs.length = (i + m + 1) * 3 := by rw [← hxs, List.length_take, Array.length_toList, hsz]; omega
 have hsl : seg.length = m * 3 := by rw [hseg, List.length_drop, hxl]; omega
 obtain ⟨A, hA, hsrc⟩ : ∃ A : Addr, (if c = i + 1 then some (⟨g, 0, none⟩ : Addr) else some ⟨g, (i + 1) * 3, none⟩) = some A ∧ ∀ j u, seg[j]? = some u → w.drew.cell? (A.add j) = some u := by
  by_cases h : c = i + 1
  ·refine ⟨⟨g, 0, none⟩, by rw [if_pos h], fun j u hu => ?_⟩
   have h0 : seg.length = 0 := by rw [hsl]; omega
   rw [List.length_eq_zero_iff.1 h0] at hu
   simp at hu
  ·refine ⟨⟨g, (i + 1) * 3, none⟩, by rw [if_neg h], row_cells (w := w.drew) hg _ _ (fun j v hj => ?_)⟩
   rw [hseg, ← hxs, List.getElem?_drop, List.getElem?_take] at hj
   split at hj
   ·simpa using hj
   ·cases hj
 have hap : ∀ ty sc, (Builtin.append_ #[24, 24] ty #[.slice (some ⟨g, 0, none⟩) i c, .slice (some A) m sc]).run Tryz.prog w.drew = .ok (.slice (some ⟨g, 0, none⟩) (i + m) c) (w.drew.setRow g (layV cur.toList (i * 3) seg).toArray) := fun ty sc => by
  have h := run_append_room (P := Tryz.prog) w.drew 24 ty 79 i0 Tryz.underlying24 hi0 g i c cur hg A m sc seg (by rw [hsl, hz1]) hsrc (fun v hv => h1c v (by rw [hseg] at hv; exact List.mem_of_mem_drop hv)) (by omega) (by rw [hz1, hsl, hsz]; omega)
  rw [hz1] at h
  exact h
 obtain ⟨C1, hC1⟩ : ∃ C1, C1 = (layV cur.toList (i * 3) seg).toArray := ⟨_, rfl⟩
 have hC1s : C1.size = c * 3 := by rw [hC1, layV_size (by rw [hsl, hsz]; omega), hsz]
 have hC1l : layV cur.toList (i * 3) seg = C1.toList := by rw [hC1]
 rw [← hC1] at hap
 rw [hC1l]
 obtain ⟨W1, hW1⟩ : ∃ W1, W1 = w.drew.setRow g C1 := ⟨_, rfl⟩
 have hg1 : W1.heap[g]? = some (.cells C1 79 (0, 0)) := by rw [hW1]; exact setRow_heap w.drew g cur _ _ _ hg
 rw [← hW1] at hap
 have hcl : ∀ ty cc, (Builtin.clear_ #[24] ty #[.slice (some ⟨g, (i + m) * 3, none⟩) 1 cc]).run Tryz.prog W1 = .ok (.tuple #[]) (W1.setRow g (layV C1.toList ((i + m) * 3) zs).toArray) := fun ty cc =>
  run_clear_rowK W1 24 79 ty (Value.agg #[.int .i64 0, .int .i64 0, .int .i64 0]) zs Tryz.underlying24 (fun w => by simp [zeroValue, typeInfo, hi0, hz0]) hzs.symm g ((i + m) * 3) cc C1 79 hg1 (by rw [hzl, hC1s]; omega) hzo
 have hfin : W1.setRow g (layV C1.toList ((i + m) * 3) zs).toArray = w.drew.setRow g (layV C1.toList ((i + m) * 3) zs).toArray := by rw [hW1, setRow_setRow]
 have mixed : Tryz.prog.follows Departure.mixedOrders = true := by kernel_rfl
 have hic : i ≤ c := by omega
 have hjc : i + 1 ≤ c := by omega
 have hi1 : i ≤ i + m + 1 := by omega
 have hi2 : i + 1 ≤ i + m + 1 := by omega
 have hp0 : ¬ ((i : Int) = (i : Int) + 1) := by omega
 have hp1 : (0 : Int) ≤ (i : Int) + 1 := by omega
 have hp2 : (i : Int) + 1 ≤ (i : Int) + (m : Int) + 1 := by omega
 have hp3 : (i : Int) ≤ (i : Int) + 1 := by omega
 have hp4 : (i : Int) + 1 ≤ (c : Int) := by omega
 have hp5 : (i : Int) + (m : Int) ≤ (c : Int) := by omega
 have hp6 : (i : Int) + (m : Int) + 1 ≤ (c : Int) := by omega
 have hp7 : ¬ (c = i + m) := by omega
 have hp8 : i + m ≤ c := by omega
 have HA := Lib.hid hA
 have HAP := Lib.hid hap
 have HCL := Lib.hid hcl
 have HF := Lib.hid hfin
 clear hA hsrc hap hcl hfin hg1 hW1 hC1l hC1s hC1 hsl hxl hzo hzl hg hsz hcm hxs h1c hseg hzs
 go_enter Tryz.func50, Tryz.ntmps50
 go_wp2_with fail
 go_region_law_o (refine step_append_runI rfl (.tmp 22) (.tmp 25) 24 rfl (.slice (some ⟨g, 0, none⟩) i c) (.slice (some A) m (c - (i + 1))) (by simp [Act.eval, Act.put]) (by simp [Act.eval, Act.put, HA.out]) (HAP.out 24 _) ?_)
 go_wp2_with (simp only [HCL.out])
 all_goals (go_ret; exact ⟨rfl, HF.out⟩)
theorem delD_any (B n i : Nat) (v : Value) (xs : List Value) (w : World) (h : RowAt B w 79 3 v n xs) (hi : i < n) (h1 : ∀ u ∈ xs, u.oneCell' = true) :
  Calls Tryz.prog 50 #[v, .int .i64 i, .int .i64 ((i : Int) + 1)] w fun e w' => ∃ v', e = .returned v' ∧ RowAt B w' 79 3 v' (n - 1) (xs.take (i * 3) ++ xs.drop ((i + 1) * 3)) ∧ w.grownBy w' (rowBlk v) ∧ rowBlk v' = rowBlk v := by
 obtain ⟨m, rfl⟩ : ∃ m, n = i + m + 1 := ⟨n - (i + 1), by omega⟩
 rcases h.2 with ⟨A, rfl, h0⟩ | ⟨g, cap, cur, rfl, hc, hBg, hg, hnc, hcm, hcs, htk⟩
 ·omega
 ·have hb : rowBlk (.slice (some ⟨g, 0, none⟩) (i + m + 1) cap) = some g := by simp [rowBlk, Nat.ne_of_gt hc]
  have hl : (xs.drop ((i + 1) * 3)).length = m * 3 := by rw [List.length_drop, h.1]; omega
  have hlen : (xs.take (i * 3) ++ xs.drop ((i + 1) * 3)).length = (i + m) * 3 := by
   rw [List.length_append, hl, List.length_take, h.1]
   omega
  rw [hb, Nat.add_sub_cancel]
  refine (delD_row g cap i m cur xs (xs.drop ((i + 1) * 3)) _ w hg hcs hnc hcm htk h1 rfl rfl).mono ?_
  rintro e w' ⟨rfl, rfl⟩
  have s1 := layV_size (cur := cur) (o := i * 3) (vs := xs.drop ((i + 1) * 3)) (by rw [hl, hcs]; omega)
  have s2 : (layV cur.toList (i * 3) (xs.drop ((i + 1) * 3))).length = cap * 3 := by rw [List.size_toArray] at s1; rw [s1, hcs]
  refine ⟨_, rfl, ⟨hlen, .inr ⟨g, cap, _, rfl, hc, hBg, setRow_heap w.drew g cur _ _ _ hg, by omega, hcm, ?_, ?_⟩⟩, rw_drew rw_setRow, by simp [rowBlk, Nat.ne_of_gt hc]⟩
  ·rw [List.size_toArray, layV_len, s2]
   rw [s2]
   show (i + m) * 3 + 3 ≤ _
   omega
  ·show (layV (layV cur.toList (i * 3) (xs.drop ((i + 1) * 3))) ((i + m) * 3) _).take ((i + m) * 3) = _
   rw [layV_before (by rw [s2]; omega), show (i + m) * 3 = i * 3 + (xs.drop ((i + 1) * 3)).length by rw [hl]; omega, layV_take (by rw [Array.length_toList, hcs]; omega), ← htk, List.take_take, Nat.min_eq_left (by omega)]
end Go.Proofs.YtndcloohcfhejaaGreat
