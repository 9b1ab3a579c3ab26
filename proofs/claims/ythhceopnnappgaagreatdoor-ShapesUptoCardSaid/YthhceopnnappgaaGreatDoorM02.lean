/- Parts of the proof, side by side: FsRead, Ext, FsRead2, FsRead3. -/
import Derived.Test.YthhceopnnappgaaGreatDoorM01
import Derived.Lib.Hide
import Derived.Test.YthhceopnnappgaaGreatDoorM00
import Derived.WalkKit
import Derived.BigQuiet
import Derived.Deep.QuietTactic
import Derived.StillTailTactics
set_option linter.unusedVariables false
set_option linter.unusedSimpArgs false
namespace Go.Proofs.YthhceopnnappgaaGreatDoor
open Go.RowKit
theorem box_st (w : World) (A : Option Addr) (n c : Nat) (B : Option Addr) (m d : Nat) (D : Option Addr) (k e : Nat) : ∃ W, w.alloc (.cells #[.slice A n c, .slice B m d, .slice D k e] 26) = W ∧ W.cell? ⟨w.heap.size, 0, .none⟩ = some (.slice A n c) ∧ W.cell? ⟨w.heap.size, 1, .none⟩ = some (.slice B m d) ∧ W.cell? ⟨w.heap.size, 2, .none⟩ = some (.slice D k e) ∧ Below w.heap.size w W ∧ w.heap.size < W.heap.size := by
 refine ⟨_, rfl, ?_, ?_, ?_, (Below.refl _ _).alloc (Nat.le_refl _) _, by simp⟩
 ·exact (World.cell?_alloc_mark w _ _ (0, 0) _).trans rfl
 ·exact (World.cell?_alloc_mark w _ _ (0, 0) _).trans rfl
 ·exact (World.cell?_alloc_mark w _ _ (0, 0) _).trans rfl
set_option maxHeartbeats 1000000 in
theorem at_any (v : Value) (s : St) (num : Int) (w : World) (h : StAt none w v s) :
  Calls Tryz.prog 57 #[v, .int .i64 num] w fun e w' => e = .returned (.int .i64 (atV s.inos num)) ∧ Below w.heap.size w w' := by
 obtain ⟨⟨A, n, c, B, m, d, D, k, e, rfl, hI, hD, hM, h5, h6, h7⟩, hz⟩ := h
 obtain ⟨R, hR⟩ : ∃ R, atV s.inos num = R := ⟨_, rfl⟩
 rw [hR]
 have hbig := hz.big
 have hn := hI.1
 have hn2 : n ≤ 1099511627776 := by omega
 obtain ⟨W, hW, b0, b1, b2, hal, _⟩ := box_st w A n c B m d D k e
 have HI := Lib.hid (hI.below hal)
 have HR := Lib.hid hR
 have HAL := Lib.hid hal
 clear hI hD hM hz hR hbig hn b1 b2 hal
 go_enter Tryz.func57, Tryz.ntmps57
 go_wp2_with fail
 clear hW
 go_loop [5] (fun i => ∃ k : Nat, i = .int .i64 k ∧ k ≤ n ∧ atG (s.inos.drop k) num k = R) (fun i => n - (intOf i).toNat)
 case atStart => exact ⟨0, rfl, by omega, HR.out⟩
 case round =>
  obtain ⟨k, rfl, hk, hc⟩ := hrel
  by_cases hlt : k < n
  ·obtain ⟨g, off, x, E, m2, d2, rfl, hg, hx, hd, hmem, c0, _, _, _, _, _⟩ := HI.out.get k hlt
   rw [hd, atG] at hc
   by_cases hq : x.num = num
   ·rw [if_pos hq] at hc
    subst hq
    have Hc := Lib.hid hc
    clear hc hd hx hmem
    go_wp2
    go_ret
    exact ⟨Cv.ret_int Hc.out, HAL.out⟩
   ·rw [if_neg hq] at hc
    have q : (x.num == num) = false := by rw [beq_eq_false_iff_ne]; exact hq
    have Hc := Lib.hid hc
    clear hc hd hx hmem
    go_wp2
    go_round
    case rel => exact ⟨k + 1, by go_num, by omega, Hc.out⟩
    case measure => simp [intOf]; omega
  ·have : s.inos.drop k = [] := List.drop_eq_nil_of_le (by have := HI.out.1; omega)
   rw [this, atG] at hc
   have Hc := Lib.hid hc
   clear hc this
   go_wp2
   go_ret
   exact ⟨Cv.ret_int Hc.out, HAL.out⟩
set_option maxHeartbeats 1000000 in
theorem isopen_any (v : Value) (s : St) (num : Int) (w : World) (h : StAt none w v s) :
  Calls Tryz.prog 40 #[v, .int .i64 num] w fun e w' => e = .returned (.bool (openB s.opn num)) ∧ Below w.heap.size w w' := by
 obtain ⟨⟨A, n, c, B, m, d, D, k, e, rfl, hI, hD, hM, h5, h6, h7⟩, hz⟩ := h
 obtain ⟨R, hR⟩ : ∃ R, openB s.opn num = R := ⟨_, rfl⟩
 rw [hR]
 have hbig := hz.big
 have hn := hD.1
 have hn2 : m ≤ 1099511627776 := by omega
 obtain ⟨W, hW, b0, b1, b2, hal, _⟩ := box_st w A n c B m d D k e
 have HD := Lib.hid (hD.below hal)
 have HR := Lib.hid hR
 have HAL := Lib.hid hal
 clear hI hD hM hz hR hbig hn b0 b2 hal
 go_enter Tryz.func40, Tryz.ntmps40
 go_wp2_with fail
 clear hW
 go_loop [5] (fun i => ∃ k : Nat, i = .int .i64 k ∧ k ≤ m ∧ openB (s.opn.drop k) num = R) (fun i => m - (intOf i).toNat)
 case atStart => exact ⟨0, rfl, by omega, HR.out⟩
 case round =>
  obtain ⟨k, rfl, hk, hc⟩ := hrel
  by_cases hlt : k < m
  ·obtain ⟨g, off, x, rfl, hg, hx, hd, hmem, _, _, c2⟩ := HD.out.get k hlt
   rw [hd, openB] at hc
   by_cases hq : x.num = num
   ·rw [if_pos hq] at hc
    subst hq
    have Hc := Lib.hid hc
    clear hc hd hx hmem
    go_wp2
    go_ret
    exact ⟨Cv.ret_bool Hc.out, HAL.out⟩
   ·rw [if_neg hq] at hc
    have q : (x.num == num) = false := by rw [beq_eq_false_iff_ne]; exact hq
    have Hc := Lib.hid hc
    clear hc hd hx hmem
    go_wp2
    go_round
    case rel => exact ⟨k + 1, by go_num, by omega, Hc.out⟩
    case measure => simp [intOf]; omega
  ·have : s.opn.drop k = [] := List.drop_eq_nil_of_le (by have := HD.out.1; omega)
   rw [this, openB] at hc
   have Hc := Lib.hid hc
   clear hc this
   go_wp2
   go_ret
   exact ⟨Cv.ret_bool Hc.out, HAL.out⟩
structure Ext (W : World) where
 w : World
 bel : Below W.heap.size W w
instance extSome (W : World) : Nonempty (Ext W) := ⟨⟨W, Below.refl _ _⟩⟩
theorem Ext.cell {W : World} (x : Ext W) (p : Addr) (h : (W.cell? p).isSome = true) : x.w.cell? p = W.cell? p := by
 obtain ⟨u, hu⟩ := Option.isSome_iff_exists.1 h
 exact x.bel.cell (World.block_lt_of_cell? W p hu)
theorem wp_region_ext {P : Program} {id : Nat} {Q : Exit → Act → World → Prop} {a : Act} {w : World} {l : List Oper} (hm : P.follows .mixedOrders = true) (hB : Region.lexB .any l.toArray = true)
  (h : wpQuiet P l.toArray (fun w' => ∃ x : Ext w, w' = x.w) (fun a' => ∀ w', (∃ x : Ext w, w' = x.w) → Q .normal a' w') l a) : (Code.region id l.toArray true).wp P Q a w :=
 wp_region_quiet (C := fun w' => ∃ x : Ext w, w' = x.w) hm hB ⟨⟨w.drew, Cv.drewN_below (Below.refl _ _) 1⟩, rfl⟩ (by simpa using h)
theorem wre {P : Program} {id : Nat} {Q : Exit → Act → World → Prop} {a : Act} {w : World} {l : List Oper}
  (h : wpQuiet P l.toArray (fun w' => ∃ x : Ext w, w' = x.w) (fun a' => ∀ w', (∃ x : Ext w, w' = x.w) → Q .normal a' w') l a) (hm : P.follows .mixedOrders = true := by kernel_rfl) (hB : Region.lexB .any l.toArray = true := by kernel_rfl) : (Code.region id l.toArray true).wp P Q a w :=
 wp_region_ext hm hB h
theorem Calls.ext_of {P : Program} {f : FuncId} {args : Array Value} {W : World} {x : Ext W} {v : Value}
  (h : Calls P f args x.w fun e w' => e = .returned v ∧ Below x.w.heap.size x.w w') : Calls P f args x.w fun e w'' => e = .returned v ∧ ∃ y : Ext W, w'' = y.w :=
 h.mono fun _ w' ⟨he, hb⟩ => ⟨he, ⟨w', Cv.next x.bel hb⟩, rfl⟩
theorem Calls.ext_of_same {P : Program} {f : FuncId} {args : Array Value} {W : World} {x : Ext W} {v : Value}
  (h : Calls P f args x.w fun e w' => e = .returned v ∧ x.w = w') : Calls P f args x.w fun e w'' => e = .returned v ∧ ∃ y : Ext W, w'' = y.w :=
 h.mono fun _ w' ⟨he, hb⟩ => ⟨he, x, hb.symm⟩
theorem still_of_quiet {P : Program} {ops : Array Oper} {w : World} {Q : Act → Prop} : ∀ (l : List Oper) (a : Act), wpQuiet P ops (fun w' => w' = w) Q l a → wpStill P ops w Q l a
 | [], a, h => h
 | o :: rest, a, h => by
  unfold wpQuiet at h
  unfold wpStill
  split at h
  ·rename_i hw
   rw [if_pos hw]
   obtain ⟨v, h1, h2⟩ := h
   have h3 := h1 w rfl
   unfold Oper.quietAt at h3
   unfold Oper.still
   generalize (execOp a.eval o).run P w = r at h3 ⊢
   have h4 := still_of_quiet rest _ h2
   cases r with
   | ok n w' =>
    cases n <;> simp only [Oper.quietUpon] at h3
    case value u =>
     obtain ⟨e1, e2⟩ := h3
     subst e1 e2
     exact ⟨rfl, h4⟩
    case skip =>
     obtain ⟨e1, e2⟩ := h3
     subst e1 e2
     exact ⟨rfl, h4⟩
    case enter f args =>
     obtain ⟨e1, hc⟩ := h3
     subst e1
     exact ⟨rfl, v, hc, h4⟩
   | halt x w' => simp only [Oper.quietUpon] at h3
  ·rename_i hw
   rw [if_neg hw]
   exact still_of_quiet rest _ h
theorem wp_region_quiet_tail {P : Program} {id : Nat} {Q : Exit → Act → World → Prop} {a : Act} {w : World} {l : List Oper} (n : Nat) (hm : P.follows .mixedOrders = true) (hB : Region.lexTailB .any l.toArray n = true)
  (h : wpQuiet P l.toArray (fun w' => w' = w.drew) (fun a' => wpList P l.toArray Q (l.drop n) a' w.drew) (l.take n) a) : (Code.region id l.toArray true).wp P Q a w :=
 wp_region_still_tail n hm hB (still_of_quiet _ _ h)
theorem ba_list_ne {a b : ByteArray} (h : a ≠ b) : (a.toList == b.toList) = false := by
 rw [beq_eq_false_iff_ne, ByteArray.toList_eq, ByteArray.toList_eq]
 intro e
 apply h
 cases a with | mk da => cases b with | mk db => exact congrArg ByteArray.mk (Array.toList_inj.1 e)
theorem ba_list_eq {a b : ByteArray} (h : a = b) : (a.toList == b.toList) = true := by rw [h]; exact beq_self_eq_true _
theorem linkE_len : ∀ (es : List En) (num : Int), linkE es num ≤ es.length
 | [], _ => Nat.le_refl _
 | e :: es, num => by
  unfold linkE
  have := linkE_len es num
  rw [List.length_cons]
  split <;> omega
theorem linkI_len : ∀ (is : List Ino) (num : Int), linkI is num ≤ bulkE is
 | [], _ => Nat.le_refl _
 | x :: xs, num => by
  unfold linkI
  have := linkI_len xs num
  have h2 := linkE_len x.ents num
  show _ ≤ x.ents.length + bulkE xs
  split <;> omega
set_option maxHeartbeats 2000000 in
theorem links_any (v : Value) (s : St) (num : Int) (w : World) (h : StAt none w v s) :
  Calls Tryz.prog 30 #[v, .int .i64 num] w fun e w' => e = .returned (.int .i64 (linkI s.inos num : Nat)) ∧ Below w.heap.size w w' := by
 obtain ⟨⟨A, n, c, B, m, d, D, k, e, rfl, hI, hD, hM, h5, h6, h7⟩, hz⟩ := h
 have hll := linkI_len s.inos num
 obtain ⟨R, hR⟩ : ∃ R, linkI s.inos num = R := ⟨_, rfl⟩
 rw [hR] at hll ⊢
 have hbig := hz.big
 have hn := hI.1
 have hn2 : n ≤ 1099511627776 := by omega
 have hR2 : R ≤ 1099511627776 := by omega
 have hB2 : bulkE s.inos ≤ 1099511627776 := by omega
 obtain ⟨W, hW, b0, b1, b2, hal, _⟩ := box_st w A n c B m d D k e
 have HI := Lib.hid (hI.below hal)
 have HR := Lib.hid hR
 have HAL := Lib.hid hal
 have HB2 := Lib.hid hB2
 clear hI hD hM hz hR hbig hn b1 b2 hal hll hB2
 go_enter Tryz.func30, Tryz.ntmps30
 go_wp2_with fail
 clear hW
 go_loop [5, 6, 7] (fun many i _ => ∃ k q : Nat, i = .int .i64 k ∧ many = .int .i64 q ∧ k ≤ n ∧ q + linkI (s.inos.drop k) num = R) (fun _ i _ => n - (intOf i).toNat)
 case atStart => exact ⟨0, 0, rfl, rfl, by omega, by rw [List.drop_zero, Nat.zero_add]; exact HR.out⟩
 case round =>
  obtain ⟨k, q, rfl, rfl, hk, hc⟩ := hrel
  by_cases hlt : k < n
  ·obtain ⟨g, off, x, E, m2, d2, rfl, hg, hx, hd, hmem, _, c1, c2, hmd, hE, _⟩ := HI.out.get k hlt
   rw [hd, linkI] at hc
   have hle := bulkE_le hx
   have hm2 : m2 ≤ 1099511627776 := by have := hE.1; have := HB2.out; omega
   obtain ⟨T, hT⟩ : ∃ T, linkI (List.drop (k + 1) s.inos) num = T := ⟨_, rfl⟩
   rw [hT] at hc
   have HC := Lib.hid hc
   have HT := Lib.hid hT
   have HE := Lib.hid hE
   clear hc hT hE hd hx hmem hle
   by_cases hdir : x.dir = true
   ·rw [hdir] at c1
    go_wp2
    go_loop [5, 7] (fun many j => ∃ i q : Nat, j = .int .i64 i ∧ many = .int .i64 q ∧ i ≤ m2 ∧ q + linkE (x.ents.drop i) num + T = R) (fun _ j => m2 - (intOf j).toNat)
    case atStart => exact ⟨0, q, rfl, rfl, by omega, by have := HC.out; rw [if_pos hdir] at this; rw [List.drop_zero]; omega⟩
    case round =>
     obtain ⟨i, q2, rfl, rfl, hi, hc⟩ := hrel
     by_cases hlt2 : i < m2
     ·obtain ⟨g2, off2, y, rfl, hg2, hy, hd2, _, e0, e1⟩ := HE.out.get i hlt2
      rw [hd2, linkE] at hc
      by_cases hq : y.num = num
      ·rw [if_pos hq] at hc
       subst hq
       have HC2 := Lib.hid hc
       have hq2 : q2 ≤ 1099511627776 := by omega
       clear hc hd2 hy e0
       go_wp2
       go_round
       case rel => exact ⟨i + 1, q2 + 1, by go_num, by go_num, by omega, by have := HC2.out; omega⟩
       case measure => simp [intOf]; omega
      ·rw [if_neg hq] at hc
       have qn : (y.num == num) = false := by rw [beq_eq_false_iff_ne]; exact hq
       have HC2 := Lib.hid hc
       clear hc hd2 hy e0
       go_wp2
       go_round
       case rel => exact ⟨i + 1, q2, by go_num, rfl, by omega, by have := HC2.out; omega⟩
       case measure => simp [intOf]; omega
     ·have : x.ents.drop i = [] := List.drop_eq_nil_of_le (by have := HE.out.1; omega)
      rw [this, linkE] at hc
      have HC2 := Lib.hid hc
      clear hc this
      go_wp2
      go_round
      case rel => exact ⟨k + 1, q2, by go_num, rfl, by omega, by rw [HT.out]; exact HC2.out⟩
      case measure => simp [intOf]; omega
   ·have hdir2 : x.dir = false := by simpa using hdir
    rw [hdir2] at c1
    go_wp2
    go_loop [5, 7] (fun many j => j = .int .i64 0 ∧ many = .int .i64 q) (fun _ j => 0)
    case atStart => exact ⟨rfl, rfl⟩
    case round =>
     obtain ⟨rfl, rfl⟩ := hrel
     by_cases hlt2 : 0 < m2
     ·go_wp2
      go_round
      case rel => exact ⟨k + 1, q, by go_num, rfl, by omega, by have := HC.out; rw [if_neg (by rw [hdir2]; simp)] at this; rw [HT.out]; omega⟩
      case measure => simp [intOf]; omega
     ·have hm0 : m2 = 0 := by omega
      subst hm0
      go_wp2
      go_round
      case rel => exact ⟨k + 1, q, by go_num, rfl, by omega, by have := HC.out; rw [if_neg (by rw [hdir2]; simp)] at this; rw [HT.out]; omega⟩
      case measure => simp [intOf]; omega
  ·have : s.inos.drop k = [] := List.drop_eq_nil_of_le (by have := HI.out.1; omega)
   rw [this, linkI] at hc
   have Hc := Lib.hid hc
   clear hc this
   go_wp2
   go_ret
   exact ⟨Cv.ret_int (by have := Hc.out; omega), HAL.out⟩
theorem StAt.of_parts {lo : Option Nat} {w : World} {A : Option Addr} {n c : Nat} {B : Option Addr} {m d : Nat} {D : Option Addr} {k e : Nat} {s : St} (h1 : InosAt lo w A n s.inos) (h2 : DescsAt lo w B m s.opn) (h3 : IntsAt lo w D k s.made) (h5 : SlOk A n c) (h6 : SlOk B m d) (h7 : SlOk D k e) (hz : Sized s) :
  StAt lo w (.agg #[.slice A n c, .slice B m d, .slice D k e]) s := ⟨⟨A, n, c, B, m, d, D, k, e, rfl, h1, h2, h3, h5, h6, h7⟩, hz⟩
set_option maxHeartbeats 2000000 in
theorem entry_any (v : Value) (s : St) (dir : Int) (name : ByteArray) (w : World) (h : StAt none w v s) :
  Calls Tryz.prog 86 #[v, .int .i64 dir, .string name] w fun e w' => e = .returned (.int .i64 (entV s.inos dir name)) ∧ Below w.heap.size w w' := by
 obtain ⟨⟨A, n, c, B, m, d, D, k, e, rfl, hI, hD, hM, h5, h6, h7⟩, hz⟩ := h
 obtain ⟨R, hR⟩ : ∃ R, entV s.inos dir name = R := ⟨_, rfl⟩
 rw [hR]
 have hbig := hz.big
 have hn := hI.1
 have hn2 : n ≤ 1099511627776 := by omega
 obtain ⟨W, hW, b0, b1, b2, hal, hlt0⟩ := box_st w A n c B m d D k e
 have HS := Lib.hid ((StAt.of_parts hI hD hM h5 h6 h7 hz).below hal)
 have HI := Lib.hid (hI.below hal)
 have HAL := Lib.hid hal
 have HB2 : Hid (bulkE s.inos ≤ 1099511627776) := Lib.hid (by omega)
 rw [entV] at hR
 have HR := Lib.hid hR
 clear hI hD hM hz hbig hn hal hR
 go_enter Tryz.func86, Tryz.ntmps86
 go_wp2_with fail
 refine (at_any _ s dir _ HS.out).mono ?_
 rintro e w1 ⟨rfl, hb1⟩
 have b3 := (hb1.cell (p := ⟨w.heap.size, 0, .none⟩) hlt0).trans b0
 have HI1 := Lib.hid (HI.out.below hb1)
 have HB1 := Lib.hid hb1
 clear hW b0 b1 b2 hb1 HI
 rcases atV_cases s.inos dir with ⟨hat, _⟩ | ⟨i, x, hat, hx, _, _⟩
 ·rw [hat]
  have hr := HR.out
  rw [hat] at hr
  have HR2 := Lib.hid (show (0 : Int) = R from hr)
  clear hr hat
  go_wp2
  go_ret
  exact ⟨Cv.ret_int HR2.out, Cv.next HAL.out HB1.out⟩
 ·rw [hat]
  have hr := HR.out
  rw [hat, inoAt_nat, hx] at hr
  simp only at hr
  have hin : i < n := by have := (List.getElem?_eq_some_iff.1 hx).1; have := HI1.out.1; omega
  obtain ⟨g, off, x', E, m2, d2, rfl, hg, hx', hd, hmem, _, c1, c2, hmd, hE, _⟩ := HI1.out.get i hin
  have ex : x = x' := by rw [hx] at hx'; exact Option.some.inj hx'
  subst ex
  have hle := bulkE_le hx
  have hm2 : m2 ≤ 1099511627776 := by have := hE.1; have := HB2.out; omega
  have HR2 := Lib.hid hr
  have HE := Lib.hid hE
  have q0 : decide ((i : Int) < 0) = false := by simp
  clear hr hat hx hx' hd hmem hle hE c1
  go_wp2_with fail
  go_loop [8] (fun j => ∃ k : Nat, j = .int .i64 k ∧ k ≤ m2 ∧ entG (x.ents.drop k) name = R) (fun j => m2 - (intOf j).toNat)
  case atStart => exact ⟨0, rfl, by omega, HR2.out⟩
  case round =>
   obtain ⟨k, rfl, hk, hc⟩ := hrel
   by_cases hlt : k < m2
   ·obtain ⟨g2, off2, y, rfl, hg2, hy, hd2, _, e0, e1⟩ := HE.out.get k hlt
    rw [hd2, entG] at hc
    by_cases hq : y.name = name
    ·rw [if_pos hq] at hc
     subst hq
     have Hc := Lib.hid hc
     clear hc hd2 hy
     go_wp2
     go_ret
     exact ⟨Cv.ret_int Hc.out, Cv.next HAL.out HB1.out⟩
    ·rw [if_neg hq] at hc
     have q : (y.name.toList == name.toList) = false := ba_list_ne hq
     have Hc := Lib.hid hc
     clear hc hd2 hy
     go_wp2
     go_round
     case rel => exact ⟨k + 1, by go_num, by omega, Hc.out⟩
     case measure => simp [intOf]; omega
   ·have : x.ents.drop k = [] := List.drop_eq_nil_of_le (by have := HE.out.1; omega)
    rw [this, entG] at hc
    have Hc := Lib.hid hc
    clear hc this
    go_wp2
    go_ret
    exact ⟨Cv.ret_int Hc.out, Cv.next HAL.out HB1.out⟩
set_option maxHeartbeats 1000000 in
theorem given_any (v : Value) (s : St) (num : Int) (w : World) (h : StAt none w v s) (hn1 : -9223372036854775808 ≤ num) (hn2 : num ≤ 9223372036854775807) :
  Calls Tryz.prog 38 #[v, .int .i64 num] w fun e w' => e = .returned (.bool (givenV s.made num)) ∧ Below w.heap.size w w' := by
 obtain ⟨⟨A, n, c, B, m, d, D, k, e, rfl, hI, hD, hM, h5, h6, h7⟩, hz⟩ := h
 obtain ⟨R, hR⟩ : ∃ R, givenV s.made num = R := ⟨_, rfl⟩
 rw [hR]
 unfold givenV at hR
 have hbig := hz.big
 have hn := hM.1
 have hk2 : k ≤ 1099511627776 := by omega
 obtain ⟨W, hW, b0, b1, b2, hal, _⟩ := box_st w A n c B m d D k e
 have HM := Lib.hid (hM.below hal)
 have HAL := Lib.hid hal
 have HR := Lib.hid hR
 clear hI hD hM hz hR hbig hn b0 b1 hal
 go_enter Tryz.func38, Tryz.ntmps38
 by_cases h2 : num < 2
 ·have hr := HR.out
  rw [if_pos h2] at hr
  have HR2 := Lib.hid hr
  clear hr
  go_wp2_with fail
  go_ret
  exact ⟨Cv.ret_bool HR2.out, HAL.out⟩
 ·have hr := HR.out
  rw [if_neg h2] at hr
  obtain ⟨N, rfl⟩ : ∃ N : Nat, num = (N : Int) + 2 := ⟨(num - 2).toNat, by omega⟩
  obtain ⟨C, hC⟩ : ∃ C : Nat, N % 8 = C := ⟨_, rfl⟩
  obtain ⟨Q, hQ⟩ : ∃ Q : Nat, N / 8 = Q := ⟨_, rfl⟩
  have e0 : (N : Int) + 2 - 2 = (N : Int) := by omega
  have e1 : (N : Int) % 8 = (C : Int) := by omega
  have e2 : (N : Int) / 8 = (Q : Int) := by omega
  rw [e0, e1, e2, Int.toNat_natCast] at hr
  have t1 : (N : Int).tmod 8 = (C : Int) := by rw [← hC]; rfl
  have t2 : (N : Int).tdiv 8 = (Q : Int) := by rw [← hQ]; rfl
  have q0 : decide ((N : Int) + 2 < 2) = false := by simp; omega
  have hN : N ≤ 9223372036854775805 := by omega
  have hC7 : C < 8 := by omega
  have hQ2 : Q ≤ 9223372036854775805 := by omega
  have w1 : IntKind.i64.wrap (N : Int) = (N : Int) := by rw [IntKind.wrap_i64]; omega
  have w2 : IntKind.i64.wrap ((N : Int) + 2 - 2) = (N : Int) := by rw [e0, w1]
  clear h2 hn1 hn2 e1 e2 hC hQ HR
  by_cases hlt : C < k
  ·obtain ⟨g, off, x, rfl, hg, hx, hd, hmem, c0⟩ := HM.out.get C hlt
   have hkm := HM.out.1
   have hgd : s.made.getD C 0 = x := by rw [List.getD_eq_getElem?_getD, hx]; rfl
   rw [hgd] at hr
   have HR2 := Lib.hid hr
   clear hr hd hmem hx hgd
   go_wp2_with fail
   go_ret
   refine ⟨Cv.ret_bool ?_, HAL.out⟩
   rw [← HR2.out, decide_eq_true (show (C : Int) < (s.made.length : Int) by omega)]
   rfl
  ·have hkm := HM.out.1
   have q1 : decide ((C : Int) < (k : Int)) = false := by simp; omega
   have HR2 := Lib.hid hr
   clear hr
   go_wp2_with fail
   go_ret
   refine ⟨Cv.ret_bool ?_, HAL.out⟩
   rw [← HR2.out, decide_eq_false (show ¬ (C : Int) < (s.made.length : Int) by omega)]
   rfl
end Go.Proofs.YthhceopnnappgaaGreatDoor
