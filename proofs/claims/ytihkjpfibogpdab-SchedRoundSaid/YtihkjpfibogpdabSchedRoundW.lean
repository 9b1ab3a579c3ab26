/- The walk of the law SchedRound. -/
import Derived.Test.YtihkjpfibogpdabAwake3
import Derived.Laws.MakeOwn
namespace Go.Proofs.Ytihkjpfibogpdab.Round
open Go.RowKit
set_option linter.unusedVariables false
theorem truesFrom_rep : ∀ (k j : Nat), truesFrom j (List.replicate k true) = List.range' j k
  | 0, j => rfl
  | k + 1, j => by
    rw [List.replicate_succ, List.range'_succ]
    simp only [truesFrom, if_true, if_pos]
    rw [truesFrom_rep k (j + 1)]
theorem trues_rep (k : Nat) : trues (List.replicate k true) = List.range' 0 k := truesFrom_rep k 0
theorem picks_rep (k : Nat) (h : 1 ≤ k) : picks (List.replicate k true) = true := by
  unfold picks
  rw [trues_rep]
  obtain ⟨q, rfl⟩ : ∃ q, k = q + 1 := ⟨k - 1, by omega⟩
  rw [List.range'_succ]
  rfl
theorem pick_rep (k i : Nat) (h : 1 ≤ k) (hi : i ≤ 9223372036854775806) : pickV (List.replicate k true) i = (i % k : Nat) := by
  have hw : IntKind.u64.wrap (i : Int) = (i : Int) := by rw [IntKind.wrap_u64]; omega
  have hm : i % k < k := Nat.mod_lt _ (by omega)
  unfold pickV pickAt
  rw [if_pos (picks_rep k h), hw, trues_rep, List.length_range', Int.toNat_natCast]
  simp [List.getD_eq_getElem?_getD, List.getElem?_range', hm]
/-- As many rows, as many picks. -/
def rowsR (k m : Nat) : List (List Bool) := List.replicate m (List.replicate k true)
def picksR (k m : Nat) : List Int := (List.range m).map fun i => ((i % k : Nat) : Int)
theorem rdy_rep {k m i c : Nat} (hi : i < m) (hc : c < k) : rdy (rowsR k m) i c = true := by
  unfold rdy rowsR
  simp [List.getD_eq_getElem?_getD, List.getElem?_replicate, hi, hc]
theorem row_rep {k m i : Nat} (hi : i < m) : ((rowsR k m).getD i []).length = k := by
  unfold rowsR
  simp [List.getD_eq_getElem?_getD, List.getElem?_replicate, hi]
theorem picks_at {k m i : Nat} (hi : i < m) : (picksR k m).getD i 0 = ((i % k : Nat) : Int) := by
  unfold picksR
  simp [List.getD_eq_getElem?_getD, hi]
theorem fair_round (k m : Nat) (hk : 1 ≤ k) (hm : k ≤ m) : fairV (rowsR k m) (picksR k m) k = true := by
  have hl : min (rowsR k m).length (picksR k m).length = m := by simp [rowsR, picksR]
  rw [fairV_iff, fairly_iff _ _ _ (by omega) (by rw [hl]; omega), hl, Int.toNat_natCast]
  intro i hi c hc hw
  rw [row_rep (by omega)] at hc
  have hlt : (c + k - i % k) % k < k := Nat.mod_lt _ (by omega)
  have himod : i % k < k := Nat.mod_lt _ (by omega)
  have h := (hw (i + (c + k - i % k) % k) (by omega) (by omega)).2
  rw [picks_at (by omega)] at h
  apply h
  have e : (i + (c + k - i % k) % k) % k = c := by
    rw [Nat.add_mod, Nat.mod_mod, ← Nat.add_mod]
    have e2 : i + (c + k - i % k) = c + k + k * (i / k) := by have := Nat.div_add_mod i k; omega
    rw [e2, Nat.add_mul_mod_self_left, Nat.add_mod_right, Nat.mod_eq_of_lt hc]
  rw [e]
theorem fair_less (k m : Nat) (hk : 2 ≤ k) (hm : k ≤ m) : fairV (rowsR k m) (picksR k m) ((k - 1 : Nat) : Int) = false := by
  have hl : min (rowsR k m).length (picksR k m).length = m := by simp [rowsR, picksR]
  rw [← Bool.not_eq_true, fairV_iff, fairly_iff _ _ _ (by omega) (by rw [hl]; omega), hl, Int.toNat_natCast]
  intro h
  refine h 0 (by omega) (k - 1) (by rw [row_rep (by omega)]; omega) fun j h1 h2 => ⟨rdy_rep (by omega) (by omega), ?_⟩
  rw [picks_at (by omega), Nat.mod_eq_of_lt (by omega)]
  omega
theorem picksR_next (k i : Nat) : picksR k (i + 1) = picksR k i ++ [((i % k : Nat) : Int)] := by
  unfold picksR
  rw [List.range_succ, List.map_append]
  rfl
/-- A row of bools that is filled. -/
def fillV (n k : Nat) : List Value := List.replicate n (Value.bool true) ++ List.replicate (k - n) (Value.bool false)
theorem fill_len (n k : Nat) (h : n ≤ k) : (fillV n k).length = k := by simp [fillV]; omega
theorem fill_set (n k : Nat) (h : n < k) : (fillV n k).set n (.bool true) = fillV (n + 1) k := by
  unfold fillV
  rw [List.set_append_right _ _ (by simp)]
  have e : k - n = (k - (n + 1)) + 1 := by omega
  rw [e, List.replicate_succ, show n - (List.replicate n (Value.bool true)).length = 0 by simp, List.set_cons_zero, List.replicate_succ']
  simp
theorem fill_end (k : Nat) : fillV k k = (List.replicate k true).map Value.bool := by simp [fillV]
theorem infoB : (Try.prog.info? 4).map (fun i => (i.zero, i.size, i.bytes)) = some (some (.bool false), 1, 1) := by kernel_rfl
theorem infoR : (Try.prog.info? 26).map (fun i => (i.zero, i.size, i.bytes)) = some (some (.slice .none 0 0), 1, 24) := by kernel_rfl
theorem made_list (n : Nat) : (madeCells (Value.bool false).cells n).toList = fillV 0 n := by
  have h := toList_madeCells_one (Value.bool false) n
  simpa [Value.cells, fillV] using h
theorem make_row (n : Nat) (hn : n ≤ 65536) (w : World) :
    ∃ W2, (Instr.makeSlice 26 (.int .i64 (n : Int)) (.int .i64 (n : Int))).run Try.prog w = .ok (.slice (some ⟨w.heap.size, 0, .none⟩) n n) W2 ∧ W2.ownsRow w.heap.size 4 1 (.slice (some ⟨w.heap.size, 0, .none⟩) n n) n (fillV 0 n) ∧ Below w.heap.size w W2 := by
  obtain ⟨i0, hi, hz0, hz1, hz2⟩ := info_parts infoB
  have hr := run_make (P := Try.prog) w 26 4 i0 (.bool false) Try.underlying26 hi hz0 .i64 .i64 (n : Int) (n : Int) (by omega) (Int.le_refl _) (by rw [hz2]; omega) (by omega)
  simp only [Int.toNat_natCast, hz1, Nat.mul_one] at hr
  refine ⟨_, hr, ?_, (Below.refl _ _).alloc (Nat.le_refl _) _⟩
  have h := World.ownsRow_lit (base := w.heap.size) (e := 4) (size := 1) w (madeCells (Value.bool false).cells n) n (Nat.le_refl _) (by unfold maxLen; omega) (by rw [← Array.length_toList, made_list]; simp [fillV])
  rw [made_list] at h
  exact h
theorem rows_ne {w : World} {b1 b2 : Nat} {e1 e2 : TypeId} {s1 s2 n1 n2 : Nat} {v1 v2 : Value} {x1 x2 : List Value} (h1 : w.ownsRow b1 e1 s1 v1 n1 x1) (h2 : w.ownsRow b2 e2 s2 v2 n2 x2) (he : e1 ≠ e2) : v1.ownBlock = .none ∨ v1.ownBlock ≠ v2.ownBlock := by
  rcases h1.2 with ⟨rfl, _⟩ | ⟨g, cap, cur, rfl, _, hg, _⟩
  · exact .inl rfl
  · rcases h2.2 with ⟨rfl, _⟩ | ⟨g2, cap2, cur2, rfl, _, hg2, _⟩
    · exact .inr (by simp [Value.ownBlock])
    · refine .inr fun e => ?_
      simp [Value.ownBlock] at e
      subst e
      rw [hg] at hg2
      injection hg2 with h
      injection h with _ h _
      exact he h
theorem row_form {w : World} {base n : Nat} {e : TypeId} {v : Value} {xs : List Value} (h : w.ownsRow base e 1 v n xs) : ∃ A cap, v = .slice A n cap ∧ Reads w A n xs := by
  rcases h.2 with ⟨hv, h0⟩ | ⟨g, cap, cur, hv, hb, hg, hnc, hcm, hcs, htk⟩
  · exact ⟨.none, 0, by rw [hv, h0], by rw [h.1]; omega, fun h1 => absurd h1 (by omega)⟩
  · refine ⟨_, cap, hv, by rw [h.1]; omega, fun hn => ⟨g, 0, rfl, (Array.getElem?_eq_some_iff.1 hg).1, fun j hj => ?_⟩⟩
    have h2 := h
    rw [hv] at h2
    rw [Nat.zero_add]
    exact h2.cellAt j (by omega)
/-- What stands in memory in the second loop. -/
structure RI (w wr : World) (k n : Nat) (v7 v8 : Value) : Prop where
  all : wr.ownsRow w.heap.size 4 1 (.slice (some ⟨w.heap.size, 0, .none⟩) k k) k ((List.replicate k true).map Value.bool)
  r7 : wr.ownsRow w.heap.size 26 1 v7 n (List.replicate n (.slice (some ⟨w.heap.size, 0, .none⟩) k k))
  r8 : wr.ownsRow w.heap.size 3 1 v8 n ((picksR k n).map (Value.int .i64))
  below : Below w.heap.size w wr
theorem RI.alloc {w wr : World} {k n : Nat} {v7 v8 : Value} (h : RI w wr k n v7 v8) (o : Obj) : RI w (wr.alloc o) k n v7 v8 := ⟨h.all.alloc o, h.r7.alloc o, h.r8.alloc o, h.below.alloc h.below.size _⟩
/-- A row more, and then a pick more. -/
structure RJ (w wr : World) (k n : Nat) (v7 v8 : Value) : Prop where
  all : wr.ownsRow w.heap.size 4 1 (.slice (some ⟨w.heap.size, 0, .none⟩) k k) k ((List.replicate k true).map Value.bool)
  r7 : wr.ownsRow w.heap.size 26 1 v7 (n + 1) (List.replicate (n + 1) (.slice (some ⟨w.heap.size, 0, .none⟩) k k))
  r8 : wr.ownsRow w.heap.size 3 1 v8 n ((picksR k n).map (Value.int .i64))
  below : Below w.heap.size w wr
theorem RJ.alloc {w wr : World} {k n : Nat} {v7 v8 : Value} (h : RJ w wr k n v7 v8) (o : Obj) : RJ w (wr.alloc o) k n v7 v8 := ⟨h.all.alloc o, h.r7.alloc o, h.r8.alloc o, h.below.alloc h.below.size _⟩
theorem RI.row {w wr w2 : World} {k n : Nat} {v7 v8 v' : Value} (h : RI w wr k n v7 v8)
    (hown : w2.ownsRow w.heap.size 26 1 v' (n + 1) (List.replicate n (.slice (some ⟨w.heap.size, 0, .none⟩) k k) ++ [.slice (some ⟨w.heap.size, 0, .none⟩) k k])) (hg : wr.grownBy w2 v7.ownBlock) : RJ w w2 k n v' v8 :=
  ⟨h.all.kept hg (rows_ne h.all h.r7 (by decide)), by rw [List.replicate_succ']; exact hown, h.r8.kept hg (rows_ne h.r8 h.r7 (by decide)), h.below.grown hg h.below.size fun x hx => (h.r7.lt x hx).1⟩
theorem RJ.pick {w wr w2 : World} {k n : Nat} {v7 v8 v' : Value} (h : RJ w wr k n v7 v8)
    (hown : w2.ownsRow w.heap.size 3 1 v' (n + 1) ((picksR k n).map (Value.int .i64) ++ [.int .i64 ((n % k : Nat) : Int)])) (hg : wr.grownBy w2 v8.ownBlock) : RI w w2 k (n + 1) v7 v' :=
  ⟨h.all.kept hg (rows_ne h.all h.r8 (by decide)), h.r7.kept hg (rows_ne h.r7 h.r8 (by decide)), by rw [picksR_next, List.map_append]; exact hown, h.below.grown hg h.below.size fun x hx => (h.r8.lt x hx).1⟩
theorem RI.rows {w wr : World} {k n : Nat} {A : Option Addr} {c : Nat} {v8 : Value} (h : RI w wr k n (.slice A n c) v8) (hk : k ≤ 8) : Rows wr A n (rowsR k n) := by
  obtain ⟨A', cap', e, hr⟩ := row_form h.r7
  injection e with e1 _ _
  subst e1
  obtain ⟨B, cB, e2, hb⟩ := row_form h.all
  injection e2 with e3 _ _
  subst e3
  refine ⟨by simp [rowsR], fun r hr => ?_, fun hn => ?_⟩
  · unfold rowsR at hr
    rw [(List.mem_replicate.1 hr).2, List.length_replicate]
    omega
  · obtain ⟨g, off, hA, hg, hc⟩ := hr.2 hn
    refine ⟨g, off, hA, hg, fun j hj => ⟨_, k, k, (hc j hj).trans (by simp [hj]; rfl), ?_⟩⟩
    have e5 : (rowsR k n).getD j [] = List.replicate k true := by
      unfold rowsR
      simp [List.getD_eq_getElem?_getD, List.getElem?_replicate, hj]
    rw [e5]
    exact hb
set_option maxRecDepth 100000 in
set_option maxHeartbeats 2000000 in
theorem walk (c : Int) (hc : (Lit.int .i64 c).wf = true) (d : Int) (hd : (Lit.int .i64 d).wf = true) (w : World) :
    Calls Try.prog 4 #[.int .i64 c, .int .i64 d] w fun e w' => e = .returned (.bool true) ∧ Below w.heap.size w w' := by
  obtain ⟨k0, hk0, hck⟩ := Cv.and_i64 c 7 (by omega)
  rw [show ((7 : Nat) : Int) = 7 from rfl] at hck
  obtain ⟨m0, hm0, hdm⟩ := Cv.and_i64 d 31 (by omega)
  rw [show ((31 : Nat) : Int) = 31 from rfl] at hdm
  obtain ⟨k, hk⟩ : ∃ k : Nat, k = k0 + 1 := ⟨_, rfl⟩
  have hk1 : (1 : Int) + (k0 : Int) = (k : Int) := by omega
  obtain ⟨m, hm⟩ : ∃ m : Nat, m = k + m0 := ⟨_, rfl⟩
  have hm1 : (k : Int) + (m0 : Int) = (m : Int) := by omega
  have hkr : 1 ≤ k ∧ k ≤ 8 := by omega
  have hmr : k ≤ m ∧ m ≤ 39 := by omega
  have q0 : ((k : Int) == 0) = false := by rw [beq_eq_false_iff_ne]; omega
  clear hk hm hk0 hm0 hc hd
  go_enter Try.func4, Try.ntmps4
  go_wp2_with fail
  refine (awake3 _).mono ?_
  rintro e w1 ⟨rfl, hb1⟩
  obtain ⟨W2, hmk, hrow, hb2⟩ := make_row k (by omega) w1
  have Hrow := Lib.hid hrow
  clear hrow
  go_wp2_with fail
  go_loopw [10] (fun i wr => ∃ n : Nat, n ≤ k ∧ i = .int .i64 n ∧ wr.ownsRow w1.heap.size 4 1 (.slice (some ⟨w1.heap.size, 0, .none⟩) k k) k (fillV n k) ∧ Below w1.heap.size w1 wr) (fun i _ => k - (intOf i).toNat)
  case atStart => exact ⟨0, by omega, rfl, Hrow.out, hb2⟩
  case round =>
    obtain ⟨n, hn, rfl, hr, hbel⟩ := hrel
    by_cases hlt : n < k
    · have hlt2 : n < (fillV n k).length := by rw [fill_len n k hn]; exact hlt
      have hcell : wr.cell? ⟨w1.heap.size, n, .none⟩ = some ((fillV n k)[n]'hlt2) := (hr.cellAt n (by omega)).trans (List.getElem?_eq_getElem hlt2)
      have hfroz := hr.frozenAt n
      have hnext := (hr.stored n (.bool true)).1
      rw [fill_set n k hlt] at hnext
      have Hr := Lib.hid hr
      have Hn := Lib.hid hnext
      have Hb := Lib.hid hbel
      clear hr hnext hbel
      go_wp2
      go_roundw
      case rel => exact ⟨n + 1, by omega, by go_num, Hn.out, Hb.out.setCell (Nat.le_refl _) _⟩
      case measure => simp [intOf]; omega
    · obtain rfl : n = k := by omega
      rw [fill_end] at hr
      have hri : RI w1 wr n 0 (.slice .none 0 0) (.slice .none 0 0) := ⟨hr, World.ownsRow_nil _ _ _ _, World.ownsRow_nil _ _ _ _, hbel⟩
      have HRI := Lib.hid hri
      clear hr hbel hri
      go_wp2_with fail
      go_loopw [7, 8, 11, 12, 13] (fun v7 v8 i _ _ wr2 => ∃ q : Nat, q ≤ m ∧ i = .int .i64 q ∧ RI w1 wr2 n q v7 v8) (fun _ _ i _ _ _ => m - (intOf i).toNat)
      case atStart => exact ⟨0, by omega, rfl, HRI.out⟩
      case round =>
        obtain ⟨q, hq, rfl, hri⟩ := hrel
        by_cases hqm : q < m
        · have hrall := row_form hri.all
          obtain ⟨B, cB, e2, hb⟩ := hrall
          injection e2 with e3 _ e4
          subst e3 e4
          have HB := Lib.hid hb
          have HR := Lib.hid hri
          obtain ⟨t, ht⟩ : ∃ t, q % n = t := ⟨_, rfl⟩
          have htn : t < n := by rw [← ht]; exact Nat.mod_lt _ (by omega)
          have hrem : (q : Int).tmod (n : Int) = (t : Int) := by rw [← ht]; rfl
          have hpv := pick_rep n q (by omega) (by omega)
          have hps := picks_rep n (by omega)
          rw [ht] at hpv
          have HT := Lib.hid ht
          have HPV := Lib.hid hpv
          have HPS := Lib.hid hps
          clear hb hri ht hpv hps
          go_wp2_with fail
          refine (pick_any _ n n (List.replicate n true) (q : Int) _ HB.out (by omega)).mono ?_
          rintro e w3 ⟨rfl, rfl⟩
          rw [HPV.out, HPS.out]
          obtain ⟨i0, hi, hz0, hz1, hz2⟩ := info_parts infoR
          go_wp2_with (at_builtin; refine wpList_append_own _ rfl _ _ 22 rfl w1.heap.size 26 i0 (.slice .none 0 0) 1 24 Try.underlying22 hi hz0 hz1 hz2 rfl (by decide) _ q _ rfl (HR.out.alloc _).r7 ⟨_, 0, .none⟩ 1 1 [.slice (some ⟨w1.heap.size, 0, .none⟩) n n] rfl rfl ?ca1 ?ca2 ?ca3 ?ca4 ?ca5 ?_)
          case ca1 => exact cell_one_new _ _ _
          case ca2 => intro u hu; simp at hu; subst hu; rfl
          case ca3 => unfold maxLen; omega
          case ca4 => omega
          case ca5 => have := HR.out.below.size; simp; omega
          intro v' w2 hown' hgrow _
          have hrj := (HR.out.alloc _).row hown' hgrow
          have HJ := Lib.hid hrj
          clear hown' hgrow hrj hz0 hz1 hz2 hi
          obtain ⟨j0, hi, hz0, hz1, hz2⟩ := info_parts infoInt
          go_wp2_with (at_builtin; refine wpList_append_own _ rfl _ _ 23 rfl w1.heap.size 3 j0 (.int .i64 0) 1 8 Try.underlying23 hi hz0 hz1 hz2 rfl (by decide) _ q _ rfl (HJ.out.alloc _).r8 ⟨_, 0, .none⟩ 1 1 [.int .i64 t] rfl rfl ?cb1 ?cb2 ?cb3 ?cb4 ?cb5 ?_)
          case cb1 => exact cell_one_new _ _ _
          case cb2 => intro u hu; simp at hu; subst hu; rfl
          case cb3 => unfold maxLen; omega
          case cb4 => omega
          case cb5 => have := HJ.out.below.size; simp; omega
          intro v'' w4 hown' hgrow _
          have hri2 := (HJ.out.alloc _).pick (by rw [HT.out]; exact hown') hgrow
          have HI2 := Lib.hid hri2
          clear hown' hgrow hri2
          go_wp2_with fail
          go_roundw
          case rel => exact ⟨q + 1, by omega, by go_num, HI2.out⟩
          case measure => simp [intOf]; omega
        · obtain rfl : q = m := by omega
          obtain ⟨A7, c7, rfl, _⟩ := row_form hri.r7
          obtain ⟨A8, c8, rfl, hr8⟩ := row_form hri.r8
          have hrows := hri.rows (by omega)
          have hwf : ∀ p ∈ picksR n q, wfI p := by
            intro p hp
            unfold picksR at hp
            obtain ⟨i, _, rfl⟩ := List.mem_map.1 hp
            have := Nat.mod_lt i (show n > 0 by omega)
            exact wf_nat _ (by omega)
          have HR7 := Lib.hid hrows
          have HR8 := Lib.hid hr8
          have HBL := Lib.hid hri.below
          have HWF := Lib.hid hwf
          clear hri hr8 hrows hwf
          go_wp2_with fail
          refine (fair_lit A7 A8 q q c7 c8 (rowsR n q) (picksR n q) (n : Int) true _ (fair_round n q (by omega) (by omega)) HR7.out HR8.out (by omega) (by omega) HWF.out (wf_nat _ (by omega))).mono ?_
          rintro e w5 ⟨rfl, hb5⟩
          by_cases hn1 : n = 1
          · have q1 : ((n : Int) == 1) = true := by rw [beq_iff_eq]; omega
            go_wp2_with fail
            go_ret
            exact ⟨rfl, Cv.next (Cv.next hb1 HBL.out) hb5⟩
          · have q1 : ((n : Int) == 1) = false := by rw [beq_eq_false_iff_ne]; omega
            have e1 : (n : Int) - 1 = ((n - 1 : Nat) : Int) := by omega
            have HR7' := Lib.hid (HR7.out.below hb5)
            have HR8' := Lib.hid (HR8.out.below hb5)
            go_wp2_with fail
            refine (fair_lit A7 A8 q q c7 c8 (rowsR n q) (picksR n q) ((n - 1 : Nat) : Int) false _ (fair_less n q (by omega) (by omega)) HR7'.out HR8'.out (by omega) (by omega) HWF.out (wf_nat _ (by omega))).mono ?_
            rintro e w6 ⟨rfl, hb6⟩
            go_wp2_with fail
            go_ret
            exact ⟨rfl, Cv.next (Cv.next (Cv.next hb1 HBL.out) hb5) hb6⟩
end Go.Proofs.Ytihkjpfibogpdab.Round
