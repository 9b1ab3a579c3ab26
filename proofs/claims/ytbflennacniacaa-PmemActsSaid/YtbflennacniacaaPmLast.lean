/- pmem.Mem.last, by its contract. -/
import Derived.Test.YtbflennacniacaaPmFlush
import Derived.Test.YtbflennacniacaaRangePut
import Derived.Deep.MidRow
import Derived.Deep.Upon
namespace Go.Proofs.Ytbflennacniacaa
open Go.RowKit
set_option linter.unusedVariables false
def keyI (i : Nat) : Lit := .int .i64 (i : Int)
/-- What lasts while the lines 'left' are still to come. -/
def lastsL (M : PM) (left : Lit → Bool) : Nat → Int := fun j => match M.way (j / 8) with | some g => if left (keyI (j / 8)) then M.lasts j else g (j % 8) | none => M.lasts j
def wayL (M : PM) (left : Lit → Bool) : Nat → Option (Nat → Int) := fun i => if left (keyI i) then M.way i else none
def PM.lasted (M : PM) : PM := { M with lasts := lastsL M fun _ => false, way := wayL M fun _ => false }
/-- A line has come. -/
def strike (left : Lit → Bool) (i : Nat) : Lit → Bool := fun z => left z && !z.sameKey (keyI i)
theorem strike_same (left : Lit → Bool) (i : Nat) : strike left i (keyI i) = false := by
  unfold strike
  rw [WideAt.sameKey_self (by trivial)]
  simp
theorem strike_other (left : Lit → Bool) {i j : Nat} (h : j ≠ i) : strike left i (keyI j) = left (keyI j) := by
  unfold strike
  have : (keyI j).sameKey (keyI i) = false := by
    cases hs : (keyI j).sameKey (keyI i)
    · rfl
    · exact absurd (WideAt.sameKey_eq hs) (key_ne h)
  rw [this]
  simp
theorem way_strike_none {M : PM} {left : Lit → Bool} {i : Nat} (h : M.way i = none) : wayL M (strike left i) = wayL M left := by
  funext j
  unfold wayL
  by_cases e : j = i
  · subst e
    rw [h]
    simp
  · rw [strike_other left e]
theorem lasts_strike_none {M : PM} {left : Lit → Bool} {i : Nat} (h : M.way i = none) : lastsL M (strike left i) = lastsL M left := by
  funext j
  unfold lastsL
  by_cases e : j / 8 = i
  · rw [e, h]
  · rw [strike_other left e]
theorem way_strike (M : PM) (left : Lit → Bool) (i : Nat) : wayL M (strike left i) = fun j => if j = i then none else wayL M left j := by
  funext j
  unfold wayL
  by_cases e : j = i
  · subst e
    rw [strike_same, if_pos rfl]
    rfl
  · rw [strike_other left e, if_neg e]
theorem lasts_strike {M : PM} {left : Lit → Bool} {i : Nat} {g : Nat → Int} (h : M.way i = some g) : lastsL M (strike left i) = fun j => if j / 8 = i then g (j % 8) else lastsL M left j := by
  funext j
  unfold lastsL
  by_cases e : j / 8 = i
  · rw [e, h, strike_same, if_pos rfl]
    rfl
  · rw [strike_other left e, if_neg e]
theorem WayRel.gone {D : DataW Value} {n : Nat} {way : Nat → Option (Nat → Int)} (h : WayRel D n way) (q : Nat) (hq : q < n) :
    WayRel (D.put (.int .i64 (q : Nat)) (.held goneV)) n (fun i => if i = q then none else way i) := by
  obtain ⟨h1, h2, h3⟩ := h
  refine ⟨h1.put _ _, fun kl hkl => ?_, fun i => ?_⟩
  · by_cases e : kl = .int .i64 (q : Nat)
    · exact ⟨q, e, hq⟩
    · rw [Go.Maps.has_put_other e] at hkl
      exact h2 kl hkl
  · by_cases e : i = q
    · subst e
      simp only [if_pos]
      exact fun _ z => Go.Maps.atKey_put_same h1 (by trivial) _ _
    · have hi := h3 i
      simp only [if_neg e]
      have e1 := key_ne e
      rw [Go.Maps.has_put_other e1]
      cases hw : way i with
      | none =>
        rw [hw] at hi
        intro hh z
        rw [Go.Maps.atKey_put_other e1]
        exact hi hh z
      | some g' =>
        rw [hw] at hi
        exact ⟨hi.1, fun z => by rw [Go.Maps.atKey_put_other e1]; exact hi.2 z⟩
theorem way_start {M : PM} {D : DataW Value} (h : WayRel D M.n M.way) : wayL M (Go.Maps.has D) = M.way := by
  funext i
  unfold wayL
  have hi := h.2.2 i
  cases hw : M.way i with
  | none => simp
  | some g =>
    rw [hw] at hi
    exact if_pos hi.1
def line8 (g : Nat → Int) : List Value := [.int .u64 (g 0), .int .u64 (g 1), .int .u64 (g 2), .int .u64 (g 3), .int .u64 (g 4), .int .u64 (g 5), .int .u64 (g 6), .int .u64 (g 7)]
def putLine (f : Nat → Int) (q : Nat) (g : Nat → Int) : Nat → Int := fun j => if j / 8 = q then g (j % 8) else f j
theorem RowAt.congr {w : World} {b N : Nat} {f f' : Nat → Int} (h : RowAt w b N f) (e : ∀ j, j < N → f j = f' j) : RowAt w b N f' := by
  obtain ⟨cur, hh, hc⟩ := h
  exact ⟨cur, hh, fun j hj => by rw [← e j hj]; exact hc j hj⟩
theorem putLine_upd (f : Nat → Int) (q : Nat) (g : Nat → Int) (j : Nat) :
    updI (updI (updI (updI (updI (updI (updI (updI f (q * 8) (g 0)) (q * 8 + 1) (g 1)) (q * 8 + 2) (g 2)) (q * 8 + 3) (g 3)) (q * 8 + 4) (g 4)) (q * 8 + 5) (g 5)) (q * 8 + 6) (g 6)) (q * 8 + 7) (g 7) j = putLine f q g j := by
  unfold putLine updI
  by_cases e : j / 8 = q
  · rw [if_pos e]
    obtain ⟨r, hr, hj⟩ : ∃ r, j % 8 = r ∧ j = q * 8 + r := ⟨j % 8, rfl, by omega⟩
    have hr8 : r < 8 := by omega
    rw [hr, hj]
    have : r = 0 ∨ r = 1 ∨ r = 2 ∨ r = 3 ∨ r = 4 ∨ r = 5 ∨ r = 6 ∨ r = 7 := by omega
    rcases this with h | h | h | h | h | h | h | h <;> (subst h; simp)
  · rw [if_neg e]
    repeat rw [if_neg (by omega)]
theorem setLine_eq (w : World) (b o : Nat) (g : Nat → Int) : w.setCells b o (line8 g) =
    ((((((((w.setCell ⟨b, o, .none⟩ (.int .u64 (g 0))).setCell ⟨b, o + 1, .none⟩ (.int .u64 (g 1))).setCell ⟨b, o + 2, .none⟩ (.int .u64 (g 2))).setCell ⟨b, o + 3, .none⟩ (.int .u64 (g 3))).setCell ⟨b, o + 4, .none⟩ (.int .u64 (g 4))).setCell ⟨b, o + 5, .none⟩ (.int .u64 (g 5))).setCell ⟨b, o + 6, .none⟩ (.int .u64 (g 6))).setCell ⟨b, o + 7, .none⟩ (.int .u64 (g 7))) := rfl
theorem RowAt.setLine {w : World} {b N : Nat} {f : Nat → Int} (h : RowAt w b N f) (q : Nat) (g : Nat → Int) : RowAt (w.setCells b (q * 8) (line8 g)) b N (putLine f q g) := by
  rw [setLine_eq]
  exact ((((((((h.set _ _).set _ _).set _ _).set _ _).set _ _).set _ _).set _ _).set _ _).congr fun j _ => putLine_upd f q g j
theorem Mem.setLine {w : World} {F : PF} {M : PM} (h : Mem w F M) (q : Nat) (g : Nat → Int) : Mem (w.setCells F.l (q * 8) (line8 g)) F { M with lasts := putLine M.lasts q g } := by
  obtain ⟨k1, k2, k3, k4, k5, k6⟩ := h.kinds
  obtain ⟨a1, a2, a3⟩ := h.apart
  have hin := h.in_heap
  have other : ∀ i, F.has i → i ≠ F.l → (w.setCells F.l (q * 8) (line8 g)).heap[i]? = w.heap[i]? := fun i hi hn => World.heap_setCells_other w F.l (q * 8) (line8 g) (hin i hi) hn
  obtain ⟨cs, cl, ce, h1, h2, h3⟩ := h.blk
  refine ⟨⟨cs, cl, ce, h1, h2, (other _ (.inl rfl) k2).trans h3⟩, h.seen.same (other _ (.inr (.inl rfl)) a1), h.lasts.setLine q g, fun f hf => (h.fin f hf).same (other _ (.inr (.inr (.inr (.inr rfl)))) (Ne.symm a3)), ?_, h.apart, h.size, h.idle⟩
  obtain ⟨D, h4, h5⟩ := h.way
  exact ⟨D, h4, way_same h5 (other _ (.inr (.inr (.inr (.inl rfl)))) k5)⟩
theorem Only.setLine {S : Nat → Prop} {a w : World} (h : Only S a w) {b : Nat} (hb : S b) (o : Nat) (g : Nat → Int) : Only S a (w.setCells b o (line8 g)) := by
  rw [setLine_eq]
  exact ((((((((h.setCell (.inl hb) _).setCell (.inl hb) _).setCell (.inl hb) _).setCell (.inl hb) _).setCell (.inl hb) _).setCell (.inl hb) _).setCell (.inl hb) _).setCell (.inl hb) _)
theorem grown_setLine (W : World) (b o : Nat) (g : Nat → Int) : W.grownBy (W.setCells b o (line8 g)) (some b) :=
  ⟨World.os_setCells W b o _, by rw [setLine_eq]; simp, World.output_setCells W b o _, by rw [setLine_eq]; simp, fun j hj hn => World.heap_setCells_other W b o _ hj (fun e => hn (by rw [e]))⟩
theorem RowAt.there {w : World} {b N : Nat} {f : Nat → Int} (h : RowAt w b N f) (q : Nat) (hq : q * 8 + 8 ≤ N) : w.there b (q * 8) 8 := fun j hj => ⟨by rw [h.cell (q * 8 + j) (by omega)]; rfl, h.frozen _⟩
theorem infoLine2 : (Try.prog.info? 78).map (·.size) = some 8 := by kernel_rfl
theorem assert_gone (w : World) : (Instr.typeAssert (.iface 94 (.agg #[])) 20 78 true).run Try.prog w = .ok (.tuple #[zeroLine, .bool false]) w := by kernel_rfl
theorem assert_line (v : Value) (w : World) : (Instr.typeAssert (.iface 78 v) 20 78 true).run Try.prog w = .ok (.tuple #[v, .bool true]) w := by kernel_rfl
set_option maxRecDepth 100000 in
set_option maxHeartbeats 2000000 in
theorem last_any (F : PF) (M : PM) (w : World) (h : Mem w F M) (hct : M.cnt ≤ 1099511627776) :
    Calls Try.prog 45 #[.pointer (some ⟨F.a, 0, .none⟩)] w fun e w' => e = .returned (.tuple #[]) ∧ Mem w' F M.lasted ∧ Only F.has w w' := by
  obtain ⟨cs, cl, ce, hcs, hcl, e0, e1, e2, _, _, _, _, _⟩ := h.cells
  obtain ⟨D, hrel, hown⟩ := h.way
  have HM := Lib.hid h
  have HREL := Lib.hid hrel
  clear h hrel
  go_enter Try.func45, Try.ntmps45
  go_wp2_with (at_range; refine wpList_range_own _ rfl _ 73 rfl 3 20 way_keyed Try.underlying73 heldR F.y M.cnt D rfl hown ?_; intro w0 hrg0 hg0 hs0)
  have hm0 : Mem w0 F M := HM.out.same fun k hk => hg0.block k (HM.out.in_heap k hk) (by simp)
  have ho0 : Only F.has w w0 := (Only.refl _ _).grown hg0 fun k hk => by cases hk
  have hL0 : ∀ j, lastsL M (Go.Maps.has D) j = M.lasts j := fun j => by
    unfold lastsL
    cases hw : M.way (j / 8) with
    | none => rfl
    | some g =>
      have := HREL.out.2.2 (j / 8)
      rw [hw] at this
      exact if_pos this.1
  have HR0 := Lib.hid hrg0
  have HM0 := Lib.hid hm0
  have HO0 := Lib.hid ho0
  clear hrg0 hg0 hm0 ho0 hown
  go_frame
  go_loopw [2, 3, 4, 5] (fun _ _ _ _ wr => ∃ (left : Lit → Bool) (cnt : Nat) (D' : DataW Value), wr.ranges Try.prog 3 heldR F.y w.heap.size M.cnt D' left cnt ∧ WayRel D' M.n (wayL M left) ∧ Mem wr F { M with lasts := lastsL M left, way := wayL M left } ∧ Only F.has w wr)
    (fun _ _ _ _ wr => wr.rangeLeft F.y w.heap.size)
  case atStart =>
    refine ⟨_, _, D, HR0.out, ?_, ?_, HO0.out⟩
    · rw [way_start HREL.out]
      exact HREL.out
    · rw [way_start HREL.out, show lastsL M (Go.Maps.has D) = M.lasts from funext hL0]
      exact HM0.out
  case round =>
    obtain ⟨left, cnt, D', hrg, hrel2, hmem, honly⟩ := hrel
    have HR := Lib.hid hrg
    have HW := Lib.hid hrel2
    have HME := Lib.hid hmem
    have HON := Lib.hid honly
    clear hrel2 hmem honly
    go_wp2_with (at_next; refine wpList_next_ranges _ rfl _ rfl 3 way_keyed heldR (Value.int .i64) id (fun key kl hk => by obtain ⟨x, rfl, _⟩ := Maps.keyOf_int_inv Try.underlying3 hk; exact ⟨x, rfl⟩) (fun v y _ => ⟨v, rfl⟩) F.y w.heap.size M.cnt D' left cnt rfl hrg ?_ ?_)
    · intro hc0 hl0
      obtain rfl : left = fun _ => false := funext hl0
      go_wp2_with fail
      go_end0
      exact ⟨rfl, HME.out, HON.out⟩
    · intro x v kl yd yp w1 cnt1 hkey hlk hv hat hrg1 hlt1 hgr1 hsz1 hen1
      obtain ⟨x', ex, rfl, _⟩ := Maps.keyOf_int_inv Try.underlying3 hkey
      injection ex with _ ex
      subst ex
      obtain ⟨i, hi, hin⟩ := HW.out.2.1 _ (ranges_has hrg way_keyed hlk)
      injection hi with _ hi
      subst hi
      have hy : yd = .held v := by unfold heldR at hv; injection hv with hv; injection hv with hv _; exact hv.symm
      subst hy
      have hwi := HW.out.2.2 i
      have hwl : wayL M left i = M.way i := if_pos hlk
      rw [hwl] at hwi
      cases hw : M.way i with
      | none =>
        rw [hw] at hwi
        have hvg : v = goneV := by
          have := (hat .nil).symm.trans (hwi (ranges_has hrg way_keyed hlk) .nil)
          injection this
        subst hvg
        unfold goneV at hen1
        have hta := assert_gone w1
        unfold zeroLine at hta
        have hb : ∀ k, F.has k → w1.heap[k]? = wr.heap[k]? := fun k hk => hgr1.block k (by have := HM.out.in_heap k hk; have := HON.out.size; omega) fun e => by
          have := HM.out.in_heap k hk
          injection e with e
          omega
        have hm1 := HME.out.same hb
        have ho1 : Only F.has w w1 := HON.out.grown hgr1 fun k hk => .inr (by injection hk with hk; omega)
        have HM1 := Lib.hid hm1
        have HO1 := Lib.hid ho1
        clear hm1 ho1 hb
        go_wp2_with fail
        have hnr : strike left i = fun z => left z && !z.sameKey (Lit.int .i64 (i : Int)) := rfl
        refine ⟨⟨strike left i, cnt1, D', by rw [hnr]; exact hrg1.alloc _, by rw [way_strike_none hw]; exact HW.out, ?_, ?_⟩, ?_⟩
        · rw [way_strike_none hw, lasts_strike_none hw]
          exact HM1.out.below ((Below.refl _ _).alloc (Nat.le_refl _) _)
        · exact HO1.out.alloc _
        · rw [(hrg1.alloc _).left_eq, hrg.left_eq]; exact hlt1
      | some g =>
        rw [hw] at hwi
        have hvg : v = boxV g := by
          have := (hat .nil).symm.trans (hwi.2 .nil)
          injection this
        subst hvg
        unfold boxV lineV at hen1
        have hta := assert_line (lineV g) w1
        unfold lineV at hta
        have hb : ∀ k, F.has k → w1.heap[k]? = wr.heap[k]? := fun k hk => hgr1.block k (by have := HM.out.in_heap k hk; have := HON.out.size; omega) fun e => by
          have := HM.out.in_heap k hk
          injection e with e
          omega
        have hm1 := HME.out.same hb
        have ho1 : Only F.has w w1 := HON.out.grown hgr1 fun k hk => .inr (by injection hk with hk; omega)
        have hl8 : line8 g = [.int .u64 (g 0), .int .u64 (g 1), .int .u64 (g 2), .int .u64 (g 3), .int .u64 (g 4), .int .u64 (g 5), .int .u64 (g 6), .int .u64 (g 7)] := rfl
        obtain ⟨W, hW⟩ : ∃ W, w1.alloc (.cells #[.int .u64 (g 0), .int .u64 (g 1), .int .u64 (g 2), .int .u64 (g 3), .int .u64 (g 4), .int .u64 (g 5), .int .u64 (g 6), .int .u64 (g 7)] 78) = W := ⟨_, rfl⟩
        have hal : Below w1.heap.size w1 W := by rw [← hW]; exact (Below.refl _ _).alloc (Nat.le_refl _) _
        have hblk : W.heap[wr.heap.size]? = some (.cells #[.int .u64 (g 0), .int .u64 (g 1), .int .u64 (g 2), .int .u64 (g 3), .int .u64 (g 4), .int .u64 (g 5), .int .u64 (g 6), .int .u64 (g 7)] 78 (0, 0)) := by
          rw [← hW, ← hsz1]; exact heap_alloc_new w1 _
        have lc : ∀ j, W.cell? ⟨wr.heap.size, j, .none⟩ = (line8 g)[j]? := fun j => by rw [cell_of_row W _ j _ _ (0, 0) hblk]; rw [hl8]; simp
        have l0 := lc 0
        have l1 := lc 1
        have l2 := lc 2
        have l3 := lc 3
        have l4 := lc 4
        have l5 := lc 5
        have l6 := lc 6
        have l7 := lc 7
        rw [hl8] at l0 l1 l2 l3 l4 l5 l6 l7
        simp only [List.getElem?_cons_zero, List.getElem?_cons_succ] at l0 l1 l2 l3 l4 l5 l6 l7
        have hm2 := hm1.below hal
        have hrg2 : W.ranges Try.prog 3 heldR F.y w.heap.size M.cnt D' (strike left i) cnt1 := by rw [← hW]; exact hrg1.alloc _
        have ho2 : Only F.has w W := by rw [← hW]; exact ho1.alloc _
        obtain ⟨csw, clw, cew, _, hclw, _, g1, g2, _⟩ := hm2.cells
        have lcell : ∀ j, j < 8 → W.cell? ⟨F.l, i * 8 + j, .none⟩ = some (.int .u64 (lastsL M left (i * 8 + j))) := fun j hj => hm2.lasts.cell (i * 8 + j) (by show i * 8 + j < M.n * 8; omega)
        have k0 : W.cell? ⟨F.l, i * 8, .none⟩ = some (.int .u64 (lastsL M left (i * 8 + 0))) := lcell 0 (by omega)
        have k1 := lcell 1 (by omega)
        have k2 := lcell 2 (by omega)
        have k3 := lcell 3 (by omega)
        have k4 := lcell 4 (by omega)
        have k5 := lcell 5 (by omega)
        have k6 := lcell 6 (by omega)
        have k7 := lcell 7 (by omega)
        have z0 : W.frozen? ⟨F.l, i * 8, .none⟩ = false := hm2.lasts.frozen (i * 8)
        have z1 := hm2.lasts.frozen (i * 8 + 1)
        have z2 := hm2.lasts.frozen (i * 8 + 2)
        have z3 := hm2.lasts.frozen (i * 8 + 3)
        have z4 := hm2.lasts.frozen (i * 8 + 4)
        have z5 := hm2.lasts.frozen (i * 8 + 5)
        have z6 := hm2.lasts.frozen (i * 8 + 6)
        have z7 := hm2.lasts.frozen (i * 8 + 7)
        obtain ⟨m0, r0⟩ : ∃ x, lastsL M left (i * 8 + 0) = x := ⟨_, rfl⟩
        obtain ⟨m1, r1⟩ : ∃ x, lastsL M left (i * 8 + 1) = x := ⟨_, rfl⟩
        obtain ⟨m2, r2⟩ : ∃ x, lastsL M left (i * 8 + 2) = x := ⟨_, rfl⟩
        obtain ⟨m3, r3⟩ : ∃ x, lastsL M left (i * 8 + 3) = x := ⟨_, rfl⟩
        obtain ⟨m4, r4⟩ : ∃ x, lastsL M left (i * 8 + 4) = x := ⟨_, rfl⟩
        obtain ⟨m5, r5⟩ : ∃ x, lastsL M left (i * 8 + 5) = x := ⟨_, rfl⟩
        obtain ⟨m6, r6⟩ : ∃ x, lastsL M left (i * 8 + 6) = x := ⟨_, rfl⟩
        obtain ⟨m7, r7⟩ : ∃ x, lastsL M left (i * 8 + 7) = x := ⟨_, rfl⟩
        rw [r0] at k0
        rw [r1] at k1
        rw [r2] at k2
        rw [r3] at k3
        rw [r4] at k4
        rw [r5] at k5
        rw [r6] at k6
        rw [r7] at k7
        clear r0 r1 r2 r3 r4 r5 r6 r7 lcell
        have HM2 := Lib.hid hm2
        have HRG2 := Lib.hid hrg2
        have HO2 := Lib.hid ho2
        have HHA : Hid (Maps.has D' (Lit.int .i64 (i : Int)) = true) := Lib.hid hwi.1
        have HWI := Lib.hid hw
        have HRL := Lib.hid hrg.left_eq
        clear hm1 ho1 hb lc hblk hm2 ho2 hrg2 hal hwi hrg hrg1 hat hv hgr1 hwl hw HME
        go_wp2_with fail
        go_region
        obtain ⟨V, hV⟩ : ∃ V, W.setCells F.l (i * 8) (line8 g) = V := ⟨_, rfl⟩
        have hm3 := HM2.out.setLine i g
        have ho3 := HO2.out.setLine (b := F.l) (.inr (.inr (.inl rfl))) (i * 8) g
        have hgr3 : W.grownBy V (some F.l) := by rw [← hV]; exact grown_setLine W F.l (i * 8) g
        have hkinds := HM2.out.kinds
        have hrg3 : V.ranges Try.prog 3 heldR F.y w.heap.size M.cnt D' (strike left i) cnt1 := HRG2.out.kept hgr3 (fun e => hkinds.2.2.2.2.1 (by injection e)) (fun e => by
          injection e with e
          have := HM.out.in_heap F.l (.inr (.inr (.inl rfl)))
          omega)
        rw [hV] at hm3 ho3
        rw [setLine_eq] at hV
        rw [hV]
        have hrg4 : V.drew.ranges Try.prog 3 heldR F.y w.heap.size M.cnt D' (strike left i) cnt1 := hrg3
        obtain ⟨V4, hrun, hrg5, hgr5, hsz5⟩ := ranges_put (t := 73) (e := 20) (val := goneV) hrg4 way_keyed Try.underlying73 (by unfold maxLen; omega) hkey HHA.out rfl
        have hm4 := hm3.drew.setWay (HW.out.gone i hin) hrg5.owns hgr5
        have ho4 : Only F.has w V4 := (ho3.drewN 1).grown hgr5 fun k hk => .inl (by cases hk; exact .inr (.inr (.inr (.inl rfl))))
        unfold goneV at hrun
        obtain ⟨csv, clv, cev, _, hclv, _, _, v2, _⟩ := hm3.cells
        have HM4 := Lib.hid hm4
        have HO4 := Lib.hid ho4
        have HRG5 := Lib.hid hrg5
        clear hm3 ho3 hgr3 hkinds hrg3 hV hrg4 hrg5 hgr5 hsz5 hm4 ho4 l0 l1 l2 l3 l4 l5 l6 l7 k0 k1 k2 k3 k4 k5 k6 k7 z0 z1 z2 z3 z4 z5 z6 z7 g1 g2
        go_wp2_with fail
        refine ⟨⟨strike left i, cnt1, D'.put (.int .i64 (i : Nat)) (.held goneV), HRG5.out, ?_, ?_, HO4.out⟩, ?_⟩
        · rw [way_strike]
          exact HW.out.gone i hin
        · rw [way_strike, lasts_strike HWI.out]
          exact HM4.out
        · rw [HRG5.out.left_eq, HRL.out]
          exact hlt1
end Go.Proofs.Ytbflennacniacaa
