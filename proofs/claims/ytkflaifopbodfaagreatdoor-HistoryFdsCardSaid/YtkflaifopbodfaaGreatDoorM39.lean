/- Parts of the proof, side by side: HistOver, HistPast, AllowsC, Allows1. -/
import Derived.Test.YtkflaifopbodfaaGreatDoorM34
import Derived.Test.YtkflaifopbodfaaGreatDoorShOf
import Derived.Maps.Own
import Derived.Maps.Views
import Derived.Test.YtkflaifopbodfaaGreatDoorM13
import Derived.Test.YtkflaifopbodfaaGreatDoorM09
set_option linter.unusedVariables false
set_option linter.unusedSimpArgs false
namespace Go.Proofs.YtkflaifopbodfaaGreatDoor
open Go.RowKit
def SeAt (w : World) (p : Nat) (B : Option Addr) (n cap : Nat) (fm : Nat) (lb : ByteArray) : Prop := w.heap[p]? = some (.cells #[.slice B n cap, .map (some fm), .string lb] 59 (0, 0))
theorem SeAt.get {w : World} {p : Nat} {B : Option Addr} {n cap fm : Nat} {lb : ByteArray} (h : SeAt w p B n cap fm lb) : w.cell? ⟨p, 0, none⟩ = some (.slice B n cap) ∧ w.cell? ⟨p, 1, none⟩ = some (.map (some fm)) ∧ w.cell? ⟨p, 2, none⟩ = some (.string lb) := by
 refine ⟨?_, ?_, ?_⟩ <;> (rw [cell_of_row w p _ _ _ (0, 0) h]; rfl)
theorem SeAt.lt {w : World} {p : Nat} {B : Option Addr} {n cap fm : Nat} {lb : ByteArray} (h : SeAt w p B n cap fm lb) : p < w.heap.size := (Array.getElem?_eq_some_iff.1 h).1
theorem SeAt.go {w w' : World} {p : Nat} {B : Option Addr} {n cap fm : Nat} {lb : ByteArray} (h : SeAt w p B n cap fm lb) (hb : Below w.heap.size w w') : SeAt w' p B n cap fm lb := (hb.block p h.lt).trans h
theorem doneL_drop {d q : Nat} {ops : List Op} {o : Op} (h : ops[q]? = some o) : doneL d (ops.drop q) q = ((d.testBit q || decide (o.fin = -1)) && doneL d (ops.drop (q + 1)) (q + 1)) := by
 rw [List.drop_eq_getElem_cons (List.getElem?_eq_some_iff.1 h).1, doneL, (List.getElem?_eq_some_iff.1 h).2]
theorem bit_i64 (d q : Nat) (hd : d < 1024) : bits .and .i64 ((d : Int) / 2 ^ q) 1 = if d.testBit q then 1 else 0 := by
 have e : ((d : Int) / 2 ^ q) = ((d / 2 ^ q : Nat) : Int) := by rw [Int.natCast_ediv, Int.natCast_pow]; rfl
 rw [e, Nat.testBit_eq_decide_div_mod_eq]
 have hm : d / 2 ^ q < 1024 := Nat.lt_of_le_of_lt (Nat.div_le_self _ _) hd
 generalize d / 2 ^ q = m at hm
 have h1 : (BitVec.ofInt 64 (m : Int) &&& BitVec.ofInt 64 (1 : Int)).toNat = m % 2 := by
  rw [BitVec.toNat_and, BitVec.ofInt_natCast, BitVec.toNat_ofNat, Nat.mod_eq_of_lt (by omega), ← Nat.and_one_is_mod]
  rfl
 show IntKind.i64.wrap ((BitVec.ofInt 64 (m : Int) &&& BitVec.ofInt 64 (1 : Int)).toNat : Int) = _
 rw [h1, IntWalk.i64_in _ (by omega)]
 by_cases h : m % 2 = 1
 ·rw [h]; simp
 ·have : m % 2 = 0 := by omega
  rw [this]; simp
set_option maxRecDepth 100000 in
set_option maxHeartbeats 4000000 in
theorem over_any (p : Nat) (v : Value) (s : St) (B : Option Addr) (n cap fm : Nat) (lb : ByteArray) (d : Nat) (ops : List Op) (w : World) (hse : SeAt w p B n cap fm lb) (ho : OpsAt w B n ops) (hs : StAt none w v s) (hm : mayV s = true) (hT : Tab w) (hn9 : n ≤ 10) (hd : d < 1024) :
  Calls Tryz.prog 21 #[.pointer (some ⟨p, 0, none⟩), v, .int .i64 d] w fun e w' => e = .returned (.bool (overV ops lb.data.toList s d)) ∧ Below w.heap.size w w' := by
 obtain ⟨A, n', c', E, m, d', D, k, e, rfl, _⟩ := hs.at_
 obtain ⟨W, hW, a0, a1, a2, hal, hlt0⟩ := box_st w A n' c' E m d' D k e
 have hse' := hse.go hal
 obtain ⟨p0, p1, p2⟩ := hse'.get
 have HSE := Lib.hid hse'
 have HS := Lib.hid (hs.below hal)
 have HO := Lib.hid (ho.below hal)
 have HT := Lib.hid (hT.below hal)
 have HB0 := Lib.hid hal
 have HL := Lib.hid ho.1
 have HM := Lib.hid hm
 have hlp := hse'.lt
 clear hse hse' ho hs hm hT hal
 obtain ⟨R, hR⟩ : ∃ R, doneL d ops 0 = R := ⟨_, rfl⟩
 have hov : overV ops lb.data.toList s d = (R && (decide (lb.data.toList = []) || decide (ofL s = lb.data.toList))) := by rw [← hR]; rfl
 rw [hov]
 have HR := Lib.hid hR
 clear hR hov
 go_enter Tryz.func21, Tryz.ntmps21
 go_wp2_with fail
 go_loopw [16] (fun j wr => ∃ q : Nat, j = .int .i64 q ∧ q ≤ n ∧ doneL d (ops.drop q) q = R ∧ Below W.heap.size W wr) (fun j _ => n - (intOf j).toNat)
 case atStart => exact ⟨0, rfl, by omega, HR.out, Below.refl _ _⟩
 case round =>
  obtain ⟨q, rfl, hq, hrest, hb⟩ := hrel
  have HREST := Lib.hid hrest
  have HB := Lib.hid hb
  clear hrest
  have x0 := (hb.cell (p := ⟨p, 0, none⟩) hlp).trans p0
  have x1 := (hb.cell (p := ⟨p, 1, none⟩) hlp).trans p1
  have x2 := (hb.cell (p := ⟨p, 2, none⟩) hlp).trans p2
  by_cases hlt : q < n
  ·obtain ⟨g, off, o, rfl, hg, hoq, hat⟩ := (HO.out.below hb).get q hlt
   obtain ⟨F, f, f9, hok, hnm, hoo, hg2, c0, c1, c2, c3, c4, c5, c6, c7, c8, c9, c10, c11, c12, c13, c14, c15⟩ := hat.get
   have HOQ := Lib.hid hoq
   have q0 : (0 : Int) ≤ (q : Int) := by omega
   have q1 : (q : Int) < (n : Int) := by omega
   have q2 : (q : Int).toNat = q := by omega
   have hst := doneL_drop (d := d) hoq
   rw [HREST.out] at hst
   have HST := Lib.hid hst
   clear hb hoq hat hok hnm hoo hst
   have hbit := bit_i64 d q hd
   have HB2 := Lib.hid (HB.out.alloc (HB.out.size) (.cells #[.int .i64 o.call.kind, .int .i64 o.call.core, .int .i64 o.call.fd, .int .i64 o.call.off, .int .i64 o.call.num, .string o.call.path, .string o.call.path2, .string o.call.data, .int .i64 o.res.code, .int .i64 o.res.fd, .int .i64 o.res.num, .bool o.res.dir, .string o.res.data, .slice F f f9, .int .i64 o.beg, .int .i64 o.fin] 37))
   cases htb : d.testBit q
   ·rw [htb] at hbit
    have hbit0 : bits .and .i64 ((d : Int) / 2 ^ q) 1 = 0 := by rw [hbit]; rfl
    have HTB := Lib.hid htb
    clear htb hbit
    by_cases h6 : o.fin = -1
    ·have h6' : (o.fin != -1) = false := by rw [bne_eq_false_iff_eq]; exact h6
     have H6 := Lib.hid h6
     clear h6
     go_wp2_with fail
     go_roundw
     case rel => exact ⟨q + 1, by go_num, by omega, by have h9 := HST.out; rw [HTB.out, decide_eq_true H6.out] at h9; simpa using h9.symm, HB2.out⟩
     case measure => simp [intOf]; omega
    ·have h6' : (o.fin != -1) = true := by rw [bne_iff_ne]; exact h6
     have hr0 : R = false := by rw [HST.out, HTB.out, decide_eq_false h6]; rfl
     subst hr0
     clear h6
     go_wp2_with fail
     go_ret
     exact ⟨rfl, Cv.next HB0.out HB2.out⟩
   ·rw [htb] at hbit
    have hbit0 : ¬ bits .and .i64 ((d : Int) / 2 ^ q) 1 = 0 := by rw [hbit]; decide
    have HTB := Lib.hid htb
    clear htb hbit
    go_wp2_with fail
    go_roundw
    case rel => exact ⟨q + 1, by go_num, by omega, by have h9 := HST.out; rw [HTB.out] at h9; simpa using h9.symm, HB2.out⟩
    case measure => simp [intOf]; omega
  ·have hqn : q = n := by omega
   have hr0 : R = true := by
    have h9 := HREST.out
    rw [hqn, ← HL.out, List.drop_length] at h9
    exact h9.symm
   subst hr0
   clear hb
   by_cases hlb : lb.data.toList = []
   ·have hlb0 : lb = ⟨#[]⟩ := ByteArray.ext (Array.toList_inj.1 (by rw [hlb]))
    subst hlb0
    clear hlb
    go_wp2_with fail
    go_ret
    exact ⟨rfl, Cv.next HB0.out HB.out⟩
   ·have hlb1 : (lb.toList == []) = false := by rw [ByteArray.toList_eq, beq_eq_false_iff_ne]; exact hlb
    have hlb2 : lb.toList.isEmpty = false := by rw [ByteArray.toList_eq, List.isEmpty_eq_false_iff]; exact hlb
    have HLB := Lib.hid hlb
    clear hlb
    have y0 := (HB.out.cell (p := ⟨w.heap.size, 0, none⟩) hlt0).trans a0
    have y1 := (HB.out.cell (p := ⟨w.heap.size, 1, none⟩) hlt0).trans a1
    have y2 := (HB.out.cell (p := ⟨w.heap.size, 2, none⟩) hlt0).trans a2
    have hlpr := Nat.lt_of_lt_of_le hlp HB.out.size
    go_wp2_with fail
    have h1 := shof_any _ s wr (HS.out.below HB.out) (HT.out.below HB.out)
    obtain ⟨XS, hXS⟩ : ∃ X, txt (ofO s) = X := ⟨_, rfl⟩
    rw [hXS, show codeO s = 0 by unfold codeO; rw [if_pos HM.out]] at h1
    have HXS := Lib.hid hXS
    clear hXS
    refine h1.mono ?_
    clear h1
    rintro e w6 ⟨rfl, hb6⟩
    have z2 := (hb6.cell (p := ⟨p, 2, none⟩) hlpr).trans x2
    have HB6 := Lib.hid (Cv.next (Cv.next HB0.out HB.out) hb6)
    clear hb6 x0 x1 x2 y0 y1 y2
    go_wp2_with fail
    go_ret
    refine ⟨?_, HB6.out⟩
    have e1 : XS.toList = ofL s := by rw [← HXS.out, ByteArray.toList_eq, txt_listSh]; unfold ofO; rw [if_pos HM.out]
    have e2 : (true && (decide (lb.data.toList = []) || decide (ofL s = lb.data.toList))) = (XS.toList == lb.toList) := by
     rw [e1, ByteArray.toList_eq, decide_eq_false HLB.out, Bool.true_and, Bool.false_or]
     by_cases h : ofL s = lb.data.toList <;> simp [h]
    rw [e2]
    rfl
end Go.Proofs.YtkflaifopbodfaaGreatDoor
namespace Go.Proofs.YtkflaifopbodfaaGreatDoor
open Go.RowKit Go.Maps
structure Past (w w' : World) : Prop where
 size : w.heap.size ≤ w'.heap.size
 row : ∀ (b : Nat) (c : Array Value) (t : TypeId) (z : Nat × Nat), w.heap[b]? = some (.cells c t z) → w'.heap[b]? = some (.cells c t z)
theorem Past.refl (w : World) : Past w w := ⟨Nat.le_refl _, fun _ _ _ _ h => h⟩
theorem Past.trans {a b c : World} (h : Past a b) (k : Past b c) : Past a c := ⟨Nat.le_trans h.size k.size, fun _ _ _ _ e => k.row _ _ _ _ (h.row _ _ _ _ e)⟩
theorem Past.of_below {w w' : World} (h : Below w.heap.size w w') : Past w w' := ⟨h.size, fun b c t z e => (h.block b (Array.getElem?_eq_some_iff.1 e).1).trans e⟩
theorem Past.of_map {w w' : World} {fm : Nat} (hg : w.grownBy w' (some fm)) {es : Array MapEntry} {k : Nat} (hm : w.heap[fm]? = some (.map es k)) : Past w w' :=
 ⟨hg.size, fun b c t z e => (hg.block b (Array.getElem?_eq_some_iff.1 e).1 (fun h => by injection h with h; subst h; rw [hm] at e; cases e)).trans e⟩
theorem Past.cell {w w' : World} (h : Past w w') {a : Addr} {v : Value} (hc : w.cell? a = some v) : w'.cell? a = some v := by
 unfold World.cell? at hc ⊢
 cases hb : w.heap[a.block]? with
 | none => rw [hb] at hc; cases hc
 | some o =>
  rw [hb] at hc
  cases o with
  | cells c t z => rw [h.row _ _ _ _ hb]; exact hc
  | _ => cases hc
theorem EntsAt.past {w w' : World} {A : Option Addr} {n : Nat} {es : List En} (h : EntsAt none w A n es) (hb : Past w w') : EntsAt none w' A n es :=
 ⟨h.1, fun hn => by
  obtain ⟨g, off, hA, hg, hm, hc⟩ := h.2 hn
  exact ⟨g, off, hA, Nat.lt_of_lt_of_le hg hb.size, Mine.any _ _ _, fun j e he => ⟨hb.cell (hc j e he).1, hb.cell (hc j e he).2⟩⟩⟩
theorem StAt.past {w w' : World} {v : Value} {s : St} (h : StAt none w v s) (hb : Past w w') : StAt none w' v s := by
 obtain ⟨⟨A, n, c, B, m, d, D, k, e, h1, h2, h3, h4, h5, h6, h7⟩, hz⟩ := h
 refine ⟨⟨A, n, c, B, m, d, D, k, e, h1, ⟨h2.1, fun hn => ?_⟩, ⟨h3.1, fun hn => ?_⟩, ⟨h4.1, fun hn => ?_⟩, h5, h6, h7⟩, hz⟩
 ·obtain ⟨g, off, hA, hg, hm, hc⟩ := h2.2 hn
  refine ⟨g, off, hA, Nat.lt_of_lt_of_le hg hb.size, Mine.any _ _ _, fun j x hx => ?_⟩
  obtain ⟨a1, a2, ⟨B2, m2, c2, a3, a4, a5⟩, a6⟩ := hc j x hx
  exact ⟨hb.cell a1, hb.cell a2, ⟨B2, m2, c2, hb.cell a3, a4, a5.past hb⟩, hb.cell a6⟩
 ·obtain ⟨g, off, hA, hg, hm, hc⟩ := h3.2 hn
  exact ⟨g, off, hA, Nat.lt_of_lt_of_le hg hb.size, Mine.any _ _ _, fun j x hx => ⟨hb.cell (hc j x hx).1, hb.cell (hc j x hx).2.1, hb.cell (hc j x hx).2.2⟩⟩
 ·obtain ⟨g, off, hA, hg, hm, hc⟩ := h4.2 hn
  exact ⟨g, off, hA, Nat.lt_of_lt_of_le hg hb.size, Mine.any _ _ _, fun j x hx => hb.cell (hc j x hx)⟩
theorem NmsAt.past {w w' : World} {A : Option Addr} {n : Nat} {ns : List ByteArray} (h : NmsAt none w A n ns) (hb : Past w w') : NmsAt none w' A n ns :=
 ⟨h.1, fun hn => by
  obtain ⟨g, off, hA, hg, hm, hc⟩ := h.2 hn
  exact ⟨g, off, hA, Nat.lt_of_lt_of_le hg hb.size, Mine.any _ _ _, fun j x hx => hb.cell (hc j x hx)⟩⟩
theorem OpsAt.past {w w' : World} {A : Option Addr} {n : Nat} {ops : List Op} (h : OpsAt w A n ops) (hb : Past w w') : OpsAt w' A n ops :=
 ⟨h.1, fun hn => by
  obtain ⟨g, off, hA, hg, hc⟩ := h.2 hn
  refine ⟨g, off, hA, Nat.lt_of_lt_of_le hg hb.size, fun q o hq => ?_⟩
  obtain ⟨F, f, f9, h1, h2, h3, h4, h5⟩ := hc q o hq
  exact ⟨F, f, f9, h1, h2.past hb, h3, Nat.lt_of_lt_of_le h4 hb.size, fun j x hx => hb.cell (h5 j x hx)⟩⟩
theorem SeAt.past {w w' : World} {p : Nat} {B : Option Addr} {n cap fm : Nat} {lb : ByteArray} (h : SeAt w p B n cap fm lb) (hb : Past w w') : SeAt w' p B n cap fm lb := hb.row _ _ _ _ h
theorem Tab.past {w w' : World} (h : Tab w) (hb : Past w w') : Tab w' := by
 unfold Tab Lib.TabIs World.var? at h ⊢
 cases hg : Tryz.prog.globalNamed "internal/strconv.uint64pow10" with
 | none => rw [hg] at h; cases h
 | some g =>
  simp only [hg, Option.bind_some] at h ⊢
  cases hb' : w.heap[g]? with
  | none => simp [hb'] at h
  | some o =>
   rw [hb'] at h
   cases o with
   | cells c t z => rw [hb.row _ _ _ _ hb']; exact h
   | _ => simp at h
def VainAt (w : World) (fm m : Nat) (ops : List Op) (last : List UInt8) : Prop :=
 ∃ D : DataW Unit, IsMap D ∧ w.ownsMap Tryz.prog 9 (plainElem Tryz.prog 4) fm m D ∧ Vain ops last (fun l => D.atKey (.string l) (.lit (.bool false)) = .lit (.bool true))
theorem VainAt.lt {w : World} {fm m : Nat} {ops : List Op} {last : List UInt8} (h : VainAt w fm m ops last) : fm < w.heap.size := by
 obtain ⟨D, _, h, _⟩ := h
 exact h.lt
theorem VainAt.mono {w : World} {fm m m' : Nat} {ops : List Op} {last : List UInt8} (h : VainAt w fm m ops last) (hm : m ≤ m') : VainAt w fm m' ops last := by
 obtain ⟨D, h0, h1, h2⟩ := h
 exact ⟨D, h0, h1.mono hm, h2⟩
theorem VainAt.below {w w' : World} {fm m : Nat} {ops : List Op} {last : List UInt8} (h : VainAt w fm m ops last) (hb : Below w.heap.size w w') : VainAt w' fm m ops last := by
 obtain ⟨D, h0, h1, h2⟩ := h
 exact ⟨D, h0, h1.kept (row := none) ⟨hb.os, hb.tape, hb.output, hb.size, fun i hi _ => hb.block i hi⟩ (by simp), h2⟩
theorem VainAt.made (w : World) (ops : List Op) (last : List UInt8) : VainAt (w.alloc (.map #[] 0)) w.heap.size 0 ops last :=
 ⟨_, isMap_empty, World.ownsMap_made _ _ _ _, fun l h => by
  have h0 : DataW.lit (Lit.bool false) = (DataW.lit (Lit.bool true) : DataW Unit) := h
  injection h0 with h1
  injection h1 with h2
  cases h2⟩
theorem zero_bool (w : World) : (zeroValue 4).run Tryz.prog w = .ok (.bool false) w := by kernel_rfl
set_option maxRecDepth 100000 in
theorem plainElem_bool_inv {v : Value} {d : DataW Unit} {ps : List MemPlace} (h : plainElem Tryz.prog 4 v = some (d, ps)) : ∃ b, v = .bool b ∧ d = .lit (.bool b) := by
 unfold plainElem at h
 rw [Tryz.underlying4] at h
 cases v <;> simp at h
 exact ⟨_, rfl, h.1.symm⟩
theorem VainAt.look {w : World} {fm m : Nat} {ops : List Op} {last : List UInt8} (h : VainAt w fm m ops last) (K : ByteArray) (hK : K.size ≤ 140737488355328) {s : St} {d : Nat} (hs : Good s) (hd : d < 2 ^ ops.length) (hn : ops.length ≤ 10) (hk : K.data.toList = keyL s d) :
  ∃ b, (Instr.lookup 57 (.map (some fm)) (.string K) false).run Tryz.prog w = .ok (.bool b) w ∧ (b = true → rowD ops last s d = false) := by
 obtain ⟨D, h0, h1, h2⟩ := h
 obtain ⟨v, ps, hrun, hv⟩ := h1.lookup (string_keyed Tryz.underlying9) Tryz.underlying57 (zero_bool w) (plainElem_bool Tryz.underlying4 false) (WideMaps.keyOf_string_mk Tryz.underlying9 (s := K) (by unfold maxLen; omega))
 obtain ⟨b, rfl, hb⟩ := plainElem_bool_inv hv
 refine ⟨b, hrun, fun e => ?_⟩
 subst e
 rw [hk] at hb
 exact h2.no hs hd hn hb
theorem Vain.put {ops : List Op} {last : List UInt8} {D : DataW Unit} (h0 : IsMap D) (h2 : Vain ops last (fun l => D.atKey (.string l) (.lit (.bool false)) = .lit (.bool true))) {s : St} {d : Nat} (hs : Good s) (hd : d < 2 ^ ops.length) (hr : rowD ops last s d = false) :
  Vain ops last (fun l => (D.put (.string (keyL s d)) (.lit (.bool true))).atKey (.string l) (.lit (.bool false)) = .lit (.bool true)) := by
 intro l hl
 by_cases e : l = keyL s d
 ·exact ⟨s, d, hs, hd, e, hr⟩
 ·refine h2 l ?_
  rw [← hl]
  exact (atKey_put_other (fun e2 => e (by injection e2)) _ _).symm
end Go.Proofs.YtkflaifopbodfaaGreatDoor
namespace Go.Proofs.YtkflaifopbodfaaGreatDoor
open Go.RowKit
theorem allow1_any (g1 g2 : Nat) (CO FD a b k : Int) (w : World) (h1 : w.cell? ⟨g1, 1, .none⟩ = some (.int .i64 CO)) (h2 : w.cell? ⟨g2, 1, .none⟩ = some (.int .i64 FD)) (l1 : g1 < w.heap.size) (l2 : g2 < w.heap.size) :
  Calls Tryz.prog 80 #[.agg #[.int .i64 a, .int .i64 b, .int .i64 k], .pointer (some ⟨g1, 0, .none⟩), .pointer (some ⟨g2, 0, .none⟩)] w fun e w' => e = .returned (.bool (a == CO && b == FD)) ∧ Below w.heap.size w w' := by
 obtain ⟨V2, hV2, v0, v1, v2, hal4, hlt4⟩ := box_ds w a b k
 have z1 := (hal4.cell (p := ⟨g1, 1, .none⟩) l1).trans h1
 have z2 := (hal4.cell (p := ⟨g2, 1, .none⟩) l2).trans h2
 have HAL := Lib.hid hal4
 clear hal4
 obtain ⟨X, hX⟩ : ∃ X, (a == CO) = X := ⟨_, rfl⟩
 obtain ⟨Y, hY⟩ : ∃ Y, (b == FD) = Y := ⟨_, rfl⟩
 rw [hX, hY]
 go_enter Tryz.func80, Tryz.ntmps80
 cases X
 ·go_wp2_with fail
  go_ret
  exact ⟨by first | rfl | simp, HAL.out⟩
 ·go_wp2_with fail
  go_ret
  exact ⟨by first | rfl | simp, HAL.out⟩
set_option maxRecDepth 100000 in
set_option maxHeartbeats 4000000 in
theorem indexallow1_any (g1 g2 : Nat) (CO FD : Int) (xs : List Ds) (A : Option Addr) (n cp : Nat) (w : World) (hI : DescsAt none w A n xs) (hn : n ≤ 1099511627776) (h1 : w.cell? ⟨g1, 1, .none⟩ = some (.int .i64 CO)) (h2 : w.cell? ⟨g2, 1, .none⟩ = some (.int .i64 FD)) (l1 : g1 < w.heap.size) (l2 : g2 < w.heap.size) :
  Calls Tryz.prog 81 #[.slice A n cp, .func (.func 80) #[] #[.pointer (some ⟨g1, 0, .none⟩), .pointer (some ⟨g2, 0, .none⟩)]] w fun e w' => e = .returned (.int .i64 (fdI xs CO FD)) ∧ Below w.heap.size w w' := by
 obtain ⟨R, hR⟩ : ∃ R, fdP xs CO FD = R := ⟨_, rfl⟩
 unfold fdI
 rw [hR]
 have HI := Lib.hid hI
 have HR := Lib.hid hR
 clear hI hR
 go_enter Tryz.func81, Tryz.ntmps81
 go_wp2_with fail
 go_loopw [8] (fun j wr => ∃ r : Nat, j = .int .i64 r ∧ r ≤ n ∧ Below w.heap.size w wr ∧ (fdP (xs.drop r) CO FD).map (· + r) = R) (fun j _ => n - (intOf j).toNat)
 case atStart => exact ⟨0, rfl, by omega, Below.refl _ _, by rw [List.drop_zero, HR.out]; cases R <;> rfl⟩
 case round =>
  obtain ⟨r, rfl, hq, hbel, hc⟩ := hrel
  have HB := Lib.hid hbel
  have HIr := Lib.hid (HI.out.below hbel)
  have z1 := (hbel.cell (p := ⟨g1, 1, .none⟩) l1).trans h1
  have z2 := (hbel.cell (p := ⟨g2, 1, .none⟩) l2).trans h2
  have m1 : g1 < wr.heap.size := Nat.lt_of_lt_of_le l1 hbel.size
  have m2 : g2 < wr.heap.size := Nat.lt_of_lt_of_le l2 hbel.size
  clear hbel
  by_cases hlt : r < n
  ·obtain ⟨g, off, y, rfl, hg, hy, hd, hmem, e0, e1, e2⟩ := HIr.out.get r hlt
   rw [fdP_drop xs _ _ r y hd] at hc
   have HC := Lib.hid hc
   have k0 : (0 : Int) ≤ (r : Int) := by omega
   clear hc hd hmem hy
   go_wp2_with fail
   refine (allow1_any g1 g2 CO FD y.core y.fd y.num _ z1 z2 m1 m2).mono ?_
   rintro e5 w5 ⟨rfl, hb5⟩
   have HB5 := Lib.hid (HB.out.trans (hb5.mono HB.out.size))
   clear hb5 e0 e1 e2
   obtain ⟨bb, hbb⟩ : ∃ bb, (y.core == CO && y.fd == FD) = bb := ⟨_, rfl⟩
   rw [hbb]
   have hc := HC.out
   cases bb
   ·have hnx : ¬ (y.core = CO ∧ y.fd = FD) := fun h => by rw [h.1, h.2] at hbb; simp at hbb
    rw [if_neg hnx] at hc
    have HC2 := Lib.hid hc
    clear hc hbb hnx
    go_wp2_with fail
    go_roundw
    case rel => exact ⟨r + 1, by go_num, by omega, HB5.out, by
     rw [← HC2.out]
     cases fdP (xs.drop (r + 1)) CO FD
     ·rfl
     ·simp; omega⟩
    case measure => simp [intOf]; omega
   ·have hnx : y.core = CO ∧ y.fd = FD := by simpa using hbb
    rw [if_pos hnx] at hc
    have HC2 := Lib.hid hc
    clear hc hbb hnx
    go_wp2_with fail
    go_ret
    have h := HC2.out
    simp at h
    subst h
    exact ⟨rfl, HB5.out⟩
  ·have hnil : xs.drop r = [] := List.drop_eq_nil_of_le (by have := HI.out.1; omega)
   rw [hnil, fdP] at hc
   have HC := Lib.hid hc
   clear hc hnil
   go_wp2_with fail
   go_ret
   exact ⟨by rw [← HC.out]; rfl, HB.out⟩
theorem allow2_any (g1 g2 : Nat) (CO FD a b k : Int) (w : World) (h1 : w.cell? ⟨g1, 1, .none⟩ = some (.int .i64 CO)) (h2 : w.cell? ⟨g2, 1, .none⟩ = some (.int .i64 FD)) (l1 : g1 < w.heap.size) (l2 : g2 < w.heap.size) :
  Calls Tryz.prog 82 #[.agg #[.int .i64 a, .int .i64 b, .int .i64 k], .pointer (some ⟨g1, 0, .none⟩), .pointer (some ⟨g2, 0, .none⟩)] w fun e w' => e = .returned (.bool (a == CO && b == FD)) ∧ Below w.heap.size w w' := by
 obtain ⟨V2, hV2, v0, v1, v2, hal4, hlt4⟩ := box_ds w a b k
 have z1 := (hal4.cell (p := ⟨g1, 1, .none⟩) l1).trans h1
 have z2 := (hal4.cell (p := ⟨g2, 1, .none⟩) l2).trans h2
 have HAL := Lib.hid hal4
 clear hal4
 obtain ⟨X, hX⟩ : ∃ X, (a == CO) = X := ⟨_, rfl⟩
 obtain ⟨Y, hY⟩ : ∃ Y, (b == FD) = Y := ⟨_, rfl⟩
 rw [hX, hY]
 go_enter Tryz.func82, Tryz.ntmps82
 cases X
 ·go_wp2_with fail
  go_ret
  exact ⟨by first | rfl | simp, HAL.out⟩
 ·go_wp2_with fail
  go_ret
  exact ⟨by first | rfl | simp, HAL.out⟩
set_option maxRecDepth 100000 in
set_option maxHeartbeats 4000000 in
theorem indexallow2_any (g1 g2 : Nat) (CO FD : Int) (xs : List Ds) (A : Option Addr) (n cp : Nat) (w : World) (hI : DescsAt none w A n xs) (hn : n ≤ 1099511627776) (h1 : w.cell? ⟨g1, 1, .none⟩ = some (.int .i64 CO)) (h2 : w.cell? ⟨g2, 1, .none⟩ = some (.int .i64 FD)) (l1 : g1 < w.heap.size) (l2 : g2 < w.heap.size) :
  Calls Tryz.prog 81 #[.slice A n cp, .func (.func 82) #[] #[.pointer (some ⟨g1, 0, .none⟩), .pointer (some ⟨g2, 0, .none⟩)]] w fun e w' => e = .returned (.int .i64 (fdI xs CO FD)) ∧ Below w.heap.size w w' := by
 obtain ⟨R, hR⟩ : ∃ R, fdP xs CO FD = R := ⟨_, rfl⟩
 unfold fdI
 rw [hR]
 have HI := Lib.hid hI
 have HR := Lib.hid hR
 clear hI hR
 go_enter Tryz.func81, Tryz.ntmps81
 go_wp2_with fail
 go_loopw [8] (fun j wr => ∃ r : Nat, j = .int .i64 r ∧ r ≤ n ∧ Below w.heap.size w wr ∧ (fdP (xs.drop r) CO FD).map (· + r) = R) (fun j _ => n - (intOf j).toNat)
 case atStart => exact ⟨0, rfl, by omega, Below.refl _ _, by rw [List.drop_zero, HR.out]; cases R <;> rfl⟩
 case round =>
  obtain ⟨r, rfl, hq, hbel, hc⟩ := hrel
  have HB := Lib.hid hbel
  have HIr := Lib.hid (HI.out.below hbel)
  have z1 := (hbel.cell (p := ⟨g1, 1, .none⟩) l1).trans h1
  have z2 := (hbel.cell (p := ⟨g2, 1, .none⟩) l2).trans h2
  have m1 : g1 < wr.heap.size := Nat.lt_of_lt_of_le l1 hbel.size
  have m2 : g2 < wr.heap.size := Nat.lt_of_lt_of_le l2 hbel.size
  clear hbel
  by_cases hlt : r < n
  ·obtain ⟨g, off, y, rfl, hg, hy, hd, hmem, e0, e1, e2⟩ := HIr.out.get r hlt
   rw [fdP_drop xs _ _ r y hd] at hc
   have HC := Lib.hid hc
   have k0 : (0 : Int) ≤ (r : Int) := by omega
   clear hc hd hmem hy
   go_wp2_with fail
   refine (allow2_any g1 g2 CO FD y.core y.fd y.num _ z1 z2 m1 m2).mono ?_
   rintro e5 w5 ⟨rfl, hb5⟩
   have HB5 := Lib.hid (HB.out.trans (hb5.mono HB.out.size))
   clear hb5 e0 e1 e2
   obtain ⟨bb, hbb⟩ : ∃ bb, (y.core == CO && y.fd == FD) = bb := ⟨_, rfl⟩
   rw [hbb]
   have hc := HC.out
   cases bb
   ·have hnx : ¬ (y.core = CO ∧ y.fd = FD) := fun h => by rw [h.1, h.2] at hbb; simp at hbb
    rw [if_neg hnx] at hc
    have HC2 := Lib.hid hc
    clear hc hbb hnx
    go_wp2_with fail
    go_roundw
    case rel => exact ⟨r + 1, by go_num, by omega, HB5.out, by
     rw [← HC2.out]
     cases fdP (xs.drop (r + 1)) CO FD
     ·rfl
     ·simp; omega⟩
    case measure => simp [intOf]; omega
   ·have hnx : y.core = CO ∧ y.fd = FD := by simpa using hbb
    rw [if_pos hnx] at hc
    have HC2 := Lib.hid hc
    clear hc hbb hnx
    go_wp2_with fail
    go_ret
    have h := HC2.out
    simp at h
    subst h
    exact ⟨rfl, HB5.out⟩
  ·have hnil : xs.drop r = [] := List.drop_eq_nil_of_le (by have := HI.out.1; omega)
   rw [hnil, fdP] at hc
   have HC := Lib.hid hc
   clear hc hnil
   go_wp2_with fail
   go_ret
   exact ⟨by rw [← HC.out]; rfl, HB.out⟩
theorem containsallow_any (g1 g2 : Nat) (CO FD : Int) (xs : List Ds) (A : Option Addr) (n cp : Nat) (w : World) (hI : DescsAt none w A n xs) (hn : n ≤ 1099511627776) (h1 : w.cell? ⟨g1, 1, .none⟩ = some (.int .i64 CO)) (h2 : w.cell? ⟨g2, 1, .none⟩ = some (.int .i64 FD)) (l1 : g1 < w.heap.size) (l2 : g2 < w.heap.size) :
  Calls Tryz.prog 77 #[.slice A n cp, .func (.func 80) #[] #[.pointer (some ⟨g1, 0, .none⟩), .pointer (some ⟨g2, 0, .none⟩)]] w fun e w' => e = .returned (.bool (fdP xs CO FD).isSome) ∧ Below w.heap.size w w' := by
 obtain ⟨R, hR⟩ : ∃ R, (fdP xs CO FD).isSome = R := ⟨_, rfl⟩
 have hd : decide (0 ≤ fdI xs CO FD) = R := by
  rw [← hR]
  unfold fdI
  cases fdP xs CO FD with
  | none => rfl
  | some k => simp
 have hcall := indexallow1_any g1 g2 CO FD xs A n cp w hI hn h1 h2 l1 l2
 obtain ⟨F, hF⟩ : ∃ F, fdI xs CO FD = F := ⟨_, rfl⟩
 rw [hF] at hd hcall
 rw [hR]
 have HC := Lib.hid hcall
 clear hcall hF hR hI
 go_enter Tryz.func77, Tryz.ntmps77
 go_wp2_with fail
 refine HC.out.mono ?_
 rintro e5 w5 ⟨rfl, hb5⟩
 have HB5 := Lib.hid hb5
 clear hb5
 go_wp2_with fail
 go_ret
 exact ⟨Cv.ret_bool (by first | exact hd | rfl | simp), HB5.out⟩
theorem allows_start (A : Option Addr) (n c' : Nat) (E : Option Addr) (m d : Nat) (D : Option Addr) (k e : Nat) (s : St) (c : Ca) (r : Re) (F : Option Addr) (f f' : Nat) (w : World) (h : StAt none w (.agg #[.slice A n c', .slice E m d, .slice D k e]) s) :
  ∃ W W2 W3 W4, w.alloc (.cells #[.slice A n c', .slice E m d, .slice D k e] 27) = W ∧ W.alloc (.cells #[.int .i64 c.kind, .int .i64 c.core, .int .i64 c.fd, .int .i64 c.off, .int .i64 c.num, .string c.path, .string c.path2, .string c.data] 32) = W2 ∧
   W2.alloc (.cells #[.int .i64 r.code, .int .i64 r.fd, .int .i64 r.num, .bool r.dir, .string r.data, .slice F f f'] 35) = W3 ∧ W3.alloc (.cells #[.slice none 0 0, .slice none 0 0, .slice none 0 0] 27) = W4 ∧
   W.heap.size = w.heap.size + 1 ∧ W2.heap.size = w.heap.size + 2 ∧ W3.heap.size = w.heap.size + 3 ∧ W4.heap.size = w.heap.size + 4 ∧
   StAt none W4 (.agg #[.slice A n c', .slice E m d, .slice D k e]) s ∧ OutAt W4 w.heap.size (.slice A n c') (.slice E m d) (.slice D k e) ∧ W4.heap[w.heap.size + 1]? = some (caRow c) ∧
   ResAt W4 (w.heap.size + 2) (.int .i64 r.code) (.int .i64 r.fd) (.int .i64 r.num) (.bool r.dir) (.string r.data) (.slice F f f') ∧ OutAt W4 (w.heap.size + 3) (.slice none 0 0) (.slice none 0 0) (.slice none 0 0) ∧ Below w.heap.size w W4 := by
 obtain ⟨W, hW⟩ : ∃ W, w.alloc (.cells #[.slice A n c', .slice E m d, .slice D k e] 27) = W := ⟨_, rfl⟩
 have l1 : Below w.heap.size w W := by rw [← hW]; exact (Below.refl _ _).alloc (Nat.le_refl _) _
 have o1 : OutAt W w.heap.size (.slice A n c') (.slice E m d) (.slice D k e) := by rw [← hW]; exact heap_alloc_new w _
 have z1 : W.heap.size = w.heap.size + 1 := by rw [← hW]; simp
 obtain ⟨W2, hW2, hbc, l2, z2⟩ := box_ca W c
 obtain ⟨W3, hW3⟩ : ∃ W3, W2.alloc (.cells #[.int .i64 r.code, .int .i64 r.fd, .int .i64 r.num, .bool r.dir, .string r.data, .slice F f f'] 35) = W3 := ⟨_, rfl⟩
 have l3 : Below W2.heap.size W2 W3 := by rw [← hW3]; exact (Below.refl _ _).alloc (Nat.le_refl _) _
 have z3 : W3.heap.size = W2.heap.size + 1 := by rw [← hW3]; simp
 have r3 : ResAt W3 W2.heap.size (.int .i64 r.code) (.int .i64 r.fd) (.int .i64 r.num) (.bool r.dir) (.string r.data) (.slice F f f') := by rw [← hW3]; exact heap_alloc_new W2 _
 obtain ⟨W4, hW4⟩ : ∃ W4, W3.alloc (.cells #[.slice none 0 0, .slice none 0 0, .slice none 0 0] 27) = W4 := ⟨_, rfl⟩
 have l4 : Below W3.heap.size W3 W4 := by rw [← hW4]; exact (Below.refl _ _).alloc (Nat.le_refl _) _
 have z4 : W4.heap.size = W3.heap.size + 1 := by rw [← hW4]; simp
 have o4 : OutAt W4 W3.heap.size (.slice none 0 0) (.slice none 0 0) (.slice none 0 0) := by rw [← hW4]; exact heap_alloc_new W3 _
 have l24 := Cv.next l3 l4
 have l14 := Cv.next l2 l24
 have l04 := Cv.next l1 l14
 refine ⟨W, W2, W3, W4, hW, hW2, hW3, hW4, z1, by omega, by omega, by omega, h.below l04, (l14.block w.heap.size (by omega)).trans o1, ?_, ?_, ?_, l04⟩
 ·rw [← z1]
  exact (l24.block W.heap.size (by omega)).trans hbc
 ·rw [show w.heap.size + 2 = W2.heap.size by omega]
  exact (l4.block W2.heap.size (by omega)).trans r3
 ·rw [show w.heap.size + 3 = W3.heap.size by omega]
  exact o4
theorem allows_results (tmps : Array Value) (g : Nat) (a b d : Value) (B : Bool) (w : World) (h6 : tmps.getD 6 undef = .pointer (some ⟨g, 0, none⟩)) (h7 : tmps.getD 7 undef = .bool B) (hO : OutAt w g a b d) :
  (results Tryz.f47 tmps).run Tryz.prog w = .ok (.tuple #[.agg #[a, b, d], .bool B]) w := by
 rw [results_cell_tmp rfl, h6, h7]
 have hl1 := run_loadVar_row (P := Tryz.prog) w g _ 27 _ (0, 0) _ hO Tryz.underlying27 rfl (by kernel_rfl)
 simp [asAddr, hl1, Result.andThen]
def AlOut (w : World) (R : St × Bool) (e : Ending) (w' : World) : Prop := ∃ v', e = .returned (.tuple #[v', .bool R.2]) ∧ StAt (some w.heap.size) w' v' R.1 ∧ Below w.heap.size w w'
structure AlAt (w w' : World) (A : Option Addr) (n c' : Nat) (E : Option Addr) (m d : Nat) (D : Option Addr) (k e : Nat) (s : St) (c : Ca) (r : Re) (F : Option Addr) (f f' : Nat) : Prop where
 st : StAt none w' (.agg #[.slice A n c', .slice E m d, .slice D k e]) s
 o0 : OutAt w' w.heap.size (.slice A n c') (.slice E m d) (.slice D k e)
 ca : w'.heap[w.heap.size + 1]? = some (caRow c)
 re : ResAt w' (w.heap.size + 2) (.int .i64 r.code) (.int .i64 r.fd) (.int .i64 r.num) (.bool r.dir) (.string r.data) (.slice F f f')
 out : OutAt w' (w.heap.size + 3) (.slice none 0 0) (.slice none 0 0) (.slice none 0 0)
 bel : Below w.heap.size w w'
 sz : w.heap.size + 4 ≤ w'.heap.size
theorem AlAt.below {w w' w'' : World} {A : Option Addr} {n c' : Nat} {E : Option Addr} {m d : Nat} {D : Option Addr} {k e : Nat} {s : St} {c : Ca} {r : Re} {F : Option Addr} {f f' : Nat} (h : AlAt w w' A n c' E m d D k e s c r F f f') (hb : Below w'.heap.size w' w'') : AlAt w w'' A n c' E m d D k e s c r F f f' := by
 have := h.sz
 exact ⟨h.st.below hb, (hb.block _ (by omega)).trans h.o0, (hb.block _ (by omega)).trans h.ca, (hb.block _ (by omega)).trans h.re, (hb.block _ (by omega)).trans h.out, Cv.next h.bel hb, Nat.le_trans h.sz hb.size⟩
end Go.Proofs.YtkflaifopbodfaaGreatDoor
