/- Parts of the proof, side by side: KeptSt, LaRead. -/
import Derived.Test.YthhceopnnappgaaGreatLendSt
import Derived.Test.YthhceopnnappgaaGreatKept
import Derived.Test.YthhceopnnappgaaGreatLaInode
set_option linter.unusedVariables false
set_option linter.unusedSimpArgs false
namespace Go.Proofs.YthhceopnnappgaaGreat
open Go.RowKit
theorem Lent.entsAt {lo : Nat} {w : World} {A : Option Addr} {n c : Nat} {es : List En} {ms : List Value} (h : Lent lo w 69 2 A n c (es.flatMap enV) ms) : SlOk A n c ∧ EntsAt (some lo) w A n es := by
 obtain ⟨A', c', hv, hc, hn, hE⟩ := EntsAt.of_row h.row
 injection hv with e1 e2 e3
 subst e1 e3
 exact ⟨⟨hc, fun e => (hn e).2⟩, hE⟩
theorem Lent.descsAt {lo : Nat} {w : World} {A : Option Addr} {n c : Nat} {es : List Ds} {ms : List Value} (h : Lent lo w 86 3 A n c (es.flatMap dsV) ms) : SlOk A n c ∧ DescsAt (some lo) w A n es := by
 obtain ⟨A', c', hv, hc, hn, hE⟩ := DescsAt.of_row h.row
 injection hv with e1 e2 e3
 subst e1 e3
 exact ⟨⟨hc, fun e => (hn e).2⟩, hE⟩
theorem Lent.intsAt {lo : Nat} {w : World} {A : Option Addr} {n c : Nat} {es : List Int} {ms : List Value} (h : Lent lo w 3 1 A n c (es.map (Value.int .i64)) ms) : SlOk A n c ∧ IntsAt (some lo) w A n es := by
 obtain ⟨A', c', hv, hc, hn, hE⟩ := IntsAt.of_row h.row
 injection hv with e1 e2 e3
 subst e1 e3
 exact ⟨⟨hc, fun e => (hn e).2⟩, hE⟩
theorem EntsAt.anyLo {lo : Nat} {w : World} {A : Option Addr} {n : Nat} {es : List En} (h : EntsAt (some lo) w A n es) : EntsAt none w A n es :=
 ⟨h.1, fun hn => by
  obtain ⟨g, off, hA, hg, hm, hc⟩ := h.2 hn
  exact ⟨g, off, hA, hg, Mine.any _ _ _, hc⟩⟩
theorem DescsAt.anyLo {lo : Nat} {w : World} {A : Option Addr} {n : Nat} {es : List Ds} (h : DescsAt (some lo) w A n es) : DescsAt none w A n es :=
 ⟨h.1, fun hn => by
  obtain ⟨g, off, hA, hg, hm, hc⟩ := h.2 hn
  exact ⟨g, off, hA, hg, Mine.any _ _ _, hc⟩⟩
theorem IntsAt.anyLo {lo : Nat} {w : World} {A : Option Addr} {n : Nat} {es : List Int} (h : IntsAt (some lo) w A n es) : IntsAt none w A n es :=
 ⟨h.1, fun hn => by
  obtain ⟨g, off, hA, hg, hm, hc⟩ := h.2 hn
  exact ⟨g, off, hA, hg, Mine.any _ _ _, hc⟩⟩
theorem LentAt.st {lo : Nat} {w : World} {v : Value} {s : St} (h : LentAt lo w v s) : StAt (some lo) w v s := by
 obtain ⟨A, n, c, B, m, d, D, k, e, zs, rfl, hr, hz, hd, hdl, hm, hml, hsz⟩ := h
 have hi : InoRow lo w (.slice A n c) n zs := ⟨hr.row, fun z hz => by
  obtain ⟨E, m, c, h1, h2, h3⟩ := hr.ents z hz
  exact ⟨E, m, c, h1, h3.entsAt.1, h3.entsAt.2⟩⟩
 obtain ⟨A', c', hv, hc, hn, hI⟩ := InosAt.of_row hi
 injection hv with e1 e2 e3
 subst e1 e3
 rw [hz] at hI
 exact ⟨⟨A, n, c, B, m, d, D, k, e, rfl, hI, hd.descsAt.2, hm.intsAt.2, ⟨hc, fun e => (hn e).2⟩, hd.descsAt.1, hm.intsAt.1⟩, hsz⟩
theorem LentAt.below {lo : Nat} {w w' : World} {v : Value} {s : St} (h : LentAt lo w v s) (hb : Below w.heap.size w w') : LentAt lo w' v s := by
 obtain ⟨A, n, c, B, m, d, D, k, e, zs, rfl, hr, hz, hd, hdl, hm, hml, hsz⟩ := h
 exact ⟨A, n, c, B, m, d, D, k, e, zs, rfl, ⟨row_below hr.row hb, fun z hz => by
  obtain ⟨E, m, c, h1, h2, h3⟩ := hr.ents z hz
  exact ⟨E, m, c, h1, h2, h3.below hb⟩⟩, hz, hd.below hb, hdl, hm.below hb, hml, hsz⟩
theorem LentRow.get {lo : Nat} {w : World} {A : Option Addr} {n c : Nat} {zs : List (Ino × Value)} (h : LentRow lo w (.slice A n c) n zs) (q : Nat) (hq : q < n) : ∃ g x E m d, A = some ⟨g, 0, none⟩ ∧ g < w.heap.size ∧ (zs.map Prod.fst)[q]? = some x ∧
  w.cell? ⟨g, q * 4, none⟩ = some (.int .i64 x.num) ∧ w.cell? ⟨g, q * 4 + 1, none⟩ = some (.bool x.dir) ∧ w.cell? ⟨g, q * 4 + 2, none⟩ = some (.slice E m d) ∧ w.cell? ⟨g, q * 4 + 3, none⟩ = some (.string x.data) ∧ x.ents.length = m ∧ Lent lo w 69 2 E m d (x.ents.flatMap enV) mkE := by
 obtain ⟨A', c', hv, _, _, hg⟩ := row_any h.row (by decide)
 injection hv with e1 e2 e3
 subst e1 e3
 obtain ⟨g, hA, hgl, hm, hc⟩ := hg (by omega)
 have hl : zs.length = n := by
  have h1 := h.row.1
  rw [flat_len inoV 4 (fun _ => rfl)] at h1
  omega
 have hz := List.getElem?_eq_getElem (show q < zs.length by omega)
 obtain ⟨E, m, d, h1, h2, h3⟩ := h.ents _ (List.getElem_mem (show q < zs.length by omega))
 have hf := fun i (hi : i < 4) => flat_get inoV 4 (fun _ => rfl) zs q _ hz i hi
 have c0 := (hc (q * 4) (by omega)).trans (hf 0 (by decide))
 have c1 := (hc (q * 4 + 1) (by omega)).trans (hf 1 (by decide))
 have c2 := (hc (q * 4 + 2) (by omega)).trans (hf 2 (by decide))
 have c3 := (hc (q * 4 + 3) (by omega)).trans (hf 3 (by decide))
 refine ⟨g, _, E, m, d, hA, hgl, by rw [List.getElem?_map, hz]; rfl, c0, c1, ?_, c3, h2, h3⟩
 rw [c2]
 show some zs[q].2 = _
 rw [h1]
set_option maxRecDepth 100000 in
set_option maxHeartbeats 8000000 in
theorem keptstate_any (lo : Nat) (v u : Value) (s : St) (w : World) (h : LentAt lo w v s) (h' : StAt none w u s) :
  Calls Tryz.prog 9 #[v, u] w fun e w' => e = .returned (.bool true) ∧ Below w.heap.size w w' := by
 obtain ⟨A, n, c, B, m, d, D, k, e, zs, rfl, hr, hz, hd, hdl, hm, hml, hsz⟩ := h
 obtain ⟨⟨A', n', c', B', m', d', D', k', e', rfl, hI', hD', hM', h5', h6', h7'⟩, _⟩ := h'
 have hzl : zs.length = n := by
  have h1 := hr.row.1
  rw [flat_len inoV 4 (fun _ => rfl)] at h1
  omega
 obtain rfl : n' = n := by rw [← hI'.1, ← hz, List.length_map]; exact hzl
 obtain rfl : m' = m := by rw [← hD'.1]; exact hdl
 obtain rfl : k' = k := by rw [← hM'.1]; exact hml
 have hbig := hsz.big
 have l1 := hI'.1
 have hn2 : n' ≤ 1099511627776 := by omega
 have hm2 : m' ≤ 1099511627776 := by omega
 have hk2 : k' ≤ 1099511627776 := by omega
 obtain ⟨W, hW, a0, a1, a2, b0, b1, b2, hal, hsW⟩ := box_two w A n' c B m' d D k' e A' n' c' B' m' d' D' k' e'
 have HR := Lib.hid (show ∀ w', Below W.heap.size W w' → LentRow lo w' (.slice A n' c) n' zs from fun w' hb => ⟨row_below (row_below hr.row hal) hb, fun z hz => by
  obtain ⟨E, m, c, h1, h2, h3⟩ := hr.ents z hz
  exact ⟨E, m, c, h1, h2, (h3.below hal).below hb⟩⟩)
 have HI := Lib.hid (hI'.below hal)
 have HKD := Lib.hid (keptdescs_any lo B B' m' d d' s.opn W (hd.below hal) (hd.below hal).descsAt.2.anyLo (hD'.below hal) hm2)
 have HKI := Lib.hid (show ∀ w', Below W.heap.size W w' → _ from fun w' hb => keptints_any lo D D' k' e e' s.made w' ((hm.below hal).below hb) ((hm.below hal).below hb).intsAt.2.anyLo ((hM'.below hal).below hb) hk2)
 have HAL := Lib.hid hal
 have HZ := Lib.hid hsz
 have HZS := Lib.hid hz
 have hnn : ((n' : Int) != (n' : Int)) = false := by simp
 clear hr hz hd hdl hm hml hsz hI' hD' hM' h5' h6' h7' hal hbig l1
 go_enter Tryz.func9, Tryz.ntmps9
 go_wp2_with fail
 refine HKD.out.mono ?_
 rintro e1 w1 ⟨rfl, hb1⟩
 have s2 := (hb1.cell (p := ⟨w.heap.size, 2, none⟩) (by show w.heap.size < W.heap.size; omega)).trans a2
 have t2 := (hb1.cell (p := ⟨w.heap.size + 1, 2, none⟩) (by show w.heap.size + 1 < W.heap.size; omega)).trans b2
 have HB1 := Lib.hid hb1
 clear hb1
 go_wp2_with fail
 refine (HKI.out w1 HB1.out).mono ?_
 rintro e2 w2 ⟨rfl, hb2⟩
 have hbx := HB1.out.trans (hb2.mono HB1.out.size)
 have s0 := (hbx.cell (p := ⟨w.heap.size, 0, none⟩) (by show w.heap.size < W.heap.size; omega)).trans a0
 have t0 := (hbx.cell (p := ⟨w.heap.size + 1, 0, none⟩) (by show w.heap.size + 1 < W.heap.size; omega)).trans b0
 have HB2 := Lib.hid hbx
 clear hb2 hbx s2 t2 a1 a2 b1 b2 HB1 HKD HKI
 go_wp2_with fail
 go_loopw [5] (fun i wr => ∃ q : Nat, i = .int .i64 q ∧ q ≤ n' ∧ Below W.heap.size W wr) (fun i _ => n' - (intOf i).toNat)
 case atStart => exact ⟨0, rfl, by omega, HB2.out⟩
 case round =>
  clear s0 t0 HB2
  obtain ⟨q, rfl, hq, hbW⟩ := hrel
  have HBW := Lib.hid hbW
  have a0' := (hbW.cell (p := ⟨w.heap.size, 0, none⟩) (by show w.heap.size < W.heap.size; omega)).trans a0
  have b0' := (hbW.cell (p := ⟨w.heap.size + 1, 0, none⟩) (by show w.heap.size + 1 < W.heap.size; omega)).trans b0
  have HFIN := Lib.hid (show Below w.heap.size w wr from HAL.out.trans (hbW.mono HAL.out.size))
  clear hbW
  by_cases hlt : q < n'
  ·obtain ⟨g, x, E, m2, d2, rfl, hg, hx, c0, c1, c2, c3, hel, hE⟩ := (HR.out wr HBW.out).get q hlt
   obtain ⟨g', off', x', E', m2', d2', rfl, hg', hx', hd', hmem', c0', c1', c2', hok', hE', c3'⟩ := (HI.out.below HBW.out).get q hlt
   rw [HZS.out] at hx
   obtain rfl : x = x' := by rw [hx] at hx'; exact Option.some.inj hx'
   obtain rfl : m2' = m2 := by rw [← hE'.1]; exact hel
   have q1 : decide ((q : Int) < (n' : Int)) = true := by rw [decide_eq_true_eq]; omega
   have q2 : (0 : Int) ≤ (q : Int) := by omega
   have q3 : (q : Int) < (n' : Int) := by omega
   have hle := bulkE_le hx
   have hm22 : m2' ≤ 1099511627776 := by have := HZ.out.big; omega
   have HE := Lib.hid hE
   have HE' := Lib.hid hE'
   have hoff : (0 : Nat) + q * 4 = q * 4 := Nat.zero_add _
   clear hx hx' hd' hmem' hE hE' hle hel hok'
   go_upto_region 6 with fail
   have hwr : W.heap.size ≤ wr.heap.size := HBW.out.size
   go_cut [6, 7] (fun p1 p2 wx => ∃ b1 b2, p1 = .pointer (some ⟨b1, 0, .none⟩) ∧ p2 = .pointer (some ⟨b2, 0, .none⟩) ∧ Below wr.heap.size wr wx ∧
    wx.cell? ⟨b1, 0, none⟩ = some (.int .i64 x.num) ∧ wx.cell? ⟨b1, 1, none⟩ = some (.bool x.dir) ∧ wx.cell? ⟨b1, 2, none⟩ = some (.slice E m2' d2) ∧ wx.cell? ⟨b1, 3, none⟩ = some (.string x.data) ∧
    wx.cell? ⟨b2, 0, none⟩ = some (.int .i64 x.num) ∧ wx.cell? ⟨b2, 1, none⟩ = some (.bool x.dir) ∧ wx.cell? ⟨b2, 2, none⟩ = some (.slice E' m2' d2') ∧ wx.cell? ⟨b2, 3, none⟩ = some (.string x.data) ∧ b1 < wx.heap.size ∧ b2 < wx.heap.size)
   case first =>
    have nA : wr.heap.size ≠ w.heap.size := by omega
    have nB : wr.heap.size ≠ w.heap.size + 1 := by omega
    have nC : wr.heap.size ≠ g := by omega
    have nD : wr.heap.size ≠ g' := by omega
    have mA : wr.heap.size + 1 ≠ w.heap.size := by omega
    have mB : wr.heap.size + 1 ≠ w.heap.size + 1 := by omega
    have mC : wr.heap.size + 1 ≠ g := by omega
    have mD : wr.heap.size + 1 ≠ g' := by omega
    go_region_held3 (fun w' => w'.cell? ⟨w.heap.size, 0, none⟩ = some (.slice (some ⟨g, 0, none⟩) n' c) ∧ w'.cell? ⟨w.heap.size + 1, 0, none⟩ = some (.slice (some ⟨g', off', none⟩) n' c') ∧
     w'.cell? ⟨g, q * 4, none⟩ = some (.int .i64 x.num) ∧ w'.cell? ⟨g, q * 4 + 1, none⟩ = some (.bool x.dir) ∧ w'.cell? ⟨g, q * 4 + 2, none⟩ = some (.slice E m2' d2) ∧ w'.cell? ⟨g, q * 4 + 3, none⟩ = some (.string x.data) ∧
     w'.cell? ⟨g', off' + q * 4, none⟩ = some (.int .i64 x.num) ∧ w'.cell? ⟨g', off' + q * 4 + 1, none⟩ = some (.bool x.dir) ∧ w'.cell? ⟨g', off' + q * 4 + 2, none⟩ = some (.slice E' m2' d2') ∧ w'.cell? ⟨g', off' + q * 4 + 3, none⟩ = some (.string x.data))
     (first | go_keep | trace_state)
     (fail)
    all_goals (
     go_wp2_with fail
     go_meet)
    ·obtain ⟨U, hU, hbU, hbD, f1, f2, hsU⟩ := two_ino wr (.int .i64 x.num) (.bool x.dir) (.slice E m2' d2) (.string x.data) (.int .i64 x.num) (.bool x.dir) (.slice E' m2' d2') (.string x.data)
     rw [hU]
     exact ⟨_, _, rfl, rfl, hbD, f1 0, f1 1, f1 2, f1 3, f2 0, f2 1, f2 2, f2 3, by simp [hsU], by simp [hsU]⟩
    ·obtain ⟨U, hU, hbU, hbD, f1, f2, hsU⟩ := two_ino wr (.int .i64 x.num) (.bool x.dir) (.slice E' m2' d2') (.string x.data) (.int .i64 x.num) (.bool x.dir) (.slice E m2' d2) (.string x.data)
     rw [hU]
     exact ⟨_, _, rfl, rfl, hbD, f2 0, f2 1, f2 2, f2 3, f1 0, f1 1, f1 2, f1 3, by simp [hsU], by simp [hsU]⟩
   case rest =>
    obtain ⟨b1, b2, rfl, rfl, hbx, z0, z1, z2, z3, y0, y1, y2, y3, hl1, hl2⟩ := hcut
    have HKE := Lib.hid (keptents_any lo E E' m2' d2 d2' x.ents wc (HE.out.below hbx) (HE.out.below hbx).entsAt.2.anyLo (HE'.out.below hbx) hm22)
    have HBX := Lib.hid (HBW.out.trans (hbx.mono HBW.out.size))
    have u1 : (x.num != x.num) = false := by simp
    have u2 : (x.dir != x.dir) = false := by cases x.dir <;> rfl
    have u3 : (x.data.toList == x.data.toList) = true := ba_list_eq rfl
    clear hbx c0 c1 c2 c3 c0' c1' c2' c3' a0' b0'
    go_wp2_with fail
    refine HKE.out.mono ?_
    rintro e5 w5 ⟨rfl, hb5⟩
    have HB5 := Lib.hid (HBX.out.trans (hb5.mono HBX.out.size))
    clear hb5
    go_wp2_with fail
    go_roundw
    case rel => exact ⟨q + 1, by go_num, by omega, HB5.out⟩
    case measure => simp [intOf]; omega
  ·obtain rfl : q = n' := by omega
   have q1 : decide ((q : Int) < (q : Int)) = false := by rw [decide_eq_false_iff_not]; omega
   go_wp2_with fail
   go_ret
   exact ⟨rfl, HFIN.out⟩
def Rd (w : World) (p : Nat) (l : List UInt8) : Prop := w.heap[p]? = some (.cells #[.string ⟨l.toArray⟩, .bool false] 122 (0, 0))
theorem Rd.get {w : World} {p : Nat} {l : List UInt8} (h : Rd w p l) : w.cell? ⟨p, 0, none⟩ = some (.string ⟨l.toArray⟩) ∧ w.cell? ⟨p, 1, none⟩ = some (.bool false) ∧ (∀ j, w.frozen? ⟨p, j, none⟩ = false) ∧ p < w.heap.size :=
 ⟨by rw [cell_of_row w p _ _ _ (0, 0) h]; rfl, by rw [cell_of_row w p _ _ _ (0, 0) h]; rfl, fun j => frozen_of_row w p j _ _ h, (Array.getElem?_eq_some_iff.1 h).1⟩
theorem Rd.set {w : World} {p : Nat} {l : List UInt8} (h : Rd w p l) (l' : List UInt8) : Rd (w.setCell ⟨p, 0, none⟩ (.string ⟨l'.toArray⟩)) p l' := heap_setCell_same w p 0 _ _ _ h
theorem grown_setL (w : World) (p k : Nat) (v : Value) : w.grownBy (w.setCell ⟨p, k, none⟩ v) (some p) :=
 ⟨rfl, rfl, rfl, by simp [World.setCell], fun i _ hi => Below.heap_setCell w ⟨p, k, none⟩ v i (fun e => hi (by rw [e]))⟩
theorem grown_trans {w w1 w2 : World} {r : Option Nat} (h : w.grownBy w1 r) (k : w1.grownBy w2 r) : w.grownBy w2 r :=
 ⟨k.os.trans h.os, k.tape.trans h.tape, k.output.trans h.output, Nat.le_trans h.size k.size, fun i hi hne => (k.block i (Nat.lt_of_lt_of_le hi h.size) hne).trans (h.block i hi hne)⟩
theorem grown_of_below {w w' : World} {r : Option Nat} (h : Below w.heap.size w w') : w.grownBy w' r := ⟨h.os, h.tape, h.output, h.size, fun i hi _ => h.block i hi⟩
theorem ba_ext {a b : ByteArray} (h : a.data.toList = b.data.toList) : a = b := by
 cases a with | mk da => cases b with | mk db => exact congrArg ByteArray.mk (Array.toList_inj.1 h)
theorem bytes_cut (l : List UInt8) (i j : Nat) : (⟨l.toArray⟩ : ByteArray).extract i j = ⟨((l.take j).drop i).toArray⟩ := by
 apply ba_ext
 rw [ByteArray.data_extract]
 simp [Array.toList_extract, List.extract_eq_take_drop, List.drop_take]
theorem bytes_cons_cut (c : UInt8) (rest : List UInt8) : (⟨(c :: rest).toArray⟩ : ByteArray).extract 1 (⟨(c :: rest).toArray⟩ : ByteArray).size = ⟨rest.toArray⟩ := by
 rw [bytes_cut]
 congr 2
 have : (⟨(c :: rest).toArray⟩ : ByteArray).size = rest.length + 1 := by show (c :: rest).toArray.size = _; simp
 rw [this]
 simp
theorem and127 : ∀ n : Nat, n < 128 → bits .and .i64 (n : Int) 127 = (n : Int) := by decide +kernel
theorem or0 : ∀ n : Nat, n < 128 → bits .or .i64 0 (n : Int) = (n : Int) := by decide +kernel
set_option maxRecDepth 100000 in
set_option maxHeartbeats 4000000 in
theorem rnumber_any (p : Nat) (c : UInt8) (rest : List UInt8) (most : Int) (w : World) (h : Rd w p (c :: rest)) (hc : c.toNat < 128) (hm : (c.toNat : Int) ≤ most) :
  Calls Tryz.prog 84 #[.pointer (some ⟨p, 0, .none⟩), .int .i64 most] w fun e w' => e = .returned (.int .i64 (c.toNat : Int)) ∧ Rd w' p rest ∧ w.grownBy w' (some p) := by
 obtain ⟨c0, c1, fz, hp⟩ := h.get
 obtain ⟨S, hS⟩ : ∃ S : ByteArray, (⟨(c :: rest).toArray⟩ : ByteArray) = S := ⟨_, rfl⟩
 rw [hS] at c0
 have hsz : 0 < S.size := by rw [← hS]; show 0 < (c :: rest).toArray.size; simp
 have h0 : S[0]'hsz = c := by subst hS; rfl
 have hne : (S.data.toList == []) = false := by rw [← hS]; simp
 have hne2 : S.toList.isEmpty = false := by rw [← hS, ByteArray.toList_eq]; simp
 have HH := Lib.hid h
 have HS := Lib.hid hS
 clear h hS
 obtain ⟨N, hN⟩ : ∃ N, c.toNat = N := ⟨_, rfl⟩
 rw [hN] at hc hm ⊢
 go_enter Tryz.func84, Tryz.ntmps84
 go_wp2_with fail
 go_loopw [5, 6] (fun x i wr => x = .int .i64 0 ∧ i = .int .i64 0 ∧ w = wr) (fun _ _ _ => 0)
 case atStart => exact ⟨rfl, rfl, rfl⟩
 case round =>
  obtain ⟨rfl, rfl, rfl⟩ := hrel
  have f0 := fz 0
  have hcut : S.extract 1 S.size = ⟨rest.toArray⟩ := by rw [← HS.out]; exact bytes_cons_cut c rest
  have q1 : decide (N < 128) = true := by rw [decide_eq_true_eq]; exact hc
  have q2 : decide ((N : Int) < 128) = true := by rw [decide_eq_true_eq]; omega
  have q3 : decide (most < (N : Int)) = false := by rw [decide_eq_false_iff_not]; omega
  have e1 := and127 N hc
  have e2 : wrap64 (N : Int) = (N : Int) := by unfold wrap64; omega
  have e3 := or0 N hc
  by_cases hz : N = 0
  ·subst hz
   have d1 : bits BinOp.and IntKind.i64 0 127 = 0 := by decide +kernel
   have d2 : wrap64 0 = 0 := by decide +kernel
   have d3 : bits BinOp.or IntKind.i64 0 0 = 0 := by decide +kernel
   have d4 : (0 : Int) ≤ most := by omega
   go_wp2_with fail
   go_ret
   exact ⟨rfl, HH.out.set rest, grown_setL _ _ _ _⟩
  ·have q4 : (N == 0) = false := by rw [beq_eq_false_iff_ne]; exact hz
   have q5 : ((N : Int) == 0) = false := by rw [beq_eq_false_iff_ne]; omega
   go_wp2_with fail
   go_ret
   exact ⟨rfl, HH.out.set rest, grown_setL _ _ _ _⟩
theorem rnum_any (p n : Nat) (rest : List UInt8) (most : Int) (w : World) (h : Rd w p (numL n ++ rest)) (hn : n < 128) (hm : (n : Int) ≤ most) :
  Calls Tryz.prog 84 #[.pointer (some ⟨p, 0, .none⟩), .int .i64 most] w fun e w' => e = .returned (.int .i64 (n : Int)) ∧ Rd w' p rest ∧ w.grownBy w' (some p) := by
 rw [numL_last n hn] at h
 have e : (n.toUInt8).toNat = n := by show n % 256 = n; omega
 refine (rnumber_any p n.toUInt8 rest most w h (by rw [e]; exact hn) (by rw [e]; exact hm)).mono ?_
 rintro e1 w1 ⟨rfl, h1, h2⟩
 exact ⟨by rw [e], h1, h2⟩
set_option maxRecDepth 100000 in
set_option maxHeartbeats 4000000 in
theorem rtext_any (p : Nat) (s : ByteArray) (rest : List UInt8) (most : Int) (w : World) (h : Rd w p (textL s ++ rest)) (hn : s.size < 128) (hm : (s.size : Int) ≤ most) (hr : rest.length ≤ 1099511627776) :
  Calls Tryz.prog 110 #[.pointer (some ⟨p, 0, .none⟩), .int .i64 most] w fun e w' => e = .returned (.string s) ∧ Rd w' p rest ∧ w.grownBy w' (some p) := by
 unfold textL at h
 rw [List.append_assoc] at h
 have HH := Lib.hid h
 have hl : s.data.toList.length = s.size := Array.length_toList
 have hS1 : (⟨(s.data.toList ++ rest).toArray⟩ : ByteArray).extract 0 s.size = s := by
  rw [bytes_cut]
  apply ba_ext
  rw [← hl]
  simp
 have hSz : (⟨(s.data.toList ++ rest).toArray⟩ : ByteArray).size = s.size + rest.length := by
  show (s.data.toList ++ rest).toArray.size = _
  rw [List.size_toArray, List.length_append, hl]
 have hS2 : (⟨(s.data.toList ++ rest).toArray⟩ : ByteArray).extract s.size (⟨(s.data.toList ++ rest).toArray⟩ : ByteArray).size = ⟨rest.toArray⟩ := by
  rw [bytes_cut, hSz]
  congr 2
  rw [List.take_of_length_le (by rw [List.length_append, hl]; omega), ← hl]
  simp
 obtain ⟨S, hS⟩ : ∃ S : ByteArray, (⟨(s.data.toList ++ rest).toArray⟩ : ByteArray) = S := ⟨_, rfl⟩
 rw [hS] at hS1 hS2 hSz
 have HS := Lib.hid hS
 clear h hl hS
 obtain ⟨n, hnn⟩ : ∃ n, s.size = n := ⟨_, rfl⟩
 rw [hnn] at hn hm hS1 hS2 hSz
 have HNN := Lib.hid hnn
 clear hnn
 go_enter Tryz.func110, Tryz.ntmps110
 go_wp2_with fail
 refine (rnum_any p n _ most _ (by rw [← HNN.out]; exact HH.out) hn hm).mono ?_
 rintro e1 w1 ⟨rfl, h1, g1⟩
 obtain ⟨c0, c1, fz, hp⟩ := h1.get
 rw [HS.out] at c0
 have f0 := fz 0
 have HR := Lib.hid h1
 have HG := Lib.hid g1
 rw [hSz] at hS2
 have n0 : (0 : Int) ≤ (n : Int) := by omega
 have n1 : (n : Int) ≤ (S.size : Int) := by omega
 have q1 : decide ((S.size : Int) < (n : Int)) = false := by rw [decide_eq_false_iff_not]; omega
 clear h1 g1
 go_wp2_with fail
 go_ret
 exact ⟨rfl, HR.out.set rest, grown_trans HG.out (grown_setL _ _ _ _)⟩
end Go.Proofs.YthhceopnnappgaaGreat
