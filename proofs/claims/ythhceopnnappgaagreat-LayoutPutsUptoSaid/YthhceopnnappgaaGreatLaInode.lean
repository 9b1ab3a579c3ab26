/- The layout's writer: text, flag, inode. -/
import Derived.Test.YthhceopnnappgaaGreatM04
import Derived.Test.YthhceopnnappgaaGreatM05
import Derived.Test.YthhceopnnappgaaGreatFsEnts
set_option linter.unusedVariables false
set_option linter.unusedSimpArgs false
namespace Go.Proofs.YthhceopnnappgaaGreat
open Go.RowKit
def textL (s : ByteArray) : List UInt8 := numL s.size ++ s.data.toList
theorem textL_len (s : ByteArray) : (textL s).length ≤ 11 + s.size := by
 unfold textL
 rw [List.length_append]
 have := numL_len s.size
 have e : s.data.toList.length = s.size := Array.length_toList
 omega
theorem textL_ge (s : ByteArray) : s.size ≤ (textL s).length := by
 unfold textL
 rw [List.length_append]
 have e : s.data.toList.length = s.size := Array.length_toList
 omega
set_option maxRecDepth 100000 in
set_option maxHeartbeats 2000000 in
theorem text_any (B b : Nat) (l : List UInt8) (s : ByteArray) (w : World) (h : Bld B b l w) (hs : s.size ≤ 1099511627776) (hlen : l.length + 11 + s.size ≤ 140737488355328) (hBw : B ≤ w.heap.size) :
  Calls Tryz.prog 48 #[.pointer (some ⟨b, 0, none⟩), .string s] w fun e w' => e = .returned (.tuple #[]) ∧ Bld B b (l ++ textL s) w' ∧ Wr B b w w' := by
 have HB0 := Lib.hid h
 clear h
 go_enter Tryz.func48, Tryz.ntmps48
 go_wp2_with fail
 refine (number_any B b l s.size _ HB0.out hs (by omega) hBw).mono ?_
 rintro e1 w1 ⟨rfl, hb1, he1⟩
 have HB1 := Lib.hid hb1
 have HE1 := Lib.hid he1
 have hsz : B ≤ w1.heap.size := Nat.le_trans hBw he1.below.size
 clear hb1 he1
 go_wp2_with fail
 refine (writestring_any B b (l ++ numL s.size) s _ HB1.out (by rw [List.length_append]; have := numL_len s.size; omega) hsz).mono ?_
 rintro e2 w2 ⟨rfl, hb2, he2⟩
 have HB2 := Lib.hid hb2
 have HE2 := Lib.hid (HE1.out.trans he2)
 clear hb2 he2
 go_wp2_with fail
 go_end0
 exact ⟨rfl, by unfold textL; rw [← List.append_assoc]; exact HB2.out, HE2.out⟩
theorem flag_any (is : Bool) (w : World) : Calls Tryz.prog 47 #[.bool is] w fun e w' => e = .returned (.int .i64 ((if is then 1 else 0 : Nat) : Int)) ∧ w = w' := by
 go_enter Tryz.func47, Tryz.ntmps47
 cases is
 ·go_wp2_with fail
  go_ret
  exact ⟨rfl, rfl⟩
 ·go_wp2_with fail
  go_ret
  exact ⟨rfl, rfl⟩
def entL (e : En) : List UInt8 := textL e.name ++ numL e.num.toNat
def entsL : List En → List UInt8
 | [] => []
 | e :: es => entL e ++ entsL es
def inodeL (x : Ino) : List UInt8 :=
 numL x.num.toNat ++ numL (if x.dir then 1 else 0) ++ (if x.dir then numL x.ents.length ++ entsL x.ents else textL x.data)
structure InoOk (x : Ino) : Prop where
 num : 0 ≤ x.num ∧ x.num ≤ 1099511627776
 data : x.data.size ≤ 1099511627776
 ents : x.ents.length ≤ 1099511627776 ∧ ∀ e ∈ x.ents, 0 ≤ e.num ∧ e.num ≤ 1099511627776 ∧ e.name.size ≤ 1099511627776
theorem entsL_drop (es : List En) (q : Nat) (e : En) (h : es[q]? = some e) : entsL (es.drop q) = entL e ++ entsL (es.drop (q + 1)) := by
 obtain ⟨h1, h2⟩ := List.getElem?_eq_some_iff.1 h
 rw [List.drop_eq_getElem_cons h1, h2, entsL]
theorem toNat_val {x : Int} (h : 0 ≤ x) : Value.int .i64 x = Value.int .i64 ((x.toNat : Nat) : Int) := by rw [Int.toNat_of_nonneg h]
set_option maxRecDepth 100000 in
set_option maxHeartbeats 4000000 in
theorem inode_any (B b g off : Nat) (l : List UInt8) (x : Ino) (E : Option Addr) (m d : Nat) (w : World) (h : Bld B b l w) (hok : InoOk x) (hlen : l.length + (inodeL x).length + 11 ≤ 140737488355328) (hBw : B ≤ w.heap.size)
  (hx : ∀ w', Wr B b w w' → (w'.cell? ⟨g, off, none⟩ = some (.int .i64 x.num) ∧ w'.cell? ⟨g, off + 1, none⟩ = some (.bool x.dir) ∧ w'.cell? ⟨g, off + 2, none⟩ = some (.slice E m d) ∧ w'.cell? ⟨g, off + 3, none⟩ = some (.string x.data)) ∧ EntsAt none w' E m x.ents) :
  Calls Tryz.prog 21 #[.pointer (some ⟨b, 0, none⟩), .pointer (some ⟨g, off, none⟩)] w fun e w' => e = .returned (.tuple #[]) ∧ Bld B b (l ++ inodeL x) w' ∧ Wr B b w w' := by
 have HB0 := Lib.hid h
 have HOK := Lib.hid hok
 have HX := Lib.hid hx
 have a0 := (hx w (Wr.refl _ _ _)).1.1
 have hn0 := hok.num
 rw [toNat_val hn0.1] at a0
 obtain ⟨X, hX⟩ : ∃ X, x.num.toNat = X := ⟨_, rfl⟩
 rw [hX] at a0
 have hX2 : X ≤ 1099511627776 := by omega
 obtain ⟨DX, hDX⟩ : ∃ DX, x.dir = DX := ⟨_, rfl⟩
 have HDX := Lib.hid hDX
 have HXX := Lib.hid hX
 have hlen2 : (inodeL x).length = (numL X).length + (numL (if DX then 1 else 0)).length + (if DX then numL x.ents.length ++ entsL x.ents else textL x.data).length := by
  unfold inodeL
  rw [hDX, hX, List.length_append, List.length_append]
 have HLE := Lib.hid hlen2
 clear h hok hx hn0 hX hDX hlen2
 go_enter Tryz.func21, Tryz.ntmps21
 go_wp2_with fail
 refine (number_any B b l X _ HB0.out hX2 (by omega) hBw).mono ?_
 rintro e1 w1 ⟨rfl, hb1, he1⟩
 have HB1 := Lib.hid hb1
 have HE1 := Lib.hid he1
 have hsz1 : B ≤ w1.heap.size := Nat.le_trans hBw he1.below.size
 have a1 := (HX.out _ HE1.out).1.2.1
 rw [HDX.out] at a1
 clear hb1 he1 a0
 go_wp2_with fail
 refine (flag_any DX _).mono ?_
 rintro e2 w2 ⟨rfl, rfl⟩
 obtain ⟨FL, hFL⟩ : ∃ FL : Nat, (if DX then 1 else 0) = FL := ⟨_, rfl⟩
 rw [hFL] at HLE ⊢
 have hF2 : FL ≤ 1099511627776 := by rw [← hFL]; split <;> omega
 have HFL := Lib.hid hFL
 clear hFL
 go_wp2_with fail
 refine (number_any B b (l ++ numL X) FL _ HB1.out hF2 (by rw [List.length_append]; have := HLE.out; omega) hsz1).mono ?_
 rintro e3 w3 ⟨rfl, hb3, he3⟩
 have HB3 := Lib.hid hb3
 have HE3 := Lib.hid (HE1.out.trans he3)
 have hsz3 : B ≤ w3.heap.size := Nat.le_trans hsz1 he3.below.size
 have a1' := (HX.out _ HE3.out).1.2.1
 rw [HDX.out] at a1'
 have a2 := (HX.out _ HE3.out).1.2.2.1
 have a3 := (HX.out _ HE3.out).1.2.2.2
 clear hb3 he3 a1
 cases DX
 ·go_wp2_with fail
  refine (text_any B b (l ++ numL X ++ numL FL) x.data _ HB3.out HOK.out.data (by rw [List.length_append, List.length_append]; have h1 := HLE.out; have h2 := textL_ge x.data; simp only [Bool.false_eq_true, if_false] at h1; omega) hsz3).mono ?_
  rintro e4 w4 ⟨rfl, hb4, he4⟩
  have HB4 := Lib.hid hb4
  have HE4 := Lib.hid (HE3.out.trans he4)
  clear hb4 he4
  go_wp2_with fail
  refine bodyPost_ret (results_none rfl _ _ _) rfl ?_
  exact ⟨rfl, by unfold inodeL; rw [HDX.out, HXX.out, HFL.out, if_neg (by simp), ← List.append_assoc, ← List.append_assoc]; exact HB4.out, HE4.out⟩
 ·go_wp2_with fail
  have hml : x.ents.length = m := (HX.out _ HE3.out).2.1
  have HML := Lib.hid hml
  have hm1 : m ≤ 1099511627776 := by have := HOK.out.ents.1; omega
  have hle := HLE.out
  simp only [if_true, List.length_append] at hle
  rw [hml] at hle
  have HLE2 := Lib.hid hle
  refine (number_any B b (l ++ numL X ++ numL FL) m _ HB3.out hm1 (by rw [List.length_append, List.length_append]; omega) hsz3).mono ?_
  rintro e4 w4 ⟨rfl, hb4, he4⟩
  have HB4 := Lib.hid hb4
  have HE4 := Lib.hid (HE3.out.trans he4)
  have hsz4 : B ≤ w4.heap.size := Nat.le_trans hsz3 he4.below.size
  have b2 := (HX.out _ HE4.out).1.2.2.1
  obtain ⟨P, hP⟩ : ∃ P, l ++ numL X ++ numL FL ++ numL m = P := ⟨_, rfl⟩
  rw [hP] at HB4
  have hpl : P.length + (entsL x.ents).length + 11 ≤ 140737488355328 := by
   rw [← hP, List.length_append, List.length_append, List.length_append]
   omega
  have HP := Lib.hid hP
  clear hb4 he4 a2 a3 a1' hml hle hP
  go_wp2_with fail
  clear b2
  go_loopw [42] (fun i wr => ∃ (q : Nat) (l' : List UInt8), i = .int .i64 q ∧ q ≤ m ∧ Bld B b l' wr ∧ Wr B b w wr ∧ l' ++ entsL (x.ents.drop q) = P ++ entsL x.ents) (fun i _ => m - (intOf i).toNat)
  case atStart => exact ⟨0, P, rfl, by omega, HB4.out, HE4.out, rfl⟩
  case round =>
   obtain ⟨q, l', rfl, hq, hbl, hbel, hc⟩ := hrel
   have HBL := Lib.hid hbl
   have HBE := Lib.hid hbel
   have hszr : B ≤ wr.heap.size := Nat.le_trans hBw hbel.below.size
   clear hbl hbel
   by_cases hlt : q < m
   ·obtain ⟨g3, off3, e, rfl, hg3, he, hd3, hmem3, f0, f1⟩ := (HX.out _ HBE.out).2.get q hlt
    have r0 : (0 : Int) ≤ (q : Int) := by omega
    have r1 : (q : Int) < (m : Int) := by omega
    obtain ⟨hn0, hn1, hsz0⟩ := HOK.out.ents.2 e hmem3
    have x0 := f0
    have x1 := f1
    rw [toNat_val hn0] at x1
    obtain ⟨Y, hY⟩ : ∃ Y, e.num.toNat = Y := ⟨_, rfl⟩
    rw [hY] at x1
    obtain ⟨V2, hV2, v0, v1, hal, hlt3⟩ := box_en wr e.name Y
    have HB5 := Lib.hid (HBL.out.keep hal)
    have HE5 := Lib.hid (HBE.out.trans (Wr.of_below hal hszr))
    have hsz5 : B ≤ V2.heap.size := Nat.le_trans hszr hal.size
    have hbx : B ≤ wr.heap.size := hszr
    rw [entsL_drop _ _ _ he] at hc
    have hlc := congrArg List.length hc
    unfold entL at hlc hc
    rw [hY] at hc hlc
    rw [List.length_append, List.length_append, List.length_append, List.length_append] at hlc
    have htx := textL_ge e.name
    have HC := Lib.hid hc
    have HLC := Lib.hid hlc
    have hY2 : Y ≤ 1099511627776 := by omega
    clear hc hlc hal f0 f1 hd3 hmem3 hY
    go_wp2_with fail
    refine (text_any B b l' e.name _ HB5.out hsz0 (by have := HLC.out; omega) hsz5).mono ?_
    rintro e5 w5 ⟨rfl, hb5, he5⟩
    have hbne : wr.heap.size ≠ b := by
     intro e9
     have := HBL.out.lt
     omega
    have hobj : V2.heap[wr.heap.size]? = some (.cells #[.string e.name, .int .i64 Y] 69 (0, 0)) := by rw [← hV2]; exact heap_alloc_new wr _
    have hobj5 := he5.keep _ _ hobj hbne (by intro cs fr h9; injection h9 with _ h9; exact absurd h9 (by decide))
    have v1' : w5.cell? ⟨wr.heap.size, 1, .none⟩ = some (.int .i64 Y) := by rw [cell_of_row w5 wr.heap.size _ _ _ (0, 0) hobj5]; rfl
    have HB6 := Lib.hid hb5
    have HE6 := Lib.hid (HE5.out.trans he5)
    have hsz6 : B ≤ w5.heap.size := Nat.le_trans hsz5 he5.below.size
    clear hb5 he5 hobj hobj5 hV2 v0 v1 x0 x1
    go_wp2_with fail
    refine (number_any B b (l' ++ textL e.name) Y _ HB6.out hY2 (by rw [List.length_append]; have := HLC.out; omega) hsz6).mono ?_
    rintro e6 w6 ⟨rfl, hb6, he6⟩
    have HB7 := Lib.hid hb6
    have HE7 := Lib.hid (HE6.out.trans he6)
    clear hb6 he6
    go_wp2_with fail
    go_roundw
    case rel => exact ⟨q + 1, _, by go_num, by omega, HB7.out, HE7.out, by have := HC.out; simpa [List.append_assoc] using this⟩
    case measure => simp [intOf]; omega
   ·have hnil : x.ents.drop q = [] := List.drop_eq_nil_of_le (by have := HML.out; omega)
    rw [hnil, entsL, List.append_nil] at hc
    have HC := Lib.hid hc
    have q1 : decide ((q : Int) < (m : Int)) = false := by rw [decide_eq_false_iff_not]; omega
    clear hc hnil
    go_wp2_with fail
    go_end0
    exact ⟨rfl, by
     have h1 := HBL.out
     rw [HC.out, ← HP.out] at h1
     have hf : 1 = FL := by have := HFL.out; simpa using this
     rw [← hf] at h1
     unfold inodeL
     rw [HDX.out, HXX.out]
     simp only [if_true]
     rw [HML.out]
     simpa [List.append_assoc] using h1, HBE.out⟩
end Go.Proofs.YthhceopnnappgaaGreat
