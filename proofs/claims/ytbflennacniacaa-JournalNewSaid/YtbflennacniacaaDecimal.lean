/- concourseref0.Decimal, of a number below 100, by its contract. -/
import Derived.Test.YtbflennacniacaaJoDigits
import Derived.Laws.AppendOwnNone
namespace Go.Proofs.Ytbflennacniacaa
open Go.RowKit
set_option linter.unusedVariables false
def dgt (d : Nat) : UInt8 := UInt8.ofNat (48 + d)
theorem dgt_val (d : Nat) (hd : d < 10) : IntKind.u8.wrap (48 + (d : Int)) = ((dgt d).toNat : Int) := by
  unfold dgt
  rw [IntKind.wrap_u8', UInt8.toNat_ofNat']
  omega
def decL (x : Nat) : List UInt8 := if x < 10 then [dgt x] else [dgt (x / 10), dgt (x % 10)]
def decB (x : Nat) : ByteArray := ⟨(decL x).toArray⟩
theorem decB_size (x : Nat) : (decB x).size ≤ 2 := by
  show (decL x).toArray.size ≤ 2
  unfold decL
  split <;> simp
def DecRel (w wr : World) (x : Nat) (sz v : Value) : Prop :=
  Below w.heap.size w wr ∧ ((sz = .int .u64 x ∧ v = .slice .none 0 0) ∨ (∃ g cap, sz = .int .u64 (x / 10 : Nat) ∧ v = .slice (some ⟨g, 0, .none⟩) 1 cap ∧ Cv.ByteRow wr g [dgt (x % 10)]) ∨
    (10 ≤ x ∧ ∃ g cap, sz = .int .u64 0 ∧ v = .slice (some ⟨g, 0, .none⟩) 2 cap ∧ Cv.ByteRow wr g [dgt (x / 10), dgt (x % 10)]))
def nilOf (v : Value) : Nat := match v with | .slice .none _ _ => 1 | _ => 0
theorem byteRow_cells {w : World} {g : Nat} {l : List UInt8} (h : Cv.ByteRow w g l) (j : Nat) (u : Value) (hu : (byteV l)[j]? = some u) : w.cell? ((⟨g, 0, .none⟩ : Addr).add j) = some u := by
  have hj : j < l.length := by
    have := (List.getElem?_eq_some_iff.1 hu).1
    simpa [byteV] using this
  rw [Cv.addr_add, (h.2 j hj).1, ← hu]
  simp [byteV, hj]
theorem byteRow_new (w : World) (y : UInt8) (b : Nat) (t : TypeId) (hb : b = w.heap.size) : Cv.ByteRow (w.alloc (.cells #[.int .u8 (y.toNat : Int)] t)) b [y] := by
  subst hb
  have hh := heap_alloc_new w (.cells #[.int .u8 (y.toNat : Int)] t)
  refine ⟨by simp, fun j hj => ⟨?_, frozen_of_row _ _ j _ _ hh⟩⟩
  obtain rfl : j = 0 := by simpa using hj
  rw [cell_of_row _ _ 0 _ _ (0, 0) hh]
  rfl
set_option maxRecDepth 100000 in
set_option maxHeartbeats 4000000 in
theorem decimal_any (x : Nat) (hx : x < 100) (w : World) :
    Calls Try.prog 37 #[.int .i64 x] w fun e w' => e = .returned (.string (decB x)) ∧ Below w.heap.size w w' := by
  obtain ⟨i0, hi, hz0, hz1, hz2⟩ := info_parts infoU8
  have hw0 : IntKind.u64.wrap (x : Int) = (x : Int) := by rw [IntKind.wrap_u64]; omega
  have q0 : decide ((x : Int) < 0) = false := by simp
  go_enter Try.func37, Try.ntmps37
  go_wp2_with fail
  go_loopw [3, 4] (fun sz v wr => DecRel w wr x sz v) (fun sz v _ => (intOf sz).toNat + nilOf v)
  case atStart => exact ⟨Below.refl _ _, .inl ⟨rfl, rfl⟩⟩
  case round =>
    obtain ⟨hbel, hst⟩ := hrel
    have HB := Lib.hid hbel
    clear hbel
    rcases hst with ⟨rfl, rfl⟩ | ⟨g, cap, rfl, rfl, hrow⟩ | ⟨h10, g, cap, rfl, rfl, hrow⟩
    · obtain ⟨d, hd⟩ : ∃ d, x % 10 = d := ⟨_, rfl⟩
      have hd10 : d < 10 := by omega
      have e1 : (x : Int).tmod 10 = (d : Int) := by rw [← hd]; rfl
      obtain ⟨q, hq⟩ : ∃ q, x / 10 = q := ⟨_, rfl⟩
      have e2 : (x : Int).tdiv 10 = (q : Int) := by rw [← hq]; rfl
      have hq10 : q < 10 := by omega
      have hdv := dgt_val d hd10
      obtain ⟨y, hy⟩ : ∃ y, dgt d = y := ⟨_, rfl⟩
      rw [hy] at hdv
      have HQ := Lib.hid hq
      have HD := Lib.hid hd
      have HY := Lib.hid hy
      have hxq : q ≤ x ∧ (x = 0 ∨ q < x) := by omega
      have HXQ := Lib.hid hxq
      have HOWN := Lib.hid (World.ownsRow_lit (base := w.heap.size) (e := 5) (size := 1) wr #[.int .u8 (y.toNat : Int)] 1 HB.out.size (by unfold maxLen; omega) rfl)
      clear hd hq hy hxq
      by_cases hx0 : x = 0
      · subst hx0
        have HO0 := Lib.hid (World.ownsRow_lit (base := w.heap.size) (e := 5) (size := 1) wr #[.int .u8 48] 1 HB.out.size (by unfold maxLen; omega) rfl)
        clear hdv e1 e2
        go_wp2_with (at_builtin; refine wpList_append_own_none rfl _ _ 59 rfl w.heap.size 5 i0 1 Try.underlying59 hi _ 1 _ rfl HO0.out rfl ?_)
        exact ⟨⟨HB.out.alloc HB.out.size _, .inr (.inl ⟨_, 1, rfl, rfl, byteRow_new wr (dgt 0) _ _ rfl⟩)⟩, by simp [intOf, nilOf]⟩
      · have q1 : decide (0 < (x : Int)) = true := by simp; omega
        go_wp2_with (at_builtin; refine wpList_append_own_none rfl _ _ 59 rfl w.heap.size 5 i0 1 Try.underlying59 hi _ 1 _ rfl HOWN.out rfl ?_)
        refine ⟨⟨HB.out.alloc HB.out.size _, .inr (.inl ⟨_, 1, by rw [HQ.out], rfl, by rw [HD.out, HY.out]; exact byteRow_new wr y _ _ rfl⟩)⟩, ?_⟩
        have := HXQ.out
        simp [intOf, nilOf]
        omega
    · obtain ⟨d, hd⟩ : ∃ d, x % 10 = d := ⟨_, rfl⟩
      obtain ⟨q, hq⟩ : ∃ q, x / 10 = q := ⟨_, rfl⟩
      have hq10 : q < 10 := by omega
      rw [hd] at hrow
      obtain ⟨y, hy⟩ : ∃ y, dgt d = y := ⟨_, rfl⟩
      rw [hy] at hrow
      by_cases hq0 : q = 0
      · have hdec : decB x = ⟨[y].toArray⟩ := by
          unfold decB decL
          rw [if_pos (by omega), ← hy, show d = x from by omega]
        have HDEC := Lib.hid hdec
        have hcv := Cv.back_of hrow 1 cap rfl
        rw [hq]
        subst hq0
        clear hrow hdec hd hq hy
        go_wp2_with fail
        go_ret
        exact ⟨by rw [HDEC.out]; rfl, HB.out⟩
      · have q1 : decide (0 < (q : Int)) = true := by simp; omega
        have e1 : (q : Int).tmod 10 = (q : Int) := by
          show ((q % 10 : Nat) : Int) = q
          rw [Nat.mod_eq_of_lt hq10]
        have e2 : (q : Int).tdiv 10 = 0 := by
          show ((q / 10 : Nat) : Int) = 0
          rw [Nat.div_eq_of_lt hq10]
          rfl
        have hdv := dgt_val q hq10
        obtain ⟨y2, hy2⟩ : ∃ y, dgt q = y := ⟨_, rfl⟩
        rw [hy2] at hdv
        have HOWN := Lib.hid (World.ownsRow_lit (base := w.heap.size) (e := 5) (size := 1) wr #[.int .u8 (y2.toNat : Int)] 1 HB.out.size (by unfold maxLen; omega) rfl)
        have hrow2 : Cv.ByteRow (wr.alloc (.cells #[.int .u8 (y2.toNat : Int)] 5)) g [y] := hrow.below ((Below.refl _ _).alloc (Nat.le_refl _) _) hrow.1
        have HROW := Lib.hid hrow2
        have HQ := Lib.hid hq
        have HD := Lib.hid hd
        have HY := Lib.hid hy
        have HY2 := Lib.hid hy2
        rw [hq]
        clear hrow hrow2 hd hq hy hy2
        go_wp2_with (at_builtin; refine wpList_append_own _ rfl _ _ 59 rfl w.heap.size 5 i0 (.int .u8 0) 1 1 Try.underlying59 hi hz0 hz1 hz2 rfl (by decide) _ _ _ rfl HOWN.out ⟨g, 0, .none⟩ 1 cap (byteV [y]) rfl rfl ?ca2 ?ca3 ?ca4 ?ca5 ?ca6 ?_)
        case ca2 =>
          intro j u hu
          have := byteRow_cells HROW.out j u hu
          rw [Cv.addr_add] at this
          first | exact this | (rw [Cv.addr_add]; exact this)
        case ca3 =>
          intro u hu
          simp [byteV] at hu
          subst hu
          rfl
        case ca4 => unfold maxLen; omega
        case ca6 => exact Nat.le_trans HB.out.size (by simp)
        intro v' w5 hown' hgrow _
        have hb5 : Below w.heap.size w w5 := (HB.out.alloc HB.out.size _).grown hgrow (Nat.le_trans HB.out.size (by simp)) fun x hx => (HOWN.out.lt x hx).1
        have hown5 : w5.ownsRow w.heap.size 5 1 v' 2 (byteV [y2, y]) := hown'
        rcases ByteRow.of_owns hown5 rfl with ⟨_, hnil⟩ | ⟨g5, cap5, rfl, hrow5, _⟩
        · cases hnil
        · have HR5 := Lib.hid hrow5
          have HB5 := Lib.hid hb5
          clear hown' hgrow hb5 hown5 hrow5
          go_wp2_with fail
          refine ⟨⟨HB5.out, .inr (.inr ⟨by have := HQ.out; omega, g5, cap5, rfl, rfl, by rw [HQ.out, HD.out, HY.out, HY2.out]; exact HR5.out⟩)⟩, ?_⟩
          simp [intOf, nilOf]
          omega
    · obtain ⟨y, hy⟩ : ∃ y, dgt (x % 10) = y := ⟨_, rfl⟩
      obtain ⟨y2, hy2⟩ : ∃ y, dgt (x / 10) = y := ⟨_, rfl⟩
      rw [hy, hy2] at hrow
      have hdec : decB x = ⟨[y2, y].toArray⟩ := by
        unfold decB decL
        rw [if_neg (by omega), hy, hy2]
      have HDEC := Lib.hid hdec
      have hcv := Cv.back_of hrow 2 cap rfl
      clear hrow hdec hy hy2
      go_wp2_with fail
      go_ret
      exact ⟨by rw [HDEC.out]; rfl, HB.out⟩
end Go.Proofs.Ytbflennacniacaa
