/- The layout's reader: Read and Get, where all is well and small. -/
import Derived.Test.YthhceopnnappgaaGreatLaReadIno
import Derived.Test.YthhceopnnappgaaGreatM37
import Derived.Test.YthhceopnnappgaaGreatM15
import Derived.Test.YthhceopnnappgaaGreatFsReached
import Derived.Deep.RegionLaw
set_option linter.unusedVariables false
set_option linter.unusedSimpArgs false
namespace Go.Proofs.YthhceopnnappgaaGreat
open Go.RowKit
theorem seal_len (l : List UInt8) : (sealL l).length = l.length + 8 := by unfold sealL; rw [List.length_append, eight_len]
theorem seal_body (l : List UInt8) (n : Nat) (hn : l.length = n) : (⟨(sealL l).toArray⟩ : ByteArray).extract 0 n = ⟨l.toArray⟩ := by
  rw [bytes_cut, ← hn]
  unfold sealL
  simp
theorem seal_get (l : List UInt8) (q : Nat) (hq : q < 8) : (sealL l)[l.length + q]? = some (sumN l / 2 ^ (56 - 8 * q)).toUInt8 := by
  unfold sealL
  rw [List.getElem?_append_right (by omega), Nat.add_sub_cancel_left, eight_get _ _ hq]
set_option maxHeartbeats 400000 in
theorem trimPrefix_yes (t p r : ByteArray) (w : World) (ht : t.size ≤ maxLen) (h : p.size ≤ t.size) (e : (t.extract 0 p.size).toList = p.toList) (hr : t.extract p.size t.size = r) :
    Calls Tryz.prog 82 #[.string t, .string p] w fun e w' => e = .returned (.string r) ∧ w = w' := by
  unfold maxLen at ht
  have hp : p.size ≤ 9223372036854775807 := by omega
  go_enter Tryz.func82, Tryz.ntmps82
  go_wp2
  go_ret
  exact ⟨rfl, rfl⟩
def Sta3 (w : World) (g : Nat) (a b c : Value) : Prop := w.heap[g]? = some (.cells #[a, b, c] 26 (0, 0))
theorem Sta3.get {w : World} {g : Nat} {a b c : Value} (h : Sta3 w g a b c) : w.cell? ⟨g, 0, none⟩ = some a ∧ w.cell? ⟨g, 1, none⟩ = some b ∧ w.cell? ⟨g, 2, none⟩ = some c ∧ (∀ j, w.frozen? ⟨g, j, none⟩ = false) ∧ g < w.heap.size := by
  refine ⟨?_, ?_, ?_, fun j => frozen_of_row w g j _ _ h, (Array.getElem?_eq_some_iff.1 h).1⟩ <;> (rw [cell_of_row w g _ _ _ (0, 0) h]; rfl)
theorem Sta3.three {w : World} {g : Nat} {a b c : Value} (h : Sta3 w g a b c) (x y z : Value) :
    ∃ w', ((w.setCell ⟨g, 0, none⟩ x).setCell ⟨g, 1, none⟩ y).setCell ⟨g, 2, none⟩ z = w' ∧ Sta3 w' g x y z ∧ w.grownBy w' (some g) := by
  have h1 : Sta3 (w.setCell ⟨g, 0, none⟩ x) g x b c := heap_setCell_same w g 0 _ _ _ h
  have h2 : Sta3 ((w.setCell ⟨g, 0, none⟩ x).setCell ⟨g, 1, none⟩ y) g x y c := heap_setCell_same _ g 1 _ _ _ h1
  exact ⟨_, rfl, heap_setCell_same _ g 2 _ _ _ h2, grown_trans (grown_trans (grown_setL _ _ _ _) (grown_setL _ _ _ _)) (grown_setL _ _ _ _)⟩
theorem below_grown {w w1 w2 : World} {B : Nat} {r : Option Nat} (h : Below B w w1) (k : w1.grownBy w2 r) (hr : ∀ g, r = some g → B ≤ g) (hB : B ≤ w1.heap.size) : Below B w w2 :=
  ⟨k.os.trans h.os, k.tape.trans h.tape, k.output.trans h.output, Nat.le_trans h.size k.size, fun i hi => (k.block i (by omega) (by intro e; have := hr i e.symm; omega)).trans (h.block i hi)⟩
structure RS (w wr : World) (g v : Nat) (Vi Vm : Value) (rest : List UInt8) : Prop where
  V : Sta3 wr v Vi (.slice none 0 0) Vm
  O : Sta3 wr g (.slice none 0 0) (.slice none 0 0) (.slice none 0 0)
  R : Rd wr (g + 1) rest
  B : Below g w wr
  sz : g + 3 ≤ wr.heap.size
theorem RS.rd {w wr w' : World} {g v : Nat} {Vi Vm : Value} {rest rest' : List UInt8} (h : RS w wr g v Vi Vm rest) (hv : v = g + 2) (hg : wr.grownBy w' (some (g + 1))) (hr : Rd w' (g + 1) rest') : RS w w' g v Vi Vm rest' :=
  ⟨(hg.block v h.V.get.2.2.2.2 (by intro e9; injection e9 with e9; omega)).trans h.V, (hg.block g h.O.get.2.2.2.2 (by intro e9; injection e9 with e9; omega)).trans h.O, hr, below_grown h.B hg (by intro g9 e9; injection e9 with e9; omega) (by have := h.sz; omega), Nat.le_trans h.sz hg.size⟩
theorem RS.low {w wr w' : World} {g v : Nat} {Vi Vm : Value} {rest : List UInt8} (h : RS w wr g v Vi Vm rest) (hv : v = g + 2) {B : Nat} (hb : Below B wr w') (hB : g + 3 ≤ B) : RS w w' g v Vi Vm rest :=
  ⟨(hb.block v (by omega)).trans h.V, (hb.block g (by omega)).trans h.O, (hb.block (g + 1) (by omega)).trans h.R, h.B.trans (hb.mono (by omega)), Nat.le_trans h.sz hb.size⟩
theorem RS.set {w wr : World} {g v : Nat} {Vi Vm : Value} {rest : List UInt8} (h : RS w wr g v Vi Vm rest) (hv : v = g + 2) (k : Nat) (x : Value) (Vi' Vm' : Value) (hk : Sta3 (wr.setCell ⟨v, k, none⟩ x) v Vi' (.slice none 0 0) Vm') : RS w (wr.setCell ⟨v, k, none⟩ x) g v Vi' Vm' rest := by
  have hg := grown_setL wr v k x
  exact ⟨hk, (hg.block g h.O.get.2.2.2.2 (by intro e9; injection e9 with e9; omega)).trans h.O, (hg.block (g + 1) h.R.get.2.2.2 (by intro e9; injection e9 with e9; omega)).trans h.R, below_grown h.B hg (by intro g9 e9; injection e9 with e9; omega) (by have := h.sz; omega), Nat.le_trans h.sz hg.size⟩
theorem KeepT.row {w w' : World} {p : Nat} {t t' : TypeId} {cur : Array Value} (h : w.heap[p]? = some (.cells cur t' (0, 0))) (hg : w.grownBy w' (some p)) (hne : t' ≠ t) : KeepT t w w' :=
  ⟨hg.size, fun b c hb => hg.block b (Array.getElem?_eq_some_iff.1 hb).1 (by
    intro e
    injection e with e
    subst e
    rw [h] at hb
    injection hb with hb
    injection hb with _ hb _
    exact hne hb)⟩
theorem InoRow.grown {B p n : Nat} {w w' : World} {v : Value} {zs : List (Ino × Value)} (h : InoRow B w v n zs) (hg : w.grownBy w' (some p)) (hp : p < B) : InoRow B w' v n zs :=
  ⟨own_kept h.row hg hp, fun z hz => by
    obtain ⟨A, m, c, h1, h2, h3⟩ := h.ents z hz
    exact ⟨A, m, c, h1, h2, h3.grown hg hp⟩⟩
theorem InoRow.snoc {B n : Nat} {w w' : World} {v v' : Value} {zs : List (Ino × Value)} {x : Ino} {E : Option Addr} {m d : Nat} (h : InoRow B w v n zs) (hb : Below w.heap.size w w') {w8 : World} (hr : w8.ownsRow B 42 4 v' (n + 1) (zs.flatMap inoV ++ inoV (x, .slice E m d))) (hk : KeepT 69 w' w8) (hok : SlOk E m d) (he : EntsAt (some B) w E m x.ents) : InoRow B w8 v' (n + 1) (zs ++ [(x, .slice E m d)]) := by
  refine ⟨by simpa [List.flatMap_append] using hr, fun z hz => ?_⟩
  rcases List.mem_append.1 hz with h1 | h1
  · obtain ⟨A, m2, c, h2, h3, h4⟩ := h.ents z h1
    exact ⟨A, m2, c, h2, h3, (h4.below hb).keep hk⟩
  · rw [List.mem_singleton.1 h1]
    exact ⟨E, m, d, rfl, hok, (he.below hb).keep hk⟩
theorem small_sized (made : List Int) (inos : List Ino) (hm : made.length ≤ 8) (hmade : ∀ x ∈ made, 0 ≤ x ∧ x < 128) (hi : inos.length < 128) (hs : ∀ x ∈ inos, SmallI x) : Sized ⟨inos, [], made⟩ := by
  have hb : ∀ l : List Ino, (∀ x ∈ l, SmallI x) → bulkE l ≤ 64 * l.length := by
    intro l
    induction l with
    | nil => intro _; exact Nat.le_refl _
    | cons x l ih =>
      intro h
      have h1 := ih (fun y hy => h y (by simp [hy]))
      have h2 := (h x (by simp)).ents.1
      have h3 : bulkE (x :: l) = x.ents.length + bulkE l := rfl
      rw [h3, List.length_cons]
      omega
  refine ⟨?_, fun x hx => ⟨by have := (hs x hx).data; omega, fun e he => by have := ((hs x hx).ents.2 e he).2.2; omega⟩, fun x hx => ⟨by have := (hs x hx).num; omega, by have := (hs x hx).num; omega, fun e he => ⟨by have := ((hs x hx).ents.2 e he).1; omega, by have := ((hs x hx).ents.2 e he).2.1; omega⟩⟩, fun x hx => ⟨by have := (hmade x hx).1; omega, by have := (hmade x hx).2; omega⟩⟩
  have := hb inos hs
  show inos.length + bulkE inos + 0 + made.length ≤ _
  omega
theorem results_cell_tmp {fn : Func} {p u : Tmp} {ty : TypeId} (h : fn.results = #[.cell p ty, .tmp u]) (tmps : Array Value) (P : Program) (w : World) :
    (results fn tmps).run P w =
      ((asAddr (tmps.getD p undef)).run P w).andThen fun a w₁ => ((loadVar ty a).run P w₁).andThen fun v w₂ => .ok (.tuple #[v, tmps.getD u undef]) w₂ := by
  simp only [results, h]
  simp [Sem.run_bind, Result.andThen]
theorem or_step (Z : Nat) (hZ : Z < 18446744073709551616) : bits .or .u64 (IntKind.u64.wrap (((Z / 256 : Nat) : Int) * 256)) (IntKind.u64.wrap (((Z.toUInt8).toNat : Nat) : Int)) = ((Z : Nat) : Int) := by
  have e1 : (Z.toUInt8).toNat = Z % 256 := rfl
  have e2 : (((Z / 256 : Nat) : Int) * 256) = ((Z / 256 * 256 : Nat) : Int) := by omega
  rw [e1, e2, wrap_u64_nat _ (by omega), wrap_u64_nat _ (by omega), u64_or_nat _ _ (by omega) (by omega)]
  have e3 := Nat.shiftLeft_add_eq_or_of_lt (b := Z % 256) (i := 8) (by omega) (Z / 256)
  rw [Nat.shiftLeft_eq] at e3
  have e4 : Z / 256 * 256 ||| Z % 256 = Z / 256 * 256 + Z % 256 := e3.symm
  rw [e4]
  omega
set_option maxRecDepth 100000 in
set_option maxHeartbeats 4000000 in
theorem read_ok (made : List Int) (inos : List Ino) (w : World) (n : Nat) (hn : (headL made inos).length = n) (hn5 : 5 ≤ n) (hlen : n ≤ 65528) (hm : made.length ≤ 8) (hmade : ∀ x ∈ made, 0 ≤ x ∧ x < 128) (hi : inos.length < 128) (hs : ∀ x ∈ inos, SmallI x) :
    Calls Tryz.prog 63 #[.string ⟨(sealL (headL made inos)).toArray⟩] w fun e w' => ∃ v, e = .returned (.tuple #[v, .int .i64 0]) ∧ StAt (some w.heap.size) w' v ⟨inos, [], made⟩ ∧ Below w.heap.size w w' := by
  obtain ⟨S, hS⟩ : ∃ S : ByteArray, (⟨(sealL (headL made inos)).toArray⟩ : ByteArray) = S := ⟨_, rfl⟩
  obtain ⟨Bd, hBd⟩ : ∃ Bd : ByteArray, (⟨(headL made inos).toArray⟩ : ByteArray) = Bd := ⟨_, rfl⟩
  have hsz : S.size = n + 8 := by
    rw [← hS]
    show (sealL (headL made inos)).toArray.size = _
    rw [List.size_toArray, seal_len, hn]
  have hex : S.extract 0 n = Bd := by rw [← hS, ← hBd, seal_body _ n hn]
  have hbz : Bd.size = n := by rw [← hBd]; show (headL made inos).toArray.size = _; rw [List.size_toArray, hn]
  rw [hS]
  have HS := Lib.hid hS
  have HBD := Lib.hid hBd
  have q1 : decide ((S.size : Int) < 13) = false := by rw [decide_eq_false_iff_not]; omega
  have q2 : decide ((65536 : Int) < (S.size : Int)) = false := by rw [decide_eq_false_iff_not]; omega
  have q3 : (S.size : Int) - 8 = (n : Int) := by omega
  have q4 : (0 : Int) ≤ (n : Int) := by omega
  obtain ⟨HT, hHT⟩ : ∃ HT : List UInt8, numL made.length ++ (madeL made ++ (numL inos.length ++ inosL inos)) = HT := ⟨_, rfl⟩
  have hhead : headL made inos = magicL ++ HT := by
    rw [← hHT]
    unfold headL
    simp only [List.append_assoc]
  have hpre : (Bd.extract 0 4).toList = (⟨#[67, 78, 67, 49]⟩ : ByteArray).toList := by
    rw [← hBd, hhead, bytes_cut]
    rfl
  have htr : Bd.extract 4 Bd.size = ⟨HT.toArray⟩ := by
    rw [hbz, ← hBd, hhead, bytes_cut]
    rw [hhead] at hn
    rw [List.take_of_length_le (by omega)]
    rfl
  have HHT := Lib.hid hHT
  have HN := Lib.hid hn
  clear hS hBd hn
  have HPRE := Lib.hid hpre
  have HTR := Lib.hid htr
  clear hpre htr
  clear hHT hhead
  have q5 : (n : Int) ≤ (S.size : Int) := by omega
  go_enter Tryz.func63, Tryz.ntmps63
  go_wp2_with fail
  obtain ⟨U, hU⟩ : ∃ U, w.alloc (.cells #[.slice none 0 0, .slice none 0 0, .slice none 0 0] 26) = U := ⟨_, rfl⟩
  rw [hU]
  have HBU : Hid (Below w.heap.size w U) := Lib.hid (by rw [← hU]; exact (Below.refl _ _).alloc (Nat.le_refl _) _)
  have HRU : Hid (U.heap[w.heap.size]? = some (.cells #[.slice none 0 0, .slice none 0 0, .slice none 0 0] 26 (0, 0))) := Lib.hid (by rw [← hU]; exact heap_alloc_new w _)
  have hsu : U.heap.size = w.heap.size + 1 := by rw [← hU]; simp
  clear hU
  obtain ⟨H, hH⟩ : ∃ H, sumN (headL made inos) = H := ⟨_, rfl⟩
  have hHlt : H < 18446744073709551616 := by rw [← hH, ← hM_lit]; exact sumN_lt _
  have hget : ∀ q, q < 8 → S.data.toList[n + q]? = some (H / 2 ^ (56 - 8 * q)).toUInt8 := by
    intro q hq
    rw [← HS.out, ← hH, ← HN.out]
    exact seal_get _ q hq
  have HG := Lib.hid hget
  have HH := Lib.hid hH
  clear hget hH
  go_loopw [5, 23] (fun h i wr => ∃ (q : Nat), i = .int .i64 q ∧ q ≤ 8 ∧ h = .int .u64 ((H / 2 ^ (64 - 8 * q) : Nat) : Int) ∧ wr = U) (fun _ i _ => 8 - (intOf i).toNat)
  case atStart => exact ⟨0, rfl, by omega, by rw [Nat.div_eq_of_lt (by simpa using hHlt)]; rfl, rfl⟩
  case round =>
    obtain ⟨q, rfl, hq, rfl, rfl⟩ := hrel
    obtain ⟨Y, hY⟩ : ∃ Y, H / 2 ^ (64 - 8 * q) = Y := ⟨_, rfl⟩
    have hYb : Y < 18446744073709551616 := by rw [← hY]; exact Nat.lt_of_le_of_lt (Nat.div_le_self _ _) hHlt
    rw [hY]
    have HY := Lib.hid hY
    clear hY
    by_cases hlt : q < 8
    · have z0 : (0 : Int) ≤ (n : Int) + (q : Int) := by omega
      have z1 : (n : Int) + (q : Int) < (S.size : Int) := by omega
      have z2 : decide ((q : Int) < 8) = true := by rw [decide_eq_true_eq]; omega
      have z3 : ((n : Int) + (q : Int)).toNat = n + q := by omega
      obtain ⟨Z, hZ⟩ : ∃ Z, H / 2 ^ (56 - 8 * q) = Z := ⟨_, rfl⟩
      have hZb : Z < 18446744073709551616 := by rw [← hZ]; exact Nat.lt_of_le_of_lt (Nat.div_le_self _ _) hHlt
      have hYZ : Y = Z / 256 := by
        rw [← HY.out, ← hZ, Nat.div_div_eq_div_mul, show (256 : Nat) = 2 ^ 8 from rfl, ← Nat.pow_add]
        congr 2
        omega
      have hbyte : S[n + q]'(by omega) = Z.toUInt8 := by
        have h1 := HG.out q hlt
        rw [hZ] at h1
        have h2 : S.data.toList[n + q]'(by have : S.data.toList.length = S.size := Array.length_toList; omega) = Z.toUInt8 := (List.getElem?_eq_some_iff.1 h1).2
        exact h2
      have HBY := Lib.hid hbyte
      have HYZ := Lib.hid hYZ
      have HZ := Lib.hid hZ
      clear hbyte hYZ hZ
      go_wp2_with fail
      refine ⟨⟨q + 1, by simp, by omega, ?_, trivial⟩, by simp [intOf]; omega⟩
      rw [HBY.out, HYZ.out]
      refine (val_int (or_step Z hZb)).trans ?_
      rw [← HZ.out]
      congr 4
      omega
    · have z2 : decide ((q : Int) < 8) = false := by rw [decide_eq_false_iff_not]; omega
      have hq8 : q = 8 := by omega
      subst hq8
      have hYH : Y = H := by have := HY.out; simpa using this.symm
      subst hYH
      go_wp2_with fail
      have hsb : Bd.data.toList = headL made inos := by rw [← HBD.out]
      refine (sum_any Bd _ (by unfold maxLen; omega)).mono ?_
      rintro e1 w1 ⟨rfl, rfl⟩
      rw [hsb, HH.out]
      clear hsb
      go_wp2_with fail
      refine (trimPrefix_yes Bd ⟨#[67, 78, 67, 49]⟩ ⟨HT.toArray⟩ _ (by unfold maxLen; omega) (by rw [hbz]; exact (by omega : 4 ≤ n)) HPRE.out HTR.out).mono ?_
      rintro e2 w2 ⟨rfl, rfl⟩
      go_wp2_with fail
      refine (hasPrefix_yes Bd ⟨#[67, 78, 67, 49]⟩ _ (by unfold maxLen; omega) (by rw [hbz]; exact (by omega : 4 ≤ n)) HPRE.out).mono ?_
      rintro e3 w3 ⟨rfl, rfl⟩
      go_wp2_with fail
      obtain ⟨W, hW⟩ : ∃ W, (wr.alloc (.cells #[.string ⟨HT.toArray⟩, .bool false] 122)).alloc (.cells #[.slice none 0 0, .slice none 0 0, .slice none 0 0] 26) = W := ⟨_, rfl⟩
      rw [hW]
      have hb1 := heap_alloc_new wr (.cells #[.string ⟨HT.toArray⟩, .bool false] 122)
      have hs1 : (wr.alloc (.cells #[.string ⟨HT.toArray⟩, .bool false] 122)).heap.size = w.heap.size + 2 := by simp; omega
      have hb2 := heap_alloc_new (wr.alloc (.cells #[.string ⟨HT.toArray⟩, .bool false] 122)) (.cells #[.slice none 0 0, .slice none 0 0, .slice none 0 0] 26)
      have hsW : W.heap.size = w.heap.size + 3 := by rw [← hW]; simp; omega
      have hrd : Rd W (w.heap.size + 1) HT := by
        rw [← hW, ← hsu]
        exact (Below.heap_alloc _ _ _ (by omega)).trans hb1
      have hV : Sta3 W (w.heap.size + 2) (.slice none 0 0) (.slice none 0 0) (.slice none 0 0) := by
        rw [← hW, ← hs1]
        exact hb2
      have hO : Sta3 W w.heap.size (.slice none 0 0) (.slice none 0 0) (.slice none 0 0) := by
        rw [← hW]
        exact (Below.heap_alloc _ _ _ (by omega)).trans ((Below.heap_alloc _ _ _ (by omega)).trans HRU.out)
      have HBW : Hid (Below w.heap.size w W) := Lib.hid (by rw [← hW]; exact (HBU.out.alloc (by omega) _).alloc (by omega) _)
      rw [← HHT.out] at hrd
      have HRD := Lib.hid hrd
      have HV := Lib.hid hV
      have HO := Lib.hid hO
      clear hb1 hb2 hs1 hW hrd hV hO
      obtain ⟨g, hg⟩ : ∃ g, w.heap.size = g := ⟨_, rfl⟩
      have HGN := Lib.hid hg
      obtain ⟨v0, hv0⟩ : ∃ v0, g + 1 + 1 = v0 := ⟨_, rfl⟩
      have hv2 : v0 = g + 2 := by omega
      rw [hg] at HRD HV HO hsW HBW ⊢
      rw [hv0]
      rw [← hv2] at HV
      clear hg hv0
      have HV2 := Lib.hid hv2
      have hvB : v0 < g + 3 := by omega
      have HRS : Hid (RS w W g v0 (.slice none 0 0) (.slice none 0 0) _) := Lib.hid ⟨HV.out, HO.out, HRD.out, HBW.out, by omega⟩
      clear hv2
      refine (rnum_any (g + 1) made.length _ 8 W HRD.out (by omega) (by omega)).mono ?_
      rintro e4 w4 ⟨rfl, hR4, hg4⟩
      have HRS4 := Lib.hid (HRS.out.rd HV2.out hg4 hR4)
      obtain ⟨m, hm0⟩ : ∃ m, made.length = m := ⟨_, rfl⟩
      rw [hm0] at hm ⊢
      have HM0 := Lib.hid hm0
      have HMADE := Lib.hid hmade
      clear hR4 hg4 hm0 hmade
      obtain ⟨R2, hR2⟩ : ∃ R2 : List UInt8, numL inos.length ++ inosL inos = R2 := ⟨_, rfl⟩
      rw [hR2] at HRS4
      have HR2 := Lib.hid hR2
      clear hR2
      go_wp2_with fail
      go_loopw [51] (fun i wr => ∃ (q : Nat) (Vm : Value), i = .int .i64 q ∧ q ≤ m ∧ RS w wr g v0 (.slice none 0 0) Vm (madeL (made.drop q) ++ R2) ∧ wr.ownsRow (g + 3) 3 1 Vm q ((made.take q).map (Value.int .i64))) (fun i _ => m - (intOf i).toNat)
      case atStart => exact ⟨0, _, rfl, by omega, HRS4.out, by simpa using World.ownsRow_nil _ _ _ _⟩
      case round =>
        obtain ⟨q, Vm, rfl, hq, hrs, hown⟩ := hrel
        obtain ⟨v0c, v1c, v2c, vf, hvl⟩ := hrs.V.get
        have HQ := Lib.hid hrs
        have HW := Lib.hid hown
        clear hrs hown v0c v1c
        by_cases hlt : q < m
        · obtain ⟨x, hx⟩ : ∃ x, made[q]? = some x := ⟨_, List.getElem?_eq_getElem (by have := HM0.out; omega)⟩
          obtain ⟨hx0, hx1⟩ := HMADE.out x (List.mem_of_getElem? hx)
          obtain ⟨X, hX⟩ : ∃ X, x.toNat = X := ⟨_, rfl⟩
          have hXn : x = (X : Int) := by omega
          have hX2 : X < 128 := by omega
          have hrd := HQ.out.R
          rw [madeL_drop _ _ _ hx, hX, List.append_assoc] at hrd
          have HRD2 : Hid (Rd wr.drew (g + 1) _) := Lib.hid hrd
          have HWD : Hid (wr.drew.ownsRow (g + 3) 3 1 Vm q ((made.take q).map (Value.int .i64))) := Lib.hid HW.out
          have HVD : Hid (RS w wr.drew g v0 (.slice none 0 0) Vm _) := Lib.hid (HQ.out.low HV2.out (B := wr.heap.size) ⟨rfl, rfl, rfl, Nat.le_refl _, fun _ _ => rfl⟩ HQ.out.sz)
          have q1 : decide ((q : Int) < (m : Int)) = true := by rw [decide_eq_true_eq]; omega
          have HX := Lib.hid hx
          have HXN := Lib.hid hXn
          clear hrd hx hXn hX hx0 hx1
          go_wp2_with fail
          have hgp : g + 1 < g + 3 := by omega
          obtain ⟨bi, hbi, hbz0, hbz1, hbz2⟩ := info_parts infoNum
          go_region_law (first
            | (refine step_append_lies _ rfl _ _ _ rfl (g + 3) 3 bi (.int .i64 0) 1 8 Tryz.underlying24 hbi hbz0 hbz1 hbz2 rfl (by omega) Vm q _ (by simp [Act.eval, Act.put]) (hw6.alloc _) ⟨w6.heap.size, 0, none⟩ 1 1 [.int .i64 (X : Int)] (by simp [Act.eval, Act.put]) rfl (World.news_of_block (cs := #[.int .i64 (X : Int)]) (t := 3) (fr := (0, 0)) (heap_alloc_new w6 _)) (by simp [Value.oneCell']) (by omega) (by unfold maxLen; omega) (by omega) (by simp; omega) (w6.heap.size + 1) (by simp) ?_
               intro gg cap w7 hown7 hgrow7 hat7 hlt7
               have hx7 : Sta3 w7 v0 _ _ _ := own_other (hw6.alloc _) hgrow7 hvB ((Below.heap_alloc w6 _ _ hx6.get.2.2.2.2).trans hx6)
               obtain ⟨_, _, a7, af7, _⟩ := hx7.get
               have af72 := af7 2)
            | (go_simp
               go_at_call 84
               refine (rnum_any (g + 1) X _ 2147483647 _ HRD2.out hX2 (by omega)).mono ?_
               rintro e6 w6 ⟨rfl, hR6, hg6⟩
               have hrs6 := HVD.out.rd HV2.out hg6 hR6
               have hx6 := hrs6.V
               have a6 := hx6.get.2.2.1
               have a6b : ∀ o, (w6.alloc o).cell? ⟨v0, 2, none⟩ = some Vm := fun o => (World.cell?_of_block (Below.heap_alloc w6 o _ hx6.get.2.2.2.2)).trans a6
               have hw6 := own_kept HWD.out hg6 hgp
               have hbs : g + 3 ≤ w6.heap.size := hrs6.sz))
          all_goals
            have hal7 : Below (g + 3) w6 (w6.alloc (.cells #[.int .i64 (X : Int)] 3)) := (Below.refl _ _).alloc hbs _
            have hrs7 := hrs6.low HV2.out (hal7.grown hgrow7 (by simp; omega) (fun k e9 => (hw6.lt k e9).1)) (Nat.le_refl _)
            have HRS8 := Lib.hid (hrs7.set HV2.out 2 (.slice (some ⟨gg, 0, none⟩) (q + 1) cap) (.slice none 0 0) (.slice (some ⟨gg, 0, none⟩) (q + 1) cap) (heap_setCell_same w7 v0 2 _ _ _ hrs7.V))
            have HW8 := Lib.hid (own_kept hown7 (grown_setL w7 v0 2 (.slice (some ⟨gg, 0, none⟩) (q + 1) cap)) hvB)
            obtain ⟨w8, hw8⟩ : ∃ w8, w7.setCell ⟨v0, 2, none⟩ (.slice (some ⟨gg, 0, none⟩) (q + 1) cap) = w8 := ⟨_, rfl⟩
            rw [hw8] at HRS8 HW8 ⊢
            clear hw8 hrs7 hal7 hrs6 hx7 hx6 a6 a6b a7 af7 af72 hR6 hgrow7 hown7
            go_wp2_with fail
            have htk : made.take (q + 1) = made.take q ++ [x] := by
              rw [List.take_add_one, HX.out]
              rfl
            refine ⟨⟨q + 1, _, by simp, by omega, HRS8.out, ?_⟩, by simp [intOf]; omega⟩
            rw [htk, List.map_append]
            have h9 := HW8.out
            rw [← HXN.out] at h9
            exact h9
        · have q1 : decide ((q : Int) < (m : Int)) = false := by rw [decide_eq_false_iff_not]; omega
          have hqm : q = m := by omega
          subst hqm
          have hdr : madeL (made.drop q) ++ R2 = R2 := by rw [← HM0.out, List.drop_length]; rfl
          have htk : made.take q = made := by rw [← HM0.out, List.take_length]
          rw [hdr] at HQ
          rw [htk] at HW
          obtain ⟨MV, cM, hvM, hcM, hnM, hMV⟩ := IntsAt.of_row HW.out
          have hrd := HQ.out.R
          rw [← HR2.out] at hrd
          have HIM := Lib.hid hMV
          have HRI := Lib.hid hrd
          clear hdr htk hMV hrd v2c vf hvl
          go_wp2_with fail
          refine (rnum_any (g + 1) inos.length (inosL inos) 1024 _ HRI.out hi (by omega)).mono ?_
          rintro e9 w9 ⟨rfl, hR9, hg9⟩
          have HQ9 := Lib.hid (HQ.out.rd HV2.out hg9 hR9)
          have HW9 := Lib.hid (own_kept HW.out hg9 (by omega))
          obtain ⟨ni, hni0⟩ : ∃ ni, inos.length = ni := ⟨_, rfl⟩
          rw [hni0] at hi ⊢
          have HNI := Lib.hid hni0
          have HSM := Lib.hid hs
          clear hR9 hg9 hni0 hs
          subst hvM
          go_wp2_with fail
          obtain ⟨MS, hMS⟩ : ∃ MS, Value.slice MV q cM = MS := ⟨_, rfl⟩
          rw [hMS] at HQ9
          have HMS := Lib.hid hMS
          have HIM9 : Hid (IntsAt (some (g + 3)) w9 MV q made) := Lib.hid (by
            obtain ⟨MV2, cM2, h1, _, _, h2⟩ := IntsAt.of_row HW9.out
            injection h1 with h3
            rw [h3]
            exact h2)
          clear hMS
          go_loopw [63] (fun i wr => ∃ (t : Nat) (Vi : Value) (zs : List (Ino × Value)), i = .int .i64 t ∧ t ≤ ni ∧ RS w wr g v0 Vi MS (inosL (inos.drop t)) ∧ InoRow (g + 3) wr Vi t zs ∧ zs.map Prod.fst = inos.take t ∧ IntsAt (some (g + 3)) wr MV q made) (fun i _ => ni - (intOf i).toNat)
          case atStart => exact ⟨0, _, [], rfl, by omega, HQ9.out, ⟨by simpa using World.ownsRow_nil _ _ _ _, by simp⟩, by simp, HIM9.out⟩
          case round =>
            obtain ⟨t, Vi, zs, rfl, ht, hrs, hrow, hzs, him⟩ := hrel
            obtain ⟨v0c, v1c, v2c, vf, hvl⟩ := hrs.V.get
            obtain ⟨r0c, r1c, rf, hrl⟩ := hrs.R.get
            have HQ := Lib.hid hrs
            have HROW := Lib.hid hrow
            have HZS := Lib.hid hzs
            have HIM := Lib.hid him
            clear hrs hrow hzs him v1c v2c
            by_cases hlt : t < ni
            · obtain ⟨x, hx⟩ : ∃ x, inos[t]? = some x := ⟨_, List.getElem?_eq_getElem (by have := HNI.out; omega)⟩
              have hsx := HSM.out x (List.mem_of_getElem? hx)
              have hrd := HQ.out.R
              rw [inosL_drop _ _ _ hx] at hrd
              have hrl5 : (inosL (inos.drop (t + 1))).length ≤ 65536 := by
                have h1 := HN.out
                have h2 : (inosL (inos.drop (t + 1))).length ≤ (inosL inos).length := by
                  have : ∀ (l : List Ino) (k : Nat), (inosL (l.drop k)).length ≤ (inosL l).length := by
                    intro l
                    induction l with
                    | nil => intro k; simp
                    | cons y ys ih =>
                      intro k
                      cases k with
                      | zero => exact Nat.le_refl _
                      | succ k =>
                        have := ih k
                        show (inosL (ys.drop k)).length ≤ (inodeL y ++ inosL ys).length
                        rw [List.length_append]
                        omega
                  exact this inos (t + 1)
                unfold headL at h1
                rw [List.length_append] at h1
                omega
              have HRD2 : Hid (Rd wr.drew (g + 1) _) := Lib.hid hrd
              have HIR : Hid (InoRow (g + 3) wr.drew Vi t zs) := Lib.hid ⟨HROW.out.row, HROW.out.ents⟩
              have HIMD : Hid (IntsAt (some (g + 3)) wr.drew MV q made) := Lib.hid HIM.out
              have HVD : Hid (RS w wr.drew g v0 Vi MS _) := Lib.hid (HQ.out.low HV2.out (B := wr.heap.size) ⟨rfl, rfl, rfl, Nat.le_refl _, fun _ _ => rfl⟩ HQ.out.sz)
              have q1 : decide ((t : Int) < (ni : Int)) = true := by rw [decide_eq_true_eq]; omega
              have HX := Lib.hid hx
              have HSX := Lib.hid hsx
              clear hrd hx hsx r0c
              go_wp2_with fail
              have hgp : g + 1 < g + 3 := by omega
              obtain ⟨bi, hbi, hbz0, hbz1, hbz2⟩ := info_parts infoIno
              go_region_law (first
                | (refine step_append_lies _ rfl _ _ _ rfl (g + 3) 42 bi (.agg #[.int .i64 0, .bool false, .slice none 0 0, .string ⟨#[]⟩]) 4 56 Tryz.underlying22 hbi hbz0 hbz1 hbz2 rfl (by omega) Vi t _ (by simp [Act.eval, Act.put]) (hw6.row.alloc _) ⟨w6.heap.size, 0, none⟩ 1 1 [.int .i64 x.num, .bool x.dir, .slice E m3 d3, .string x.data] (by simp [Act.eval, Act.put]) rfl (World.news_of_block (cs := #[.int .i64 x.num, .bool x.dir, .slice E m3 d3, .string x.data]) (t := 42) (fr := (0, 0)) (heap_alloc_new w6 _)) (by simp [Value.oneCell']) (by omega) (by unfold maxLen; omega) (by omega) (by simp; omega) (w6.heap.size + 1) (by simp) ?_
                   intro gg cap w7 hown7 hgrow7 hat7 hlt7
                   have hx7 : Sta3 w7 v0 _ _ _ := own_other (hw6.row.alloc _) hgrow7 hvB ((Below.heap_alloc w6 _ _ hx6.get.2.2.2.2).trans hx6)
                   obtain ⟨a7, _, _, af7, _⟩ := hx7.get
                   have af72 := af7 0)
                | (go_simp
                   go_at_call 85
                   refine (rinode_any (g + 1) x _ _ HRD2.out HSX.out hrl5).mono ?_
                   rintro e6 w6 ⟨E, m3, d3, rfl, hok6, hE6, hR6, hg6⟩
                   have hrs6 := HVD.out.rd HV2.out hg6 hR6
                   have hx6 := hrs6.V
                   have a6 := hx6.get.1
                   have a6b : ∀ o, (w6.alloc o).cell? ⟨v0, 0, none⟩ = some Vi := fun o => (World.cell?_of_block (Below.heap_alloc w6 o _ hx6.get.2.2.2.2)).trans a6
                   have hw6 := HIR.out.grown hg6 hgp
                   have hbs : g + 3 ≤ w6.heap.size := hrs6.sz
                   have hE6b := hE6.mono (B' := g + 3) HVD.out.sz
                   have him6 := HIMD.out.keep (KeepT.row HVD.out.R hg6 (by decide))))
              all_goals
                have hal7 : Below (g + 3) w6 (w6.alloc (.cells #[.int .i64 x.num, .bool x.dir, .slice E m3 d3, .string x.data] 42)) := (Below.refl _ _).alloc hbs _
                have hal7b : Below w6.heap.size w6 (w6.alloc (.cells #[.int .i64 x.num, .bool x.dir, .slice E m3 d3, .string x.data] 42)) := (Below.refl _ _).alloc (Nat.le_refl _) _
                have hrs7 := hrs6.low HV2.out (hal7.grown hgrow7 (by simp; omega) (fun k e9 => (hw6.row.lt k e9).1)) (Nat.le_refl _)
                have hir7 := hw6.snoc hal7b hown7 (KeepT.grown (hw6.row.alloc _) hgrow7 (by decide)) hok6 hE6b
                have him7 := (him6.below hal7b).keep (KeepT.grown (hw6.row.alloc _) hgrow7 (by decide))
                have HRS8 := Lib.hid (hrs7.set HV2.out 0 (.slice (some ⟨gg, 0, none⟩) (t + 1) cap) (.slice (some ⟨gg, 0, none⟩) (t + 1) cap) MS (heap_setCell_same w7 v0 0 _ _ _ hrs7.V))
                have HW8 := Lib.hid (hir7.grown (grown_setL w7 v0 0 (.slice (some ⟨gg, 0, none⟩) (t + 1) cap)) hvB)
                have HIM8 := Lib.hid (him7.keep (KeepT.set (k := 0) (u := .slice (some ⟨gg, 0, none⟩) (t + 1) cap) hrs7.V (by decide)))
                obtain ⟨w8, hw8⟩ : ∃ w8, w7.setCell ⟨v0, 0, none⟩ (.slice (some ⟨gg, 0, none⟩) (t + 1) cap) = w8 := ⟨_, rfl⟩
                rw [hw8] at HRS8 HW8 HIM8 ⊢
                clear hw8 hrs7 hal7 hal7b hrs6 hx7 hx6 a6 a6b a7 af7 af72 hR6 hgrow7 hown7 hir7 him7 him6 hE6 hE6b
                go_wp2_with fail
                have htk : inos.take (t + 1) = inos.take t ++ [x] := by
                  rw [List.take_add_one, HX.out]
                  rfl
                refine ⟨⟨t + 1, _, _, by simp, by omega, HRS8.out, HW8.out, ?_, HIM8.out⟩, by simp [intOf]; omega⟩
                rw [htk, List.map_append, HZS.out]
                rfl
            · have q1 : decide ((t : Int) < (ni : Int)) = false := by rw [decide_eq_false_iff_not]; omega
              have hqm : t = ni := by omega
              subst hqm
              have hdr : inosL (inos.drop t) = [] := by rw [← HNI.out, List.drop_length]; rfl
              have htk : inos.take t = inos := by rw [← HNI.out, List.take_length]
              rw [hdr] at HQ r0c
              rw [htk] at HZS
              obtain ⟨AV, cA, hvA, hcA, hnA, hIA⟩ := InosAt.of_row HROW.out
              rw [HZS.out] at hIA
              obtain ⟨b0, b1, b2, bf, _⟩ := HQ.out.V.get
              obtain ⟨d0, d1, d2, df, _⟩ := HQ.out.O.get
              have hms := HMS.out
              subst hvA hms
              obtain ⟨w5, hw5, hi5, hg5⟩ := HQ.out.O.three (.slice AV t cA) (.slice none 0 0) (.slice MV q cM)
              have k5 : ∀ t, 26 ≠ t → KeepT t wr w5 := fun t ht => KeepT.row HQ.out.O hg5 ht
              have HI5 := Lib.hid hi5
              have HA5 := Lib.hid (hIA.keep (k5 _ (by decide)) (k5 _ (by decide)))
              have HM5 := Lib.hid (HIM.out.keep (k5 _ (by decide)))
              have HB5 := Lib.hid (below_grown HQ.out.B hg5 (by intro g9 e9; injection e9 with e9; omega) (by have := HQ.out.sz; omega))
              have HSZ := Lib.hid (small_sized made inos (by rw [HM0.out]; exact hm) HMADE.out (by rw [HNI.out]; exact hi) HSM.out)
              have HG9 := HGN.out
              have HG9' := Lib.hid HG9
              clear hdr htk hIA hi5 hg5 k5 HG9
              go_wp2_with fail
              (try simp only [Exit.inBlock, Exit.then])
              refine bodyPost_ret (v := .tuple #[.agg #[.slice AV t cA, .slice none 0 0, .slice MV q cM], .int .i64 0]) ?_ rfl ?_
              · rw [results_cell_tmp rfl]
                have hl1 := run_loadVar_row (P := Tryz.prog) w5 g _ 26 _ (0, 0) _ HI5.out Tryz.underlying26 rfl (by kernel_rfl)
                simp [asAddr, hl1, Result.andThen]
              · refine ⟨_, rfl, ?_, by rw [HG9'.out]; exact HB5.out⟩
                rw [HG9'.out]
                exact StAt.of_parts (HA5.out.mono (by omega)) ⟨rfl, fun h => absurd h (by omega)⟩ (HM5.out.mono (by omega)) ⟨hcA, fun h => (hnA h).2⟩ ⟨Nat.le_refl _, fun _ => rfl⟩ ⟨hcM, fun h => (hnM h).2⟩ HSZ.out
end Go.Proofs.YthhceopnnappgaaGreat
