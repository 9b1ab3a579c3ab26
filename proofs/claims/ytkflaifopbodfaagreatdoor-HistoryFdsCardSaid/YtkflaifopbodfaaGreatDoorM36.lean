/- Parts of the proof, side by side: ShLib, ShIno, ShHex. -/
import Derived.Test.YtkflaifopbodfaaGreatDoorM01
import Derived.Test.YtkflaifopbodfaaGreatDoorM15
import Derived.Shelf.Strings.OnBuilder
import Derived.Shelf.Strconv.Itoa3
import Derived.Lib.AppendIntMem
import Derived.Lib.ItoaMem
import Derived.Test.YtkflaifopbodfaaGreatDoorM35
import Derived.Test.YtkflaifopbodfaaGreatDoorM05
import Derived.Lib.ItoaWalk
set_option linter.unusedVariables false
set_option linter.unusedSimpArgs false
namespace Go.Proofs.YtkflaifopbodfaaGreatDoor
open Go.Shelf Go.RowKit
def lays156_ren : Go.Shelf.Ren := ⟨fun | 156 => 69 | 165 => 96 | 166 => 39 | 169 => 40 | 240 => 71 | 241 => 125 | 276 => 98 | 277 => 151 | n => n, fun | 31 => 33 | 9 => 9 | 3 => 3 | 4 => 4 | 0 => 0 | 20 => 20 | 72 => 81 | 76 => 93 | 70 => 78 | 37 => 79 | 75 => 91 | 127 => 123 | 164 => 152 | 5 => 5 | 80 => 95 | n => n, fun | n => n⟩
theorem lays156 : Go.Proofs.Lays.n156 Tryz.prog lays156_ren := {
 mixed := by kernel_rfl
 f156 := Tryz.func69.trans (congrArg some (by kernel_rfl))
 f165 := Tryz.func96.trans (congrArg some (by kernel_rfl))
 f166 := Tryz.func39.trans (congrArg some (by kernel_rfl))
 f169 := Tryz.func40.trans (congrArg some (by kernel_rfl))
 f240 := Tryz.func71.trans (congrArg some (by kernel_rfl))
 f241 := Tryz.func125.trans (congrArg some (by kernel_rfl))
 f276 := Tryz.func98.trans (congrArg some (by kernel_rfl))
 f277 := Tryz.func151.trans (congrArg some (by kernel_rfl))
 t0 := Tryz.underlying0
 a0 := Tryz.isAgg0
 z0 := Tryz.sizeOf0
 v0 := Tryz.zeroValue0
 t3 := Tryz.underlying3
 a3 := Tryz.isAgg3
 z3 := Tryz.sizeOf3
 v3 := Tryz.zeroValue3
 t4 := Tryz.underlying4
 a4 := Tryz.isAgg4
 z4 := Tryz.sizeOf4
 v4 := Tryz.zeroValue4
 t9 := Tryz.underlying9
 a9 := Tryz.isAgg9
 z9 := Tryz.sizeOf9
 v9 := Tryz.zeroValue9
 t20 := Tryz.underlying20
 a20 := Tryz.isAgg20
 z20 := Tryz.sizeOf20
 v20 := Tryz.zeroValue20
 t31 := Tryz.underlying33
 a31 := Tryz.isAgg33
 z31 := Tryz.sizeOf33
 v31 := Tryz.zeroValue33
 t37 := Tryz.underlying79
 a37 := Tryz.isAgg79
 z37 := Tryz.sizeOf79
 v37 := Tryz.zeroValue79
 t70 := Tryz.underlying78
 a70 := Tryz.isAgg78
 z70 := Tryz.sizeOf78
 v70 := Tryz.zeroValue78
 t72 := Tryz.underlying81
 a72 := Tryz.isAgg81
 z72 := Tryz.sizeOf81
 v72 := Tryz.zeroValue81
 t75 := Tryz.underlying91
 a75 := Tryz.isAgg91
 z75 := Tryz.sizeOf91
 v75 := Tryz.zeroValue91
 t76 := Tryz.underlying93
 a76 := Tryz.isAgg93
 z76 := Tryz.sizeOf93
 v76 := Tryz.zeroValue93
 t127 := Tryz.underlying123
 a127 := Tryz.isAgg123
 z127 := Tryz.sizeOf123
 v127 := Tryz.zeroValue123
 t164 := Tryz.underlying152
 a164 := Tryz.isAgg152
 z164 := Tryz.sizeOf152
 v164 := Tryz.zeroValue152 }
theorem Builder_Extra_156 : Builder.Extra Tryz.prog lays156_ren := {
 sizeBuilder := by kernel_rfl
 liesBuilder := by kernel_rfl
 t5 := Tryz.underlying5
 a5 := Tryz.isAgg5
 z5 := Tryz.sizeOf5
 v5 := Tryz.zeroValue5
 infoByte := by kernel_rfl
 cellsByte := by kernel_rfl
 sizeByte := by kernel_rfl
 neB5 := by decide }
theorem strings_Join (bk o c : Nat) (xs : List ByteArray) (sep : ByteArray) (w : World) (hcells : ∀ (j : Nat) x, xs[j]? = some x → w.cell? ⟨bk, o + j, none⟩ = some (.string x)) (hbk : bk < w.heap.size) (hN : xs.length ≤ 140737488355328) (hcap : xs.length ≤ c) (hlen : (Lib.join (xs.map (·.data.toList)) sep.data.toList).length ≤ 140737488355328) :
  Calls Tryz.prog 69 #[.slice (some ⟨bk, o, none⟩) xs.length c, .string sep] w fun e w' => e = .returned (.string ⟨(Lib.join (xs.map (·.data.toList)) sep.data.toList).toArray⟩) ∧ Below w.heap.size w w' := Any.strings_Join lays156 Builder_Extra_156 bk o c xs sep w hcells hbk hN hcap hlen
def laysM171_ren : Go.Shelf.Ren := ⟨fun | 171 => 36 | 243 => 70 | 246 => 97 | 283 => 126 | 284 => 127 | 285 => 128 | 286 => 129 | 129 => 153 | 317 => 152 | 318 => 154 | 319 => 155 | 320 => 156 | 337 => 168 | 338 => 169 | n => n, fun | 3 => 3 | 9 => 9 | 2 => 2 | 4 => 4 | 171 => 171 | 0 => 0 | 53 => 172 | 37 => 79 | 5 => 5 | 173 => 175 | 212 => 196 | 51 => 197 | 20 => 20 | 213 => 198 | 46 => 30 | 232 => 215 | 233 => 216 | n => n, fun | 17 => 0 | 18 => 2 | 19 => 3 | n => n⟩
theorem laysM171 : Go.Proofs.LaysM.n171 Tryz.prog laysM171_ren := {
 mixed := by kernel_rfl
 f129 := Tryz.func153.trans (congrArg some (by kernel_rfl))
 f171 := Tryz.func36.trans (congrArg some (by kernel_rfl))
 f243 := Tryz.func70.trans (congrArg some (by kernel_rfl))
 f246 := Tryz.func97.trans (congrArg some (by kernel_rfl))
 f283 := Tryz.func126.trans (congrArg some (by kernel_rfl))
 f284 := Tryz.func127.trans (congrArg some (by kernel_rfl))
 f285 := Tryz.func128.trans (congrArg some (by kernel_rfl))
 f286 := Tryz.func129.trans (congrArg some (by kernel_rfl))
 f317 := Tryz.func152.trans (congrArg some (by kernel_rfl))
 f318 := Tryz.func154.trans (congrArg some (by kernel_rfl))
 f319 := Tryz.func155.trans (congrArg some (by kernel_rfl))
 f320 := Tryz.func156.trans (congrArg some (by kernel_rfl))
 f337 := Tryz.func168.trans (congrArg some (by kernel_rfl))
 f338 := Tryz.func169.trans (congrArg some (by kernel_rfl))
 t0 := Tryz.underlying0
 a0 := Tryz.isAgg0
 z0 := Tryz.sizeOf0
 v0 := Tryz.zeroValue0
 t2 := Tryz.underlying2
 a2 := Tryz.isAgg2
 z2 := Tryz.sizeOf2
 v2 := Tryz.zeroValue2
 t3 := Tryz.underlying3
 a3 := Tryz.isAgg3
 z3 := Tryz.sizeOf3
 v3 := Tryz.zeroValue3
 t4 := Tryz.underlying4
 a4 := Tryz.isAgg4
 z4 := Tryz.sizeOf4
 v4 := Tryz.zeroValue4
 t5 := Tryz.underlying5
 a5 := Tryz.isAgg5
 z5 := Tryz.sizeOf5
 v5 := Tryz.zeroValue5
 t9 := Tryz.underlying9
 a9 := Tryz.isAgg9
 z9 := Tryz.sizeOf9
 v9 := Tryz.zeroValue9
 t20 := Tryz.underlying20
 a20 := Tryz.isAgg20
 z20 := Tryz.sizeOf20
 v20 := Tryz.zeroValue20
 t37 := Tryz.underlying79
 a37 := Tryz.isAgg79
 z37 := Tryz.sizeOf79
 v37 := Tryz.zeroValue79
 t46 := Tryz.underlying30
 a46 := Tryz.isAgg30
 z46 := Tryz.sizeOf30
 v46 := Tryz.zeroValue30
 t51 := Tryz.underlying197
 a51 := Tryz.isAgg197
 z51 := Tryz.sizeOf197
 v51 := Tryz.zeroValue197
 t53 := Tryz.underlying172
 a53 := Tryz.isAgg172
 z53 := Tryz.sizeOf172
 v53 := Tryz.zeroValue172
 t171 := Tryz.underlying171
 a171 := Tryz.isAgg171
 z171 := Tryz.sizeOf171
 v171 := Tryz.zeroValue171
 t173 := Tryz.underlying175
 a173 := Tryz.isAgg175
 z173 := Tryz.sizeOf175
 v173 := Tryz.zeroValue175
 t212 := Tryz.underlying196
 a212 := Tryz.isAgg196
 z212 := Tryz.sizeOf196
 v212 := Tryz.zeroValue196
 t213 := Tryz.underlying198
 a213 := Tryz.isAgg198
 z213 := Tryz.sizeOf198
 t232 := Tryz.underlying215
 a232 := Tryz.isAgg215
 z232 := Tryz.sizeOf215
 v232 := Tryz.zeroValue215
 t233 := Tryz.underlying216
 a233 := Tryz.isAgg216
 z233 := Tryz.sizeOf216
 v233 := Tryz.zeroValue216
 g17 := by kernel_rfl
 g18 := by kernel_rfl
 g19 := by kernel_rfl
 i0 := by kernel_rfl
 i2 := by kernel_rfl
 i3 := by kernel_rfl
 i4 := by kernel_rfl
 i5 := by kernel_rfl
 i9 := by kernel_rfl
 i20 := by kernel_rfl
 i37 := by kernel_rfl
 i46 := by kernel_rfl
 i51 := by kernel_rfl
 i53 := by kernel_rfl
 i171 := by kernel_rfl
 i173 := by kernel_rfl
 i212 := by kernel_rfl
 i232 := by kernel_rfl
 i233 := by kernel_rfl
 m17 := by kernel_rfl
 m18 := by kernel_rfl
 m19 := by kernel_rfl }
open Go.RowKit Go.Sort Go.Lib in
theorem strconv_Itoa (n : Int) (h0 : -9223372036854775808 ≤ n) (h1 : n ≤ 9223372036854775807) (w : World) (htab : Lib.TabIs Tryz.prog w "internal/strconv.uint64pow10" .u64 Lib.pow10Tab) :
  Calls Tryz.prog 36 #[.int .i64 n] w fun e w' => e = .returned (.string ⟨(Lib.itoa n).toArray⟩) ∧ ∃ k os, w' = grow (w.drewN k) os := Any.strconv_Itoa laysM171 n h0 h1 w htab
def Tab (w : World) : Prop := Lib.TabIs Tryz.prog w "internal/strconv.uint64pow10" .u64 Lib.pow10Tab
theorem Tab.below {w w' : World} (h : Tab w) (hb : Below w.heap.size w w') : Tab w' := Lib.tabBelow_of_tabIs h w' hb
theorem Tab.mono {B : Nat} {w w' : World} (h : Tab w) (hb : Below B w w') (hB : w.heap.size ≤ B) : Tab w' := h.below (hb.mono hB)
theorem itoa_any (n : Int) (h0 : 0 ≤ n) (h1 : n ≤ 9223372036854775807) (w : World) (h : Tab w) :
  Calls Tryz.prog 36 #[.int .i64 n] w fun e w' => e = .returned (.string (txt (decN n))) ∧ Below w.heap.size w w' := by
 refine (strconv_Itoa n (by omega) h1 w h).mono ?_
 rintro e w' ⟨rfl, k, os, rfl⟩
 refine ⟨?_, ?_⟩
 ·obtain ⟨u, rfl⟩ : ∃ u : Nat, n = (u : Int) := ⟨n.toNat, by omega⟩
  rw [Lib.itoa_nonneg]
  rfl
 ·exact ⟨rfl, rfl, rfl, by simp [Go.Sort.grow, World.heap_drewN], fun j hj => by simp [Go.Sort.grow, World.heap_drewN, Array.getElem?_append, hj]⟩
end Go.Proofs.YtkflaifopbodfaaGreatDoor
namespace Go.Proofs.YtkflaifopbodfaaGreatDoor
open Go.RowKit
theorem ino1_any (x1 : Value) (E : Option Addr) (m d : Nat) (a num : Int) (bx : Nat) (w : World) (dir : Bool) (data : ByteArray) (h1 : x1 = .int .i64 a) (hb : w.cell? ⟨bx, 0, .none⟩ = some (.int .i64 num)) (hlt : bx < w.heap.size) :
  Calls Tryz.prog 124 #[.agg #[x1, .bool dir, .slice E m d, .string data], .pointer (some ⟨bx, 0, .none⟩)] w fun e w' => e = .returned (.bool (a == num)) ∧ Below w.heap.size w w' := by
 subst h1
 obtain ⟨V2, hV2, v0, v1, v2, v3, hal4, hlt4⟩ := box_ino w a dir E m d data
 have z := (hal4.cell (p := ⟨bx, 0, .none⟩) hlt).trans hb
 have HAL := Lib.hid hal4
 clear hal4 v1 v2 v3
 go_enter Tryz.func124, Tryz.ntmps124
 go_wp2_with fail
 go_ret
 exact ⟨rfl, HAL.out⟩
set_option maxRecDepth 100000 in
set_option maxHeartbeats 4000000 in
theorem indexino_any (is : List Ino) (A : Option Addr) (n c : Nat) (num : Int) (bx : Nat) (w : World) (hI : InosAt none w A n is) (hn : n ≤ 1099511627776) (hb : w.cell? ⟨bx, 0, .none⟩ = some (.int .i64 num)) (hblt : bx < w.heap.size) (h0 : 0 ≤ atV is num) :
  Calls Tryz.prog 123 #[.slice A n c, .func (.func 124) #[] #[.pointer (some ⟨bx, 0, .none⟩)]] w fun e w' => e = .returned (.int .i64 (atV is num)) ∧ Below w.heap.size w w' := by
 obtain ⟨R, hR⟩ : ∃ R, atG is num 0 = R := ⟨_, rfl⟩
 have hR0 : 0 ≤ R := by rw [← hR]; exact h0
 have hR2 : atV is num = R := hR
 rw [hR2]
 have HI := Lib.hid hI
 have HR := Lib.hid hR
 have HR0 := Lib.hid hR0
 clear hI hR h0 hR2 hR0
 go_enter Tryz.func123, Tryz.ntmps123
 go_wp2_with fail
 go_loopw [8] (fun j wr => ∃ q : Nat, j = .int .i64 q ∧ q ≤ n ∧ Below w.heap.size w wr ∧ atG (is.drop q) num q = R) (fun j _ => n - (intOf j).toNat)
 case atStart => exact ⟨0, rfl, by omega, Below.refl _ _, HR.out⟩
 case round =>
  obtain ⟨q, rfl, hq, hbel, hc⟩ := hrel
  have HB := Lib.hid hbel
  have HIr := Lib.hid (HI.out.below hbel)
  have hbr := (hbel.cell (p := ⟨bx, 0, .none⟩) hblt).trans hb
  have hbl : bx < wr.heap.size := Nat.lt_of_lt_of_le hblt hbel.size
  have HBR := Lib.hid hbr
  clear hbel hbr
  by_cases hlt : q < n
  ·obtain ⟨g, off, x, E, m, d, rfl, hg, hx, hd, hmem, c0, c1, c2, hok, hE, c3⟩ := HIr.out.get q hlt
   rw [hd, atG] at hc
   have HC := Lib.hid hc
   have k0 : (0 : Int) ≤ (q : Int) := by omega
   clear hc hd hmem hx hok hE
   go_wp2_with fail
   refine (ino1_any _ E m d x.num num bx _ x.dir x.data rfl HBR.out hbl).mono ?_
   rintro e5 w5 ⟨rfl, hb5⟩
   have HB5 := Lib.hid (HB.out.trans (hb5.mono HB.out.size))
   clear hb5 c0 c1 c2 c3
   obtain ⟨bb, hbb⟩ : ∃ bb, (x.num == num) = bb := ⟨_, rfl⟩
   rw [hbb]
   have hc := HC.out
   cases bb
   ·have hnx : ¬ x.num = num := by rw [beq_eq_false_iff_ne] at hbb; exact hbb
    rw [if_neg hnx] at hc
    have HC2 := Lib.hid hc
    clear hc hbb hnx
    go_wp2_with fail
    go_roundw
    case rel => exact ⟨q + 1, by go_num, by omega, HB5.out, HC2.out⟩
    case measure => simp [intOf]; omega
   ·have hnx : x.num = num := by rw [beq_iff_eq] at hbb; exact hbb
    rw [if_pos hnx] at hc
    have HC2 := Lib.hid hc
    clear hc hbb hnx
    go_wp2_with fail
    go_ret
    exact ⟨by rw [← HC2.out]; rfl, HB5.out⟩
  ·have hnil : is.drop q = [] := List.drop_eq_nil_of_le (by have := HI.out.1; omega)
   rw [hnil, atG] at hc
   exact absurd HR0.out (by omega)
theorem shino_any (b q : Nat) (s : St) (num : Int) (wB w : World) (hPB : PtrAt wB q s) (hBw : Below wB.heap.size wB w) (hc : w.cell? ⟨b, 0, none⟩ = some (.pointer (some ⟨q, 0, none⟩))) (hbw : b < w.heap.size) (x : Ino) (hx : inoAt s.inos (atV s.inos num) = some x) :
  Calls Tryz.prog 95 #[.pointer (some ⟨b, 0, none⟩), .int .i64 num] w fun e w' => ∃ g o E m d, e = .returned (.pointer (some ⟨g, o, none⟩)) ∧ Below w.heap.size w w' ∧ g < wB.heap.size ∧
   wB.cell? ⟨g, o + 1, none⟩ = some (.bool x.dir) ∧ wB.cell? ⟨g, o + 2, none⟩ = some (.slice E m d) ∧ wB.cell? ⟨g, o + 3, none⟩ = some (.string x.data) ∧ EntsAt none wB E m x.ents := by
 obtain ⟨A, n, c, E, m, d, D, k, e, hp0, c0, c1, c2, hI0, hD, hM, hn, hm, _⟩ := hPB.val
 have h0 : 0 ≤ atV s.inos num := by
  unfold inoAt at hx
  split at hx
  ·cases hx
  ·omega
 obtain ⟨K, hK⟩ : ∃ K : Nat, atV s.inos num = (K : Int) := ⟨(atV s.inos num).toNat, by omega⟩
 rw [hK, inoAt_nat] at hx
 have hKn : K < n := by
  have := (List.getElem?_eq_some_iff.1 hx).1
  have := hI0.1
  omega
 obtain ⟨g, off, x', E2, m2, d2, rfl, hg, hx', hd, hmem, y0, y1, y2, hok, hE, y3⟩ := hI0.get K hKn
 rw [hx] at hx'
 cases hx'
 have hI := hI0.below hBw
 have hp : q < w.heap.size := Nat.lt_of_lt_of_le hp0 hBw.size
 have c0' := (hBw.cell (p := ⟨q, 0, .none⟩) hp0).trans c0
 obtain ⟨W, hW⟩ : ∃ W, w.alloc (.cells #[.int .i64 num] 3) = W := ⟨_, rfl⟩
 have hal : Below w.heap.size w W := by rw [← hW]; exact (Below.refl _ _).alloc (Nat.le_refl _) _
 have hsz : W.heap.size = w.heap.size + 1 := by rw [← hW]; simp
 have hbx : W.cell? ⟨w.heap.size, 0, .none⟩ = some (.int .i64 num) := by rw [← hW]; exact World.cell?_alloc_mark w _ _ (0, 0) _
 have b0 := (hal.cell (p := ⟨b, 0, .none⟩) hbw).trans hc
 have x1 := (hal.cell (p := ⟨q, 0, .none⟩) hp).trans c0'
 have HID := Lib.hid (hI.below hal)
 have HAL := Lib.hid hal
 have hlt : w.heap.size < W.heap.size := by omega
 have HC := Lib.hid hbx
 have HLT := Lib.hid hlt
 have HY := Lib.hid (And.intro y1 (And.intro y2 y3))
 have HE := Lib.hid hE
 have k0 : (0 : Int) ≤ (K : Int) := by omega
 have k1 : (K : Int) < (n : Int) := by omega
 have HK := Lib.hid hK
 have HH0 := Lib.hid h0
 have hqb := Lib.hid hbw
 have hqp := Lib.hid hp
 have HB0 := Lib.hid hc
 have HC0 := Lib.hid c0'
 have HG := Lib.hid hg
 clear hI hI0 hD hM hal c0 c0' c1 c2 hsz hbx hlt y0 y1 y2 y3 hE hok hd hmem hx hK h0 hbw hp hp0 hc hg hPB hBw
 go_enter Tryz.func95, Tryz.ntmps95
 go_wp2_with fail
 refine (indexino_any s.inos (some ⟨g, off, none⟩) n c num w.heap.size W HID.out hn HC.out HLT.out HH0.out).mono ?_
 rintro e5 w5 ⟨rfl, hbel⟩
 rw [HK.out]
 have hbw5 : Below w.heap.size w w5 := Cv.next HAL.out hbel
 have b5 := (hbw5.cell (p := ⟨b, 0, .none⟩) hqb.out).trans HB0.out
 have x5 := (hbw5.cell (p := ⟨q, 0, .none⟩) hqp.out).trans HC0.out
 have HB5 := Lib.hid hbw5
 clear hbel hbw5 b0 x1
 go_wp2_with fail
 go_ret
 exact ⟨g, off + K * 4, E2, m2, d2, rfl, HB5.out, HG.out, HY.out.1, HY.out.2.1, HY.out.2.2, HE.out⟩
theorem cat_list (a b : List UInt8) : (⟨a.toArray⟩ : ByteArray) ++ ⟨b.toArray⟩ = ⟨(a ++ b).toArray⟩ := by
 apply ByteArray.ext
 apply Array.ext'
 simp
def lineW (xs : List ByteArray) : List UInt8 := Lib.join (xs.map (·.data.toList)) [32] ++ [10]
set_option maxRecDepth 100000 in
set_option maxHeartbeats 2000000 in
theorem shline_any (B b k c : Nat) (sp : Value) (l : List UInt8) (xs : List ByteArray) (w : World) (h : BldS B b sp l w) (hc : ∀ (j : Nat) x, xs[j]? = some x → w.cell? ⟨k, 0 + j, none⟩ = some (.string x)) (hk : k < w.heap.size) (hcap : xs.length ≤ c) (hxl : xs.length ≤ 140737488355328) (hBw : B ≤ w.heap.size) (hlen : l.length + (lineW xs).length ≤ 140737488355328) :
  Calls Tryz.prog 35 #[.pointer (some ⟨b, 0, none⟩), .slice (some ⟨k, 0, none⟩) xs.length c] w fun e w' => e = .returned (.tuple #[]) ∧ BldS B b sp (l ++ lineW xs) w' ∧ Wr B b w w' := by
 have HB0 := Lib.hid h
 have HC := Lib.hid hc
 obtain ⟨J, hJ⟩ : ∃ J, Lib.join (xs.map (·.data.toList)) (⟨#[32]⟩ : ByteArray).data.toList = J := ⟨_, rfl⟩
 have hline : lineW xs = J ++ [10] := by rw [← hJ]; rfl
 have s2 : l.length + (J.length + 1) ≤ 140737488355328 := by
  have h1 : (lineW xs).length = J.length + 1 := by rw [hline, List.length_append]; rfl
  omega
 have s3 : J.length ≤ 140737488355327 := by omega
 rw [hline]
 have hjn := strings_Join k 0 c xs ⟨#[32]⟩ w.drew HC.out hk hxl hcap (by have h1 := congrArg List.length hJ; omega)
 rw [hJ] at hjn
 have HJN := Lib.hid hjn
 have hws : ∀ w1, BldS B b sp l w1 → B ≤ w1.heap.size → Calls Tryz.prog 39 #[.pointer (some ⟨b, 1, none⟩), .string ((⟨J.toArray⟩ : ByteArray) ++ ⟨#[10]⟩)] w1 fun e w' => (∃ v, e = .returned v) ∧ BldS B b sp (l ++ (J ++ [10])) w' ∧ Wr B b w1 w' := by
  intro w1 h1 h2
  obtain ⟨S, hS⟩ : ∃ S : ByteArray, (⟨J.toArray⟩ : ByteArray) ++ ⟨#[10]⟩ = S := ⟨_, rfl⟩
  have hsd : S.data.toList = J ++ [10] := by rw [← hS, cat_list J [10]]
  have hsl : S.data.toList.length = S.size := Array.length_toList
  have hs5 : l.length + S.size ≤ 140737488355328 := by
   have h3 := congrArg List.length hsd
   simp only [List.length_append, List.length_cons, List.length_nil] at h3
   omega
  rw [hS, ← hsd]
  refine (writestring_anyS B b sp l S w1 h1 hs5 h2).mono ?_
  rintro e3 w3 ⟨rfl, hbl3, hw3⟩
  exact ⟨⟨_, rfl⟩, hbl3, hw3⟩
 have HWS := Lib.hid hws
 have HBW := Lib.hid hBw
 clear hjn h hc hlen hline hJ hws s2 hBw
 go_enter Tryz.func35, Tryz.ntmps35
 go_wp2_with fail
 go_region_with (first
  | (go_at_call 69; refine HJN.out.mono ?_; rintro e1 w1 ⟨rfl, hb1⟩; have hb2 : Below w.heap.size w w1 := (Below.drew (Below.refl _ _)).trans hb1; have hs1 := HB0.out.keep hb2)
  | (go_at_call 39; refine (HWS.out _ hs1 (Nat.le_trans HBW.out hb2.size)).mono ?_; rintro e3 w3 ⟨⟨v3, rfl⟩, hbl3, hw3⟩))
 go_end0
 exact ⟨rfl, hbl3, (Wr.of_below hb2 HBW.out).trans hw3⟩
def tabH : ByteArray := ⟨#[48, 49, 50, 51, 52, 53, 54, 55, 56, 57, 97, 98, 99, 100, 101, 102]⟩
theorem tabH_fin : ∀ n : Fin 16, tabH.data.toList.getD n.val 0 = hexD n.val := by decide +kernel
theorem tabH_at (n : Nat) (h : n < 16) {hh : n < (⟨#[48, 49, 50, 51, 52, 53, 54, 55, 56, 57, 97, 98, 99, 100, 101, 102]⟩ : ByteArray).size} : (⟨#[48, 49, 50, 51, 52, 53, 54, 55, 56, 57, 97, 98, 99, 100, 101, 102]⟩ : ByteArray)[n]'hh = hexD n := by
 rw [← tabH_fin ⟨n, h⟩]
 exact Lib.getD_at tabH n hh
theorem freshB (w : World) : BldH w.heap.size w.heap.size [] (w.alloc (.cells #[.pointer none, .slice none 0 0] 81)) :=
 Lib.IsBuilderF.of (Lib.fresh_isBuilder _ _ w)
theorem hexL_take (l : List UInt8) (q : Nat) (h : q < l.length) : hexL (l.take (q + 1)) = hexL (l.take q) ++ [hexD ((l.getD q 0).toNat / 16)] ++ [hexD ((l.getD q 0).toNat % 16)] := by
 induction l generalizing q with
 | nil => simp at h
 | cons a l ih =>
  cases q with
  | zero => simp [hexL]
  | succ q =>
   have := ih q (by simpa using h)
   simp only [List.take_succ_cons, hexL, List.getD_cons_succ]
   rw [this]
   simp
set_option maxRecDepth 100000 in
set_option maxHeartbeats 2000000 in
theorem hexsh_any (s : ByteArray) (w : World) (hs : s.size ≤ 1048576) :
  Calls Tryz.prog 37 #[.string s] w fun e w' => e = .returned (.string (txt (hexT s.data.toList))) ∧ Below w.heap.size w w' := by
 have hll : s.data.toList.length = s.size := Array.length_toList
 have HLL := Lib.hid hll
 clear hll
 go_enter Tryz.func37, Tryz.ntmps37
 go_wp2_with fail
 ·rename_i he
  go_ret
  refine ⟨?_, Below.refl _ _⟩
  rw [ByteArray.toList_eq] at he
  unfold hexT
  rw [if_pos (List.isEmpty_iff.1 he)]
  rfl
 ·rename_i he _ _
  rw [ByteArray.toList_eq] at he
  have hne : s.data.toList ≠ [] := fun e => by rw [e] at he; cases he
  have HNE := Lib.hid hne
  clear he hne
  go_loopw [9] (fun v wr => ∃ q : Nat, v = .int .i64 q ∧ q ≤ s.size ∧ BldH w.heap.size w.heap.size (hexL (s.data.toList.take q)) wr ∧ Below w.heap.size w wr) (fun v _ => s.size - (intOf v).toNat)
  case atStart => exact ⟨0, rfl, by omega, freshB w, (Below.refl _ _).alloc (Nat.le_refl _) _⟩
  case round =>
   obtain ⟨q, rfl, hq, hbl, hbel⟩ := hrel
   have HBL := Lib.hid hbl
   have HB := Lib.hid hbel
   clear hbl hbel
   by_cases hlt : q < s.size
   ·have q1 : decide ((q : Int) < (s.size : Int)) = true := by rw [decide_eq_true_eq]; omega
    have k0 : (0 : Int) ≤ (q : Int) := by omega
    have hb : s[q].toNat < 256 := UInt8.toNat_lt _
    have k1 : (0 : Int) ≤ (s[q].toNat : Int) / 16 := by omega
    have k2 : (s[q].toNat : Int) / 16 < 16 := by omega
    go_wp2_with fail
    refine (writebyte_anyH _ _ _ (hexD (s[q].toNat / 16)) _ _ (by rw [tabH_at _ (by omega)]) HBL.out (by rw [hexL_len, List.length_take]; omega) HB.out.size).mono ?_
    rintro e1 w1 ⟨rfl, hbl1, hb1⟩
    have HBL1 := Lib.hid hbl1
    have HB1 := Lib.hid (HB.out.trans hb1.below)
    clear hbl1 hb1
    go_wp2_with fail
    refine (writebyte_anyH _ _ _ (hexD (s[q].toNat % 16)) _ _ (by rw [tabH_at _ (by omega)]) HBL1.out (by rw [List.length_append, hexL_len, List.length_take]; simp; omega) HB1.out.size).mono ?_
    rintro e2 w2 ⟨rfl, hbl2, hb2⟩
    have hgq : s.data.toList.getD q 0 = s[q] := (Lib.getD_at s q hlt).symm
    have hbl3 : BldH w.heap.size w.heap.size (hexL (s.data.toList.take (q + 1))) w2 := by
     rw [hexL_take _ _ (by have := HLL.out; omega), hgq]
     exact hbl2
    have HBL2 := Lib.hid hbl3
    have HB2 := Lib.hid (HB1.out.trans hb2.below)
    clear hbl2 hb2 hbl3 hgq
    go_wp2_with fail
    go_roundw
    case rel => exact ⟨q + 1, by go_num, by omega, HBL2.out, HB2.out⟩
    case measure => simp [intOf]; omega
   ·have q1 : decide ((q : Int) < (s.size : Int)) = false := by rw [decide_eq_false_iff_not]; omega
    have hall : s.data.toList.take q = s.data.toList := List.take_of_length_le (by have := HLL.out; omega)
    have hne := HNE.out
    have hbl := HBL.out
    rw [hall] at hbl
    have hx : hexL s.data.toList ≠ [] := fun e => by
     have := congrArg List.length e
     rw [hexL_len] at this
     exact hne (List.eq_nil_of_length_eq_zero (by rw [List.length_nil] at this; omega))
    have HBL2 := Lib.hid hbl
    have HX := Lib.hid hx
    have HT : Hid (hexT s.data.toList = hexL s.data.toList) := Lib.hid (by unfold hexT; rw [if_neg hne])
    clear hbl hall hx hne
    go_wp2_with fail
    refine (string_anyH _ _ _ _ HBL2.out HX.out).mono ?_
    rintro e1 w1 ⟨rfl, hbl1, hb1⟩
    have HB1 := Lib.hid (HB.out.trans hb1.below)
    clear hbl1 hb1
    go_wp2_with fail
    go_ret
    refine ⟨?_, HB1.out⟩
    rw [HT.out]
    rfl
end Go.Proofs.YtkflaifopbodfaaGreatDoor
