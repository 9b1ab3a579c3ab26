/- Parts of the proof, side by side: ConLib, ConNum. -/
import Derived.Test.YtilkhmhgjbhfnaaGreatDoorM01
import Derived.Test.YtilkhmhgjbhfnaaGreatDoorM15
import Derived.Shelf.Small.Strs
import Derived.Shelf.Strings.Prefix
import Derived.Shelf.Strings.Split
import Derived.Shelf.Strings.FieldsFuncAny
import Derived.Shelf.Strconv.Atoi
import Derived.Lib.AtoiErrMem
import Derived.Test.YtilkhmhgjbhfnaaGreatDoorM02
set_option linter.unusedVariables false
set_option linter.unusedSimpArgs false
namespace Go.Proofs.YtilkhmhgjbhfnaaGreatDoor
open Go.Shelf Go.RowKit Go.Lib
def lays137_ren : Go.Shelf.Ren := ⟨fun | 137 => 80 | 217 => 110 | 266 => 163 | n => n, fun | 9 => 9 | 5 => 5 | 3 => 3 | n => n, fun | n => n⟩
theorem lays137 : Go.Proofs.Lays.n137 Tryz.prog lays137_ren := {
 mixed := by kernel_rfl
 f137 := Tryz.func80.trans (congrArg some (by kernel_rfl))
 f217 := Tryz.func110.trans (congrArg some (by kernel_rfl))
 f266 := Tryz.func163.trans (congrArg some (by kernel_rfl))
 t3 := Tryz.underlying3
 a3 := Tryz.isAgg3
 z3 := Tryz.sizeOf3
 v3 := Tryz.zeroValue3
 t5 := Tryz.underlying5
 a5 := Tryz.isAgg5
 z5 := Tryz.sizeOf5
 v5 := Tryz.zeroValue5
 t9 := Tryz.underlying9
 a9 := Tryz.isAgg9
 z9 := Tryz.sizeOf9
 v9 := Tryz.zeroValue9 }
theorem strings_IndexByte (s : ByteArray) (c : Int) (w : World) :
  Calls Tryz.prog 80 #[.string s, .int .u8 c] w fun e w' => e = .returned (.int .i64 (Lib.indexByte s.data.toList c.toNat.toUInt8)) ∧ w' = w := Any.strings_IndexByte lays137 s c w
def lays172_ren : Go.Shelf.Ren := ⟨fun | 172 => 79 | 244 => 125 | 245 => 126 | 247 => 179 | 279 => 180 | 280 => 181 | 281 => 182 | 282 => 183 | 287 => 207 | 316 => 208 | 171 => 32 | 205 => 209 | 321 => 218 | 322 => 219 | 243 => 54 | 246 => 75 | 283 => 114 | 284 => 115 | 285 => 116 | 286 => 117 | 129 => 166 | 317 => 165 | 318 => 167 | 319 => 168 | 320 => 169 | 337 => 201 | 338 => 202 | n => n, fun | 9 => 9 | 3 => 3 | 75 => 58 | 76 => 59 | 4 => 4 | 5 => 5 | 167 => 218 | 37 => 37 | 0 => 0 | 85 => 219 | 2 => 2 | 168 => 221 | 53 => 70 | 175 => 242 | 46 => 42 | 210 => 245 | 127 => 91 | 145 => 257 | 143 => 255 | 21 => 21 | 171 => 158 | 173 => 161 | 212 => 210 | 51 => 108 | 20 => 20 | 213 => 211 | 232 => 251 | 233 => 252 | 80 => 62 | n => n, fun | 15 => 4 | 16 => 5 | 17 => 3 | 18 => 6 | 19 => 7 | n => n⟩
theorem lays172 : Go.Proofs.Lays.n172 Tryz.prog lays172_ren := {
 mixed := by kernel_rfl
 f129 := Tryz.func166.trans (congrArg some (by kernel_rfl))
 f171 := Tryz.func32.trans (congrArg some (by kernel_rfl))
 f172 := Tryz.func79.trans (congrArg some (by kernel_rfl))
 f205 := Tryz.func209.trans (congrArg some (by kernel_rfl))
 f243 := Tryz.func54.trans (congrArg some (by kernel_rfl))
 f244 := Tryz.func125.trans (congrArg some (by kernel_rfl))
 f245 := Tryz.func126.trans (congrArg some (by kernel_rfl))
 f246 := Tryz.func75.trans (congrArg some (by kernel_rfl))
 f247 := Tryz.func179.trans (congrArg some (by kernel_rfl))
 f279 := Tryz.func180.trans (congrArg some (by kernel_rfl))
 f280 := Tryz.func181.trans (congrArg some (by kernel_rfl))
 f281 := Tryz.func182.trans (congrArg some (by kernel_rfl))
 f282 := Tryz.func183.trans (congrArg some (by kernel_rfl))
 f283 := Tryz.func114.trans (congrArg some (by kernel_rfl))
 f284 := Tryz.func115.trans (congrArg some (by kernel_rfl))
 f285 := Tryz.func116.trans (congrArg some (by kernel_rfl))
 f286 := Tryz.func117.trans (congrArg some (by kernel_rfl))
 f287 := Tryz.func207.trans (congrArg some (by kernel_rfl))
 f316 := Tryz.func208.trans (congrArg some (by kernel_rfl))
 f317 := Tryz.func165.trans (congrArg some (by kernel_rfl))
 f318 := Tryz.func167.trans (congrArg some (by kernel_rfl))
 f319 := Tryz.func168.trans (congrArg some (by kernel_rfl))
 f320 := Tryz.func169.trans (congrArg some (by kernel_rfl))
 f321 := Tryz.func218.trans (congrArg some (by kernel_rfl))
 f322 := Tryz.func219.trans (congrArg some (by kernel_rfl))
 f337 := Tryz.func201.trans (congrArg some (by kernel_rfl))
 f338 := Tryz.func202.trans (congrArg some (by kernel_rfl))
 t0 := Tryz.underlying0
 a0 := Tryz.isAgg0
 z0 := Tryz.sizeOf0
 v0 := Tryz.zeroValue0
 t2 := Tryz.underlying2
 a2 := Tryz.isAgg2
 z2 := Tryz.sizeOf2
 v2 := Tryz.zeroValue2
 t3 := Tryz.underlying3
 a3 := Tryz.isAgg3
 z3 := Tryz.sizeOf3
 v3 := Tryz.zeroValue3
 t4 := Tryz.underlying4
 a4 := Tryz.isAgg4
 z4 := Tryz.sizeOf4
 v4 := Tryz.zeroValue4
 t5 := Tryz.underlying5
 a5 := Tryz.isAgg5
 z5 := Tryz.sizeOf5
 v5 := Tryz.zeroValue5
 t9 := Tryz.underlying9
 a9 := Tryz.isAgg9
 z9 := Tryz.sizeOf9
 v9 := Tryz.zeroValue9
 t20 := Tryz.underlying20
 a20 := Tryz.isAgg20
 z20 := Tryz.sizeOf20
 v20 := Tryz.zeroValue20
 t21 := Tryz.underlying21
 a21 := Tryz.isAgg21
 z21 := Tryz.sizeOf21
 v21 := Tryz.zeroValue21
 t37 := Tryz.underlying37
 a37 := Tryz.isAgg37
 z37 := Tryz.sizeOf37
 v37 := Tryz.zeroValue37
 t46 := Tryz.underlying42
 a46 := Tryz.isAgg42
 z46 := Tryz.sizeOf42
 v46 := Tryz.zeroValue42
 t51 := Tryz.underlying108
 a51 := Tryz.isAgg108
 z51 := Tryz.sizeOf108
 v51 := Tryz.zeroValue108
 t53 := Tryz.underlying70
 a53 := Tryz.isAgg70
 z53 := Tryz.sizeOf70
 v53 := Tryz.zeroValue70
 t75 := Tryz.underlying58
 a75 := Tryz.isAgg58
 z75 := Tryz.sizeOf58
 v75 := Tryz.zeroValue58
 t76 := Tryz.underlying59
 a76 := Tryz.isAgg59
 z76 := Tryz.sizeOf59
 v76 := Tryz.zeroValue59
 t85 := Tryz.underlying219
 a85 := Tryz.isAgg219
 z85 := Tryz.sizeOf219
 v85 := Tryz.zeroValue219
 t127 := Tryz.underlying91
 a127 := Tryz.isAgg91
 z127 := Tryz.sizeOf91
 v127 := Tryz.zeroValue91
 t143 := Tryz.underlying255
 a143 := Tryz.isAgg255
 z143 := Tryz.sizeOf255
 v143 := Tryz.zeroValue255
 t145 := Tryz.underlying257
 a145 := Tryz.isAgg257
 z145 := Tryz.sizeOf257
 v145 := Tryz.zeroValue257
 t167 := Tryz.underlying218
 a167 := Tryz.isAgg218
 z167 := Tryz.sizeOf218
 v167 := Tryz.zeroValue218
 t168 := Tryz.underlying221
 a168 := Tryz.isAgg221
 z168 := Tryz.sizeOf221
 v168 := Tryz.zeroValue221
 t171 := Tryz.underlying158
 a171 := Tryz.isAgg158
 z171 := Tryz.sizeOf158
 v171 := Tryz.zeroValue158
 t173 := Tryz.underlying161
 a173 := Tryz.isAgg161
 z173 := Tryz.sizeOf161
 v173 := Tryz.zeroValue161
 t175 := Tryz.underlying242
 a175 := Tryz.isAgg242
 z175 := Tryz.sizeOf242
 v175 := Tryz.zeroValue242
 t210 := Tryz.underlying245
 a210 := Tryz.isAgg245
 z210 := Tryz.sizeOf245
 v210 := Tryz.zeroValue245
 t212 := Tryz.underlying210
 a212 := Tryz.isAgg210
 z212 := Tryz.sizeOf210
 v212 := Tryz.zeroValue210
 t213 := Tryz.underlying211
 a213 := Tryz.isAgg211
 z213 := Tryz.sizeOf211
 t232 := Tryz.underlying251
 a232 := Tryz.isAgg251
 z232 := Tryz.sizeOf251
 v232 := Tryz.zeroValue251
 t233 := Tryz.underlying252
 a233 := Tryz.isAgg252
 z233 := Tryz.sizeOf252
 v233 := Tryz.zeroValue252
 g15 := by kernel_rfl
 g16 := by kernel_rfl
 g17 := by kernel_rfl
 g18 := by kernel_rfl
 g19 := by kernel_rfl }
theorem strconv_Atoi (s : ByteArray) (n : Int) (hl : s.size ≤ 18) (h : Lib.atoi s.data.toList = some n) (w : World) :
  Calls Tryz.prog 79 #[.string s] w fun e w' => e = .returned (.tuple #[.int .i64 n, .nilIface]) ∧ ∃ t, w' = Lib.bytesWorld w 5 t := Any.strconv_Atoi lays172 s n hl h w
def lays101_ren : Go.Shelf.Ren := ⟨fun | 101 => 78 | 208 => 124 | 206 => 178 | n => n, fun | 9 => 9 | 4 => 4 | 3 => 3 | n => n, fun | n => n⟩
theorem lays101 : Go.Proofs.Lays.n101 Tryz.prog lays101_ren := {
 mixed := by kernel_rfl
 f101 := Tryz.func78.trans (congrArg some (by kernel_rfl))
 f206 := Tryz.func178.trans (congrArg some (by kernel_rfl))
 f208 := Tryz.func124.trans (congrArg some (by kernel_rfl))
 t3 := Tryz.underlying3
 a3 := Tryz.isAgg3
 z3 := Tryz.sizeOf3
 v3 := Tryz.zeroValue3
 t4 := Tryz.underlying4
 a4 := Tryz.isAgg4
 z4 := Tryz.sizeOf4
 v4 := Tryz.zeroValue4
 t9 := Tryz.underlying9
 a9 := Tryz.isAgg9
 z9 := Tryz.sizeOf9
 v9 := Tryz.zeroValue9 }
theorem strings_TrimPrefix (s p : ByteArray) (w : World) :
  Calls Tryz.prog 78 #[.string s, .string p] w fun e w' => e = .returned (.string ⟨(Lib.trimPrefix s.data.toList p.data.toList).toArray⟩) ∧ w' = w := Any.strings_TrimPrefix lays101 s p w
def lays146_ren : Go.Shelf.Ren := ⟨fun | 146 => 15 | 221 => 28 | 268 => 50 | 138 => 51 | 143 => 52 | 195 => 71 | 197 => 72 | 218 => 73 | 219 => 74 | 260 => 109 | 217 => 110 | 225 => 111 | 224 => 112 | 267 => 113 | 266 => 163 | 314 => 164 | n => n, fun | 9 => 9 | 31 => 46 | 3 => 3 | 4 => 4 | 0 => 0 | 105 => 134 | 21 => 21 | 5 => 5 | 46 => 42 | 119 => 203 | 139 => 206 | 138 => 205 | 146 => 207 | 51 => 108 | n => n, fun | 1 => 0 | 3 => 1 | 4 => 2 | n => n⟩
theorem lays146 : Go.Proofs.Lays.n146 Tryz.prog lays146_ren := {
 mixed := by kernel_rfl
 f138 := Tryz.func51.trans (congrArg some (by kernel_rfl))
 f143 := Tryz.func52.trans (congrArg some (by kernel_rfl))
 f146 := Tryz.func15.trans (congrArg some (by kernel_rfl))
 f195 := Tryz.func71.trans (congrArg some (by kernel_rfl))
 f197 := Tryz.func72.trans (congrArg some (by kernel_rfl))
 f217 := Tryz.func110.trans (congrArg some (by kernel_rfl))
 f218 := Tryz.func73.trans (congrArg some (by kernel_rfl))
 f219 := Tryz.func74.trans (congrArg some (by kernel_rfl))
 f221 := Tryz.func28.trans (congrArg some (by kernel_rfl))
 f224 := Tryz.func112.trans (congrArg some (by kernel_rfl))
 f225 := Tryz.func111.trans (congrArg some (by kernel_rfl))
 f260 := Tryz.func109.trans (congrArg some (by kernel_rfl))
 f266 := Tryz.func163.trans (congrArg some (by kernel_rfl))
 f267 := Tryz.func113.trans (congrArg some (by kernel_rfl))
 f268 := Tryz.func50.trans (congrArg some (by kernel_rfl))
 f314 := Tryz.func164.trans (congrArg some (by kernel_rfl))
 t0 := Tryz.underlying0
 a0 := Tryz.isAgg0
 z0 := Tryz.sizeOf0
 v0 := Tryz.zeroValue0
 t3 := Tryz.underlying3
 a3 := Tryz.isAgg3
 z3 := Tryz.sizeOf3
 v3 := Tryz.zeroValue3
 t4 := Tryz.underlying4
 a4 := Tryz.isAgg4
 z4 := Tryz.sizeOf4
 v4 := Tryz.zeroValue4
 t5 := Tryz.underlying5
 a5 := Tryz.isAgg5
 z5 := Tryz.sizeOf5
 v5 := Tryz.zeroValue5
 t9 := Tryz.underlying9
 a9 := Tryz.isAgg9
 z9 := Tryz.sizeOf9
 v9 := Tryz.zeroValue9
 t21 := Tryz.underlying21
 a21 := Tryz.isAgg21
 z21 := Tryz.sizeOf21
 v21 := Tryz.zeroValue21
 t31 := Tryz.underlying46
 a31 := Tryz.isAgg46
 z31 := Tryz.sizeOf46
 v31 := Tryz.zeroValue46
 t46 := Tryz.underlying42
 a46 := Tryz.isAgg42
 z46 := Tryz.sizeOf42
 v46 := Tryz.zeroValue42
 t51 := Tryz.underlying108
 a51 := Tryz.isAgg108
 z51 := Tryz.sizeOf108
 v51 := Tryz.zeroValue108
 t105 := Tryz.underlying134
 a105 := Tryz.isAgg134
 z105 := Tryz.sizeOf134
 v105 := Tryz.zeroValue134
 t119 := Tryz.underlying203
 a119 := Tryz.isAgg203
 z119 := Tryz.sizeOf203
 t138 := Tryz.underlying205
 a138 := Tryz.isAgg205
 z138 := Tryz.sizeOf205
 v138 := Tryz.zeroValue205
 t139 := Tryz.underlying206
 a139 := Tryz.isAgg206
 z139 := Tryz.sizeOf206
 v139 := Tryz.zeroValue206
 t146 := Tryz.underlying207
 a146 := Tryz.isAgg207
 z146 := Tryz.sizeOf207
 v146 := Tryz.zeroValue207
 g1 := by kernel_rfl
 g3 := by kernel_rfl
 g4 := by kernel_rfl }
theorem strings_Split (s sep : ByteArray) (m : Int) (w : World) (hs : s.size < 4294967281) (hm : w.cell? ⟨0, 0, none⟩ = some (.int .i64 m)) (h1 : 1 ≤ sep.size) :
  Calls Tryz.prog 15 #[.string s, .string sep] w fun e w' =>
   e = .returned (.slice (some ⟨w.heap.size, 0, none⟩) (Lib.countB s sep + 1) (Lib.countB s sep + 1)) ∧ w' = w.alloc (.cells ((Lib.splitB sep 0 (Lib.countB s sep) s).map Value.string).toArray 9) := Any.strings_Split lays146 (by kernel_rfl) s sep m w hs hm h1
def lays229_ren : Go.Shelf.Ren := ⟨fun | 229 => 29 | n => n, fun | 9 => 9 | 40 => 79 | 31 => 46 | 152 => 103 | 3 => 3 | 0 => 0 | 4 => 4 | 21 => 21 | 154 => 105 | n => n, fun | n => n⟩
theorem lays229 : Go.Proofs.Lays.n229 Tryz.prog lays229_ren := {
 mixed := by kernel_rfl
 f229 := Tryz.func29.trans (congrArg some (by kernel_rfl))
 t0 := Tryz.underlying0
 a0 := Tryz.isAgg0
 z0 := Tryz.sizeOf0
 v0 := Tryz.zeroValue0
 t3 := Tryz.underlying3
 a3 := Tryz.isAgg3
 z3 := Tryz.sizeOf3
 v3 := Tryz.zeroValue3
 t4 := Tryz.underlying4
 a4 := Tryz.isAgg4
 z4 := Tryz.sizeOf4
 v4 := Tryz.zeroValue4
 t9 := Tryz.underlying9
 a9 := Tryz.isAgg9
 z9 := Tryz.sizeOf9
 v9 := Tryz.zeroValue9
 t21 := Tryz.underlying21
 a21 := Tryz.isAgg21
 z21 := Tryz.sizeOf21
 v21 := Tryz.zeroValue21
 t31 := Tryz.underlying46
 a31 := Tryz.isAgg46
 z31 := Tryz.sizeOf46
 v31 := Tryz.zeroValue46
 t40 := Tryz.underlying79
 a40 := Tryz.isAgg79
 z40 := Tryz.sizeOf79
 v40 := Tryz.zeroValue79
 t152 := Tryz.underlying103
 a152 := Tryz.isAgg103
 z152 := Tryz.sizeOf103
 v152 := Tryz.zeroValue103
 t154 := Tryz.underlying105
 a154 := Tryz.isAgg105
 z154 := Tryz.sizeOf105
 v154 := Tryz.zeroValue105 }
theorem strings_FieldsFunc_runes (g : Nat) (lb : Array Value) (eg : ∀ args w, (callFunc g args).run Tryz.prog w = .ok (.enter g args) w) (p : Nat → Bool) (s : ByteArray) (w : World) (hs : s.size ≤ 4294967296) (hp : PredAtRunes Tryz.prog g lb p w) :
  Calls Tryz.prog 29 #[.string s, .func (.func g) #[] lb] w fun e w' => ∃ A, e = .returned (.slice (some ⟨A, 0, none⟩) (Lib.goFieldsP p s).length (Lib.goFieldsP p s).length) ∧ w.heap.size ≤ A ∧
   w'.ownsRow w.heap.size 9 1 (.slice (some ⟨A, 0, none⟩) (Lib.goFieldsP p s).length (Lib.goFieldsP p s).length) (Lib.goFieldsP p s).length ((Lib.goFieldsP p s).map Value.string) ∧ Below w.heap.size w w' := Any.strings_FieldsFunc_runes lays229 g lb eg p s w hs hp (by kernel_rfl) (by kernel_rfl)
end Go.Proofs.YtilkhmhgjbhfnaaGreatDoor
namespace Go.Proofs.YtilkhmhgjbhfnaaGreatDoor
open Go.RowKit
theorem rune_num (n b0 b1 b2 b3 : Nat) : (b0 < 128 → Lib.decodeN n b0 b1 b2 b3 = (b0, 1)) ∧ (128 ≤ b0 → 57 < (Lib.decodeN n b0 b1 b2 b3).1) := by
 refine ⟨fun h => by unfold Lib.decodeN; rw [if_pos h], fun h => ?_⟩
 unfold Lib.decodeN
 rw [if_neg (by omega)]
 repeat' split
 all_goals (simp only; omega)
theorem all_rune {l : List UInt8} (h : l ≠ []) : l.all digitB = (decide (48 ≤ (decodeL l).1) && decide ((decodeL l).1 ≤ 57) && (l.drop (decodeL l).2).all digitB) := by
 obtain ⟨b, r, rfl⟩ := List.exists_cons_of_ne_nil h
 obtain ⟨h1, h2⟩ := rune_num (b :: r).length b.toNat ((b :: r).getD 1 0).toNat ((b :: r).getD 2 0).toNat ((b :: r).getD 3 0).toNat
 have e : decodeL (b :: r) = Lib.decodeN (b :: r).length b.toNat ((b :: r).getD 1 0).toNat ((b :: r).getD 2 0).toNat ((b :: r).getD 3 0).toNat := rfl
 by_cases hb : b.toNat < 128
 ·rw [e, h1 hb]
  rfl
 ·have h3 := h2 (by omega)
  rw [e, decide_eq_false (by omega : ¬ (Lib.decodeN (b :: r).length b.toNat ((b :: r).getD 1 0).toNat ((b :: r).getD 2 0).toNat ((b :: r).getD 3 0).toNat).1 ≤ 57), Bool.and_false, Bool.false_and, List.all_cons]
  have : digitB b = false := by
   unfold digitB
   rw [decide_eq_false (by omega : ¬ b.toNat ≤ 57), Bool.and_false]
  rw [this, Bool.false_and]
theorem dec_some : ∀ (l : List UInt8) (a : Nat), l.all digitB = true → ∃ n, Lib.decFrom a l = some n
 | [], a, _ => ⟨a, rfl⟩
 | b :: r, a, h => by
  rw [List.all_cons, Bool.and_eq_true] at h
  unfold digitB at h
  simp only [Bool.and_eq_true, decide_eq_true_eq] at h
  rw [Lib.decFrom, Lib.digitVal, if_pos h.1]
  exact dec_some r _ h.2
theorem trim_cons (b : UInt8) (r : List UInt8) : Lib.trimPrefix (b :: r) [45] = if b = 45 then r else b :: r := by
 unfold Lib.trimPrefix Lib.hasPrefix
 by_cases hb : b = 45
 ·subst hb
  rfl
 ·have h45 : ((45 : UInt8) == b) = false := by rw [beq_eq_false_iff_ne]; exact fun e => hb e.symm
  rw [if_neg hb]
  simp [List.isPrefixOf, h45]
theorem trim_len (l : List UInt8) : l.length ≤ (Lib.trimPrefix l [45]).length + 1 := by
 cases l with
 | nil => simp
 | cons b r => rw [trim_cons]; split <;> simp
theorem atoi_some {s : ByteArray} (h1 : Lib.trimPrefix s.data.toList [45] ≠ []) (h2 : (Lib.trimPrefix s.data.toList [45]).length ≤ 10) (h3 : (Lib.trimPrefix s.data.toList [45]).all digitB = true) : ∃ n, Lib.atoi s.data.toList = some n ∧ s.size ≤ 18 := by
 have hsz : s.size = s.data.toList.length := by rw [Array.length_toList]; rfl
 have hln := trim_len s.data.toList
 rw [hsz]
 cases hl : s.data.toList with
 | nil => rw [hl] at h1; exact absurd rfl h1
 | cons b r =>
  rw [hl] at h1 h2 h3 hln
  rw [trim_cons] at h1 h2 h3 hln
  by_cases hb : b = 45
  ·rw [if_pos hb] at h1 h2 h3 hln
   subst hb
   obtain ⟨n, hn⟩ := dec_some r 0 h3
   refine ⟨-(n : Int), ?_, by omega⟩
   have : r.isEmpty = false := by cases r with | nil => exact absurd rfl h1 | cons _ _ => rfl
   rw [Lib.atoi, if_pos (by rfl), Lib.decNat, this]
   simp [hn]
  ·rw [if_neg hb] at h1 h2 h3 hln
   obtain ⟨n, hn⟩ := dec_some (b :: r) 0 h3
   have h43 : (b == 43) = false := by
    rw [beq_eq_false_iff_ne]
    intro e
    subst e
    rw [List.all_cons] at h3
    have : digitB 43 = false := by decide
    rw [this] at h3
    cases h3
   have h45 : (b == 45) = false := by rw [beq_eq_false_iff_ne]; exact hb
   refine ⟨(n : Int), ?_, by omega⟩
   have hd : Lib.decNat (b :: r) = some n := by rw [Lib.decNat, if_neg (by simp)]; exact hn
   rw [Lib.atoi, h45, h43, hd]
   rfl
set_option maxRecDepth 100000 in
set_option maxHeartbeats 4000000 in
theorem number_any (s : ByteArray) (w : World) (hs : s.size ≤ 9223372036854775806) :
  Calls Tryz.prog 60 #[.string s] w fun e w' => e = .returned (.tuple #[.int .i64 (numV s), .bool (numOk s)]) ∧ Below w.heap.size w w' := by
 obtain ⟨D, hD⟩ : ∃ D, Lib.trimPrefix s.data.toList [45] = D := ⟨_, rfl⟩
 obtain ⟨R, hR⟩ : ∃ R, numOk s = R := ⟨_, rfl⟩
 obtain ⟨V, hV⟩ : ∃ V, numV s = V := ⟨_, rfl⟩
 rw [hR, hV]
 have hR2 := hR
 unfold numOk at hR2
 rw [hD] at hR2
 have HR2 := Lib.hid hR2
 have HR := Lib.hid hR
 have HV := Lib.hid hV
 have HD := Lib.hid hD
 have hln := trim_len s.data.toList
 have hln2 : D.length ≤ s.data.toList.length := by
  rw [← hD]
  unfold Lib.trimPrefix
  split
  ·simp
  ·exact Nat.le_refl _
 have hsz : s.size = s.data.toList.length := by rw [Array.length_toList]; rfl
 have hno : R = false → V = 0 := fun e => by rw [← HV.out]; unfold numV; rw [HR.out, e]; rfl
 have HNO := Lib.hid hno
 obtain ⟨S, hS⟩ : ∃ S, (⟨D.toArray⟩ : ByteArray) = S := ⟨_, rfl⟩
 have hSD : S.data.toList = D := by rw [← hS]
 have hSS : S.size = D.length := by rw [← hSD, Array.length_toList]; rfl
 have hSZ : S.size ≤ 9223372036854775806 := by omega
 have HSD := Lib.hid hSD
 have HSS := Lib.hid hSS
 have h1 := strings_TrimPrefix s ⟨#[45]⟩ w
 rw [show ((⟨#[45]⟩ : ByteArray).data.toList) = [45] from rfl, hD, hS] at h1
 clear hR hV hD hR2 hln hln2 hsz hno hS hSD hSS
 go_enter Tryz.func60, Tryz.ntmps60
 go_wp2_with fail
 refine h1.mono ?_
 clear h1
 rintro e w1 ⟨rfl, rfl⟩
 by_cases hD0 : D = []
 ·have hS0 : S = ⟨#[]⟩ := ByteArray.ext (Array.toList_inj.1 (by rw [HSD.out, hD0]))
  obtain rfl : R = false := by rw [← HR2.out, decide_eq_false (fun h => h hD0), Bool.false_and, Bool.false_and]
  obtain rfl : V = 0 := HNO.out rfl
  subst hS0
  clear hD0
  go_wp2_with fail
  refine bodyPost_ret (results_tmp2 rfl _ _ _) rfl ?_
  exact ⟨rfl, Below.refl _ _⟩
 ·have hlb1 : (S.toList == []) = false := by rw [ByteArray.toList_eq, beq_eq_false_iff_ne, HSD.out]; exact hD0
  have hlb2 : S.toList.isEmpty = false := by rw [ByteArray.toList_eq, List.isEmpty_eq_false_iff, HSD.out]; exact hD0
  have HD0 := Lib.hid hD0
  clear hD0
  by_cases h10 : 10 < S.size
  ·have h10' : decide ((10 : Int) < (S.size : Int)) = true := decide_eq_true (by omega)
   obtain rfl : R = false := by rw [← HR2.out, decide_eq_false (by rw [← HSS.out]; omega : ¬ D.length ≤ 10), Bool.and_false, Bool.false_and]
   obtain rfl : V = 0 := HNO.out rfl
   clear h10
   go_wp2_with fail
   refine bodyPost_ret (results_tmp2 rfl _ _ _) rfl ?_
   exact ⟨rfl, Below.refl _ _⟩
  ·have h10' : decide ((10 : Int) < (S.size : Int)) = false := decide_eq_false (by omega)
   have H10 := Lib.hid h10
   clear h10
   go_wp2_with fail
   go_loopw [6] (fun r wr => ∃ pos, wr = w1.iter S pos ∧ (D.drop pos).all digitB = D.all digitB) (fun _ wr => S.size - wr.iterPos w1.heap.size)
   case atStart => exact ⟨0, rfl, rfl⟩
   case round =>
    obtain ⟨pos, rfl, hc⟩ := hrel
    by_cases hp : pos < S.size
    ·have hd := decode_list S pos
     have hw := decodeL_width (S.data.toList.drop pos)
     have hle := decodeL_le (S.data.toList.drop pos)
     have hcc := all_rune (drop_ne hp)
     rw [← hd] at hw hle hcc
     rw [HSD.out] at hcc
     rw [hc] at hcc
     have hnx : ∀ ty, (Instr.next (.pointer (some ⟨w1.heap.size, 0, none⟩)) true ty).run Tryz.prog (w1.iter S pos) = _ := fun ty => run_next_any w1 S pos ty hp
     obtain ⟨p1, hp1⟩ : ∃ p, (Utf8.decode S pos).1 = p := ⟨_, rfl⟩
     obtain ⟨p2, hp2⟩ : ∃ p, (Utf8.decode S pos).2 = p := ⟨_, rfl⟩
     rw [hp1, hp2] at hcc
     rw [hp1] at hle
     rw [hp2] at hw
     have HCC := Lib.hid hcc
     simp only [hp1, hp2] at hnx
     clear hd hcc hc
     by_cases hlo : p1 < 48
     ·have k1 : decide ((p1 : Int) < 48) = true := decide_eq_true (by omega)
      obtain rfl : R = false := by rw [← HR2.out, HCC.out, decide_eq_false (by omega : ¬ 48 ≤ p1), Bool.false_and, Bool.false_and, Bool.and_false]
      obtain rfl : V = 0 := HNO.out rfl
      clear hlo
      go_wp2_with fail
      refine bodyPost_ret (results_tmp2 rfl _ _ _) rfl ?_
      exact ⟨rfl, below_iter _ _ _⟩
     ·have k1 : decide ((p1 : Int) < 48) = false := decide_eq_false (by omega)
      by_cases hhi : 57 < p1
      ·have k2 : decide ((57 : Int) < (p1 : Int)) = true := decide_eq_true (by omega)
       obtain rfl : R = false := by rw [← HR2.out, HCC.out, decide_eq_false (by omega : ¬ p1 ≤ 57), Bool.and_false, Bool.false_and, Bool.and_false]
       obtain rfl : V = 0 := HNO.out rfl
       clear hlo hhi
       go_wp2_with fail
       refine bodyPost_ret (results_tmp2 rfl _ _ _) rfl ?_
       exact ⟨rfl, below_iter _ _ _⟩
      ·have k2 : decide ((57 : Int) < (p1 : Int)) = false := decide_eq_false (by omega)
       have HC2 := Lib.hid (show (D.drop (pos + p2)).all digitB = D.all digitB by
        rw [HCC.out, decide_eq_true (by omega : 48 ≤ p1), decide_eq_true (by omega : p1 ≤ 57), Bool.true_and, Bool.true_and, List.drop_drop])
       clear hlo hhi
       go_wp2_with fail
       go_roundw
       case rel => exact ⟨pos + p2, rfl, HC2.out⟩
       case measure => simp; omega
    ·have hnx : ∀ ty, (Instr.next (.pointer (some ⟨w1.heap.size, 0, none⟩)) true ty).run Tryz.prog (w1.iter S pos) = _ := fun ty => run_next_end w1 S pos ty hp
     have hall : D.all digitB = true := by rw [← hc, List.drop_eq_nil_of_le (by rw [← HSS.out]; omega)]; rfl
     obtain rfl : R = true := by rw [← HR2.out, hall, decide_eq_true HD0.out, decide_eq_true (by rw [← HSS.out]; have := H10.out; omega : D.length ≤ 10)]; rfl
     obtain ⟨n, hn, hz⟩ := atoi_some (s := s) (by rw [HD.out]; exact HD0.out) (by rw [HD.out, ← HSS.out]; have := H10.out; omega) (by rw [HD.out]; exact hall)
     obtain rfl : V = n := by
      rw [← HV.out]
      unfold numV
      rw [HR.out, hn]
      rfl
     have h2 := strconv_Atoi s V hz hn (w1.iter S pos)
     have H2 := Lib.hid h2
     clear hc hall hn hz h2
     go_wp2_with fail
     refine H2.out.mono ?_
     rintro e w2 ⟨rfl, t, hw2⟩
     have HB := Lib.hid (show Below w1.heap.size w1 w2 by rw [hw2]; exact Cv.next (below_iter _ _ _) (Lib.bytesWorld_below _ _ _))
     clear hw2
     go_wp2_with fail
     have hX := @Ext.cell w2
     refine wre ?_
     repeat (go_big_quiet_step (fail))
     refine wpQuiet_nil ?_
     rintro w9 ⟨X, rfl⟩
     have HBX := Lib.hid (Cv.next HB.out X.bel)
     clear hX
     go_wp2_with fail
     refine bodyPost_ret (results_tmp2 rfl _ _ _) rfl ?_
     exact ⟨rfl, HBX.out⟩
end Go.Proofs.YtilkhmhgjbhfnaaGreatDoor
