/- Parts of the proof, side by side: DoRound, ConLine. -/
import Derived.Test.YtilkhmhgjbhfnaaGreatDoorM35
import Derived.Test.YtilkhmhgjbhfnaaGreatDoorM06
import Derived.Test.YtilkhmhgjbhfnaaGreatDoorM20
import Derived.Test.YtilkhmhgjbhfnaaGreatDoorConCall
import Derived.Test.YtilkhmhgjbhfnaaGreatDoorM36
import Derived.Test.YtilkhmhgjbhfnaaGreatDoorGdDo
import Derived.Test.YtilkhmhgjbhfnaaGreatDoorM41
import Derived.Test.YtilkhmhgjbhfnaaGreatDoorM05
import Derived.Test.YtilkhmhgjbhfnaaGreatDoorM01
import Derived.Deep.Cut
import Derived.Deep.CutBlock
set_option linter.unusedVariables false
set_option linter.unusedSimpArgs false
namespace Go.Proofs.YtilkhmhgjbhfnaaGreatDoor
open Go.RowKit
theorem StAt.set {B : Nat} {w : World} {v : Value} {s : St} (h : StAt (some B) w v s) {g : Nat} {t : TypeId} (hg : ∃ cur, w.heap[g]? = some (.cells cur t (0, 0))) (h1 : t ≠ 65) (h2 : t ≠ 131) (h3 : t ≠ 97) (h4 : t ≠ 3) (k : Nat) (u : Value) :
  StAt (some B) (w.setCell ⟨g, k, none⟩ u) v s := by
 obtain ⟨cur, hc⟩ := hg
 exact h.keep3 (KeepT.set hc h1) (KeepT.set hc h2) (KeepT.set hc h3) (KeepT.set hc h4)
theorem StAt.alloc {lo : Option Nat} {w : World} {v : Value} {s : St} (h : StAt lo w v s) (o : Obj) : StAt lo (w.alloc o) v s := h.below ((Below.refl _ _).alloc (Nat.le_refl _) _)
structure Off (p : Nat) (w w' : World) : Prop where
 size : w.heap.size ≤ w'.heap.size
 same : ∀ b, b < w.heap.size → b ≠ p → w'.heap[b]? = w.heap[b]?
theorem Off.below {p : Nat} {w w' : World} (h : Below w.heap.size w w') : Off p w w' := ⟨h.size, fun b hb _ => h.block b hb⟩
theorem Off.trans {p : Nat} {a b c : World} (h : Off p a b) (k : Off p b c) : Off p a c :=
 ⟨Nat.le_trans h.size k.size, fun x hx hp => (k.same x (Nat.lt_of_lt_of_le hx h.size) hp).trans (h.same x hx hp)⟩
theorem Off.set {p k : Nat} {w : World} {u : Value} : Off p w (w.setCell ⟨p, k, none⟩ u) :=
 ⟨by simp [World.setCell], fun b _ hp => Below.heap_setCell w ⟨p, k, none⟩ u b hp⟩
def PlAt (w : World) (p : Nat) (a b c : Value) : Prop := w.heap[p]? = some (.cells #[a, b, c] 51 (0, 0))
theorem PlAt.lt {w : World} {p : Nat} {a b c : Value} (h : PlAt w p a b c) : p < w.heap.size := (Array.getElem?_eq_some_iff.1 h).1
theorem PlAt.get {w : World} {p : Nat} {a b c : Value} (h : PlAt w p a b c) : w.cell? ⟨p, 0, none⟩ = some a ∧ w.cell? ⟨p, 1, none⟩ = some b ∧ w.cell? ⟨p, 2, none⟩ = some c ∧ ∀ j, w.frozen? ⟨p, j, none⟩ = false :=
 ⟨by rw [cell_of_row w _ _ _ _ (0, 0) h]; rfl, by rw [cell_of_row w _ _ _ _ (0, 0) h]; rfl, by rw [cell_of_row w _ _ _ _ (0, 0) h]; rfl, fun j => frozen_of_row w _ _ _ _ h⟩
theorem PlAt.three {w : World} {p : Nat} {a b c : Value} (h : PlAt w p a b c) (x y z : Value) : ∃ w', ((w.setCell ⟨p, 0, none⟩ x).setCell ⟨p, 1, none⟩ y).setCell ⟨p, 2, none⟩ z = w' ∧ PlAt w' p x y z ∧ (∀ t, 51 ≠ t → KeepT t w w') ∧ (∀ (B : Nat) (u : World), B ≤ p → Below B u w → Below B u w') ∧ (∀ b, b ≠ p → w'.heap[b]? = w.heap[b]?) ∧ w.heap.size ≤ w'.heap.size := by
 have h1 : PlAt (w.setCell ⟨p, 0, none⟩ x) p x b c := heap_setCell_same w p 0 _ _ _ h
 have h2 : PlAt ((w.setCell ⟨p, 0, none⟩ x).setCell ⟨p, 1, none⟩ y) p x y c := heap_setCell_same _ p 1 _ _ _ h1
 exact ⟨_, rfl, heap_setCell_same _ p 2 _ _ _ h2, fun t ht => ((KeepT.set h ht).trans (KeepT.set h1 ht)).trans (KeepT.set h2 ht), fun B u hB hb => ((hb.setCell hB _).setCell hB _).setCell hB _, fun b hb => by
  rw [Below.heap_setCell _ _ _ _ hb, Below.heap_setCell _ _ _ _ hb, Below.heap_setCell _ _ _ _ hb], by simp [World.setCell]⟩
theorem unhexL_len : ∀ (l t : List UInt8), unhexL l = some t → t.length ≤ l.length
 | [], t, h => by cases h; exact Nat.zero_le _
 | [a], t, h => by cases h; exact Nat.zero_le _
 | a :: b :: r, t, h => by
  unfold unhexL at h
  split at h
  ·cases h
  ·obtain ⟨u, hu, rfl⟩ := Option.map_eq_some_iff.1 h
   have := unhexL_len r u hu
   simp only [List.length_cons]
   omega
theorem unhexB_len (s : ByteArray) : (unhexB s).1.size ≤ s.size := by
 have hz : s.data.toList.length = s.size := by rw [Array.length_toList]; rfl
 unfold unhexB
 split
 ·exact Nat.zero_le _
 ·split
  ·exact Nat.zero_le _
  ·rename_i t ht
   have := unhexL_len _ _ ht
   show t.toArray.size ≤ _
   rw [List.size_toArray]
   omega
def CaSz (M : Nat) (c : Ca) : Prop := c.path.size ≤ M ∧ c.path2.size ≤ M ∧ c.data.size ≤ M
theorem putWs_sz (M : Nat) : ∀ (ks : List UInt8) (ws : List ByteArray) (c : Ca), CaSz M c → (∀ x ∈ ws, x.size ≤ M) → CaSz M (putWs c ks ws).1
 | [], ws, c, h, _ => by unfold putWs; exact h
 | k :: ks, [], c, h, _ => by unfold putWs; exact h
 | k :: ks, w :: ws, c, h, hw => by
  have h0 := hw w List.mem_cons_self
  have h1 : CaSz M (putW c k w).1 := by
   obtain ⟨a, b, d⟩ := h
   unfold putW
   repeat' split
   all_goals first
    | exact ⟨a, b, d⟩
    | exact ⟨h0, b, d⟩
    | exact ⟨a, h0, d⟩
    | exact ⟨a, b, Nat.le_trans (unhexB_len w) h0⟩
  unfold putWs
  split
  ·exact putWs_sz M ks ws _ h1 fun x hx => hw x (List.mem_cons_of_mem _ hx)
  ·exact h1
theorem callV_sz {M : Nat} (k : Int) (ks : List UInt8) (ws : List ByteArray) (h : ∀ x ∈ ws, x.size ≤ M) : CaSz M (callV k ks ws).1 := by
 have h0 : CaSz M (call0 k) := ⟨Nat.zero_le _, Nat.zero_le _, Nat.zero_le _⟩
 unfold callV
 split
 ·exact putWs_sz M ks ws _ h0 h
 ·exact h0
theorem cell0_of {w : World} {A n : Nat} {ws : List ByteArray} (h : NmsAt none w (some ⟨A, 0, none⟩) n ws) (j : Nat) {x : ByteArray} (hx : ws[j]? = some x) : w.cell? ⟨A, j, none⟩ = some (.string x) := by
 have hj := (List.getElem?_eq_some_iff.1 hx).1
 obtain ⟨g, off, hA, hg, hm, hc⟩ := h.2 (by have := h.1; omega)
 injection hA with hA
 injection hA with h1 h2
 subst h1 h2
 have := hc j x hx
 rwa [Nat.zero_add] at this
set_option maxRecDepth 100000 in
set_option maxHeartbeats 4000000 in
theorem line_hash (A P : Nat) (y : ByteArray) (w : World) (hT : Tab w) (hy : y.size ≤ 1048576) (h0 : w.cell? ⟨A, 0, none⟩ = some (.string ⟨#[104, 97, 115, 104]⟩)) (h1 : w.cell? ⟨A, 1, none⟩ = some (.string y)) :
  Calls Tryz.prog 18 #[.pointer (some ⟨P, 0, none⟩), .slice (some ⟨A, 0, none⟩) (2 : Nat) (2 : Nat)] w fun e w' => e = .returned (.string (txt (decN (hashL y.data.toList % 8 : Nat) ++ 32 :: decN (hashL y.data.toList : Nat)))) ∧ Below w.heap.size w w' := by
 have hm : y.size ≤ maxLen := by unfold maxLen; omega
 have hbk : ∀ u : World, Calls Tryz.prog 33 #[.string y] u fun e w' => e = .returned (.int .i64 ((hashL y.data.toList % 8 : Nat) : Int)) ∧ Below u.heap.size u w' := fun u => bucketm_any y u hm
 have hha : ∀ u : World, Calls Tryz.prog 34 #[.string y] u fun e w' => e = .returned (.int .i64 ((hashL y.data.toList : Nat) : Int)) ∧ Below u.heap.size u w' := fun u => hash_any y u hm
 have hlt := hashL_lt y.data.toList
 obtain ⟨H, hH⟩ : ∃ H, hashL y.data.toList = H := ⟨_, rfl⟩
 rw [hH] at hbk hha hlt
 rw [hH]
 obtain ⟨B, hB⟩ : ∃ B, H % 8 = B := ⟨_, rfl⟩
 rw [hB] at hbk
 rw [hB]
 have hB8 : B < 8 := by omega
 have hi1 : ∀ u : World, Below w.heap.size w u → Calls Tryz.prog 32 #[.int .i64 (B : Int)] u fun e w' => e = .returned (.string (txt (decN (B : Int)))) ∧ Below u.heap.size u w' := fun u hu => itoa_any B (by omega) (by omega) u (hT.below hu)
 have hi2 : ∀ u : World, Below w.heap.size w u → Calls Tryz.prog 32 #[.int .i64 (H : Int)] u fun e w' => e = .returned (.string (txt (decN (H : Int)))) ∧ Below u.heap.size u w' := fun u hu => itoa_any H (by omega) (by omega) u (hT.below hu)
 have hl1 : (txt (decN (B : Int))).size ≤ 13 := by
  show (decN (B : Int)).toArray.size ≤ _
  rw [List.size_toArray]
  exact decN_le (by omega)
 have hl2 : (txt (decN (H : Int))).size ≤ 13 := by
  show (decN (H : Int)).toArray.size ≤ _
  rw [List.size_toArray]
  exact decN_le (by omega)
 have hfin : (txt (decN (B : Int)) ++ ⟨#[32]⟩) ++ txt (decN (H : Int)) = txt (decN (B : Int) ++ 32 :: decN (H : Int)) := by
  apply ByteArray.ext
  apply Array.toList_inj.1
  rw [ByteArray.data_append, ByteArray.data_append, Array.toList_append, Array.toList_append]
  show (decN (B : Int) ++ [32]) ++ decN (H : Int) = _
  rw [List.append_assoc]
  rfl
 rw [← hfin]
 obtain ⟨X1, hX1⟩ : ∃ X, txt (decN (B : Int)) = X := ⟨_, rfl⟩
 obtain ⟨X2, hX2⟩ : ∃ X, txt (decN (H : Int)) = X := ⟨_, rfl⟩
 rw [hX1] at hi1 hl1
 rw [hX2] at hi2 hl2
 rw [hX1, hX2]
 have HBK := Lib.hid hbk
 have HHA := Lib.hid hha
 have HI1 := Lib.hid hi1
 have HI2 := Lib.hid hi2
 have q1 : ¬ 9223372036854775807 < X1.size + 1 := by omega
 have q2 : ¬ 9223372036854775807 < X1.size + 1 + X2.size := by omega
 have hx : ∀ (X : Ext w) (p : Addr), (w.cell? p).isSome = true → X.w.cell? p = w.cell? p := fun X p h => X.cell p h
 clear hbk hha hlt hH hB hB8 hi1 hi2 hfin hX1 hX2 hm hy hl1 hl2
 go_enter Tryz.func18, Tryz.ntmps18
 go_wp2_with fail
 refine wre ?_
 repeat (go_big_quiet_step (first | (go_at_call 33; rename_i X; exact Calls.ext_of (HBK.out _)) | (go_at_call 34; rename_i X; exact Calls.ext_of (HHA.out _)) | (go_at_call 32; rename_i X; first | exact Calls.ext_of (HI1.out _ X.bel) | exact Calls.ext_of (HI2.out _ X.bel))))
 refine wpQuiet_nil ?_
 rintro w' ⟨X, rfl⟩
 go_wp2_with fail
 go_ret
 exact ⟨rfl, X.bel⟩
theorem Good.of_lenC {s : St} (h : Good s) : (ofL s).length ≤ 17180869184 := by
 have h1 := h.files_len
 have h2 : (unlL s s.inos).length ≤ s.inos.length * 600 := flat_le (fU s) 600 s.inos (fun a ha => h.fU_len ha)
 have h3 : (opnL s.opn).length ≤ s.opn.length * 600 := flat_le lineO 600 s.opn (fun a ha => h.fO_len ha)
 have h4 : (madeSh s.made).length ≤ s.made.length * 600 := flat_le (fun m : Int => (32 : UInt8) :: decN m) 600 s.made (fun a ha => h.fM_len ha)
 have h5 := h.len
 have h6 := h.opn_len
 have h7 := h.m8
 unfold ofL restL
 simp only [List.length_append, List.length_cons, List.length_nil]
 omega
set_option maxRecDepth 100000 in
set_option maxHeartbeats 4000000 in
theorem line_sum (A P : Nat) (a b c : Value) (s : St) (w : World) (hP : PlAt w P a b c) (hS : StAt none w (.agg #[a, b, c]) s) (hg : Good s) (hT : Tab w) (h0 : w.cell? ⟨A, 0, none⟩ = some (.string ⟨#[115, 117, 109]⟩)) :
  Calls Tryz.prog 18 #[.pointer (some ⟨P, 0, none⟩), .slice (some ⟨A, 0, none⟩) (1 : Nat) (1 : Nat)] w fun e w' => e = .returned (.string (txt (hexN (sumN (ofL s))))) ∧ Below w.heap.size w w' := by
 have hof := shof_any _ s w hS hT
 rw [show ofO s = ofL s by unfold ofO; rw [if_pos ((good_iff s).2 hg)]] at hof
 have hl := hg.of_lenC
 obtain ⟨T, hTX⟩ : ∃ T, txt (ofL s) = T := ⟨_, rfl⟩
 have hTL : T.data.toList = ofL s := by rw [← hTX]; exact txt_listSh _
 have hTS : T.size ≤ maxLen := by
  have : T.size = T.data.toList.length := by rw [Array.length_toList]; rfl
  rw [this, hTL]
  unfold maxLen
  omega
 have hsu := fun u => sum_any T u hTS
 rw [hTL] at hsu
 have hlt := sumN_lt (ofL s)
 rw [hTX] at hof
 obtain ⟨SN, hSN⟩ : ∃ SN, sumN (ofL s) = SN := ⟨_, rfl⟩
 rw [hSN] at hlt hsu
 rw [hSN]
 have hhx := fun u => hex_any SN hlt u
 have HOF := Lib.hid hof
 have HSU := Lib.hid hsu
 have HHX := Lib.hid hhx
 obtain ⟨p0, p1, p2, _⟩ := hP.get
 clear hof hsu hhx hP hS hg hT hl hTX hTL hTS hlt hSN
 go_enter Tryz.func18, Tryz.ntmps18
 go_wp2_with fail
 refine HOF.out.mono ?_
 rintro e1 w1 ⟨rfl, hb1⟩
 have HB1 := Lib.hid hb1
 clear hb1
 go_wp2_with fail
 refine (HSU.out w1).mono ?_
 rintro e2 w2 ⟨rfl, rfl⟩
 go_wp2_with fail
 refine (HHX.out _).mono ?_
 rintro e3 w3 ⟨rfl, hb3⟩
 have HB3 := Lib.hid (Cv.next HB1.out hb3)
 clear hb3
 go_wp2_with fail
 go_ret
 exact ⟨rfl, HB3.out⟩
theorem cmdV_len {w : List UInt8} {k : Int} {ks : List UInt8} (h : cmdV w = some (k, ks)) : ks.length ≤ 4 := by
 unfold cmdV at h
 obtain ⟨y, hy, he⟩ := Option.map_eq_some_iff.1 h
 have h1 := List.mem_of_find?_eq_some hy
 have h2 : ∀ y ∈ cmds, y.2.2.length ≤ 4 := by decide
 have := h2 y h1
 rwa [he] at this
theorem tail_at {w : World} {A n : Nat} {x : ByteArray} {r : List ByteArray} (h : NmsAt none w (some ⟨A, 0, none⟩) n (x :: r)) : NmsAt none w (if n = 1 then some ⟨A, 0, none⟩ else some ⟨A, 1, none⟩) (n - 1) r := by
 have hl : r.length + 1 = n := h.1
 refine ⟨by omega, fun hn => ?_⟩
 obtain ⟨g, off, hA, hg, hm, hc⟩ := h.2 (by omega)
 injection hA with hA
 injection hA with h1 h2
 subst h1 h2
 rw [if_neg (by omega)]
 refine ⟨A, 1, rfl, hg, Mine.any _ _ _, fun j y hy => ?_⟩
 have := hc (j + 1) y hy
 rwa [Nat.zero_add, Nat.add_comm j 1] at this
theorem caz_get {w : World} {g : Nat} {v0 v1 v2 v3 v4 v5 v6 v7 : Value} {t : TypeId} (h : w.heap[g]? = some (.cells #[v0, v1, v2, v3, v4, v5, v6, v7] t (0, 0))) : w.cell? ⟨g, 0, none⟩ = some v0 ∧ w.cell? ⟨g, 1, none⟩ = some v1 ∧ w.cell? ⟨g, 2, none⟩ = some v2 ∧ w.cell? ⟨g, 3, none⟩ = some v3 ∧ w.cell? ⟨g, 4, none⟩ = some v4 ∧ w.cell? ⟨g, 5, none⟩ = some v5 ∧ w.cell? ⟨g, 6, none⟩ = some v6 ∧ w.cell? ⟨g, 7, none⟩ = some v7 ∧ ∀ j, w.frozen? ⟨g, j, none⟩ = false := by
 refine ⟨?_, ?_, ?_, ?_, ?_, ?_, ?_, ?_, fun j => frozen_of_row w _ _ _ _ h⟩ <;> (rw [cell_of_row w _ _ _ _ (0, 0) h]; rfl)
def CzAt (w : World) (g : Nat) (t : TypeId) (v0 v1 v2 v3 v4 v5 v6 v7 : Value) : Prop := w.heap[g]? = some (.cells #[v0, v1, v2, v3, v4, v5, v6, v7] t (0, 0))
theorem caz_set {w : World} {g : Nat} {v0 v1 v2 v3 v4 v5 v6 v7 : Value} {t : TypeId} (h : CzAt w g t v0 v1 v2 v3 v4 v5 v6 v7) (x0 x1 x2 x3 x4 x5 x6 x7 : Value) :
  CzAt ((((((((w.setCell ⟨g, 0, none⟩ x0).setCell ⟨g, 1, none⟩ x1).setCell ⟨g, 2, none⟩ x2).setCell ⟨g, 3, none⟩ x3).setCell ⟨g, 4, none⟩ x4).setCell ⟨g, 5, none⟩ x5).setCell ⟨g, 6, none⟩ x6).setCell ⟨g, 7, none⟩ x7) g t x0 x1 x2 x3 x4 x5 x6 x7 ∧
  ∀ (B : Nat) (u : World), B ≤ g → Below B u w → Below B u ((((((((w.setCell ⟨g, 0, none⟩ x0).setCell ⟨g, 1, none⟩ x1).setCell ⟨g, 2, none⟩ x2).setCell ⟨g, 3, none⟩ x3).setCell ⟨g, 4, none⟩ x4).setCell ⟨g, 5, none⟩ x5).setCell ⟨g, 6, none⟩ x6).setCell ⟨g, 7, none⟩ x7) := by
 obtain ⟨w0, e0⟩ : ∃ w0, w.setCell ⟨g, 0, none⟩ x0 = w0 := ⟨_, rfl⟩
 have h0 : CzAt w0 g t x0 v1 v2 v3 v4 v5 v6 v7 := by rw [← e0]; exact heap_setCell_same w g 0 _ _ x0 h
 rw [e0]
 obtain ⟨w1, e1⟩ : ∃ w1, w0.setCell ⟨g, 1, none⟩ x1 = w1 := ⟨_, rfl⟩
 have h1 : CzAt w1 g t x0 x1 v2 v3 v4 v5 v6 v7 := by rw [← e1]; exact heap_setCell_same w0 g 1 _ _ x1 h0
 rw [e1]
 obtain ⟨w2, e2⟩ : ∃ w2, w1.setCell ⟨g, 2, none⟩ x2 = w2 := ⟨_, rfl⟩
 have h2 : CzAt w2 g t x0 x1 x2 v3 v4 v5 v6 v7 := by rw [← e2]; exact heap_setCell_same w1 g 2 _ _ x2 h1
 rw [e2]
 obtain ⟨w3, e3⟩ : ∃ w3, w2.setCell ⟨g, 3, none⟩ x3 = w3 := ⟨_, rfl⟩
 have h3 : CzAt w3 g t x0 x1 x2 x3 v4 v5 v6 v7 := by rw [← e3]; exact heap_setCell_same w2 g 3 _ _ x3 h2
 rw [e3]
 obtain ⟨w4, e4⟩ : ∃ w4, w3.setCell ⟨g, 4, none⟩ x4 = w4 := ⟨_, rfl⟩
 have h4 : CzAt w4 g t x0 x1 x2 x3 x4 v5 v6 v7 := by rw [← e4]; exact heap_setCell_same w3 g 4 _ _ x4 h3
 rw [e4]
 obtain ⟨w5, e5⟩ : ∃ w5, w4.setCell ⟨g, 5, none⟩ x5 = w5 := ⟨_, rfl⟩
 have h5 : CzAt w5 g t x0 x1 x2 x3 x4 x5 v6 v7 := by rw [← e5]; exact heap_setCell_same w4 g 5 _ _ x5 h4
 rw [e5]
 obtain ⟨w6, e6⟩ : ∃ w6, w5.setCell ⟨g, 6, none⟩ x6 = w6 := ⟨_, rfl⟩
 have h6 : CzAt w6 g t x0 x1 x2 x3 x4 x5 x6 v7 := by rw [← e6]; exact heap_setCell_same w5 g 6 _ _ x6 h5
 rw [e6]
 refine ⟨heap_setCell_same w6 g 7 _ _ x7 h6, fun B u hB hb => ?_⟩
 rw [← e6, ← e5, ← e4, ← e3, ← e2, ← e1, ← e0]
 exact (((((((hb.setCell hB _).setCell hB _).setCell hB _).setCell hB _).setCell hB _).setCell hB _).setCell hB _).setCell hB _
set_option maxRecDepth 100000 in
set_option maxHeartbeats 8000000 in
theorem line_call (A P n : Nat) (a b c : Value) (x : ByteArray) (r : List ByteArray) (s : St) (w0 w : World) (hT : Tab w0) (hb0 : Below w0.heap.size w0 w) (hPB : w0.heap.size ≤ P) (hP : PlAt w P a b c) (hS : StAt (some 0) w (.agg #[a, b, c]) s) (hn : NmsAt none w (some ⟨A, 0, none⟩) n (x :: r)) (hsz : ∀ y ∈ x :: r, y.size ≤ 1048576) (hnn : n ≤ 1048576)
  (hq1 : ¬(x.data.toList = [104, 97, 115, 104] ∧ r.length = 1)) (hq2 : ¬(x.data.toList = [115, 117, 109] ∧ r.length = 0)) :
  Calls Tryz.prog 18 #[.pointer (some ⟨P, 0, none⟩), .slice (some ⟨A, 0, none⟩) n n] w fun e w' => ∃ a' b' c', e = .returned (.string (txt (lineV s (x :: r)).2)) ∧ PlAt w' P a' b' c' ∧ StAt (some 0) w' (.agg #[a', b', c']) (lineV s (x :: r)).1 ∧ Off P w w' ∧ Below P w w' := by
 obtain ⟨LV, hLV⟩ : ∃ LV, lineV s (x :: r) = LV := ⟨_, rfl⟩
 rw [hLV]
 unfold lineV at hLV
 simp only [] at hLV
 rw [if_neg hq1, if_neg hq2] at hLV
 have c0 := cell0_of hn 0 rfl
 have hlen : n = r.length + 1 := hn.1.symm
 have hn0 : 0 < n := by omega
 have hn0' : (0 : Int) < (n : Int) := by omega
 have n1 : r.length = 1 ↔ n = 2 := by omega
 have n2 : r.length = 0 ↔ n = 1 := by omega
 rw [n1] at hq1
 rw [n2] at hq2
 have HLV := Lib.hid hLV
 have HN := Lib.hid hn
 have HSZ := Lib.hid hsz
 have HLEN := Lib.hid hlen
 have HT := Lib.hid hT
 have HB0 := Lib.hid hb0
 have HP := Lib.hid hP
 have HS := Lib.hid hS
 have HPB := Lib.hid hPB
 have HNN := Lib.hid hnn
 have HQ1 := Lib.hid hq1
 have HQ2 := Lib.hid hq2
 clear hLV hn hsz hlen hT hb0 hP hS hPB hnn hq1 hq2 n1 n2
 go_enter Tryz.func18, Tryz.ntmps18
 go_upto_block 0 with fail
 go_cut [11] from 5 to 53 (fun v wx => wx = w)
 case first =>
  clear HLV HN HSZ HLEN HT HB0 HP HS HPB HNN
  by_cases h1 : x.data.toList = [104, 97, 115, 104]
  ·obtain rfl : x = ⟨#[104, 97, 115, 104]⟩ := ByteArray.ext (Array.toList_inj.1 h1)
   have n2 : ((n : Int) == 2) = false := by
    rw [beq_eq_false_iff_ne]
    intro e
    exact HQ1.out ⟨h1, by omega⟩
   clear h1
   go_wp2_with fail
   go_meet
   rfl
  ·have e1 : ¬x.toList = [104, 97, 115, 104] := by rw [ByteArray.toList_eq]; exact h1
   have b1 : (x.toList == [104, 97, 115, 104]) = false := by rw [beq_eq_false_iff_ne]; exact e1
   by_cases h2 : x.data.toList = [115, 117, 109]
   ·obtain rfl : x = ⟨#[115, 117, 109]⟩ := ByteArray.ext (Array.toList_inj.1 h2)
    have n2 : ((n : Int) == 1) = false := by
     rw [beq_eq_false_iff_ne]
     intro e
     exact HQ2.out ⟨h2, by omega⟩
    clear h1 e1 b1 h2
    go_wp2_with fail
    go_meet
    rfl
   ·have e2 : ¬x.toList = [115, 117, 109] := by rw [ByteArray.toList_eq]; exact h2
    have b2 : (x.toList == [115, 117, 109]) = false := by rw [beq_eq_false_iff_ne]; exact e2
    clear h1 h2
    go_wp2_with fail
    go_meet
    rfl
 case rest =>
  subst hcut
  rename World => wq
  have hs1 : x.size ≤ 9223372036854775806 := by have := HSZ.out x List.mem_cons_self; omega
  go_wp2_with fail
  refine (cmd_any x wq hs1).mono ?_
  rintro e1 w1 ⟨rfl, hb1⟩
  have hcl : PlAt wq P a b c := HP.out
  have hPlt := hcl.lt
  rcases hcv : cmdV x.data.toList with _ | ⟨k, ks⟩
  ·rw [show cmdK x.data.toList = 0 by unfold cmdK; rw [hcv], show cmdS x.data.toList = ⟨#[]⟩ by unfold cmdS; rw [hcv], Option.isSome_none]
   have hLV : LV = (s, badL) := by have h := HLV.out; rw [hcv] at h; exact h.symm
   clear HLV hcv hcl
   have HB1 := Lib.hid hb1
   clear hb1
   go_wp2_with fail
   go_ret
   have hbw : Below wq.heap.size wq _ := HB1.out.alloc (Below.size HB1.out) (.cells #[.int .i64 0, .string ⟨#[]⟩] 82)
   exact ⟨a, b, c, by rw [hLV]; rfl, (hbw.block P hPlt).trans HP.out, by rw [hLV]; exact HS.out.below hbw, Off.below hbw, hbw.mono (Nat.le_of_lt hPlt)⟩
  ·have hks := cmdV_len hcv
   rw [show cmdK x.data.toList = k by unfold cmdK; rw [hcv], show cmdS x.data.toList = ⟨ks.toArray⟩ by unfold cmdS; rw [hcv], Option.isSome_some]
   have hLV := HLV.out
   rw [hcv] at hLV
   simp only [] at hLV
   obtain ⟨S, hS⟩ : ∃ S : ByteArray, ⟨ks.toArray⟩ = S := ⟨_, rfl⟩
   have hSL : S.data.toList = ks := by rw [← hS]
   have hSZ : S.size ≤ 100 := by
    have : S.size = S.data.toList.length := by rw [Array.length_toList]; rfl
    rw [this, hSL]; omega
   rw [hS]
   clear HLV hcv hcl hS
   obtain ⟨W2, hW2⟩ : ∃ W2, w1.alloc (.cells #[.int .i64 k, .string S] 82) = W2 := ⟨_, rfl⟩
   have hb2 : Below w1.heap.size w1 W2 := by rw [← hW2]; exact (Below.refl _ _).alloc (Nat.le_refl _) _
   have hr2 : W2.heap[w1.heap.size]? = some (.cells #[.int .i64 k, .string S] 82 (0, 0)) := by rw [← hW2]; exact heap_alloc_new w1 _
   have hz2 : w1.heap.size < W2.heap.size := by rw [← hW2]; simp
   have hz01 : wq.heap.size ≤ w1.heap.size := hb1.size
   have hbw : Below wq.heap.size wq W2 := Cv.next hb1 hb2
   have m0 : W2.cell? ⟨w1.heap.size, 0, none⟩ = some (.int .i64 k) := by rw [cell_of_row W2 _ _ _ _ (0, 0) hr2]; rfl
   have m1 : W2.cell? ⟨w1.heap.size, 1, none⟩ = some (.string S) := by rw [cell_of_row W2 _ _ _ _ (0, 0) hr2]; rfl
   have n1 : 1 ≤ n := hn0
   have n1' : (1 : Int) ≤ (n : Int) := by omega
   obtain ⟨AD, hAD⟩ : ∃ AD : Option Addr, (if n = 1 then some ⟨A, 0, none⟩ else some ⟨A, 1, none⟩) = AD := ⟨_, rfl⟩
   have hta := tail_at HN.out
   rw [hAD] at hta
   have hcall : ∀ u : World, Below W2.heap.size W2 u → Calls Tryz.prog 39 #[.agg #[.int .i64 k, .string S], .slice AD (n - 1) (n - 1)] u fun e w' => ∃ C : Ca, e = .returned (.tuple #[.agg #[.int .i64 C.kind, .int .i64 C.core, .int .i64 C.fd, .int .i64 C.off, .int .i64 C.num, .string C.path, .string C.path2, .string C.data], .bool (callV k ks r).2]) ∧ C = (callV k ks r).1 ∧ Below u.heap.size u w' ∧ Below W2.heap.size W2 w' := fun u hu => by
    have h1 := call_any k S AD (n - 1) (n - 1) r u (hta.below (Cv.next hbw hu)) hSZ (fun y hy => HSZ.out y (List.mem_cons_of_mem _ hy)) (by have := HNN.out; omega)
    rw [hSL] at h1
    refine h1.mono ?_
    rintro e w' ⟨C, rfl, hC, hb⟩
    exact ⟨C, rfl, hC, hb, Cv.next hu hb⟩
   have HCALL := Lib.hid hcall
   have HLV2 := Lib.hid hLV
   have HBW := Lib.hid hbw
   have HR2 := Lib.hid hr2
   clear hcall hLV hbw hr2 hb1 hb2 hSL hSZ hta
   go_upto_region 9 with fail
   try rw [hW2]
   go_cut [8, 9] from 63 to 69 (fun ok p wx => ∃ (b : Nat) (C : Ca), ok = .bool (callV k ks r).2 ∧ p = .pointer (some ⟨b, 0, .none⟩) ∧ C = (callV k ks r).1 ∧ wx.heap[b]? = some (caRow C) ∧ Below W2.heap.size W2 wx ∧ W2.heap.size ≤ b)
   case first =>
    have z1 : W2.heap.size ≠ w1.heap.size := by omega
    have z1' := Ne.symm z1
    go_region_held3 (fun w' => w'.cell? ⟨w1.heap.size, 0, none⟩ = some (.int .i64 k) ∧ w'.cell? ⟨w1.heap.size, 1, none⟩ = some (.string S))
     (first | go_keep | (trace_state; fail))
     ((go_at_call 39; refine (HCALL.out _ (by first | exact Below.refl _ _ | exact Cv.drewN_below (Below.refl _ _) 1 | exact (Cv.drewN_below (Below.refl _ _) 1).alloc (by simp) _)).mono ?_; rintro e5 w5 ⟨C, rfl, hC, hb5, hbw5⟩; have q0 := (hbw5.cell (p := ⟨w1.heap.size, 0, none⟩) hz2).trans m0; have q1 := (hbw5.cell (p := ⟨w1.heap.size, 1, none⟩) hz2).trans m1; have HC := Lib.hid hC; have HB5 := Lib.hid hbw5; have l5 := hb5.size; (first | (have am := row_kept hb5 (al1 W2 (.cells #[.int .i64 0, .int .i64 0, .int .i64 0, .int .i64 0, .int .i64 0, .string ⟨#[]⟩, .string ⟨#[]⟩, .string ⟨#[]⟩] 73)); obtain ⟨N0, N1, N2, N3, N4, N5, N6, N7, Nf⟩ := caz_get am; have lm := (Array.getElem?_eq_some_iff.1 am).1; have nm : w5.heap.size ≠ W2.heap.size := Nat.ne_of_gt lm; have nm' := Ne.symm nm; have HAM : Hid (CzAt w5 W2.heap.size 73 (.int .i64 0) (.int .i64 0) (.int .i64 0) (.int .i64 0) (.int .i64 0) (.string ⟨#[]⟩) (.string ⟨#[]⟩) (.string ⟨#[]⟩)) := Lib.hid am; have F0 := Nf 0; have F1 := Nf 1; have F2 := Nf 2; have F3 := Nf 3; have F4 := Nf 4; have F5 := Nf 5; have F6 := Nf 6; have F7 := Nf 7; clear am Nf) | skip); clear hC hb5 hbw5))
    all_goals (
     go_wp2_with fail
     go_meet
     clear HT HB0 HP HS HN HSZ HLEN HPB HNN HQ1 HQ2 HCALL HLV2 HBW HR2
     first
      | with_reducible exact ⟨_, C, rfl, rfl, HC.out, heap_alloc_new w5 _, HB5.out.alloc (Below.size HB5.out) _, Below.size HB5.out⟩
      | exact ⟨_, C, rfl, rfl, HC.out, (caz_set HAM.out _ _ _ _ _ _ _ _).1, (caz_set HAM.out _ _ _ _ _ _ _ _).2 _ _ (Nat.le_refl _) HB5.out, Nat.le_refl _⟩)
   case rest =>
    obtain ⟨b2, C, rfl, rfl, hC, hrow, hb3, hle⟩ := hcut
    rename World => w3
    have hb3z := hb3.size
    have hbw3 : Below wq.heap.size wq w3 := Cv.next HBW.out hb3
    have hLV := HLV2.out
    rw [← hC] at hLV
    obtain ⟨OK, hOK⟩ : ∃ OK, (callV k ks r).2 = OK := ⟨_, rfl⟩
    rw [hOK] at hLV ⊢
    have HBW3 := Lib.hid hbw3
    cases OK
    ·have hL : LV = (s, badL) := by rw [← hLV]; exact if_neg (by decide)
     clear hLV hrow hC hOK HLV2 hb3 hbw3
     go_wp2_with fail
     go_ret
     exact ⟨a, b, c, by rw [hL]; rfl, (HBW3.out.block P hPlt).trans HP.out, by rw [hL]; exact HS.out.below HBW3.out, Off.below HBW3.out, HBW3.out.mono (Nat.le_of_lt hPlt)⟩
    ·rw [if_pos rfl] at hLV
     have hsz := callV_sz k ks r (M := 1048576) fun y hy => HSZ.out y (List.mem_cons_of_mem _ hy)
     rw [← hC] at hsz
     obtain ⟨s1, s2, s3⟩ := hsz
     have hre := reb_doV s C
     have hdo0 := fun (u : World) (hu : Below wq.heap.size wq u) => mDo_any (.agg #[a, b, c]) s C u (HS.out.weak.below hu) (by omega) (by omega) (by omega)
     obtain ⟨R, hR⟩ : ∃ R, doV s C = R := ⟨_, rfl⟩
     rw [hR] at hLV hre
     simp only [hR] at hdo0
     subst hLV
     obtain ⟨W4, hW4⟩ : ∃ W4, w3.alloc (.cells #[.int .i64 0, .int .i64 0, .int .i64 0, .bool false, .string ⟨#[]⟩, .slice none 0 0] 87) = W4 := ⟨_, rfl⟩
     have hb4 : Below w3.heap.size w3 W4 := by rw [← hW4]; exact (Below.refl _ _).alloc (Nat.le_refl _) _
     have hr4 : ResAt W4 w3.heap.size (.int .i64 0) (.int .i64 0) (.int .i64 0) (.bool false) (.string ⟨#[]⟩) (.slice none 0 0) := by rw [← hW4]; exact heap_alloc_new w3 _
     have hz4 : w3.heap.size < W4.heap.size := by rw [← hW4]; simp
     have hbw4 : Below wq.heap.size wq W4 := Cv.next HBW3.out hb4
     have hp4 : PlAt W4 P a b c := (hbw4.block P hPlt).trans HP.out
     have hb2 : b2 < w3.heap.size := (Array.getElem?_eq_some_iff.1 hrow).1
     have hc4 : W4.heap[b2]? = some (caRow C) := (hb4.block b2 hb2).trans hrow
     unfold caRow at hc4
     have hk4 : W4.heap[w1.heap.size]? = some (.cells #[.int .i64 k, .string S] 82 (0, 0)) := (hb4.block _ (by omega)).trans ((hb3.block _ hz2).trans HR2.out)
     obtain ⟨p0, p1, p2, pf⟩ := hp4.get
     obtain ⟨g0, g1, g2, g3, g4, g5, g6, g7, _⟩ := caz_get hc4
     obtain ⟨r0, r1, r2, r3, r4, r5, rf⟩ := hr4.get
     have hdo : ∀ u : World, Below W4.heap.size W4 u → Calls Tryz.prog 40 #[.agg #[a, b, c], .agg #[.int .i64 C.kind, .int .i64 C.core, .int .i64 C.fd, .int .i64 C.off, .int .i64 C.num, .string C.path, .string C.path2, .string C.data]] u fun e w' => ∃ A' n' c' E l d D i f F ff ff', e = .returned (.tuple #[.agg #[.slice A' n' c', .slice E l d, .slice D i f], .agg #[.int .i64 R.2.code, .int .i64 R.2.fd, .int .i64 R.2.num, .bool R.2.dir, .string R.2.data, .slice F ff ff']]) ∧ StAt (some 0) w' (.agg #[.slice A' n' c', .slice E l d, .slice D i f]) R.1 ∧ SlOk F ff ff' ∧ NmsAt (some 0) w' F ff R.2.names ∧ Below W4.heap.size W4 w' := fun u hu => by
      refine (hdo0 u (Cv.next hbw4 hu)).mono ?_
      rintro e w' ⟨v', rv, rfl, hst, ⟨F, f, f', rfl, hok, hnm⟩, hb⟩
      obtain ⟨A', n', c', E, l, d, D, i, g, rfl, _⟩ := hst.at_
      exact ⟨A', n', c', E, l, d, D, i, g, F, f, f', rfl, hst.lower (Nat.zero_le _), hok, hnm.lower (Nat.zero_le _), Cv.next hu hb⟩
     have HDO := Lib.hid hdo
     have HRE := Lib.hid hre
     have HP4 := Lib.hid hp4
     have HR4 := Lib.hid hr4
     have HK4 := Lib.hid hk4
     have HBW4 := Lib.hid hbw4
     have HC4 := Lib.hid hc4
     have hz03 : wq.heap.size ≤ w3.heap.size := hbw3.size
     have ltP : P < W4.heap.size := by omega
     have ltb : b2 < W4.heap.size := by omega
     have ltk : w1.heap.size < W4.heap.size := by omega
     have x1 : P ≠ w3.heap.size := by omega
     have x2 : P ≠ b2 := by omega
     have x3 : b2 ≠ w3.heap.size := by omega
     have x4 : w1.heap.size ≠ w3.heap.size := by omega
     have x1' := Ne.symm x1
     have x2' := Ne.symm x2
     have x3' := Ne.symm x3
     have x4' := Ne.symm x4
     clear hdo hdo0 hre hp4 hr4 hk4 hbw4 hc4 hrow hC hOK HLV2 hb3 hbw3 hb4 m0 m1 s1 s2 s3 hR hb3z HCALL
     go_upto_region 13 with fail
     try rw [hW4]
     have pf0 := pf 0
     have pf1 := pf 1
     have pf2 := pf 2
     have rf0 := rf 0
     have rf1 := rf 1
     have rf2 := rf 2
     have rf3 := rf 3
     have rf4 := rf 4
     have rf5 := rf 5
     clear pf rf
     go_region_with ((go_at_call 40; refine (HDO.out _ (by first | exact Below.refl _ _ | exact Cv.drewN_below (Below.refl _ _) 1)).mono ?_; rintro e5 w5 ⟨A5, n5, c5, E5, l5, d5, D5, i5, f5, F, ff, ff', rfl, hst5, hok5, hnm5, hb5⟩; have hp5 : PlAt w5 P a b c := (hb5.block P ltP).trans HP4.out; have hr5 : ResAt w5 w3.heap.size (.int .i64 0) (.int .i64 0) (.int .i64 0) (.bool false) (.string ⟨#[]⟩) (.slice none 0 0) := (hb5.block _ hz4).trans HR4.out; obtain ⟨q0, q1, q2, qf⟩ := hp5.get; obtain ⟨t0, t1, t2, t3, t4, t5, tf⟩ := hr5.get; obtain ⟨y0, y1, y2, y3, y4, y5, y6, y7, _⟩ := caz_get ((hb5.block b2 ltb).trans HC4.out); have qf0 := qf 0; have qf1 := qf 1; have qf2 := qf 2; have tf0 := tf 0; have tf1 := tf 1; have tf2 := tf 2; have tf3 := tf 3; have tf4 := tf 4; have tf5 := tf 5; have HP5 := Lib.hid hp5; have HR5 := Lib.hid hr5; have HST5 := Lib.hid hst5; have HOK5 := Lib.hid hok5; have HNM5 := Lib.hid hnm5; have HB5 := Lib.hid hb5; have z5 := hb5.size; clear hp5 hr5 hst5 hok5 hnm5 hb5 qf tf))
     all_goals (
      obtain ⟨U5, hU5, hpU, k5, b5, a5, s5⟩ := HP5.out.three (.slice A5 n5 c5) (.slice E5 l5 d5) (.slice D5 i5 f5)
      have hrU : ResAt U5 w3.heap.size (.int .i64 0) (.int .i64 0) (.int .i64 0) (.bool false) (.string ⟨#[]⟩) (.slice none 0 0) := (a5 _ x1').trans HR5.out
      obtain ⟨U6, hU6, hr6, k6, b6, a6, s6⟩ := hrU.six (.int .i64 R.2.code) (.int .i64 R.2.fd) (.int .i64 R.2.num) (.bool R.2.dir) (.string R.2.data) (.slice F ff ff')
      rw [hU5, hU6]
      have hq5 : Below wq.heap.size wq w5 := Cv.next HBW4.out HB5.out
      have hl0 := HB0.out.size
      have hlP := HPB.out
      have h05 : Below w0.heap.size w0 w5 := HB0.out.trans (hq5.mono hl0)
      have hbU : Below w0.heap.size w0 U6 := b6 _ w0 (by omega) (b5 _ w0 hlP h05)
      have hstU : StAt (some 0) U6 (.agg #[.slice A5 n5 c5, .slice E5 l5 d5, .slice D5 i5 f5]) R.1 := (HST5.out.keep3 (k5 _ (by decide)) (k5 _ (by decide)) (k5 _ (by decide)) (k5 _ (by decide))).keep3 (k6 _ (by decide)) (k6 _ (by decide)) (k6 _ (by decide)) (k6 _ (by decide))
      have hnmU : NmsAt (some 0) U6 F ff R.2.names := (HNM5.out.keep (k5 _ (by decide))).keep (k6 _ (by decide))
      have hplU : PlAt U6 P (.slice A5 n5 c5) (.slice E5 l5 d5) (.slice D5 i5 f5) := (a6 P x1).trans hpU
      have hkU : U6.heap[w1.heap.size]? = some (.cells #[.int .i64 k, .string S] 82 (0, 0)) := (a6 _ x4).trans ((a5 _ (by omega)).trans ((HB5.out.block _ ltk).trans HK4.out))
      have hoffU : Off P wq U6 := ⟨Nat.le_trans hq5.size (Nat.le_trans s5 s6), fun b hb hne => (a6 b (by omega)).trans ((a5 b hne).trans (hq5.block b hb))⟩
      have hbPU : Below P wq U6 := b6 P wq (by omega) (b5 P wq (Nat.le_refl _) (hq5.mono (Nat.le_of_lt hPlt)))
      obtain ⟨r0, r1, r2, r3, r4, r5, _⟩ := hr6.get
      have m0 : U6.cell? ⟨w1.heap.size, 0, none⟩ = some (.int .i64 k) := by rw [cell_of_row U6 _ _ _ _ (0, 0) hkU]; rfl
      have htold := told_any k R.2 F ff ff' U6 HOK5.out hnmU.weak HRE.out.ok (HT.out.below hbU)
      have HTOLD := Lib.hid htold
      have HSTU := Lib.hid hstU
      have HPLU := Lib.hid hplU
      have HOFF := Lib.hid hoffU
      have HBPU := Lib.hid hbPU
      clear hU5 hU6 hpU k5 b5 a5 s5 hrU hr6 k6 b6 a6 s6 hq5 hl0 hlP h05 hbU hstU hnmU hplU hkU hoffU hbPU htold q0 q1 q2 t0 t1 t2 t3 t4 t5
      go_wp2_with fail
      refine HTOLD.out.mono ?_
      rintro e7 w7 ⟨rfl, hb7⟩
      have HB7 := Lib.hid hb7
      clear hb7
      go_wp2_with fail
      go_ret
      exact ⟨rfl, _, _, _, (HB7.out.block P HPLU.out.lt).trans HPLU.out, HSTU.out.below HB7.out, HOFF.out.trans (Off.below HB7.out), HBPU.out.trans (HB7.out.mono (Nat.le_of_lt HPLU.out.lt))⟩)
theorem line_any (A P n : Nat) (a b c : Value) (x : ByteArray) (r : List ByteArray) (s : St) (w0 w : World) (hg : Good s) (hT : Tab w0) (hb0 : Below w0.heap.size w0 w) (hPB : w0.heap.size ≤ P) (hP : PlAt w P a b c) (hS : StAt (some 0) w (.agg #[a, b, c]) s) (hn : NmsAt none w (some ⟨A, 0, none⟩) n (x :: r)) (hsz : ∀ y ∈ x :: r, y.size ≤ 1048576) (hnn : n ≤ 1048576) :
  Calls Tryz.prog 18 #[.pointer (some ⟨P, 0, none⟩), .slice (some ⟨A, 0, none⟩) n n] w fun e w' => ∃ a' b' c', e = .returned (.string (txt (lineV s (x :: r)).2)) ∧ PlAt w' P a' b' c' ∧ StAt (some 0) w' (.agg #[a', b', c']) (lineV s (x :: r)).1 ∧ Off P w w' ∧ Below P w w' := by
 have hlen := hn.1
 have hlt := hP.lt
 by_cases h1 : x.data.toList = [104, 97, 115, 104] ∧ r.length = 1
 ·obtain ⟨hx, hr⟩ := h1
  obtain ⟨y, rfl⟩ := List.length_eq_one_iff.1 hr
  obtain rfl : n = 2 := hlen.symm
  obtain rfl : x = ⟨#[104, 97, 115, 104]⟩ := ByteArray.ext (Array.toList_inj.1 hx)
  have hv : lineV s [⟨#[104, 97, 115, 104]⟩, y] = (s, decN (hashL y.data.toList % 8 : Nat) ++ 32 :: decN (hashL y.data.toList : Nat)) := by
   unfold lineV
   exact if_pos ⟨hx, hr⟩
  rw [hv]
  refine (line_hash A P y w (hT.below hb0) (hsz y (by simp)) (cell0_of hn 0 rfl) (cell0_of hn 1 rfl)).mono ?_
  rintro e w' ⟨rfl, hb⟩
  exact ⟨a, b, c, rfl, (hb.block P hlt).trans hP, hS.below hb, Off.below hb, hb.mono (Nat.le_of_lt hlt)⟩
 ·by_cases h2 : x.data.toList = [115, 117, 109] ∧ r.length = 0
  ·obtain ⟨hx, hr⟩ := h2
   obtain rfl := List.length_eq_zero_iff.1 hr
   obtain rfl : n = 1 := hlen.symm
   obtain rfl : x = ⟨#[115, 117, 109]⟩ := ByteArray.ext (Array.toList_inj.1 hx)
   have hv : lineV s [⟨#[115, 117, 109]⟩] = (s, hexN (sumN (ofL s))) := by
    unfold lineV
    exact (if_neg h1).trans (if_pos ⟨hx, hr⟩)
   rw [hv]
   refine (line_sum A P a b c s w hP hS.weak hg (hT.below hb0) (cell0_of hn 0 rfl)).mono ?_
   rintro e w' ⟨rfl, hb⟩
   exact ⟨a, b, c, rfl, (hb.block P hlt).trans hP, hS.below hb, Off.below hb, hb.mono (Nat.le_of_lt hlt)⟩
  ·exact line_call A P n a b c x r s w0 w hT hb0 hPB hP hS hn hsz hnn h1 h2
theorem lineV_good {s : St} (h : Good s) (ws : List ByteArray) : Good (lineV s ws).1 := by
 unfold lineV
 split
 ·exact h
 ·split
  ·exact h
  ·split
   ·exact h
   ·split
    ·exact h
    ·split
     ·exact h.doF _ _
     ·exact h
theorem lineV_len (s : St) (ws : List ByteArray) : (lineV s ws).2.length ≤ 1000 := by
 unfold lineV
 split
 ·exact Nat.zero_le _
 ·rename_i w r
  split
  ·have h1 := hashL_lt (r.headD ⟨#[]⟩).data.toList
   have h2 : (decN (hashL (r.headD ⟨#[]⟩).data.toList % 8 : Nat)).length ≤ 13 := decN_le (by omega)
   have h3 : (decN (hashL (r.headD ⟨#[]⟩).data.toList : Nat)).length ≤ 13 := decN_le (by omega)
   show (decN (hashL (r.headD ⟨#[]⟩).data.toList % 8 : Nat) ++ 32 :: decN (hashL (r.headD ⟨#[]⟩).data.toList : Nat)).length ≤ 1000
   rw [List.length_append, List.length_cons]
   omega
  ·split
   ·show (hexN _).length ≤ 1000
    unfold hexN
    rw [List.length_map, List.length_range]
    omega
   ·split
    ·show (10 : Nat) ≤ 1000
     omega
    ·split
     ·exact (reb_doV _ _).len _
     ·show (10 : Nat) ≤ 1000
      omega
end Go.Proofs.YtilkhmhgjbhfnaaGreatDoor
