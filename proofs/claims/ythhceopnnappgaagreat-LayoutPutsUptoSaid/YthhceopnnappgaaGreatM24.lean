/- Parts of the proof, side by side: LaDel2, LaDel3. -/
import Derived.Test.YthhceopnnappgaaGreatM22
import Derived.Test.YthhceopnnappgaaGreatM09
import Derived.Test.YthhceopnnappgaaGreatFsCopy
import Derived.Test.YthhceopnnappgaaGreatM23
set_option linter.unusedVariables false
set_option linter.unusedSimpArgs false
namespace Go.Proofs.YthhceopnnappgaaGreat
open Go.RowKit
def delP (s : St) : List Ino → Option Nat
 | [] => none
 | x :: xs => if delB s x = true then some 0 else (delP s xs).map (· + 1)
def delI' (s : St) (is : List Ino) : Int := match delP s is with | none => -1 | some k => (k : Int)
theorem delP_drop (s : St) (is : List Ino) (q : Nat) (x : Ino) (hd : is.drop q = x :: is.drop (q + 1)) : delP s (is.drop q) = if delB s x = true then some 0 else (delP s (is.drop (q + 1))).map (· + 1) := by
 rw [hd, delP]
theorem delP_none : ∀ (s : St) (is : List Ino), delP s is = none → is.filter (fun x => !delB s x) = is
 | s, [], _ => rfl
 | s, x :: xs, h => by
  unfold delP at h
  split at h
  ·cases h
  ·rename_i hx
   have hx : delB s x = false := by simpa using hx
   have h1 : delP s xs = none := by cases hq : delP s xs with | none => rfl | some k => rw [hq] at h; cases h
   rw [List.filter_cons_of_pos (by rw [hx]; rfl), delP_none s xs h1]
set_option maxRecDepth 100000 in
set_option maxHeartbeats 2000000 in
theorem indexdel2_any (p : Nat) (s : St) (is : List Ino) (A : Option Addr) (n c : Nat) (w : World) (h : PtrAt w p s) (hI : InosAt none w A n is) (hn : n ≤ 1099511627776) :
  Calls Tryz.prog 46 #[.slice A n c, .func (.func 19) #[] #[.pointer (some ⟨p, 0, .none⟩)]] w fun e w' => e = .returned (.int .i64 (delI' s is)) ∧ Below w.heap.size w w' := by
 obtain ⟨R, hR⟩ : ∃ R, delP s is = R := ⟨_, rfl⟩
 unfold delI'
 rw [hR]
 have HI := Lib.hid hI
 have HP := Lib.hid h
 have HR := Lib.hid hR
 clear hI h hR
 go_enter Tryz.func46, Tryz.ntmps46
 go_wp2_with fail
 go_loopw [8] (fun j wr => ∃ q : Nat, j = .int .i64 q ∧ q ≤ n ∧ Below w.heap.size w wr ∧ (delP s (is.drop q)).map (· + q) = R) (fun j _ => n - (intOf j).toNat)
 case atStart => exact ⟨0, rfl, by omega, Below.refl _ _, by rw [List.drop_zero, HR.out]; cases R <;> rfl⟩
 case round =>
  obtain ⟨q, rfl, hq, hbel, hc⟩ := hrel
  have HB := Lib.hid hbel
  have HIr := Lib.hid (HI.out.below hbel)
  have HPr := Lib.hid (HP.out.below hbel)
  clear hbel
  by_cases hlt : q < n
  ·obtain ⟨g, off, x, E, m, d, rfl, hg, hx, hd, hmem, e0, e1, e2, hok, hE, e3⟩ := HIr.out.get q hlt
   have k0 : (0 : Int) ≤ (q : Int) := by omega
   rw [delP_drop s is q x hd] at hc
   have HC := Lib.hid hc
   clear hd hmem hx hE hc
   go_wp2_with fail
   refine (del1_any p s x E m d _ HPr.out).mono ?_
   rintro e5 w5 ⟨rfl, hb5⟩
   have HB5 := Lib.hid (HB.out.trans (hb5.mono HB.out.size))
   clear hb5 e0 e1 e2 e3
   obtain ⟨bb, hbb⟩ : ∃ bb, delB s x = bb := ⟨_, rfl⟩
   have hc := HC.out
   rw [hbb] at hc ⊢
   clear hbb
   cases bb
   ·rw [if_neg (by decide)] at hc
    have HC2 := Lib.hid hc
    clear hc
    go_wp2_with fail
    go_roundw
    case rel => exact ⟨q + 1, by go_num, by omega, HB5.out, by
     rw [← HC2.out]
     cases delP s (is.drop (q + 1))
     ·rfl
     ·simp; omega⟩
    case measure => simp [intOf]; omega
   ·rw [if_pos rfl] at hc
    have HC2 := Lib.hid hc
    clear hc
    go_wp2_with fail
    go_ret
    have h := HC2.out
    simp at h
    subst h
    exact ⟨rfl, HB5.out⟩
  ·have hnil : is.drop q = [] := List.drop_eq_nil_of_le (by have := HI.out.1; omega)
   rw [hnil, delP] at hc
   have HC := Lib.hid hc
   clear hc hnil
   go_wp2_with fail
   go_ret
   exact ⟨by rw [← HC.out]; rfl, HB.out⟩
theorem flat_set4 : ∀ (zs : List (Ino × Value)) (k : Nat) (z : Ino × Value), k < zs.length → ((((zs.flatMap inoV).set (k * 4) (.int .i64 z.1.num)).set (k * 4 + 1) (.bool z.1.dir)).set (k * 4 + 2) z.2).set (k * 4 + 3) (.string z.1.data) = (zs.set k z).flatMap inoV
 | [], k, z, h => by simp at h
 | y :: ys, 0, z, h => by simp [inoV]
 | y :: ys, k + 1, z, h => by
  have ih := flat_set4 ys k z (by simpa using h)
  have e : (k + 1) * 4 = k * 4 + 1 + 1 + 1 + 1 := by omega
  rw [List.set_cons_succ, List.flatMap_cons, List.flatMap_cons, ← ih, e]
  rfl
theorem set_four {w : World} {g : Nat} {cur : Array Value} (hg : w.heap[g]? = some (.cells cur 42 (0, 0))) (o : Nat) (a b c d : Value) :
  ∃ S, (((w.setCell ⟨g, o, none⟩ a).setCell ⟨g, o + 1, none⟩ b).setCell ⟨g, o + 2, none⟩ c).setCell ⟨g, o + 3, none⟩ d = S ∧ S.heap[g]? = some (.cells ((((cur.setIfInBounds o a).setIfInBounds (o + 1) b).setIfInBounds (o + 2) c).setIfInBounds (o + 3) d) 42 (0, 0)) ∧ w.grownBy S (some g) := by
 have h1 : (w.setCell ⟨g, o, none⟩ a).heap[g]? = some (.cells (cur.setIfInBounds o a) 42 (0, 0)) := heap_setCell_same w g o _ _ _ hg
 have h2 : ((w.setCell ⟨g, o, none⟩ a).setCell ⟨g, o + 1, none⟩ b).heap[g]? = some (.cells ((cur.setIfInBounds o a).setIfInBounds (o + 1) b) 42 (0, 0)) := heap_setCell_same _ g (o + 1) _ _ _ h1
 have h3 : (((w.setCell ⟨g, o, none⟩ a).setCell ⟨g, o + 1, none⟩ b).setCell ⟨g, o + 2, none⟩ c).heap[g]? = some (.cells (((cur.setIfInBounds o a).setIfInBounds (o + 1) b).setIfInBounds (o + 2) c) 42 (0, 0)) := heap_setCell_same _ g (o + 2) _ _ _ h2
 have h4 : ((((w.setCell ⟨g, o, none⟩ a).setCell ⟨g, o + 1, none⟩ b).setCell ⟨g, o + 2, none⟩ c).setCell ⟨g, o + 3, none⟩ d).heap[g]? = some (.cells ((((cur.setIfInBounds o a).setIfInBounds (o + 1) b).setIfInBounds (o + 2) c).setIfInBounds (o + 3) d) 42 (0, 0)) := heap_setCell_same _ g (o + 3) _ _ _ h3
 exact ⟨_, rfl, h4, rw_trans (rw_trans (rw_trans grown_set grown_set) grown_set) grown_set⟩
theorem run_clear_rowN {P : Program} (w : World) (t e ty : TypeId) (z : Value) (zs : List Value) (r : Nat) (ht : P.underlying t = some (.slice e)) (hv : ∀ w, (zeroValue e).run P w = .ok z w) (hz : (Builtin.zeroCells z.cells (r + 1)).toList = zs) (g o c : Nat) (cur : Array Value) (te : TypeId)
  (hg : w.heap[g]? = some (.cells cur te (0, 0))) (hfit : o + zs.length ≤ cur.size) (h1 : ∀ v ∈ zs, v.oneCell' = true) :
  (Builtin.clear_ #[t] ty #[.slice (some ⟨g, o, none⟩) (r + 1) c]).run P w = .ok (.tuple #[]) (w.setRow g (layV cur.toList o zs).toArray) := by
 have hst := run_storeCells_at P g o te zs 0 cur w hg (by simpa using hfit) h1
 simp [Builtin.clear_, run_underlying ht, hv, hz, hst, layV]
theorem sub_set {l : List Value} {cur : Array Value} (h : ∀ (j : Nat) (v : Value), l[j]? = some v → cur[j]? = some v) (k : Nat) (u : Value) : ∀ (j : Nat) (v : Value), (l.set k u)[j]? = some v → (cur.setIfInBounds k u)[j]? = some v := by
 intro j v hj
 rw [List.getElem?_set] at hj
 rw [Array.getElem?_setIfInBounds]
 by_cases e : k = j
 ·subst e
  rw [if_pos rfl] at hj ⊢
  split at hj
  ·rename_i hl
   have h1 := h k _ (List.getElem?_eq_getElem hl)
   have h2 := (Array.getElem?_eq_some_iff.1 h1).1
   rw [if_pos h2]
   exact hj
  ·cases hj
 ·rw [if_neg e] at hj ⊢
  exact h j v hj
theorem Kept.set {W0 w : World} {g n : Nat} {zs : List (Ino × Value)} (h : Kept W0 w g n zs) {i : Nat} {z : Ino × Value} (hi : i < n) (hz : z ∈ zs) :
  ∃ S, (((w.setCell ⟨g, i * 4, none⟩ (.int .i64 z.1.num)).setCell ⟨g, i * 4 + 1, none⟩ (.bool z.1.dir)).setCell ⟨g, i * 4 + 2, none⟩ z.2).setCell ⟨g, i * 4 + 3, none⟩ (.string z.1.data) = S ∧ Kept W0 S g n (zs.set i z) ∧ w.grownBy S (some g) := by
 obtain ⟨cur, h1, h2⟩ := h.row
 obtain ⟨S, hS, hS1, hS2⟩ := set_four h1 (i * 4) (.int .i64 z.1.num) (.bool z.1.dir) z.2 (.string z.1.data)
 refine ⟨S, hS, ⟨⟨_, hS1, ?_⟩, by rw [List.length_set]; exact h.len, fun y hy => ?_⟩, hS2⟩
 ·rw [← flat_set4 zs i z (by rw [h.len]; exact hi)]
  exact sub_set (sub_set (sub_set (sub_set h2 _ _) _ _) _ _) _ _
 ·rcases List.mem_or_eq_of_mem_set hy with h3 | h3
  ·exact h.ents y h3
  ·rw [h3]; exact h.ents z hz
theorem flat_takeL {α : Type} (f : α → List Value) (k : Nat) (hk : ∀ x, (f x).length = k) : ∀ (l : List α) (i : Nat), (l.flatMap f).take (i * k) = (l.take i).flatMap f
 | [], i => by simp
 | y :: l, 0 => by simp
 | y :: l, i + 1 => by
  rw [List.flatMap_cons, List.take_succ_cons, List.flatMap_cons, ← flat_takeL f k hk l i, Nat.add_mul, Nat.one_mul, Nat.add_comm, List.take_append, List.take_of_length_le (by rw [hk]; omega), hk, Nat.add_sub_cancel_left]
theorem zero_one (r : Nat) : ∀ v ∈ (Builtin.zeroCells (Value.agg #[.int .i64 0, .bool false, .slice none 0 0, .string ⟨#[]⟩]).cells (r + 1)).toList, v.oneCell' = true := by
 intro v hv
 obtain ⟨q, hq, rfl⟩ := List.getElem_of_mem hv
 have h4 : q % 4 < 4 := Nat.mod_lt _ (by omega)
 simp [Builtin.zeroCells, Value.cells]
 have : q % 4 = 0 ∨ q % 4 = 1 ∨ q % 4 = 2 ∨ q % 4 = 3 := by omega
 rcases this with h | h | h | h <;> simp [h, Value.oneCell']
def keepB (s : St) (z : Ino × Value) : Bool := !delB s z.1
theorem keep_step {s : St} {zs ys : List (Ino × Value)} {i j : Nat} {z : Ino × Value} (h1 : ys.take i = (zs.take j).filter (keepB s)) (hl : ys.length = zs.length) (hz : zs[j]? = some z) (hij : i < j) :
  (delB s z.1 = true → ys.take i = (zs.take (j + 1)).filter (keepB s)) ∧ (delB s z.1 = false → (ys.set i z).take (i + 1) = (zs.take (j + 1)).filter (keepB s)) := by
 have hj := (List.getElem?_eq_some_iff.1 hz).1
 rw [List.take_add_one, hz, List.filter_append, ← h1]
 refine ⟨fun hd => ?_, fun hd => ?_⟩
 ·have : keepB s z = false := by unfold keepB; rw [hd]; rfl
  simp [this]
 ·have : keepB s z = true := by unfold keepB; rw [hd]; rfl
  rw [List.take_add_one, List.getElem?_set_self (by omega), List.take_set_of_le (Nat.le_refl _)]
  simp [this]
theorem keep_first : ∀ (s : St) (zs : List (Ino × Value)) (k : Nat), delP s (zs.map Prod.fst) = some k → k < zs.length ∧ zs.take k = (zs.take (k + 1)).filter (keepB s)
 | s, [], k, h => by simp [delP] at h
 | s, z :: zs, k, h => by
  rw [List.map_cons] at h
  unfold delP at h
  split at h
  ·rename_i hx
   injection h with h
   subst h
   simp [keepB, hx]
  ·rename_i hx
   have hx : delB s z.1 = false := by simpa using hx
   cases hq : delP s (zs.map Prod.fst) with
   | none => rw [hq] at h; cases h
   | some j =>
    rw [hq] at h
    simp at h
    subst h
    obtain ⟨h1, h2⟩ := keep_first s zs j hq
    refine ⟨by simp; omega, ?_⟩
    rw [List.take_succ_cons, List.take_succ_cons, List.filter_cons_of_pos (by unfold keepB; rw [hx]; rfl), ← h2]
set_option maxRecDepth 100000 in
set_option maxHeartbeats 4000000 in
theorem delfunc_any (p : Nat) (s : St) (W0 : World) (g cap n : Nat) (zs : List (Ino × Value)) (w : World) (hP : PtrAt W0 p s) (hW0 : Below W0.heap.size W0 w) (hg : W0.heap.size ≤ g) (hK : Kept W0 w g n zs) (hnc : n ≤ cap) (hn : n ≤ 65536) :
  Calls Tryz.prog 18 #[.slice (some ⟨g, 0, none⟩) n cap, .func (.func 19) #[] #[.pointer (some ⟨p, 0, .none⟩)]] w fun e w' => ∃ k : Nat, e = .returned (.slice (some ⟨g, 0, none⟩) k cap) ∧ k ≤ n ∧ Kept W0 w' g k (zs.filter (keepB s)) ∧ w.grownBy w' (some g) := by
 have hbw : ∀ w', w.grownBy w' (some g) → Below W0.heap.size W0 w' := fun w' h => hW0.trans (rw_below h hW0.size (fun k hk => by injection hk with hk; omega))
 have HBW := Lib.hid hbw
 have HP := Lib.hid hP
 have HK := Lib.hid hK
 have hI := hK.inos hW0
 have hix := indexdel2_any p s (zs.map Prod.fst) _ n cap w (hP.below hW0) hI (by omega)
 have HIX := Lib.hid hix
 clear hbw hP hK hI hix
 go_enter Tryz.func18, Tryz.ntmps18
 go_wp2_with fail
 refine HIX.out.mono ?_
 rintro e5 w5 ⟨rfl, hb5⟩
 have HB5 := Lib.hid hb5
 have HG5 := Lib.hid (rw_none (r := some g) hb5)
 have HK5 := Lib.hid (HK.out.below hb5)
 clear hb5
 have hmf : (zs.filter (keepB s)).map Prod.fst = (zs.map Prod.fst).filter (fun x => !delB s x) := by rw [List.filter_map]; rfl
 cases hdp : delP s (zs.map Prod.fst) with
 | none =>
  have hI : delI' s (zs.map Prod.fst) = -1 := by unfold delI'; rw [hdp]
  have hall : zs.filter (keepB s) = zs := by
   rw [List.filter_eq_self]
   intro z hz
   have h1 := delP_none _ _ hdp
   rw [List.filter_eq_self] at h1
   exact h1 z.1 (List.mem_map.2 ⟨z, hz, rfl⟩)
  rw [hI]
  have HALL := Lib.hid hall
  clear hI hall hdp hmf
  go_wp2_with fail
  go_ret
  exact ⟨n, rfl, Nat.le_refl _, by rw [HALL.out]; exact HK5.out, HG5.out⟩
 | some k0 =>
  have hI : delI' s (zs.map Prod.fst) = (k0 : Int) := by unfold delI'; rw [hdp]
  obtain ⟨hk1, hk2⟩ := keep_first s zs k0 hdp
  rw [HK.out.len] at hk1
  rw [hI]
  have HK2 := Lib.hid hk2
  have hw1 : IntKind.i64.wrap ((k0 : Int) + 1) = (k0 : Int) + 1 := by rw [IntKind.wrap_i64]; omega
  have hne1 : ((k0 : Int) == -1) = false := by rw [beq_eq_false_iff_ne]; omega
  clear hI hk2 hdp hmf
  go_wp2_with fail
  go_loopw [5, 6] (fun a b wr => ∃ (i j : Nat) (ys : List (Ino × Value)), a = .int .i64 i ∧ b = .int .i64 j ∧ i < j ∧ j ≤ n ∧ Kept W0 wr g n ys ∧ (∀ y ∈ ys, y ∈ zs) ∧ ys.take i = (zs.take j).filter (keepB s) ∧ ys.drop j = zs.drop j ∧ w.grownBy wr (some g)) (fun _ b _ => n - (intOf b).toNat)
  case atStart => exact ⟨k0, k0 + 1, zs, rfl, by go_num, by omega, by omega, HK5.out, fun y hy => hy, HK2.out, rfl, HG5.out⟩
  case round =>
   obtain ⟨i, j, ys, rfl, rfl, hij, hjn, hkept, hsub, htake, hdrop, hgrown⟩ := hrel
   have HKR := Lib.hid hkept
   have HSUB := Lib.hid hsub
   have HTAKE := Lib.hid htake
   have HDROP := Lib.hid hdrop
   have HGR := Lib.hid hgrown
   have HBR := Lib.hid (HBW.out _ hgrown)
   have hgl : g < wr.heap.size := hkept.lt
   clear hkept hsub htake hdrop hgrown
   by_cases hlt : j < n
   ·obtain ⟨z, hz⟩ : ∃ z, zs[j]? = some z := ⟨_, List.getElem?_eq_getElem (by have := HK.out.len; omega)⟩
    have hyz : ys[j]? = some z := by
     have h1 := congrArg (fun l : List (Ino × Value) => l[0]?) HDROP.out
     simpa [hz] using h1
    have hzm : z ∈ ys := List.mem_of_getElem? hyz
    obtain ⟨A, m, c, hza, _, _⟩ := HKR.out.ents z hzm
    obtain ⟨c0, c1, c2, c3⟩ := HKR.out.cells hyz hza
    obtain ⟨k1, k2⟩ := keep_step HTAKE.out (by rw [HKR.out.len, HK.out.len]) hz hij
    have hd1 : (ys.drop (j + 1)) = zs.drop (j + 1) := by
     rw [← List.tail_drop, ← List.tail_drop, HDROP.out]
    obtain ⟨V, hV, u0, u1, u2, u3, hal, hlt4⟩ := box_ino wr z.1.num z.1.dir A m c z.1.data
    have HPV := Lib.hid (HP.out.below (HBR.out.trans (hal.mono HBR.out.size)))
    have HKS1 := Lib.hid k1
    have HKS2 := Lib.hid k2
    have HD1 := Lib.hid hd1
    have HZM := Lib.hid hzm
    have HZA := Lib.hid hza
    have HAL := Lib.hid hal
    have hjz : (0 : Int) ≤ (j : Int) := by omega
    have hjl : (j : Int) < (n : Int) := by omega
    have hjw : IntKind.i64.wrap ((j : Int) + 1) = (j : Int) + 1 := by rw [IntKind.wrap_i64]; omega
    have hiw : IntKind.i64.wrap ((i : Int) + 1) = (i : Int) + 1 := by rw [IntKind.wrap_i64]; omega
    have hiz : (0 : Int) ≤ (i : Int) := by omega
    have hil : (i : Int) < (n : Int) := by omega
    clear hyz hzm hza k1 k2 hd1 hal hz
    go_wp2_with fail
    refine (del1_any p s z.1 A m c V HPV.out).mono ?_
    rintro e6 w6 ⟨rfl, hb6⟩
    have HB6 := Lib.hid (Cv.next HAL.out hb6)
    have v0 := (hb6.cell (p := ⟨wr.heap.size, 0, none⟩) hlt4).trans u0
    have v1 := (hb6.cell (p := ⟨wr.heap.size, 1, none⟩) hlt4).trans u1
    have v2 := (hb6.cell (p := ⟨wr.heap.size, 2, none⟩) hlt4).trans u2
    have v3 := (hb6.cell (p := ⟨wr.heap.size, 3, none⟩) hlt4).trans u3
    obtain ⟨bb, hbb⟩ : ∃ bb, delB s z.1 = bb := ⟨_, rfl⟩
    rw [hbb]
    have HBB := Lib.hid hbb
    clear hbb hb6 u0 u1 u2 u3 c0 c1 c2 c3
    cases bb
    ·obtain ⟨S, hS, hkS, hgS⟩ := (HKR.out.below HB6.out).set (i := i) (by omega) HZM.out
     rw [HZA.out] at hS
     obtain ⟨cur, hcur, _⟩ := (HKR.out.below HB6.out).row
     have hfz : ∀ q, w6.frozen? ⟨g, q, none⟩ = false := fun q => frozen_of_row w6 g q _ _ hcur
     obtain ⟨y, hy⟩ : ∃ y, ys[i]? = some y := ⟨_, List.getElem?_eq_getElem (by have := HKR.out.len; omega)⟩
     obtain ⟨A2, m2, c2, hya, _, _⟩ := HKR.out.ents y (List.mem_of_getElem? hy)
     obtain ⟨t0, t1, t2, t3⟩ := (HKR.out.below HB6.out).cells hy hya
     have HKS := Lib.hid hkS
     have HGS := Lib.hid (rw_trans (rw_trans HGR.out (rw_none HB6.out)) hgS)
     clear hkS hgS hcur hy hya
     go_wp2_with fail
     go_roundw
     case rel => exact ⟨i + 1, j + 1, ys.set i z, by go_num, by go_num, by omega, by omega, HKS.out, fun y hy => by
      rcases List.mem_or_eq_of_mem_set hy with h | h
      ·exact HSUB.out y h
      ·rw [h]; exact HSUB.out z HZM.out, HKS2.out HBB.out, by rw [List.drop_set_of_lt (by omega)]; exact HD1.out, HGS.out⟩
     case measure => simp [intOf]; omega
    ·go_wp2_with fail
     go_roundw
     case rel => exact ⟨i, j + 1, ys, rfl, by go_num, by omega, by omega, HKR.out.below HB6.out, HSUB.out, HKS1.out HBB.out, HD1.out, rw_trans HGR.out (rw_none HB6.out)⟩
     case measure => simp [intOf]; omega
   ·have hjn2 : j = n := by omega
    subst hjn2
    obtain ⟨r, rfl⟩ : ∃ r, j = i + r + 1 := ⟨j - (i + 1), by omega⟩
    have hfil : ys.take i = zs.filter (keepB s) := by
     rw [HTAKE.out, List.take_of_length_le (by rw [HK.out.len]; exact Nat.le_refl _)]
    obtain ⟨i0, hi0, hz0, hz1, hz2⟩ := info_parts infoIno
    obtain ⟨cur, hcur, hpre⟩ := HKR.out.row
    have hsz : (i + r + 1) * 4 ≤ cur.size := by
     have hl : (ys.flatMap inoV).length = (i + r + 1) * 4 := by rw [flat_len inoV 4 (fun x => rfl), HKR.out.len]
     have h1 : (ys.flatMap inoV)[(i + r + 1) * 4 - 1]? = some ((ys.flatMap inoV)[(i + r + 1) * 4 - 1]'(by omega)) := List.getElem?_eq_getElem (by omega)
     have h2 := (Array.getElem?_eq_some_iff.1 (hpre _ _ h1)).1
     omega
    obtain ⟨ZS, hZS⟩ : ∃ ZS, (Builtin.zeroCells (Value.agg #[.int .i64 0, .bool false, .slice none 0 0, .string ⟨#[]⟩]).cells (r + 1)).toList = ZS := ⟨_, rfl⟩
    have hzl : ZS.length = (r + 1) * 4 := by rw [← hZS]; simp [Builtin.zeroCells, Value.cells]
    have hzo : ∀ v ∈ ZS, v.oneCell' = true := by
     rw [← hZS]
     exact zero_one r
    have hcl : ∀ ty cc, (Builtin.clear_ #[22] ty #[.slice (some ⟨g, i * 4, none⟩) (r + 1) cc]).run Tryz.prog wr = .ok (.tuple #[]) (wr.setRow g (layV cur.toList (i * 4) ZS).toArray) := fun ty cc =>
     run_clear_rowN wr 22 42 ty (Value.agg #[.int .i64 0, .bool false, .slice none 0 0, .string ⟨#[]⟩]) ZS r Tryz.underlying22 (fun w => by simp [zeroValue, typeInfo, hi0, hz0]) hZS g (i * 4) cc cur 42 hcur (by rw [hzl]; omega) hzo
    have hfit : i * 4 + ZS.length ≤ cur.toList.length := by rw [hzl, Array.length_toList]; omega
    obtain ⟨W9, hW9⟩ : ∃ W9, wr.setRow g (layV cur.toList (i * 4) ZS).toArray = W9 := ⟨_, rfl⟩
    have hk9 : Kept W0 W9 g i (zs.filter (keepB s)) := by
     have hlen : (zs.filter (keepB s)).length = i := by rw [← hfil, List.length_take, HKR.out.len]; omega
     refine ⟨⟨_, by rw [← hW9]; exact setRow_heap wr g cur _ _ _ hcur, fun q v hq => ?_⟩, hlen, fun z hz => HK.out.ents z (List.mem_filter.1 hz).1⟩
     have hq4 : q < i * 4 := by
      have h1 := (List.getElem?_eq_some_iff.1 hq).1
      rw [flat_len inoV 4 (fun x => rfl), hlen] at h1
      exact h1
     rw [← hfil, ← flat_takeL inoV 4 (fun _ => rfl), List.getElem?_take, if_pos hq4] at hq
     have h2 := hpre q v hq
     rw [List.getElem?_toArray]
     unfold layV
     rw [List.append_assoc, List.getElem?_append_left (by rw [List.length_take, Array.length_toList]; omega), List.getElem?_take, if_pos hq4, Array.getElem?_toList]
     exact h2
    have hg9 : wr.grownBy W9 (some g) := by rw [← hW9]; exact rw_setRow
    rw [hW9] at hcl
    have HCL := Lib.hid hcl
    have HK9 := Lib.hid hk9
    have HG9 := Lib.hid (rw_trans HGR.out hg9)
    have p1 : ¬ (cap = i) := by omega
    have p2 : i ≤ cap := by omega
    have p3 : i ≤ i + r + 1 := by omega
    have p4 : (0 : Int) ≤ (i : Int) := by omega
    have p5 : (i : Int) ≤ (i : Int) + (r : Int) + 1 := by omega
    have p6 : (i : Int) + (r : Int) + 1 ≤ (cap : Int) := by omega
    have p7 : i + r + 1 ≤ cap := hnc
    have p8 : (i : Int) ≤ (cap : Int) := by omega
    have p9 : i + r + 1 - i = r + 1 := by omega
    clear hcl hk9 hg9 hfil hcur hpre hsz hzl hzo hfit hZS hW9 hz0 hz1 hz2 hi0
    go_wp2_with (simp only [HCL.out])
    go_ret
    exact ⟨i, rfl, by omega, HK9.out, HG9.out⟩
end Go.Proofs.YthhceopnnappgaaGreat
