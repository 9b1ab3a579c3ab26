/- Parts of the proof, side by side: ConRe, ConCmd, ConHex. -/
import Derived.Test.YtilkhmhgjbhfnaaGreatDoorConTold
import Derived.Test.YtilkhmhgjbhfnaaGreatDoorM15
import Derived.Test.YtilkhmhgjbhfnaaGreatDoorM10
import Derived.Test.YtilkhmhgjbhfnaaGreatDoorM01
import Derived.Test.YtilkhmhgjbhfnaaGreatDoorM03
import Derived.Maps.Own
import Derived.Maps.Views
import Derived.Carry
import Derived.Test.YtilkhmhgjbhfnaaGreatDoorM16
import Derived.Test.YtilkhmhgjbhfnaaGreatDoorM00
set_option linter.unusedVariables false
set_option linter.unusedSimpArgs false
namespace Go.Proofs.YtilkhmhgjbhfnaaGreatDoor
def ReB (r : Re) : Prop := (0 ≤ r.code ∧ r.code ≤ 10) ∧ (0 ≤ r.fd ∧ r.fd ≤ 10) ∧ (0 ≤ r.num ∧ r.num ≤ 1099511627776) ∧ r.data.size ≤ 256 ∧ r.names.length ≤ 32 ∧ ∀ x ∈ r.names, x.size ≤ 12
theorem z010 : (0 : Int) ≤ 0 ∧ (0 : Int) ≤ 10 := by decide
theorem z0b : (0 : Int) ≤ 0 ∧ (0 : Int) ≤ 1099511627776 := by decide
theorem reb_code {c : Int} (h : 0 ≤ c ∧ c ≤ 10) : ReB { code := c } := ⟨h, z010, z0b, Nat.zero_le _, Nat.zero_le _, fun x hx => nomatch hx⟩
theorem reb_num {n : Int} {d : Bool} (h : 0 ≤ n ∧ n ≤ 1099511627776) : ReB { num := n, dir := d } := ⟨z010, z010, h, Nat.zero_le _, Nat.zero_le _, fun x hx => nomatch hx⟩
theorem reb_fd {n : Int} (h : 0 ≤ n ∧ n ≤ 10) : ReB { fd := n } := ⟨z010, h, z0b, Nat.zero_le _, Nat.zero_le _, fun x hx => nomatch hx⟩
theorem reb_data {d : ByteArray} (h : d.size ≤ 256) : ReB { data := d } := ⟨z010, z010, z0b, h, Nat.zero_le _, fun x hx => nomatch hx⟩
theorem reb_names {l : List ByteArray} (h : l.length ≤ 32) (h2 : ∀ x ∈ l, x.size ≤ 12) : ReB { names := l } := ⟨z010, z010, z0b, Nat.zero_le _, h, h2⟩
theorem codeP_ok (n : Nat) : 0 ≤ codeP n ∧ codeP n ≤ 10 := by
  unfold codeP
  split
  · omega
  · split <;> omega
theorem walkGc_ok (is : List Ino) : ∀ (ns : List (List UInt8)) (a : Int), 0 ≤ (walkG is ns a).2 ∧ (walkG is ns a).2 ≤ 10
  | [], a => by unfold walkG; exact z010
  | n :: ns, a => by
    unfold walkG
    split
    · decide
    · split
      · decide
      · split
        · decide
        · exact walkGc_ok is ns _
theorem findVc_ok (is : List Ino) (p : ByteArray) : 0 ≤ (findV is p).2 ∧ (findV is p).2 ≤ 10 := by
  unfold findV
  split
  · exact codeP_ok _
  · exact walkGc_ok _ _ _
theorem parentVc_ok (is : List Ino) (p : ByteArray) : 0 ≤ (parentV is p).2.2 ∧ (parentV is p).2.2 ≤ 10 := by
  unfold parentV
  split
  · exact codeP_ok _
  · split
    · decide
    · split
      · exact walkGc_ok _ _ _
      · split
        · decide
        · exact z010
theorem inoAtc_mem {is : List Ino} {i : Int} {x : Ino} (h : inoAt is i = some x) : x ∈ is := by
  unfold inoAt at h
  split at h
  · cases h
  · exact List.mem_of_getElem? h
theorem Good.dataAt {s : St} (h : Good s) (n : Int) : (dataAt s.inos n).size ≤ 256 := by
  unfold Proofs.YtilkhmhgjbhfnaaGreatDoor.dataAt
  split
  · decide
  · rename_i x hx
    have hm := inoAtc_mem hx
    cases hd : x.dir
    · exact (h.files x hm hd).2
    · rw [(h.dirs x hm hd).1]; omega
theorem reb_doV (s : St) (c : Ca) : ReB (doV s c).2 := by
  unfold doV doF
  split
  · exact reb_code ⟨by decide, by decide⟩
  · rename_i h
    have hg : Good s := by
      rw [← good_iff]
      cases hmv : mayV s
      · exact absurd (.inl hmv) h
      · rfl
    split
    · show ReB (make1V s c).2
      unfold make1V
      split
      · exact reb_code (parentVc_ok _ _)
      · split
        · exact reb_code ⟨by decide, by decide⟩
        · split
          · exact reb_code ⟨by decide, by decide⟩
          · exact reb_code ⟨by decide, by decide⟩
    · split
      · show ReB (openedV s c (-1)).2.1
        unfold openedV
        split
        · exact reb_code (findVc_ok _ _)
        · split
          · exact reb_code ⟨by decide, by decide⟩
          · split
            · exact reb_code ⟨by decide, by decide⟩
            · rw [if_neg (by omega)]
              refine reb_fd ⟨by omega, ?_⟩
              unfold freeFd
              repeat' split
              all_goals decide
      · split
        · show ReB (byFdV s c).2
          unfold byFdV
          split
          · exact reb_code ⟨by decide, by decide⟩
          · split
            · exact reb_code ⟨by decide, by decide⟩
            · split
              · split
                · exact reb_code ⟨by decide, by decide⟩
                · refine reb_data ?_
                  show (((Proofs.YtilkhmhgjbhfnaaGreatDoor.dataAt s.inos (fdV s.opn c.core c.fd)).data.toList.drop c.off.toNat).take c.num.toNat).toArray.size ≤ 256
                  have := hg.dataAt (fdV s.opn c.core c.fd)
                  have h2 : (Proofs.YtilkhmhgjbhfnaaGreatDoor.dataAt s.inos (fdV s.opn c.core c.fd)).size = (Proofs.YtilkhmhgjbhfnaaGreatDoor.dataAt s.inos (fdV s.opn c.core c.fd)).data.toList.length := by rw [Array.length_toList]; rfl
                  rw [List.size_toArray, List.length_take, List.length_drop]
                  omega
              · split
                · split
                  · exact reb_code ⟨by decide, by decide⟩
                  · split
                    · exact reb_code ⟨by decide, by decide⟩
                    · split
                      · exact reb_code ⟨by decide, by decide⟩
                      · exact reb_num ⟨by omega, by omega⟩
                · split
                  · split
                    · exact reb_code ⟨by decide, by decide⟩
                    · exact reb_code ⟨by decide, by decide⟩
                  · split
                    · have := hg.dataAt (fdV s.opn c.core c.fd)
                      exact reb_num ⟨by omega, by omega⟩
                    · exact reb_code ⟨by decide, by decide⟩
        · split
          · show ReB (namesV s c).2
            unfold namesV linkV renameV
            repeat' split
            all_goals first
              | exact reb_code ⟨by decide, by decide⟩
              | exact reb_code (findVc_ok _ _)
              | exact reb_code (parentVc_ok _ _)
          · split
            · show ReB (looksV s c)
              unfold looksV
              split
              · exact reb_code (findVc_ok _ _)
              · split
                · split
                  · exact reb_code ⟨by decide, by decide⟩
                  · unfold entsOf
                    split
                    · exact reb_code ⟨by decide, by decide⟩
                    · rename_i x hx
                      have hm := inoAtc_mem hx
                      refine reb_names (by rw [List.length_map]; exact hg.ents_len hm) fun y hy => ?_
                      obtain ⟨e, he, rfl⟩ := List.mem_map.1 hy
                      cases hd : x.dir
                      · rw [(hg.files x hm hd).1] at he; cases he
                      · have := (((entsG_each s.inos x.ents none _ (hg.dirs x hm hd).2)).1 e he).1
                        exact chk_size12 this
                · split
                  · have := hg.dataAt (findV s.inos c.path).1
                    exact reb_num ⟨by omega, by omega⟩
                  · split
                    · exact reb_code ⟨by decide, by decide⟩
                    · have h1 := linkI_len s.inos (findV s.inos c.path).1
                      have h2 := (hg.small.sized (by omega) (by omega) (by omega)).big
                      exact reb_num ⟨by omega, by omega⟩
            · exact reb_code ⟨by decide, by decide⟩
theorem nDigits_pow : ∀ (k n : Nat), n < 10 ^ (k + 1) → Lib.nDigits n ≤ k + 1
  | 0, n, h => by
    have h1 : n < 10 := h
    rw [Lib.nDigits_small h1]; omega
  | k + 1, n, h => by
    by_cases h1 : n < 10
    · rw [Lib.nDigits_small h1]; omega
    · rw [Lib.nDigits_big h1]
      have h2 : 10 ^ (k + 1 + 1) = 10 ^ (k + 1) * 10 := Nat.pow_succ 10 (k + 1)
      have := nDigits_pow k (n / 10) (by omega)
      omega
theorem decN_le {n : Int} (h : n ≤ 1099511627776) : (decN n).length ≤ 13 := by
  unfold decN
  rw [Lib.decDigits_length]
  exact nDigits_pow 12 n.toNat (by have : (10 : Nat) ^ (12 + 1) = 10000000000000 := by decide
                                   omega)
theorem lens_map (l : List ByteArray) (h : ∀ x ∈ l, x.size ≤ 12) : Lib.lens (l.map (·.data.toList)) ≤ 12 * l.length := by
  induction l with
  | nil => decide
  | cons x r ih =>
    have h1 := ih fun y hy => h y (List.mem_cons_of_mem _ hy)
    have h2 : x.data.toList.length = x.size := by rw [Array.length_toList]; rfl
    have h3 := h x (List.mem_cons_self)
    have e : Lib.lens ((x :: r).map (·.data.toList)) = x.data.toList.length + Lib.lens (r.map (·.data.toList)) := by
      unfold Lib.lens
      rw [List.map_cons, List.map_cons, List.sum_cons]
    rw [e, List.length_cons]
    omega
theorem ReB.len {r : Re} (h : ReB r) (kind : Int) : (Lib.join (toldL kind r) [32]).length ≤ 1000 := by
  obtain ⟨⟨_, h1⟩, ⟨_, h2⟩, ⟨_, h3⟩, h4, h5, h6⟩ := h
  have d1 := decN_le (Int.le_trans h1 (by decide))
  have d2 := decN_le (Int.le_trans h2 (by decide))
  have d3 := decN_le h3
  have hz : r.data.data.toList.length = r.data.size := by rw [Array.length_toList]; rfl
  have d4 := hexT_len r.data.data.toList
  have one : ∀ (a : List UInt8) (l : List (List UInt8)), (Lib.join (a :: l) [32]).length = l.length + (a.length + Lib.lens l) := fun a l => by
    rw [Lib.join_length]
    unfold Lib.lens
    rw [List.map_cons, List.sum_cons, List.length_singleton, Nat.one_mul]
  have l1 : ∀ a : List UInt8, Lib.lens [a] = a.length := fun a => by unfold Lib.lens; simp
  unfold toldL
  split
  · rw [one]; show 0 + (_ + 0) ≤ _; omega
  · rw [one]
    split
    · rw [l1]; show 1 + _ ≤ _; omega
    · split
      · have := lens_map r.names h6
        rw [List.length_map]
        omega
      · split
        · rw [l1]; show 1 + _ ≤ _; omega
        · split
          · split
            · rw [l1]; show 1 + (_ + 3) ≤ _; omega
            · rw [l1]; show 1 + _ ≤ _; omega
          · show 0 + (_ + 0) ≤ _; omega
theorem ReB.ok {r : Re} (h : ReB r) : ReOk r :=
  ⟨⟨h.1.1, Int.le_trans h.1.2 (by decide)⟩, ⟨h.2.1.1, Int.le_trans h.2.1.2 (by decide)⟩, ⟨h.2.2.1.1, Int.le_trans h.2.2.1.2 (by decide)⟩, Nat.le_trans h.2.2.2.1 (by decide), Nat.le_trans h.2.2.2.2.1 (by decide), fun k => Nat.le_trans (h.len k) (by decide)⟩
end Go.Proofs.YtilkhmhgjbhfnaaGreatDoor
namespace Go.Proofs.YtilkhmhgjbhfnaaGreatDoor
open Go.RowKit Go.Maps
def cmdR (v : Value) : Option (DataW Unit × List MemPlace) :=
 match v with
 | .agg c => match c.toList with
  | [.int .i64 k, .string s] => some (.agg [.lit (.int .i64 k), .lit (.string s.data.toList)], [])
  | _ => none
 | _ => none
theorem cmdR_inv {v : Value} {y : DataW Unit × List MemPlace} (h : cmdR v = some y) : ∃ k s, v = .agg #[.int .i64 k, .string s] ∧ y = (.agg [.lit (.int .i64 k), .lit (.string s.data.toList)], []) := by
 unfold cmdR at h
 split at h
 ·rename_i c
  split at h
  ·rename_i k s hc
   cases h
   exact ⟨k, s, by rw [show c = #[.int .i64 k, .string s] from Array.toList_inj.1 hc], rfl⟩
  ·cases h
 ·cases h
def putsD : List (List UInt8 × Int × List UInt8) → DataW Unit
 | [] => .map []
 | x :: r => (putsD r).put (.string x.1) (.agg [.lit (.int .i64 x.2.1), .lit (.string x.2.2)])
theorem putsD_map : ∀ l, IsMap (putsD l)
 | [] => isMap_empty
 | x :: r => (putsD_map r).put _ _
theorem putsD_at (w : List UInt8) (z : DataW Unit) : ∀ l, (putsD l).atKey (.string w) z = match l.find? (fun x => x.1 == w) with
  | some x => .agg [.lit (.int .i64 x.2.1), .lit (.string x.2.2)]
  | none => z
 | [] => rfl
 | x :: r => by
  rw [putsD, List.find?_cons]
  by_cases h : x.1 = w
  ·subst h
   rw [atKey_put_same (putsD_map r) (by trivial)]
   simp
  ·rw [atKey_put_other (fun e => h (by injection e with e; exact e.symm)), putsD_at w z r]
   have : (x.1 == w) = false := by rw [beq_eq_false_iff_ne]; exact h
   rw [this]
theorem insert_op {ops : Array Oper} {rest : List Oper} {o : Oper} {a : Act} {w : World} {Q : Exit → Act → World → Prop} (b n : Nat) (D : DataW Unit) (hown : w.ownsMap Tryz.prog 9 cmdR b n D) (hn : n < 100) (key : ByteArray) (kk : Int) (ss : ByteArray) (m x v : Operand)
  (hg : o.guard = none) (hop : o.op = Op.insert 116 m x v) (hm : a.eval m = .map (some b)) (hx : a.eval x = .string key) (hv : a.eval v = .agg #[.int .i64 kk, .string ss]) (hks : key.size ≤ 100)
  (hK : ∀ w', w'.ownsMap Tryz.prog 9 cmdR b (n + 1) (D.put (.string key.data.toList) (.agg [.lit (.int .i64 kk), .lit (.string ss.data.toList)])) → Below b w w' → wpList Tryz.prog ops Q rest (a.put o.dst undef) w') : wpList Tryz.prog ops Q (o :: rest) a w := by
 refine wpList_plain hg fun K' hK' => ?_
 obtain ⟨w', hrun, r1, r2⟩ := hown.update (string_keyed Tryz.underlying9) Tryz.underlying116 (by unfold maxLen; omega) (WideMaps.keyOf_string_mk Tryz.underlying9 (s := key) (by unfold maxLen; omega)) (val := .agg #[.int .i64 kk, .string ss]) rfl
 unfold Oper.wp
 simp [execOp, hop, hm, hx, hv, hrun, Result.andThen]
 exact hK' _ _ (hK w' r1 ((Below.refl _ _).grown r2 (Nat.le_of_lt hown.lt) (fun k hk => by injection hk with hk; omega)))
def cmdK (w : List UInt8) : Int := match cmdV w with | some x => x.1 | none => 0
def cmdS (w : List UInt8) : ByteArray := match cmdV w with | some x => ⟨x.2.toArray⟩ | none => ⟨#[]⟩
theorem zero_cmd (w : World) : (zeroValue 82).run Tryz.prog w = .ok (.agg #[.int .i64 0, .string ⟨#[]⟩]) w := by kernel_rfl
theorem cmd_look (W : World) (g n : Nat) (hown : W.ownsMap Tryz.prog 9 cmdR g n (putsD cmds)) (s : ByteArray) (hs : s.size ≤ 9223372036854775806) :
  (Instr.lookup 116 (.map (some g)) (.string s) true).run Tryz.prog W = .ok (.tuple #[.agg #[.int .i64 (cmdK s.data.toList), .string (cmdS s.data.toList)], .bool (cmdV s.data.toList).isSome]) W := by
 obtain ⟨es, ck, hb, F, _, hD⟩ := hown
 have hat := fun z => putsD_at s.data.toList z cmds
 rw [hD] at hat
 have hz := zero_cmd W
 rcases fit_look true (string_keyed Tryz.underlying9) Tryz.underlying116 hz hb F (WideMaps.keyOf_string_mk Tryz.underlying9 (s := s) (by unfold maxLen; omega)) with ⟨hrun, _, h2⟩ | ⟨e0, y, _, _, hrun, hR, h2, _⟩
 ·cases hf : cmds.find? (fun x => x.1 == s.data.toList) with
  | none =>
   rw [hrun]
   unfold cmdK cmdS cmdV
   rw [hf]
   rfl
  | some x =>
   have h3 := hat .nil
   rw [h2, hf] at h3
   cases h3
 ·obtain ⟨k, t, hv, rfl⟩ := cmdR_inv hR
  cases hf : cmds.find? (fun x => x.1 == s.data.toList) with
  | none =>
   have h3 := hat .nil
   rw [h2, hf] at h3
   cases h3
  | some x =>
   have h3 := hat .nil
   rw [h2, hf] at h3
   simp only [DataW.agg.injEq, List.cons.injEq, DataW.lit.injEq, Lit.int.injEq, Lit.string.injEq, and_true, true_and] at h3
   obtain ⟨h4, h5⟩ := h3
   rw [hrun, hv]
   unfold cmdK cmdS cmdV
   rw [hf]
   show Result.ok _ _ = _
   have ht : t = ⟨x.2.2.toArray⟩ := ByteArray.ext (Array.toList_inj.1 (by rw [h5]))
   rw [h4, ht]
   rfl
theorem cmd_results (tmps : Array Value) (g : Nat) (a b : Value) (B : Bool) (w : World) (h6 : tmps.getD 2 undef = .pointer (some ⟨g, 0, none⟩)) (h7 : tmps.getD 3 undef = .bool B) (hO : w.heap[g]? = some (.cells #[a, b] 82 (0, 0))) :
  (results Tryz.f38 tmps).run Tryz.prog w = .ok (.tuple #[.agg #[a, b], .bool B]) w := by
 rw [results_cell_tmp rfl, h6, h7]
 have hl1 := run_loadVar_row (P := Tryz.prog) w g _ 82 _ (0, 0) _ hO Tryz.underlying82 rfl (by kernel_rfl)
 simp [asAddr, hl1, Result.andThen]
set_option maxRecDepth 100000 in
set_option maxHeartbeats 4000000 in
theorem cmd_any (s : ByteArray) (w : World) (hs : s.size ≤ 9223372036854775806) :
  Calls Tryz.prog 38 #[.string s] w fun e w' => e = .returned (.tuple #[.agg #[.int .i64 (cmdK s.data.toList), .string (cmdS s.data.toList)], .bool (cmdV s.data.toList).isSome]) ∧ Below w.heap.size w w' := by
 obtain ⟨W, hW⟩ : ∃ W, w.alloc (.cells #[.int .i64 0, .string ⟨#[]⟩] 82) = W := ⟨_, rfl⟩
 have HW := Lib.hid hW
 have hmm := @run_makeMap Tryz.prog
 have HO0 := Lib.hid (World.ownsMap_made W Tryz.prog 9 cmdR)
 have HB0 : Hid (Below w.heap.size w (W.alloc (.map #[] 0))) := Lib.hid (by rw [← hW]; exact ((Below.refl _ _).alloc (Nat.le_refl _) _).alloc (by simp) _)
 have hlt0 : w.heap.size < W.heap.size := by rw [← hW]; simp
 have HR0 : Hid ((W.alloc (.map #[] 0)).heap[w.heap.size]? = some (.cells #[.int .i64 0, .string ⟨#[]⟩] 82 (0, 0))) := Lib.hid (by rw [← hW]; exact row_past (heap_alloc_new w _) (by simp))
 go_enter Tryz.func38, Tryz.ntmps38
 go_wp2_with (refine insert_op W.heap.size 0 _ HO0.out (by decide) _ _ _ _ _ _ rfl rfl rfl rfl rfl (by decide) ?_)
 intro w1 hown hb
 have HO1 := Lib.hid hown
 have HB1 := Lib.hid (HB0.out.trans (hb.mono (Nat.le_of_lt hlt0)))
 have HR1 := Lib.hid ((hb.block w.heap.size hlt0).trans HR0.out)
 clear hown hb HO0 HB0 HR0
 go_wp2_with (refine insert_op W.heap.size 1 _ HO1.out (by decide) _ _ _ _ _ _ rfl rfl rfl rfl rfl (by decide) ?_)
 intro w2 hown hb
 have HO2 := Lib.hid hown
 have HB2 := Lib.hid (HB1.out.trans (hb.mono (Nat.le_of_lt hlt0)))
 have HR2 := Lib.hid ((hb.block w.heap.size hlt0).trans HR1.out)
 clear hown hb HO1 HB1 HR1
 go_wp2_with (refine insert_op W.heap.size 2 _ HO2.out (by decide) _ _ _ _ _ _ rfl rfl rfl rfl rfl (by decide) ?_)
 intro w3 hown hb
 have HO3 := Lib.hid hown
 have HB3 := Lib.hid (HB2.out.trans (hb.mono (Nat.le_of_lt hlt0)))
 have HR3 := Lib.hid ((hb.block w.heap.size hlt0).trans HR2.out)
 clear hown hb HO2 HB2 HR2
 go_wp2_with (refine insert_op W.heap.size 3 _ HO3.out (by decide) _ _ _ _ _ _ rfl rfl rfl rfl rfl (by decide) ?_)
 intro w4 hown hb
 have HO4 := Lib.hid hown
 have HB4 := Lib.hid (HB3.out.trans (hb.mono (Nat.le_of_lt hlt0)))
 have HR4 := Lib.hid ((hb.block w.heap.size hlt0).trans HR3.out)
 clear hown hb HO3 HB3 HR3
 go_wp2_with (refine insert_op W.heap.size 4 _ HO4.out (by decide) _ _ _ _ _ _ rfl rfl rfl rfl rfl (by decide) ?_)
 intro w5 hown hb
 have HO5 := Lib.hid hown
 have HB5 := Lib.hid (HB4.out.trans (hb.mono (Nat.le_of_lt hlt0)))
 have HR5 := Lib.hid ((hb.block w.heap.size hlt0).trans HR4.out)
 clear hown hb HO4 HB4 HR4
 go_wp2_with (refine insert_op W.heap.size 5 _ HO5.out (by decide) _ _ _ _ _ _ rfl rfl rfl rfl rfl (by decide) ?_)
 intro w6 hown hb
 have HO6 := Lib.hid hown
 have HB6 := Lib.hid (HB5.out.trans (hb.mono (Nat.le_of_lt hlt0)))
 have HR6 := Lib.hid ((hb.block w.heap.size hlt0).trans HR5.out)
 clear hown hb HO5 HB5 HR5
 go_wp2_with (refine insert_op W.heap.size 6 _ HO6.out (by decide) _ _ _ _ _ _ rfl rfl rfl rfl rfl (by decide) ?_)
 intro w7 hown hb
 have HO7 := Lib.hid hown
 have HB7 := Lib.hid (HB6.out.trans (hb.mono (Nat.le_of_lt hlt0)))
 have HR7 := Lib.hid ((hb.block w.heap.size hlt0).trans HR6.out)
 clear hown hb HO6 HB6 HR6
 go_wp2_with (refine insert_op W.heap.size 7 _ HO7.out (by decide) _ _ _ _ _ _ rfl rfl rfl rfl rfl (by decide) ?_)
 intro w8 hown hb
 have HO8 := Lib.hid hown
 have HB8 := Lib.hid (HB7.out.trans (hb.mono (Nat.le_of_lt hlt0)))
 have HR8 := Lib.hid ((hb.block w.heap.size hlt0).trans HR7.out)
 clear hown hb HO7 HB7 HR7
 go_wp2_with (refine insert_op W.heap.size 8 _ HO8.out (by decide) _ _ _ _ _ _ rfl rfl rfl rfl rfl (by decide) ?_)
 intro w9 hown hb
 have HO9 := Lib.hid hown
 have HB9 := Lib.hid (HB8.out.trans (hb.mono (Nat.le_of_lt hlt0)))
 have HR9 := Lib.hid ((hb.block w.heap.size hlt0).trans HR8.out)
 clear hown hb HO8 HB8 HR8
 go_wp2_with (refine insert_op W.heap.size 9 _ HO9.out (by decide) _ _ _ _ _ _ rfl rfl rfl rfl rfl (by decide) ?_)
 intro w10 hown hb
 have HO10 := Lib.hid hown
 have HB10 := Lib.hid (HB9.out.trans (hb.mono (Nat.le_of_lt hlt0)))
 have HR10 := Lib.hid ((hb.block w.heap.size hlt0).trans HR9.out)
 clear hown hb HO9 HB9 HR9
 go_wp2_with (refine insert_op W.heap.size 10 _ HO10.out (by decide) _ _ _ _ _ _ rfl rfl rfl rfl rfl (by decide) ?_)
 intro w11 hown hb
 have HO11 := Lib.hid hown
 have HB11 := Lib.hid (HB10.out.trans (hb.mono (Nat.le_of_lt hlt0)))
 have HR11 := Lib.hid ((hb.block w.heap.size hlt0).trans HR10.out)
 clear hown hb HO10 HB10 HR10
 go_wp2_with (refine insert_op W.heap.size 11 _ HO11.out (by decide) _ _ _ _ _ _ rfl rfl rfl rfl rfl (by decide) ?_)
 intro w12 hown hb
 have HO12 := Lib.hid hown
 have HB12 := Lib.hid (HB11.out.trans (hb.mono (Nat.le_of_lt hlt0)))
 have HR12 := Lib.hid ((hb.block w.heap.size hlt0).trans HR11.out)
 clear hown hb HO11 HB11 HR11
 go_wp2_with (refine insert_op W.heap.size 12 _ HO12.out (by decide) _ _ _ _ _ _ rfl rfl rfl rfl rfl (by decide) ?_)
 intro w13 hown hb
 have HO13 := Lib.hid hown
 have HB13 := Lib.hid (HB12.out.trans (hb.mono (Nat.le_of_lt hlt0)))
 have HR13 := Lib.hid ((hb.block w.heap.size hlt0).trans HR12.out)
 clear hown hb HO12 HB12 HR12
 go_wp2_with (refine insert_op W.heap.size 13 _ HO13.out (by decide) _ _ _ _ _ _ rfl rfl rfl rfl rfl (by decide) ?_)
 intro w14 hown hb
 have HO14 := Lib.hid hown
 have HB14 := Lib.hid (HB13.out.trans (hb.mono (Nat.le_of_lt hlt0)))
 have HR14 := Lib.hid ((hb.block w.heap.size hlt0).trans HR13.out)
 clear hown hb HO13 HB13 HR13
 go_wp2_with (refine insert_op W.heap.size 14 _ HO14.out (by decide) _ _ _ _ _ _ rfl rfl rfl rfl rfl (by decide) ?_)
 intro w15 hown hb
 have HO15 := Lib.hid hown
 have HB15 := Lib.hid (HB14.out.trans (hb.mono (Nat.le_of_lt hlt0)))
 have HR15 := Lib.hid ((hb.block w.heap.size hlt0).trans HR14.out)
 clear hown hb HO14 HB14 HR14
 have hlk := cmd_look w15 W.heap.size 15 HO15.out s hs
 have hq := (Array.getElem?_eq_some_iff.1 HR15.out).1
 have hqn : w.heap.size ≠ w15.heap.size := Nat.ne_of_lt hq
 have c0 : w15.cell? ⟨w.heap.size, 0, none⟩ = some (.int .i64 0) := by rw [cell_of_row w15 _ _ _ _ (0, 0) HR15.out]; rfl
 have c1 : w15.cell? ⟨w.heap.size, 1, none⟩ = some (.string ⟨#[]⟩) := by rw [cell_of_row w15 _ _ _ _ (0, 0) HR15.out]; rfl
 have cf : ∀ j, w15.frozen? ⟨w.heap.size, j, none⟩ = false := fun j => frozen_of_row w15 _ j _ _ HR15.out
 obtain ⟨K, hK⟩ : ∃ K, cmdK s.data.toList = K := ⟨_, rfl⟩
 obtain ⟨S, hS⟩ : ∃ S, cmdS s.data.toList = S := ⟨_, rfl⟩
 rw [hK, hS] at hlk
 have HK := Lib.hid hK
 have HS := Lib.hid hS
 have hrow : ∀ x y z t, (((w15.setCell ⟨w.heap.size, 0, none⟩ z).setCell ⟨w.heap.size, 1, none⟩ t).alloc (.cells #[x, y] 82)).heap[w.heap.size]? = some (.cells #[z, t] 82 (0, 0)) := fun x y z t =>
  row_past (heap_setCell_same _ _ 1 _ _ t (heap_setCell_same _ _ 0 _ _ z HR15.out)) (by simpa [World.setCell] using hq)
 have hbel : ∀ x y z t, Below w.heap.size w (((w15.setCell ⟨w.heap.size, 0, none⟩ z).setCell ⟨w.heap.size, 1, none⟩ t).alloc (.cells #[x, y] 82)) := fun x y z t => ((HB15.out.setCell (p := ⟨w.heap.size, 0, none⟩) (Nat.le_refl _) z).setCell (p := ⟨w.heap.size, 1, none⟩) (Nat.le_refl _) t).alloc (by simpa [World.setCell] using Nat.le_of_lt hq) _
 have HROW := Lib.hid hrow
 have HBEL := Lib.hid hbel
 clear hmm hK hS hrow hbel
 go_wp2_with fail
 refine bodyPost_ret (cmd_results _ w.heap.size _ _ _ _ rfl rfl (HROW.out _ _ _ _)) rfl ?_
 exact ⟨by rw [HK.out, HS.out], HBEL.out _ _ _ _⟩
end Go.Proofs.YtilkhmhgjbhfnaaGreatDoor
namespace Go.Proofs.YtilkhmhgjbhfnaaGreatDoor
open Go.RowKit
theorem idx_all : ∀ n : Fin 256, Lib.indexByte [48, 49, 50, 51, 52, 53, 54, 55, 56, 57, 97, 98, 99, 100, 101, 102] (UInt8.ofNat n.val) = hexV (UInt8.ofNat n.val) := by decide +kernel
theorem idx_hex (b : UInt8) : Lib.indexByte [48, 49, 50, 51, 52, 53, 54, 55, 56, 57, 97, 98, 99, 100, 101, 102] b = hexV b := by
 have h := idx_all ⟨b.toNat, UInt8.toNat_lt b⟩
 simpa using h
theorem idx_any (b : UInt8) (w : World) : Calls Tryz.prog 80 #[.string ⟨#[48, 49, 50, 51, 52, 53, 54, 55, 56, 57, 97, 98, 99, 100, 101, 102]⟩, .int .u8 (b.toNat : Int)] w fun e w' => e = .returned (.int .i64 (hexV b)) ∧ w = w' := by
 refine (strings_IndexByte _ _ w).mono ?_
 rintro e w' ⟨rfl, rfl⟩
 refine ⟨?_, rfl⟩
 have e1 : ((b.toNat : Int)).toNat.toUInt8 = b := by simp
 rw [e1]
 exact congrArg (fun x => Ending.returned (.int .i64 x)) (idx_hex b)
theorem hexV_range (b : UInt8) : -1 ≤ hexV b ∧ hexV b ≤ 15 := by
 unfold hexV
 have := UInt8.toNat_lt b
 split
 ·omega
 ·split <;> omega
theorem unhex_step {a b : UInt8} {r T l : List UInt8} (h : unhexL l = (unhexL (a :: b :: r)).map (T ++ ·)) (ha : 0 ≤ hexV a) (hb : 0 ≤ hexV b) : unhexL l = (unhexL r).map ((T ++ [UInt8.ofNat (hexV a * 16 + hexV b).toNat]) ++ ·) := by
 rw [h, unhexL, if_neg (by omega), Option.map_map]
 congr 1
 funext x
 simp
theorem unhex_bad {a b : UInt8} {r T l : List UInt8} (h : unhexL l = (unhexL (a :: b :: r)).map (T ++ ·)) (ha : hexV a < 0 ∨ hexV b < 0) : unhexL l = none := by
 rw [h, unhexL, if_pos ha]
 rfl
theorem unhex_end {r T l : List UInt8} (h : unhexL l = (unhexL r).map (T ++ ·)) (hr : r.length ≤ 1) : unhexL l = some T := by
 rw [h]
 match r, hr with
 | [], _ => simp [unhexL]
 | [_], _ => simp [unhexL]
theorem or_all : ∀ i : Fin 16, ∀ j : Fin 16, bits .or .i64 ((i.val : Int) * 16) (j.val : Int) % 256 = ((UInt8.ofNat (i.val * 16 + j.val)).toNat : Int) := by decide +kernel
theorem infoU8c : (Tryz.prog.info? 5).map (fun i => (i.zero, i.size, i.bytes)) = some (some (.int .u8 0), 1, 1) := by kernel_rfl
set_option maxRecDepth 100000 in
set_option maxHeartbeats 4000000 in
theorem unhex_any (s : ByteArray) (w : World) (hs : s.size ≤ 1048576) :
  Calls Tryz.prog 61 #[.string s] w fun e w' => e = .returned (.tuple #[.string (unhexB s).1, .bool (unhexB s).2]) ∧ Below w.heap.size w w' := by
 have hll : s.data.toList.length = s.size := Array.length_toList
 have HLL := Lib.hid hll
 clear hll
 obtain ⟨i0, hi, hz0, hz1, hz2⟩ := info_parts infoU8c
 obtain ⟨R, hR⟩ : ∃ R, unhexB s = R := ⟨_, rfl⟩
 rw [hR]
 unfold unhexB at hR
 have HR := Lib.hid hR
 clear hR
 go_enter Tryz.func61, Tryz.ntmps61
 by_cases h45 : s.data.toList = [45]
 ·have hs0 : s = ⟨#[45]⟩ := ByteArray.ext (Array.toList_inj.1 (by rw [h45]))
  obtain rfl : R = (⟨#[]⟩, true) := by rw [← HR.out, if_pos h45]
  subst hs0
  clear h45
  go_wp2_with fail
  refine bodyPost_ret (results_tmp2 rfl _ _ _) rfl ?_
  exact ⟨rfl, Below.refl _ _⟩
 ·have e45 : (s.toList == [45]) = false := by rw [ByteArray.toList_eq, beq_eq_false_iff_ne]; exact h45
  have H45 := Lib.hid h45
  clear h45
  go_wp2_with fail
  go_loopw [4, 5] (fun v i wr => ∃ (q : Nat) (T : List UInt8), i = .int .i64 (q : Int) ∧ q ≤ s.size + 1 ∧ unhexL s.data.toList = (unhexL (s.data.toList.drop q)).map (T ++ ·) ∧ T.length ≤ q ∧ wr.ownsRow w.heap.size 5 1 v T.length (T.map fun b => Value.int .u8 (b.toNat : Int)) ∧ Below w.heap.size w wr) (fun _ i _ => s.size + 1 - (intOf i).toNat)
  case atStart => exact ⟨0, [], rfl, by omega, by simp, by simp, World.ownsRow_nil _ _ _ _, Below.refl _ _⟩
  case round =>
   obtain ⟨q, T, rfl, hq, hun, hT, hown, hb⟩ := hrel
   have HUN := Lib.hid hun
   have HOW := Lib.hid hown
   have HB := Lib.hid hb
   clear hun hown hb
   by_cases hlt : q + 1 < s.size
   ·have q1 : decide ((q : Int) + 1 < (s.size : Int)) = true := decide_eq_true (by omega)
    have k0 : (0 : Int) ≤ (q : Int) := by omega
    have k1 : (0 : Int) ≤ (q : Int) + 1 := by omega
    have k2 : ((q : Int) + 1).toNat = q + 1 := by omega
    have k4 : (q : Int) < (s.size : Int) := by omega
    have k5 : (q : Int) + 1 < (s.size : Int) := by omega
    have k6 : q < s.size := by omega
    go_wp2_with fail
    have hX := @Ext.cell wr
    refine wre ?_
    repeat (go_big_quiet_step (first | (go_at_call 80; exact Calls.ext_of_same (idx_any _ _))))
    refine wpQuiet_nil ?_
    rintro w9 ⟨X, rfl⟩
    obtain ⟨a, ha⟩ : ∃ a, s[q] = a := ⟨_, rfl⟩
    obtain ⟨b, hb⟩ : ∃ b, s[q + 1] = b := ⟨_, rfl⟩
    have hdr : s.data.toList.drop q = a :: b :: s.data.toList.drop (q + 2) := by
     have h1 : q < s.data.toList.length := by rw [HLL.out]; omega
     have h2 : q + 1 < s.data.toList.length := by rw [HLL.out]; omega
     rw [List.drop_eq_getElem_cons h1, List.drop_eq_getElem_cons h2, ← ha, ← hb]
     rfl
    have hun := HUN.out
    rw [hdr] at hun
    have HUN2 := Lib.hid hun
    have HB2 := Lib.hid (Cv.next (HB.out.mono (Nat.le_refl _)) X.bel)
    have HOW2 := Lib.hid (HOW.out.kept (row := none) ⟨X.bel.os, X.bel.tape, X.bel.output, X.bel.size, fun i hi _ => X.bel.block i hi⟩ (by cases hv : u4.ownBlock with | none => exact .inl rfl | some g => exact .inr (by simp)))
    obtain ⟨ra1, ra2⟩ := hexV_range a
    obtain ⟨rb1, rb2⟩ := hexV_range b
    rw [ha, hb]
    obtain ⟨x, hx⟩ : ∃ x, hexV a = x := ⟨_, rfl⟩
    obtain ⟨y, hy⟩ : ∃ y, hexV b = y := ⟨_, rfl⟩
    rw [hx] at ra1 ra2
    rw [hy] at rb1 rb2
    rw [hx, hy]
    have HX := Lib.hid hx
    have HY := Lib.hid hy
    clear hX hun hdr ha hb hx hy
    by_cases hx0 : x < 0
    ·obtain rfl : R = (⟨#[]⟩, false) := by rw [← HR.out, if_neg H45.out, unhex_bad HUN2.out (.inl (by rw [HX.out]; exact hx0))]
     have kx : decide (x < 0) = true := decide_eq_true hx0
     clear hx0
     go_wp2_with fail
     refine bodyPost_ret (results_tmp2 rfl _ _ _) rfl ?_
     exact ⟨rfl, HB2.out⟩
    ·have kx : decide (x < 0) = false := decide_eq_false hx0
     by_cases hy0 : y < 0
     ·obtain rfl : R = (⟨#[]⟩, false) := by rw [← HR.out, if_neg H45.out, unhex_bad HUN2.out (.inr (by rw [HY.out]; exact hy0))]
      have ky : decide (y < 0) = true := decide_eq_true hy0
      clear hx0 hy0
      go_wp2_with fail
      refine bodyPost_ret (results_tmp2 rfl _ _ _) rfl ?_
      exact ⟨rfl, HB2.out⟩
     ·have ky : decide (y < 0) = false := decide_eq_false hy0
      obtain ⟨xn, rfl⟩ : ∃ n : Nat, x = (n : Int) := ⟨x.toNat, by omega⟩
      obtain ⟨yn, rfl⟩ : ∃ n : Nat, y = (n : Int) := ⟨y.toNat, by omega⟩
      have hx16 : xn < 16 := by omega
      have hy16 : yn < 16 := by omega
      obtain ⟨v, hv⟩ : ∃ v, UInt8.ofNat (xn * 16 + yn) = v := ⟨_, rfl⟩
      have hbv : bits .or .i64 ((xn : Int) * 16) (yn : Int) % 256 = (v.toNat : Int) := by rw [← hv]; exact or_all ⟨xn, hx16⟩ ⟨yn, hy16⟩
      have HUN3 := Lib.hid (show unhexL s.data.toList = (unhexL (s.data.toList.drop (q + 2))).map ((T ++ [v]) ++ ·) by
       have h := unhex_step HUN2.out (by rw [HX.out]; omega) (by rw [HY.out]; omega)
       rw [HX.out, HY.out, show ((xn : Int) * 16 + (yn : Int)).toNat = xn * 16 + yn by omega, hv] at h
       exact h)
      have HAL := Lib.hid (HOW2.out.alloc (.cells #[.int .u8 (v.toNat : Int)] 5))
      clear hx0 hy0 ra1 ra2 rb1 rb2 hv
      go_wp2_with (at_builtin; refine wpList_append_own _ rfl _ _ 37 rfl w.heap.size 5 i0 (.int .u8 0) 1 1 Tryz.underlying37 hi hz0 hz1 hz2 rfl (by decide) _ _ _ rfl HAL.out ⟨X.w.heap.size, 0, .none⟩ 1 1 [.int .u8 (v.toNat : Int)] rfl rfl ?ca2 ?ca3 ?ca4 ?ca5 ?ca6 ?_)
      case ca2 => exact cell_one_new _ _ _
      case ca3 =>
       intro u hu
       simp at hu
       subst hu
       rfl
      case ca4 => unfold maxLen; omega
      case ca5 => omega
      case ca6 => exact Nat.le_trans HB2.out.size (by simp)
      intro v' w2 hown' hgrow _
      have HB3 := Lib.hid ((HB2.out.alloc HB2.out.size _).grown hgrow (Nat.le_trans HB2.out.size (by simp)) fun x hx => (HAL.out.lt x hx).1)
      have HO3 := Lib.hid (show w2.ownsRow w.heap.size 5 1 v' (T ++ [v]).length ((T ++ [v]).map fun b => Value.int .u8 (b.toNat : Int)) by
       rw [List.map_append, List.length_append]
       exact hown')
      clear hown' hgrow
      go_wp2_with fail
      go_roundw
      case rel => exact ⟨q + 2, T ++ [v], by go_num, by omega, HUN3.out, by rw [List.length_append]; simp; omega, HO3.out, HB3.out⟩
      case measure => simp [intOf]; omega
   ·have q1 : decide ((q : Int) + 1 < (s.size : Int)) = false := decide_eq_false (by omega)
    have hend := unhex_end HUN.out (by rw [List.length_drop, HLL.out]; omega)
    obtain ⟨A, c, hv, hc, hn, hg⟩ := row_any HOW.out (by decide)
    subst hv
    have hcv2 : (convert 37 9 (.slice A T.length c)).run Tryz.prog wr = .ok (.string ⟨T.toArray⟩) wr := by
     rcases A with _ | ad
     ·have hT0 : T = [] := List.eq_nil_of_length_eq_zero (hn rfl).1
      subst hT0
      rw [run_convert_bytes_string (P := Tryz.prog) wr 37 9 5 none _ c Tryz.underlying37 Tryz.underlying5 Tryz.underlying9]
      rfl
     ·refine run_convert_bytes_back (P := Tryz.prog) wr 37 9 5 ad c T Tryz.underlying37 Tryz.underlying5 Tryz.underlying9 (fun j hj => ?_)
      obtain ⟨g, hA, hlt', hm, hcell⟩ := hg (by omega)
      injection hA with hA
      subst hA
      rw [Cv.addr_add, hcell j (by omega), List.getElem?_map, List.getElem?_eq_getElem hj]
      rfl
    have HR3 := Lib.hid (show R = (⟨T.toArray⟩, decide (s.data.toList ≠ []) && decide (s.data.toList.length % 2 = 0)) by rw [← HR.out, if_neg H45.out, hend])
    clear hend hc hn hg
    by_cases hs0 : s.data.toList = []
    ·have hS0 : s = ⟨#[]⟩ := ByteArray.ext (Array.toList_inj.1 (by rw [hs0]))
     obtain rfl : R = (⟨T.toArray⟩, false) := by rw [HR3.out, decide_eq_false (fun h => h hs0), Bool.false_and]
     subst hS0
     clear hs0
     go_wp2_with fail
     refine bodyPost_ret (results_tmp2 rfl _ _ _) rfl ?_
     exact ⟨rfl, HB.out⟩
    ·have hlb1 : (s.toList != []) = true := by rw [ByteArray.toList_eq, bne_iff_ne]; exact hs0
     have hlb2 : s.toList.isEmpty = false := by rw [ByteArray.toList_eq, List.isEmpty_eq_false_iff]; exact hs0
     obtain ⟨e2, he2⟩ : ∃ e, decide (s.data.toList.length % 2 = 0) = e := ⟨_, rfl⟩
     obtain rfl : R = (⟨T.toArray⟩, e2) := by rw [HR3.out, decide_eq_true hs0, he2, Bool.true_and]
     have he3 : ((s.size : Int) % 2 == 0) = e2 := by
      rw [← he2, HLL.out]
      by_cases h : s.size % 2 = 0
      ·rw [decide_eq_true h, beq_iff_eq]; omega
      ·rw [decide_eq_false h, beq_eq_false_iff_ne]; omega
     clear hs0 he2
     go_wp2_with fail
     refine bodyPost_ret (results_tmp2 rfl _ _ _) rfl ?_
     exact ⟨rfl, HB.out⟩
end Go.Proofs.YtilkhmhgjbhfnaaGreatDoor
