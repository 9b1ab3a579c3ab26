/- Parts of the proof, side by side: MoDelE, MoPut, MoTake, MoParent, MoFull. -/
import Derived.Test.YtndcloohcfhejaaGreatM20
import Derived.Test.YtndcloohcfhejaaGreatFsCopy
import Derived.Test.YtndcloohcfhejaaGreatM22
import Derived.Test.YtndcloohcfhejaaGreatM14
import Derived.Test.YtndcloohcfhejaaGreatM02
set_option linter.unusedVariables false
set_option linter.unusedSimpArgs false
namespace Go.Proofs.YtndcloohcfhejaaGreat
open Go.RowKit
set_option maxHeartbeats 4000000 in
set_option maxRecDepth 100000 in
theorem delE_row (g c i m : Nat) (cur : Array Value) (xs seg zs : List Value) (w : World) (hg : w.heap[g]? = some (.cells cur 77 (0,0))) (hsz : cur.size = c * 2) (hnc : i + m + 1 ≤ c) (hcm : c ≤ maxLen)
  (hxs : cur.toList.take ((i + m + 1) * 2) = xs) (h1c : ∀ v ∈ xs,v.oneCell' = true) (hseg : seg = xs.drop ((i + 1) * 2)) (hzs : zs = (Value.agg #[.string ⟨#[]⟩,.int .i64 0]).cells.toList) :
  Calls Tryz.prog 136 #[.slice (some ⟨g,0,none⟩) (i + m + 1) c,.int .i64 i,.int .i64 ((i : Int) + 1)] w fun e w' =>
   e = .returned (.slice (some ⟨g,0,none⟩) (i + m) c) ∧ w' = w.drew.setRow g (layV (layV cur.toList (i * 2) seg) ((i + m) * 2) zs).toArray:=by
 obtain ⟨i0,hi0,hz0,hz1,hz2⟩:=info_parts infoEnt
 have hc63 : c ≤ 9223372036854775807:=by unfold maxLen at hcm;omega
 have hzl : zs.length = 2:=by rw [hzs];rfl
 have hzo : ∀ v ∈ zs,v.oneCell' = true:=by rw [hzs];intro v hv;simp [Value.cells] at hv;rcases hv with rfl | rfl <;> rfl
 have hxl : xs.length = (i + m + 1) * 2:=by rw [← hxs,List.length_take,Array.length_toList,hsz];omega
 have hsl : seg.length = m * 2:=by rw [hseg,List.length_drop,hxl];omega
 obtain ⟨A,hA,hsrc⟩ : ∃ A : Addr,(if c = i + 1 then some (⟨g,0,none⟩ : Addr) else some ⟨g,(i + 1) * 2,none⟩) = some A ∧ ∀ j u,seg[j]? = some u → w.drew.cell? (A.add j) = some u:=by
  by_cases h : c = i + 1
  ·refine ⟨⟨g,0,none⟩,by rw [if_pos h],fun j u hu => ?_⟩
   have h0 : seg.length = 0:=by rw [hsl];omega
   rw [List.length_eq_zero_iff.1 h0] at hu
   simp at hu
  ·refine ⟨⟨g,(i + 1) * 2,none⟩,by rw [if_neg h],row_cells (w:=w.drew) hg _ _ (fun j v hj => ?_)⟩
   rw [hseg,← hxs,List.getElem?_drop,List.getElem?_take] at hj
   split at hj
   ·simpa using hj
   ·cases hj
 have hap : ∀ ty sc,(Builtin.append_ #[73,73] ty #[.slice (some ⟨g,0,none⟩) i c,.slice (some A) m sc]).run Tryz.prog w.drew = .ok (.slice (some ⟨g,0,none⟩) (i + m) c) (w.drew.setRow g (layV cur.toList (i * 2) seg).toArray):=fun ty sc => by
  have h:=run_append_room (P:=Tryz.prog) w.drew 73 ty 77 i0 Tryz.underlying73 hi0 g i c cur hg A m sc seg (by rw [hsl,hz1]) hsrc (fun v hv => h1c v (by rw [hseg] at hv;exact List.mem_of_mem_drop hv)) (by omega) (by rw [hz1,hsl,hsz];omega)
  rw [hz1] at h
  exact h
 obtain ⟨C1,hC1⟩ : ∃ C1,C1 = (layV cur.toList (i * 2) seg).toArray:=⟨_,rfl⟩
 have hC1s : C1.size = c * 2:=by rw [hC1,layV_size (by rw [hsl,hsz];omega),hsz]
 have hC1l : layV cur.toList (i * 2) seg = C1.toList:=by rw [hC1]
 rw [← hC1] at hap
 rw [hC1l]
 obtain ⟨W1,hW1⟩ : ∃ W1,W1 = w.drew.setRow g C1:=⟨_,rfl⟩
 have hg1 : W1.heap[g]? = some (.cells C1 77 (0,0)):=by rw [hW1];exact setRow_heap w.drew g cur _ _ _ hg
 rw [← hW1] at hap
 have hcl : ∀ ty cc,(Builtin.clear_ #[73] ty #[.slice (some ⟨g,(i + m) * 2,none⟩) 1 cc]).run Tryz.prog W1 = .ok (.tuple #[]) (W1.setRow g (layV C1.toList ((i + m) * 2) zs).toArray):=fun ty cc =>
  run_clear_rowK W1 73 77 ty (Value.agg #[.string ⟨#[]⟩,.int .i64 0]) zs Tryz.underlying73 (fun w => by simp [zeroValue,typeInfo,hi0,hz0]) hzs.symm g ((i + m) * 2) cc C1 77 hg1 (by rw [hzl,hC1s];omega) hzo
 have hfin : W1.setRow g (layV C1.toList ((i + m) * 2) zs).toArray = w.drew.setRow g (layV C1.toList ((i + m) * 2) zs).toArray:=by rw [hW1,setRow_setRow]
 have mixed : Tryz.prog.follows Departure.mixedOrders = true:=by kernel_rfl
 have hic : i ≤ c:=by omega
 have hjc : i + 1 ≤ c:=by omega
 have hi1 : i ≤ i + m + 1:=by omega
 have hi2 : i + 1 ≤ i + m + 1:=by omega
 have hp0 : ¬ ((i : Int) = (i : Int) + 1):=by omega
 have hp1 : (0 : Int) ≤ (i : Int) + 1:=by omega
 have hp2 : (i : Int) + 1 ≤ (i : Int) + (m : Int) + 1:=by omega
 have hp3 : (i : Int) ≤ (i : Int) + 1:=by omega
 have hp4 : (i : Int) + 1 ≤ (c : Int):=by omega
 have hp5 : (i : Int) + (m : Int) ≤ (c : Int):=by omega
 have hp6 : (i : Int) + (m : Int) + 1 ≤ (c : Int):=by omega
 have hp7 : ¬ (c = i + m):=by omega
 have hp8 : i + m ≤ c:=by omega
 have HA:=Lib.hid hA
 have HAP:=Lib.hid hap
 have HCL:=Lib.hid hcl
 have HF:=Lib.hid hfin
 clear hA hsrc hap hcl hfin hg1 hW1 hC1l hC1s hC1 hsl hxl hzo hzl hg hsz hcm hxs h1c hseg hzs
 go_enter Tryz.func136,Tryz.ntmps136
 go_wp2_with fail
 go_region_law_o (refine step_append_runI rfl (.tmp 22) (.tmp 25) 73 rfl (.slice (some ⟨g,0,none⟩) i c) (.slice (some A) m (c - (i + 1))) (by simp [Act.eval,Act.put]) (by simp [Act.eval,Act.put,HA.out]) (HAP.out 73 _) ?_)
 go_wp2_with (simp only [HCL.out])
 all_goals (go_ret;exact ⟨rfl,HF.out⟩)
theorem delE_any (B n i : Nat) (v : Value) (xs : List Value) (w : World) (h : RowAt B w 77 2 v n xs) (hi : i < n) (h1 : ∀ u ∈ xs,u.oneCell' = true) :
  Calls Tryz.prog 136 #[v,.int .i64 i,.int .i64 ((i : Int) + 1)] w fun e w' => ∃ v',e = .returned v' ∧ RowAt B w' 77 2 v' (n - 1) (xs.take (i * 2) ++ xs.drop ((i + 1) * 2)) ∧ w.grownBy w' (rowBlk v) ∧ rowBlk v' = rowBlk v:=by
 obtain ⟨m,rfl⟩ : ∃ m,n = i + m + 1:=⟨n - (i + 1),by omega⟩
 rcases h.2 with ⟨A,rfl,h0⟩ | ⟨g,cap,cur,rfl,hc,hBg,hg,hnc,hcm,hcs,htk⟩
 ·omega
 ·have hb : rowBlk (.slice (some ⟨g,0,none⟩) (i + m + 1) cap) = some g:=by simp [rowBlk,Nat.ne_of_gt hc]
  have hl : (xs.drop ((i + 1) * 2)).length = m * 2:=by rw [List.length_drop,h.1];omega
  have hlen : (xs.take (i * 2) ++ xs.drop ((i + 1) * 2)).length = (i + m) * 2:=by
   rw [List.length_append,hl,List.length_take,h.1]
   omega
  rw [hb,Nat.add_sub_cancel]
  refine (delE_row g cap i m cur xs (xs.drop ((i + 1) * 2)) _ w hg hcs hnc hcm htk h1 rfl rfl).mono ?_
  rintro e w' ⟨rfl,rfl⟩
  have s1:=layV_size (cur:=cur) (o:=i * 2) (vs:=xs.drop ((i + 1) * 2)) (by rw [hl,hcs];omega)
  have s2 : (layV cur.toList (i * 2) (xs.drop ((i + 1) * 2))).length = cap * 2:=by rw [List.size_toArray] at s1;rw [s1,hcs]
  refine ⟨_,rfl,⟨hlen,.inr ⟨g,cap,_,rfl,hc,hBg,setRow_heap w.drew g cur _ _ _ hg,by omega,hcm,?_,?_⟩⟩,rw_drew rw_setRow,by simp [rowBlk,Nat.ne_of_gt hc]⟩
  ·rw [List.size_toArray,layV_len,s2]
   rw [s2]
   show (i + m) * 2 + 2 ≤ _
   omega
  ·show (layV (layV cur.toList (i * 2) (xs.drop ((i + 1) * 2))) ((i + m) * 2) _).take ((i + m) * 2) = _
   rw [layV_before (by rw [s2];omega),show (i + m) * 2 = i * 2 + (xs.drop ((i + 1) * 2)).length by rw [hl];omega,layV_take (by rw [Array.length_toList,hcs];omega),← htk,List.take_take,Nat.min_eq_left (by omega)]
end Go.Proofs.YtndcloohcfhejaaGreat
namespace Go.Proofs.YtndcloohcfhejaaGreat
open Go.RowKit
theorem flat_take {α : Type} (f : α → List Value) (k : Nat) (hk : ∀ x,(f x).length = k) : ∀ (l : List α) (i : Nat),(l.flatMap f).take (i * k) = (l.take i).flatMap f
 | [],i => by simp
 | y :: l,0 => by simp
 | y :: l,i + 1 => by
  rw [List.flatMap_cons,List.take_succ_cons,List.flatMap_cons,← flat_take f k hk l i,Nat.add_mul,Nat.one_mul,Nat.add_comm,List.take_append,List.take_of_length_le (by rw [hk];omega),hk,Nat.add_sub_cancel_left]
theorem flat_drop {α : Type} (f : α → List Value) (k : Nat) (hk : ∀ x,(f x).length = k) : ∀ (l : List α) (i : Nat),(l.flatMap f).drop (i * k) = (l.drop i).flatMap f
 | [],i => by simp
 | y :: l,0 => by simp
 | y :: l,i + 1 => by
  rw [List.flatMap_cons,List.drop_succ_cons,← flat_drop f k hk l i,Nat.add_mul,Nat.one_mul,Nat.add_comm,List.drop_append,List.drop_eq_nil_of_le (by rw [hk];omega),hk,Nat.add_sub_cancel_left,List.nil_append]
theorem one_en (es : List En) : ∀ u ∈ es.flatMap enV,u.oneCell' = true:=by
 intro u hu
 obtain ⟨e,_,h⟩:=List.mem_flatMap.1 hu
 simp [enV] at h
 rcases h with rfl | rfl <;> rfl
set_option maxRecDepth 100000 in
set_option maxHeartbeats 8000000 in
theorem mput_any (B p : Nat) (s : St) (zs : List (Ino × Value)) (vI vO vM : Value) (i : Nat) (x : Ino) (name : ByteArray) (num : Int) (g n d : Nat) (w : World) (hO : Own2 B w p s zs vI vO vM) (hB : B ≤ w.heap.size) (hx : s.inos[i]? = some x) (hvI : vI = .slice (some ⟨g,0,none⟩) n d) (hr : RiseE x.ents) (hno : ∀ e ∈ x.ents,e.name ≠ name)
  (hlen : x.ents.length ≤ 1000000) (hs : Sized { s with inos:=s.inos.set i { x with ents:=putE x.ents name num } }) :
  Calls Tryz.prog 90 #[.pointer (some ⟨g,i * 4,.none⟩),.string name,.int .i64 num] w fun e w' => e = .returned (.tuple #[]) ∧ Turns B p w w' ∧ ∃ zs',Own2 B w' p { s with inos:=s.inos.set i { x with ents:=putE x.ents name num } } zs' vI vO vM:=by
 obtain ⟨g',c,E,m,d2,hv,hz,hg,hBg,hil,_,_,c2,_,hfz,hmd,hE⟩:=hO.at_ hx
 have hgg : g' = g:=by rw [hvI] at hv;injection hv with e1 _ _;injection e1 with e1;injection e1 with e1;exact e1.symm
 subst hgg
 have hm : m = x.ents.length:=hE.1.symm
 have hmb : m ≤ 1000000:=by omega
 have HM:=Lib.hid hm
 have HO:=Lib.hid hO
 have HE:=Lib.hid hE
 have HNO:=Lib.hid hno
 have HS:=Lib.hid hs
 have HZ:=Lib.hid hz
 have HFZ:=Lib.hid hfz
 have HVI:=Lib.hid hvI
 have HX:=Lib.hid hx
 have HMD:=Lib.hid hmd
 clear hO hE hno hs hz hfz hv hvI hx hmd hm hlen
 go_enter Tryz.func90,Tryz.ntmps90
 go_wp2_with fail
 refine (mentry_any x.ents E m d2 name _ HE.out (by omega) hr).mono ?_
 rintro e5 w5 ⟨k,b,rfl,hb5,hpos⟩
 have hb : b = false:=by
  cases b
  ·rfl
  ·obtain ⟨e,he,hn⟩:=hpos.is_ rfl
   exact absurd hn (HNO.out e (List.mem_of_getElem? he))
 subst hb
 have hput:=putE_pos x.ents name k num hpos
 have hkm : k ≤ m:=by have:=hpos.le;have:=HM.out;omega
 have HO5:=HO.out.below hb5
 have hg5 : g' < w5.heap.size:=Nat.lt_of_lt_of_le hg hb5.size
 have c5:=(hb5.cell (p:=⟨g',i * 4 + 2,none⟩) hg).trans c2
 obtain ⟨V2,hV2,_,_,hal,hlt3⟩:=box_en w5 name num
 have HOV:=Lib.hid (HO5.below hal)
 have hgv : g' < V2.heap.size:=Nat.lt_of_lt_of_le hg5 hal.size
 have cv:=(hal.cell (p:=⟨g',i * 4 + 2,none⟩) hg5).trans c5
 have hbv : V2.heap[w5.heap.size]? = some (.cells #[.string name,.int .i64 num] 77 (0,0)):=by rw [← hV2];exact Go.heap_alloc_new w5 _
 have hBV : B ≤ V2.heap.size:=by have:=hb5.size;have:=hal.size;omega
 have hrow:=HOV.out.ents (x,.slice E m d2) (List.mem_of_getElem? HZ.out)
 have hrow5:=HO5.ents (x,.slice E m d2) (List.mem_of_getElem? HZ.out)
 have hne : rowBlk (.slice E m d2) ≠ some w5.heap.size:=fun e => by
  have:=(hrow5.blk _ e).2.1
  omega
 obtain ⟨c1,hc1⟩ : ∃ c1,V2.heap[g']? = some (.cells c1 75 (0,0)):=by
  obtain ⟨gg,_,cur,hvv,_,_,_,hgc,_⟩:=HOV.out.rowI.open_ (by have:=(List.getElem?_eq_some_iff.1 HZ.out).1;omega)
  rw [HVI.out] at hvv
  injection hvv with e1 _ _
  injection e1 with e1
  injection e1 with e1
  subst e1
  exact ⟨cur,hgc⟩
 have hnI : rowBlk (.slice E m d2) ≠ some g':=some_ne_of fun a ha => by
  obtain ⟨_,_,c3,h3⟩:=hrow.blk a ha
  exact blk_ne h3 hc1 (by decide)
 have hfv : ∀ j,V2.frozen? ⟨g',j,none⟩ = false:=fun j => frozen_of_row V2 g' j _ _ hc1
 have HT5:=Lib.hid (Turns.of_below (B:=B) (p:=p) (Cv.next hb5 hal) hB)
 have HROW:=Lib.hid hrow
 have HNE:=Lib.hid hne
 have HNI:=Lib.hid hnI
 have HBV:=Lib.hid hbv
 have HFV:=Lib.hid hfv
 have HPUT:=Lib.hid hput
 have HC1:=Lib.hid hc1
 clear hb5 hpos hput HO5 c2 hal hbv hrow hrow5 hne hnI hfv hc1
 go_wp2_with fail
 refine (insE_any B m k w5.heap.size (.slice E m d2) (x.ents.flatMap enV) [.string name,.int .i64 num] V2 (by have h:=HROW.out;rwa [← HM.out] at h) hBV hkm (by omega) rfl HBV.out HNE.out (by intro v hv;simp at hv;rcases hv with rfl | rfl <;> rfl) (one_en _)).mono ?_
 rintro e6 w6 ⟨v',rfl,hrow',hgr,hbl⟩
 obtain ⟨A',c',rfl,hok'⟩:=hrow'.slice
 have g6 : w6.heap[g']? = V2.heap[g']?:=hgr.block g' hgv (fun e => HNI.out e.symm)
 have c6 : w6.cell? ⟨g',i * 4 + 2,none⟩ = some (.slice E m d2):=(World.cell?_of_block (a:=⟨g',i * 4 + 2,none⟩) g6).trans cv
 have f6 : w6.frozen? ⟨g',i * 4 + 2,none⟩ = false:=(World.frozen?_of_block (a:=⟨g',i * 4 + 2,none⟩) g6).trans (HFV.out _)
 have hflat : (x.ents.flatMap enV).take (k * 2) ++ [.string name,.int .i64 num] ++ (x.ents.flatMap enV).drop (k * 2) = (putE x.ents name num).flatMap enV:=by
  rw [HPUT.out,flat_take enV 2 (fun _ => rfl),flat_drop enV 2 (fun _ => rfl),List.flatMap_append,List.flatMap_append]
  rfl
 have hpl : (putE x.ents name num).length = m + 1:=by rw [HPUT.out,List.length_append,List.length_append,List.length_take,List.length_drop];have:=HM.out;simp;omega
 rw [hflat] at hrow'
 rw [← hpl] at hrow' hbl
 have hfin:=HOV.out.setE hBV HZ.out hgr hrow' hbl HS.out HVI.out
 rw [hpl] at hfin
 have HFIN:=Lib.hid hfin
 clear hfin hrow' hgr hbl hflat g6
 go_wp2_with fail
 go_returns
 exact ⟨rfl,HT5.out.trans HFIN.out.2,_,HFIN.out.1⟩
set_option maxRecDepth 100000 in
set_option maxHeartbeats 8000000 in
theorem mtake_no (B p : Nat) (s : St) (zs : List (Ino × Value)) (vI vO vM : Value) (i : Nat) (x : Ino) (name : ByteArray) (g n d : Nat) (w : World) (hO : Own2 B w p s zs vI vO vM) (hx : s.inos[i]? = some x) (hvI : vI = .slice (some ⟨g,0,none⟩) n d) (hr : RiseE x.ents) (hno : ∀ e ∈ x.ents,e.name ≠ name) (hlen : x.ents.length ≤ 1000000) :
  Calls Tryz.prog 101 #[.pointer (some ⟨g,i * 4,.none⟩),.string name] w fun e w' => e = .panicked (faultP 1) ∧ Below w.heap.size w w':=by
 obtain ⟨g',c,E,m,d2,hv,hz,hg,hBg,hil,_,_,c2,_,hfz,hmd,hE⟩:=hO.at_ hx
 have hgg : g' = g:=by rw [hvI] at hv;injection hv with e1 _ _;injection e1 with e1;injection e1 with e1;exact e1.symm
 subst hgg
 have hm : m = x.ents.length:=hE.1.symm
 have hmb : m ≤ 1000000:=by omega
 have HE:=Lib.hid hE
 have HNO:=Lib.hid hno
 clear hO hE hno hz hfz hv hvI hx hmd hm hlen
 go_enter Tryz.func101,Tryz.ntmps101
 go_wp2_with fail
 refine (mentry_any x.ents E m d2 name _ HE.out (by omega) hr).mono ?_
 rintro e5 w5 ⟨k,b,rfl,hb5,hpos⟩
 have hb : b = false:=by
  cases b
  ·rfl
  ·obtain ⟨e,he,hn⟩:=hpos.is_ rfl
   exact absurd hn (HNO.out e (List.mem_of_getElem? he))
 subst hb
 have HB:=Lib.hid hb5
 clear hb5 hpos c2
 go_wp2_with fail
 refine (throw_yes _ _).mono ?_
 rintro e3 w3 ⟨rfl,rfl⟩
 go_wp2_with fail
 exact panic_end rfl ⟨rfl,HB.out⟩
set_option maxRecDepth 100000 in
set_option maxHeartbeats 8000000 in
theorem mtake_any (B p : Nat) (s : St) (zs : List (Ino × Value)) (vI vO vM : Value) (i : Nat) (x : Ino) (en : En) (name : ByteArray) (g n d : Nat) (w : World) (hO : Own2 B w p s zs vI vO vM) (hB : B ≤ w.heap.size) (hx : s.inos[i]? = some x) (hvI : vI = .slice (some ⟨g,0,none⟩) n d) (hr : RiseE x.ents) (hen : en ∈ x.ents) (hnm : en.name = name)
  (hlen : x.ents.length ≤ 1000000) (hs : Sized { s with inos:=s.inos.set i { x with ents:=dropE x.ents name } }) :
  Calls Tryz.prog 101 #[.pointer (some ⟨g,i * 4,.none⟩),.string name] w fun e w' => e = .returned (.int .i64 (entG x.ents name)) ∧ Turns B p w w' ∧ ∃ zs',Own2 B w' p { s with inos:=s.inos.set i { x with ents:=dropE x.ents name } } zs' vI vO vM:=by
 obtain ⟨g',c,E,m,d2,hv,hz,hg,hBg,hil,_,_,c2,_,hfz,hmd,hE⟩:=hO.at_ hx
 have hgg : g' = g:=by rw [hvI] at hv;injection hv with e1 _ _;injection e1 with e1;injection e1 with e1;exact e1.symm
 subst hgg
 have hm : m = x.ents.length:=hE.1.symm
 have hmb : m ≤ 1000000:=by omega
 have HM:=Lib.hid hm
 have HO:=Lib.hid hO
 have HE:=Lib.hid hE
 have HEN:=Lib.hid (show ∃ e ∈ x.ents,e.name = name from ⟨en,hen,hnm⟩)
 have HS:=Lib.hid hs
 have HZ:=Lib.hid hz
 have HVI:=Lib.hid hvI
 obtain ⟨ER,hER⟩ : ∃ ER,entG x.ents name = ER:=⟨_,rfl⟩
 rw [hER]
 have HER:=Lib.hid hER
 clear hO hE hs hz hfz hv hvI hx hmd hm hlen hER hen hnm
 go_enter Tryz.func101,Tryz.ntmps101
 go_wp2_with fail
 refine (mentry_any x.ents E m d2 name _ HE.out (by omega) hr).mono ?_
 rintro e5 w5 ⟨k,b,rfl,hb5,hpos⟩
 have hb : b = true:=by
  obtain ⟨e,he,hn⟩:=HEN.out
  obtain ⟨j,hj⟩:=List.getElem?_of_mem he
  have : k = j:=by
   rcases Nat.lt_trichotomy k j with h | h | h
   ·have h1:=hpos.hi k
    cases hk : x.ents[k]? with
    | none =>
     have h2:=(List.getElem?_eq_some_iff.1 hj).1
     rw [List.getElem?_eq_none_iff] at hk
     omega
    | some y =>
     have h2:=hr k j y e h hk hj
     rw [hn,h1 y (Nat.le_refl _) hk] at h2
     cases h2
   ·exact h
   ·have h1:=hpos.lo j e h hj
    rw [hn,ltN_irrefl] at h1
    cases h1
  subst this
  exact hpos.of_ ⟨e,hj,hn⟩
 subst hb
 have hdrop:=dropE_pos x.ents name k hr hpos
 obtain ⟨e,he,hn⟩:=hpos.is_ rfl
 have hnum : e.num = ER:=by rw [← HER.out];exact ((entG_pos x.ents name k true hr hpos).2 e he rfl).symm
 have hkm : k < m:=by have:=(List.getElem?_eq_some_iff.1 he).1;have:=HM.out;omega
 have HO5:=HO.out.below hb5
 have hg5 : g' < w5.heap.size:=Nat.lt_of_lt_of_le hg hb5.size
 have c5:=(hb5.cell (p:=⟨g',i * 4 + 2,none⟩) hg).trans c2
 obtain ⟨ge,oe,e',hEE,hge,he',_,_,f0,f1⟩:=(HE.out.below hb5).get k hkm
 have ex : e = e':=by rw [he] at he';exact Option.some.inj he'
 subst ex
 rw [hnum] at f1
 subst hEE
 have hB5 : B ≤ w5.heap.size:=by have:=hb5.size;omega
 have hrow:=HO5.ents _ (List.mem_of_getElem? HZ.out)
 obtain ⟨c1,hc1⟩ : ∃ c1,w5.heap[g']? = some (.cells c1 75 (0,0)):=by
  obtain ⟨gg,_,cur,hvv,_,_,_,hgc,_⟩:=HO5.rowI.open_ (by have:=(List.getElem?_eq_some_iff.1 HZ.out).1;omega)
  rw [HVI.out] at hvv
  injection hvv with e1 _ _
  injection e1 with e1
  injection e1 with e1
  subst e1
  exact ⟨cur,hgc⟩
 have hnI : rowBlk (.slice (some ⟨ge,oe,none⟩) m d2) ≠ some g':=some_ne_of fun a ha => by
  obtain ⟨_,_,c3,h3⟩:=hrow.blk a ha
  exact blk_ne h3 hc1 (by decide)
 have hfv : ∀ j,w5.frozen? ⟨g',j,none⟩ = false:=fun j => frozen_of_row w5 g' j _ _ hc1
 have k0 : (0 : Int) ≤ (k : Int):=by omega
 have k1 : (k : Int) < (m : Int):=by omega
 have kw : IntKind.i64.wrap ((k : Int) + 1) = (k : Int) + 1:=by rw [IntKind.wrap_i64];omega
 have HT5:=Lib.hid (Turns.of_below (B:=B) (p:=p) hb5 hB)
 have HROW:=Lib.hid hrow
 have HNI:=Lib.hid hnI
 have HFV:=Lib.hid hfv
 have HDROP:=Lib.hid hdrop
 have HO5':=Lib.hid HO5
 clear hb5 hpos hdrop HO5 c2 hrow hnI hfv hc1 he he' hn hnum
 go_wp2_with fail
 refine (throw_no _ _).mono ?_
 rintro e3 w3 ⟨rfl,rfl⟩
 go_wp2_with fail
 refine (delE_any B m k (.slice (some ⟨ge,oe,none⟩) m d2) (x.ents.flatMap enV) w5 (by have h:=HROW.out;rwa [← HM.out] at h) hkm (one_en _)).mono ?_
 rintro e6 w6 ⟨v',rfl,hrow',hgr,hbl⟩
 obtain ⟨A',c',rfl,hok'⟩:=hrow'.slice
 have g6 : w6.heap[g']? = w5.heap[g']?:=hgr.block g' hg5 (fun e => HNI.out e.symm)
 have c6 : w6.cell? ⟨g',i * 4 + 2,none⟩ = some (.slice (some ⟨ge,oe,none⟩) m d2):=(World.cell?_of_block (a:=⟨g',i * 4 + 2,none⟩) g6).trans c5
 have f6 : w6.frozen? ⟨g',i * 4 + 2,none⟩ = false:=(World.frozen?_of_block (a:=⟨g',i * 4 + 2,none⟩) g6).trans (HFV.out _)
 have hflat : (x.ents.flatMap enV).take (k * 2) ++ (x.ents.flatMap enV).drop ((k + 1) * 2) = (dropE x.ents name).flatMap enV:=by
  rw [HDROP.out,flat_take enV 2 (fun _ => rfl),flat_drop enV 2 (fun _ => rfl),List.flatMap_append]
 have hpl : (dropE x.ents name).length = m - 1:=by rw [HDROP.out,List.length_append,List.length_take,List.length_drop];have:=HM.out;omega
 rw [hflat] at hrow'
 rw [← hpl] at hrow' hbl
 have hfin:=HO5'.out.setE hB5 HZ.out hgr hrow' (.inl hbl) HS.out HVI.out
 rw [hpl] at hfin
 have HFIN:=Lib.hid hfin
 clear hfin hrow' hgr hbl hflat g6
 go_wp2_with fail
 go_ret
 exact ⟨rfl,HT5.out.trans HFIN.out.2,_,HFIN.out.1⟩
set_option maxRecDepth 100000 in
set_option maxHeartbeats 8000000 in
theorem mparent_any (B q p : Nat) (s : St) (c : Ca) (fd num : Int) (dir : Bool) (data : ByteArray) (nv : Value) (zs : List (Ino × Value)) (vI vO vM : Value) (path : ByteArray) (w : World) (hD : DoerAt w q p c fd num dir data nv) (hO : Own2 B w p s zs vI vO vM) (hg : Good s) (hs : path.size ≤ 140737488355328) :
  Calls Tryz.prog 86 #[.pointer (some ⟨q,0,.none⟩),.string path] w fun e w' => Below w.heap.size w w' ∧ (((parentV s.inos path).2.2 ≠ 0 ∧ e = .panicked (faultP (parentV s.inos path).2.2)) ∨ ((parentV s.inos path).2.2 = 0 ∧ ∃ g n d i x,vI = .slice (some ⟨g,0,none⟩) n d ∧ s.inos[i]? = some x ∧ x.num = (parentV s.inos path).1 ∧ x.dir = true ∧ e = .returned (.tuple #[.pointer (some ⟨g,i * 4,none⟩),.string (parentV s.inos path).2.1]))):=by
 have hq:=hD.lt
 have d0:=hD.c0
 have hp:=hO.lt
 have HO:=Lib.hid hO
 have HG:=Lib.hid hg
 clear hO hg hD
 obtain ⟨R,hR⟩ : ∃ R,parentV s.inos path = R:=⟨_,rfl⟩
 rw [hR]
 unfold parentV at hR
 have hlen:=parse_len path.data.toList
 by_cases hpar : (parseL path.data.toList).2 = 0
 rotate_left
 ·rw [if_pos hpar] at hR
  subst hR
  have hcp : codeP (parseL path.data.toList).2 ≠ 0:=by unfold codeP;rw [if_neg hpar];split <;> decide
  have HPAR:=Lib.hid hpar
  obtain ⟨C,hC⟩ : ∃ C,codeP (parseL path.data.toList).2 = C:=⟨_,rfl⟩
  simp only
  rw [hC] at hcp ⊢
  have HC:=Lib.hid hC
  have HCP:=Lib.hid hcp
  clear hpar hC hcp
  go_enter Tryz.func86,Tryz.ntmps86
  go_wp2_with fail
  refine (mparse_bad path _ hs HPAR.out).mono ?_
  rintro e5 w5 ⟨rfl,hb5⟩
  rw [HC.out]
  go_simp
  exact panic_end rfl ⟨hb5,.inl ⟨HCP.out,rfl⟩⟩
 rw [if_neg (by rw [hpar];simp)] at hR
 have HPAR:=Lib.hid hpar
 obtain ⟨NS,hNS⟩ : ∃ NS,(parseL path.data.toList).1 = NS:=⟨_,rfl⟩
 rw [hNS] at hR hlen
 have HNS:=Lib.hid hNS
 have HR:=Lib.hid hR
 clear hpar hNS hR
 by_cases hnil : NS = []
 ·subst hnil
  have hr:=HR.out
  rw [if_pos rfl] at hr
  subst hr
  go_enter Tryz.func86,Tryz.ntmps86
  go_wp2_with fail
  refine (mparse_ok path _ hs HPAR.out).mono ?_
  rintro e5 w5 ⟨A5,c5,rfl,hc5,hn5,hb5⟩
  have HB:=Lib.hid hb5
  rw [HNS.out]
  clear hc5 hn5 hb5
  go_wp2_with fail
  refine (throw_yes _ _).mono ?_
  rintro e3 w3 ⟨rfl,rfl⟩
  go_wp2_with fail
  exact panic_end rfl ⟨HB.out,.inl ⟨by decide,rfl⟩⟩
 obtain ⟨j,hj⟩ : ∃ j,NS.length = j + 1:=by
  cases hO : NS with
  | nil => exact absurd hO hnil
  | cons a l => exact ⟨l.length,by simp⟩
 have hr:=HR.out
 rw [if_neg hnil] at hr
 have hlast : NS.getLastD [] = NS.getD j []:=by
  rw [List.getLastD_eq_getLast?,List.getLast?_eq_getElem?,hj,List.getD_eq_getElem?_getD]
  rfl
 obtain ⟨NM,hNM⟩ : ∃ NM,NS.getD j [] = NM:=⟨_,rfl⟩
 have HPL:=walk_place HG.out NS.dropLast
 obtain ⟨RW,hRW⟩ : ∃ RW,walkG s.inos NS.dropLast 1 = RW:=⟨_,rfl⟩
 obtain ⟨KP,hKP⟩ : ∃ KP,placeG s.inos (walkG s.inos NS.dropLast 1) = KP:=⟨_,rfl⟩
 rw [hKP,hRW] at HPL
 rw [hlast,hNM,hRW] at hr
 obtain ⟨N,C⟩:=RW
 simp only at HPL hr
 have HR2:=Lib.hid hr
 have HW:=Lib.hid hRW
 have HK:=Lib.hid hKP
 have HPLA:=Lib.hid HPL
 have HJ:=Lib.hid hj
 have hj4 : j ≤ 65536:=by omega
 have HNM:=Lib.hid hNM
 have q1 : ((j : Int) + 1 == 0) = false:=by rw [beq_eq_false_iff_ne];omega
 have lw : IntKind.i64.wrap ((j : Int) + 1 - 1) = (j : Int):=by rw [IntKind.wrap_i64];omega
 have lw3 : IntKind.i64.wrap (j : Int) = (j : Int):=by rw [IntKind.wrap_i64];omega
 have lw2 : IntKind.i64.wrap (((j + 1 : Nat) : Int) - 1) = (j : Int):=by rw [IntKind.wrap_i64];omega
 have j0 : (0 : Int) ≤ (j : Int):=by omega
 have j2 : (j : Int) < (j : Int) + 1:=by omega
 clear hr HR hRW hKP HPL hlast hnil hj hNM
 go_enter Tryz.func86,Tryz.ntmps86
 go_wp2_with fail
 refine (mparse_ok path _ hs HPAR.out).mono ?_
 rintro e5 w5 ⟨A5,c5,rfl,hc5,hn5,hb5⟩
 rw [HNS.out] at hc5 hn5 ⊢
 rw [HJ.out] at hc5 hn5 ⊢
 have HB5:=Lib.hid hb5
 have HO5:=Lib.hid (HO.out.below hb5)
 have d5:=(hb5.cell (p:=⟨q,0,none⟩) hq).trans d0
 have hq5 : q < w5.heap.size:=Nat.lt_of_lt_of_le hq hb5.size
 have HNI:=Lib.hid hn5.init
 have j1 : (j : Int) ≤ (c5 : Int):=by omega
 have j3 : j ≤ c5:=by omega
 obtain ⟨gn,on,rfl,hgn,hcn⟩:=hn5.2 (by omega)
 have hcj:=hcn j (by omega)
 rw [HNM.out] at hcj
 have hstr : strV NM = .string (txt NM):=rfl
 rw [hstr] at hcj
 have HCJ:=Lib.hid hcj
 clear hb5 hn5 hcn hcj hstr
 go_wp2_with fail
 refine (throw_no _ _).mono ?_
 rintro e3 w3 ⟨rfl,rfl⟩
 go_wp2_with fail
 go_region_held3 (fun w' => w'.cell? ⟨q,0,none⟩ = some (.pointer (some ⟨p,0,none⟩)))
  (first | go_keep | (rw [hb6.cell (by simp;omega)];simp [*]))
  (first
   | (go_at_call 37;refine (mwalk_any p s (some ⟨gn,on,none⟩) j c5 NS.dropLast _ (HO5.out.ptr.below (Cv.drewN_below (Below.refl _ _) 1)) HG.out (HNI.out.below (Cv.drewN_below (Below.refl _ _) 1)) hj4).mono ?_;rintro e6 w6 ⟨rfl,hb6,_⟩;rw [HK.out,HW.out]))
 have hb7 : Below w5.heap.size w5 w6:=Cv.next (Cv.drewN_below (Below.refl _ _) 1) hb6
 have HB:=Lib.hid (Cv.next HB5.out hb7)
 have HO6:=Lib.hid (HO5.out.below hb7)
 have d6:=(hb7.cell (p:=⟨q,0,none⟩) hq5).trans d5
 have n6:=(hb7.cell (p:=⟨gn,on + j,none⟩) hgn).trans HCJ.out
 clear hb6 hb7
 have hr:=HR2.out
 by_cases hC : C = 0
 ·subst hC
  rw [if_neg (by simp)] at hr
  obtain ⟨i,x,hk,hx,hxn⟩:=HPLA.out rfl
  obtain ⟨g,cc,E,m,d,hv,_,_,_,hil,x0,x1,_⟩:=HO6.out.at_ hx
  have hdir : dirAt s.inos N = x.dir:=by
   unfold dirAt
   rw [← hxn,HG.out.idx hx,inoAt_nat,hx]
  rw [hdir] at hr
  have p6:=HO6.out.s0
  rw [hv] at p6
  rw [hk]
  have i0 : (0 : Int) ≤ (i : Int):=by omega
  have i1 : (i : Int) < (s.inos.length : Int):=by omega
  cases hd : x.dir
  ·rw [if_pos hd] at hr
   subst hr
   rw [hd] at x1
   go_wp2_with fail
   refine (throw_no _ _).mono ?_
   rintro e3 w3 ⟨rfl,rfl⟩
   go_wp2_with fail
   refine (throw_yes _ _).mono ?_
   rintro e3 w3 ⟨rfl,rfl⟩
   go_wp2_with fail
   first | exact panic_end rfl ⟨HB.out,.inl ⟨by decide,rfl⟩⟩ | exact panic_end rfl ⟨HB.out,rfl⟩
  ·rw [if_neg (by rw [hd];simp)] at hr
   subst hr
   rw [hd] at x1
   go_wp2_with fail
   refine (throw_no _ _).mono ?_
   rintro e3 w3 ⟨rfl,rfl⟩
   go_wp2_with fail
   refine (throw_no _ _).mono ?_
   rintro e3 w3 ⟨rfl,rfl⟩
   go_wp2_with fail
   go_quiet (fail)
   go_wp2_with fail
   go_ret2
   first | exact ⟨Cv.next HB.out (Cv.drewN_below (Below.refl _ _) _),.inr ⟨rfl,g,_,cc,i,x,hv,hx,hxn,hd,rfl⟩⟩ | exact ⟨Cv.next HB.out (Cv.drewN_below (Below.refl _ _) _),i,x,hx,hxn,hd,rfl⟩
 ·rw [if_pos hC] at hr
  subst hr
  have hne : (C != 0) = true:=by rw [bne_iff_ne];exact hC
  go_wp2_with fail
  refine (throw_yes _ _).mono ?_
  rintro e3 w3 ⟨rfl,rfl⟩
  go_wp2_with fail
  first | exact panic_end rfl ⟨HB.out,.inl ⟨hC,rfl⟩⟩ | exact panic_end rfl ⟨HB.out,rfl⟩
theorem fullE_le (es : List En) (a b : ByteArray) : fullE es a b ≤ es.length:=by
 induction es with
 | nil => exact Nat.le_refl _
 | cons e es ih =>
  unfold fullE
  rw [List.length_cons]
  split <;> omega
set_option maxRecDepth 100000 in
set_option maxHeartbeats 8000000 in
theorem mfull_any (g o : Nat) (es : List En) (E : Option Addr) (m2 d2 : Nat) (name but : ByteArray) (w : World) (hcell : w.cell? ⟨g,o + 2,none⟩ = some (.slice E m2 d2)) (hE : EntsAt none w E m2 es) (hm : m2 ≤ 1099511627776) (htx : ∀ e ∈ es,e.name.size ≤ 140737488355328) (hs : name.size ≤ 140737488355328) :
  Calls Tryz.prog 88 #[.pointer (some ⟨g,o,.none⟩),.string name,.string but] w fun e w' => e = .returned (.bool (decide (4 ≤ fullE es name but))) ∧ Below w.heap.size w w':=by
 obtain ⟨FF,hFF⟩ : ∃ FF,fullE es name but = FF:=⟨_,rfl⟩
 rw [hFF]
 have hFF2 : FF ≤ 1099511627776:=by have:=fullE_le es name but;have:=hE.1;omega
 have HE:=Lib.hid hE
 have HTX:=Lib.hid htx
 have HFF:=Lib.hid hFF
 clear hE htx hFF
 go_enter Tryz.func88,Tryz.ntmps88
 go_wp2_with fail
 go_loopw [7,15] (fun many j wr => ∃ q a : Nat,j = .int .i64 q ∧ many = .int .i64 a ∧ q ≤ m2 ∧ Below w.heap.size w wr ∧ a + fullE (es.drop q) name but = FF) (fun _ j _ => m2 - (intOf j).toNat)
 case atStart => exact ⟨0,0,rfl,rfl,by omega,Below.refl _ _,by rw [List.drop_zero,Nat.zero_add];exact HFF.out⟩
 case round =>
  obtain ⟨q,a,rfl,rfl,hq,hbel,hc⟩:=hrel
  have HB:=Lib.hid hbel
  have HEr:=Lib.hid (HE.out.below hbel)
  clear hbel
  have ha : a ≤ 1099511627776:=by omega
  by_cases hlt : q < m2
  ·obtain ⟨g2,off2,y,rfl,hg2,hy,hdr,hmem,e0,e1⟩:=HEr.out.get q hlt
   have hys:=HTX.out y hmem
   rw [hdr,fullE] at hc
   have k0 : (0 : Int) ≤ (q : Int):=by omega
   have k1 : (q : Int) < (m2 : Int):=by omega
   have aw : IntKind.i64.wrap ((a : Int) + 1) = (a : Int) + 1:=by rw [IntKind.wrap_i64];omega
   have HC:=Lib.hid hc
   obtain ⟨V2,hV2,v0,v1,hal,hlt3⟩:=box_en wr y.name y.num
   have HB4:=Lib.hid (Cv.next HB.out hal)
   clear hdr hmem hy hc hal
   by_cases hb : y.name = but
   ·have qn : (y.name.toList == but.toList) = true:=ba_list_eq hb
    have HB2:=Lib.hid hb
    clear hb
    go_wp2_with fail
    go_roundw
    case rel => exact ⟨q + 1,a,by go_num,rfl,by omega,HB4.out,by have:=HC.out;rw [if_neg (fun h => h.1 HB2.out)] at this;omega⟩
    case measure => simp [intOf];omega
   ·have qn : (y.name.toList == but.toList) = false:=ba_list_ne hb
    have HB2:=Lib.hid hb
    clear hb
    obtain ⟨B1,hB1⟩ : ∃ B1,bktB y.name = B1:=⟨_,rfl⟩
    obtain ⟨B2,hB2'⟩ : ∃ B2,bktB name = B2:=⟨_,rfl⟩
    have HB1:=Lib.hid hB1
    have HB3:=Lib.hid hB2'
    clear hB1 hB2'
    go_wp2_with fail
    refine (bucketm_any y.name _ (by unfold maxLen;omega)).mono ?_
    rintro e5 w5 ⟨rfl,hb5⟩
    rw [HB1.out]
    have HB5:=Lib.hid (Cv.next HB4.out hb5)
    clear hb5 e0 e1 v0 v1
    go_wp2_with fail
    refine (bucketm_any name _ (by unfold maxLen;omega)).mono ?_
    rintro e6 w6 ⟨rfl,hb6⟩
    rw [HB3.out]
    have HB6:=Lib.hid (Cv.next HB5.out hb6)
    clear hb6
    by_cases hbb : B1 = B2
    ·have qb : ((B1 : Int) == (B2 : Int)) = true:=by rw [hbb];exact beq_self_eq_true _
     have HBB:=Lib.hid hbb
     clear hbb
     go_wp2_with fail
     go_roundw
     case rel => exact ⟨q + 1,a + 1,by go_num,by go_num,by omega,HB6.out,by have:=HC.out;rw [if_pos ⟨HB2.out,by rw [HB1.out,HB3.out];exact HBB.out⟩] at this;omega⟩
     case measure => simp [intOf];omega
    ·have qb : ((B1 : Int) == (B2 : Int)) = false:=by rw [beq_eq_false_iff_ne];omega
     have HBB:=Lib.hid hbb
     clear hbb
     go_wp2_with fail
     go_roundw
     case rel => exact ⟨q + 1,a,by go_num,rfl,by omega,HB6.out,by have:=HC.out;rw [if_neg (fun h => HBB.out (by rw [← HB1.out,← HB3.out];exact h.2))] at this;omega⟩
     case measure => simp [intOf];omega
  ·have hnil : es.drop q = []:=List.drop_eq_nil_of_le (by have:=HE.out.1;omega)
   rw [hnil,fullE] at hc
   have q9 : decide ((q : Int) < (m2 : Int)) = false:=by rw [decide_eq_false_iff_not];omega
   have HC:=Lib.hid hc
   clear hc hnil
   go_wp2_with fail
   go_ret
   refine ⟨Cv.ret_bool ?_,HB.out⟩
   have:=HC.out
   first | (rw [Bool.eq_iff_iff,decide_eq_true_eq,decide_eq_true_eq];omega) | rfl
end Go.Proofs.YtndcloohcfhejaaGreat
