/- Parts of the proof, side by side: MoInsI, MoNew. -/
import Derived.Test.YtkflaifopbodfaaGreatDoorM17
import Derived.Test.YtkflaifopbodfaaGreatDoorM06
import Derived.Test.YtkflaifopbodfaaGreatDoorM09
import Derived.Test.YtkflaifopbodfaaGreatDoorM19
set_option linter.unusedVariables false
set_option linter.unusedSimpArgs false
namespace Go.Proofs.YtkflaifopbodfaaGreatDoor
open Lib (hid)
open Go.RowKit
set_option maxHeartbeats 4000000 in
set_option maxRecDepth 100000 in
theorem ziu (g n c i vb:Nat) (cur:Array Value) (x xs seg:List Value) (w:World) (hg:w.heap[g]? =some (.cells cur 53 (0,0))) (hsz:cur.size=c*4) (hi:i<n) (hroom:n+1≤c) (hcm:c≤maxLen) (hvb:vb≠g) (hxl:x.length=4)
  (hv:w.heap[vb]? =some (.cells x.toArray 53 (0,0))) (hxs:cur.toList.take (n*4)=xs) (h1c:∀v∈xs,v.oneCell'=true) (h1x:∀v∈x,v.oneCell'=true) (hseg:seg=xs.drop (i*4)):
  Calls Tryz.prog 140 #[.slice (some ⟨g,0,none⟩) n c,.int .i64 i,.slice (some ⟨vb,0,none⟩) 1 1] w fun e w'=>
   e=.returned (.slice (some ⟨g,0,none⟩) (n+1) c)∧w'=w.drew.setRow g (layV (layV cur.toList ((i+1)*4) seg) (i*4) x).toArray:=by
 obtain⟨i0,hi0,hz0,hz1,hz2⟩:=info_parts z5w;have hc63:c≤9223372036854775807:=by unfold maxLen at hcm;omega
 have hsize:(Tryz.prog.info? 53).map (·.size)=some 4:=by rw[hi0];simp[hz1]
 have hsl:seg.length=(n-i)*4:=by rw[hseg,←hxs,List.length_drop,List.length_take,Array.length_toList,hsz];omega
 have hov:∀lb cb,(callFunc 165 #[.slice (some ⟨vb,0,none⟩) 1 1,.slice (some ⟨g,(i+1)*4,none⟩) lb cb]).run Tryz.prog w=.ok (.value (.bool false)) w:=fun lb cb=>by
  rw[run_callFunc_extern Tryz.func165 (by kernel_rfl) (by kernel_rfl) (by kernel_rfl) (e:=Extern.SlicesOverlaps.overlaps #[23,23] #[4]) (by kernel_rfl),
   Lib.run_overlaps_apart w 23 4 53 Tryz.underlying23 4 (fun w=>by simp[Go.sizeOf,typeInfo,hi0,hz1]) ⟨vb,0,none⟩ ⟨g,(i+1)*4,none⟩ 1 1 lb cb hvb 53 53 4 (c*4) (by simp[World.shape?,hv,hxl]) (by simp[World.shape?,hg,hsz]) (by omega) (by simp[World.frozen?,hv]) (by simp[World.frozen?,hv])]
  rfl
 have hw1:IntKind.i64.wrap ((i:Int)+(1:Int))=((i+1:Nat):Int):=by rw[IntKind.wrap_i64];omega
 have hw2:IntKind.i64.wrap ((n:Int)+(1:Int))=((n+1:Nat):Int):=by rw[IntKind.wrap_i64];omega
 have hz3:¬((i:Int)=(n:Int)):=by omega
 have hb2:¬(c=i+1):=by omega
 have hb4:¬(c=i):=by omega
 have hin:i≤n:=by omega
 have hin1:i≤n+1:=by omega
 have hin2:i+1≤n+1:=by omega
 have hin3:n+1≤c:=by omega
 have hnc:n≤c:=by omega
 have hp1:(0:Int)≤(i:Int)+1:=by omega
 have hp2:(i:Int)+1≤(n:Int)+1:=by omega
 have hp3:(i:Int)≤(n:Int)+1:=by omega
 have mixed:Tryz.prog.follows Departure.mixedOrders=true:=by kernel_rfl
 have hcp1:∀ty dc sc,(Builtin.copy_ #[23,23] ty #[.slice (some ⟨g,(i+1)*4,none⟩) (n-i) dc,.slice (some ⟨g,i*4,none⟩) (n+1-i) sc]).run Tryz.prog w.drew=.ok (goInt (Nat.min (n+1-i) (n-i))) (w.drew.setRow g (layV cur.toList ((i+1)*4) seg).toArray):=fun ty dc sc=>by
  exact z0o w.drew _ _ ty 53 4 g ((i+1)*4) (n-i) dc ⟨g,i*4,none⟩ (n+1-i) sc cur 53 seg Tryz.underlying23 hsize hg (by rw[hsl];simp only[Nat.min_def];split<;>omega)
   (z0l hg _ _ (fun j v hj => by
    rw[hseg,←hxs,List.getElem?_drop,List.getElem?_take] at hj
    split at hj
    ·simpa using hj
    ·cases hj)) (by rw[hsl,hsz];omega) (fun v hv=>h1c v (by rw[hseg] at hv;exact List.mem_of_mem_drop hv))
 obtain⟨C1,hC1⟩:∃C1,C1=(layV cur.toList ((i+1)*4) seg).toArray:=⟨_,rfl⟩;have hC1s:C1.size=c*4:=by rw[hC1,z0t (by rw[hsl,hsz];omega),hsz]
 have hC1l:layV cur.toList ((i+1)*4) seg=C1.toList:=by rw[hC1]
 rw[←hC1] at hcp1;rw[hC1l];obtain⟨W1,hW1⟩:∃W1,W1=w.drew.setRow g C1:=⟨_,rfl⟩;have hg1:W1.heap[g]? =some (.cells C1 53 (0,0)):=by rw[hW1];exact setRow_heap w.drew g cur _ _ _ hg
 have hv1:W1.heap[vb]? =some (.cells x.toArray 53 (0,0)):=by rw[hW1,setRow_other w.drew g vb _ hvb];exact hv
 have hcp2:∀ty dc,(Builtin.copy_ #[23,23] ty #[.slice (some ⟨g,i*4,none⟩) (n+1-i) dc,.slice (some ⟨vb,0,none⟩) 1 1]).run Tryz.prog W1=.ok (goInt (Nat.min 1 (n+1-i))) (W1.setRow g (layV C1.toList (i*4) x).toArray):=fun ty dc=>by
  exact z0o W1 _ _ ty 53 4 g (i*4) (n+1-i) dc ⟨vb,0,none⟩ 1 1 C1 53 x Tryz.underlying23 hsize hg1 (by rw[hxl];simp only[Nat.min_def];split<;>omega)
   (z0l hv1 _ _ (fun j v hj=>by rw[Nat.zero_add,List.getElem?_toArray];exact hj)) (by rw[hxl,hC1s];omega) h1x
 rw[←hW1] at hcp1;have hfin:W1.setRow g (layV C1.toList (i*4) x).toArray=w.drew.setRow g (layV C1.toList (i*4) x).toArray:=by rw[hW1,setRow_setRow]
 have HOV:=hid hov;have HF:=hid hfin;have HC1:=hid hcp1;have HC2:=hid hcp2;clear hg1 hv1 hC1 hC1s hC1l hW1 hcp1 hcp2 hfin hseg hsl hsz hg hv h1c h1x hcm hxs
 go_enter Tryz.func140,Tryz.ntmps140
 go_wp2_with (simp only[HOV.out])
 go_region_law_o (refine step_copy_runI rfl _ _ 23 23 rfl (.slice (some ⟨g,(i+1)*4,none⟩) (n-i) (c-(i+1))) (.slice (some ⟨g,i*4,none⟩) (n+1-i) (c-i)) (by simp[Act.eval,Act.put]) (by simp[Act.eval,Act.put]) (HC1.out 3 (c-(i+1)) (c-i)) ?_)
 go_wp2_with (simp only[HC2.out]);go_ret;exact⟨rfl,HF.out⟩
set_option maxHeartbeats 4000000 in
set_option maxRecDepth 100000 in
theorem zko (g n c i vb:Nat) (cur:Array Value) (x xs seg:List Value) (w:World) (hg:w.heap[g]? =some (.cells cur 53 (0,0))) (hsz:cur.size=c*4) (hi:i<n) (hnc:n≤c) (hroom:c<n+1) (hn40:n+1≤1099511627776) (hxl:x.length=4)
  (hv:w.heap[vb]? =some (.cells x.toArray 53 (0,0))) (hxs:cur.toList.take (n*4)=xs) (h1c:∀v∈xs,v.oneCell'=true) (h1x:∀v∈x,v.oneCell'=true) (hseg:seg=xs.drop (i*4)):
  Calls Tryz.prog 140 #[.slice (some ⟨g,0,none⟩) n c,.int .i64 i,.slice (some ⟨vb,0,none⟩) 1 1] w fun e w'=>
   e=.returned (.slice (some ⟨w.heap.size,0,none⟩) (n+1) (grownCap w (n+1) c 53))∧w.grownBy w' none∧∃cur',w'.heap[w.heap.size]? =some (.cells cur' 53 (0,0))∧cur'.size=grownCap w (n+1) c 53*4∧cur'.toList.take ((n+1)*4)=xs.take (i*4)++x++seg:=by
 obtain⟨i0,hi0,hz0,hz1,hz2⟩:=info_parts z5w;have hsize:(Tryz.prog.info? 53).map (·.size)=some 4:=by rw[hi0];simp[hz1]
 have hxsl:xs.length=n*4:=by rw[←hxs,List.length_take,Array.length_toList,hsz];omega
 have hsl:seg.length=(n-i)*4:=by rw[hseg,List.length_drop,hxsl];omega
 have hbw:g<w.heap.size:=(Array.getElem?_eq_some_iff.1 hg).1;have hvw:vb<w.heap.size:=(Array.getElem?_eq_some_iff.1 hv).1;have hvg:vb≠w.heap.size:=by omega
 have hgg:g≠w.heap.size:=by omega
 have hold:(Builtin.firstCells i0.size i (.slice (some ⟨g,0,none⟩) i c)).run Tryz.prog w.drew=.ok (xs.take (i*4)).toArray w.drew:=by
  rw[hz1];refine run_firstCells_some w.drew 4 i ⟨g,0,none⟩ i c (xs.take (i*4)) (by rw[List.length_take];omega) (z0l hg 0 _ (fun j v hj=>?_));rw[List.getElem?_take] at hj
  split at hj
  ·rw[←hxs,List.getElem?_take] at hj
   split at hj
   ·rw[Nat.zero_add];simpa using hj
   ·cases hj
  ·cases hj
 have hkk:(n:Int)+1-(i:Int)=((n+1-i:Nat):Int):=by omega
 have hik:i+(n+1-i)=n+1:=by omega
 obtain⟨G,hG⟩:∃G,G=grownCap w (n+1) c 53:=⟨_,rfl⟩;obtain⟨Z,hZ⟩:∃Z:Value,i0.zero=some Z∧Z.cells.size=4:=⟨_,hz0,rfl⟩;obtain⟨ROW,hROW⟩:∃ROW:Array Value,ROW=(xs.take (i*4)).toArray++Builtin.zeroCells Z.cells (n+1-i)++Builtin.zeroCells Z.cells (G-(n+1)):=⟨_,rfl⟩;have hGn:n+1≤G:=by rw[hG];exact grownCap_ge w _ _ _
 have hGm:G≤maxLen:=by rw[hG];exact grownCap_le_maxLen w (n+1) c _ (by unfold maxLen;omega)
 have hG63:G≤9223372036854775807:=by unfold maxLen at hGm;omega
 have hRs:ROW.size=G*4:=by rw[hROW,Array.size_append,Array.size_append,List.size_toArray,size_zeroCells,size_zeroCells,hZ.2,List.length_take,hxsl];omega
 have hRt:ROW.toList.take (i*4)=xs.take (i*4):=by
  rw[hROW,Array.toList_append,Array.toList_append,List.append_assoc];exact List.take_left' (by rw[List.length_take,hxsl];omega)
 have hrz:∀ty,(Builtin.append_ #[23,3] ty #[.slice (some ⟨g,0,none⟩) i c,.int .i64 ((n:Int)+1-(i:Int))]).run Tryz.prog w=.ok (.slice (some ⟨w.heap.size,0,none⟩) (n+1) G) (w.drew.alloc (.cells ROW 53)):=fun ty=>by
  have h:=Lib.run_append_grow_zeros w 23 3 ty 53 i0 Z .i64 .i64 Tryz.underlying23 Tryz.underlying3 hi0 hZ.1 (some ⟨g,0,none⟩) i c (xs.take (i*4)) hold (n+1-i) (by omega) (by omega) (by omega) (by omega) (by rw[hz2];omega) (by rw[hik];exact growslice_fits hroom (by rw[hz2];omega));rw[hik,←hG,←hROW] at h;rw[hkk];exact h
 obtain⟨N,hN⟩:∃N,N=w.heap.size:=⟨_,rfl⟩;obtain⟨W1,hW1⟩:∃W1,W1=w.drew.alloc (.cells ROW 53):=⟨_,rfl⟩;have g1:W1.heap[N]? =some (.cells ROW 53 (0,0)):=by rw[hW1,hN];exact Go.heap_alloc_new w.drew _
 have g1v:W1.heap[vb]? =some (.cells x.toArray 53 (0,0)):=by rw[hW1,Go.heap_alloc_old w.drew _ hvw];exact hv
 have g1g:W1.heap[g]? =some (.cells cur 53 (0,0)):=by rw[hW1,Go.heap_alloc_old w.drew _ hbw];exact hg
 have gr1:w.grownBy W1 none:=by rw[hW1];exact⟨rfl,rfl,rfl,by simp,fun b hb _=>Go.heap_alloc_old w.drew _ hb⟩
 have hcp1:∀ty dc,(Builtin.copy_ #[23,23] ty #[.slice (some ⟨N,i*4,none⟩) (n+1-i) dc,.slice (some ⟨vb,0,none⟩) 1 1]).run Tryz.prog W1=.ok (goInt (Nat.min 1 (n+1-i))) (W1.setRow N (layV ROW.toList (i*4) x).toArray):=fun ty dc=>
  z0o W1 _ _ ty 53 4 N (i*4) (n+1-i) dc ⟨vb,0,none⟩ 1 1 ROW 53 x Tryz.underlying23 hsize g1 (by rw[hxl];simp only[Nat.min_def];split<;>omega)
   (z0l g1v _ _ (fun j v hj=>by rw[Nat.zero_add,List.getElem?_toArray];exact hj)) (by rw[hxl,hRs];omega) h1x
 obtain⟨C1,hC1⟩:∃C1,C1=(layV ROW.toList (i*4) x).toArray:=⟨_,rfl⟩;have hC1s:C1.size=G*4:=by rw[hC1,z0t (by rw[hRs,hxl];omega),hRs]
 rw[←hC1] at hcp1;obtain⟨W2,hW2⟩:∃W2,W2=W1.setRow N C1:=⟨_,rfl⟩;rw[←hW2] at hcp1;have g2:W2.heap[N]? =some (.cells C1 53 (0,0)):=by rw[hW2];exact setRow_heap W1 N ROW _ _ _ g1
 have g2g:W2.heap[g]? =some (.cells cur 53 (0,0)):=by rw[hW2,setRow_other W1 N g _ (by omega)];exact g1g
 have gr2:w.grownBy W2 none:=by
  rw[hW2];exact⟨gr1.os,gr1.tape,gr1.output,by rw[World.setRow];simp;exact gr1.size,fun b hb _=>(setRow_other W1 N b _ (by omega)).trans (gr1.block b hb (by simp))⟩
 have hcp2:∀ty dc sc,(Builtin.copy_ #[23,23] ty #[.slice (some ⟨N,(i+1)*4,none⟩) (n-i) dc,.slice (some ⟨g,i*4,none⟩) (n-i) sc]).run Tryz.prog W2.drew=.ok (goInt (Nat.min (n-i) (n-i))) (W2.drew.setRow N (layV C1.toList ((i+1)*4) seg).toArray):=fun ty dc sc=>
  z0o W2.drew _ _ ty 53 4 N ((i+1)*4) (n-i) dc ⟨g,i*4,none⟩ (n-i) sc C1 53 seg Tryz.underlying23 hsize g2 (by rw[hsl];simp only[Nat.min_def];split<;>omega)
   (z0l (w := W2.drew) g2g _ _ (fun j v hj => by
    rw[hseg,←hxs,List.getElem?_drop,List.getElem?_take] at hj
    split at hj
    ·simpa using hj
    ·cases hj)) (by rw[hsl,hC1s];omega) (fun v hv=>h1c v (by rw[hseg] at hv;exact List.mem_of_mem_drop hv))
 have fin:W2.drew.grownBy (W2.drew.setRow N (layV C1.toList ((i+1)*4) seg).toArray) (some N):=z1n;have hfin:w.grownBy (W2.drew.setRow N (layV C1.toList ((i+1)*4) seg).toArray) none:=⟨fin.os.trans gr2.os,fin.tape.trans gr2.tape,fin.output.trans gr2.output,Nat.le_trans gr2.size fin.size,fun b hb _=>(setRow_other W2.drew N b _ (by omega)).trans (gr2.block b hb (by simp))⟩;have hcell:(W2.drew.setRow N (layV C1.toList ((i+1)*4) seg).toArray).heap[N]? =some (.cells (layV C1.toList ((i+1)*4) seg).toArray 53 (0,0)):=setRow_heap W2.drew N C1 _ _ _ g2;have hcs:(layV C1.toList ((i+1)*4) seg).toArray.size=G*4:=by rw[z0t (by rw[hsl,hC1s];omega),hC1s]
 have hct:(layV C1.toList ((i+1)*4) seg).toArray.toList.take ((n+1)*4)=xs.take (i*4)++x++seg:=by
  have h:=zcm (l:=ROW.toList) (x:=x) (D:=seg) hRt (by rw[hxl,hsl,Array.length_toList,hRs];omega);rw[hxl,hsl,show i*4+4=(i+1)*4 by omega,show(i+1)*4+(n-i)*4=(n+1)*4 by omega] at h;rw[hC1];exact h
 rw[←hW1,←hN] at hrz;rw[←hN,←hG];obtain⟨W3,hW3⟩:∃W3,W3=W2.drew.setRow N (layV C1.toList ((i+1)*4) seg).toArray:=⟨_,rfl⟩;rw[←hW3] at hcp2 hfin hcell;obtain⟨C3,hC3⟩:∃C3,C3=(layV C1.toList ((i+1)*4) seg).toArray:=⟨_,rfl⟩;rw[←hC3] at hcell hcs hct;have hw1:IntKind.i64.wrap ((i:Int)+(1:Int))=((i+1:Nat):Int):=by rw[IntKind.wrap_i64];omega
 have hw2:IntKind.i64.wrap ((n:Int)+(1:Int))=((n+1:Nat):Int):=by rw[IntKind.wrap_i64];omega
 have hz3:¬((i:Int)=(n:Int)):=by omega
 have hzc:(c:Int)<(n:Int)+1:=by omega
 have hb2:¬(G=i+1):=by omega
 have hb4:¬(G=i):=by omega
 have hb5:¬(c=i):=by omega
 have hin:i≤n:=by omega
 have hin1:i≤n+1:=by omega
 have hin2:i+1≤n+1:=by omega
 have hp1:(0:Int)≤(i:Int)+1:=by omega
 have hp2:(i:Int)+1≤(n:Int)+1:=by omega
 have hp3:(i:Int)≤(n:Int)+1:=by omega
 have mixed:Tryz.prog.follows Departure.mixedOrders=true:=by kernel_rfl
 have HR:=hid hrz;have HC1:=hid hcp1;have HC2:=hid hcp2;have HFIN:=hid hfin;have HCELL:=hid hcell;have HCS:=hid hcs;have HCT:=hid hct;clear hrz hcp1 hcp2 hfin hcell hcs hct hC3 hW3 fin gr2 g2g g2 hW2 hC1s hC1 gr1 g1g g1v g1 hW1 hN hRt hRs hGm hROW hZ hG hik hkk hold hsl hxsl hseg hsz hg hv h1c h1x hxs hbw hvw hvg hgg
 go_enter Tryz.func140,Tryz.ntmps140
 go_wp2_with (first|(at_builtin;refine Lib.wpList_append_run _ rfl _ _ _ _ rfl _ _ rfl rfl _ _ (HR.out _) ?_)|simp only[HC1.out])
 go_region_law_o (refine step_copy_runI rfl _ _ 23 23 rfl (.slice (some ⟨N,(i+1)*4,none⟩) (n-i) (G-(i+1))) (.slice (some ⟨g,i*4,none⟩) (n-i) (c-i)) (by simp[Act.eval,Act.put]) (by simp[Act.eval,Act.put]) (HC2.out 3 (G-(i+1)) (c-i)) ?_)
 go_wp2_with fail;go_ret;exact⟨rfl,HFIN.out,C3,HCELL.out,HCS.out,HCT.out⟩
set_option maxHeartbeats 4000000 in
set_option maxRecDepth 100000 in
theorem zmm (v v':Value) (n vb:Nat) (w w1:World) (hv:∃A c,v=.slice A n c∧n≤c∧(A=none→c=0)) (hr:∀ty,(Builtin.append_ #[23,23] ty #[v,.slice (some ⟨vb,0,none⟩) 1 1]).run Tryz.prog w=.ok v' w1):
  Calls Tryz.prog 140 #[v,.int .i64 n,.slice (some ⟨vb,0,none⟩) 1 1] w fun e w'=>e=.returned v'∧w'=w1:=by
 obtain⟨A,c,rfl,hnc,hA⟩:=hv;have HR:=hid hr;clear hr
 go_enter Tryz.func140,Tryz.ntmps140
 cases A with
 | none=>
  have h0:=hA rfl;subst h0;have h1:n=0:=by omega
  subst h1;go_wp2_with (at_builtin;refine Lib.wpList_append_run _ rfl _ _ _ _ rfl _ _ rfl rfl _ _ (HR.out _) ?_);go_ret;exact⟨rfl,rfl⟩
 | some a=>
  obtain⟨ab,ao,asp⟩:=a;clear hA;go_wp2_with (at_builtin;refine Lib.wpList_append_run _ rfl _ _ _ _ rfl _ _ rfl rfl _ _ (HR.out _) ?_)
  all_goals (go_ret;exact⟨rfl,rfl⟩)
theorem zmn (B n i vb:Nat) (v:Value) (xs x:List Value) (w:World) (h:RowAt B w 53 4 v n xs) (hB:B≤w.heap.size) (hi:i≤n) (hn:n+1≤1099511627776) (hxl:x.length=4) (hv:w.heap[vb]? =some (.cells x.toArray 53 (0,0))) (hvb:rowBlk v≠some vb) (h1x:∀v∈x,v.oneCell'=true) (h1:∀u∈xs,u.oneCell'=true):
  Calls Tryz.prog 140 #[v,.int .i64 i,.slice (some ⟨vb,0,none⟩) 1 1] w fun e w'=>∃v',e=.returned v'∧RowAt B w' 53 4 v' (n+1) (xs.take (i*4)++x++xs.drop (i*4))∧w.grownBy w' (rowBlk v)∧(rowBlk v'=rowBlk v∨∃b,rowBlk v'=some b∧w.heap.size≤b):=by
 obtain⟨i0,hi0,hz0,hz1,hz2⟩:=info_parts z5w
 by_cases he:i=n
 ·subst he;have e1:xs.take (i*4)=xs:=List.take_of_length_le (by rw[h.1];exact Nat.le_refl _);have e2:xs.drop (i*4)=[]:=List.drop_eq_nil_of_le (by rw[h.1];exact Nat.le_refl _);rw[e1,e2,List.append_nil];obtain⟨v',w1,hr,h2,h3,h4⟩:=z5b h hB 23 Tryz.underlying23 i0 hi0 _ hz0 hz1 rfl (by rw[hz2];omega) hn ⟨vb,0,none⟩ x hxl (z0l hv 0 x (fun j u hj=>by rw[Nat.zero_add,List.getElem?_toArray];exact hj)) h1x 1;refine(zmm v v' i vb w w1 ?_ hr).mono ?_
  ·rcases h.2 with⟨A,rfl,h0⟩|⟨g,cap,cur,rfl,_,_,_,hnc,_⟩
   ·subst h0;exact⟨A,0,rfl,Nat.le_refl _,fun _=>rfl⟩
   ·exact⟨_,cap,rfl,hnc,fun e=>by cases e⟩
  ·rintro e w' ⟨rfl,rfl⟩;exact⟨v',rfl,h2,h3,h4⟩
 ·have hlt:i<n:=by omega
  rcases h.2 with⟨A,rfl,h0⟩|⟨g,cap,cur,rfl,hc,hBg,hg,hnc,hcm,hcs,htk⟩
  ·omega
  ·have hb:rowBlk (.slice (some ⟨g,0,none⟩) n cap)=some g:=by simp[rowBlk,Nat.ne_of_gt hc]
   have hlen:(xs.take (i*4)++x++xs.drop (i*4)).length=(n+1)*4:=by
    rw[List.length_append,List.length_append,List.length_take,List.length_drop,h.1,hxl];omega
   rw[hb]
   by_cases hroom:n+1≤cap
   ·refine(ziu g n cap i vb cur x xs (xs.drop (i*4)) w hg hcs hlt hroom hcm (fun e=>hvb (by rw[hb,e])) hxl hv htk h1 h1x rfl).mono ?_;rintro e w' ⟨rfl,rfl⟩;refine⟨_,rfl,⟨hlen,.inr ⟨g,cap,_,rfl,hc,hBg,setRow_heap w.drew g cur _ _ _ hg,hroom,hcm,?_,?_⟩⟩,z3q z1n,.inl (by simp[rowBlk,Nat.ne_of_gt hc])⟩
    ·have hl:(xs.drop (i*4)).length=(n-i)*4:=by rw[List.length_drop,h.1];omega
     have l1:=z1s (l:=cur.toList) (o:=(i+1)*4) (vs:=xs.drop (i*4)) (by rw[hl,Array.length_toList,hcs];omega);rw[List.size_toArray,z1s (by rw[hxl,l1,Array.length_toList,hcs];omega),l1,Array.length_toList,hcs]
    ·have hl:(xs.drop (i*4)).length=(n-i)*4:=by rw[List.length_drop,h.1];omega
     have hA:cur.toList.take (i*4)=xs.take (i*4):=by rw[←htk,List.take_take,Nat.min_eq_left (by omega)]
     have q:=za9 (l:=cur.toList) (x:=x) (D:=xs.drop (i*4)) hA (by rw[hxl,hl,Array.length_toList,hcs];omega);rw[hxl,hl,show i*4+4=(i+1)*4 by omega,show(i+1)*4+(n-i)*4=(n+1)*4 by omega] at q;exact q
   ·refine(zko g n cap i vb cur x xs (xs.drop (i*4)) w hg hcs hlt hnc (by omega) hn hxl hv htk h1 h1x rfl).mono ?_;rintro e w' ⟨rfl,hgr,cur',g1,g2,g3⟩;have hG:=grownCap_ge w (n+1) cap 53;refine⟨_,rfl,⟨hlen,.inr ⟨w.heap.size,_,cur',rfl,by omega,hB,g1,hG,grownCap_le_maxLen w (n+1) cap _ (by unfold maxLen;omega),g2,g3⟩⟩,⟨hgr.os,hgr.tape,hgr.output,hgr.size,fun k hk _=>hgr.block k hk (by simp)⟩,.inr ⟨w.heap.size,?_,Nat.le_refl _⟩⟩;simp only[rowBlk];rw[if_neg (by omega)]
end Go.Proofs.YtkflaifopbodfaaGreatDoor
namespace Go.Proofs.YtkflaifopbodfaaGreatDoor
open Lib (hid)
open Go.RowKit
theorem zhj (x1 x2 x3 x4:Value) (num a:Int) (w:World) (h1:x1=.int .i64 a) (ha: -1000000≤a∧a≤1000000) (hn: -1000000≤num∧num≤1000000):
  Calls Tryz.prog 139 #[.agg #[x1,x2,x3,x4],.int .i64 num] w fun e w'=>e=.returned (.int .i64 (a-num))∧Below w.heap.size w w':=by
 subst h1;have hw:IntKind.i64.wrap (a-num)=a-num:=by rw[IntKind.wrap_i64];omega
 go_enter Tryz.func139,Tryz.ntmps139
 go_wp2_with fail;go_ret;exact⟨rfl,(Below.refl _ _).alloc (Nat.le_refl _) _⟩
theorem Good.fresh {s:St} (h:Good s) {core:Int} (h0:0≤core) (h8:core<8):∀x∈s.inos,x.num≠2+core+8*s.made.getD core.toNat 0:=by
 intro x hx he;obtain⟨i,hi⟩:=List.getElem?_of_mem hx;obtain⟨r,hr,hrn,_⟩:=h.root
 have hm0:0≤s.made.getD core.toNat 0:=by
  rw[List.getD_eq_getElem?_getD];cases hq:s.made[core.toNat]? with
  | none=>exact Int.le_refl _
  | some m=>exact(h.mr m (List.mem_of_getElem? hq)).1
 rcases Nat.eq_zero_or_pos i with rfl|hp
 ·rw[hr] at hi;cases hi;omega
 ·have hg:=h.given i x hp hi;unfold givenV at hg;rw[if_neg (by omega)] at hg;rw[Bool.and_eq_true,decide_eq_true_eq,decide_eq_true_eq] at hg;have e1:(x.num-2)%8=core:=by omega
  have e2:(x.num-2) / 8=s.made.getD core.toNat 0:=by omega
  rw[e1,e2] at hg;omega
set_option maxRecDepth 100000 in
set_option maxHeartbeats 4000000 in
theorem zek (is:List Ino) (A:Option Addr) (n c:Nat) (num:Int) (w:World) (hI:InosAt none w A n is) (hn:n≤1099511627776) (hr:RiseI is) (hb:∀x∈is,-1000000≤x.num∧x.num≤1000000) (hnb: -1000000≤num∧num≤1000000):
  Calls Tryz.prog 104 #[.slice A n c,.int .i64 num,.func (.func 139) #[] #[]] w fun e w'=>∃i b,e=.returned (.tuple #[.int .i64 (i:Nat),.bool b])∧Below w.heap.size w w'∧i≤is.length∧(∀(k:Nat) (x:Ino),k<i→is[k]? =some x→x.num<num)∧(∀(k:Nat) (x:Ino),i≤k→is[k]? =some x→num≤x.num):=by
 have HI:=hid hI;have HBD:=hid hb
 go_enter Tryz.func104,Tryz.ntmps104
 clear hI hb;go_wp2_with fail
 go_loopw [9,10] (fun iv jv wr=>∃i j:Nat,iv=.int .i64 i∧jv=.int .i64 j∧i≤j∧j≤n∧(∀(k:Nat) (x:Ino),k<i→is[k]? =some x→x.num<num)∧(∀(k:Nat) (x:Ino),j≤k→is[k]? =some x→num≤x.num)∧Below w.heap.size w wr) (fun iv jv _=>(intOf jv).toNat-(intOf iv).toNat)
 case atStart=>exact⟨0,n,rfl,rfl,by omega,by omega,fun k x hk=>by omega,fun k x hk hx=>by have:=(List.getElem?_eq_some_iff.1 hx).1;have:=HI.out.1;omega,Below.refl _ _⟩
 case round=>
  obtain⟨i,j,rfl,rfl,hij,hjn,hlo,hhi,hbel⟩:=hrel;have HB:=hid hbel;have HIr:=hid (HI.out.below hbel);have HLO:=hid hlo;have HHI:=hid hhi;clear hbel hlo hhi
  by_cases hlt:i<j
  ·obtain⟨h,hh⟩:∃h,(i+j) / 2=h:=⟨_,rfl⟩;have hh1:i≤h:=by omega
   have hh2:h<j:=by omega
   obtain⟨g,off,x,E,m,d,rfl,hg,hx,hd,hmem,c0,c1,c2,c3,hok,hE⟩:=HIr.out.get h (by omega);have HHH:=hid hh;have hx2:is[h]? =some x:=hx;have HX:=hid hx2;have HRR:=hid hr;have HHH2:Hid (h<j):=hid hh2;clear hx2;go_wp2_with fail;refine(zhj _ _ _ _ num x.num _ rfl (HBD.out x hmem) hnb).mono ?_;rintro e5 w5 ⟨rfl,hb5⟩;have e2:((i:Int)+(j:Int)) / 2=(h:Int):=by have:=HHH.out;omega
   rw[e2];obtain⟨DD,hDD⟩:∃DD,x.num-num=DD:=⟨_,rfl⟩;rw[hDD];have HDD:=hid hDD;clear hDD;have HB5:=hid (HB.out.trans (hb5.mono HB.out.size));clear hb5 c0 c1 c2 c3
   by_cases hc:x.num<num
   ·have q1:decide (DD<0)=true:=by have:=HDD.out;rw[decide_eq_true_eq];omega
    go_wp2_with fail;go_roundw
    case rel=>exact⟨h+1,j,by go_num,rfl,by omega,hjn,fun k y hk hy=>by
     by_cases e:k=h
     ·subst e;have:=HX.out;rw[hy] at this;cases this;exact hc
     ·have:=HRR.out k h y x (by omega) hy HX.out;omega,HHI.out,HB5.out⟩
    case measure=>simp[intOf];omega
   ·have q1:decide (DD<0)=false:=by have:=HDD.out;rw[decide_eq_false_iff_not];omega
    go_wp2_with fail;go_roundw
    case rel=>exact⟨i,h,rfl,rfl,hh1,by omega,HLO.out,fun k y hk hy=>by
     by_cases e:k=h
     ·subst e;have:=HX.out;rw[hy] at this;cases this;omega
     ·have:=HRR.out h k x y (by omega) HX.out hy;omega,HB5.out⟩
    case measure=>simp[intOf];omega
  ·have eij:j=i:=by omega
   subst eij
   by_cases hin:j<n
   ·obtain⟨g,off,x,E,m,d,rfl,hg,hx,hd,hmem,c0,c1,c2,c3,hok,hE⟩:=HIr.out.get j hin;have HX:=hid hx;have HRR:=hid hr;go_wp2_with fail;refine(zhj _ _ _ _ num x.num _ rfl (HBD.out x hmem) hnb).mono ?_;rintro e5 w5 ⟨rfl,hb5⟩;have HB5:=hid (HB.out.trans (hb5.mono HB.out.size));clear hb5 c0 c1 c2 c3;obtain⟨DD,hDD⟩:∃DD,(x.num-num==0)=DD:=⟨_,rfl⟩;go_wp2_with fail
    all_goals (
     go_ret2;exact⟨j,_,rfl,HB5.out,by have:=(List.getElem?_eq_some_iff.1 HX.out).1;omega,HLO.out,HHI.out⟩)
   ·have q1:decide ((j:Int)<(n:Int))=false:=by rw[decide_eq_false_iff_not];omega
    clear hlt;go_wp2_with fail;go_ret2;exact⟨j,false,rfl,HB.out,by have:=HIr.out.1;omega,HLO.out,HHI.out⟩
end Go.Proofs.YtkflaifopbodfaaGreatDoor
