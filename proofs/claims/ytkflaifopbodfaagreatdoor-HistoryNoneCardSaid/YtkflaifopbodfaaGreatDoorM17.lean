/- Parts of the proof, side by side: MoRw, MoOwn, MoOwn2, MoThrow. -/
import Derived.Test.YtkflaifopbodfaaGreatDoorM04
import Derived.Shelf.Spec.SlicesInsert
import Derived.Lib.AppendZerosOnto
import Derived.Test.YtkflaifopbodfaaGreatDoorM09
import Derived.Test.YtkflaifopbodfaaGreatDoorM02
import Derived.Test.YtkflaifopbodfaaGreatDoorM00
import Derived.WalkLawsBesides
import Derived.Handy
set_option linter.unusedVariables false
set_option linter.unusedSimpArgs false
namespace Go.Proofs.YtkflaifopbodfaaGreatDoor
open Go.RowKit
def layV (l:List Value) (o:Nat) (vs:List Value):List Value:=l.take o++vs++l.drop (o+vs.length)
theorem z1s {l:List Value} {o:Nat} {vs:List Value} (h:o+vs.length≤l.length):(layV l o vs).length=l.length:=by
 unfold layV;rw[List.length_append,List.length_append,List.length_take,List.length_drop];omega
theorem z4h {l:List Value} {o:Nat} {vs:List Value} (h:o≤l.length):(layV l o vs).take (o+vs.length)=l.take o++vs:=by
 unfold layV;rw[List.append_assoc,←List.append_assoc,List.take_left'];rw[List.length_append,List.length_take];omega
theorem zcm {l A x D:List Value} {p:Nat} (hA:l.take p=A) (hp:p+x.length+D.length≤l.length):(layV (layV l p x) (p+x.length) D).take (p+x.length+D.length)=A++x++D:=by
 have h1:=z1s (l:=l) (o:=p) (vs:=x) (by omega);rw[z4h (by omega),z4h (by omega),hA]
theorem za9 {l A x D:List Value} {p:Nat} (hA:l.take p=A) (hp:p+x.length+D.length≤l.length):(layV (layV l (p+x.length) D) p x).take (p+x.length+D.length)=A++x++D:=by
 have h1:=z1s (l:=l) (o:=p+x.length) (vs:=D) (by omega);obtain⟨M,hM⟩:∃M,layV l (p+x.length) D=M:=⟨_,rfl⟩
 have t1:M.take p=A:=by
  rw[←hM,layV,List.append_assoc,List.take_append_of_le_length (by rw[List.length_take];omega),List.take_take,Nat.min_eq_left (by omega),hA]
 have t2:(M.drop (p+x.length)).take D.length=D:=by
  rw[←hM,layV,List.append_assoc,List.drop_left' (by rw[List.length_take];omega),List.take_left]
 rw[hM] at h1 ⊢;have hl:A.length=p:=by rw[←hA,List.length_take];omega
 rw[layV,t1,List.take_append,List.take_of_length_le (by rw[List.length_append];omega),List.length_append,hl,Nat.add_sub_cancel_left,t2]
theorem z0t {cur:Array Value} {o:Nat} {vs:List Value} (h:o+vs.length≤cur.size):(layV cur.toList o vs).toArray.size=cur.size:=by
 rw[List.size_toArray,z1s (by rw[Array.length_toList];exact h),Array.length_toList]
theorem z6c {l:List Value} {o:Nat} {vs:List Value} (h:o≤l.length):(layV l o vs).take o=l.take o:=by
 unfold layV;rw[List.append_assoc];exact List.take_left' (by rw[List.length_take];omega)
theorem z1t {P:Program} {ops:Array Oper} {o:Oper} {a:Act} {w:World} {K:Act→World→Prop} {Q:Exit→Act→World→Prop} {E:Prop}
  (hg:o.guard=none) (s x:Operand) (t:TypeId) (hop:o.op=Op.call { callee:=Callee.builtin Builtin.append,args:=#[s,x],argTypes:=#[t,t] })
  (v u:Value) (hs:a.eval s=v) (hx:a.eval x=u) {v':Value} {w':World} (hr:(Builtin.append_ #[t,t] o.type #[v,u]).run P w=.ok v' w') (hK:K (a.put o.dst v') w'):
  if Region.wanted o (yielded ops a.tmps)=true then Oper.wp P o a w K Q else E:=by
 have hw:Region.wanted o (yielded ops a.tmps)=true:=by simp[Region.wanted,hg]
 rw[if_pos hw];unfold Oper.wp;simp[execOp,hop,resolve,invoke,builtin,hs,hx,hr,Result.andThen];exact hK
theorem z0o {P:Program} (w:World) (dT sT ty elem:TypeId) (k g o dLen dCap:Nat) (a:Addr) (sLen sCap:Nat) (cur:Array Value) (t:TypeId) (cs:List Value)
  (hu:P.underlying dT=some (.slice elem)) (hs:(P.info? elem).map (·.size)=some k)
  (hg:w.heap[g]? =some (.cells cur t (0,0))) (hn:cs.length=Nat.min sLen dLen*k)
  (hsrc:∀j v,cs[j]? =some v→w.cell? (a.add j)=some v) (hfit:o+cs.length≤cur.size) (h1:∀v∈cs,v.oneCell'=true):
  (Builtin.copy_ #[dT,sT] ty #[.slice (some ⟨g,o,none⟩) dLen dCap,.slice (some a) sLen sCap]).run P w=.ok (goInt (Nat.min sLen dLen)) (w.setRow g (layV cur.toList o cs).toArray):=by
 have hl:=run_firstCells_some (P:=P) w k (Nat.min sLen dLen) a sLen sCap cs hn hsrc;have hst:=run_storeCells_at P g o t cs 0 cur w hg (by simpa using hfit) h1;cases hq:P.info? elem with
 | none=>simp[hq] at hs
 | some i=>
  have hi:i.size=k:=by simpa [hq] using hs
  simp[Builtin.copy_,run_underlying hu,Builtin.lenOf,sizeOf,typeInfo,hq,hi,hl,hst,layV]
theorem zcn (z:Array Value):(Builtin.zeroCells z 1).toList=z.toList:=by
 apply List.ext_getElem
 ·simp[Builtin.zeroCells]
 ·intro i h1 h2;have h3:i<z.size:=by simpa using h2
  simp[Builtin.zeroCells,Nat.mod_eq_of_lt h3,h3]
theorem z2w {P:Program} (w:World) (t e ty:TypeId) (z:Value) (zs:List Value) (ht:P.underlying t=some (.slice e)) (hv:∀w,(zeroValue e).run P w=.ok z w) (hz:z.cells.toList=zs) (g o c:Nat) (cur:Array Value) (te:TypeId)
  (hg:w.heap[g]? =some (.cells cur te (0,0))) (hfit:o+zs.length≤cur.size) (h1:∀v∈zs,v.oneCell'=true):
  (Builtin.clear_ #[t] ty #[.slice (some ⟨g,o,none⟩) 1 c]).run P w=.ok (.tuple #[]) (w.setRow g (layV cur.toList o zs).toArray):=by
 have hst:=run_storeCells_at P g o te zs 0 cur w hg (by simpa using hfit) h1;have hzc:(Builtin.zeroCells z.cells 1).toList=zs:=by rw[zcn,hz]
 simp[Builtin.clear_,run_underlying ht,hv,hzc,hst,layV]
theorem z0l {w:World} {g:Nat} {cur:Array Value} {t:TypeId} (hg:w.heap[g]? =some (.cells cur t (0,0))) (o:Nat) (cs:List Value) (h:∀j v,cs[j]? =some v→cur[o+j]? =some v):∀j v,cs[j]? =some v→w.cell? ((⟨g,o,none⟩:Addr).add j)=some v:=fun j v hj=>by
 rw[Addr.add_lit,cell_of_row w g _ _ _ (0,0) hg];exact h j v hj
theorem z1n {w:World} {g:Nat} {cur:Array Value}:w.grownBy (w.setRow g cur) (some g):=⟨rfl,rfl,rfl,by simp,fun k _ hk=>setRow_other w g k _ (fun e=>hk (by rw[e]))⟩
theorem z3q {w w':World} {r:Option Nat} (h:w.drew.grownBy w' r):w.grownBy w' r:=⟨h.os,h.tape,h.output,h.size,h.block⟩
theorem zfm {a b:World} {r:Option Nat} (h:Below a.heap.size a b):a.grownBy b r:=⟨h.os,h.tape,h.output,h.size,fun i hi _=>h.block i hi⟩
theorem zgy {B:Nat} {a b:World} {r:Option Nat} (h:a.grownBy b r) (hB:B≤a.heap.size) (hr:∀k,r=some k→B≤k):Below B a b:=⟨h.os,h.tape,h.output,h.size,fun k hk=>h.block k (by omega) (fun e=>by have:=hr k e.symm;omega)⟩
def RowAt (B:Nat) (w:World) (e:TypeId) (k:Nat) (v:Value) (n:Nat) (xs:List Value):Prop:=
 xs.length=n*k∧((∃A,v=.slice A 0 0∧n=0)∨∃g cap cur,v=.slice (some ⟨g,0,none⟩) n cap∧0<cap∧B≤g∧w.heap[g]? =some (.cells cur e (0,0))∧n≤cap∧cap≤maxLen∧cur.size=cap*k∧cur.toList.take (n*k)=xs)
def rowBlk:Value→Option Nat
 | .slice (some a) _ c=>if c=0 then none else some a.block
 | _=>none
theorem RowAt.of_own {B:Nat} {w:World} {e:TypeId} {k:Nat} {v:Value} {n:Nat} {xs:List Value} (h:w.ownsRow B e k v n xs):RowAt B w e k v n xs:=by
 refine⟨h.1,?_⟩
 rcases h.2 with⟨rfl,rfl⟩|⟨g,cap,cur,rfl,hb,hg,hnc,hcm,hcs,ht⟩
 ·exact .inl ⟨none,rfl,rfl⟩
 ·by_cases h0:cap=0
  ·subst h0;have:n=0:=by omega
   subst this;exact .inl ⟨_,rfl,rfl⟩
  ·exact .inr ⟨g,cap,cur,rfl,by omega,hb,hg,hnc,hcm,hcs,ht⟩
theorem RowAt.blk {B:Nat} {w:World} {e:TypeId} {k:Nat} {v:Value} {n:Nat} {xs:List Value} (h:RowAt B w e k v n xs):∀b,rowBlk v=some b→B≤b∧b<w.heap.size∧∃cur,w.heap[b]? =some (.cells cur e (0,0)):=by
 intro b hb
 rcases h.2 with⟨A,rfl,_⟩|⟨g,cap,cur,rfl,hc,hB,hg,_⟩
 ·cases A<;>simp[rowBlk] at hb
 ·have:g=b:=by simpa [rowBlk,Nat.ne_of_gt hc] using hb
  subst this;exact⟨hB,(Array.getElem?_eq_some_iff.1 hg).1,cur,hg⟩
theorem RowAt.kept {B:Nat} {w w':World} {e:TypeId} {k:Nat} {v:Value} {n:Nat} {xs:List Value} {r:Option Nat} (h:RowAt B w e k v n xs) (hg:w.grownBy w' r) (hr:∀b,rowBlk v=some b→r≠some b):RowAt B w' e k v n xs:=by
 refine⟨h.1,?_⟩
 rcases h.2 with h0|⟨g,cap,cur,rfl,hc,hB,hgg,rest⟩
 ·exact .inl h0
 ·refine .inr ⟨g,cap,cur,rfl,hc,hB,?_,rest⟩;rw[hg.block g (Array.getElem?_eq_some_iff.1 hgg).1 (fun e=>hr g (by simp[rowBlk,Nat.ne_of_gt hc]) e.symm)];exact hgg
theorem RowAt.cellsOf {B:Nat} {w:World} {e:TypeId} {k:Nat} {g n cap:Nat} {xs:List Value} (h:RowAt B w e k (.slice (some ⟨g,0,none⟩) n cap) n xs):∀j u,xs[j]? =some u→w.cell? ((⟨g,0,none⟩:Addr).add j)=some u:=by
 rcases h.2 with⟨A,hA,h0⟩|⟨g',cap',cur,hv,hc,hB,hg,hn,hm,hs,ht⟩
 ·have:xs=[]:=List.length_eq_zero_iff.1 (by rw[h.1,h0,Nat.zero_mul]);rw[this];intro j u hj;simp at hj
 ·injection hv with e1 e2 e3
  injection e1 with e1
  injection e1 with e1
  subst e1 e3;refine z0l hg 0 xs (fun j u hj=>?_);rw[←ht,List.getElem?_take] at hj
  split at hj
  ·rw[Nat.zero_add];simpa using hj
  ·cases hj
theorem zfn {P:Program} {B:Nat} {w:World} {e:TypeId} {k:Nat} {v:Value} {n:Nat} {xs:List Value} (h:RowAt B w e k v n xs) (hB:B≤w.heap.size) (t:TypeId) (ht:P.underlying t=some (.slice e)) (i:TypeInfo) (hi:P.info? e=some i) (z:Value) (hz:i.zero=some z) (hk:i.size=k) (hzk:z.cells.size=k)
  (hbytes:(n+1)*i.bytes≤140737488355328) (hn:n+1≤140737488355328) (a:Addr) (x:List Value) (hxl:x.length=k) (hx:∀j u,x[j]? =some u→w.cell? (a.add j)=some u) (h1x:∀u∈x,u.oneCell'=true) (c1:Nat):
  ∃v' w',(∀ty,(Builtin.append_ #[t,t] ty #[v,.slice (some a) 1 c1]).run P w=.ok v' w')∧RowAt B w' e k v' (n+1) (xs++x)∧w.grownBy w' (rowBlk v)∧(rowBlk v'=rowBlk v∨∃b,rowBlk v'=some b∧w.heap.size≤b):=by
 have hlen:(xs++x).length=(n+1)*k:=by rw[List.length_append,h.1,hxl,Nat.add_mul,Nat.one_mul]
 have hmx:(140737488355328:Nat)≤maxLen:=by unfold maxLen;omega
 have grow:∀(base:Option Addr) (c:Nat),(Builtin.firstCells i.size n (.slice base n c)).run P w.drew=.ok xs.toArray w.drew→c<n+1→∃v' w',(∀ty,(Builtin.append_ #[t,t] ty #[.slice base n c,.slice (some a) 1 c1]).run P w=.ok v' w')∧RowAt B w' e k v' (n+1) (xs++x)∧w.grownBy w' none∧∃b,rowBlk v'=some b∧w.heap.size≤b:=by
  intro base c hold hc;have hsrc:Src P i.size t (.slice (some a) 1 c1) 1 x w:=Src.ofSlice w ht a 1 c1 x (by rw[hxl,hk,Nat.one_mul]) hx h1x;have hG:=grownCap_ge w (n+1) c e;have hGm:grownCap w (n+1) c e≤maxLen:=grownCap_le_maxLen w (n+1) c e (by omega);refine⟨.slice (some ⟨w.heap.size,0,none⟩) (n+1) (grownCap w (n+1) c e),w.drew.alloc (.cells ((xs++x).toArray++Builtin.zeroCells z.cells (grownCap w (n+1) c e-(n+1))) e),fun ty=>run_append_grow_src w t t ty e i z ht hi hz base n c xs hold _ 1 x hsrc hc (by omega) (growslice_fits hc hbytes),⟨hlen,.inr ⟨w.heap.size,_,_,rfl,by omega,hB,Go.heap_alloc_new w.drew _,hG,hGm,?_,?_⟩⟩,⟨rfl,rfl,rfl,by simp,fun b hb _=>Go.heap_alloc_old w.drew _ hb⟩,w.heap.size,?_,Nat.le_refl _⟩
  ·rw[Array.size_append,List.size_toArray,size_zeroCells,hzk,hlen,←Nat.add_mul]
   congr 1
   omega
  ·rw[Array.toList_append,←hlen];exact List.take_left
  ·simp only[rowBlk];rw[if_neg (by omega)]
 rcases h.2 with⟨A,rfl,rfl⟩|⟨g,cap,cur,rfl,hc,hBg,hg,hnc,hcm,hcs,htk⟩
 ·have hx0:xs=[]:=List.length_eq_zero_iff.1 (by rw[h.1,Nat.zero_mul])
  obtain⟨v',w',h1,h2,h3,b,h4,h5⟩:=grow A 0 (by
   rw[hx0];cases A with
   | none=>exact run_firstCells_none w.drew _ 0 0 0
   | some b=>exact run_firstCells_some w.drew _ 0 b 0 0 [] (by simp) (by simp)) (by omega)
  exact⟨v',w',h1,h2,⟨h3.os,h3.tape,h3.output,h3.size,fun k hk _=>h3.block k hk (by simp)⟩,.inr ⟨b,h4,h5⟩⟩
 ·by_cases hroom:n+1≤cap
  ·have hfit:n*i.size+x.length≤cur.size:=by rw[hxl,hk,hcs,←Nat.succ_mul];exact Nat.mul_le_mul_right _ hroom
   have hr:=fun ty=>run_append_room (P:=P) w t ty e i ht hi g n cap cur hg a 1 c1 x (by rw[hxl,hk,Nat.one_mul]) hx h1x hroom hfit
   refine⟨_,_,hr,⟨hlen,.inr ⟨g,cap,_,rfl,hc,hBg,setRow_heap w g cur _ e _ hg,hroom,hcm,?_,?_⟩⟩,?_,.inl (by simp[rowBlk])⟩
   ·simp only[List.size_toArray,List.length_append,List.length_take,List.length_drop,Array.length_toList];omega
   ·rw[hk,htk,←hlen];exact List.take_left
   ·have hb:rowBlk (.slice (some ⟨g,0,none⟩) n cap)=some g:=by simp[rowBlk,Nat.ne_of_gt hc]
    rw[hb];exact z1n
  ·obtain⟨v',w',h1,h2,h3,b,h4,h5⟩:=grow (some ⟨g,0,none⟩) cap (run_firstCells_some w.drew _ n ⟨g,0,none⟩ n cap xs (by rw[h.1,hk]) (by simpa using h.cellsOf)) (by omega);exact⟨v',w',h1,h2,⟨h3.os,h3.tape,h3.output,h3.size,fun k hk _=>h3.block k hk (by simp)⟩,.inr ⟨b,h4,h5⟩⟩
theorem z5b {P:Program} {B:Nat} {w:World} {e:TypeId} {k:Nat} {v:Value} {n:Nat} {xs:List Value} (h:RowAt B w e k v n xs) (hB:B≤w.heap.size) (t:TypeId) (ht:P.underlying t=some (.slice e)) (i:TypeInfo) (hi:P.info? e=some i) (z:Value) (hz:i.zero=some z) (hk:i.size=k) (hzk:z.cells.size=k)
  (hbytes:(n+1)*i.bytes≤140737488355328) (hn:n+1≤1099511627776) (a:Addr) (x:List Value) (hxl:x.length=k) (hx:∀j u,x[j]? =some u→w.cell? (a.add j)=some u) (h1x:∀u∈x,u.oneCell'=true) (c1:Nat):
  ∃v' w',(∀ty,(Builtin.append_ #[t,t] ty #[v,.slice (some a) 1 c1]).run P w=.ok v' w')∧RowAt B w' e k v' (n+1) (xs++x)∧w.grownBy w' (rowBlk v)∧(rowBlk v'=rowBlk v∨∃b,rowBlk v'=some b∧w.heap.size≤b):=
 zfn h hB t ht i hi z hz hk hzk hbytes (by omega) a x hxl hx h1x c1
theorem z0i {w:World} {a b:Nat} {c1 c2:Array Value} {t1 t2:TypeId} {f1 f2:Nat×Nat} (h1:w.heap[a]? =some (.cells c1 t1 f1)) (h2:w.heap[b]? =some (.cells c2 t2 f2)) (ht:t1≠t2):a≠b:=fun e=>by
 subst e;rw[h1] at h2;injection h2 with h2
 injection h2 with _ h2 _
 exact ht h2
theorem RowAt.slice {B:Nat} {w:World} {e:TypeId} {k:Nat} {v:Value} {n:Nat} {xs:List Value} (h:RowAt B w e k v n xs):∃A c,v=.slice A n c∧SlOk A n c:=by
 rcases h.2 with⟨A,rfl,rfl⟩|⟨g,cap,cur,rfl,hc,hB,hg,hn,hm,hs,ht⟩
 ·exact⟨A,0,rfl,Nat.le_refl _,fun _=>rfl⟩
 ·exact⟨_,cap,rfl,hn,fun e=>by cases e⟩
theorem RowAt.open_ {B:Nat} {w:World} {e:TypeId} {k:Nat} {v:Value} {n:Nat} {xs:List Value} (h:RowAt B w e k v n xs) (hn:0<n):∃g c cur,v=.slice (some ⟨g,0,none⟩) n c∧rowBlk v=some g∧B≤g∧g<w.heap.size∧w.heap[g]? =some (.cells cur e (0,0))∧n*k≤cur.size∧∀j u,xs[j]? =some u→w.cell? ⟨g,j,none⟩=some u:=by
 have h0:=h
 rcases h.2 with⟨A,rfl,rfl⟩|⟨g,cap,cur,rfl,hc,hB,hg,hnc,hm,hs,ht⟩
 ·omega
 ·refine⟨g,cap,cur,rfl,by simp[rowBlk,Nat.ne_of_gt hc],hB,(Array.getElem?_eq_some_iff.1 hg).1,hg,by rw[hs];exact Nat.mul_le_mul_right _ hnc,fun j u hj=>?_⟩;have:=h0.cellsOf j u hj
  rwa [Addr.add_lit,Nat.zero_add] at this
theorem RowAt.ents {B:Nat} {w:World} {v:Value} {n:Nat} {es:List En} (h:RowAt B w 120 2 v n (es.flatMap enV)):∃A c,v=.slice A n c∧SlOk A n c∧EntsAt none w A n es:=by
 obtain⟨A,c,hv,hok⟩:=h.slice
 have hl:es.length=n:=by
  have h1:=h.1;rw[z1a enV 2 (fun x=>rfl)] at h1;omega
 refine⟨A,c,hv,hok,hl,fun h0=>?_⟩;obtain⟨g,c',cur,hv',_,_,hlt,_,_,hc⟩:=h.open_ h0;rw[hv] at hv';injection hv' with e1 _ _
 refine⟨g,0,e1,hlt,Mine.any _ _ _,fun j e he=>?_⟩;have f:=z0v enV 2 (fun x=>rfl) es j e he;rw[Nat.zero_add];exact⟨hc _ _ (f 0 (by omega)),hc _ _ (f 1 (by omega))⟩
theorem RowAt.descs {B:Nat} {w:World} {v:Value} {n:Nat} {ds:List Ds} (h:RowAt B w 89 3 v n (ds.flatMap dsV)):∃A c,v=.slice A n c∧SlOk A n c∧DescsAt none w A n ds:=by
 obtain⟨A,c,hv,hok⟩:=h.slice
 have hl:ds.length=n:=by
  have h1:=h.1;rw[z1a dsV 3 (fun x=>rfl)] at h1;omega
 refine⟨A,c,hv,hok,hl,fun h0=>?_⟩;obtain⟨g,c',cur,hv',_,_,hlt,_,_,hc⟩:=h.open_ h0;rw[hv] at hv';injection hv' with e1 _ _
 refine⟨g,0,e1,hlt,Mine.any _ _ _,fun j e he=>?_⟩;have f:=z0v dsV 3 (fun x=>rfl) ds j e he;rw[Nat.zero_add];exact⟨hc _ _ (f 0 (by omega)),hc _ _ (f 1 (by omega)),hc _ _ (f 2 (by omega))⟩
def intV (x:Int):Value:=.int .i64 x
theorem RowAt.ints {B:Nat} {w:World} {v:Value} {n:Nat} {xs:List Int} (h:RowAt B w 3 1 v n (xs.map intV)):∃A c,v=.slice A n c∧SlOk A n c∧IntsAt none w A n xs:=by
 obtain⟨A,c,hv,hok⟩:=h.slice;have hl:xs.length=n:=by have h1:=h.1;simpa using h1
 refine⟨A,c,hv,hok,hl,fun h0=>?_⟩;obtain⟨g,c',cur,hv',_,_,hlt,_,_,hc⟩:=h.open_ h0;rw[hv] at hv';injection hv' with e1 _ _
 refine⟨g,0,e1,hlt,Mine.any _ _ _,fun j e he=>?_⟩;rw[Nat.zero_add];exact hc _ _ (by rw[List.getElem?_map,he];rfl)
def Apart (zs:List (Ino×Value)):Prop:=∀(i j:Nat) (a b:Ino×Value),i≠j→zs[i]? =some a→zs[j]? =some b→∀g,rowBlk a.2=some g→rowBlk b.2≠some g
structure Own2 (B:Nat) (w:World) (p:Nat) (s:St) (zs:List (Ino×Value)) (vI vO vM:Value):Prop where
 hp:B≤p
 cell:w.heap[p]? =some (.cells #[vI,vO,vM] 27 (0,0))
 inos:zs.map Prod.fst=s.inos
 rowI:RowAt B w 53 4 vI zs.length (zs.flatMap inoV)
 ents:∀z∈zs,RowAt B w 120 2 z.2 z.1.ents.length (z.1.ents.flatMap enV)
 apart:Apart zs
 rowO:RowAt B w 89 3 vO s.opn.length (s.opn.flatMap dsV)
 rowM:RowAt B w 3 1 vM s.made.length (s.made.map intV)
 sized:Sized s
theorem Own2.inosAt {B:Nat} {w:World} {p:Nat} {s:St} {zs:List (Ino×Value)} {vI vO vM:Value} (h:Own2 B w p s zs vI vO vM):∃A c,vI=.slice A s.inos.length c∧SlOk A s.inos.length c∧InosAt none w A s.inos.length s.inos:=by
 have hl:s.inos.length=zs.length:=by rw[←h.inos,List.length_map]
 obtain⟨A,c,hv,hok⟩:=h.rowI.slice;rw[←hl] at hv hok;refine⟨A,c,hv,hok,rfl,fun h0=>?_⟩;obtain⟨g,c',cur,hv',_,_,hlt,_,_,hc⟩:=h.rowI.open_ (by omega);rw[hv] at hv';injection hv' with e1 _ _
 refine⟨g,0,e1,hlt,Mine.any _ _ _,fun j x hx=>?_⟩;rw[←h.inos,List.getElem?_map] at hx;obtain⟨z,hz,rfl⟩:=Option.map_eq_some_iff.1 hx;have f:=z0v inoV 4 (fun x=>rfl) zs j z hz;obtain⟨E,m,he,hmd,hE⟩:=(h.ents z (List.mem_of_getElem? hz)).ents;rw[Nat.zero_add];refine⟨hc _ _ (f 0 (by omega)),hc _ _ (f 1 (by omega)),⟨E,z.1.ents.length,m,?_,hmd,hE⟩,hc _ _ (f 3 (by omega))⟩;rw[←he];exact hc _ _ (f 2 (by omega))
theorem Own2.ptr {B:Nat} {w:World} {p:Nat} {s:St} {zs:List (Ino×Value)} {vI vO vM:Value} (h:Own2 B w p s zs vI vO vM):PtrAt w p s:=by
 obtain⟨A,c,hA,hAo,hAI⟩:=h.inosAt;obtain⟨E,d,hE,hEo,hED⟩:=h.rowO.descs;obtain⟨M,k,hM,hMo,hMI⟩:=h.rowM.ints;refine⟨⟨A,_,c,E,_,d,M,_,k,?_,hAI,hED,hMI,hAo,hEo,hMo⟩,h.sized⟩;rw[←hA,←hE,←hM];exact h.cell
theorem Own2.below {B:Nat} {w w':World} {p:Nat} {s:St} {zs:List (Ino×Value)} {vI vO vM:Value} (h:Own2 B w p s zs vI vO vM) (hb:Below w.heap.size w w'):Own2 B w' p s zs vI vO vM:=by
 have hg:w.grownBy w' none:=zfm hb;have hn:∀(v:Value) (b:Nat),rowBlk v=some b→(none:Option Nat)≠some b:=fun v b _=>by simp
 exact⟨h.hp,(hb.block p (Array.getElem?_eq_some_iff.1 h.cell).1).trans h.cell,h.inos,h.rowI.kept hg (hn _),fun z hz=>(h.ents z hz).kept hg (hn _),h.apart,h.rowO.kept hg (hn _),h.rowM.kept hg (hn _),h.sized⟩
structure Turns (B p:Nat) (w w':World):Prop where
 below:Below B w w'
 keep:∀(b:Nat) (cur:Array Value) (t:TypeId),w.heap[b]? =some (.cells cur t (0,0))→53≠t→120≠t→89≠t→3≠t→b≠p→w'.heap[b]? =w.heap[b]?
theorem Turns.trans {B p:Nat} {a b c:World} (h:Turns B p a b) (k:Turns B p b c):Turns B p a c:=
 ⟨h.below.trans k.below,fun x cur t hx h1 h2 h3 h4 h5=>(k.keep x cur t ((h.keep x cur t hx h1 h2 h3 h4 h5).trans hx) h1 h2 h3 h4 h5).trans (h.keep x cur t hx h1 h2 h3 h4 h5)⟩
theorem Turns.of_below {B p:Nat} {w w':World} (h:Below w.heap.size w w') (hB:B≤w.heap.size):Turns B p w w':=
 ⟨h.mono hB,fun b cur t hb _ _ _ _ _=>h.block b (Array.getElem?_eq_some_iff.1 hb).1⟩
theorem Turns.of_grown {B p:Nat} {w w':World} {r:Option Nat} (h:w.grownBy w' r) (hB:B≤w.heap.size) (hr:∀b,r=some b→B≤b∧(b=p∨∃cur t,w.heap[b]? =some (.cells cur t (0,0))∧(t=53∨t=120∨t=89∨t=3))):Turns B p w w':=
 ⟨zgy h hB (fun b hb => (hr b hb).1), fun b cur t hb h1 h2 h3 h4 h5 => h.block b (Array.getElem?_eq_some_iff.1 hb).1 (fun e => by
  rcases (hr b e.symm).2 with e1|⟨cur',t',h',ht⟩
  ·exact h5 e1
  ·rw[hb] at h';injection h' with h'
   injection h' with _ h' _
   rcases ht with ht|ht|ht|ht
   ·exact h1 (ht.symm.trans h'.symm)
   ·exact h2 (ht.symm.trans h'.symm)
   ·exact h3 (ht.symm.trans h'.symm)
   ·exact h4 (ht.symm.trans h'.symm))⟩
theorem z0q {w:World} {b j:Nat} {u:Value}:w.grownBy (w.setCell ⟨b,j,none⟩ u) (some b):=
 ⟨rfl,rfl,rfl,by simp[World.setCell],fun k hk hne=>Below.heap_setCell w ⟨b,j,none⟩ u k (fun e=>hne (by rw[e]))⟩
theorem RowAt.set {B:Nat} {w:World} {e:TypeId} {k:Nat} {g n c:Nat} {xs:List Value} (h:RowAt B w e k (.slice (some ⟨g,0,none⟩) n c) n xs) (j:Nat) (u:Value) (hj:j<n*k):RowAt B (w.setCell ⟨g,j,none⟩ u) e k (.slice (some ⟨g,0,none⟩) n c) n (xs.set j u):=by
 refine⟨by rw[List.length_set];exact h.1,?_⟩
 rcases h.2 with⟨A,hA,rfl⟩|⟨g',cap,cur,hv,hc,hB,hg,hnc,hm,hs,ht⟩
 ·omega
 ·injection hv with e1 e2 e3
  injection e1 with e1
  injection e1 with e1
  subst e1 e3;refine .inr ⟨g,c,cur.setIfInBounds j u,rfl,hc,hB,?_,hnc,hm,by simpa using hs,?_⟩
  ·rw[heap_setCell_same w g j _ _ _ hg]
  ·rw[←ht,Array.toList_setIfInBounds,List.take_set]
theorem zaa:∀(zs:List (Ino×Value)) (k:Nat) (z:Ino×Value) (es:List En) (v:Value),zs[k]? =some z→(zs.flatMap inoV).set (k*4+2) v=(zs.set k ({ z.1 with ents:=es },v)).flatMap inoV
 | [],k,z,es,v,h=>by simp at h
 | y::ys,0,z,es,v,h=>by
  have:y=z:=by simpa using h
  subst this
  rfl
 | y::ys,k+1,z,es,v,h=>by
  have ih:=zaa ys k z es v (by simpa using h);rw[List.set_cons_succ,List.flatMap_cons,List.flatMap_cons,←ih,List.set_append_right _ _ (by show 4≤_;omega)]
  congr 2
  show(k+1)*4+2-4=_;omega
theorem ze5:∀(zs:List (Ino×Value)) (k:Nat) (z:Ino×Value) (d:ByteArray),zs[k]? =some z→(zs.flatMap inoV).set (k*4+3) (.string d)=(zs.set k ({ z.1 with data:=d },z.2)).flatMap inoV
 | [],k,z,d,h=>by simp at h
 | y::ys,0,z,d,h=>by
  have:y=z:=by simpa using h
  subst this
  rfl
 | y::ys,k+1,z,d,h=>by
  have ih:=ze5 ys k z d (by simpa using h);rw[List.set_cons_succ,List.flatMap_cons,List.flatMap_cons,←ih,List.set_append_right _ _ (by show 4≤_;omega)]
  congr 2
  show(k+1)*4+3-4=_;omega
theorem zfo {α β:Type} (f:α→β) (l:List α) (k:Nat) (x:α):(l.set k x).map f=(l.map f).set k (f x):=by
 rw[List.map_set]
section
variable {B:Nat} {w:World} {p:Nat} {s:St} {zs:List (Ino×Value)} {vI vO vM:Value}
theorem Own2.bI (h:Own2 B w p s zs vI vO vM) {b:Nat} (hb:rowBlk vI=some b):∃cur,w.heap[b]? =some (.cells cur 53 (0,0)):=(h.rowI.blk b hb).2.2
theorem Own2.bO (h:Own2 B w p s zs vI vO vM) {b:Nat} (hb:rowBlk vO=some b):∃cur,w.heap[b]? =some (.cells cur 89 (0,0)):=(h.rowO.blk b hb).2.2
theorem Own2.bM (h:Own2 B w p s zs vI vO vM) {b:Nat} (hb:rowBlk vM=some b):∃cur,w.heap[b]? =some (.cells cur 3 (0,0)):=(h.rowM.blk b hb).2.2
theorem Own2.bE (h:Own2 B w p s zs vI vO vM) {z:Ino×Value} (hz:z∈zs) {b:Nat} (hb:rowBlk z.2=some b):∃cur,w.heap[b]? =some (.cells cur 120 (0,0)):=((h.ents z hz).blk b hb).2.2
theorem z0x {r:Option Nat} {b:Nat} (h:∀a,r=some a→a≠b):r≠some b:=fun e=>h b e rfl
theorem Own2.setE (h:Own2 B w p s zs vI vO vM) (hB:B≤w.heap.size) {k:Nat} {z:Ino×Value} (hz:zs[k]? =some z) {es:List En} {v':Value} {w':World} (hg:w.grownBy w' (rowBlk z.2)) (hr:RowAt B w' 120 2 v' es.length (es.flatMap enV))
  (hv:rowBlk v'=rowBlk z.2∨∃b,rowBlk v'=some b∧w.heap.size≤b) (hs:Sized { s with inos:=s.inos.set k { z.1 with ents:=es } }) {g n c:Nat} (hvI:vI=.slice (some ⟨g,0,none⟩) n c):
  Own2 B (w'.setCell ⟨g,k*4+2,none⟩ v') p { s with inos:=s.inos.set k { z.1 with ents:=es } } (zs.set k ({ z.1 with ents:=es },v')) vI vO vM∧Turns B p w (w'.setCell ⟨g,k*4+2,none⟩ v'):=by
 have hzm:=List.mem_of_getElem? hz;have hkl:k<zs.length:=(List.getElem?_eq_some_iff.1 hz).1;obtain⟨g',c',cur,hv1,hb1,hB1,hlt1,hg1,hsz1,_⟩:=h.rowI.open_ (by omega);have hgg:g'=g:=by rw[hvI] at hv1;injection hv1 with e1 _ _;injection e1 with e1;injection e1 with e1;exact e1.symm
 subst hgg;have hzE:∀b,rowBlk z.2=some b→∃cur,w.heap[b]? =some (.cells cur 120 (0,0)):=fun b hb=>h.bE hzm hb
 have nI:rowBlk z.2≠some g':=z0x fun a ha=>by obtain⟨c1,h1⟩:=hzE a ha;exact z0i h1 hg1 (by decide)
 have nP:rowBlk z.2≠some p:=z0x fun a ha=>by obtain⟨c1,h1⟩:=hzE a ha;exact z0i h1 h.cell (by decide)
 have hpl:p<w.heap.size:=(Array.getElem?_eq_some_iff.1 h.cell).1;have g1':w'.heap[g']? =some (.cells cur 53 (0,0)):=(hg.block g' hlt1 (fun e=>nI e.symm)).trans hg1;have p1':w'.heap[p]? =_:=(hg.block p hpl (fun e=>nP e.symm)).trans h.cell;have hgp:g'≠p:=z0i hg1 h.cell (by decide)
 have keepE:∀(v:Value) (m:Nat) (xs:List Value),RowAt B w' 120 2 v m xs→RowAt B (w'.setCell ⟨g',k*4+2,none⟩ v') 120 2 v m xs:=fun v m xs hx=>hx.kept z0q (fun b hb e=>by
  obtain⟨_,_,c1,h1⟩:=hx.blk b hb;exact z0i g1' h1 (by decide) (by injection e))
 have turn:Turns B p w (w'.setCell ⟨g',k*4+2,none⟩ v'):=by
  refine(Turns.of_grown hg hB (fun b hb=>⟨((h.ents z hzm).blk b hb).1,.inr ?_⟩)).trans (Turns.of_grown z0q (Nat.le_trans hB hg.size) (fun b hb=>?_))
  ·obtain⟨c1,h1⟩:=hzE b hb;exact⟨c1,_,h1,.inr (.inl rfl)⟩
  ·injection hb with hb
   subst hb;exact⟨hB1,.inr ⟨cur,_,g1',.inl rfl⟩⟩
 refine⟨⟨h.hp,?_,?_,?_,?_,?_,?_,?_,hs⟩,turn⟩
 ·rw[Below.heap_setCell w' ⟨g',k*4+2,none⟩ v' p (fun e=>hgp e.symm)];exact p1'
 ·rw[zfo,h.inos]
 ·rw[List.length_set];have h1:RowAt B w' 53 4 vI zs.length (zs.flatMap inoV):=h.rowI.kept hg (fun b hb=>by rw[hb1] at hb;injection hb with hb;subst hb;exact nI);rw[hv1] at h1 ⊢;have h2:=h1.set (k*4+2) v' (by omega)
  rwa [zaa zs k z es v' hz] at h2
 ·intro y hy;obtain⟨j,hj⟩:=List.getElem?_of_mem hy;rw[List.getElem?_set] at hj
  by_cases e:k=j
  ·subst e;rw[if_pos rfl,if_pos hkl] at hj;injection hj with hj
   subst hj;exact keepE _ _ _ hr
  ·rw[if_neg e] at hj;exact keepE _ _ _ ((h.ents y (List.mem_of_getElem? hj)).kept hg (fun b hb e2=>h.apart k j z y e hz hj b e2 hb))
 ·intro i j a b hij ha hb gg hga hgb
  have old:∀(j:Nat) (y:Ino×Value),zs[j]? =some y→k≠j→∀b,rowBlk y.2=some b→rowBlk v'≠some b:=fun j y hy hne b hb e=>by
   rcases hv with hv|⟨b',hv,hle⟩
   ·rw[hv] at e;exact h.apart k j z y hne hz hy b e hb
   ·rw[hv] at e;injection e with e
    subst e;have:=((h.ents y (List.mem_of_getElem? hy)).blk b' hb).2.1;omega
  rw[List.getElem?_set] at ha hb
  by_cases e1:k=i
  ·subst e1;rw[if_pos rfl,if_pos hkl] at ha;injection ha with ha
   subst ha;rw[if_neg hij] at hb;exact old j b hb hij gg hgb hga
  ·rw[if_neg e1] at ha
   by_cases e2:k=j
   ·subst e2;rw[if_pos rfl,if_pos hkl] at hb;injection hb with hb
    subst hb;exact old i a ha e1 gg hga hgb
   ·rw[if_neg e2] at hb;exact h.apart i j a b hij ha hb gg hga hgb
 ·have h1:=h.rowO.kept hg (fun b hb=>z0x fun a ha=>by
   obtain⟨c1,h1⟩:=hzE a ha;obtain⟨c2,h2⟩:=h.bO hb;exact z0i h1 h2 (by decide))
  exact h1.kept z0q (fun b hb e=>by
   obtain⟨_,_,c1,h2⟩:=h1.blk b hb;exact z0i g1' h2 (by decide) (by injection e))
 ·have h1:=h.rowM.kept hg (fun b hb=>z0x fun a ha=>by
   obtain⟨c1,h1⟩:=hzE a ha;obtain⟨c2,h2⟩:=h.bM hb;exact z0i h1 h2 (by decide))
  exact h1.kept z0q (fun b hb e=>by
   obtain⟨_,_,c1,h2⟩:=h1.blk b hb;exact z0i g1' h2 (by decide) (by injection e))
theorem Own2.setB (h:Own2 B w p s zs vI vO vM) (hB:B≤w.heap.size) {k:Nat} {z:Ino×Value} (hz:zs[k]? =some z) {d:ByteArray} (hs:Sized { s with inos:=s.inos.set k { z.1 with data:=d } }) {g n c:Nat} (hvI:vI=.slice (some ⟨g,0,none⟩) n c):
  Own2 B (w.setCell ⟨g,k*4+3,none⟩ (.string d)) p { s with inos:=s.inos.set k { z.1 with data:=d } } (zs.set k ({ z.1 with data:=d },z.2)) vI vO vM∧Turns B p w (w.setCell ⟨g,k*4+3,none⟩ (.string d)):=by
 have hzm:=List.mem_of_getElem? hz;have hkl:k<zs.length:=(List.getElem?_eq_some_iff.1 hz).1;obtain⟨g',c',cur,hv1,hb1,hB1,hlt1,hg1,hsz1,_⟩:=h.rowI.open_ (by omega);have hgg:g'=g:=by rw[hvI] at hv1;injection hv1 with e1 _ _;injection e1 with e1;injection e1 with e1;exact e1.symm
 subst hgg;have hgp:g'≠p:=z0i hg1 h.cell (by decide);refine⟨⟨h.hp,?_,?_,?_,?_,?_,?_,?_,hs⟩,Turns.of_grown z0q hB (fun b hb=>?_)⟩
 ·rw[Below.heap_setCell w ⟨g',k*4+3,none⟩ _ p (fun e=>hgp e.symm)];exact h.cell
 ·rw[zfo,h.inos]
 ·rw[List.length_set];have h1:=h.rowI;rw[hv1] at h1 ⊢;have h2:=h1.set (k*4+3) (.string d) (by omega)
  rwa [ze5 zs k z d hz] at h2
 ·intro y hy;obtain⟨j,hj⟩:=List.getElem?_of_mem hy;rw[List.getElem?_set] at hj
  have key:∀y∈zs,RowAt B (w.setCell ⟨g',k*4+3,none⟩ (.string d)) 120 2 y.2 y.1.ents.length (y.1.ents.flatMap enV):=fun y hy=>(h.ents y hy).kept z0q (fun b hb e=>by
   obtain⟨c1,h2⟩:=h.bE hy hb;exact z0i hg1 h2 (by decide) (by injection e))
  by_cases e:k=j
  ·subst e;rw[if_pos rfl,if_pos hkl] at hj;injection hj with hj
   subst hj;exact key z hzm
  ·rw[if_neg e] at hj;exact key y (List.mem_of_getElem? hj)
 ·intro i j a b hij ha hb gg hga hgb
  have ha':∃a',zs[i]? =some a'∧a'.2=a.2:=by
   rw[List.getElem?_set] at ha
   by_cases e:k=i
   ·subst e;rw[if_pos rfl,if_pos hkl] at ha;injection ha with ha
    exact⟨z,hz,by rw[←ha]⟩
   ·rw[if_neg e] at ha;exact⟨a,ha,rfl⟩
  have hb':∃b',zs[j]? =some b'∧b'.2=b.2:=by
   rw[List.getElem?_set] at hb
   by_cases e:k=j
   ·subst e;rw[if_pos rfl,if_pos hkl] at hb;injection hb with hb
    exact⟨z,hz,by rw[←hb]⟩
   ·rw[if_neg e] at hb;exact⟨b,hb,rfl⟩
  obtain⟨a',ha1,ha2⟩:=ha';obtain⟨b',hb1,hb2⟩:=hb';exact h.apart i j a' b' hij ha1 hb1 gg (by rw[ha2];exact hga) (by rw[hb2];exact hgb)
 ·exact h.rowO.kept z0q (fun b hb e=>by
   obtain⟨c1,h2⟩:=h.bO hb;exact z0i hg1 h2 (by decide) (by injection e))
 ·exact h.rowM.kept z0q (fun b hb e=>by
   obtain⟨c1,h2⟩:=h.bM hb;exact z0i hg1 h2 (by decide) (by injection e))
 ·injection hb with hb
  subst hb;exact⟨hB1,.inr ⟨cur,_,hg1,.inl rfl⟩⟩
theorem Own2.setI (h:Own2 B w p s zs vI vO vM) (hB:B≤w.heap.size) {v':Value} {w':World} {ys:List (Ino×Value)} (hg:w.grownBy w' (rowBlk vI)) (hr:RowAt B w' 53 4 v' ys.length (ys.flatMap inoV))
  (he:∀y∈ys,RowAt B w 120 2 y.2 y.1.ents.length (y.1.ents.flatMap enV)) (ha:Apart ys) (hs:Sized { s with inos:=ys.map Prod.fst }):
  Own2 B (w'.setCell ⟨p,0,none⟩ v') p { s with inos:=ys.map Prod.fst } ys v' vO vM∧Turns B p w (w'.setCell ⟨p,0,none⟩ v'):=by
 have hpl:p<w.heap.size:=(Array.getElem?_eq_some_iff.1 h.cell).1;have nP:rowBlk vI≠some p:=z0x fun a ha=>by obtain⟨c1,h1⟩:=h.bI ha;exact z0i h1 h.cell (by decide)
 have p1':w'.heap[p]? =_:=(hg.block p hpl (fun e=>nP e.symm)).trans h.cell
 have keep:∀(e:TypeId) (k:Nat) (v:Value) (m:Nat) (xs:List Value),e≠27→RowAt B w' e k v m xs→RowAt B (w'.setCell ⟨p,0,none⟩ v') e k v m xs:=fun e k v m xs hne hx=>hx.kept z0q (fun b hb e=>by
  obtain⟨_,_,c1,h1⟩:=hx.blk b hb;exact z0i p1' h1 (fun e=>hne e.symm) (by injection e))
 have keep2:∀(e:TypeId) (k:Nat) (v:Value) (m:Nat) (xs:List Value),e≠53→RowAt B w e k v m xs→RowAt B w' e k v m xs:=fun e k v m xs hne hx=>hx.kept hg (fun b hb=>z0x fun a ha=>by
  obtain⟨_,_,c1,h1⟩:=hx.blk b hb;obtain⟨c2,h2⟩:=h.bI ha;exact z0i h2 h1 (fun e=>hne e.symm))
 refine⟨⟨h.hp,?_,rfl,keep _ _ _ _ _ (by decide) hr,fun y hy=>keep _ _ _ _ _ (by decide) (keep2 _ _ _ _ _ (by decide) (he y hy)),ha,keep _ _ _ _ _ (by decide) (keep2 _ _ _ _ _ (by decide) h.rowO),keep _ _ _ _ _ (by decide) (keep2 _ _ _ _ _ (by decide) h.rowM),hs⟩,?_⟩
 ·rw[heap_setCell_same w' p 0 _ _ _ p1']
  rfl
 ·refine(Turns.of_grown hg hB (fun b hb=>⟨(h.rowI.blk b hb).1,.inr ?_⟩)).trans (Turns.of_grown z0q (Nat.le_trans hB hg.size) (fun b hb=>?_))
  ·obtain⟨c1,h1⟩:=h.bI hb;exact⟨c1,_,h1,.inl rfl⟩
  ·injection hb with hb
   exact⟨by rw[←hb];exact h.hp,.inl hb.symm⟩
theorem Own2.setO (h:Own2 B w p s zs vI vO vM) (hB:B≤w.heap.size) {v':Value} {w':World} {ds:List Ds} (hg:w.grownBy w' (rowBlk vO)) (hr:RowAt B w' 89 3 v' ds.length (ds.flatMap dsV)) (hs:Sized { s with opn:=ds }):
  Own2 B (w'.setCell ⟨p,1,none⟩ v') p { s with opn:=ds } zs vI v' vM∧Turns B p w (w'.setCell ⟨p,1,none⟩ v'):=by
 have hpl:p<w.heap.size:=(Array.getElem?_eq_some_iff.1 h.cell).1;have nP:rowBlk vO≠some p:=z0x fun a ha=>by obtain⟨c1,h1⟩:=h.bO ha;exact z0i h1 h.cell (by decide)
 have p1':w'.heap[p]? =_:=(hg.block p hpl (fun e=>nP e.symm)).trans h.cell
 have keep:∀(e:TypeId) (k:Nat) (v:Value) (m:Nat) (xs:List Value),e≠27→RowAt B w' e k v m xs→RowAt B (w'.setCell ⟨p,1,none⟩ v') e k v m xs:=fun e k v m xs hne hx=>hx.kept z0q (fun b hb e=>by
  obtain⟨_,_,c1,h1⟩:=hx.blk b hb;exact z0i p1' h1 (fun e=>hne e.symm) (by injection e))
 have keep2:∀(e:TypeId) (k:Nat) (v:Value) (m:Nat) (xs:List Value),e≠89→RowAt B w e k v m xs→RowAt B w' e k v m xs:=fun e k v m xs hne hx=>hx.kept hg (fun b hb=>z0x fun a ha=>by
  obtain⟨_,_,c1,h1⟩:=hx.blk b hb;obtain⟨c2,h2⟩:=h.bO ha;exact z0i h2 h1 (fun e=>hne e.symm))
 refine⟨⟨h.hp,?_,h.inos,keep _ _ _ _ _ (by decide) (keep2 _ _ _ _ _ (by decide) h.rowI),fun y hy=>keep _ _ _ _ _ (by decide) (keep2 _ _ _ _ _ (by decide) (h.ents y hy)),h.apart,keep _ _ _ _ _ (by decide) hr,keep _ _ _ _ _ (by decide) (keep2 _ _ _ _ _ (by decide) h.rowM),hs⟩,?_⟩
 ·rw[heap_setCell_same w' p 1 _ _ _ p1']
  rfl
 ·refine(Turns.of_grown hg hB (fun b hb=>⟨(h.rowO.blk b hb).1,.inr ?_⟩)).trans (Turns.of_grown z0q (Nat.le_trans hB hg.size) (fun b hb=>?_))
  ·obtain⟨c1,h1⟩:=h.bO hb;exact⟨c1,_,h1,.inr (.inr (.inl rfl))⟩
  ·injection hb with hb
   exact⟨by rw[←hb];exact h.hp,.inl hb.symm⟩
theorem Own2.setM (h:Own2 B w p s zs vI vO vM) (hB:B≤w.heap.size) (i:Nat) (y:Int) (hi:i<s.made.length) (hs:Sized { s with made:=s.made.set i y }) {g n c:Nat} (hvM:vM=.slice (some ⟨g,0,none⟩) n c):
  Own2 B (w.setCell ⟨g,i,none⟩ (.int .i64 y)) p { s with made:=s.made.set i y } zs vI vO vM∧Turns B p w (w.setCell ⟨g,i,none⟩ (.int .i64 y)):=by
 obtain⟨g',c',cur,hv1,hb1,hB1,hlt1,hg1,hsz1,_⟩:=h.rowM.open_ (by omega);have hgg:g'=g:=by rw[hvM] at hv1;injection hv1 with e1 _ _;injection e1 with e1;injection e1 with e1;exact e1.symm
 subst hgg;have hgp:g'≠p:=z0i hg1 h.cell (by decide)
 have keep:∀(e:TypeId) (k:Nat) (v:Value) (m:Nat) (xs:List Value),e≠3→RowAt B w e k v m xs→RowAt B (w.setCell ⟨g',i,none⟩ (.int .i64 y)) e k v m xs:=fun e k v m xs hne hx=>hx.kept z0q (fun b hb e=>by
  obtain⟨_,_,c1,h1⟩:=hx.blk b hb;exact z0i hg1 h1 (fun e=>hne e.symm) (by injection e))
 refine⟨⟨h.hp,?_,h.inos,keep _ _ _ _ _ (by decide) h.rowI,fun z hz=>keep _ _ _ _ _ (by decide) (h.ents z hz),h.apart,keep _ _ _ _ _ (by decide) h.rowO,?_,hs⟩,Turns.of_grown z0q hB (fun b hb=>?_)⟩
 ·rw[Below.heap_setCell w ⟨g',i,none⟩ _ p (fun e=>hgp e.symm)];exact h.cell
 ·have h1:=h.rowM;rw[hv1] at h1 ⊢;have h2:=h1.set i (.int .i64 y) (by omega);rw[List.length_set,List.map_set];exact h2
 ·injection hb with hb
  subst hb;exact⟨hB1,.inr ⟨cur,_,hg1,.inr (.inr (.inr rfl))⟩⟩
end
def faultP (code:Int):List PanicEntry:=[{ v:=.iface 136 (.agg #[.int .i64 code]),recovered:=false }]
theorem z0h (code:Int) (w:World):Calls Tryz.prog 135 #[.bool false,.int .i64 code] w fun e w'=>e=.returned (.tuple #[])∧w=w':=by
 go_enter Tryz.func135,Tryz.ntmps135
 go_wp2_with fail
 go_returns
 exact⟨rfl,rfl⟩
theorem z0f (code:Int) (w:World):Calls Tryz.prog 135 #[.bool true,.int .i64 code] w fun e w'=>e=.panicked (faultP code)∧w=w':=by
 go_enter Tryz.func135,Tryz.ntmps135
 go_wp2_with fail
 first|exact⟨rfl,rfl⟩|(refine bodyPost_panic ?_;exact⟨rfl,rfl⟩)|simp[bodyPost,faultP]
end Go.Proofs.YtkflaifopbodfaaGreatDoor
