/- Parts of the proof, side by side: SpoilSt, MoRw, Lend. -/
import Derived.Test.YtmmpkfcdfcldlaaGreatM12
import Derived.Test.YtmmpkfcdfcldlaaGreatM06
import Derived.Test.YtmmpkfcdfcldlaaGreatM01
import Derived.Shelf.Spec.SlicesInsert
import Derived.Lib.AppendZerosOnto
import Derived.Test.YtmmpkfcdfcldlaaGreatFsCopy
set_option linter.unusedVariables false
set_option linter.unusedSimpArgs false
namespace Go.Proofs.YtmmpkfcdfcldlaaGreat
open Lib (hid)
open Go.RowKit
structure Above (B:Nat) (w w':World):Prop where
 size:w.heap.size≤w'.heap.size
 block:∀g,B≤g→g<w.heap.size→w'.heap[g]? =w.heap[g]?
theorem Above.trans {B:Nat} {a b c:World} (h:Above B a b) (k:Above B b c):Above B a c:=⟨Nat.le_trans h.size k.size,fun g h1 h2=>(k.block g h1 (Nat.lt_of_lt_of_le h2 h.size)).trans (h.block g h1 h2)⟩
theorem Above.mono {B B':Nat} {a b:World} (h:Above B a b) (hb:B≤B'):Above B' a b:=⟨h.size,fun g h1 h2=>h.block g (Nat.le_trans hb h1) h2⟩
theorem Turned.above {lo hi:Nat} {w w':World} (h:Turned lo hi w w'):Above hi w w':=⟨h.bel.size,h.high⟩
theorem Above.cell {B:Nat} {w w':World} (h:Above B w w') {g k:Nat} (h1:B≤g) (h2:g<w.heap.size):w'.cell? ⟨g,k,none⟩=w.cell? ⟨g,k,none⟩:=by
 unfold World.cell?;rw[h.block g h1 h2]
theorem Mine.above {B:Nat} {t:TypeId} {w w':World} {g:Nat} (h:Mine (some B) t w g) (hk:Above B w w'):Mine (some B) t w' g:=fun C hC=>by
 obtain⟨h1,cur,h2⟩:=h C hC;cases hC;exact⟨h1,cur,(hk.block g h1 (Array.getElem?_eq_some_iff.1 h2).1).trans h2⟩
theorem EntsAt.above {B:Nat} {w w':World} {A:Option Addr} {n:Nat} {es:List En} (h:EntsAt (some B) w A n es) (hk:Above B w w'):EntsAt (some B) w' A n es:=
 ⟨h.1, fun hn => by
  obtain⟨g,off,hA,hg,hm,hc⟩:=h.2 hn;have t:=fun(k:Nat)=>hk.cell (k:=k) (hm B rfl).1 hg
  exact⟨g,off,hA,Nat.lt_of_lt_of_le hg hk.size,hm.above hk,fun j e he=>⟨(t _).trans (hc j e he).1,(t _).trans (hc j e he).2⟩⟩⟩
theorem DescsAt.above {B:Nat} {w w':World} {A:Option Addr} {n:Nat} {es:List Ds} (h:DescsAt (some B) w A n es) (hk:Above B w w'):DescsAt (some B) w' A n es:=
 ⟨h.1, fun hn => by
  obtain⟨g,off,hA,hg,hm,hc⟩:=h.2 hn;have t:=fun(k:Nat)=>hk.cell (k:=k) (hm B rfl).1 hg
  exact⟨g,off,hA,Nat.lt_of_lt_of_le hg hk.size,hm.above hk,fun j e he=>⟨(t _).trans (hc j e he).1,(t _).trans (hc j e he).2.1,(t _).trans (hc j e he).2.2⟩⟩⟩
theorem IntsAt.above {B:Nat} {w w':World} {A:Option Addr} {n:Nat} {es:List Int} (h:IntsAt (some B) w A n es) (hk:Above B w w'):IntsAt (some B) w' A n es:=
 ⟨h.1, fun hn => by
  obtain⟨g,off,hA,hg,hm,hc⟩:=h.2 hn;exact⟨g,off,hA,Nat.lt_of_lt_of_le hg hk.size,hm.above hk,fun j e he=>(hk.cell (hm B rfl).1 hg).trans (hc j e he)⟩⟩
theorem NmsAt.above {B:Nat} {w w':World} {A:Option Addr} {n:Nat} {es:List ByteArray} (h:NmsAt (some B) w A n es) (hk:Above B w w'):NmsAt (some B) w' A n es:=
 ⟨h.1, fun hn => by
  obtain⟨g,off,hA,hg,hm,hc⟩:=h.2 hn;exact⟨g,off,hA,Nat.lt_of_lt_of_le hg hk.size,hm.above hk,fun j e he=>(hk.cell (hm B rfl).1 hg).trans (hc j e he)⟩⟩
theorem InosAt.above {B:Nat} {w w':World} {A:Option Addr} {n:Nat} {is:List Ino} (h:InosAt (some B) w A n is) (hk:Above B w w'):InosAt (some B) w' A n is:=
 ⟨h.1, fun hn => by
  obtain⟨g,off,hA,hg,hm,hc⟩:=h.2 hn;have t:=fun(k:Nat)=>hk.cell (k:=k) (hm B rfl).1 hg
  refine⟨g,off,hA,Nat.lt_of_lt_of_le hg hk.size,hm.above hk,fun j x hx=>?_⟩;obtain⟨h0,h1,⟨E,m,c,h2,h3,h4⟩,h5⟩:=hc j x hx;exact⟨(t _).trans h0,(t _).trans h1,⟨E,m,c,(t _).trans h2,h3,h4.above hk⟩,(t _).trans h5⟩⟩
theorem StAt.above {B:Nat} {w w':World} {v:Value} {s:St} (h:StAt (some B) w v s) (hk:Above B w w'):StAt (some B) w' v s:=by
 obtain⟨⟨A,n,c,E,m,d,D,k,e,rfl,hI,hD,hM,h5,h6,h7⟩,hz⟩:=h;exact⟨⟨A,n,c,E,m,d,D,k,e,rfl,hI.above hk,hD.above hk,hM.above hk,h5,h6,h7⟩,hz⟩
theorem Mine.unfrozen {lo:Nat} {t:TypeId} {w:World} {g:Nat} (h:Mine (some lo) t w g) (k:Nat):w.frozen? ⟨g,k,none⟩=false:=by
 obtain⟨_,cur,hc⟩:=h lo rfl;exact frozen_of_row w g k _ _ hc
theorem SpAt.of_ints {lo:Nat} {w:World} {A:Option Addr} {n:Nat} {xs:List Int} (h:IntsAt (some lo) w A n xs):SpAt lo w.heap.size w A n 1 0:=fun hn=>by
 obtain⟨g,off,hA,hg,hm,hc⟩:=h.2 hn;exact⟨g,off,hA,(hm lo rfl).1,hg,hg,fun j hj=>⟨⟨_,by rw[Nat.mul_one];exact hc j _ (List.getElem?_eq_getElem (show j<xs.length by rw[h.1];exact hj))⟩,hm.unfrozen _⟩⟩
theorem SpAt.of_descs {lo:Nat} {w:World} {A:Option Addr} {n:Nat} {xs:List Ds} (h:DescsAt (some lo) w A n xs):SpAt lo w.heap.size w A n 3 2:=fun hn=>by
 obtain⟨g,off,hA,hg,hm,hc⟩:=h.2 hn;exact⟨g,off,hA,(hm lo rfl).1,hg,hg,fun j hj=>⟨⟨_,(hc j _ (List.getElem?_eq_getElem (show j<xs.length by rw[h.1];exact hj))).2.2⟩,hm.unfrozen _⟩⟩
theorem SpAt.of_ents {lo:Nat} {w:World} {A:Option Addr} {n:Nat} {xs:List En} (h:EntsAt (some lo) w A n xs):SpAt lo w.heap.size w A n 2 1:=fun hn=>by
 obtain⟨g,off,hA,hg,hm,hc⟩:=h.2 hn;exact⟨g,off,hA,(hm lo rfl).1,hg,hg,fun j hj=>⟨⟨_,(hc j _ (List.getElem?_eq_getElem (show j<xs.length by rw[h.1];exact hj))).2⟩,hm.unfrozen _⟩⟩
set_option maxRecDepth 100000 in
set_option maxHeartbeats 4000000 in
theorem z9q (lo:Nat) (v:Value) (s:St) (w0 w:World) (h:StAt (some lo) w0 v s) (hb:Below w0.heap.size w0 w) (hlo:lo≤w0.heap.size):
  Calls Tryz.prog 14 #[v] w fun e w'=>e=.returned (.tuple #[])∧Turned lo w0.heap.size w w':=by
 obtain⟨⟨A,n,c,B,m,d,D,k,e,rfl,hI,hD,hM,h5,h6,h7⟩,hz⟩:=h;have hbig:=hz.big;have hn2:n≤1099511627776:=by have:=hI.1;omega
 have hm2:m≤1099511627776:=by have:=hD.1;omega
 have hk2:k≤1099511627776:=by have:=hM.1;omega
 obtain⟨W,hW,b0,b1,b2,hal,hlt0⟩:=z1f w A n c B m d D k e;have hws:=hb.size;have ht0:Turned lo w0.heap.size w0 w:=Turned.of_below hb hlo;have ht1:Turned lo w0.heap.size w W:=Turned.of_below hal (by omega);have HT:=hid (ht0.trans ht1);have HT1:=hid ht1;have HSD:=hid (SpAt.of_descs hD);have HSM:=hid (SpAt.of_ints hM);have HI:=hid hI;have HZ:=hid hz;clear hI hD hM hz h5 h6 h7 hb ht0 ht1 hal hbig
 go_enter Tryz.func14,Tryz.ntmps14
 go_wp2_with fail;refine(z9p lo w0.heap.size B m d W (HSD.out.turned HT.out) hm2).mono ?_;rintro e1 w1 ⟨rfl,t1⟩;have HT2:=hid (HT.out.trans t1);have HTa:=hid (HT1.out.trans t1);have y0:=(t1.above.cell (g:=w.heap.size) (k:=0) (by omega) (by omega)).trans b0;have y2:=(t1.above.cell (g:=w.heap.size) (k:=2) (by omega) (by omega)).trans b2;have hz1:=t1.bel.size;clear t1 b0 b1 b2;go_wp2_with fail;refine(zaz lo w0.heap.size D k e w1 (HSM.out.turned HT2.out) hk2).mono ?_;rintro e2 w2 ⟨rfl,t2⟩;have HT3:=hid (HT2.out.trans t2);have HTb:=hid (HTa.out.trans t2);have x0:=(t2.above.cell (g:=w.heap.size) (k:=0) (by omega) (by omega)).trans y0;have hz2:=t2.bel.size;have hws2:w.heap.size<w2.heap.size:=by omega
 clear t2 y0 y2;go_wp2_with fail
 go_loopw [2] (fun i wr=>∃q:Nat,i=.int .i64 q∧q≤n∧Turned lo w0.heap.size w2 wr) (fun i _=>n-(intOf i).toNat)
 case atStart=>exact⟨0,rfl,by omega,Turned.refl _ _ _⟩
 case round=>
  obtain⟨q,rfl,hq,ht⟩:=hrel;have HTr:=hid ht;have z0:=(ht.above.cell (g:=w.heap.size) (k:=0) hws hws2).trans x0;have hzr:=ht.bel.size;clear ht
  by_cases hlt:q<n
  ·obtain⟨g,off,x,E3,m3,d3,rfl,hg,hx,hdr,hmem,c0,c1,c2,hmd,hE,c3⟩:=HI.out.get q hlt;have htt:=HT3.out.trans HTr.out;have e2':=htt.rest _ _ _ c2 (fun z hz=>by cases hz);have hle:=z0r hx;have hm3:m3≤1099511627776:=by have:=hE.1;have:=HZ.out.big;omega
   have HSE:=hid ((SpAt.of_ents hE).turned htt);have j0:(0:Int)≤(q:Int):=by omega
   have j1:(q:Int)<(n:Int):=by omega
   have hgl:lo≤g∧w0.frozen? ⟨g,off+q*4,none⟩=false:=by
    obtain⟨g',off',hA',_,hmi,_⟩:=HI.out.2 (by omega);injection hA' with hA'
    injection hA' with e1 e2
    subst e1;exact⟨(hmi lo rfl).1,hmi.unfrozen _⟩
   have HC0:=hid c0;clear hx hdr hmem c1 c2 c3 hmd hE hle htt;go_wp2_with fail;refine(zb0 lo w0.heap.size E3 m3 d3 wr HSE.out hm3).mono ?_;rintro e3 w3 ⟨rfl,t3⟩;have ht4:=HTr.out.trans t3;obtain⟨z,hz⟩:=(HT3.out.trans ht4).ints _ _ _ HC0.out;have hf:=((HT3.out.trans ht4).froz g (off+q*4) hg).trans hgl.2;have v0:=(ht4.above.cell (g:=w.heap.size) (k:=0) hws hws2).trans x0;have HT4:=hid ht4;have HZC:=hid hz;have hne:g≠w.heap.size:=by omega
   clear t3 ht4 z0 e2';go_wp2_with fail;refine z0m 12 (by kernel_rfl) (by kernel_rfl) ?_;simp only[List.take_succ_cons,List.take_zero,List.drop_succ_cons,List.drop_zero]
   repeat (go_big_quiet_step (fail))
   refine wpQuiet_nil ?_;go_wp2_with fail;refine⟨⟨q+1,by go_num,by omega,HT4.out.trans ((Turned.set HZC.out hgl.1 hg).trans (Turned.of_below (Below.drew (Below.refl _ _)) (by have:=HT4.out.bel.size;simp[World.setCell];omega)))⟩,by simp[intOf];omega⟩
  ·obtain rfl:q=n:=by omega
   have j1:decide ((q:Int)<(q:Int))=false:=by rw[decide_eq_false_iff_not];omega
   go_wp2_with fail
   (try simp only[Exit.inBlock,Exit.then])
   refine bodyPost_end (results_none rfl _ _ _) rfl ?_;exact⟨rfl,HTb.out.trans HTr.out⟩
def layV (l:List Value) (o:Nat) (vs:List Value):List Value:=l.take o++vs++l.drop (o+vs.length)
theorem z1t {l:List Value} {o:Nat} {vs:List Value} (h:o+vs.length≤l.length):(layV l o vs).length=l.length:=by
 unfold layV;rw[List.length_append,List.length_append,List.length_take,List.length_drop];omega
theorem z4a {l:List Value} {o:Nat} {vs:List Value} (h:o≤l.length):(layV l o vs).take (o+vs.length)=l.take o++vs:=by
 unfold layV;rw[List.append_assoc,←List.append_assoc,List.take_left'];rw[List.length_append,List.length_take];omega
theorem zb1 {l A x D:List Value} {p:Nat} (hA:l.take p=A) (hp:p+x.length+D.length≤l.length):(layV (layV l p x) (p+x.length) D).take (p+x.length+D.length)=A++x++D:=by
 have h1:=z1t (l:=l) (o:=p) (vs:=x) (by omega);rw[z4a (by omega),z4a (by omega),hA]
theorem z8q {l A x D:List Value} {p:Nat} (hA:l.take p=A) (hp:p+x.length+D.length≤l.length):(layV (layV l (p+x.length) D) p x).take (p+x.length+D.length)=A++x++D:=by
 have h1:=z1t (l:=l) (o:=p+x.length) (vs:=D) (by omega);obtain⟨M,hM⟩:∃M,layV l (p+x.length) D=M:=⟨_,rfl⟩
 have t1:M.take p=A:=by
  rw[←hM,layV,List.append_assoc,List.take_append_of_le_length (by rw[List.length_take];omega),List.take_take,Nat.min_eq_left (by omega),hA]
 have t2:(M.drop (p+x.length)).take D.length=D:=by
  rw[←hM,layV,List.append_assoc,List.drop_left' (by rw[List.length_take];omega),List.take_left]
 rw[hM] at h1 ⊢;have hl:A.length=p:=by rw[←hA,List.length_take];omega
 rw[layV,t1,List.take_append,List.take_of_length_le (by rw[List.length_append];omega),List.length_append,hl,Nat.add_sub_cancel_left,t2]
theorem z0v {cur:Array Value} {o:Nat} {vs:List Value} (h:o+vs.length≤cur.size):(layV cur.toList o vs).toArray.size=cur.size:=by
 rw[List.size_toArray,z1t (by rw[Array.length_toList];exact h),Array.length_toList]
theorem z5e {l:List Value} {o:Nat} {vs:List Value} (h:o≤l.length):(layV l o vs).take o=l.take o:=by
 unfold layV;rw[List.append_assoc];exact List.take_left' (by rw[List.length_take];omega)
theorem z1u {P:Program} {ops:Array Oper} {o:Oper} {a:Act} {w:World} {K:Act→World→Prop} {Q:Exit→Act→World→Prop} {E:Prop}
  (hg:o.guard=none) (s x:Operand) (t:TypeId) (hop:o.op=Op.call { callee:=Callee.builtin Builtin.append,args:=#[s,x],argTypes:=#[t,t] })
  (v u:Value) (hs:a.eval s=v) (hx:a.eval x=u) {v':Value} {w':World} (hr:(Builtin.append_ #[t,t] o.type #[v,u]).run P w=.ok v' w') (hK:K (a.put o.dst v') w'):
  if Region.wanted o (yielded ops a.tmps)=true then Oper.wp P o a w K Q else E:=by
 have hw:Region.wanted o (yielded ops a.tmps)=true:=by simp[Region.wanted,hg]
 rw[if_pos hw];unfold Oper.wp;simp[execOp,hop,resolve,invoke,builtin,hs,hx,hr,Result.andThen];exact hK
theorem z0n {P:Program} (w:World) (dT sT ty elem:TypeId) (k g o dLen dCap:Nat) (a:Addr) (sLen sCap:Nat) (cur:Array Value) (t:TypeId) (cs:List Value)
  (hu:P.underlying dT=some (.slice elem)) (hs:(P.info? elem).map (·.size)=some k)
  (hg:w.heap[g]? =some (.cells cur t (0,0))) (hn:cs.length=Nat.min sLen dLen*k)
  (hsrc:∀j v,cs[j]? =some v→w.cell? (a.add j)=some v) (hfit:o+cs.length≤cur.size) (h1:∀v∈cs,v.oneCell'=true):
  (Builtin.copy_ #[dT,sT] ty #[.slice (some ⟨g,o,none⟩) dLen dCap,.slice (some a) sLen sCap]).run P w=.ok (goInt (Nat.min sLen dLen)) (w.setRow g (layV cur.toList o cs).toArray):=by
 have hl:=run_firstCells_some (P:=P) w k (Nat.min sLen dLen) a sLen sCap cs hn hsrc;have hst:=run_storeCells_at P g o t cs 0 cur w hg (by simpa using hfit) h1;cases hq:P.info? elem with
 | none=>simp[hq] at hs
 | some i=>
  have hi:i.size=k:=by simpa [hq] using hs
  simp[Builtin.copy_,run_underlying hu,Builtin.lenOf,sizeOf,typeInfo,hq,hi,hl,hst,layV]
theorem zb2 (z:Array Value):(Builtin.zeroCells z 1).toList=z.toList:=by
 apply List.ext_getElem
 ·simp[Builtin.zeroCells]
 ·intro i h1 h2;have h3:i<z.size:=by simpa using h2
  simp[Builtin.zeroCells,Nat.mod_eq_of_lt h3,h3]
theorem z2s {P:Program} (w:World) (t e ty:TypeId) (z:Value) (zs:List Value) (ht:P.underlying t=some (.slice e)) (hv:∀w,(zeroValue e).run P w=.ok z w) (hz:z.cells.toList=zs) (g o c:Nat) (cur:Array Value) (te:TypeId)
  (hg:w.heap[g]? =some (.cells cur te (0,0))) (hfit:o+zs.length≤cur.size) (h1:∀v∈zs,v.oneCell'=true):
  (Builtin.clear_ #[t] ty #[.slice (some ⟨g,o,none⟩) 1 c]).run P w=.ok (.tuple #[]) (w.setRow g (layV cur.toList o zs).toArray):=by
 have hst:=run_storeCells_at P g o te zs 0 cur w hg (by simpa using hfit) h1;have hzc:(Builtin.zeroCells z.cells 1).toList=zs:=by rw[zb2,hz]
 simp[Builtin.clear_,run_underlying ht,hv,hzc,hst,layV]
theorem z0l {w:World} {g:Nat} {cur:Array Value} {t:TypeId} (hg:w.heap[g]? =some (.cells cur t (0,0))) (o:Nat) (cs:List Value) (h:∀j v,cs[j]? =some v→cur[o+j]? =some v):∀j v,cs[j]? =some v→w.cell? ((⟨g,o,none⟩:Addr).add j)=some v:=fun j v hj=>by
 rw[Addr.add_lit,cell_of_row w g _ _ _ (0,0) hg];exact h j v hj
theorem z1o {w:World} {g:Nat} {cur:Array Value}:w.grownBy (w.setRow g cur) (some g):=⟨rfl,rfl,rfl,by simp,fun k _ hk=>setRow_other w g k _ (fun e=>hk (by rw[e]))⟩
theorem z3m {w w':World} {r:Option Nat} (h:w.drew.grownBy w' r):w.grownBy w' r:=⟨h.os,h.tape,h.output,h.size,h.block⟩
theorem zdd {a b:World} {r:Option Nat} (h:Below a.heap.size a b):a.grownBy b r:=⟨h.os,h.tape,h.output,h.size,fun i hi _=>h.block i hi⟩
theorem zek {B:Nat} {a b:World} {r:Option Nat} (h:a.grownBy b r) (hB:B≤a.heap.size) (hr:∀k,r=some k→B≤k):Below B a b:=⟨h.os,h.tape,h.output,h.size,fun k hk=>h.block k (by omega) (fun e=>by have:=hr k e.symm;omega)⟩
def RowAt (B:Nat) (w:World) (e:TypeId) (k:Nat) (v:Value) (n:Nat) (xs:List Value):Prop:=
 xs.length=n*k∧((∃A,v=.slice A 0 0∧n=0)∨∃g cap cur,v=.slice (some ⟨g,0,none⟩) n cap∧0<cap∧B≤g∧w.heap[g]? =some (.cells cur e (0,0))∧n≤cap∧cap≤maxLen∧cur.size=cap*k∧cur.toList.take (n*k)=xs)
def rowBlk:Value→Option Nat
 | .slice (some a) _ c=>if c=0 then none else some a.block
 | _=>none
theorem RowAt.of_own {B:Nat} {w:World} {e:TypeId} {k:Nat} {v:Value} {n:Nat} {xs:List Value} (h:w.ownsRow B e k v n xs):RowAt B w e k v n xs:=by
 refine⟨h.1,?_⟩
 rcases h.2 with⟨rfl,rfl⟩|⟨g,cap,cur,rfl,hb,hg,hnc,hcm,hcs,ht⟩
 ·exact .inl ⟨none,rfl,rfl⟩
 ·by_cases h0:cap=0
  ·subst h0;have:n=0:=by omega
   subst this;exact .inl ⟨_,rfl,rfl⟩
  ·exact .inr ⟨g,cap,cur,rfl,by omega,hb,hg,hnc,hcm,hcs,ht⟩
theorem RowAt.blk {B:Nat} {w:World} {e:TypeId} {k:Nat} {v:Value} {n:Nat} {xs:List Value} (h:RowAt B w e k v n xs):∀b,rowBlk v=some b→B≤b∧b<w.heap.size∧∃cur,w.heap[b]? =some (.cells cur e (0,0)):=by
 intro b hb
 rcases h.2 with⟨A,rfl,_⟩|⟨g,cap,cur,rfl,hc,hB,hg,_⟩
 ·cases A<;>simp[rowBlk] at hb
 ·have:g=b:=by simpa [rowBlk,Nat.ne_of_gt hc] using hb
  subst this;exact⟨hB,(Array.getElem?_eq_some_iff.1 hg).1,cur,hg⟩
theorem RowAt.kept {B:Nat} {w w':World} {e:TypeId} {k:Nat} {v:Value} {n:Nat} {xs:List Value} {r:Option Nat} (h:RowAt B w e k v n xs) (hg:w.grownBy w' r) (hr:∀b,rowBlk v=some b→r≠some b):RowAt B w' e k v n xs:=by
 refine⟨h.1,?_⟩
 rcases h.2 with h0|⟨g,cap,cur,rfl,hc,hB,hgg,rest⟩
 ·exact .inl h0
 ·refine .inr ⟨g,cap,cur,rfl,hc,hB,?_,rest⟩;rw[hg.block g (Array.getElem?_eq_some_iff.1 hgg).1 (fun e=>hr g (by simp[rowBlk,Nat.ne_of_gt hc]) e.symm)];exact hgg
theorem RowAt.cellsOf {B:Nat} {w:World} {e:TypeId} {k:Nat} {g n cap:Nat} {xs:List Value} (h:RowAt B w e k (.slice (some ⟨g,0,none⟩) n cap) n xs):∀j u,xs[j]? =some u→w.cell? ((⟨g,0,none⟩:Addr).add j)=some u:=by
 rcases h.2 with⟨A,hA,h0⟩|⟨g',cap',cur,hv,hc,hB,hg,hn,hm,hs,ht⟩
 ·have:xs=[]:=List.length_eq_zero_iff.1 (by rw[h.1,h0,Nat.zero_mul]);rw[this];intro j u hj;simp at hj
 ·injection hv with e1 e2 e3
  injection e1 with e1
  injection e1 with e1
  subst e1 e3;refine z0l hg 0 xs (fun j u hj=>?_);rw[←ht,List.getElem?_take] at hj
  split at hj
  ·rw[Nat.zero_add];simpa using hj
  ·cases hj
theorem zde {P:Program} {B:Nat} {w:World} {e:TypeId} {k:Nat} {v:Value} {n:Nat} {xs:List Value} (h:RowAt B w e k v n xs) (hB:B≤w.heap.size) (t:TypeId) (ht:P.underlying t=some (.slice e)) (i:TypeInfo) (hi:P.info? e=some i) (z:Value) (hz:i.zero=some z) (hk:i.size=k) (hzk:z.cells.size=k)
  (hbytes:(n+1)*i.bytes≤140737488355328) (hn:n+1≤140737488355328) (a:Addr) (x:List Value) (hxl:x.length=k) (hx:∀j u,x[j]? =some u→w.cell? (a.add j)=some u) (h1x:∀u∈x,u.oneCell'=true) (c1:Nat):
  ∃v' w',(∀ty,(Builtin.append_ #[t,t] ty #[v,.slice (some a) 1 c1]).run P w=.ok v' w')∧RowAt B w' e k v' (n+1) (xs++x)∧w.grownBy w' (rowBlk v)∧(rowBlk v'=rowBlk v∨∃b,rowBlk v'=some b∧w.heap.size≤b):=by
 have hlen:(xs++x).length=(n+1)*k:=by rw[List.length_append,h.1,hxl,Nat.add_mul,Nat.one_mul]
 have hmx:(140737488355328:Nat)≤maxLen:=by unfold maxLen;omega
 have grow:∀(base:Option Addr) (c:Nat),(Builtin.firstCells i.size n (.slice base n c)).run P w.drew=.ok xs.toArray w.drew→c<n+1→∃v' w',(∀ty,(Builtin.append_ #[t,t] ty #[.slice base n c,.slice (some a) 1 c1]).run P w=.ok v' w')∧RowAt B w' e k v' (n+1) (xs++x)∧w.grownBy w' none∧∃b,rowBlk v'=some b∧w.heap.size≤b:=by
  intro base c hold hc;have hsrc:Src P i.size t (.slice (some a) 1 c1) 1 x w:=Src.ofSlice w ht a 1 c1 x (by rw[hxl,hk,Nat.one_mul]) hx h1x;have hG:=grownCap_ge w (n+1) c e;have hGm:grownCap w (n+1) c e≤maxLen:=grownCap_le_maxLen w (n+1) c e (by omega);refine⟨.slice (some ⟨w.heap.size,0,none⟩) (n+1) (grownCap w (n+1) c e),w.drew.alloc (.cells ((xs++x).toArray++Builtin.zeroCells z.cells (grownCap w (n+1) c e-(n+1))) e),fun ty=>run_append_grow_src w t t ty e i z ht hi hz base n c xs hold _ 1 x hsrc hc (by omega) (growslice_fits hc hbytes),⟨hlen,.inr ⟨w.heap.size,_,_,rfl,by omega,hB,Go.heap_alloc_new w.drew _,hG,hGm,?_,?_⟩⟩,⟨rfl,rfl,rfl,by simp,fun b hb _=>Go.heap_alloc_old w.drew _ hb⟩,w.heap.size,?_,Nat.le_refl _⟩
  ·rw[Array.size_append,List.size_toArray,size_zeroCells,hzk,hlen,←Nat.add_mul]
   congr 1
   omega
  ·rw[Array.toList_append,←hlen];exact List.take_left
  ·simp only[rowBlk];rw[if_neg (by omega)]
 rcases h.2 with⟨A,rfl,rfl⟩|⟨g,cap,cur,rfl,hc,hBg,hg,hnc,hcm,hcs,htk⟩
 ·have hx0:xs=[]:=List.length_eq_zero_iff.1 (by rw[h.1,Nat.zero_mul])
  obtain⟨v',w',h1,h2,h3,b,h4,h5⟩:=grow A 0 (by
   rw[hx0];cases A with
   | none=>exact run_firstCells_none w.drew _ 0 0 0
   | some b=>exact run_firstCells_some w.drew _ 0 b 0 0 [] (by simp) (by simp)) (by omega)
  exact⟨v',w',h1,h2,⟨h3.os,h3.tape,h3.output,h3.size,fun k hk _=>h3.block k hk (by simp)⟩,.inr ⟨b,h4,h5⟩⟩
 ·by_cases hroom:n+1≤cap
  ·have hfit:n*i.size+x.length≤cur.size:=by rw[hxl,hk,hcs,←Nat.succ_mul];exact Nat.mul_le_mul_right _ hroom
   have hr:=fun ty=>run_append_room (P:=P) w t ty e i ht hi g n cap cur hg a 1 c1 x (by rw[hxl,hk,Nat.one_mul]) hx h1x hroom hfit
   refine⟨_,_,hr,⟨hlen,.inr ⟨g,cap,_,rfl,hc,hBg,setRow_heap w g cur _ e _ hg,hroom,hcm,?_,?_⟩⟩,?_,.inl (by simp[rowBlk])⟩
   ·simp only[List.size_toArray,List.length_append,List.length_take,List.length_drop,Array.length_toList];omega
   ·rw[hk,htk,←hlen];exact List.take_left
   ·have hb:rowBlk (.slice (some ⟨g,0,none⟩) n cap)=some g:=by simp[rowBlk,Nat.ne_of_gt hc]
    rw[hb];exact z1o
  ·obtain⟨v',w',h1,h2,h3,b,h4,h5⟩:=grow (some ⟨g,0,none⟩) cap (run_firstCells_some w.drew _ n ⟨g,0,none⟩ n cap xs (by rw[h.1,hk]) (by simpa using h.cellsOf)) (by omega);exact⟨v',w',h1,h2,⟨h3.os,h3.tape,h3.output,h3.size,fun k hk _=>h3.block k hk (by simp)⟩,.inr ⟨b,h4,h5⟩⟩
theorem z4p {P:Program} {B:Nat} {w:World} {e:TypeId} {k:Nat} {v:Value} {n:Nat} {xs:List Value} (h:RowAt B w e k v n xs) (hB:B≤w.heap.size) (t:TypeId) (ht:P.underlying t=some (.slice e)) (i:TypeInfo) (hi:P.info? e=some i) (z:Value) (hz:i.zero=some z) (hk:i.size=k) (hzk:z.cells.size=k)
  (hbytes:(n+1)*i.bytes≤140737488355328) (hn:n+1≤1099511627776) (a:Addr) (x:List Value) (hxl:x.length=k) (hx:∀j u,x[j]? =some u→w.cell? (a.add j)=some u) (h1x:∀u∈x,u.oneCell'=true) (c1:Nat):
  ∃v' w',(∀ty,(Builtin.append_ #[t,t] ty #[v,.slice (some a) 1 c1]).run P w=.ok v' w')∧RowAt B w' e k v' (n+1) (xs++x)∧w.grownBy w' (rowBlk v)∧(rowBlk v'=rowBlk v∨∃b,rowBlk v'=some b∧w.heap.size≤b):=
 zde h hB t ht i hi z hz hk hzk hbytes (by omega) a x hxl hx h1x c1
def Lent (lo:Nat) (w:World) (e:TypeId) (k:Nat) (A:Option Addr) (n c:Nat) (xs ms:List Value):Prop:=
 ∃g cur,A=some ⟨g,0,none⟩∧lo≤g∧w.heap[g]? =some (.cells cur e (0,0))∧n+2≤c∧c≤maxLen∧cur.size=c*k∧xs.length=n*k∧cur.toList.take ((n+2)*k)=xs++ms
theorem Lent.below {lo:Nat} {w w':World} {e:TypeId} {k:Nat} {A:Option Addr} {n c:Nat} {xs ms:List Value} (h:Lent lo w e k A n c xs ms) (hb:Below w.heap.size w w'):Lent lo w' e k A n c xs ms:=by
 obtain⟨g,cur,h1,h2,h3,h4⟩:=h;exact⟨g,cur,h1,h2,(hb.block g (Array.getElem?_eq_some_iff.1 h3).1).trans h3,h4⟩
theorem Lent.keep {lo:Nat} {w w':World} {e:TypeId} {k:Nat} {A:Option Addr} {n c:Nat} {xs ms:List Value} (h:Lent lo w e k A n c xs ms) (hk:KeepT e w w'):Lent lo w' e k A n c xs ms:=by
 obtain⟨g,cur,h1,h2,h3,h4⟩:=h;exact⟨g,cur,h1,h2,(hk.same g cur h3).trans h3,h4⟩
theorem Lent.lower {lo lo':Nat} {w:World} {e:TypeId} {k:Nat} {A:Option Addr} {n c:Nat} {xs ms:List Value} (h:Lent lo w e k A n c xs ms) (hl:lo'≤lo):Lent lo' w e k A n c xs ms:=by
 obtain⟨g,cur,h1,h2,h4⟩:=h;exact⟨g,cur,h1,Nat.le_trans hl h2,h4⟩
theorem Lent.cell {lo:Nat} {w:World} {e:TypeId} {k:Nat} {A:Option Addr} {n c:Nat} {xs ms:List Value} (h:Lent lo w e k A n c xs ms):∃g,A=some ⟨g,0,none⟩∧g<w.heap.size∧∀j u,(xs++ms)[j]? =some u→w.cell? ⟨g,j,none⟩=some u:=by
 obtain⟨g,cur,h1,h2,h3,h4,h5,h6,h7,h8⟩:=h;refine⟨g,h1,(Array.getElem?_eq_some_iff.1 h3).1,fun j u hj=>?_⟩;rw[←h8,List.getElem?_take] at hj
 split at hj
 ·rw[cell_of_row w g j _ _ (0,0) h3]
  simpa using hj
 ·cases hj
theorem Lent.of_row {B:Nat} {w:World} {e:TypeId} {k:Nat} {v:Value} {n:Nat} {xs ms:List Value} (h:w.ownsRow B e k v (n+2) (xs++ms)) (hx:xs.length=n*k):∃g c,v=.slice (some ⟨g,0,none⟩) (n+2) c∧n+2≤c∧c≤maxLen∧Lent B w e k (some ⟨g,0,none⟩) n c xs ms:=by
 rcases h.2 with⟨_,h0⟩|⟨g,cap,cur,rfl,hb,hg,hn,hm,hs,ht⟩
 ·omega
 ·exact⟨g,cap,rfl,hn,hm,g,cur,rfl,hb,hg,hn,hm,hs,hx,ht⟩
theorem Lent.row {lo:Nat} {w:World} {e:TypeId} {k:Nat} {A:Option Addr} {n c:Nat} {xs ms:List Value} (h:Lent lo w e k A n c xs ms):w.ownsRow lo e k (.slice A n c) n xs:=by
 obtain⟨g,cur,rfl,h2,h3,h4,h5,h6,h7,h8⟩:=h;refine⟨h7,.inr ⟨g,c,cur,rfl,h2,h3,by omega,h5,h6,?_⟩⟩;have h9:=congrArg (List.take (n*k)) h8;rw[List.take_take,Nat.min_eq_left (Nat.mul_le_mul_right _ (by omega)),←h7,List.take_left] at h9;rw[←h7];exact h9
set_option maxRecDepth 100000 in
set_option maxHeartbeats 2000000 in
theorem zbu (A:Option Addr) (n c:Nat) (es:List En) (w:World) (h:EntsAt none w A n es) (hok:SlOk A n c) (hn:n≤1099511627776):
  Calls Tryz.prog 65 #[.slice A n c] w fun e w'=>∃v',e=.returned v'∧w'.ownsRow w.heap.size 73 2 v' n (es.flatMap enV)∧Below w.heap.size w w':=by
 have hal:Below w.heap.size w (w.alloc (.cells #[] 73)):=(Below.refl _ _).alloc (Nat.le_refl _) _;have HF:=hid ((h.below hal).flat hok);have HRE:=hid (z2f w w.heap.size 73 2 (Nat.le_refl _));have HAL:=hid hal;clear h hal
 go_enter Tryz.func65,Tryz.ntmps65
 go_wp2_with (at_builtin;refine z0h rfl _ _ 57 73 (.agg #[.string ⟨#[]⟩,.int .i64 0]) 2 24 rfl Tryz.underlying57 z3s rfl (by decide) w.heap.size _ 0 [] rfl HRE.out A n c (es.flatMap enV) rfl HF.out.1 HF.out.2.1 HF.out.2.2 (zd5 _) ?h63 ?hb ?hB ?_)
 case h63=>unfold maxLen;omega
 case hb=>omega
 case hB=>simp
 intro v' w' hown hgr;have hb':Below w.heap.size w w':=HAL.out.grown hgr (by simp) (fun k hk=>by simp[Value.ownBlock] at hk;omega);have HO:Hid (w'.ownsRow w.heap.size 73 2 v' n (es.flatMap enV)):=hid (by simpa using hown);have HB:=hid hb';clear hown hgr hb';go_wp2_with fail;go_ret;exact⟨_,rfl,HO.out,HB.out⟩
set_option maxRecDepth 100000 in
set_option maxHeartbeats 2000000 in
theorem zbv (A:Option Addr) (n c:Nat) (es:List En) (w:World) (h:EntsAt none w A n es) (hok:SlOk A n c) (hn:n≤1099511627776):
  Calls Tryz.prog 27 #[.slice A n c] w fun e w'=>∃g c',e=.returned (.slice (some ⟨g,0,none⟩) n c')∧Lent w.heap.size w' 73 2 (some ⟨g,0,none⟩) n c' (es.flatMap enV) [.string ⟨#[126]⟩,.int .i64 0,.string ⟨#[126]⟩,.int .i64 0]∧Below w.heap.size w w':=by
 have hfl:=(h.flat hok).1;have HFL:=hid hfl
 go_enter Tryz.func27,Tryz.ntmps27
 go_wp2_with fail;refine(zbu A n c es w h hok hn).mono ?_;rintro e1 w1 ⟨v1,rfl,hown1,hb1⟩;obtain⟨ii,hi,hz0,hz1,hz2⟩:=info_parts z3s;have HR:=hid hown1;have HB1:=hid hb1;have hs1:=hb1.size;clear h hok hown1 hb1 hfl;go_wp2_with (at_builtin;refine wpList_append_own _ rfl _ _ 57 rfl w.heap.size 73 ii (.agg #[.string ⟨#[]⟩,.int .i64 0]) 2 24 Tryz.underlying57 hi hz0 hz1 hz2 rfl (by decide) _ n _ rfl (HR.out.alloc _) ⟨w1.heap.size,0,.none⟩ 2 2 [.string ⟨#[126]⟩,.int .i64 0,.string ⟨#[126]⟩,.int .i64 0] rfl rfl (z0w w1 [.string ⟨#[126]⟩,.int .i64 0,.string ⟨#[126]⟩,.int .i64 0] _) ?ca2 ?ca3 ?ca4 ?ca5 ?_)
 case ca2=>intro u hu;simp at hu;rcases hu with rfl|rfl|rfl|rfl<;>rfl
 case ca3=>unfold maxLen;omega
 case ca4=>omega
 case ca5=>first|omega|(simp;omega)
 intro v2 w2 hown2 hgr2 _;obtain⟨g,cap,rfl,hnc,hcm,hlent⟩:=Lent.of_row hown2 HFL.out;have hb2:Below w.heap.size w w2:=(HB1.out.alloc hs1 _).grown hgr2 (by simp;omega) (fun k hk=>(HR.out.lt k hk).1);have HL:=hid hlent;have HB2:=hid hb2;have hncI:(n:Int)≤(cap:Int):=by omega
 have hnc2:n≤cap:=by omega
 clear hown2 hgr2 hlent hb2;go_wp2_with fail;go_ret;exact⟨g,cap,rfl,HL.out,HB2.out⟩
set_option maxRecDepth 100000 in
set_option maxHeartbeats 2000000 in
theorem zb3 (A:Option Addr) (n c:Nat) (es:List Ds) (w:World) (h:DescsAt none w A n es) (hok:SlOk A n c) (hn:n≤1099511627776):
  Calls Tryz.prog 63 #[.slice A n c] w fun e w'=>∃v',e=.returned v'∧w'.ownsRow w.heap.size 75 3 v' n (es.flatMap dsV)∧Below w.heap.size w w':=by
 have hal:Below w.heap.size w (w.alloc (.cells #[] 75)):=(Below.refl _ _).alloc (Nat.le_refl _) _;have HF:=hid ((h.below hal).flat hok);have HRE:=hid (z2f w w.heap.size 75 3 (Nat.le_refl _));have HAL:=hid hal;clear h hal
 go_enter Tryz.func63,Tryz.ntmps63
 go_wp2_with (at_builtin;refine z0h rfl _ _ 23 75 (.agg #[.int .i64 0,.int .i64 0,.int .i64 0]) 3 24 rfl Tryz.underlying23 z4u rfl (by decide) w.heap.size _ 0 [] rfl HRE.out A n c (es.flatMap dsV) rfl HF.out.1 HF.out.2.1 HF.out.2.2 (zd6 _) ?h63 ?hb ?hB ?_)
 case h63=>unfold maxLen;omega
 case hb=>omega
 case hB=>simp
 intro v' w' hown hgr;have hb':Below w.heap.size w w':=HAL.out.grown hgr (by simp) (fun k hk=>by simp[Value.ownBlock] at hk;omega);have HO:Hid (w'.ownsRow w.heap.size 75 3 v' n (es.flatMap dsV)):=hid (by simpa using hown);have HB:=hid hb';clear hown hgr hb';go_wp2_with fail;go_ret;exact⟨_,rfl,HO.out,HB.out⟩
set_option maxRecDepth 100000 in
set_option maxHeartbeats 2000000 in
theorem zb4 (A:Option Addr) (n c:Nat) (es:List Ds) (w:World) (h:DescsAt none w A n es) (hok:SlOk A n c) (hn:n≤1099511627776):
  Calls Tryz.prog 25 #[.slice A n c] w fun e w'=>∃g c',e=.returned (.slice (some ⟨g,0,none⟩) n c')∧Lent w.heap.size w' 75 3 (some ⟨g,0,none⟩) n c' (es.flatMap dsV) [.int .i64 77777,.int .i64 0,.int .i64 0,.int .i64 77777,.int .i64 0,.int .i64 0]∧Below w.heap.size w w':=by
 have hfl:=(h.flat hok).1;have HFL:=hid hfl
 go_enter Tryz.func25,Tryz.ntmps25
 go_wp2_with fail;refine(zb3 A n c es w h hok hn).mono ?_;rintro e1 w1 ⟨v1,rfl,hown1,hb1⟩;obtain⟨ii,hi,hz0,hz1,hz2⟩:=info_parts z4u;have HR:=hid hown1;have HB1:=hid hb1;have hs1:=hb1.size;clear h hok hown1 hb1 hfl;go_wp2_with (at_builtin;refine wpList_append_own _ rfl _ _ 23 rfl w.heap.size 75 ii (.agg #[.int .i64 0,.int .i64 0,.int .i64 0]) 3 24 Tryz.underlying23 hi hz0 hz1 hz2 rfl (by decide) _ n _ rfl (HR.out.alloc _) ⟨w1.heap.size,0,.none⟩ 2 2 [.int .i64 77777,.int .i64 0,.int .i64 0,.int .i64 77777,.int .i64 0,.int .i64 0] rfl rfl (z0w w1 [.int .i64 77777,.int .i64 0,.int .i64 0,.int .i64 77777,.int .i64 0,.int .i64 0] _) ?ca2 ?ca3 ?ca4 ?ca5 ?_)
 case ca2=>intro u hu;simp at hu;rcases hu with rfl|rfl|rfl|rfl|rfl|rfl<;>rfl
 case ca3=>unfold maxLen;omega
 case ca4=>omega
 case ca5=>first|omega|(simp;omega)
 intro v2 w2 hown2 hgr2 _;obtain⟨g,cap,rfl,hnc,hcm,hlent⟩:=Lent.of_row hown2 HFL.out;have hb2:Below w.heap.size w w2:=(HB1.out.alloc hs1 _).grown hgr2 (by simp;omega) (fun k hk=>(HR.out.lt k hk).1);have HL:=hid hlent;have HB2:=hid hb2;have hncI:(n:Int)≤(cap:Int):=by omega
 have hnc2:n≤cap:=by omega
 clear hown2 hgr2 hlent hb2;go_wp2_with fail;go_ret;exact⟨g,cap,rfl,HL.out,HB2.out⟩
set_option maxRecDepth 100000 in
set_option maxHeartbeats 2000000 in
theorem zbw (A:Option Addr) (n c:Nat) (es:List Int) (w:World) (h:IntsAt none w A n es) (hok:SlOk A n c) (hn:n≤1099511627776):
  Calls Tryz.prog 64 #[.slice A n c] w fun e w'=>∃v',e=.returned v'∧w'.ownsRow w.heap.size 3 1 v' n (es.map (Value.int .i64))∧Below w.heap.size w w':=by
 have hal:Below w.heap.size w (w.alloc (.cells #[] 3)):=(Below.refl _ _).alloc (Nat.le_refl _) _;have HF:=hid ((h.below hal).flat hok);have HRE:=hid (z2f w w.heap.size 3 1 (Nat.le_refl _));have HAL:=hid hal;clear h hal
 go_enter Tryz.func64,Tryz.ntmps64
 go_wp2_with (at_builtin;refine z0h rfl _ _ 24 3 (.int .i64 0) 1 8 rfl Tryz.underlying24 z3i rfl (by decide) w.heap.size _ 0 [] rfl HRE.out A n c (es.map (Value.int .i64)) rfl HF.out.1 HF.out.2.1 HF.out.2.2 (zea _) ?h63 ?hb ?hB ?_)
 case h63=>unfold maxLen;omega
 case hb=>omega
 case hB=>simp
 intro v' w' hown hgr;have hb':Below w.heap.size w w':=HAL.out.grown hgr (by simp) (fun k hk=>by simp[Value.ownBlock] at hk;omega);have HO:Hid (w'.ownsRow w.heap.size 3 1 v' n (es.map (Value.int .i64))):=hid (by simpa using hown);have HB:=hid hb';clear hown hgr hb';go_wp2_with fail;go_ret;exact⟨_,rfl,HO.out,HB.out⟩
set_option maxRecDepth 100000 in
set_option maxHeartbeats 2000000 in
theorem zbx (A:Option Addr) (n c:Nat) (es:List Int) (w:World) (h:IntsAt none w A n es) (hok:SlOk A n c) (hn:n≤1099511627776):
  Calls Tryz.prog 26 #[.slice A n c] w fun e w'=>∃g c',e=.returned (.slice (some ⟨g,0,none⟩) n c')∧Lent w.heap.size w' 3 1 (some ⟨g,0,none⟩) n c' (es.map (Value.int .i64)) [.int .i64 (-7777),.int .i64 (-8888)]∧Below w.heap.size w w':=by
 have hfl:=(h.flat hok).1;have HFL:=hid hfl
 go_enter Tryz.func26,Tryz.ntmps26
 go_wp2_with fail;refine(zbw A n c es w h hok hn).mono ?_;rintro e1 w1 ⟨v1,rfl,hown1,hb1⟩;obtain⟨ii,hi,hz0,hz1,hz2⟩:=info_parts z3i;have HR:=hid hown1;have HB1:=hid hb1;have hs1:=hb1.size;clear h hok hown1 hb1 hfl;go_wp2_with (at_builtin;refine wpList_append_own _ rfl _ _ 24 rfl w.heap.size 3 ii (.int .i64 0) 1 8 Tryz.underlying24 hi hz0 hz1 hz2 rfl (by decide) _ n _ rfl (HR.out.alloc _) ⟨w1.heap.size,0,.none⟩ 2 2 [.int .i64 (-7777),.int .i64 (-8888)] rfl rfl (z0w w1 [.int .i64 (-7777),.int .i64 (-8888)] _) ?ca2 ?ca3 ?ca4 ?ca5 ?_)
 case ca2=>intro u hu;simp at hu;rcases hu with rfl|rfl<;>rfl
 case ca3=>unfold maxLen;omega
 case ca4=>omega
 case ca5=>first|omega|(simp;omega)
 intro v2 w2 hown2 hgr2 _;obtain⟨g,cap,rfl,hnc,hcm,hlent⟩:=Lent.of_row hown2 HFL.out;have hb2:Below w.heap.size w w2:=(HB1.out.alloc hs1 _).grown hgr2 (by simp;omega) (fun k hk=>(HR.out.lt k hk).1);have HL:=hid hlent;have HB2:=hid hb2;have hncI:(n:Int)≤(cap:Int):=by omega
 have hnc2:n≤cap:=by omega
 clear hown2 hgr2 hlent hb2;go_wp2_with fail;go_ret;exact⟨g,cap,rfl,HL.out,HB2.out⟩
end Go.Proofs.YtmmpkfcdfcldlaaGreat
