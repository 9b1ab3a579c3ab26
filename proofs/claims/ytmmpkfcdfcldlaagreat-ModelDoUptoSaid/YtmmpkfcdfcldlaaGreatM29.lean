/- Parts of the proof, side by side: MoWalk, MoOwn, MoOwn2, MoThrow. -/
import Derived.Test.YtmmpkfcdfcldlaaGreatM16
import Derived.Test.YtmmpkfcdfcldlaaGreatM28
import Derived.Test.YtmmpkfcdfcldlaaGreatM04
import Derived.Test.YtmmpkfcdfcldlaaGreatM13
import Derived.Test.YtmmpkfcdfcldlaaGreatM03
import Derived.Test.YtmmpkfcdfcldlaaGreatM00
import Derived.WalkLawsBesides
import Derived.Handy
set_option linter.unusedVariables false
set_option linter.unusedSimpArgs false
namespace Go.Proofs.YtmmpkfcdfcldlaaGreat
open Lib (hid)
open Go.RowKit
def placeG (is:List Ino) (r:Int×Int):Int:=if r.2=0 then atV is r.1 else 0
set_option maxRecDepth 100000 in
set_option maxHeartbeats 8000000 in
theorem z5x (p:Nat) (s:St) (T:Option Addr) (m3 d3:Nat) (names:List (List UInt8)) (w:World) (h:PtrAt w p s) (hg:Good s) (hnm:NmAt w T m3 names) (hm3:m3≤65536):
  Calls Tryz.prog 59 #[.pointer (some ⟨p,0,.none⟩),.slice T m3 d3] w fun e w'=>e=.returned (.tuple #[.int .i64 (placeG s.inos (walkG s.inos names 1)),.int .i64 (walkG s.inos names 1).2])∧Below w.heap.size w w'∧((walkG s.inos names 1).2=0→∃(i:Nat) (x:Ino),placeG s.inos (walkG s.inos names 1)=(i:Int)∧s.inos[i]? =some x∧x.num=(walkG s.inos names 1).1):=by
 obtain⟨A,n,c,E,m,d,D,k,e,hp,c0,_,_,hI,_,_,hn,_,_⟩:=h.val;obtain⟨R,hR⟩:∃R,walkG s.inos names 1=R:=⟨_,rfl⟩;rw[hR];obtain⟨r0,hr0,hr0n,hr0d⟩:=hg.root;have HP:=hid h;have HI:=hid hI;have HNM:=hid hnm;have HR:=hid hR;have HG:=hid hg;have HC0:=hid c0;clear hI hR hnm hg h c0
 go_enter Tryz.func59,Tryz.ntmps59
 go_wp2_with fail
 go_loopw [6,13] (fun a j wr=>∃(q i:Nat) (x:Ino),a=.int .i64 i∧j=.int .i64 q∧q≤m3∧Below w.heap.size w wr∧s.inos[i]? =some x∧walkG s.inos (names.drop q) x.num=R) (fun _ j _=>m3-(intOf j).toNat)
 case atStart=>exact⟨0,0,r0,rfl,rfl,by omega,Below.refl _ _,hr0,by rw[hr0n];exact HR.out⟩
 case round=>
  obtain⟨q,i,x,rfl,rfl,hq,hbel,hx,hc⟩:=hrel;have z0:=(hbel.cell (p:=⟨p,0,.none⟩) hp).trans HC0.out;have HB:=hid hbel;have hpr:p<wr.heap.size:=Nat.lt_of_lt_of_le hp hbel.size;have HPr:=hid (HP.out.below hbel);have HIr:=hid (HI.out.below hbel);have HNr:=hid (HNM.out.below hbel);have HX:=hid hx;have hin:i<n:=by have:=(List.getElem?_eq_some_iff.1 hx).1;have:=HI.out.1;omega
  have hat:atV s.inos x.num=(i:Int):=HG.out.idx hx;have HAT0:=hid hat;clear hbel hx
  by_cases hlt:q<m3
  ·have hql:q<names.length:=by have:=HNM.out.1;omega
   have hd:=List.drop_eq_getElem_cons hql;rw[hd,walkG,hat,z0c,HX.out] at hc;simp only at hc;rw[z5m hat HX.out] at hc;have HC:=hid hc;obtain⟨g,off,x',E3,m2,d2,rfl,hg,hx',_,hmem,_,c1,c2,hmd,hE,_⟩:=HIr.out.get i hin;have ex:x=x':=by have:=HX.out;rw[hx'] at this;exact(Option.some.inj this).symm
   subst ex;obtain⟨gn,on,hA,hgn,hcn⟩:=HNr.out.2 (by omega);have n0:=hcn q hlt;subst hA;have q0:(0:Int)≤(q:Int):=by omega
   have q1:(q:Int)<(m3:Int):=by omega
   have i0':(0:Int)≤(i:Int):=by omega
   have i9:(i:Int)<(n:Int):=by omega
   obtain⟨NM,hNM⟩:∃NM,names.getD q []=NM:=⟨_,rfl⟩;have hNM2:names[q]=NM:=by rw[←hNM,List.getD_eq_getElem?_getD,List.getElem?_eq_getElem hql];rfl
   rw[hNM] at n0;have HNMq:=hid hNM2;have HE:=hid hE
   have hm2:m2≤1099511627776:=by
    have h1:=hE.1;have h2:=HG.out.ents_len hmem;omega
   have HMEM:=hid hmem;have HRE:=hid (HG.out.riseE hmem);clear hc hd hx' hE hmd hcn hNM hNM2 hmem hat;cases hdir:x.dir
   ·have hr:=HC.out;rw[if_pos hdir] at hr;have HR2:=hid hr;rw[hdir] at c1;clear hr hdir;go_wp2_with fail;go_ret2;refine⟨by rw[←HR2.out];rfl,HB.out,fun h0=>?_⟩;rw[←HR2.out] at h0;cases h0
   ·have hr:=HC.out;rw[if_neg (by rw[hdir];simp),HNMq.out] at hr;have HR2:=hid hr;rw[hdir] at c1;clear hr hdir;have hstr:strV NM=.string (txt NM):=rfl;rw[hstr] at n0;clear hstr;go_wp2_with fail;refine(z1x x.ents E3 m2 d2 (txt NM) _ HE.out hm2 HRE.out).mono ?_;rintro e5 w5 ⟨i5,b5,rfl,hb5,hpos⟩;have HB5:=hid (Cv.next HB.out hb5);have y0:=(hb5.cell (p:=⟨p,0,.none⟩) hpr).trans z0;have HP5:=hid (HPr.out.below hb5);obtain⟨g',off',x',E3',m2',d2',hgg,hg',hx',_,_,_,_,c2',_,hE5,_⟩:=(HIr.out.below hb5).get i hin;have ex:x=x':=by have:=HX.out;rw[hx'] at this;exact(Option.some.inj this).symm
    subst ex;injection hgg with hgg
    injection hgg with hgg1 hgg2
    subst hgg1 hgg2;have cc:=(hb5.cell (p:=⟨g,off+i*4+2,.none⟩) hg).trans c2;rw[cc] at c2';injection c2' with c2'
    injection c2' with e1 e2 e3
    subst e1 e2 e3;have HE5:=hid hE5
    rcases HG.out.entIs HMEM.out hpos with⟨rfl,hz⟩|⟨rfl,hz,en,hen,henn,_⟩
    ·have hr:=HR2.out;rw[if_pos hz] at hr;have HR3:=hid hr;clear hr hz hpos c2 c1 z0 n0 hb5 hx' hE5;go_wp2_with fail;go_ret2;refine⟨by rw[←HR3.out];rfl,HB5.out,fun h0=>?_⟩;rw[←HR3.out] at h0;cases h0
    ·have hr:=HR2.out;rw[if_neg hz] at hr;have hi5:i5<m2:=by have:=(List.getElem?_eq_some_iff.1 hen).1;have:=HE5.out.1;omega
     obtain⟨ge,oe,en',hEE,hge,hen',_,hem,f0,f1⟩:=HE5.out.get i5 hi5;have ex:en=en':=by rw[hen] at hen';exact Option.some.inj hen'
     subst ex;subst hEE;have j0:(0:Int)≤(i5:Int):=by omega
     have j1:(i5:Int)<(m2:Int):=by omega
     obtain⟨k6,x6,hat6,hx6,hxn6⟩:=z0q (HG.out.entNum HMEM.out hem).2;rw[←henn,←hxn6] at hr;have HR3:=hid hr;have HX6:=hid hx6;have HAT6:=hid hat6;clear hr hz hpos c2 c1 z0 n0 hb5 hx' hE5 hen hen' henn hx6 hat6 hem hxn6;go_wp2_with fail;refine(z1p p s en.num _ HP5.out HG.out.riseI).mono ?_;rintro e7 w7 ⟨rfl,hb7⟩;rw[HAT6.out];have HB7:=hid (Cv.next HB5.out hb7);clear hb7 f0 f1 y0;go_wp2_with fail;go_roundw
     case rel=>exact⟨q+1,k6,x6,rfl,by go_num,by omega,HB7.out,HX6.out,HR3.out⟩
     case measure=>simp[intOf];omega
  ·have hnil:names.drop q=[]:=List.drop_eq_nil_of_le (by have:=HNM.out.1;omega);rw[hnil,walkG] at hc;have HC:=hid hc;have q9:decide ((q:Int)<(m3:Int))=false:=by rw[decide_eq_false_iff_not];omega
   clear hc hnil;go_wp2_with fail;go_ret2;refine⟨by rw[←HC.out];show _=Ending.returned (.tuple #[.int .i64 (atV s.inos x.num),_]);rw[HAT0.out];rfl,HB.out,fun _=>⟨i,x,by rw[←HC.out];exact HAT0.out,HX.out,by rw[←HC.out]⟩⟩
theorem z0j {w:World} {a b:Nat} {c1 c2:Array Value} {t1 t2:TypeId} {f1 f2:Nat×Nat} (h1:w.heap[a]? =some (.cells c1 t1 f1)) (h2:w.heap[b]? =some (.cells c2 t2 f2)) (ht:t1≠t2):a≠b:=fun e=>by
 subst e;rw[h1] at h2;injection h2 with h2
 injection h2 with _ h2 _
 exact ht h2
theorem RowAt.slice {B:Nat} {w:World} {e:TypeId} {k:Nat} {v:Value} {n:Nat} {xs:List Value} (h:RowAt B w e k v n xs):∃A c,v=.slice A n c∧SlOk A n c:=by
 rcases h.2 with⟨A,rfl,rfl⟩|⟨g,cap,cur,rfl,hc,hB,hg,hn,hm,hs,ht⟩
 ·exact⟨A,0,rfl,Nat.le_refl _,fun _=>rfl⟩
 ·exact⟨_,cap,rfl,hn,fun e=>by cases e⟩
theorem RowAt.open_ {B:Nat} {w:World} {e:TypeId} {k:Nat} {v:Value} {n:Nat} {xs:List Value} (h:RowAt B w e k v n xs) (hn:0<n):∃g c cur,v=.slice (some ⟨g,0,none⟩) n c∧rowBlk v=some g∧B≤g∧g<w.heap.size∧w.heap[g]? =some (.cells cur e (0,0))∧n*k≤cur.size∧∀j u,xs[j]? =some u→w.cell? ⟨g,j,none⟩=some u:=by
 have h0:=h
 rcases h.2 with⟨A,rfl,rfl⟩|⟨g,cap,cur,rfl,hc,hB,hg,hnc,hm,hs,ht⟩
 ·omega
 ·refine⟨g,cap,cur,rfl,by simp[rowBlk,Nat.ne_of_gt hc],hB,(Array.getElem?_eq_some_iff.1 hg).1,hg,by rw[hs];exact Nat.mul_le_mul_right _ hnc,fun j u hj=>?_⟩;have:=h0.cellsOf j u hj
  rwa [Addr.add_lit,Nat.zero_add] at this
theorem RowAt.ents {B:Nat} {w:World} {v:Value} {n:Nat} {es:List En} (h:RowAt B w 73 2 v n (es.flatMap enV)):∃A c,v=.slice A n c∧SlOk A n c∧EntsAt none w A n es:=by
 obtain⟨A,c,hv,hok⟩:=h.slice
 have hl:es.length=n:=by
  have h1:=h.1;rw[z1a enV 2 (fun x=>rfl)] at h1;omega
 refine⟨A,c,hv,hok,hl,fun h0=>?_⟩;obtain⟨g,c',cur,hv',_,_,hlt,_,_,hc⟩:=h.open_ h0;rw[hv] at hv';injection hv' with e1 _ _
 refine⟨g,0,e1,hlt,Mine.any _ _ _,fun j e he=>?_⟩;have f:=z0z enV 2 (fun x=>rfl) es j e he;rw[Nat.zero_add];exact⟨hc _ _ (f 0 (by omega)),hc _ _ (f 1 (by omega))⟩
theorem RowAt.descs {B:Nat} {w:World} {v:Value} {n:Nat} {ds:List Ds} (h:RowAt B w 75 3 v n (ds.flatMap dsV)):∃A c,v=.slice A n c∧SlOk A n c∧DescsAt none w A n ds:=by
 obtain⟨A,c,hv,hok⟩:=h.slice
 have hl:ds.length=n:=by
  have h1:=h.1;rw[z1a dsV 3 (fun x=>rfl)] at h1;omega
 refine⟨A,c,hv,hok,hl,fun h0=>?_⟩;obtain⟨g,c',cur,hv',_,_,hlt,_,_,hc⟩:=h.open_ h0;rw[hv] at hv';injection hv' with e1 _ _
 refine⟨g,0,e1,hlt,Mine.any _ _ _,fun j e he=>?_⟩;have f:=z0z dsV 3 (fun x=>rfl) ds j e he;rw[Nat.zero_add];exact⟨hc _ _ (f 0 (by omega)),hc _ _ (f 1 (by omega)),hc _ _ (f 2 (by omega))⟩
def intV (x:Int):Value:=.int .i64 x
theorem RowAt.ints {B:Nat} {w:World} {v:Value} {n:Nat} {xs:List Int} (h:RowAt B w 3 1 v n (xs.map intV)):∃A c,v=.slice A n c∧SlOk A n c∧IntsAt none w A n xs:=by
 obtain⟨A,c,hv,hok⟩:=h.slice;have hl:xs.length=n:=by have h1:=h.1;simpa using h1
 refine⟨A,c,hv,hok,hl,fun h0=>?_⟩;obtain⟨g,c',cur,hv',_,_,hlt,_,_,hc⟩:=h.open_ h0;rw[hv] at hv';injection hv' with e1 _ _
 refine⟨g,0,e1,hlt,Mine.any _ _ _,fun j e he=>?_⟩;rw[Nat.zero_add];exact hc _ _ (by rw[List.getElem?_map,he];rfl)
def Apart (zs:List (Ino×Value)):Prop:=∀(i j:Nat) (a b:Ino×Value),i≠j→zs[i]? =some a→zs[j]? =some b→∀g,rowBlk a.2=some g→rowBlk b.2≠some g
structure Own2 (B:Nat) (w:World) (p:Nat) (s:St) (zs:List (Ino×Value)) (vI vO vM:Value):Prop where
 hp:B≤p
 cell:w.heap[p]? =some (.cells #[vI,vO,vM] 26 (0,0))
 inos:zs.map Prod.fst=s.inos
 rowI:RowAt B w 59 4 vI zs.length (zs.flatMap inoV)
 ents:∀z∈zs,RowAt B w 73 2 z.2 z.1.ents.length (z.1.ents.flatMap enV)
 apart:Apart zs
 rowO:RowAt B w 75 3 vO s.opn.length (s.opn.flatMap dsV)
 rowM:RowAt B w 3 1 vM s.made.length (s.made.map intV)
 sized:Sized s
theorem Own2.inosAt {B:Nat} {w:World} {p:Nat} {s:St} {zs:List (Ino×Value)} {vI vO vM:Value} (h:Own2 B w p s zs vI vO vM):∃A c,vI=.slice A s.inos.length c∧SlOk A s.inos.length c∧InosAt none w A s.inos.length s.inos:=by
 have hl:s.inos.length=zs.length:=by rw[←h.inos,List.length_map]
 obtain⟨A,c,hv,hok⟩:=h.rowI.slice;rw[←hl] at hv hok;refine⟨A,c,hv,hok,rfl,fun h0=>?_⟩;obtain⟨g,c',cur,hv',_,_,hlt,_,_,hc⟩:=h.rowI.open_ (by omega);rw[hv] at hv';injection hv' with e1 _ _
 refine⟨g,0,e1,hlt,Mine.any _ _ _,fun j x hx=>?_⟩;rw[←h.inos,List.getElem?_map] at hx;obtain⟨z,hz,rfl⟩:=Option.map_eq_some_iff.1 hx;have f:=z0z inoV 4 (fun x=>rfl) zs j z hz;obtain⟨E,m,he,hmd,hE⟩:=(h.ents z (List.mem_of_getElem? hz)).ents;rw[Nat.zero_add];refine⟨hc _ _ (f 0 (by omega)),hc _ _ (f 1 (by omega)),⟨E,z.1.ents.length,m,?_,hmd,hE⟩,hc _ _ (f 3 (by omega))⟩;rw[←he];exact hc _ _ (f 2 (by omega))
theorem Own2.ptr {B:Nat} {w:World} {p:Nat} {s:St} {zs:List (Ino×Value)} {vI vO vM:Value} (h:Own2 B w p s zs vI vO vM):PtrAt w p s:=by
 obtain⟨A,c,hA,hAo,hAI⟩:=h.inosAt;obtain⟨E,d,hE,hEo,hED⟩:=h.rowO.descs;obtain⟨M,k,hM,hMo,hMI⟩:=h.rowM.ints;refine⟨⟨A,_,c,E,_,d,M,_,k,?_,hAI,hED,hMI,hAo,hEo,hMo⟩,h.sized⟩;rw[←hA,←hE,←hM];exact h.cell
theorem Own2.below {B:Nat} {w w':World} {p:Nat} {s:St} {zs:List (Ino×Value)} {vI vO vM:Value} (h:Own2 B w p s zs vI vO vM) (hb:Below w.heap.size w w'):Own2 B w' p s zs vI vO vM:=by
 have hg:w.grownBy w' none:=zdd hb;have hn:∀(v:Value) (b:Nat),rowBlk v=some b→(none:Option Nat)≠some b:=fun v b _=>by simp
 exact⟨h.hp,(hb.block p (Array.getElem?_eq_some_iff.1 h.cell).1).trans h.cell,h.inos,h.rowI.kept hg (hn _),fun z hz=>(h.ents z hz).kept hg (hn _),h.apart,h.rowO.kept hg (hn _),h.rowM.kept hg (hn _),h.sized⟩
structure Turns (B p:Nat) (w w':World):Prop where
 below:Below B w w'
 keep:∀(b:Nat) (cur:Array Value) (t:TypeId),w.heap[b]? =some (.cells cur t (0,0))→59≠t→73≠t→75≠t→3≠t→b≠p→w'.heap[b]? =w.heap[b]?
theorem Turns.trans {B p:Nat} {a b c:World} (h:Turns B p a b) (k:Turns B p b c):Turns B p a c:=
 ⟨h.below.trans k.below,fun x cur t hx h1 h2 h3 h4 h5=>(k.keep x cur t ((h.keep x cur t hx h1 h2 h3 h4 h5).trans hx) h1 h2 h3 h4 h5).trans (h.keep x cur t hx h1 h2 h3 h4 h5)⟩
theorem Turns.of_below {B p:Nat} {w w':World} (h:Below w.heap.size w w') (hB:B≤w.heap.size):Turns B p w w':=
 ⟨h.mono hB,fun b cur t hb _ _ _ _ _=>h.block b (Array.getElem?_eq_some_iff.1 hb).1⟩
theorem Turns.of_grown {B p:Nat} {w w':World} {r:Option Nat} (h:w.grownBy w' r) (hB:B≤w.heap.size) (hr:∀b,r=some b→B≤b∧(b=p∨∃cur t,w.heap[b]? =some (.cells cur t (0,0))∧(t=59∨t=73∨t=75∨t=3))):Turns B p w w':=
 ⟨zek h hB (fun b hb => (hr b hb).1), fun b cur t hb h1 h2 h3 h4 h5 => h.block b (Array.getElem?_eq_some_iff.1 hb).1 (fun e => by
  rcases (hr b e.symm).2 with e1|⟨cur',t',h',ht⟩
  ·exact h5 e1
  ·rw[hb] at h';injection h' with h'
   injection h' with _ h' _
   rcases ht with ht|ht|ht|ht
   ·exact h1 (ht.symm.trans h'.symm)
   ·exact h2 (ht.symm.trans h'.symm)
   ·exact h3 (ht.symm.trans h'.symm)
   ·exact h4 (ht.symm.trans h'.symm))⟩
theorem z0p {w:World} {b j:Nat} {u:Value}:w.grownBy (w.setCell ⟨b,j,none⟩ u) (some b):=
 ⟨rfl,rfl,rfl,by simp[World.setCell],fun k hk hne=>Below.heap_setCell w ⟨b,j,none⟩ u k (fun e=>hne (by rw[e]))⟩
theorem RowAt.set {B:Nat} {w:World} {e:TypeId} {k:Nat} {g n c:Nat} {xs:List Value} (h:RowAt B w e k (.slice (some ⟨g,0,none⟩) n c) n xs) (j:Nat) (u:Value) (hj:j<n*k):RowAt B (w.setCell ⟨g,j,none⟩ u) e k (.slice (some ⟨g,0,none⟩) n c) n (xs.set j u):=by
 refine⟨by rw[List.length_set];exact h.1,?_⟩
 rcases h.2 with⟨A,hA,rfl⟩|⟨g',cap,cur,hv,hc,hB,hg,hnc,hm,hs,ht⟩
 ·omega
 ·injection hv with e1 e2 e3
  injection e1 with e1
  injection e1 with e1
  subst e1 e3;refine .inr ⟨g,c,cur.setIfInBounds j u,rfl,hc,hB,?_,hnc,hm,by simpa using hs,?_⟩
  ·rw[heap_setCell_same w g j _ _ _ hg]
  ·rw[←ht,Array.toList_setIfInBounds,List.take_set]
theorem z8x:∀(zs:List (Ino×Value)) (k:Nat) (z:Ino×Value) (es:List En) (v:Value),zs[k]? =some z→(zs.flatMap inoV).set (k*4+2) v=(zs.set k ({ z.1 with ents:=es },v)).flatMap inoV
 | [],k,z,es,v,h=>by simp at h
 | y::ys,0,z,es,v,h=>by
  have:y=z:=by simpa using h
  subst this
  rfl
 | y::ys,k+1,z,es,v,h=>by
  have ih:=z8x ys k z es v (by simpa using h);rw[List.set_cons_succ,List.flatMap_cons,List.flatMap_cons,←ih,List.set_append_right _ _ (by show 4≤_;omega)]
  congr 2
  show(k+1)*4+2-4=_;omega
theorem zck:∀(zs:List (Ino×Value)) (k:Nat) (z:Ino×Value) (d:ByteArray),zs[k]? =some z→(zs.flatMap inoV).set (k*4+3) (.string d)=(zs.set k ({ z.1 with data:=d },z.2)).flatMap inoV
 | [],k,z,d,h=>by simp at h
 | y::ys,0,z,d,h=>by
  have:y=z:=by simpa using h
  subst this
  rfl
 | y::ys,k+1,z,d,h=>by
  have ih:=zck ys k z d (by simpa using h);rw[List.set_cons_succ,List.flatMap_cons,List.flatMap_cons,←ih,List.set_append_right _ _ (by show 4≤_;omega)]
  congr 2
  show(k+1)*4+3-4=_;omega
theorem zdt {α β:Type} (f:α→β) (l:List α) (k:Nat) (x:α):(l.set k x).map f=(l.map f).set k (f x):=by
 rw[List.map_set]
section
variable {B:Nat} {w:World} {p:Nat} {s:St} {zs:List (Ino×Value)} {vI vO vM:Value}
theorem Own2.bI (h:Own2 B w p s zs vI vO vM) {b:Nat} (hb:rowBlk vI=some b):∃cur,w.heap[b]? =some (.cells cur 59 (0,0)):=(h.rowI.blk b hb).2.2
theorem Own2.bO (h:Own2 B w p s zs vI vO vM) {b:Nat} (hb:rowBlk vO=some b):∃cur,w.heap[b]? =some (.cells cur 75 (0,0)):=(h.rowO.blk b hb).2.2
theorem Own2.bM (h:Own2 B w p s zs vI vO vM) {b:Nat} (hb:rowBlk vM=some b):∃cur,w.heap[b]? =some (.cells cur 3 (0,0)):=(h.rowM.blk b hb).2.2
theorem Own2.bE (h:Own2 B w p s zs vI vO vM) {z:Ino×Value} (hz:z∈zs) {b:Nat} (hb:rowBlk z.2=some b):∃cur,w.heap[b]? =some (.cells cur 73 (0,0)):=((h.ents z hz).blk b hb).2.2
theorem z1d {r:Option Nat} {b:Nat} (h:∀a,r=some a→a≠b):r≠some b:=fun e=>h b e rfl
theorem Own2.setE (h:Own2 B w p s zs vI vO vM) (hB:B≤w.heap.size) {k:Nat} {z:Ino×Value} (hz:zs[k]? =some z) {es:List En} {v':Value} {w':World} (hg:w.grownBy w' (rowBlk z.2)) (hr:RowAt B w' 73 2 v' es.length (es.flatMap enV))
  (hv:rowBlk v'=rowBlk z.2∨∃b,rowBlk v'=some b∧w.heap.size≤b) (hs:Sized { s with inos:=s.inos.set k { z.1 with ents:=es } }) {g n c:Nat} (hvI:vI=.slice (some ⟨g,0,none⟩) n c):
  Own2 B (w'.setCell ⟨g,k*4+2,none⟩ v') p { s with inos:=s.inos.set k { z.1 with ents:=es } } (zs.set k ({ z.1 with ents:=es },v')) vI vO vM∧Turns B p w (w'.setCell ⟨g,k*4+2,none⟩ v'):=by
 have hzm:=List.mem_of_getElem? hz;have hkl:k<zs.length:=(List.getElem?_eq_some_iff.1 hz).1;obtain⟨g',c',cur,hv1,hb1,hB1,hlt1,hg1,hsz1,_⟩:=h.rowI.open_ (by omega);have hgg:g'=g:=by rw[hvI] at hv1;injection hv1 with e1 _ _;injection e1 with e1;injection e1 with e1;exact e1.symm
 subst hgg;have hzE:∀b,rowBlk z.2=some b→∃cur,w.heap[b]? =some (.cells cur 73 (0,0)):=fun b hb=>h.bE hzm hb
 have nI:rowBlk z.2≠some g':=z1d fun a ha=>by obtain⟨c1,h1⟩:=hzE a ha;exact z0j h1 hg1 (by decide)
 have nP:rowBlk z.2≠some p:=z1d fun a ha=>by obtain⟨c1,h1⟩:=hzE a ha;exact z0j h1 h.cell (by decide)
 have hpl:p<w.heap.size:=(Array.getElem?_eq_some_iff.1 h.cell).1;have g1':w'.heap[g']? =some (.cells cur 59 (0,0)):=(hg.block g' hlt1 (fun e=>nI e.symm)).trans hg1;have p1':w'.heap[p]? =_:=(hg.block p hpl (fun e=>nP e.symm)).trans h.cell;have hgp:g'≠p:=z0j hg1 h.cell (by decide)
 have keepE:∀(v:Value) (m:Nat) (xs:List Value),RowAt B w' 73 2 v m xs→RowAt B (w'.setCell ⟨g',k*4+2,none⟩ v') 73 2 v m xs:=fun v m xs hx=>hx.kept z0p (fun b hb e=>by
  obtain⟨_,_,c1,h1⟩:=hx.blk b hb;exact z0j g1' h1 (by decide) (by injection e))
 have turn:Turns B p w (w'.setCell ⟨g',k*4+2,none⟩ v'):=by
  refine(Turns.of_grown hg hB (fun b hb=>⟨((h.ents z hzm).blk b hb).1,.inr ?_⟩)).trans (Turns.of_grown z0p (Nat.le_trans hB hg.size) (fun b hb=>?_))
  ·obtain⟨c1,h1⟩:=hzE b hb;exact⟨c1,_,h1,.inr (.inl rfl)⟩
  ·injection hb with hb
   subst hb;exact⟨hB1,.inr ⟨cur,_,g1',.inl rfl⟩⟩
 refine⟨⟨h.hp,?_,?_,?_,?_,?_,?_,?_,hs⟩,turn⟩
 ·rw[Below.heap_setCell w' ⟨g',k*4+2,none⟩ v' p (fun e=>hgp e.symm)];exact p1'
 ·rw[zdt,h.inos]
 ·rw[List.length_set];have h1:RowAt B w' 59 4 vI zs.length (zs.flatMap inoV):=h.rowI.kept hg (fun b hb=>by rw[hb1] at hb;injection hb with hb;subst hb;exact nI);rw[hv1] at h1 ⊢;have h2:=h1.set (k*4+2) v' (by omega)
  rwa [z8x zs k z es v' hz] at h2
 ·intro y hy;obtain⟨j,hj⟩:=List.getElem?_of_mem hy;rw[List.getElem?_set] at hj
  by_cases e:k=j
  ·subst e;rw[if_pos rfl,if_pos hkl] at hj;injection hj with hj
   subst hj;exact keepE _ _ _ hr
  ·rw[if_neg e] at hj;exact keepE _ _ _ ((h.ents y (List.mem_of_getElem? hj)).kept hg (fun b hb e2=>h.apart k j z y e hz hj b e2 hb))
 ·intro i j a b hij ha hb gg hga hgb
  have old:∀(j:Nat) (y:Ino×Value),zs[j]? =some y→k≠j→∀b,rowBlk y.2=some b→rowBlk v'≠some b:=fun j y hy hne b hb e=>by
   rcases hv with hv|⟨b',hv,hle⟩
   ·rw[hv] at e;exact h.apart k j z y hne hz hy b e hb
   ·rw[hv] at e;injection e with e
    subst e;have:=((h.ents y (List.mem_of_getElem? hy)).blk b' hb).2.1;omega
  rw[List.getElem?_set] at ha hb
  by_cases e1:k=i
  ·subst e1;rw[if_pos rfl,if_pos hkl] at ha;injection ha with ha
   subst ha;rw[if_neg hij] at hb;exact old j b hb hij gg hgb hga
  ·rw[if_neg e1] at ha
   by_cases e2:k=j
   ·subst e2;rw[if_pos rfl,if_pos hkl] at hb;injection hb with hb
    subst hb;exact old i a ha e1 gg hga hgb
   ·rw[if_neg e2] at hb;exact h.apart i j a b hij ha hb gg hga hgb
 ·have h1:=h.rowO.kept hg (fun b hb=>z1d fun a ha=>by
   obtain⟨c1,h1⟩:=hzE a ha;obtain⟨c2,h2⟩:=h.bO hb;exact z0j h1 h2 (by decide))
  exact h1.kept z0p (fun b hb e=>by
   obtain⟨_,_,c1,h2⟩:=h1.blk b hb;exact z0j g1' h2 (by decide) (by injection e))
 ·have h1:=h.rowM.kept hg (fun b hb=>z1d fun a ha=>by
   obtain⟨c1,h1⟩:=hzE a ha;obtain⟨c2,h2⟩:=h.bM hb;exact z0j h1 h2 (by decide))
  exact h1.kept z0p (fun b hb e=>by
   obtain⟨_,_,c1,h2⟩:=h1.blk b hb;exact z0j g1' h2 (by decide) (by injection e))
theorem Own2.setB (h:Own2 B w p s zs vI vO vM) (hB:B≤w.heap.size) {k:Nat} {z:Ino×Value} (hz:zs[k]? =some z) {d:ByteArray} (hs:Sized { s with inos:=s.inos.set k { z.1 with data:=d } }) {g n c:Nat} (hvI:vI=.slice (some ⟨g,0,none⟩) n c):
  Own2 B (w.setCell ⟨g,k*4+3,none⟩ (.string d)) p { s with inos:=s.inos.set k { z.1 with data:=d } } (zs.set k ({ z.1 with data:=d },z.2)) vI vO vM∧Turns B p w (w.setCell ⟨g,k*4+3,none⟩ (.string d)):=by
 have hzm:=List.mem_of_getElem? hz;have hkl:k<zs.length:=(List.getElem?_eq_some_iff.1 hz).1;obtain⟨g',c',cur,hv1,hb1,hB1,hlt1,hg1,hsz1,_⟩:=h.rowI.open_ (by omega);have hgg:g'=g:=by rw[hvI] at hv1;injection hv1 with e1 _ _;injection e1 with e1;injection e1 with e1;exact e1.symm
 subst hgg;have hgp:g'≠p:=z0j hg1 h.cell (by decide);refine⟨⟨h.hp,?_,?_,?_,?_,?_,?_,?_,hs⟩,Turns.of_grown z0p hB (fun b hb=>?_)⟩
 ·rw[Below.heap_setCell w ⟨g',k*4+3,none⟩ _ p (fun e=>hgp e.symm)];exact h.cell
 ·rw[zdt,h.inos]
 ·rw[List.length_set];have h1:=h.rowI;rw[hv1] at h1 ⊢;have h2:=h1.set (k*4+3) (.string d) (by omega)
  rwa [zck zs k z d hz] at h2
 ·intro y hy;obtain⟨j,hj⟩:=List.getElem?_of_mem hy;rw[List.getElem?_set] at hj
  have key:∀y∈zs,RowAt B (w.setCell ⟨g',k*4+3,none⟩ (.string d)) 73 2 y.2 y.1.ents.length (y.1.ents.flatMap enV):=fun y hy=>(h.ents y hy).kept z0p (fun b hb e=>by
   obtain⟨c1,h2⟩:=h.bE hy hb;exact z0j hg1 h2 (by decide) (by injection e))
  by_cases e:k=j
  ·subst e;rw[if_pos rfl,if_pos hkl] at hj;injection hj with hj
   subst hj;exact key z hzm
  ·rw[if_neg e] at hj;exact key y (List.mem_of_getElem? hj)
 ·intro i j a b hij ha hb gg hga hgb
  have ha':∃a',zs[i]? =some a'∧a'.2=a.2:=by
   rw[List.getElem?_set] at ha
   by_cases e:k=i
   ·subst e;rw[if_pos rfl,if_pos hkl] at ha;injection ha with ha
    exact⟨z,hz,by rw[←ha]⟩
   ·rw[if_neg e] at ha;exact⟨a,ha,rfl⟩
  have hb':∃b',zs[j]? =some b'∧b'.2=b.2:=by
   rw[List.getElem?_set] at hb
   by_cases e:k=j
   ·subst e;rw[if_pos rfl,if_pos hkl] at hb;injection hb with hb
    exact⟨z,hz,by rw[←hb]⟩
   ·rw[if_neg e] at hb;exact⟨b,hb,rfl⟩
  obtain⟨a',ha1,ha2⟩:=ha';obtain⟨b',hb1,hb2⟩:=hb';exact h.apart i j a' b' hij ha1 hb1 gg (by rw[ha2];exact hga) (by rw[hb2];exact hgb)
 ·exact h.rowO.kept z0p (fun b hb e=>by
   obtain⟨c1,h2⟩:=h.bO hb;exact z0j hg1 h2 (by decide) (by injection e))
 ·exact h.rowM.kept z0p (fun b hb e=>by
   obtain⟨c1,h2⟩:=h.bM hb;exact z0j hg1 h2 (by decide) (by injection e))
 ·injection hb with hb
  subst hb;exact⟨hB1,.inr ⟨cur,_,hg1,.inl rfl⟩⟩
theorem Own2.setI (h:Own2 B w p s zs vI vO vM) (hB:B≤w.heap.size) {v':Value} {w':World} {ys:List (Ino×Value)} (hg:w.grownBy w' (rowBlk vI)) (hr:RowAt B w' 59 4 v' ys.length (ys.flatMap inoV))
  (he:∀y∈ys,RowAt B w 73 2 y.2 y.1.ents.length (y.1.ents.flatMap enV)) (ha:Apart ys) (hs:Sized { s with inos:=ys.map Prod.fst }):
  Own2 B (w'.setCell ⟨p,0,none⟩ v') p { s with inos:=ys.map Prod.fst } ys v' vO vM∧Turns B p w (w'.setCell ⟨p,0,none⟩ v'):=by
 have hpl:p<w.heap.size:=(Array.getElem?_eq_some_iff.1 h.cell).1;have nP:rowBlk vI≠some p:=z1d fun a ha=>by obtain⟨c1,h1⟩:=h.bI ha;exact z0j h1 h.cell (by decide)
 have p1':w'.heap[p]? =_:=(hg.block p hpl (fun e=>nP e.symm)).trans h.cell
 have keep:∀(e:TypeId) (k:Nat) (v:Value) (m:Nat) (xs:List Value),e≠26→RowAt B w' e k v m xs→RowAt B (w'.setCell ⟨p,0,none⟩ v') e k v m xs:=fun e k v m xs hne hx=>hx.kept z0p (fun b hb e=>by
  obtain⟨_,_,c1,h1⟩:=hx.blk b hb;exact z0j p1' h1 (fun e=>hne e.symm) (by injection e))
 have keep2:∀(e:TypeId) (k:Nat) (v:Value) (m:Nat) (xs:List Value),e≠59→RowAt B w e k v m xs→RowAt B w' e k v m xs:=fun e k v m xs hne hx=>hx.kept hg (fun b hb=>z1d fun a ha=>by
  obtain⟨_,_,c1,h1⟩:=hx.blk b hb;obtain⟨c2,h2⟩:=h.bI ha;exact z0j h2 h1 (fun e=>hne e.symm))
 refine⟨⟨h.hp,?_,rfl,keep _ _ _ _ _ (by decide) hr,fun y hy=>keep _ _ _ _ _ (by decide) (keep2 _ _ _ _ _ (by decide) (he y hy)),ha,keep _ _ _ _ _ (by decide) (keep2 _ _ _ _ _ (by decide) h.rowO),keep _ _ _ _ _ (by decide) (keep2 _ _ _ _ _ (by decide) h.rowM),hs⟩,?_⟩
 ·rw[heap_setCell_same w' p 0 _ _ _ p1']
  rfl
 ·refine(Turns.of_grown hg hB (fun b hb=>⟨(h.rowI.blk b hb).1,.inr ?_⟩)).trans (Turns.of_grown z0p (Nat.le_trans hB hg.size) (fun b hb=>?_))
  ·obtain⟨c1,h1⟩:=h.bI hb;exact⟨c1,_,h1,.inl rfl⟩
  ·injection hb with hb
   exact⟨by rw[←hb];exact h.hp,.inl hb.symm⟩
theorem Own2.setO (h:Own2 B w p s zs vI vO vM) (hB:B≤w.heap.size) {v':Value} {w':World} {ds:List Ds} (hg:w.grownBy w' (rowBlk vO)) (hr:RowAt B w' 75 3 v' ds.length (ds.flatMap dsV)) (hs:Sized { s with opn:=ds }):
  Own2 B (w'.setCell ⟨p,1,none⟩ v') p { s with opn:=ds } zs vI v' vM∧Turns B p w (w'.setCell ⟨p,1,none⟩ v'):=by
 have hpl:p<w.heap.size:=(Array.getElem?_eq_some_iff.1 h.cell).1;have nP:rowBlk vO≠some p:=z1d fun a ha=>by obtain⟨c1,h1⟩:=h.bO ha;exact z0j h1 h.cell (by decide)
 have p1':w'.heap[p]? =_:=(hg.block p hpl (fun e=>nP e.symm)).trans h.cell
 have keep:∀(e:TypeId) (k:Nat) (v:Value) (m:Nat) (xs:List Value),e≠26→RowAt B w' e k v m xs→RowAt B (w'.setCell ⟨p,1,none⟩ v') e k v m xs:=fun e k v m xs hne hx=>hx.kept z0p (fun b hb e=>by
  obtain⟨_,_,c1,h1⟩:=hx.blk b hb;exact z0j p1' h1 (fun e=>hne e.symm) (by injection e))
 have keep2:∀(e:TypeId) (k:Nat) (v:Value) (m:Nat) (xs:List Value),e≠75→RowAt B w e k v m xs→RowAt B w' e k v m xs:=fun e k v m xs hne hx=>hx.kept hg (fun b hb=>z1d fun a ha=>by
  obtain⟨_,_,c1,h1⟩:=hx.blk b hb;obtain⟨c2,h2⟩:=h.bO ha;exact z0j h2 h1 (fun e=>hne e.symm))
 refine⟨⟨h.hp,?_,h.inos,keep _ _ _ _ _ (by decide) (keep2 _ _ _ _ _ (by decide) h.rowI),fun y hy=>keep _ _ _ _ _ (by decide) (keep2 _ _ _ _ _ (by decide) (h.ents y hy)),h.apart,keep _ _ _ _ _ (by decide) hr,keep _ _ _ _ _ (by decide) (keep2 _ _ _ _ _ (by decide) h.rowM),hs⟩,?_⟩
 ·rw[heap_setCell_same w' p 1 _ _ _ p1']
  rfl
 ·refine(Turns.of_grown hg hB (fun b hb=>⟨(h.rowO.blk b hb).1,.inr ?_⟩)).trans (Turns.of_grown z0p (Nat.le_trans hB hg.size) (fun b hb=>?_))
  ·obtain⟨c1,h1⟩:=h.bO hb;exact⟨c1,_,h1,.inr (.inr (.inl rfl))⟩
  ·injection hb with hb
   exact⟨by rw[←hb];exact h.hp,.inl hb.symm⟩
theorem Own2.setM (h:Own2 B w p s zs vI vO vM) (hB:B≤w.heap.size) (i:Nat) (y:Int) (hi:i<s.made.length) (hs:Sized { s with made:=s.made.set i y }) {g n c:Nat} (hvM:vM=.slice (some ⟨g,0,none⟩) n c):
  Own2 B (w.setCell ⟨g,i,none⟩ (.int .i64 y)) p { s with made:=s.made.set i y } zs vI vO vM∧Turns B p w (w.setCell ⟨g,i,none⟩ (.int .i64 y)):=by
 obtain⟨g',c',cur,hv1,hb1,hB1,hlt1,hg1,hsz1,_⟩:=h.rowM.open_ (by omega);have hgg:g'=g:=by rw[hvM] at hv1;injection hv1 with e1 _ _;injection e1 with e1;injection e1 with e1;exact e1.symm
 subst hgg;have hgp:g'≠p:=z0j hg1 h.cell (by decide)
 have keep:∀(e:TypeId) (k:Nat) (v:Value) (m:Nat) (xs:List Value),e≠3→RowAt B w e k v m xs→RowAt B (w.setCell ⟨g',i,none⟩ (.int .i64 y)) e k v m xs:=fun e k v m xs hne hx=>hx.kept z0p (fun b hb e=>by
  obtain⟨_,_,c1,h1⟩:=hx.blk b hb;exact z0j hg1 h1 (fun e=>hne e.symm) (by injection e))
 refine⟨⟨h.hp,?_,h.inos,keep _ _ _ _ _ (by decide) h.rowI,fun z hz=>keep _ _ _ _ _ (by decide) (h.ents z hz),h.apart,keep _ _ _ _ _ (by decide) h.rowO,?_,hs⟩,Turns.of_grown z0p hB (fun b hb=>?_)⟩
 ·rw[Below.heap_setCell w ⟨g',i,none⟩ _ p (fun e=>hgp e.symm)];exact h.cell
 ·have h1:=h.rowM;rw[hv1] at h1 ⊢;have h2:=h1.set i (.int .i64 y) (by omega);rw[List.length_set,List.map_set];exact h2
 ·injection hb with hb
  subst hb;exact⟨hB1,.inr ⟨cur,_,hg1,.inr (.inr (.inr rfl))⟩⟩
end
def faultP (code:Int):List PanicEntry:=[{ v:=.iface 65 (.agg #[.int .i64 code]),recovered:=false }]
theorem z0i (code:Int) (w:World):Calls Tryz.prog 105 #[.bool false,.int .i64 code] w fun e w'=>e=.returned (.tuple #[])∧w=w':=by
 go_enter Tryz.func105,Tryz.ntmps105
 go_wp2_with fail
 go_returns
 exact⟨rfl,rfl⟩
theorem z0g (code:Int) (w:World):Calls Tryz.prog 105 #[.bool true,.int .i64 code] w fun e w'=>e=.panicked (faultP code)∧w=w':=by
 go_enter Tryz.func105,Tryz.ntmps105
 go_wp2_with fail
 first|exact⟨rfl,rfl⟩|(refine bodyPost_panic ?_;exact⟨rfl,rfl⟩)|simp[bodyPost,faultP]
end Go.Proofs.YtmmpkfcdfcldlaaGreat
