/- Parts of the proof, side by side: MoTidy, MoPlain2, MoPlain3, MoDelD. -/
import Derived.Test.YtmmpkfcdfcldlaaGreatM29
import Derived.Test.YtmmpkfcdfcldlaaGreatM28
import Derived.Test.YtmmpkfcdfcldlaaGreatM24
import Derived.Test.YtmmpkfcdfcldlaaGreatM25
import Derived.Test.YtmmpkfcdfcldlaaGreatM07
set_option linter.unusedVariables false
set_option linter.unusedSimpArgs false
namespace Go.Proofs.YtmmpkfcdfcldlaaGreat
open Lib (hid)
open Go.RowKit
theorem Own2.stAt {B:Nat} {w:World} {p:Nat} {s:St} {zs:List (Ino×Value)} {vI vO vM:Value} (h:Own2 B w p s zs vI vO vM):∃A n c E m d D k e,vI=.slice A n c∧vO=.slice E m d∧vM=.slice D k e∧n=s.inos.length∧m=s.opn.length∧k=s.made.length∧StAt none w (.agg #[.slice A n c,.slice E m d,.slice D k e]) s:=by
 obtain⟨A,c,hA,hAo,hAI⟩:=h.inosAt;obtain⟨E,d,hE,hEo,hED⟩:=h.rowO.descs;obtain⟨M,k,hM,hMo,hMI⟩:=h.rowM.ints;exact⟨A,_,c,E,_,d,M,_,k,hA,hE,hM,rfl,rfl,rfl,⟨⟨A,_,c,E,_,d,M,_,k,rfl,hAI,hED,hMI,hAo,hEo,hMo⟩,h.sized⟩⟩
theorem ze2 (zs:List (Ino×Value)) (h:∀z∈zs,∃A m c,z.2=.slice A m c):∀u∈zs.flatMap inoV,u.oneCell'=true:=by
 intro u hu;obtain⟨z,hz,h1⟩:=List.mem_flatMap.1 hu;obtain⟨A,m,c,h2⟩:=h z hz;simp[inoV,h2] at h1
 rcases h1 with rfl|rfl|rfl|rfl<;>rfl
theorem Own2.shape {B:Nat} {w:World} {p:Nat} {s:St} {zs:List (Ino×Value)} {vI vO vM:Value} (h:Own2 B w p s zs vI vO vM):∀z∈zs,∃A m c,z.2=.slice A m c:=fun z hz=>by
 obtain⟨A,c,h1,_⟩:=(h.ents z hz).slice;exact⟨A,_,c,h1⟩
theorem Apart.take_drop {zs:List (Ino×Value)} (h:Apart zs) (k:Nat):Apart (zs.take k++zs.drop (k+1)):=by
 have key:∀(i:Nat) (a:Ino×Value),(zs.take k++zs.drop (k+1))[i]? =some a→zs[if i<k then i else i+1]? =some a:=by
  intro i a ha;rw[List.getElem?_append] at ha
  by_cases hi:i<(zs.take k).length
  ·rw[if_pos hi,List.getElem?_take] at ha;have:i<k:=by rw[List.length_take] at hi;omega
   rw[if_pos this] at ha ⊢;exact ha
  ·rw[if_neg hi,List.getElem?_drop] at ha;rw[List.length_take] at hi ha
   by_cases hk:k≤zs.length
   ·rw[Nat.min_eq_left hk] at hi ha;rw[if_neg hi];rw[show k+1+(i-k)=i+1 by omega] at ha;exact ha
   ·have:=(List.getElem?_eq_some_iff.1 ha).1;omega
 intro i j a b hij ha hb g hga;refine h _ _ a b ?_ (key i a ha) (key j b hb) g hga
 split<;>split<;>omega
set_option maxRecDepth 100000 in
set_option maxHeartbeats 8000000 in
theorem zcl (B q p:Nat) (s:St) (c:Ca) (fd num:Int) (dir:Bool) (data:ByteArray) (nv:Value) (zs:List (Ino×Value)) (vI vO vM:Value) (k:Nat) (x:Ino) (w:World) (hD:DoerAt w q p c fd num dir data nv) (hO:Own2 B w p s zs vI vO vM) (hB:B≤w.heap.size) (hr:RiseI s.inos) (hx:s.inos[k]? =some x) (hd:x.dir=false) (hs:Sized (sweepV s x.num)):
  Calls Tryz.prog 73 #[.pointer (some ⟨q,0,.none⟩),.int .i64 x.num] w fun e w'=>e=.returned (.tuple #[])∧Turns B p w w'∧∃zs' vI',Own2 B w' p (sweepV s x.num) zs' vI' vO vM:=by
 have hat:atV s.inos x.num=(k:Int):=z1j hr hx rfl;obtain⟨NU,hNU⟩:∃NU,x.num=NU:=⟨_,rfl⟩;rw[hNU] at hat hs ⊢;obtain⟨SW,hSW⟩:∃SW,sweepV s NU=SW:=⟨_,rfl⟩;rw[hSW] at hs ⊢;have HSW:=hid hSW;obtain⟨g,c',E2,m2,d2,hv,hz,hg,hBg,hkl,x0,x1,_⟩:=hO.at_ hx;obtain⟨A,n,cc,E,m,d,D,k2,e2,hA,hE,hM,hn,hm,hk2,hSt⟩:=hO.stAt;have hAA:A=some ⟨g,0,none⟩:=by rw[hv] at hA;injection hA with h1 _ _;exact h1.symm
 subst hAA;subst hA hE hM;have d0:=hD.c0;have s0:=hO.s0;have s1:=hO.s1;have s2:=hO.s2;have hq:=hD.lt;have hp:=hO.lt;have HDQ:=hid hD.cell;have hqp:q≠p:=z0k hD.cell hO.cell (by decide);rw[hd] at x1;have HO:=hid hO;have HX:=hid hx;have HST:=hid hSt;have HS:=hid hs;have HR:=hid hr;have HNU:=hid hNU;have k0:(0:Int)≤(k:Int):=by omega
 have k1:(k:Int)<(n:Int):=by omega
 have kw:IntKind.i64.wrap ((k:Int)+1)=(k:Int)+1:=by
  have:=hO.sized.big;rw[IntKind.wrap_i64];omega
 have HN:=hid hn;have HAT:=hid hat;clear hv hz hO hD hx hSt hs hr hn hm hk2 hat hNU hd hSW
 go_enter Tryz.func73,Tryz.ntmps73
 go_wp2_with fail;refine(z1r p s NU _ HO.out.ptr HR.out).mono ?_;rintro e1 w1 ⟨rfl,hb1⟩;rw[HAT.out];have HB1:=hid hb1;have d01:=(hb1.cell (p:=⟨q,0,none⟩) hq).trans d0;have s01:=(hb1.cell (p:=⟨p,0,none⟩) hp).trans s0;have s11:=(hb1.cell (p:=⟨p,1,none⟩) hp).trans s1;have s21:=(hb1.cell (p:=⟨p,2,none⟩) hp).trans s2;have x11:=(hb1.cell (p:=⟨g,k*4+1,none⟩) hg).trans x1;have HST1:=hid (HST.out.below hb1);have HO1:=hid (HO.out.below hb1);have hq1:q<w1.heap.size:=Nat.lt_of_lt_of_le hq hb1.size;have hp1:p<w1.heap.size:=Nat.lt_of_lt_of_le hp hb1.size;clear hb1 d0 s0 s1 s2 x0 x1;go_wp2_with fail;refine(z4z _ s NU _ HST1.out).mono ?_;rintro e2' w2 ⟨rfl,hb2⟩;have HB2:=hid (Cv.next HB1.out hb2);have d02:=(hb2.cell (p:=⟨q,0,none⟩) hq1).trans d01;have s02:=(hb2.cell (p:=⟨p,0,none⟩) hp1).trans s01;have HO2:=hid (HO1.out.below hb2);have hq2:q<w2.heap.size:=Nat.lt_of_lt_of_le hq1 hb2.size
 have hp2:p<w2.heap.size:=Nat.lt_of_lt_of_le hp1 hb2.size;clear hb2 d01 s01 s11 s21 x11
 by_cases hl:linkI s.inos NU=0
 rotate_left
 ·have hsw:SW=s:=by rw[←HSW.out];unfold sweepV;rw[if_pos (.inl (by omega))]
  have HSW2:=hid hsw;have q2:((linkI s.inos NU:Nat):Int)≠0:=by omega
  obtain⟨LL,hLL⟩:∃LL,linkI s.inos NU=LL:=⟨_,rfl⟩;rw[hLL] at q2 ⊢;have q3:((LL:Int)==0)=false:=by rw[beq_eq_false_iff_ne];exact q2
  clear hsw hLL hl;go_wp2_with fail
  go_returns
  exact⟨rfl,Turns.of_below HB2.out hB,zs,_,by rw[HSW2.out];exact HO2.out⟩
 rw[hl];go_wp2_with fail;refine(z8u p s NU _ HO2.out.ptr).mono ?_;rintro e3 w3 ⟨rfl,hb3⟩;have HB3:=hid (Cv.next HB2.out hb3);have d03:=(hb3.cell (p:=⟨q,0,none⟩) hq2).trans d02;have s03:=(hb3.cell (p:=⟨p,0,none⟩) hp2).trans s02;have HO3:=hid (HO2.out.below hb3);have hq3:q<w3.heap.size:=Nat.lt_of_lt_of_le hq2 hb3.size;have hp3:p<w3.heap.size:=Nat.lt_of_lt_of_le hp2 hb3.size;clear hb3 d02 s02;cases ho:openB s.opn NU;rotate_left
 ·have hsw:SW=s:=by rw[←HSW.out];unfold sweepV;rw[if_pos (.inr ho)]
  have HSW2:=hid hsw;clear hsw ho hl;go_wp2_with fail
  go_returns
  exact⟨rfl,Turns.of_below HB3.out hB,zs,_,by rw[HSW2.out];exact HO3.out⟩
 have hsw:SW={ s with inos:=dropI s.inos NU }:=by rw[←HSW.out];unfold sweepV;rw[if_neg (by rw[hl,ho];simp)]
 have hdp:dropI s.inos NU=(zs.take k++zs.drop (k+1)).map Prod.fst:=by rw[←HNU.out,z8z s.inos k x HR.out HX.out,List.map_append,List.map_take,List.map_drop,HO.out.inos]
 have hs2:=HS.out;rw[hdp] at hsw;rw[hsw] at hs2;have HSW2:=hid hsw;have HS2:=hid hs2;have hB3:B≤w3.heap.size:=by have:=HB3.out.size;omega
 have hzl:zs.length=n:=by rw[HN.out,←HO.out.inos,List.length_map]
 have HZL:=hid hzl;have hkz:k<n:=by omega
 obtain⟨hrow,_⟩:RowAt B w3 59 4 (.slice (some ⟨g,0,none⟩) n cc) n (zs.flatMap inoV)∧True:=⟨by have h:=HO3.out.rowI;rwa [hzl] at h,trivial⟩;have HROW:Hid (RowAt B w3.drew 59 4 (.slice (some ⟨g,0,none⟩) n cc) n (zs.flatMap inoV)):=hrow;have fp:∀j,w3.frozen? ⟨p,j,none⟩=false:=fun j=>frozen_of_row w3 p j _ _ HO3.out.cell
 have hone:=ze2 zs HO3.out.shape
 have hnQ:some q≠rowBlk (.slice (some ⟨g,0,none⟩) n cc):=fun e=>by
  obtain⟨c1,h1⟩:=HO3.out.bI e.symm;rw[(HB3.out.block q hq).trans HDQ.out] at h1;injection h1 with h1
  injection h1 with _ h1 _
  exact absurd h1 (by decide)
 have hnP:some p≠rowBlk (.slice (some ⟨g,0,none⟩) n cc):=fun e=>by
  obtain⟨c1,h1⟩:=HO3.out.bI e.symm;exact z0k HO3.out.cell h1 (by decide) rfl
 clear hsw hdp hs2 hzl ho hl hrow;go_wp2_with fail
 go_region_with (first
  | (go_at_call 114;(refine(zfc B n k (.slice (some ⟨g,0,none⟩) n cc) (zs.flatMap inoV) w3.drew HROW.out hkz hone).mono ?_;rintro e6 w6 ⟨v',rfl,hrow',hgr,hbl⟩;obtain⟨A',c9,rfl,hok'⟩:=hrow'.slice;have q6:w6.cell? ⟨q,0,none⟩=some (.pointer (some ⟨p,0,none⟩)):=(World.cell?_of_block (a:=⟨q,0,none⟩) (hgr.block q hq3 hnQ)).trans d03;have p6:w6.cell? ⟨p,0,none⟩=some (.slice (some ⟨g,0,none⟩) n cc):=(World.cell?_of_block (a:=⟨p,0,none⟩) (hgr.block p hp3 hnP)).trans s03;have f6:w6.frozen? ⟨p,0,none⟩=false:=(World.frozen?_of_block (a:=⟨p,0,none⟩) (hgr.block p hp3 hnP)).trans (fp 0))))
 all_goals (
  have hflat:(zs.flatMap inoV).take (k*4)++(zs.flatMap inoV).drop ((k+1)*4)=(zs.take k++zs.drop (k+1)).flatMap inoV:=by
   rw[z1t inoV 4 (fun _=>rfl),z1u inoV 4 (fun _=>rfl),List.flatMap_append]
  have hpl:(zs.take k++zs.drop (k+1)).length=n-1:=by rw[List.length_append,List.length_take,List.length_drop,HZL.out];omega
  rw[hflat,←hpl] at hrow';have hfin:=HO3.out.setI hB3 (z3u hgr) hrow' (fun y hy=>HO3.out.ents y (by rcases List.mem_append.1 hy with h|h;exact List.mem_of_mem_take h;exact List.mem_of_mem_drop h)) (HO3.out.apart.take_drop k) HS2.out;rw[hpl] at hfin;have HFIN:=hid hfin;clear hfin hrow' hgr hbl hflat;go_wp2_with fail
  go_returns
  exact⟨rfl,(Turns.of_below HB3.out hB).trans HFIN.out.2,_,_,by rw[HSW2.out];exact HFIN.out.1⟩)
end Go.Proofs.YtmmpkfcdfcldlaaGreat
namespace Go.Proofs.YtmmpkfcdfcldlaaGreat
open Lib (hid)
theorem z4k:∀(a b:List En) (num:Int),linkE (a++b) num=linkE a num+linkE b num
 | [],b,num=>by simp[linkE]
 | e::a,b,num=>by rw[List.cons_append,linkE,linkE,z4k a b num];omega
theorem zgi (es:List En) (i:Nat) (e:En) (num:Int) (h:es[i]? =some e):linkE es num=linkE (es.take i++es.drop (i+1)) num+(if e.num=num then 1 else 0):=by
 have hl:=(List.getElem?_eq_some_iff.1 h).1;have he:=(List.getElem?_eq_some_iff.1 h).2
 have:es=es.take i++e::es.drop (i+1):=by
  rw[←he,←List.drop_eq_getElem_cons hl,List.take_append_drop]
 rw[z4k]
 conv=>lhs;rw[this]
 rw[z4k,linkE];omega
theorem zcm:∀(is:List Ino) (i:Nat) (x y:Ino) (num:Int),is[i]? =some x→linkI (is.set i y) num+(if x.dir then linkE x.ents num else 0)=linkI is num+(if y.dir then linkE y.ents num else 0)
 | [],i,x,y,num,h=>by simp at h
 | z::is,0,x,y,num,h=>by
  have:z=x:=by simpa using h
  subst this;rw[List.set_cons_zero,linkI,linkI];omega
 | z::is,i+1,x,y,num,h=>by
  have ih:=zcm is i x y num (by simpa using h);rw[List.set_cons_succ,linkI,linkI];omega
theorem Good.ent_ne {s:St} (h:Good s) {i k:Nat} {x y:Ino} {e:En} (hx:s.inos[i]? =some x) (hxd:x.dir=true) (he:e∈x.ents) (hy:s.inos[k]? =some y) (hn:y.num=e.num):k≠i:=by
 intro hki;subst hki;rw[hx] at hy;cases hy;obtain⟨j,z,hj,hz,hzn,hat⟩:=h.ent hx hxd he
 have hjk:j=k:=by
  have h1:=h.idx hx;have h2:=h.idx hz;rw[hzn,←hn,h1] at h2;omega
 subst hjk;obtain⟨n,hl⟩:=h.lev_of (h.one j x hj hx hxd).2;have h3:Lev s.inos (n+1) j:=Lev.step hl hx hxd he hat;have:=h.lev_one _ _ _ _ hx hxd hl h3;omega
theorem Good.shut {s:St} (h:Good s) {k:Nat} {y:Ino} (hy:s.inos[k]? =some y) (hd:y.dir=true):openB s.opn y.num=false:=by
 have key:∀(ds:List Ds),(∀d∈ds,d.num≠y.num)→openB ds y.num=false:=by
  intro ds
  induction ds with
  | nil=>intro _;rfl
  | cons d ds ih=>
   intro hds;unfold openB;rw[if_neg (hds d (by simp)),ih (fun e he=>hds e (by simp[he]))]
 refine key _ (fun d hd2 he=>?_);obtain⟨_,_,_,_,i,x,hat,hx,hxn,hxd⟩:=h.opens d hd2;rw[he,h.idx hy] at hat;have:i=k:=by omega
 subst this;rw[hy] at hx;cases hx;rw[hd] at hxd;cases hxd
theorem z6x {α:Type} {l:List α} {i k:Nat} {y:α} (h:k≠i):(l.set i y)[k]? =l[k]?:=by
 rw[List.getElem?_set,if_neg (fun e=>h e.symm)]
theorem RiseI.set {is:List Ino} (h:RiseI is) {i:Nat} {x y:Ino} (hx:is[i]? =some x) (hn:y.num=x.num):RiseI (is.set i y):=by
 have key:∀(j:Nat) (z:Ino),(is.set i y)[j]? =some z→∃z',is[j]? =some z'∧z'.num=z.num:=by
  intro j z hz
  by_cases e:j=i
  ·subst e;have hl:=(List.getElem?_eq_some_iff.1 hx).1;rw[List.getElem?_set,if_pos rfl,if_pos hl] at hz;cases hz;exact⟨x,hx,hn.symm⟩
  ·rw[z6x e] at hz;exact⟨z,hz,rfl⟩
 intro a b u v hab hu hv;obtain⟨u',hu1,hu2⟩:=key a u hu;obtain⟨v',hv1,hv2⟩:=key b v hv;rw[←hu2,←hv2];exact h a b u' v' hab hu1 hv1
theorem Good.rmdir {s:St} (h:Good s) {i k j:Nat} {x y:Ino} {e:En} {nm:ByteArray} (hx:s.inos[i]? =some x) (hxd:x.dir=true) (hp:EnPos x.ents nm j true) (he:x.ents[j]? =some e) (hy:s.inos[k]? =some y) (hn:y.num=e.num) (hyd:y.dir=true):
  sweepV { s with inos:=s.inos.set i { x with ents:=dropE x.ents nm } } e.num={ s with inos:=dropI (s.inos.set i { x with ents:=dropE x.ents nm }) e.num }:=by
 have hem:=List.mem_of_getElem? he
 have hk:0<k:=by
  obtain⟨j',z,hj',hz,hzn,_⟩:=h.ent hx hxd hem;have h1:=h.idx hy;have h2:=h.idx hz;rw[hzn,←hn,h1] at h2;omega
 have h1:=(h.one k y hk hy hyd).1;have h2:=zcm s.inos i x { x with ents:=dropE x.ents nm } e.num hx;have h3:=zgi x.ents j e e.num he;rw[if_pos rfl,←z8y x.ents nm j (h.riseE (List.mem_of_getElem? hx)) hp] at h3;rw[if_pos hxd,if_pos (show({ x with ents:=dropE x.ents nm }:Ino).dir=true from hxd)] at h2;rw[hn] at h1;have ho:=h.shut hy hyd;rw[hn] at ho;unfold sweepV;rw[if_neg];intro h4
 rcases h4 with h4|h4
 ·have h5:linkE ({ x with ents:=dropE x.ents nm }:Ino).ents e.num=linkE (dropE x.ents nm) e.num:=rfl;rw[h5] at h2;have h6:0<linkI (s.inos.set i { x with ents:=dropE x.ents nm }) e.num:=h4;omega
 ·have h6:openB s.opn e.num=true:=h4;rw[ho] at h6;cases h6
theorem EnPos.of_name {es:List En} (hr:RiseE es) {nm:ByteArray} {j:Nat} {e:En} (hj:es[j]? =some e) (hn:e.name=nm):EnPos es nm j true:=by
 have hl:=(List.getElem?_eq_some_iff.1 hj).1;refine⟨by omega,fun k x hk hx=>by rw[←hn];exact hr k j x e hk hx hj,fun k x hk hx=>?_,fun _=>⟨e,hj,hn⟩,fun _=>rfl⟩
 by_cases h:k=j
 ·subst h;rw[hj] at hx;cases hx;rw[hn,z2b]
 ·rw[←hn];exact zch (hr j k e x (by omega) hj hx)
theorem z9f:∀(es:List En) (nm:ByteArray),(∀e∈es,e.num≠0)→entG es nm=0→∀e∈es,e.name≠nm
 | [],_,_,_=>by simp
 | y :: es, nm, h, h0 => by
  unfold entG at h0
  by_cases hy:y.name=nm
  ·rw[if_pos hy] at h0;exact absurd h0 (h y (by simp))
  ·rw[if_neg hy] at h0;intro e he
   rcases List.mem_cons.1 he with rfl|he
   ·exact hy
   ·exact z9f es nm (fun e he=>h e (by simp[he])) h0 e he
theorem z9g:∀(es:List En) (nm:ByteArray),entG es nm≠0→∃(j:Nat) (e:En),es[j]? =some e∧e.name=nm∧e.num=entG es nm
 | [],_,h=>absurd rfl h
 | y::es,nm,h=>by
  unfold entG at h ⊢
  by_cases hy:y.name=nm
  ·rw[if_pos hy];exact⟨0,y,rfl,hy,rfl⟩
  ·rw[if_neg hy] at h ⊢;obtain⟨j,e,h1,h2⟩:=z9g es nm h;exact⟨j+1,e,by simpa using h1,h2⟩
def ltD (a b:Ds):Prop:=a.core<b.core∨(a.core=b.core∧a.fd<b.fd)
def RiseD (ds:List Ds):Prop:=∀(i j:Nat) (x y:Ds),i<j→ds[i]? =some x→ds[j]? =some y→ltD x y
theorem zig {a b c:Ds} (h1:ltD a b) (h2:ltD b c):ltD a c:=by unfold ltD at *;omega
theorem z9h (is:List Ino) (n:Nat):∀(ds:List Ds) (p:Option Ds),opensG is n ds p=true→RiseD ds∧∀q x,p=some q→ds[0]? =some x→ltD q x
 | [],p,h=>⟨fun i j x y _ hx=>by simp at hx,fun q x _ hx=>by simp at hx⟩
 | d :: ds, p, h => by
  unfold opensG at h
  by_cases h1:dsBad is n d=true
  ·rw[if_pos h1] at h;cases h
  ·rw [if_neg h1] at h
   by_cases h2:dsPrev p d=true
   ·rw[if_pos h2] at h;cases h
   ·rw [if_neg h2] at h;obtain ⟨r1, r2⟩ := z9h is n ds (some d) h
    have key:∀(j:Nat) (y:Ds),ds[j]? =some y→ltD d y:=by
     intro j
     induction j with
     | zero=>intro y hy;exact r2 _ _ rfl hy
     | succ j ih=>
      intro y hy;have hjl:j<ds.length:=by have:=(List.getElem?_eq_some_iff.1 hy).1;omega
      exact zig (ih _ (List.getElem?_eq_getElem hjl)) (r1 j (j+1) _ _ (by omega) (List.getElem?_eq_getElem hjl) hy)
    refine⟨fun i j x y hij hx hy=>?_,fun q x hp hx=>?_⟩
    ·cases j with
     | zero=>omega
     | succ j =>
      have hy2:ds[j]? =some y:=by simpa using hy
      cases i with
      | zero=>
       have:d=x:=by simpa using hx
       subst this;exact key j y hy2
      | succ i=>exact r1 i j x y (by omega) (by simpa using hx) hy2
    ·have:d=x:=by simpa using hx
     subst this;subst hp;unfold dsPrev at h2;simp only[Bool.or_eq_true,Bool.and_eq_true,decide_eq_true_eq] at h2;unfold ltD;omega
theorem Good.riseD {s:St} (h:Good s):RiseD s.opn:=(z9h _ _ _ _ h.opn).1
structure Scan (ds:List Ds) (core:Int) (i:Nat) (fd:Nat) (at_:Nat):Prop where
 le:at_≤i
 lo:∀(k:Nat) (d:Ds),k<at_→ds[k]? =some d→d.core<core∨(d.core=core∧d.fd<(fd:Int))
 hi:∀(k:Nat) (d:Ds),at_≤k→k<i→ds[k]? =some d→core<d.core∨(d.core=core∧(fd:Int)<d.fd)
 all:∀f,f<fd→∃(k:Nat) (d:Ds),k<i∧ds[k]? =some d∧d.core=core∧d.fd=(f:Int)
theorem Scan.start (ds:List Ds) (core:Int):Scan ds core 0 0 0:=⟨Nat.le_refl _,fun k d hk=>by omega,fun k d _ hk=>by omega,fun f hf=>by omega⟩
theorem Scan.step {ds:List Ds} {core:Int} {i fd at_:Nat} (h:Scan ds core i fd at_) (hr:RiseD ds) (h0:∀d∈ds,0≤d.fd) {o:Ds} (ho:ds[i]? =some o):
  (o.core<core→Scan ds core (i+1) fd (i+1))∧(¬o.core<core→o.core=core→o.fd=(fd:Int)→Scan ds core (i+1) (fd+1) (i+1))∧(¬o.core<core→¬(o.core=core∧o.fd=(fd:Int))→Scan ds core (i+1) fd at_):=by
 refine⟨fun hc=>?_,fun hn hc hf=>?_,fun hn hne=>?_⟩
 ·refine⟨Nat.le_refl _,fun k d hk hd=>?_,fun k d h1 h2=>by omega,fun f hf=>?_⟩
  ·by_cases e:k=i
   ·subst e;rw[ho] at hd;cases hd;exact .inl hc
   ·have:=hr k i d o (by omega) hd ho;unfold ltD at this
    left;omega
  ·obtain⟨k,d,h1,h2⟩:=h.all f hf;exact⟨k,d,by omega,h2⟩
 ·refine⟨Nat.le_refl _,fun k d hk hd=>?_,fun k d h1 h2=>by omega,fun f hf2=>?_⟩
  ·by_cases e:k=i
   ·subst e;rw[ho] at hd;cases hd
    right;exact⟨hc,by omega⟩
   ·have:=hr k i d o (by omega) hd ho;unfold ltD at this;omega
  ·by_cases e:f=fd
   ·subst e;exact⟨i,o,by omega,ho,hc,hf⟩
   ·obtain⟨k,d,h1,h2⟩:=h.all f (by omega);exact⟨k,d,by omega,h2⟩
 ·refine⟨by have:=h.le;omega,h.lo,fun k d h1 h2 hd=>?_,fun f hf=>?_⟩
  ·by_cases e:k=i
   ·subst e;rw[ho] at hd;cases hd
    by_cases hc:o.core=core
    ·right
     refine⟨hc,?_⟩
     by_cases hlt:o.fd<(fd:Int)
     ·have hz:=h0 o (List.mem_of_getElem? ho);obtain⟨k',d',h3,h4,h5,h6⟩:=h.all o.fd.toNat (by omega);have:=hr k' k d' o h3 h4 ho;unfold ltD at this;omega
     ·have:o.fd≠(fd:Int):=fun e=>hne ⟨hc,e⟩
      omega
    ·left;omega
   ·exact h.hi k d h1 (by omega) hd
  ·obtain⟨k,d,h1,h2⟩:=h.all f hf;exact⟨k,d,by omega,h2⟩
theorem zbh:∀(ds:List Ds) (i:Nat) (y:Ds),i≤ds.length→(∀(k:Nat) (d:Ds),k<i→ds[k]? =some d→ltD d y)→(∀(k:Nat) (d:Ds),i≤k→ds[k]? =some d→ltD y d)→putD ds y=ds.take i++[y]++ds.drop i
 | [],i,y,hi,_,_=>by
  have:i=0:=by simpa using hi
  subst this
  rfl
 | e::t,0,y,hi,_,h2=>by
  have:=h2 0 e (Nat.le_refl _) rfl;unfold ltD at this;unfold putD;rw[if_pos (by omega)]
  rfl
 | e::t,i+1,y,hi,h1,h2=>by
  have:=h1 0 e (by omega) rfl;unfold ltD at this;unfold putD;rw[if_neg (by omega),zbh t i y (by simpa using hi) (fun k x hk hx=>h1 (k+1) x (by omega) (by simpa using hx)) (fun k x hk hx=>h2 (k+1) x (by omega) (by simpa using hx))]
  rfl
theorem zfd:∀(ds:List Ds) (core fd:Int),(∀d∈ds,¬(d.core=core∧d.fd=fd))→fdV ds core fd=0
 | [],_,_,_=>rfl
 | d::ds,core,fd,h=>by
  unfold fdV;rw[if_neg (h d (by simp)),zfd ds core fd (fun e he=>h e (by simp[he]))]
theorem zbi:∀(ds:List Ds) (core fd:Int),(∀d∈ds,d.num≠0)→(∃d∈ds,d.core=core∧d.fd=fd)→fdV ds core fd≠0
 | [],_,_,_,h=>by obtain⟨d,hd,_⟩:=h;simp at hd
 | y :: ds, core, fd, hn, h => by
  unfold fdV
  by_cases hy:y.core=core∧y.fd=fd
  ·rw[if_pos hy];exact hn y (by simp)
  ·rw[if_neg hy];refine zbi ds core fd (fun d hd=>hn d (by simp[hd])) ?_;obtain⟨d,hd,h2⟩:=h
   rcases List.mem_cons.1 hd with rfl|hd
   ·exact absurd h2 hy
   ·exact⟨d,hd,h2⟩
theorem Good.scan {s:St} (h:Good s) {core:Int} {fd at_:Nat} (hs:Scan s.opn core s.opn.length fd at_):fd≤4∧freeFd s.opn core=fd∧∀num,putD s.opn ⟨core,(fd:Int),num⟩=s.opn.take at_++[⟨core,(fd:Int),num⟩]++s.opn.drop at_:=by
 have hn:∀d∈s.opn,d.num≠0:=fun d hd=>by
  obtain⟨_,_,_,_,i,x,hat,_⟩:=h.opens d hd;have:=(h.num_range (num:=d.num) (by omega)).1;omega
 have hlt:fd≤4:=by
  rcases Nat.lt_or_ge 4 fd with h1|h1
  ·obtain⟨k,d,_,hd,_,hf⟩:=hs.all 4 h1;have:=h.opens d (List.mem_of_getElem? hd);omega
  ·exact h1
 have hhas:∀f,f<fd→fdV s.opn core (f:Int)≠0:=fun f hf=>by
  obtain⟨k,d,_,hd,h1,h2⟩:=hs.all f hf;exact zbi _ _ _ hn ⟨d,List.mem_of_getElem? hd,h1,h2⟩
 have hno:fdV s.opn core (fd:Int)=0:=zfd _ _ _ (fun d hd hh=>by
  obtain⟨k,hk⟩:=List.getElem?_of_mem hd
  by_cases h1:k<at_
  ·have:=hs.lo k d h1 hk;omega
  ·have:=hs.hi k d (by omega) (List.getElem?_eq_some_iff.1 hk).1 hk;omega)
 refine⟨hlt,?_,fun num=>?_⟩
 ·unfold freeFd;have a0:0<fd→fdV s.opn core 0≠0:=hhas 0;have a1:1<fd→fdV s.opn core 1≠0:=hhas 1;have a2:2<fd→fdV s.opn core 2≠0:=hhas 2;have a3:3<fd→fdV s.opn core 3≠0:=hhas 3
  match fd,hlt with
  | 0,_=>
   have hno2:fdV s.opn core 0=0:=hno;rw[if_pos hno2]
  | 1,_=>
   have hno2:fdV s.opn core 1=0:=hno;rw[if_neg (a0 (by omega)),if_pos hno2]
  | 2,_=>
   have hno2:fdV s.opn core 2=0:=hno;rw[if_neg (a0 (by omega)),if_neg (a1 (by omega)),if_pos hno2]
  | 3,_=>
   have hno2:fdV s.opn core 3=0:=hno;rw[if_neg (a0 (by omega)),if_neg (a1 (by omega)),if_neg (a2 (by omega)),if_pos hno2]
  | 4,_=>rw[if_neg (a0 (by omega)),if_neg (a1 (by omega)),if_neg (a2 (by omega)),if_neg (a3 (by omega))]
 ·refine zbh _ _ _ hs.le (fun k d hk hd=>?_) (fun k d hk hd=>?_)
  ·have:=hs.lo k d hk hd;unfold ltD;simp only;omega
  ·have:=hs.hi k d hk (List.getElem?_eq_some_iff.1 hd).1 hd;unfold ltD;simp only;omega
end Go.Proofs.YtmmpkfcdfcldlaaGreat
namespace Go.Proofs.YtmmpkfcdfcldlaaGreat
open Lib (hid)
open Go.RowKit
set_option maxHeartbeats 4000000 in
set_option maxRecDepth 100000 in
theorem zk3 (g c i m:Nat) (cur:Array Value) (xs seg zs:List Value) (w:World) (hg:w.heap[g]? =some (.cells cur 75 (0,0))) (hsz:cur.size=c*3) (hnc:i+m+1≤c) (hcm:c≤maxLen)
  (hxs:cur.toList.take ((i+m+1)*3)=xs) (h1c:∀v∈xs,v.oneCell'=true) (hseg:seg=xs.drop ((i+1)*3)) (hzs:zs=(Value.agg #[.int .i64 0,.int .i64 0,.int .i64 0]).cells.toList):
  Calls Tryz.prog 54 #[.slice (some ⟨g,0,none⟩) (i+m+1) c,.int .i64 i,.int .i64 ((i:Int)+1)] w fun e w'=>
   e=.returned (.slice (some ⟨g,0,none⟩) (i+m) c)∧w'=w.drew.setRow g (layV (layV cur.toList (i*3) seg) ((i+m)*3) zs).toArray:=by
 obtain⟨i0,hi0,hz0,hz1,hz2⟩:=info_parts z5b;have hc63:c≤9223372036854775807:=by unfold maxLen at hcm;omega
 have hzl:zs.length=3:=by rw[hzs];rfl
 have hzo:∀v∈zs,v.oneCell'=true:=by rw[hzs];intro v hv;simp[Value.cells] at hv;rw[hv];rfl
 have hxl:xs.length=(i+m+1)*3:=by rw[←hxs,List.length_take,Array.length_toList,hsz];omega
 have hsl:seg.length=m*3:=by rw[hseg,List.length_drop,hxl];omega
 obtain⟨A,hA,hsrc⟩:∃A:Addr,(if c=i+1 then some (⟨g,0,none⟩:Addr) else some ⟨g,(i+1)*3,none⟩)=some A∧∀j u,seg[j]? =some u→w.drew.cell? (A.add j)=some u:=by
  by_cases h:c=i+1
  ·refine⟨⟨g,0,none⟩,by rw[if_pos h],fun j u hu=>?_⟩;have h0:seg.length=0:=by rw[hsl];omega
   rw[List.length_eq_zero_iff.1 h0] at hu;simp at hu
  ·refine⟨⟨g,(i+1)*3,none⟩,by rw[if_neg h],z0m (w:=w.drew) hg _ _ (fun j v hj=>?_)⟩;rw[hseg,←hxs,List.getElem?_drop,List.getElem?_take] at hj
   split at hj
   ·simpa using hj
   ·cases hj
 have hap:∀ty sc,(Builtin.append_ #[23,23] ty #[.slice (some ⟨g,0,none⟩) i c,.slice (some A) m sc]).run Tryz.prog w.drew=.ok (.slice (some ⟨g,0,none⟩) (i+m) c) (w.drew.setRow g (layV cur.toList (i*3) seg).toArray):=fun ty sc=>by
  have h:=run_append_room (P:=Tryz.prog) w.drew 23 ty 75 i0 Tryz.underlying23 hi0 g i c cur hg A m sc seg (by rw[hsl,hz1]) hsrc (fun v hv=>h1c v (by rw[hseg] at hv;exact List.mem_of_mem_drop hv)) (by omega) (by rw[hz1,hsl,hsz];omega);rw[hz1] at h;exact h
 obtain⟨C1,hC1⟩:∃C1,C1=(layV cur.toList (i*3) seg).toArray:=⟨_,rfl⟩;have hC1s:C1.size=c*3:=by rw[hC1,z0x (by rw[hsl,hsz];omega),hsz]
 have hC1l:layV cur.toList (i*3) seg=C1.toList:=by rw[hC1]
 rw[←hC1] at hap;rw[hC1l];obtain⟨W1,hW1⟩:∃W1,W1=w.drew.setRow g C1:=⟨_,rfl⟩;have hg1:W1.heap[g]? =some (.cells C1 75 (0,0)):=by rw[hW1];exact setRow_heap w.drew g cur _ _ _ hg
 rw[←hW1] at hap
 have hcl:∀ty cc,(Builtin.clear_ #[23] ty #[.slice (some ⟨g,(i+m)*3,none⟩) 1 cc]).run Tryz.prog W1=.ok (.tuple #[]) (W1.setRow g (layV C1.toList ((i+m)*3) zs).toArray):=fun ty cc=>
  z2x W1 23 75 ty (Value.agg #[.int .i64 0,.int .i64 0,.int .i64 0]) zs Tryz.underlying23 (fun w=>by simp[zeroValue,typeInfo,hi0,hz0]) hzs.symm g ((i+m)*3) cc C1 75 hg1 (by rw[hzl,hC1s];omega) hzo
 have hfin:W1.setRow g (layV C1.toList ((i+m)*3) zs).toArray=w.drew.setRow g (layV C1.toList ((i+m)*3) zs).toArray:=by rw[hW1,setRow_setRow]
 have mixed:Tryz.prog.follows Departure.mixedOrders=true:=by kernel_rfl
 have hic:i≤c:=by omega
 have hjc:i+1≤c:=by omega
 have hi1:i≤i+m+1:=by omega
 have hi2:i+1≤i+m+1:=by omega
 have hp0:¬((i:Int)=(i:Int)+1):=by omega
 have hp1:(0:Int)≤(i:Int)+1:=by omega
 have hp2:(i:Int)+1≤(i:Int)+(m:Int)+1:=by omega
 have hp3:(i:Int)≤(i:Int)+1:=by omega
 have hp4:(i:Int)+1≤(c:Int):=by omega
 have hp5:(i:Int)+(m:Int)≤(c:Int):=by omega
 have hp6:(i:Int)+(m:Int)+1≤(c:Int):=by omega
 have hp7:¬(c=i+m):=by omega
 have hp8:i+m≤c:=by omega
 have HA:=hid hA;have HAP:=hid hap;have HCL:=hid hcl;have HF:=hid hfin;clear hA hsrc hap hcl hfin hg1 hW1 hC1l hC1s hC1 hsl hxl hzo hzl hg hsz hcm hxs h1c hseg hzs
 go_enter Tryz.func54,Tryz.ntmps54
 go_wp2_with fail
 go_region_law_o (refine z1x rfl (.tmp 22) (.tmp 25) 23 rfl (.slice (some ⟨g,0,none⟩) i c) (.slice (some A) m (c-(i+1))) (by simp[Act.eval,Act.put]) (by simp[Act.eval,Act.put,HA.out]) (HAP.out 23 _) ?_)
 go_wp2_with (simp only[HCL.out])
 all_goals (go_ret;exact⟨rfl,HF.out⟩)
theorem zfe (B n i:Nat) (v:Value) (xs:List Value) (w:World) (h:RowAt B w 75 3 v n xs) (hi:i<n) (h1:∀u∈xs,u.oneCell'=true):
  Calls Tryz.prog 54 #[v,.int .i64 i,.int .i64 ((i:Int)+1)] w fun e w'=>∃v',e=.returned v'∧RowAt B w' 75 3 v' (n-1) (xs.take (i*3)++xs.drop ((i+1)*3))∧w.grownBy w' (rowBlk v)∧rowBlk v'=rowBlk v:=by
 obtain⟨m,rfl⟩:∃m,n=i+m+1:=⟨n-(i+1),by omega⟩
 rcases h.2 with⟨A,rfl,h0⟩|⟨g,cap,cur,rfl,hc,hBg,hg,hnc,hcm,hcs,htk⟩
 ·omega
 ·have hb:rowBlk (.slice (some ⟨g,0,none⟩) (i+m+1) cap)=some g:=by simp[rowBlk,Nat.ne_of_gt hc]
  have hl:(xs.drop ((i+1)*3)).length=m*3:=by rw[List.length_drop,h.1];omega
  have hlen:(xs.take (i*3)++xs.drop ((i+1)*3)).length=(i+m)*3:=by
   rw[List.length_append,hl,List.length_take,h.1];omega
  rw[hb,Nat.add_sub_cancel];refine(zk3 g cap i m cur xs (xs.drop ((i+1)*3)) _ w hg hcs hnc hcm htk h1 rfl rfl).mono ?_;rintro e w' ⟨rfl,rfl⟩;have s1:=z0x (cur:=cur) (o:=i*3) (vs:=xs.drop ((i+1)*3)) (by rw[hl,hcs];omega);have s2:(layV cur.toList (i*3) (xs.drop ((i+1)*3))).length=cap*3:=by rw[List.size_toArray] at s1;rw[s1,hcs]
  refine⟨_,rfl,⟨hlen,.inr ⟨g,cap,_,rfl,hc,hBg,setRow_heap w.drew g cur _ _ _ hg,by omega,hcm,?_,?_⟩⟩,z3u z1s,by simp[rowBlk,Nat.ne_of_gt hc]⟩
  ·rw[List.size_toArray,z1w,s2];rw[s2]
   show(i+m)*3+3≤_;omega
  ·show(layV (layV cur.toList (i*3) (xs.drop ((i+1)*3))) ((i+m)*3) _).take ((i+m)*3)=_;rw[z5t (by rw[s2];omega),show(i+m)*3=i*3+(xs.drop ((i+1)*3)).length by rw[hl];omega,z4h (by rw[Array.length_toList,hcs];omega),←htk,List.take_take,Nat.min_eq_left (by omega)]
end Go.Proofs.YtmmpkfcdfcldlaaGreat
