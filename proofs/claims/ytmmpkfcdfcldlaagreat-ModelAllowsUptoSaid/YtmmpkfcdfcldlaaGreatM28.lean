/- Parts of the proof, side by side: MoPut, MoTake, MoParent, MoFull, MoRan, MoFile. -/
import Derived.Test.YtmmpkfcdfcldlaaGreatM27
import Derived.Test.YtmmpkfcdfcldlaaGreatM17
import Derived.Test.YtmmpkfcdfcldlaaGreatM04
import Derived.Test.YtmmpkfcdfcldlaaGreatM19
set_option linter.unusedVariables false
set_option linter.unusedSimpArgs false
namespace Go.Proofs.YtmmpkfcdfcldlaaGreat
open Lib (hid)
open Go.RowKit
theorem z1t {α:Type} (f:α→List Value) (k:Nat) (hk:∀x,(f x).length=k):∀(l:List α) (i:Nat),(l.flatMap f).take (i*k)=(l.take i).flatMap f
 | [],i=>by simp
 | y::l,0=>by simp
 | y::l,i+1=>by
  rw[List.flatMap_cons,List.take_succ_cons,List.flatMap_cons,←z1t f k hk l i,Nat.add_mul,Nat.one_mul,Nat.add_comm,List.take_append,List.take_of_length_le (by rw[hk];omega),hk,Nat.add_sub_cancel_left]
theorem z1u {α:Type} (f:α→List Value) (k:Nat) (hk:∀x,(f x).length=k):∀(l:List α) (i:Nat),(l.flatMap f).drop (i*k)=(l.drop i).flatMap f
 | [],i=>by simp
 | y::l,0=>by simp
 | y::l,i+1=>by
  rw[List.flatMap_cons,List.drop_succ_cons,←z1u f k hk l i,Nat.add_mul,Nat.one_mul,Nat.add_comm,List.drop_append,List.drop_eq_nil_of_le (by rw[hk];omega),hk,Nat.add_sub_cancel_left,List.nil_append]
theorem zkp (es:List En):∀u∈es.flatMap enV,u.oneCell'=true:=by
 intro u hu;obtain⟨e,_,h⟩:=List.mem_flatMap.1 hu;simp[enV] at h
 rcases h with rfl|rfl<;>rfl
set_option maxRecDepth 100000 in
set_option maxHeartbeats 8000000 in
theorem z7x (B p:Nat) (s:St) (zs:List (Ino×Value)) (vI vO vM:Value) (i:Nat) (x:Ino) (name:ByteArray) (num:Int) (g n d:Nat) (w:World) (hO:Own2 B w p s zs vI vO vM) (hB:B≤w.heap.size) (hx:s.inos[i]? =some x) (hvI:vI=.slice (some ⟨g,0,none⟩) n d) (hr:RiseE x.ents) (hno:∀e∈x.ents,e.name≠name)
  (hlen:x.ents.length≤1000000) (hs:Sized { s with inos:=s.inos.set i { x with ents:=putE x.ents name num } }):
  Calls Tryz.prog 108 #[.pointer (some ⟨g,i*4,.none⟩),.string name,.int .i64 num] w fun e w'=>e=.returned (.tuple #[])∧Turns B p w w'∧∃zs',Own2 B w' p { s with inos:=s.inos.set i { x with ents:=putE x.ents name num } } zs' vI vO vM:=by
 obtain⟨g',c,E,m,d2,hv,hz,hg,hBg,hil,_,_,c2,_,hfz,hmd,hE⟩:=hO.at_ hx;have hgg:g'=g:=by rw[hvI] at hv;injection hv with e1 _ _;injection e1 with e1;injection e1 with e1;exact e1.symm
 subst hgg;have hm:m=x.ents.length:=hE.1.symm;have hmb:m≤1000000:=by omega
 have HM:=hid hm;have HO:=hid hO;have HE:=hid hE;have HNO:=hid hno;have HS:=hid hs;have HZ:=hid hz;have HFZ:=hid hfz;have HVI:=hid hvI;have HX:=hid hx;have HMD:=hid hmd;clear hO hE hno hs hz hfz hv hvI hx hmd hm hlen
 go_enter Tryz.func108,Tryz.ntmps108
 go_wp2_with fail;refine(z1y x.ents E m d2 name _ HE.out (by omega) hr).mono ?_;rintro e5 w5 ⟨k,b,rfl,hb5,hpos⟩
 have hb:b=false:=by
  cases b
  ·rfl
  ·obtain⟨e,he,hn⟩:=hpos.is_ rfl;exact absurd hn (HNO.out e (List.mem_of_getElem? he))
 subst hb;have hput:=zf9 x.ents name k num hpos;have hkm:k≤m:=by have:=hpos.le;have:=HM.out;omega
 have HO5:=HO.out.below hb5;have hg5:g'<w5.heap.size:=Nat.lt_of_lt_of_le hg hb5.size;have c5:=(hb5.cell (p:=⟨g',i*4+2,none⟩) hg).trans c2;obtain⟨V2,hV2,_,_,hal,hlt3⟩:=z8m w5 name num;have HOV:=hid (HO5.below hal);have hgv:g'<V2.heap.size:=Nat.lt_of_lt_of_le hg5 hal.size;have cv:=(hal.cell (p:=⟨g',i*4+2,none⟩) hg5).trans c5;have hbv:V2.heap[w5.heap.size]? =some (.cells #[.string name,.int .i64 num] 73 (0,0)):=by rw[←hV2];exact Go.heap_alloc_new w5 _
 have hBV:B≤V2.heap.size:=by have:=hb5.size;have:=hal.size;omega
 have hrow:=HOV.out.ents (x,.slice E m d2) (List.mem_of_getElem? HZ.out);have hrow5:=HO5.ents (x,.slice E m d2) (List.mem_of_getElem? HZ.out)
 have hne:rowBlk (.slice E m d2)≠some w5.heap.size:=fun e=>by
  have:=(hrow5.blk _ e).2.1;omega
 obtain⟨c1,hc1⟩:∃c1,V2.heap[g']? =some (.cells c1 59 (0,0)):=by
  obtain⟨gg,_,cur,hvv,_,_,_,hgc,_⟩:=HOV.out.rowI.open_ (by have:=(List.getElem?_eq_some_iff.1 HZ.out).1;omega);rw[HVI.out] at hvv;injection hvv with e1 _ _
  injection e1 with e1
  injection e1 with e1
  subst e1;exact⟨cur,hgc⟩
 have hnI:rowBlk (.slice E m d2)≠some g':=z1g fun a ha=>by
  obtain⟨_,_,c3,h3⟩:=hrow.blk a ha;exact z0k h3 hc1 (by decide)
 have hfv:∀j,V2.frozen? ⟨g',j,none⟩=false:=fun j=>frozen_of_row V2 g' j _ _ hc1
 have HT5:=hid (Turns.of_below (B:=B) (p:=p) (Cv.next hb5 hal) hB);have HROW:=hid hrow;have HNE:=hid hne;have HNI:=hid hnI;have HBV:=hid hbv;have HFV:=hid hfv;have HPUT:=hid hput;have HC1:=hid hc1;clear hb5 hpos hput HO5 c2 hal hbv hrow hrow5 hne hnI hfv hc1;go_wp2_with fail;refine(zjx B m k w5.heap.size (.slice E m d2) (x.ents.flatMap enV) [.string name,.int .i64 num] V2 (by have h:=HROW.out;rwa [←HM.out] at h) hBV hkm (by omega) rfl HBV.out HNE.out (by intro v hv;simp at hv;rcases hv with rfl|rfl<;>rfl) (zkp _)).mono ?_;rintro e6 w6 ⟨v',rfl,hrow',hgr,hbl⟩;obtain⟨A',c',rfl,hok'⟩:=hrow'.slice;have g6:w6.heap[g']? =V2.heap[g']?:=hgr.block g' hgv (fun e=>HNI.out e.symm);have c6:w6.cell? ⟨g',i*4+2,none⟩=some (.slice E m d2):=(World.cell?_of_block (a:=⟨g',i*4+2,none⟩) g6).trans cv;have f6:w6.frozen? ⟨g',i*4+2,none⟩=false:=(World.frozen?_of_block (a:=⟨g',i*4+2,none⟩) g6).trans (HFV.out _)
 have hflat:(x.ents.flatMap enV).take (k*2)++[.string name,.int .i64 num]++(x.ents.flatMap enV).drop (k*2)=(putE x.ents name num).flatMap enV:=by
  rw[HPUT.out,z1t enV 2 (fun _=>rfl),z1u enV 2 (fun _=>rfl),List.flatMap_append,List.flatMap_append]
  rfl
 have hpl:(putE x.ents name num).length=m+1:=by rw[HPUT.out,List.length_append,List.length_append,List.length_take,List.length_drop];have:=HM.out;simp;omega
 rw[hflat] at hrow';rw[←hpl] at hrow' hbl;have hfin:=HOV.out.setE hBV HZ.out hgr hrow' hbl HS.out HVI.out;rw[hpl] at hfin;have HFIN:=hid hfin;clear hfin hrow' hgr hbl hflat g6;go_wp2_with fail
 go_returns
 exact⟨rfl,HT5.out.trans HFIN.out.2,_,HFIN.out.1⟩
set_option maxRecDepth 100000 in
set_option maxHeartbeats 8000000 in
theorem zk0 (B p:Nat) (s:St) (zs:List (Ino×Value)) (vI vO vM:Value) (i:Nat) (x:Ino) (name:ByteArray) (g n d:Nat) (w:World) (hO:Own2 B w p s zs vI vO vM) (hx:s.inos[i]? =some x) (hvI:vI=.slice (some ⟨g,0,none⟩) n d) (hr:RiseE x.ents) (hno:∀e∈x.ents,e.name≠name) (hlen:x.ents.length≤1000000):
  Calls Tryz.prog 119 #[.pointer (some ⟨g,i*4,.none⟩),.string name] w fun e w'=>e=.panicked (faultP 1)∧Below w.heap.size w w':=by
 obtain⟨g',c,E,m,d2,hv,hz,hg,hBg,hil,_,_,c2,_,hfz,hmd,hE⟩:=hO.at_ hx;have hgg:g'=g:=by rw[hvI] at hv;injection hv with e1 _ _;injection e1 with e1;injection e1 with e1;exact e1.symm
 subst hgg;have hm:m=x.ents.length:=hE.1.symm;have hmb:m≤1000000:=by omega
 have HE:=hid hE;have HNO:=hid hno;clear hO hE hno hz hfz hv hvI hx hmd hm hlen
 go_enter Tryz.func119,Tryz.ntmps119
 go_wp2_with fail;refine(z1y x.ents E m d2 name _ HE.out (by omega) hr).mono ?_;rintro e5 w5 ⟨k,b,rfl,hb5,hpos⟩
 have hb:b=false:=by
  cases b
  ·rfl
  ·obtain⟨e,he,hn⟩:=hpos.is_ rfl;exact absurd hn (HNO.out e (List.mem_of_getElem? he))
 subst hb;have HB:=hid hb5;clear hb5 hpos c2;go_wp2_with fail;refine(z0g _ _).mono ?_;rintro e3 w3 ⟨rfl,rfl⟩;go_wp2_with fail;exact z0b rfl ⟨rfl,HB.out⟩
set_option maxRecDepth 100000 in
set_option maxHeartbeats 8000000 in
theorem z9e (B p:Nat) (s:St) (zs:List (Ino×Value)) (vI vO vM:Value) (i:Nat) (x:Ino) (en:En) (name:ByteArray) (g n d:Nat) (w:World) (hO:Own2 B w p s zs vI vO vM) (hB:B≤w.heap.size) (hx:s.inos[i]? =some x) (hvI:vI=.slice (some ⟨g,0,none⟩) n d) (hr:RiseE x.ents) (hen:en∈x.ents) (hnm:en.name=name)
  (hlen:x.ents.length≤1000000) (hs:Sized { s with inos:=s.inos.set i { x with ents:=dropE x.ents name } }):
  Calls Tryz.prog 119 #[.pointer (some ⟨g,i*4,.none⟩),.string name] w fun e w'=>e=.returned (.int .i64 (entG x.ents name))∧Turns B p w w'∧∃zs',Own2 B w' p { s with inos:=s.inos.set i { x with ents:=dropE x.ents name } } zs' vI vO vM:=by
 obtain⟨g',c,E,m,d2,hv,hz,hg,hBg,hil,_,_,c2,_,hfz,hmd,hE⟩:=hO.at_ hx;have hgg:g'=g:=by rw[hvI] at hv;injection hv with e1 _ _;injection e1 with e1;injection e1 with e1;exact e1.symm
 subst hgg;have hm:m=x.ents.length:=hE.1.symm;have hmb:m≤1000000:=by omega
 have HM:=hid hm;have HO:=hid hO;have HE:=hid hE;have HEN:=hid (show ∃e∈x.ents,e.name=name from ⟨en,hen,hnm⟩);have HS:=hid hs;have HZ:=hid hz;have HVI:=hid hvI;obtain⟨ER,hER⟩:∃ER,entG x.ents name=ER:=⟨_,rfl⟩;rw[hER];have HER:=hid hER;clear hO hE hs hz hfz hv hvI hx hmd hm hlen hER hen hnm
 go_enter Tryz.func119,Tryz.ntmps119
 go_wp2_with fail;refine(z1y x.ents E m d2 name _ HE.out (by omega) hr).mono ?_;rintro e5 w5 ⟨k,b,rfl,hb5,hpos⟩
 have hb:b=true:=by
  obtain⟨e,he,hn⟩:=HEN.out;obtain⟨j,hj⟩:=List.getElem?_of_mem he
  have:k=j:=by
   rcases Nat.lt_trichotomy k j with h|h|h
   ·have h1:=hpos.hi k;cases hk:x.ents[k]? with
    | none=>
     have h2:=(List.getElem?_eq_some_iff.1 hj).1;rw[List.getElem?_eq_none_iff] at hk;omega
    | some y=>
     have h2:=hr k j y e h hk hj;rw[hn,h1 y (Nat.le_refl _) hk] at h2;cases h2
   ·exact h
   ·have h1:=hpos.lo j e h hj;rw[hn,z2b] at h1;cases h1
  subst this;exact hpos.of_ ⟨e,hj,hn⟩
 subst hb;have hdrop:=z8y x.ents name k hr hpos;obtain⟨e,he,hn⟩:=hpos.is_ rfl;have hnum:e.num=ER:=by rw[←HER.out];exact((zb9 x.ents name k true hr hpos).2 e he rfl).symm
 have hkm:k<m:=by have:=(List.getElem?_eq_some_iff.1 he).1;have:=HM.out;omega
 have HO5:=HO.out.below hb5;have hg5:g'<w5.heap.size:=Nat.lt_of_lt_of_le hg hb5.size;have c5:=(hb5.cell (p:=⟨g',i*4+2,none⟩) hg).trans c2;obtain⟨ge,oe,e',hEE,hge,he',_,_,f0,f1⟩:=(HE.out.below hb5).get k hkm;have ex:e=e':=by rw[he] at he';exact Option.some.inj he'
 subst ex;rw[hnum] at f1;subst hEE;have hB5:B≤w5.heap.size:=by have:=hb5.size;omega
 have hrow:=HO5.ents _ (List.mem_of_getElem? HZ.out)
 obtain⟨c1,hc1⟩:∃c1,w5.heap[g']? =some (.cells c1 59 (0,0)):=by
  obtain⟨gg,_,cur,hvv,_,_,_,hgc,_⟩:=HO5.rowI.open_ (by have:=(List.getElem?_eq_some_iff.1 HZ.out).1;omega);rw[HVI.out] at hvv;injection hvv with e1 _ _
  injection e1 with e1
  injection e1 with e1
  subst e1;exact⟨cur,hgc⟩
 have hnI:rowBlk (.slice (some ⟨ge,oe,none⟩) m d2)≠some g':=z1g fun a ha=>by
  obtain⟨_,_,c3,h3⟩:=hrow.blk a ha;exact z0k h3 hc1 (by decide)
 have hfv:∀j,w5.frozen? ⟨g',j,none⟩=false:=fun j=>frozen_of_row w5 g' j _ _ hc1
 have k0:(0:Int)≤(k:Int):=by omega
 have k1:(k:Int)<(m:Int):=by omega
 have kw:IntKind.i64.wrap ((k:Int)+1)=(k:Int)+1:=by rw[IntKind.wrap_i64];omega
 have HT5:=hid (Turns.of_below (B:=B) (p:=p) hb5 hB);have HROW:=hid hrow;have HNI:=hid hnI;have HFV:=hid hfv;have HDROP:=hid hdrop;have HO5':=hid HO5;clear hb5 hpos hdrop HO5 c2 hrow hnI hfv hc1 he he' hn hnum;go_wp2_with fail;refine(z0j _ _).mono ?_;rintro e3 w3 ⟨rfl,rfl⟩;go_wp2_with fail;refine(zjz B m k (.slice (some ⟨ge,oe,none⟩) m d2) (x.ents.flatMap enV) w5 (by have h:=HROW.out;rwa [←HM.out] at h) hkm (zkp _)).mono ?_;rintro e6 w6 ⟨v',rfl,hrow',hgr,hbl⟩;obtain⟨A',c',rfl,hok'⟩:=hrow'.slice;have g6:w6.heap[g']? =w5.heap[g']?:=hgr.block g' hg5 (fun e=>HNI.out e.symm);have c6:w6.cell? ⟨g',i*4+2,none⟩=some (.slice (some ⟨ge,oe,none⟩) m d2):=(World.cell?_of_block (a:=⟨g',i*4+2,none⟩) g6).trans c5;have f6:w6.frozen? ⟨g',i*4+2,none⟩=false:=(World.frozen?_of_block (a:=⟨g',i*4+2,none⟩) g6).trans (HFV.out _)
 have hflat:(x.ents.flatMap enV).take (k*2)++(x.ents.flatMap enV).drop ((k+1)*2)=(dropE x.ents name).flatMap enV:=by
  rw[HDROP.out,z1t enV 2 (fun _=>rfl),z1u enV 2 (fun _=>rfl),List.flatMap_append]
 have hpl:(dropE x.ents name).length=m-1:=by rw[HDROP.out,List.length_append,List.length_take,List.length_drop];have:=HM.out;omega
 rw[hflat] at hrow';rw[←hpl] at hrow' hbl;have hfin:=HO5'.out.setE hB5 HZ.out hgr hrow' (.inl hbl) HS.out HVI.out;rw[hpl] at hfin;have HFIN:=hid hfin;clear hfin hrow' hgr hbl hflat g6;go_wp2_with fail;go_ret;exact⟨rfl,HT5.out.trans HFIN.out.2,_,HFIN.out.1⟩
set_option maxRecDepth 100000 in
set_option maxHeartbeats 8000000 in
theorem z2r (B q p:Nat) (s:St) (c:Ca) (fd num:Int) (dir:Bool) (data:ByteArray) (nv:Value) (zs:List (Ino×Value)) (vI vO vM:Value) (path:ByteArray) (w:World) (hD:DoerAt w q p c fd num dir data nv) (hO:Own2 B w p s zs vI vO vM) (hg:Good s) (hs:path.size≤140737488355328):
  Calls Tryz.prog 104 #[.pointer (some ⟨q,0,.none⟩),.string path] w fun e w'=>Below w.heap.size w w'∧(((parentV s.inos path).2.2≠0∧e=.panicked (faultP (parentV s.inos path).2.2))∨((parentV s.inos path).2.2=0∧∃g n d i x,vI=.slice (some ⟨g,0,none⟩) n d∧s.inos[i]? =some x∧x.num=(parentV s.inos path).1∧x.dir=true∧e=.returned (.tuple #[.pointer (some ⟨g,i*4,none⟩),.string (parentV s.inos path).2.1]))):=by
 have hq:=hD.lt;have d0:=hD.c0;have hp:=hO.lt;have HO:=hid hO;have HG:=hid hg;clear hO hg hD;obtain⟨R,hR⟩:∃R,parentV s.inos path=R:=⟨_,rfl⟩;rw[hR];unfold parentV at hR;have hlen:=z3b path.data.toList
 by_cases hpar:(parseL path.data.toList).2=0
 rotate_left
 ·rw[if_pos hpar] at hR;subst hR;have hcp:codeP (parseL path.data.toList).2≠0:=by unfold codeP;rw[if_neg hpar];split<;>decide
  have HPAR:=hid hpar;obtain⟨C,hC⟩:∃C,codeP (parseL path.data.toList).2=C:=⟨_,rfl⟩;simp only;rw[hC] at hcp ⊢;have HC:=hid hC;have HCP:=hid hcp;clear hpar hC hcp
  go_enter Tryz.func104,Tryz.ntmps104
  go_wp2_with fail;refine(z6v path _ hs HPAR.out).mono ?_;rintro e5 w5 ⟨rfl,hb5⟩;rw[HC.out]
  go_simp
  exact z0b rfl ⟨hb5,.inl ⟨HCP.out,rfl⟩⟩
 rw[if_neg (by rw[hpar];simp)] at hR;have HPAR:=hid hpar;obtain⟨NS,hNS⟩:∃NS,(parseL path.data.toList).1=NS:=⟨_,rfl⟩;rw[hNS] at hR hlen;have HNS:=hid hNS;have HR:=hid hR;clear hpar hNS hR
 by_cases hnil:NS=[]
 ·subst hnil;have hr:=HR.out;rw[if_pos rfl] at hr;subst hr
  go_enter Tryz.func104,Tryz.ntmps104
  go_wp2_with fail;refine(z6c path _ hs HPAR.out).mono ?_;rintro e5 w5 ⟨A5,c5,rfl,hc5,hn5,hb5⟩;have HB:=hid hb5;rw[HNS.out];clear hc5 hn5 hb5;go_wp2_with fail;refine(z0g _ _).mono ?_;rintro e3 w3 ⟨rfl,rfl⟩;go_wp2_with fail;exact z0b rfl ⟨HB.out,.inl ⟨by decide,rfl⟩⟩
 obtain⟨j,hj⟩:∃j,NS.length=j+1:=by
  cases hO:NS with
  | nil=>exact absurd hO hnil
  | cons a l=>exact⟨l.length,by simp⟩
 have hr:=HR.out;rw[if_neg hnil] at hr
 have hlast:NS.getLastD []=NS.getD j []:=by
  rw[List.getLastD_eq_getLast?,List.getLast?_eq_getElem?,hj,List.getD_eq_getElem?_getD]
  rfl
 obtain⟨NM,hNM⟩:∃NM,NS.getD j []=NM:=⟨_,rfl⟩;have HPL:=z6w HG.out NS.dropLast;obtain⟨RW,hRW⟩:∃RW,walkG s.inos NS.dropLast 1=RW:=⟨_,rfl⟩;obtain⟨KP,hKP⟩:∃KP,placeG s.inos (walkG s.inos NS.dropLast 1)=KP:=⟨_,rfl⟩;rw[hKP,hRW] at HPL;rw[hlast,hNM,hRW] at hr;obtain⟨N,C⟩:=RW;simp only at HPL hr;have HR2:=hid hr;have HW:=hid hRW;have HK:=hid hKP;have HPLA:=hid HPL;have HJ:=hid hj;have hj4:j≤65536:=by omega
 have HNM:=hid hNM;have q1:((j:Int)+1==0)=false:=by rw[beq_eq_false_iff_ne];omega
 have lw:IntKind.i64.wrap ((j:Int)+1-1)=(j:Int):=by rw[IntKind.wrap_i64];omega
 have lw3:IntKind.i64.wrap (j:Int)=(j:Int):=by rw[IntKind.wrap_i64];omega
 have lw2:IntKind.i64.wrap (((j+1:Nat):Int)-1)=(j:Int):=by rw[IntKind.wrap_i64];omega
 have j0:(0:Int)≤(j:Int):=by omega
 have j2:(j:Int)<(j:Int)+1:=by omega
 clear hr HR hRW hKP HPL hlast hnil hj hNM
 go_enter Tryz.func104,Tryz.ntmps104
 go_wp2_with fail;refine(z6c path _ hs HPAR.out).mono ?_;rintro e5 w5 ⟨A5,c5,rfl,hc5,hn5,hb5⟩;rw[HNS.out] at hc5 hn5 ⊢;rw[HJ.out] at hc5 hn5 ⊢;have HB5:=hid hb5;have HO5:=hid (HO.out.below hb5);have d5:=(hb5.cell (p:=⟨q,0,none⟩) hq).trans d0;have hq5:q<w5.heap.size:=Nat.lt_of_lt_of_le hq hb5.size;have HNI:=hid hn5.init;have j1:(j:Int)≤(c5:Int):=by omega
 have j3:j≤c5:=by omega
 obtain⟨gn,on,rfl,hgn,hcn⟩:=hn5.2 (by omega);have hcj:=hcn j (by omega);rw[HNM.out] at hcj;have hstr:strV NM=.string (txt NM):=rfl;rw[hstr] at hcj;have HCJ:=hid hcj;clear hb5 hn5 hcn hcj hstr;go_wp2_with fail;refine(z0j _ _).mono ?_;rintro e3 w3 ⟨rfl,rfl⟩;go_wp2_with fail
 go_region_held3 (fun w'=>w'.cell? ⟨q,0,none⟩=some (.pointer (some ⟨p,0,none⟩)))
  (first|go_keep|(rw[hb6.cell (by simp;omega)];simp[*]))
  (first
   | (go_at_call 59;refine(z6b p s (some ⟨gn,on,none⟩) j c5 NS.dropLast _ (HO5.out.ptr.below (Cv.drewN_below (Below.refl _ _) 1)) HG.out (HNI.out.below (Cv.drewN_below (Below.refl _ _) 1)) hj4).mono ?_;rintro e6 w6 ⟨rfl,hb6,_⟩;rw[HK.out,HW.out]))
 have hb7:Below w5.heap.size w5 w6:=Cv.next (Cv.drewN_below (Below.refl _ _) 1) hb6;have HB:=hid (Cv.next HB5.out hb7);have HO6:=hid (HO5.out.below hb7);have d6:=(hb7.cell (p:=⟨q,0,none⟩) hq5).trans d5;have n6:=(hb7.cell (p:=⟨gn,on+j,none⟩) hgn).trans HCJ.out;clear hb6 hb7;have hr:=HR2.out
 by_cases hC:C=0
 ·subst hC;rw[if_neg (by simp)] at hr;obtain⟨i,x,hk,hx,hxn⟩:=HPLA.out rfl;obtain⟨g,cc,E,m,d,hv,_,_,_,hil,x0,x1,_⟩:=HO6.out.at_ hx
  have hdir:dirAt s.inos N=x.dir:=by
   unfold dirAt;rw[←hxn,HG.out.idx hx,z0c,hx]
  rw[hdir] at hr;have p6:=HO6.out.s0;rw[hv] at p6;rw[hk];have i0:(0:Int)≤(i:Int):=by omega
  have i1:(i:Int)<(s.inos.length:Int):=by omega
  cases hd:x.dir
  ·rw[if_pos hd] at hr;subst hr;rw[hd] at x1;go_wp2_with fail;refine(z0j _ _).mono ?_;rintro e3 w3 ⟨rfl,rfl⟩;go_wp2_with fail;refine(z0g _ _).mono ?_;rintro e3 w3 ⟨rfl,rfl⟩;go_wp2_with fail
   first|exact z0b rfl ⟨HB.out,.inl ⟨by decide,rfl⟩⟩|exact z0b rfl ⟨HB.out,rfl⟩
  ·rw[if_neg (by rw[hd];simp)] at hr;subst hr;rw[hd] at x1;go_wp2_with fail;refine(z0j _ _).mono ?_;rintro e3 w3 ⟨rfl,rfl⟩;go_wp2_with fail;refine(z0j _ _).mono ?_;rintro e3 w3 ⟨rfl,rfl⟩;go_wp2_with fail;go_quiet (fail);go_wp2_with fail;go_ret2
   first|exact⟨Cv.next HB.out (Cv.drewN_below (Below.refl _ _) _),.inr ⟨rfl,g,_,cc,i,x,hv,hx,hxn,hd,rfl⟩⟩|exact⟨Cv.next HB.out (Cv.drewN_below (Below.refl _ _) _),i,x,hx,hxn,hd,rfl⟩
 ·rw[if_pos hC] at hr;subst hr;have hne:(C != 0)=true:=by rw[bne_iff_ne];exact hC
  go_wp2_with fail;refine(z0g _ _).mono ?_;rintro e3 w3 ⟨rfl,rfl⟩;go_wp2_with fail
  first|exact z0b rfl ⟨HB.out,.inl ⟨hC,rfl⟩⟩|exact z0b rfl ⟨HB.out,rfl⟩
theorem zk1 (es:List En) (a b:ByteArray):fullE es a b≤es.length:=by
 induction es with
 | nil=>exact Nat.le_refl _
 | cons e es ih=>
  unfold fullE;rw[List.length_cons]
  split<;>omega
set_option maxRecDepth 100000 in
set_option maxHeartbeats 8000000 in
theorem z6d (g o:Nat) (es:List En) (E:Option Addr) (m2 d2:Nat) (name but:ByteArray) (w:World) (hcell:w.cell? ⟨g,o+2,none⟩=some (.slice E m2 d2)) (hE:EntsAt none w E m2 es) (hm:m2≤1099511627776) (htx:∀e∈es,e.name.size≤140737488355328) (hs:name.size≤140737488355328):
  Calls Tryz.prog 106 #[.pointer (some ⟨g,o,.none⟩),.string name,.string but] w fun e w'=>e=.returned (.bool (decide (4≤fullE es name but)))∧Below w.heap.size w w':=by
 obtain⟨FF,hFF⟩:∃FF,fullE es name but=FF:=⟨_,rfl⟩;rw[hFF];have hFF2:FF≤1099511627776:=by have:=zk1 es name but;have:=hE.1;omega
 have HE:=hid hE;have HTX:=hid htx;have HFF:=hid hFF;clear hE htx hFF
 go_enter Tryz.func106,Tryz.ntmps106
 go_wp2_with fail
 go_loopw [7,15] (fun many j wr=>∃q a:Nat,j=.int .i64 q∧many=.int .i64 a∧q≤m2∧Below w.heap.size w wr∧a+fullE (es.drop q) name but=FF) (fun _ j _=>m2-(intOf j).toNat)
 case atStart=>exact⟨0,0,rfl,rfl,by omega,Below.refl _ _,by rw[List.drop_zero,Nat.zero_add];exact HFF.out⟩
 case round=>
  obtain⟨q,a,rfl,rfl,hq,hbel,hc⟩:=hrel;have HB:=hid hbel;have HEr:=hid (HE.out.below hbel);clear hbel;have ha:a≤1099511627776:=by omega
  by_cases hlt:q<m2
  ·obtain⟨g2,off2,y,rfl,hg2,hy,hdr,hmem,e0,e1⟩:=HEr.out.get q hlt;have hys:=HTX.out y hmem;rw[hdr,fullE] at hc;have k0:(0:Int)≤(q:Int):=by omega
   have k1:(q:Int)<(m2:Int):=by omega
   have aw:IntKind.i64.wrap ((a:Int)+1)=(a:Int)+1:=by rw[IntKind.wrap_i64];omega
   have HC:=hid hc;obtain⟨V2,hV2,v0,v1,hal,hlt3⟩:=z8m wr y.name y.num;have HB4:=hid (Cv.next HB.out hal);clear hdr hmem hy hc hal
   by_cases hb:y.name=but
   ·have qn:(y.name.toList==but.toList)=true:=z2g hb;have HB2:=hid hb;clear hb;go_wp2_with fail;go_roundw
    case rel=>exact⟨q+1,a,by go_num,rfl,by omega,HB4.out,by have:=HC.out;rw[if_neg (fun h=>h.1 HB2.out)] at this;omega⟩
    case measure=>simp[intOf];omega
   ·have qn:(y.name.toList==but.toList)=false:=z1d hb;have HB2:=hid hb;clear hb;obtain⟨B1,hB1⟩:∃B1,bktB y.name=B1:=⟨_,rfl⟩;obtain⟨B2,hB2'⟩:∃B2,bktB name=B2:=⟨_,rfl⟩;have HB1:=hid hB1;have HB3:=hid hB2';clear hB1 hB2';go_wp2_with fail;refine(z5j y.name _ (by unfold maxLen;omega)).mono ?_;rintro e5 w5 ⟨rfl,hb5⟩;rw[HB1.out];have HB5:=hid (Cv.next HB4.out hb5);clear hb5 e0 e1 v0 v1;go_wp2_with fail;refine(z5j name _ (by unfold maxLen;omega)).mono ?_;rintro e6 w6 ⟨rfl,hb6⟩;rw[HB3.out];have HB6:=hid (Cv.next HB5.out hb6);clear hb6
    by_cases hbb:B1=B2
    ·have qb:((B1:Int)==(B2:Int))=true:=by rw[hbb];exact beq_self_eq_true _
     have HBB:=hid hbb;clear hbb;go_wp2_with fail;go_roundw
     case rel=>exact⟨q+1,a+1,by go_num,by go_num,by omega,HB6.out,by have:=HC.out;rw[if_pos ⟨HB2.out,by rw[HB1.out,HB3.out];exact HBB.out⟩] at this;omega⟩
     case measure=>simp[intOf];omega
    ·have qb:((B1:Int)==(B2:Int))=false:=by rw[beq_eq_false_iff_ne];omega
     have HBB:=hid hbb;clear hbb;go_wp2_with fail;go_roundw
     case rel=>exact⟨q+1,a,by go_num,rfl,by omega,HB6.out,by have:=HC.out;rw[if_neg (fun h=>HBB.out (by rw[←HB1.out,←HB3.out];exact h.2))] at this;omega⟩
     case measure=>simp[intOf];omega
  ·have hnil:es.drop q=[]:=List.drop_eq_nil_of_le (by have:=HE.out.1;omega);rw[hnil,fullE] at hc;have q9:decide ((q:Int)<(m2:Int))=false:=by rw[decide_eq_false_iff_not];omega
   have HC:=hid hc;clear hc hnil;go_wp2_with fail;go_ret;refine⟨Cv.ret_bool ?_,HB.out⟩;have:=HC.out
   first|(rw[Bool.eq_iff_iff,decide_eq_true_eq,decide_eq_true_eq];omega)|rfl
def bstrV (s:ByteArray):Value:=.string s
def Ran (B q p:Nat) (c:Ca) (R:St×Re) (w:World) (e:Ending) (w':World):Prop:=
 Below B w w'∧((R.2.code≠0∧e=.panicked (faultP R.2.code))∨(R.2.code=0∧e=.returned (.tuple #[])∧(∃zs vI vO vM,Own2 B w' p R.1 zs vI vO vM)∧∃nv,DoerAt w' q p c R.2.fd R.2.num R.2.dir R.2.data nv∧RowAt B w' 9 1 nv R.2.names.length (R.2.names.map bstrV)))
structure Now (B q p:Nat) (s:St) (c:Ca) (zs:List (Ino×Value)) (vI vO vM:Value) (w w':World):Prop where
 hB:B≤w.heap.size
 hq:B≤q
 bel:Below w.heap.size w w'
 own:Own2 B w' p s zs vI vO vM
 doer:DoerAt w' q p c 0 0 false ⟨#[]⟩ (.slice none 0 0)
section
variable {B q p:Nat} {s:St} {c:Ca} {zs:List (Ino×Value)} {vI vO vM:Value} {w w' w'':World}
theorem Now.step (h:Now B q p s c zs vI vO vM w w') (hb:Below w'.heap.size w' w''):Now B q p s c zs vI vO vM w w'':=⟨h.hB,h.hq,Cv.next h.bel hb,h.own.below hb,h.doer.below hb⟩
theorem Now.low (h:Now B q p s c zs vI vO vM w w'):Below B w w':=h.bel.mono h.hB
theorem Now.hB' (h:Now B q p s c zs vI vO vM w w'):B≤w'.heap.size:=Nat.le_trans h.hB h.bel.size
theorem Now.ne (h:Now B q p s c zs vI vO vM w w'):q≠p:=z0k h.doer.cell h.own.cell (by decide)
theorem Now.fail (h:Now B q p s c zs vI vO vM w w') {R:St×Re} {e:Ending} (hc:R.2.code≠0) (he:e=.panicked (faultP R.2.code)):Ran B q p c R w e w':=⟨h.low,.inl ⟨hc,he⟩⟩
theorem Now.done (h:Now B q p s c zs vI vO vM w w') {R:St×Re} {e:Ending} (hr:R.2={}) (he:e=.returned (.tuple #[])) (ht:Turns B p w' w'') (ho:∃zs vI vO vM,Own2 B w'' p R.1 zs vI vO vM):Ran B q p c R w e w'':=by
 refine⟨h.low.trans ht.below,.inr ⟨by rw[hr],he,ho,.slice none 0 0,?_,?_⟩⟩
 ·rw[hr];exact h.doer.turns h.ne ht
 ·rw[hr];exact⟨rfl,.inl ⟨none,rfl,rfl⟩⟩
theorem Now.ino (h:Now B q p s c zs vI vO vM w w') {g n d i:Nat} {x:Ino} (hvI:vI=.slice (some ⟨g,0,none⟩) n d) (hx:s.inos[i]? =some x):∃E m e,w'.cell? ⟨g,i*4,none⟩=some (.int .i64 x.num)∧w'.cell? ⟨g,i*4+1,none⟩=some (.bool x.dir)∧w'.cell? ⟨g,i*4+2,none⟩=some (.slice E m e)∧w'.cell? ⟨g,i*4+3,none⟩=some (.string x.data)∧EntsAt none w' E m x.ents∧g<w'.heap.size∧m=x.ents.length:=by
 obtain⟨g',c',E,m,d2,hv,hz,hg,hBg,hil,x0,x1,x2,x3,hfz,hmd,hE⟩:=h.own.at_ hx;have hgg:g'=g:=by rw[hvI] at hv;injection hv with e1 _ _;injection e1 with e1;injection e1 with e1;exact e1.symm
 subst hgg;exact⟨E,m,d2,x0,x1,x2,x3,hE,hg,hE.1.symm⟩
end
theorem Own2.other {B:Nat} {w w':World} {p b:Nat} {s:St} {zs:List (Ino×Value)} {vI vO vM:Value} (h:Own2 B w p s zs vI vO vM) (hg:w.grownBy w' (some b)) {cur:Array Value} {t:TypeId} {f:Nat×Nat} (hb:w.heap[b]? =some (.cells cur t f)) (h1:t≠26) (h2:t≠59) (h3:t≠73) (h4:t≠75) (h5:t≠3):Own2 B w' p s zs vI vO vM:=by
 have key:∀(e:TypeId) (k:Nat) (v:Value) (n:Nat) (xs:List Value),t≠e→RowAt B w e k v n xs→RowAt B w' e k v n xs:=fun e k v n xs hne hx=>hx.kept hg (fun a ha e2=>by
  obtain⟨_,_,c1,hc⟩:=hx.blk a ha;exact z0k hb hc hne (by injection e2))
 refine⟨h.hp,?_,h.inos,key _ _ _ _ _ h2 h.rowI,fun z hz=>key _ _ _ _ _ h3 (h.ents z hz),h.apart,key _ _ _ _ _ h4 h.rowO,key _ _ _ _ _ h5 h.rowM,h.sized⟩;rw[hg.block p h.lt (fun e=>by injection e with e;exact z0k hb h.cell h1 e.symm)];exact h.cell
section
variable {w:World} {q p:Nat} {c:Ca} {fd num:Int} {dir:Bool} {data:ByteArray} {nv:Value}
theorem DoerAt.setFd (h:DoerAt w q p c fd num dir data nv) (x:Int):DoerAt (w.setCell ⟨q,10,none⟩ (.int .i64 x)) q p c x num dir data nv:=⟨by rw[heap_setCell_same w q 10 _ _ _ h.cell];rfl⟩
theorem DoerAt.setNum (h:DoerAt w q p c fd num dir data nv) (x:Int):DoerAt (w.setCell ⟨q,11,none⟩ (.int .i64 x)) q p c fd x dir data nv:=⟨by rw[heap_setCell_same w q 11 _ _ _ h.cell];rfl⟩
theorem DoerAt.setDir (h:DoerAt w q p c fd num dir data nv) (x:Bool):DoerAt (w.setCell ⟨q,12,none⟩ (.bool x)) q p c fd num x data nv:=⟨by rw[heap_setCell_same w q 12 _ _ _ h.cell];rfl⟩
theorem DoerAt.setData (h:DoerAt w q p c fd num dir data nv) (x:ByteArray):DoerAt (w.setCell ⟨q,13,none⟩ (.string x)) q p c fd num dir x nv:=⟨by rw[heap_setCell_same w q 13 _ _ _ h.cell];rfl⟩
theorem DoerAt.setNames (h:DoerAt w q p c fd num dir data nv) (x:Value):DoerAt (w.setCell ⟨q,14,none⟩ x) q p c fd num dir data x:=⟨by rw[heap_setCell_same w q 14 _ _ _ h.cell];rfl⟩
theorem DoerAt.fz (h:DoerAt w q p c fd num dir data nv) (j:Nat):w.frozen? ⟨q,j,none⟩=false:=frozen_of_row w q j _ _ h.cell
theorem DoerAt.set_own {B j:Nat} {s:St} {zs:List (Ino×Value)} {vI vO vM u:Value} (h:DoerAt w q p c fd num dir data nv) (ho:Own2 B w p s zs vI vO vM):Own2 B (w.setCell ⟨q,j,none⟩ u) p s zs vI vO vM:=ho.other z0p h.cell (by decide) (by decide) (by decide) (by decide) (by decide)
theorem DoerAt.r10 (h:DoerAt w q p c fd num dir data nv):w.cell? ⟨q,10,none⟩=some (.int .i64 fd):=by rw[cell_of_row w q _ _ _ (0,0) h.cell];rfl
theorem DoerAt.r11 (h:DoerAt w q p c fd num dir data nv):w.cell? ⟨q,11,none⟩=some (.int .i64 num):=by rw[cell_of_row w q _ _ _ (0,0) h.cell];rfl
theorem DoerAt.r12 (h:DoerAt w q p c fd num dir data nv):w.cell? ⟨q,12,none⟩=some (.bool dir):=by rw[cell_of_row w q _ _ _ (0,0) h.cell];rfl
theorem DoerAt.r13 (h:DoerAt w q p c fd num dir data nv):w.cell? ⟨q,13,none⟩=some (.string data):=by rw[cell_of_row w q _ _ _ (0,0) h.cell];rfl
theorem DoerAt.r14 (h:DoerAt w q p c fd num dir data nv):w.cell? ⟨q,14,none⟩=some nv:=by rw[cell_of_row w q _ _ _ (0,0) h.cell];rfl
end
theorem z4i {B b j:Nat} {w:World} {u:Value} (h:B≤b):Below B w (w.setCell ⟨b,j,none⟩ u):=(Below.refl _ _).setCell h _
theorem z1h {is:List Ino} {t:Int} {i:Nat} {x:Ino} (ha:atV is t=(i:Int)) (hx:is[i]? =some x) (f:List En→List En):setEnts is t f=is.set i { x with ents:=f x.ents }:=by
 unfold setEnts;rw[ha,Int.toNat_natCast,z2a _ _ _ _ hx]
theorem zbd {is:List Ino} {t:Int} {i:Nat} {x:Ino} (ha:atV is t=(i:Int)) (hx:is[i]? =some x) (a b:ByteArray):fullV is t a b=decide (4≤fullE x.ents a b):=by
 unfold fullV;rw[ha,z0c,hx]
theorem z3v {is:List Ino} {t:Int} {i:Nat} {x:Ino} (ha:atV is t=(i:Int)) (hx:is[i]? =some x):dirAt is t=x.dir:=by
 unfold dirAt;rw[ha,z0c,hx]
theorem zck {is:List Ino} {t:Int} {i:Nat} {x:Ino} (ha:atV is t=(i:Int)) (hx:is[i]? =some x):entsOf is t=x.ents:=by
 unfold entsOf;rw[ha,z0c,hx]
theorem z4j {is:List Ino} {t:Int} {i:Nat} {x:Ino} (ha:atV is t=(i:Int)) (hx:is[i]? =some x):dataAt is t=x.data:=by
 unfold dataAt;rw[ha,z0c,hx]
theorem Good.at_ {s:St} (h:Good s) {i:Nat} {x:Ino} {t:Int} (hx:s.inos[i]? =some x) (hn:x.num=t):atV s.inos t=(i:Int):=by rw[←hn];exact h.idx hx
theorem Good.text {s:St} (h:Good s) {x:Ino} (hx:x∈s.inos):∀e∈x.ents,e.name.size≤140737488355328:=fun e he=>((h.small.io x hx).2.2.2 e he).1
theorem zae (is:List Ino) (n:Nat):∀(ds:List Ds) (q:Option Ds),opensG is n ds q=true→∀d∈ds,dsBad is n d=false
 | [],_,_,d,hd=>by simp at hd
 | y :: ds, q, h, d, hd => by
  unfold opensG at h
  split at h
  ·cases h
  ·rename_i h1
   split at h
   ·cases h
   ·rcases List.mem_cons.1 hd with rfl|hd
    ·simpa using h1
    ·exact zae is n ds _ h d hd
theorem Good.opens {s:St} (h:Good s):∀d∈s.opn,0≤d.core∧d.core<(s.made.length:Int)∧0≤d.fd∧d.fd<4∧∃(i:Nat) (x:Ino),atV s.inos d.num=(i:Int)∧s.inos[i]? =some x∧x.num=d.num∧x.dir=false:=by
 intro d hd;have h1:=zae _ _ _ _ h.opn d hd;unfold dsBad at h1;simp only[Bool.or_eq_false_iff,decide_eq_false_iff_not] at h1;obtain⟨⟨⟨⟨a1,a2⟩,a3⟩,a4⟩,a5⟩:=h1;refine⟨by omega,by omega,by omega,by omega,?_⟩
 rcases z0u s.inos d.num with⟨h2,_⟩|⟨k,x,h2,h3,h4,_⟩
 ·rw[h2] at a5;simp[inoAt] at a5
 ·rw[h2,z0c,h3] at a5;exact⟨k,x,h2,h3,h4,a5⟩
def fdP:List Ds→Int→Int→Option Nat
 | [],_,_=>none
 | d::ds,core,fd=>if d.core=core∧d.fd=fd then some 0 else(fdP ds core fd).map (· +1)
def fdI (ds:List Ds) (core fd:Int):Int:=match fdP ds core fd with|none=> -1|some k=>(k:Int)
theorem zbe:∀(ds:List Ds) (core fd:Int),fdP ds core fd=none→fdV ds core fd=0∧dropD ds core fd=ds
 | [],_,_,_=>⟨rfl,rfl⟩
 | d::ds,core,fd,h=>by
  unfold fdP at h;unfold fdV dropD
  by_cases hh:d.core=core∧d.fd=fd
  ·rw[if_pos hh] at h;cases h
  ·rw[if_neg hh] at h ⊢;rw[if_neg hh];have:=zbe ds core fd (by cases hf:fdP ds core fd with|none=>rfl|some k=>rw[hf] at h;cases h);exact⟨this.1,by rw[this.2]⟩
theorem z7y:∀(ds:List Ds) (core fd:Int) (k:Nat),fdP ds core fd=some k→∃d,ds[k]? =some d∧d.core=core∧d.fd=fd∧fdV ds core fd=d.num
 | [],_,_,k,h=>by cases h
 | d :: ds, core, fd, k, h => by
  unfold fdP at h;unfold fdV
  by_cases hh:d.core=core∧d.fd=fd
  ·rw[if_pos hh] at h;cases h;exact⟨d,rfl,hh.1,hh.2,if_pos hh⟩
  ·rw[if_neg hh] at h ⊢;cases hf:fdP ds core fd with
   | none=>rw[hf] at h;cases h
   | some j=>
    rw[hf] at h;cases h;obtain⟨y,h1,h2⟩:=z7y ds core fd j hf;exact⟨y,by simpa using h1,h2⟩
theorem zbf (ds:List Ds) (core fd:Int) (q:Nat) (y:Ds) (hd:ds.drop q=y::ds.drop (q+1)):fdP (ds.drop q) core fd=if y.core=core∧y.fd=fd then some 0 else(fdP (ds.drop (q+1)) core fd).map (· +1):=by
 rw[hd,fdP]
theorem zif (q p:Nat) (c:Ca) (fd num:Int) (dir:Bool) (data:ByteArray) (nv:Value) (a b k:Int) (bx:Nat) (w:World) (hb:w.cell? ⟨bx,0,.none⟩=some (.pointer (some ⟨q,0,none⟩))) (hlt:bx<w.heap.size) (hD:DoerAt w q p c fd num dir data nv):
  Calls Tryz.prog 113 #[.agg #[.int .i64 a,.int .i64 b,.int .i64 k],.pointer (some ⟨bx,0,.none⟩)] w fun e w'=>e=.returned (.bool (a==c.core&&b==c.fd))∧Below w.heap.size w w':=by
 obtain⟨V2,hV2,v0,v1,v2,hal4,hlt4⟩:=z4e w a b k;have z:=(hal4.cell (p:=⟨bx,0,.none⟩) hlt).trans hb;have hD2:=hD.below hal4;have d2:=hD2.c2;have d3:=hD2.c3;have HAL:=hid hal4;clear hal4 hD hD2;obtain⟨X,hX⟩:∃X,(a==c.core)=X:=⟨_,rfl⟩;obtain⟨Y,hY⟩:∃Y,(b==c.fd)=Y:=⟨_,rfl⟩;rw[hX,hY]
 go_enter Tryz.func113,Tryz.ntmps113
 cases X
 ·go_wp2_with fail;go_quiet (fail);go_wp2_with fail;go_ret;exact⟨by first|rfl|simp,Cv.next HAL.out (Cv.drewN_below (Below.refl _ _) _)⟩
 ·go_wp2_with fail;go_quiet (fail);go_wp2_with fail;go_ret;exact⟨by first|rfl|simp,Cv.next HAL.out (Cv.drewN_below (Below.refl _ _) _)⟩
set_option maxRecDepth 100000 in
set_option maxHeartbeats 4000000 in
theorem zbg (q p:Nat) (c:Ca) (fd num:Int) (dir:Bool) (data:ByteArray) (nv:Value) (xs:List Ds) (A:Option Addr) (n cp:Nat) (bx:Nat) (w:World) (hI:DescsAt none w A n xs) (hn:n≤1099511627776) (hb:w.cell? ⟨bx,0,.none⟩=some (.pointer (some ⟨q,0,none⟩))) (hblt:bx<w.heap.size) (hD:DoerAt w q p c fd num dir data nv):
  Calls Tryz.prog 52 #[.slice A n cp,.func (.func 113) #[] #[.pointer (some ⟨bx,0,.none⟩)]] w fun e w'=>e=.returned (.int .i64 (fdI xs c.core c.fd))∧Below w.heap.size w w':=by
 obtain⟨R,hR⟩:∃R,fdP xs c.core c.fd=R:=⟨_,rfl⟩;unfold fdI;rw[hR];have HI:=hid hI;have HR:=hid hR;have HD:=hid hD;clear hI hR hD
 go_enter Tryz.func52,Tryz.ntmps52
 go_wp2_with fail
 go_loopw [8] (fun j wr=>∃r:Nat,j=.int .i64 r∧r≤n∧Below w.heap.size w wr∧(fdP (xs.drop r) c.core c.fd).map (· +r)=R) (fun j _=>n-(intOf j).toNat)
 case atStart=>exact⟨0,rfl,by omega,Below.refl _ _,by rw[List.drop_zero,HR.out];cases R<;>rfl⟩
 case round=>
  obtain⟨r,rfl,hq,hbel,hc⟩:=hrel;have HB:=hid hbel;have HIr:=hid (HI.out.below hbel);have hbr:=(hbel.cell (p:=⟨bx,0,.none⟩) hblt).trans hb;have hbl:bx<wr.heap.size:=Nat.lt_of_lt_of_le hblt hbel.size;have HBR:=hid hbr;have HDR:=hid (HD.out.below hbel);clear hbel hbr
  by_cases hlt:r<n
  ·obtain⟨g,off,y,rfl,hg,hy,hd,hmem,e0,e1,e2⟩:=HIr.out.get r hlt;rw[zbf xs _ _ r y hd] at hc;have HC:=hid hc;have k0:(0:Int)≤(r:Int):=by omega
   clear hc hd hmem hy;go_wp2_with fail;refine(zif q p c fd num dir data nv y.core y.fd y.num bx _ HBR.out hbl HDR.out).mono ?_;rintro e5 w5 ⟨rfl,hb5⟩;have HB5:=hid (HB.out.trans (hb5.mono HB.out.size));clear hb5 e0 e1 e2;obtain⟨bb,hbb⟩:∃bb,(y.core==c.core&&y.fd==c.fd)=bb:=⟨_,rfl⟩;rw[hbb];have hc:=HC.out;cases bb
   ·have hnx:¬(y.core=c.core∧y.fd=c.fd):=fun h=>by rw[h.1,h.2] at hbb;simp at hbb
    rw[if_neg hnx] at hc;have HC2:=hid hc;clear hc hbb hnx;go_wp2_with fail;go_roundw
    case rel=>exact⟨r+1,by go_num,by omega,HB5.out,by
     rw[←HC2.out];cases fdP (xs.drop (r+1)) c.core c.fd
     ·rfl
     ·simp;omega⟩
    case measure=>simp[intOf];omega
   ·have hnx:y.core=c.core∧y.fd=c.fd:=by simpa using hbb
    rw[if_pos hnx] at hc;have HC2:=hid hc;clear hc hbb hnx;go_wp2_with fail;go_ret;have h:=HC2.out;simp at h;subst h;exact⟨rfl,HB5.out⟩
  ·have hnil:xs.drop r=[]:=List.drop_eq_nil_of_le (by have:=HI.out.1;omega);rw[hnil,fdP] at hc;have HC:=hid hc;clear hc hnil;go_wp2_with fail;go_ret;exact⟨by rw[←HC.out];rfl,HB.out⟩
end Go.Proofs.YtmmpkfcdfcldlaaGreat
