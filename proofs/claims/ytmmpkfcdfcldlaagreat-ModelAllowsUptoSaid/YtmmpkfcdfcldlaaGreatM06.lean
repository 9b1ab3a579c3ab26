/- Parts of the proof, side by side: StOwn, FsPut, FsDrop. -/
import Derived.Test.YtmmpkfcdfcldlaaGreatM03
import Derived.Laws.Rows
import Derived.Test.YtmmpkfcdfcldlaaGreatM05
import Derived.Test.YtmmpkfcdfcldlaaGreatM01
import Derived.Handy
set_option linter.unusedVariables false
set_option linter.unusedSimpArgs false
namespace Go.Proofs.YtmmpkfcdfcldlaaGreat
open Lib (hid)
open Go.RowKit
structure KeepT (t:TypeId) (w w':World):Prop where
 size:w.heap.size≤w'.heap.size
 same:∀(b:Nat) (cur:Array Value),w.heap[b]? =some (.cells cur t (0,0))→w'.heap[b]? =w.heap[b]?
theorem KeepT.below {t:TypeId} {w w':World} (h:Below w.heap.size w w'):KeepT t w w':=⟨h.size,fun b cur hb=>h.block b (Array.getElem?_eq_some_iff.1 hb).1⟩
theorem KeepT.set {w:World} {g k:Nat} {u:Value} {cur:Array Value} {t t':TypeId} (h:w.heap[g]? =some (.cells cur t' (0,0))) (hne:t'≠t):KeepT t w (w.setCell ⟨g,k,none⟩ u):=
 ⟨by simp [World.setCell], fun b c hb => Below.heap_setCell w ⟨g, k, none⟩ u b (fun e => by
  have e2:b=g:=e;subst e2;rw[h] at hb;injection hb with hb
  injection hb with _ hb _
  exact hne hb)⟩
theorem KeepT.mine {t:TypeId} {w w':World} {B g:Nat} (h:KeepT t w w') (hm:Mine (some B) t w g):Mine (some B) t w' g∧w'.heap[g]? =w.heap[g]?:=by
 obtain⟨h1,cur,h2⟩:=hm B rfl;refine⟨fun C hC=>?_,h.same g cur h2⟩;cases hC;exact⟨h1,cur,(h.same g cur h2).trans h2⟩
theorem z1a {w w':World} {g:Nat} (h:w'.heap[g]? =w.heap[g]?) (j:Nat):w'.cell? ⟨g,j,none⟩=w.cell? ⟨g,j,none⟩:=by
 unfold World.cell?;simp only[h]
theorem EntsAt.keep {B:Nat} {w w':World} {A:Option Addr} {n:Nat} {es:List En} (h:EntsAt (some B) w A n es) (hk:KeepT 73 w w'):EntsAt (some B) w' A n es:=
 ⟨h.1, fun hn => by
  obtain⟨g,off,hA,hg,hm,hc⟩:=h.2 hn;obtain⟨m1,m2⟩:=hk.mine hm;exact⟨g,off,hA,Nat.lt_of_lt_of_le hg hk.size,m1,fun j e he=>⟨(z1a m2 _).trans (hc j e he).1,(z1a m2 _).trans (hc j e he).2⟩⟩⟩
theorem DescsAt.keep {B:Nat} {w w':World} {A:Option Addr} {n:Nat} {ds:List Ds} (h:DescsAt (some B) w A n ds) (hk:KeepT 75 w w'):DescsAt (some B) w' A n ds:=
 ⟨h.1, fun hn => by
  obtain⟨g,off,hA,hg,hm,hc⟩:=h.2 hn;obtain⟨m1,m2⟩:=hk.mine hm;exact⟨g,off,hA,Nat.lt_of_lt_of_le hg hk.size,m1,fun j e he=>⟨(z1a m2 _).trans (hc j e he).1,(z1a m2 _).trans (hc j e he).2.1,(z1a m2 _).trans (hc j e he).2.2⟩⟩⟩
theorem IntsAt.keep {B:Nat} {w w':World} {A:Option Addr} {n:Nat} {xs:List Int} (h:IntsAt (some B) w A n xs) (hk:KeepT 3 w w'):IntsAt (some B) w' A n xs:=
 ⟨h.1, fun hn => by
  obtain⟨g,off,hA,hg,hm,hc⟩:=h.2 hn;obtain⟨m1,m2⟩:=hk.mine hm;exact⟨g,off,hA,Nat.lt_of_lt_of_le hg hk.size,m1,fun j x hx=>(z1a m2 _).trans (hc j x hx)⟩⟩
theorem InosAt.keep {B:Nat} {w w':World} {A:Option Addr} {n:Nat} {is:List Ino} (h:InosAt (some B) w A n is) (hk:KeepT 59 w w') (he:KeepT 73 w w'):InosAt (some B) w' A n is:=
 ⟨h.1, fun hn => by
  obtain⟨g,off,hA,hg,hm,hc⟩:=h.2 hn;obtain⟨m1,m2⟩:=hk.mine hm;refine⟨g,off,hA,Nat.lt_of_lt_of_le hg hk.size,m1,fun j x hx=>?_⟩;obtain⟨h1,h2,⟨E,m,c,h3,h4,h5⟩,h6⟩:=hc j x hx;exact⟨(z1a m2 _).trans h1,(z1a m2 _).trans h2,⟨E,m,c,(z1a m2 _).trans h3,h4,h5.keep he⟩,(z1a m2 _).trans h6⟩⟩
structure Own (B:Nat) (w:World) (p:Nat) (s:St):Prop where
 at_:∃A n c E m d D k e,B≤p∧w.heap[p]? =some (.cells #[.slice A n c,.slice E m d,.slice D k e] 26 (0,0))∧InosAt (some B) w A n s.inos∧DescsAt (some B) w E m s.opn∧IntsAt (some B) w D k s.made∧SlOk A n c∧SlOk E m d∧SlOk D k e
 sized:Sized s
theorem Own.below {B:Nat} {w w':World} {p:Nat} {s:St} (h:Own B w p s) (hb:Below w.heap.size w w'):Own B w' p s:=by
 obtain⟨⟨A,n,c,E,m,d,D,k,e,h0,h1,h2,h3,h4,h5,h6,h7⟩,hz⟩:=h;exact⟨⟨A,n,c,E,m,d,D,k,e,h0,(hb.block p (Array.getElem?_eq_some_iff.1 h1).1).trans h1,h2.below hb,h3.below hb,h4.below hb,h5,h6,h7⟩,hz⟩
theorem Own.drewN {B:Nat} {w:World} {p:Nat} {s:St} (h:Own B w p s) (q:Nat):Own B (w.drewN q) p s:=⟨h.at_,h.sized⟩
theorem Own.val {B:Nat} {w:World} {p:Nat} {s:St} (h:Own B w p s):∃A n c E m d D k e,B≤p∧p<w.heap.size∧w.cell? ⟨p,0,none⟩=some (.slice A n c)∧w.cell? ⟨p,1,none⟩=some (.slice E m d)∧w.cell? ⟨p,2,none⟩=some (.slice D k e)∧(∀j,w.frozen? ⟨p,j,none⟩=false)∧
  StAt (some B) w (.agg #[.slice A n c,.slice E m d,.slice D k e]) s∧InosAt (some B) w A n s.inos∧DescsAt (some B) w E m s.opn∧IntsAt (some B) w D k s.made:=by
 obtain⟨⟨A,n,c,E,m,d,D,k,e,h0,h1,h2,h3,h4,h5,h6,h7⟩,hz⟩:=h;refine⟨A,n,c,E,m,d,D,k,e,h0,(Array.getElem?_eq_some_iff.1 h1).1,?_,?_,?_,fun j=>frozen_of_row w p j _ _ h1,⟨⟨A,n,c,E,m,d,D,k,e,rfl,h2,h3,h4,h5,h6,h7⟩,hz⟩,h2,h3,h4⟩<;>(rw[cell_of_row w p _ _ _ (0,0) h1];rfl)
theorem Own.setInos {B:Nat} {w:World} {p:Nat} {s:St} (h:Own B w p s) {A:Option Addr} {n c:Nat} {is:List Ino} (hi:InosAt (some B) w A n is) (hc:SlOk A n c) (hz:Sized { s with inos:=is }):Own B (w.setCell ⟨p,0,none⟩ (.slice A n c)) p { s with inos:=is }:=by
 obtain⟨⟨A',n',c',E,m,d,D,k,e,h0,h1,h2,h3,h4,h5,h6,h7⟩,_⟩:=h;refine⟨⟨A,n,c,E,m,d,D,k,e,h0,?_,hi.keep (KeepT.set h1 (by decide)) (KeepT.set h1 (by decide)),h3.keep (KeepT.set h1 (by decide)),h4.keep (KeepT.set h1 (by decide)),hc,h6,h7⟩,hz⟩;rw[heap_setCell_same w p 0 _ _ _ h1]
 rfl
theorem Own.setOpn {B:Nat} {w:World} {p:Nat} {s:St} (h:Own B w p s) {A:Option Addr} {n c:Nat} {ds:List Ds} (hi:DescsAt (some B) w A n ds) (hc:SlOk A n c) (hz:Sized { s with opn:=ds }):Own B (w.setCell ⟨p,1,none⟩ (.slice A n c)) p { s with opn:=ds }:=by
 obtain⟨⟨A',n',c',E,m,d,D,k,e,h0,h1,h2,h3,h4,h5,h6,h7⟩,_⟩:=h;refine⟨⟨A',n',c',A,n,c,D,k,e,h0,?_,h2.keep (KeepT.set h1 (by decide)) (KeepT.set h1 (by decide)),hi.keep (KeepT.set h1 (by decide)),h4.keep (KeepT.set h1 (by decide)),h5,hc,h7⟩,hz⟩;rw[heap_setCell_same w p 1 _ _ _ h1]
 rfl
theorem InosAt.set {B:Nat} {w:World} {g off n:Nat} {is:List Ino} (h:InosAt (some B) w (some ⟨g,off,none⟩) n is) (i a:Nat) (x y:Ino) (u:Value) (hx:is[i]? =some x) (ha:a=2∨a=3) (hnum:y.num=x.num) (hdir:y.dir=x.dir)
  (h2:a=2→y.data=x.data∧∃A m c,u=.slice A m c∧SlOk A m c∧EntsAt (some B) w A m y.ents) (h3:a=3→u=.string y.data∧y.ents=x.ents):
  InosAt (some B) (w.setCell ⟨g,off+i*4+a,none⟩ u) (some ⟨g,off,none⟩) n (is.set i y):=by
 refine⟨by rw[List.length_set];exact h.1,fun hn=>?_⟩;obtain⟨g',off',hA,hg,hm,hc⟩:=h.2 hn;injection hA with hA
 injection hA with hA1 hA2
 subst hA1 hA2;obtain⟨hB,cur,hcur⟩:=hm B rfl;have hkE:KeepT 73 w (w.setCell ⟨g,off+i*4+a,none⟩ u):=KeepT.set hcur (by decide)
 have other:∀k,k≠off+i*4+a→(w.setCell ⟨g,off+i*4+a,none⟩ u).cell? ⟨g,k,none⟩=w.cell? ⟨g,k,none⟩:=fun k hk=>by
  rw[World.cell?_setCell_other _ _ _ _ (fun e=>by injection e with _ e;exact hk e.symm)]
 have hil:i<is.length:=(List.getElem?_eq_some_iff.1 hx).1
 have same:(w.setCell ⟨g,off+i*4+a,none⟩ u).cell? ⟨g,off+i*4+a,none⟩=some u:=by
  obtain⟨_,_,⟨E,m,c,q3,_⟩,q4⟩:=hc i x hx
  rcases ha with rfl|rfl
  ·exact World.cell?_setCell_same' _ _ _ (by rw[q3];rfl)
  ·exact World.cell?_setCell_same' _ _ _ (by rw[q4];rfl)
 refine⟨g,off,rfl,by simpa [World.setCell] using hg,fun C hC=>?_,fun j z hz=>?_⟩
 ·cases hC;exact⟨hB,_,heap_setCell_same w g _ _ _ _ hcur⟩
 ·rw[List.getElem?_set] at hz
  by_cases hj:i=j
  ·subst hj;rw[if_pos rfl,if_pos hil] at hz;injection hz with hz
   subst hz;obtain⟨q1,q2,⟨E,m,c,q3,q5,q6⟩,q4⟩:=hc i x hx
   rcases ha with rfl|rfl
   ·obtain⟨hd,A',m',c',hu,hmc,hE⟩:=h2 rfl;refine⟨?_,?_,⟨A',m',c',?_,hmc,hE.keep hkE⟩,?_⟩
    ·rw[other _ (by omega),hnum];exact q1
    ·rw[other _ (by omega),hdir];exact q2
    ·rw[same,hu]
    ·rw[other _ (by omega),hd];exact q4
   ·obtain⟨hu,hE⟩:=h3 rfl;refine⟨?_,?_,⟨E,m,c,?_,q5,?_⟩,?_⟩
    ·rw[other _ (by omega),hnum];exact q1
    ·rw[other _ (by omega),hdir];exact q2
    ·rw[other _ (by omega)];exact q3
    ·rw[hE];exact q6.keep hkE
    ·rw[same,hu]
  ·rw[if_neg hj] at hz;obtain⟨q1,q2,⟨E,m,c,q3,q5,q6⟩,q4⟩:=hc j z hz;have ha4:a<4:=by rcases ha with rfl|rfl<;>decide
   refine⟨?_,?_,⟨E,m,c,?_,q5,q6.keep hkE⟩,?_⟩
   ·rw[other _ (by omega)];exact q1
   ·rw[other _ (by omega)];exact q2
   ·rw[other _ (by omega)];exact q3
   ·rw[other _ (by omega)];exact q4
theorem IntsAt.set {B:Nat} {w:World} {g off n:Nat} {xs:List Int} (h:IntsAt (some B) w (some ⟨g,off,none⟩) n xs) (i:Nat) (y:Int) (hi:i<n):IntsAt (some B) (w.setCell ⟨g,off+i,none⟩ (.int .i64 y)) (some ⟨g,off,none⟩) n (xs.set i y):=by
 refine⟨by rw[List.length_set];exact h.1,fun hn=>?_⟩;obtain⟨g',off',hA,hg,hm,hc⟩:=h.2 hn;injection hA with hA
 injection hA with hA1 hA2
 subst hA1 hA2;obtain⟨hB,cur,hcur⟩:=hm B rfl;have hil:i<xs.length:=by rw[h.1];exact hi
 refine⟨g,off,rfl,by simpa [World.setCell] using hg,fun C hC=>?_,fun j z hz=>?_⟩
 ·cases hC;exact⟨hB,_,heap_setCell_same w g _ _ _ _ hcur⟩
 ·rw[List.getElem?_set] at hz
  by_cases hj:i=j
  ·subst hj;rw[if_pos rfl,if_pos hil] at hz;injection hz with hz
   subst hz;exact World.cell?_setCell_same' _ _ _ (by rw[hc i _ (List.getElem?_eq_getElem hil)];rfl)
  ·rw[if_neg hj] at hz;rw[World.cell?_setCell_other _ _ _ _ (fun e=>by injection e with _ e;omega)];exact hc j z hz
theorem Own.setIno {B:Nat} {w:World} {p:Nat} {s:St} (h:Own B w p s) (i a:Nat) (x y:Ino) (u:Value) (hx:s.inos[i]? =some x) (ha:a=2∨a=3) (hnum:y.num=x.num) (hdir:y.dir=x.dir)
  (h2:a=2→y.data=x.data∧∃A m c,u=.slice A m c∧SlOk A m c∧EntsAt (some B) w A m y.ents) (h3:a=3→u=.string y.data∧y.ents=x.ents) (hz:Sized { s with inos:=s.inos.set i y })
  (g off n c:Nat) (hc:w.cell? ⟨p,0,none⟩=some (.slice (some ⟨g,off,none⟩) n c)):Own B (w.setCell ⟨g,off+i*4+a,none⟩ u) p { s with inos:=s.inos.set i y }:=by
 obtain⟨⟨A,n',c',E,m,d,D,k,e,q0,q1,q2,q3,q4,q5,q6,q7⟩,_⟩:=h;rw[cell_of_row w p _ _ _ (0,0) q1] at hc;have hc2:(Value.slice A n' c')=.slice (some ⟨g,off,none⟩) n c:=by simpa using hc
 injection hc2 with e1 e2 e3
 subst e1 e2 e3;have hil:i<s.inos.length:=(List.getElem?_eq_some_iff.1 hx).1;obtain⟨g',off',hA,hg,hm,hcc⟩:=q2.2 (by have:=q2.1;omega);injection hA with hA
 injection hA with hA1 hA2
 subst hA1 hA2;obtain⟨hB,cur,hcur⟩:=hm B rfl;refine⟨⟨some ⟨g,off,none⟩,n',c',E,m,d,D,k,e,q0,?_,q2.set i a x y u hx ha hnum hdir h2 h3,q3.keep (KeepT.set hcur (by decide)),q4.keep (KeepT.set hcur (by decide)),q5,q6,q7⟩,hz⟩;have hs:KeepT 26 w (w.setCell ⟨g,off+i*4+a,none⟩ u):=KeepT.set hcur (by decide);rw[hs.same p _ q1];exact q1
theorem Own.setMade {B:Nat} {w:World} {p:Nat} {s:St} (h:Own B w p s) (i:Nat) (y:Int) (hi:i<s.made.length) (hz:Sized { s with made:=s.made.set i y })
  (g off n c:Nat) (hc:w.cell? ⟨p,2,none⟩=some (.slice (some ⟨g,off,none⟩) n c)):Own B (w.setCell ⟨g,off+i,none⟩ (.int .i64 y)) p { s with made:=s.made.set i y }:=by
 obtain⟨⟨A,n',c',E,m,d,D,k,e,q0,q1,q2,q3,q4,q5,q6,q7⟩,_⟩:=h;rw[cell_of_row w p _ _ _ (0,0) q1] at hc;have hc2:(Value.slice D k e)=.slice (some ⟨g,off,none⟩) n c:=by simpa using hc
 injection hc2 with e1 e2 e3
 subst e1 e2 e3;have hk:s.made.length=k:=q4.1;obtain⟨g',off',hA,hg,hm,hcc⟩:=q4.2 (by omega);injection hA with hA
 injection hA with hA1 hA2
 subst hA1 hA2;obtain⟨hB,cur,hcur⟩:=hm B rfl;refine⟨⟨A,n',c',E,m,d,some ⟨g,off,none⟩,k,e,q0,?_,q2.keep (KeepT.set hcur (by decide)) (KeepT.set hcur (by decide)),q3.keep (KeepT.set hcur (by decide)),q4.set i y (by omega),q5,q6,q7⟩,hz⟩;have hs:KeepT 26 w (w.setCell ⟨g,off+i,none⟩ (.int .i64 y)):=KeepT.set hcur (by decide);rw[hs.same p _ q1];exact q1
theorem InosAt.free {B:Nat} {w:World} {g off n:Nat} {is:List Ino} (h:InosAt (some B) w (some ⟨g,off,none⟩) n is) (hn:0<n):B≤g∧∀j,w.frozen? ⟨g,j,none⟩=false:=by
 obtain⟨g',off',hA,hg,hm,hc⟩:=h.2 hn;injection hA with hA
 injection hA with hA1 hA2
 subst hA1 hA2;obtain⟨hB,cur,hcur⟩:=hm B rfl;exact⟨hB,fun j=>frozen_of_row w g j _ _ hcur⟩
theorem IntsAt.free {B:Nat} {w:World} {g off n:Nat} {xs:List Int} (h:IntsAt (some B) w (some ⟨g,off,none⟩) n xs) (hn:0<n):B≤g∧∀j,w.frozen? ⟨g,j,none⟩=false:=by
 obtain⟨g',off',hA,hg,hm,hc⟩:=h.2 hn;injection hA with hA
 injection hA with hA1 hA2
 subst hA1 hA2;obtain⟨hB,cur,hcur⟩:=hm B rfl;exact⟨hB,fun j=>frozen_of_row w g j _ _ hcur⟩
theorem EntsAt.mono {B B':Nat} {w:World} {A:Option Addr} {n:Nat} {es:List En} (h:EntsAt (some B) w A n es) (hb:B'≤B):EntsAt (some B') w A n es:=
 ⟨h.1, fun hn => by
  obtain⟨g,off,hA,hg,hm,hc⟩:=h.2 hn;exact⟨g,off,hA,hg,hm.mono hb,hc⟩⟩
theorem DescsAt.mono {B B':Nat} {w:World} {A:Option Addr} {n:Nat} {ds:List Ds} (h:DescsAt (some B) w A n ds) (hb:B'≤B):DescsAt (some B') w A n ds:=
 ⟨h.1, fun hn => by
  obtain⟨g,off,hA,hg,hm,hc⟩:=h.2 hn;exact⟨g,off,hA,hg,hm.mono hb,hc⟩⟩
theorem IntsAt.mono {B B':Nat} {w:World} {A:Option Addr} {n:Nat} {xs:List Int} (h:IntsAt (some B) w A n xs) (hb:B'≤B):IntsAt (some B') w A n xs:=
 ⟨h.1, fun hn => by
  obtain⟨g,off,hA,hg,hm,hc⟩:=h.2 hn;exact⟨g,off,hA,hg,hm.mono hb,hc⟩⟩
theorem InosAt.mono {B B':Nat} {w:World} {A:Option Addr} {n:Nat} {is:List Ino} (h:InosAt (some B) w A n is) (hb:B'≤B):InosAt (some B') w A n is:=
 ⟨h.1, fun hn => by
  obtain⟨g,off,hA,hg,hm,hc⟩:=h.2 hn;refine⟨g,off,hA,hg,hm.mono hb,fun j x hx=>?_⟩;obtain⟨h1,h2,⟨E,m,c,h3,h4,h5⟩,h6⟩:=hc j x hx;exact⟨h1,h2,⟨E,m,c,h3,h4,h5.mono hb⟩,h6⟩⟩
theorem z2a {α:Type} (f:α→α) (l:List α) (i:Nat) (x:α) (h:l[i]? =some x):l.modify i f=l.set i (f x):=by
 apply List.ext_getElem?;intro j;rw[List.getElem?_modify,List.getElem?_set]
 by_cases e:i=j
 ·subst e;have hl:i<l.length:=(List.getElem?_eq_some_iff.1 h).1;simp[hl,(List.getElem?_eq_some_iff.1 h).2]
 ·cases hj:l[j]?<;>simp[e,hj]
theorem InosAt.tag {B:Nat} {w:World} {g off n:Nat} {is:List Ino} (h:InosAt (some B) w (some ⟨g,off,none⟩) n is) (hn:0<n):∃cur,w.heap[g]? =some (.cells cur 59 (0,0)):=by
 obtain⟨g',off',hA,hg,hm,hc⟩:=h.2 hn;injection hA with hA
 injection hA with hA1 hA2
 subst hA1 hA2;exact(hm B rfl).2
theorem IntsAt.tag {B:Nat} {w:World} {g off n:Nat} {xs:List Int} (h:IntsAt (some B) w (some ⟨g,off,none⟩) n xs) (hn:0<n):∃cur,w.heap[g]? =some (.cells cur 3 (0,0)):=by
 obtain⟨g',off',hA,hg,hm,hc⟩:=h.2 hn;injection hA with hA
 injection hA with hA1 hA2
 subst hA1 hA2;exact(hm B rfl).2
structure Aside (p:Nat) (w w':World):Prop where
 size:w.heap.size≤w'.heap.size
 same:∀(b:Nat) (cur:Array Value) (t:TypeId),w.heap[b]? =some (.cells cur t (0,0))→59≠t→3≠t→b≠p→w'.heap[b]? =w.heap[b]?
theorem Aside.below {p:Nat} {w w':World} (h:Below w.heap.size w w'):Aside p w w':=⟨h.size,fun b cur t hb _ _ _=>h.block b (Array.getElem?_eq_some_iff.1 hb).1⟩
theorem Aside.trans {p:Nat} {a b c:World} (h:Aside p a b) (k:Aside p b c):Aside p a c:=
 ⟨Nat.le_trans h.size k.size,fun x cur t hx h1 h2 h3=>(k.same x cur t ((h.same x cur t hx h1 h2 h3).trans hx) h1 h2 h3).trans (h.same x cur t hx h1 h2 h3)⟩
theorem Aside.set {p:Nat} {w:World} {g k:Nat} {u:Value} {cur:Array Value} {t:TypeId} (h:w.heap[g]? =some (.cells cur t (0,0))) (ht:t=59∨t=3∨g=p):Aside p w (w.setCell ⟨g,k,none⟩ u):=
 ⟨by simp [World.setCell], fun b c t' hb h1 h2 h3 => Below.heap_setCell w ⟨g, k, none⟩ u b (fun e => by
  have e2:b=g:=e;subst e2;rw[h] at hb;injection hb with hb
  injection hb with _ hb _
  rcases ht with ht|ht|ht
  ·exact h1 (ht.symm.trans hb)
  ·exact h2 (ht.symm.trans hb)
  ·exact h3 ht)⟩
theorem zkn:(Tryz.prog.info? 73).map (fun i=>(i.zero,i.size,i.bytes))=some (some (.agg #[.string ⟨#[]⟩,.int .i64 0]),2,24):=by kernel_rfl
def putR (es:List En) (name:ByteArray) (num:Int) (done:Bool):List En:=if done then es else putE es name num
theorem zeu:∀(es:List En) (name:ByteArray) (num:Int),(putE es name num).length=es.length+1
 | [],_,_=>rfl
 | e::es,name,num=>by
  unfold putE
  split
  ·simp
  ·rw[List.length_cons,zeu es,List.length_cons]
theorem z3c (w:World) (vs:List Value) (t:TypeId):∀j u,vs[j]? =some u→(w.alloc (.cells vs.toArray t)).cell? ((⟨w.heap.size,0,.none⟩:Addr).add j)=some u:=by
 intro j u hu;have e:(⟨w.heap.size,0,.none⟩:Addr).add j=⟨w.heap.size,j,.none⟩:=by unfold Addr.add;split<;>simp_all
 rw[e];exact(World.cell?_alloc_mark w _ _ (0,0) _).trans (by simpa using hu)
set_option maxRecDepth 100000 in
set_option maxHeartbeats 8000000 in
theorem z6n (B p:Nat) (s:St) (dir:Int) (name:ByteArray) (num:Int) (w:World) (h:Own B w p s) (hB:B≤w.heap.size) (hd:0≤atV s.inos dir) (hs:name.size≤140737488355328)
  (hz:Sized { s with inos:=setEnts s.inos dir fun es=>putE es name num }):
  Calls Tryz.prog 123 #[.pointer (some ⟨p,0,.none⟩),.int .i64 dir,.string name,.int .i64 num] w fun e w'=>e=.returned (.tuple #[])∧Own B w' p { s with inos:=setEnts s.inos dir fun es=>putE es name num }∧Below B w w'∧Aside p w w':=by
 obtain⟨i,x,hat,hx,hxn⟩:=z0r hd;obtain⟨A,n,c,E,m,d,D,k,e,hBp,hp,c0,c1,c2,fz,hst,hI,hD,hM⟩:=h.val;have hin:i<n:=by have:=(List.getElem?_eq_some_iff.1 hx).1;have:=hI.1;omega
 have hbig:=h.sized.big;have hn2:n≤1099511627776:=by have:=hI.1;omega
 have hB2:bulkE s.inos≤1099511627776:=by omega
 have htx:=(h.sized.text x (List.mem_of_getElem? hx)).2;obtain⟨g,off,x',EA,m2,d2,rfl,hg,hx',_,_,_,_,e2,hmd,hE,_⟩:=hI.get i hin;have ex:x=x':=by rw[hx] at hx';exact Option.some.inj hx'
 subst ex;have hle:=z0s hx;have hel:=hE.1;have hm2:m2≤1099511627776:=by omega
 obtain⟨i0,hi,hz0,hz1,hz2⟩:=info_parts zkn;obtain⟨RR,hRR⟩:∃RR,putE x.ents name num=RR:=⟨_,rfl⟩;have HRR:=hid hRR;have HO:=hid h;have HST:=hid hst.weak;have HE:=hid hE;have HX:=hid hx;have HC0:=hid c0;have HAT:=hid hat;have HTX:=hid htx;have HZ:=hid hz;have HEL:=hid hel;obtain⟨hgB,hfz⟩:=hI.free (by omega);obtain⟨curI,hcurI⟩:=hI.tag (by omega);have HTAG:=hid hcurI;have fe:=hfz (off+i*4+2);have i0':(0:Int)≤(i:Int):=by omega
 have i9:(i:Int)<(n:Int):=by omega
 have hX:=@Ext.cell w;clear hcurI hRR hfz h hst hI hD hM hx hx' hat hxn hd hbig hle hel hE htx hz
 go_enter Tryz.func123,Tryz.ntmps123
 go_wp2_with fail;refine wre ?_
 repeat (go_big_quiet_step (first|(go_at_call 94;rename_i X;exact Calls.ext_of (by have:=z0o _ s dir _ (HST.out.below X.bel);rw[HAT.out] at this;exact this))))
 refine wpQuiet_nil ?_;rintro w7 ⟨X,rfl⟩;generalize hZe:X.w=Z;have hZ:=hZe▸X.bel;have z0:=(hZ.cell (p:=⟨p,0,.none⟩) hp).trans c0;have z2:=(hZ.cell (p:=⟨g,_,.none⟩) hg).trans e2;have fz2:=(hZ.frozen (p:=⟨g,off+i*4+2,.none⟩) hg).trans fe;have HZB:=hid hZ;have HEZ:=hid (HE.out.below hZ);clear hZe X hX hZ c0 c1 c2 e2;go_wp2_with fail
 go_loopw [9,10,11] (fun o b j wr=>∃(q:Nat) (done:Bool) (V:Value) (es:List En),V=o∧b=.bool done∧j=.int .i64 q∧q≤m2∧wr.ownsRow Z.heap.size 73 2 V es.length (es.flatMap enV)∧Below Z.heap.size Z wr∧es++putR (x.ents.drop q) name num done=RR∧es.length≤2*q+1) (fun _ _ j _=>m2-(intOf j).toNat)
 case atStart=>exact⟨0,false,_,[],rfl,rfl,rfl,by omega,World.ownsRow_nil _ _ _ _,Below.refl _ _,HRR.out,by simp⟩
 case round =>
  obtain⟨q,done,V,es,hV,rfl,rfl,hq,hrow,hbel,hc,hlen⟩:=hrel;subst hV;have y2:=(hbel.cell (p:=⟨g,_,.none⟩) (Nat.lt_of_lt_of_le hg HZB.out.size)).trans z2;have HEr:=hid (HEZ.out.below hbel);have HB:=hid hbel;have HROW:=hid hrow;obtain⟨L,hL⟩:∃L,es.length=L:=⟨_,rfl⟩;have hll:L≤2199023255553:=by omega
  have hlq:L≤2*q+1:=by omega
  have HL:=hid hL;have hrow2:=hrow;rw[hL] at hrow2;have HR2:=hid hrow2;have hc2:=hc;clear hrow hbel hrow2 hL
  by_cases hlt:q<m2
  ·obtain⟨g2,off2,y,rfl,hg2,hy,hdr,hmem,e0,e1⟩:=HEr.out.get q hlt;rw[hdr] at hc;have hys:=HTX.out y hmem;have k0:(0:Int)≤(q:Int):=by omega
   have k1:(q:Int)<(m2:Int):=by omega
   have HY:=hid hy;clear hdr hmem hy hc2;cases done
   ·have hstep:es++(if ltN name y.name=true then⟨name,num⟩::y::x.ents.drop (q+1) else y::putE (x.ents.drop (q+1)) name num)=RR:=hc;obtain⟨LT,hLT⟩:∃LT,ltN name y.name=LT:=⟨_,rfl⟩;rw[hLT] at hstep;have HC:=hid hstep;have HLT:=hid hLT;clear hc hstep hLT;go_wp2_with fail;refine(z5g name y.name _ hs hys).mono ?_;rintro e5 w5 ⟨rfl,nq,rfl⟩;rw[HLT.out];cases LT
    ·have hr:=HC.out;rw[if_neg (by simp)] at hr;have HC2:=hid hr;clear hr;go_wp2_with (at_builtin;refine wpList_append_own _ rfl _ _ 57 rfl Z.heap.size 73 i0 (.agg #[.string ⟨#[]⟩,.int .i64 0]) 2 24 Tryz.underlying57 hi hz0 hz1 hz2 rfl (by decide) _ L _ rfl ((z0z HR2.out (Cv.drewN_below (Below.refl _ _) nq)).alloc _) ⟨(wr.drewN nq).heap.size,0,.none⟩ 1 1 [.string y.name,.int .i64 y.num] rfl rfl (z3c (wr.drewN nq) [.string y.name,.int .i64 y.num] _) ?ca2 ?ca3 ?ca4 ?ca5 ?_)
     case ca2=>first|(intro u hu;simp at hu;rcases hu with rfl|rfl<;>rfl)|(simp;done)|exact⟨rfl,rfl⟩
     case ca3=>unfold maxLen;omega
     case ca4=>omega
     case ca5=>have:=HB.out.size;first|omega|(simp;omega)
     intro v' w' hown' hgrow _;have hbel':Below Z.heap.size Z w':=((Cv.drewN_below HB.out nq).alloc (by have:=HB.out.size;simpa using this) _).grown hgrow (by have:=HB.out.size;simp;omega) (fun k hk=>(HR2.out.lt k hk).1);have HO':=hid hown';have HB':=hid hbel';clear hown' hgrow hbel';go_wp2_with fail;go_roundw
     case rel=>exact⟨q+1,false,_,es++[y],rfl,rfl,by go_num,by omega,by rw[List.length_append,HL.out,List.flatMap_append];exact HO'.out,HB'.out,by rw[List.append_assoc];exact HC2.out,by rw[List.length_append,HL.out];simp;omega⟩
     case measure=>simp[intOf];omega
    ·have hr:=HC.out;rw[if_pos rfl] at hr;have HC2:=hid hr;clear hr;go_wp2_with (at_builtin;refine wpList_append_own _ rfl _ _ 57 rfl Z.heap.size 73 i0 (.agg #[.string ⟨#[]⟩,.int .i64 0]) 2 24 Tryz.underlying57 hi hz0 hz1 hz2 rfl (by decide) _ L _ rfl ((z0z HR2.out (Cv.drewN_below (Below.refl _ _) nq)).alloc _) ⟨(wr.drewN nq).heap.size,0,.none⟩ 1 1 [.string name,.int .i64 num] rfl rfl (z3c (wr.drewN nq) [.string name,.int .i64 num] _) ?ca2 ?ca3 ?ca4 ?ca5 ?_)
     case ca2=>first|(intro u hu;simp at hu;rcases hu with rfl|rfl<;>rfl)|(simp;done)|exact⟨rfl,rfl⟩
     case ca3=>unfold maxLen;omega
     case ca4=>omega
     case ca5=>have:=HB.out.size;first|omega|(simp;omega)
     intro v' w' hown' hgrow _;have hbel':Below Z.heap.size Z w':=((Cv.drewN_below HB.out nq).alloc (by have:=HB.out.size;simpa using this) _).grown hgrow (by have:=HB.out.size;simp;omega) (fun k hk=>(HR2.out.lt k hk).1);have HO':=hid hown';have HB':=hid hbel';have s2:=(hbel'.cell (p:=⟨g,_,.none⟩) (Nat.lt_of_lt_of_le hg HZB.out.size)).trans z2;have HEq:=(HEZ.out.below hbel');obtain⟨g9,off9,y9,hA9,hg9,hy9,_,_,s0,s1⟩:=HEq.get q hlt;injection hA9 with hA9
     injection hA9 with hA1 hA2
     subst hA1 hA2
     have ey:y9=y:=by
      obtain⟨_,_,_,_,_,hy8,_⟩:=HEr.out.get q hlt;have h9:x.ents[q]? =some y:=HY.out;rw[hy9] at h9;exact Option.some.inj h9
     subst ey;clear hown' hgrow hbel' HEq hy9;go_wp2_with (at_builtin;refine wpList_append_own _ rfl _ _ 57 rfl Z.heap.size 73 i0 (.agg #[.string ⟨#[]⟩,.int .i64 0]) 2 24 Tryz.underlying57 hi hz0 hz1 hz2 rfl (by decide) _ (L+1) _ rfl (HO'.out.alloc _) ⟨w'.heap.size,0,.none⟩ 1 1 [.string y9.name,.int .i64 y9.num] rfl rfl (z3c w' [.string y9.name,.int .i64 y9.num] _) ?ca2 ?ca3 ?ca4 ?ca5 ?_)
     case ca2=>first|(intro u hu;simp at hu;rcases hu with rfl|rfl<;>rfl)|(simp;done)|exact⟨rfl,rfl⟩
     case ca3=>unfold maxLen;omega
     case ca4=>omega
     case ca5=>have:=HB'.out.size;first|omega|(simp;omega)
     intro v'' w'' hown'' hgrow2 _;have hbel'':Below Z.heap.size Z w'':=(HB'.out.alloc (by have:=HB'.out.size;simpa using this) _).grown hgrow2 (by have:=HB'.out.size;simp;omega) (fun k hk=>(HO'.out.lt k hk).1);have HO2:=hid hown'';have HB2':=hid hbel'';clear hown'' hgrow2 hbel'';go_wp2_with fail;go_roundw
     case rel=>exact⟨q+1,true,_,es++[⟨name,num⟩]++[y9],rfl,rfl,by go_num,by omega,by
      rw[List.length_append,List.length_append,HL.out,List.flatMap_append,List.flatMap_append];rw[List.append_assoc];exact HO2.out,HB2'.out,by rw[List.append_assoc,List.append_assoc];exact HC2.out,by rw[List.length_append,List.length_append,HL.out];simp;omega⟩
     case measure=>simp[intOf];omega
   ·have hstep:es++(y::x.ents.drop (q+1))=RR:=hc;have HC2:=hid hstep;clear hc hstep;go_wp2_with (at_builtin;refine wpList_append_own _ rfl _ _ 57 rfl Z.heap.size 73 i0 (.agg #[.string ⟨#[]⟩,.int .i64 0]) 2 24 Tryz.underlying57 hi hz0 hz1 hz2 rfl (by decide) _ L _ rfl (HR2.out.alloc _) ⟨wr.heap.size,0,.none⟩ 1 1 [.string y.name,.int .i64 y.num] rfl rfl (z3c wr [.string y.name,.int .i64 y.num] _) ?ca2 ?ca3 ?ca4 ?ca5 ?_)
    case ca2=>first|(intro u hu;simp at hu;rcases hu with rfl|rfl<;>rfl)|(simp;done)|exact⟨rfl,rfl⟩
    case ca3=>unfold maxLen;omega
    case ca4=>omega
    case ca5=>have:=HB.out.size;first|omega|(simp;omega)
    intro v' w' hown' hgrow _;have hbel':Below Z.heap.size Z w':=(HB.out.alloc (by have:=HB.out.size;simpa using this) _).grown hgrow (by have:=HB.out.size;simp;omega) (fun k hk=>(HR2.out.lt k hk).1);have HO':=hid hown';have HB':=hid hbel';clear hown' hgrow hbel';go_wp2_with fail;go_roundw
    case rel=>exact⟨q+1,true,_,es++[y],rfl,rfl,by go_num,by omega,by rw[List.length_append,HL.out,List.flatMap_append];exact HO'.out,HB'.out,by rw[List.append_assoc];exact HC2.out,by rw[List.length_append,HL.out];simp;omega⟩
    case measure=>simp[intOf];omega
  ·have hnil:x.ents.drop q=[]:=List.drop_eq_nil_of_le (by have:=HEL.out;omega);rw[hnil] at hc2;have fz9:=(HB.out.frozen (p:=⟨g,off+i*4+2,.none⟩) (Nat.lt_of_lt_of_le hg HZB.out.size)).trans fz2;cases done
   ·have HC2:=hid (show es++[⟨name,num⟩]=RR from hc2);clear hc hc2 hnil;go_wp2_with (at_builtin;refine wpList_append_own _ rfl _ _ 57 rfl Z.heap.size 73 i0 (.agg #[.string ⟨#[]⟩,.int .i64 0]) 2 24 Tryz.underlying57 hi hz0 hz1 hz2 rfl (by decide) _ L _ rfl (HR2.out.alloc _) ⟨wr.heap.size,0,.none⟩ 1 1 [.string name,.int .i64 num] rfl rfl (z3c wr [.string name,.int .i64 num] _) ?ca2 ?ca3 ?ca4 ?ca5 ?_)
    case ca2=>first|(intro u hu;simp at hu;rcases hu with rfl|rfl<;>rfl)|(simp;done)|exact⟨rfl,rfl⟩
    case ca3=>unfold maxLen;omega
    case ca4=>omega
    case ca5=>have:=HB.out.size;first|omega|(simp;omega)
    intro v' w' hown' hgrow _;have hbel':Below Z.heap.size Z w':=(HB.out.alloc (by have:=HB.out.size;simpa using this) _).grown hgrow (by have:=HB.out.size;simp;omega) (fun k hk=>(HR2.out.lt k hk).1);have f1:=(hbel'.frozen (p:=⟨g,off+i*4+2,.none⟩) (Nat.lt_of_lt_of_le hg HZB.out.size)).trans fz2;have s2:=(hbel'.cell (p:=⟨g,_,.none⟩) (Nat.lt_of_lt_of_le hg HZB.out.size)).trans z2;have HB':=hid hbel';have hents:=EntsAt.of_row (B:=Z.heap.size) (n:=L+1) (es:=es++[⟨name,num⟩]) (w:=w') (v:=v') (by rw[List.flatMap_append];exact hown');obtain⟨A9,c9,rfl,hc9,hn9,hE9⟩:=hents;have hk9:SlOk A9 _ c9:=⟨hc9,fun e=>(hn9 e).2⟩;have HE9:=hid hE9;have hbw:=Cv.next HZB.out HB'.out;have hown:=(HO.out.below hbw).setIno i 2 x { x with ents:=RR } (.slice A9 (L+1) c9) HX.out (.inl rfl) rfl rfl (fun _=>⟨rfl,A9,L+1,c9,rfl,hk9,by rw[←HC2.out];exact HE9.out.mono (Nat.le_trans hB HZB.out.size)⟩) (fun h=>by cases h) (by have:=HZ.out;rw[setEnts,HAT.out,Int.toNat_natCast,z2a _ _ _ _ HX.out,HRR.out] at this;exact this) g off n c ((hbw.cell (p:=⟨p,0,.none⟩) hp).trans HC0.out)
    have HOWN:=hid hown;have HBW:=hid hbw;clear hown' hgrow hbel' hE9 hbw hown;go_wp2_with fail
    go_returns
    refine⟨rfl,?_,(HBW.out.mono hB).setCell (by exact hgB) _,(Aside.below HBW.out).trans (Aside.set ((HBW.out.block g hg).trans HTAG.out) (.inl rfl))⟩;rw[setEnts,HAT.out,Int.toNat_natCast,z2a _ _ _ _ HX.out,HRR.out];exact HOWN.out
   ·have HC2:=hid (show es++[]=RR from hc2);have y3:=y2;have hents:=EntsAt.of_row HR2.out;obtain⟨A9,c9,rfl,hc9,hn9,hE9⟩:=hents;have hk9:SlOk A9 _ c9:=⟨hc9,fun e=>(hn9 e).2⟩;have HE9:=hid hE9;have hbw:=Cv.next HZB.out HB.out;have hown:=(HO.out.below hbw).setIno i 2 x { x with ents:=RR } (.slice A9 L c9) HX.out (.inl rfl) rfl rfl (fun _=>⟨rfl,A9,L,c9,rfl,hk9,by rw[←HC2.out,List.append_nil];exact HE9.out.mono (Nat.le_trans hB HZB.out.size)⟩) (fun h=>by cases h) (by have:=HZ.out;rw[setEnts,HAT.out,Int.toNat_natCast,z2a _ _ _ _ HX.out,HRR.out] at this;exact this) g off n c ((hbw.cell (p:=⟨p,0,.none⟩) hp).trans HC0.out);have HOWN:=hid hown;have HBW:=hid hbw;clear hc hc2 hnil hE9 hbw hown;go_wp2_with fail
    go_returns
    refine⟨rfl,?_,(HBW.out.mono hB).setCell (by exact hgB) _,(Aside.below HBW.out).trans (Aside.set ((HBW.out.block g hg).trans HTAG.out) (.inl rfl))⟩;rw[setEnts,HAT.out,Int.toNat_natCast,z2a _ _ _ _ HX.out,HRR.out];exact HOWN.out
theorem z8r:∀(es:List En) (name:ByteArray),(dropE es name).length≤es.length
 | [],_=>Nat.le_refl _
 | e::es,name=>by
  unfold dropE;have:=z8r es name
  split<;>simp<;>omega
set_option maxRecDepth 100000 in
set_option maxHeartbeats 8000000 in
theorem z4s (B p:Nat) (s:St) (dir:Int) (name:ByteArray) (w:World) (h:Own B w p s) (hB:B≤w.heap.size) (hd:0≤atV s.inos dir)
  (hz:Sized { s with inos:=setEnts s.inos dir fun es=>dropE es name }):
  Calls Tryz.prog 130 #[.pointer (some ⟨p,0,.none⟩),.int .i64 dir,.string name] w fun e w'=>e=.returned (.tuple #[])∧Own B w' p { s with inos:=setEnts s.inos dir fun es=>dropE es name }∧Below B w w'∧Aside p w w':=by
 obtain⟨i,x,hat,hx,hxn⟩:=z0r hd;obtain⟨A,n,c,E,m,d,D,k,e,hBp,hp,c0,c1,c2,fz,hst,hI,hD,hM⟩:=h.val;have hin:i<n:=by have:=(List.getElem?_eq_some_iff.1 hx).1;have:=hI.1;omega
 have hbig:=h.sized.big;have hn2:n≤1099511627776:=by have:=hI.1;omega
 have hB2:bulkE s.inos≤1099511627776:=by omega
 obtain⟨g,off,x',EA,m2,d2,rfl,hg,hx',_,_,_,_,e2,hmd,hE,_⟩:=hI.get i hin;have ex:x=x':=by rw[hx] at hx';exact Option.some.inj hx'
 subst ex;have hle:=z0s hx;have hel:=hE.1;have hm2:m2≤1099511627776:=by omega
 obtain⟨i0,hi,hz0,hz1,hz2⟩:=info_parts zkn;obtain⟨RR,hRR⟩:∃RR,dropE x.ents name=RR:=⟨_,rfl⟩;have HRR:=hid hRR;have HO:=hid h;have HST:=hid hst.weak;have HE:=hid hE;have HX:=hid hx;have HC0:=hid c0;have HAT:=hid hat;have HZ:=hid hz;have HEL:=hid hel;obtain⟨hgB,hfz⟩:=hI.free (by omega);obtain⟨curI,hcurI⟩:=hI.tag (by omega);have HTAG:=hid hcurI;have fe:=hfz (off+i*4+2);have i0':(0:Int)≤(i:Int):=by omega
 have i9:(i:Int)<(n:Int):=by omega
 have hX:=@Ext.cell w;clear hcurI hRR hfz h hst hI hD hM hx hx' hat hxn hd hbig hle hel hE hz
 go_enter Tryz.func130,Tryz.ntmps130
 go_wp2_with fail;refine wre ?_
 repeat (go_big_quiet_step (first|(go_at_call 94;rename_i X;exact Calls.ext_of (by have:=z0o _ s dir _ (HST.out.below X.bel);rw[HAT.out] at this;exact this))))
 refine wpQuiet_nil ?_;rintro w7 ⟨X,rfl⟩;generalize hZe:X.w=Z;have hZ:=hZe▸X.bel;have z0:=(hZ.cell (p:=⟨p,0,.none⟩) hp).trans c0;have z2:=(hZ.cell (p:=⟨g,_,.none⟩) hg).trans e2;have fz2:=(hZ.frozen (p:=⟨g,off+i*4+2,.none⟩) hg).trans fe;have HZB:=hid hZ;have HEZ:=hid (HE.out.below hZ);clear hZe X hX hZ c0 c1 c2 e2;go_wp2_with fail
 go_loopw [7,8] (fun o j wr=>∃(q:Nat) (V:Value) (es:List En),V=o∧j=.int .i64 q∧q≤m2∧wr.ownsRow Z.heap.size 73 2 V es.length (es.flatMap enV)∧Below Z.heap.size Z wr∧es++dropE (x.ents.drop q) name=RR∧es.length≤q) (fun _ j _=>m2-(intOf j).toNat)
 case atStart=>exact⟨0,_,[],rfl,rfl,by omega,World.ownsRow_nil _ _ _ _,Below.refl _ _,HRR.out,by simp⟩
 case round=>
  obtain⟨q,V,es,hV,rfl,hq,hrow,hbel,hc,hlen⟩:=hrel;subst hV;have y2:=(hbel.cell (p:=⟨g,_,.none⟩) (Nat.lt_of_lt_of_le hg HZB.out.size)).trans z2;have HEr:=hid (HEZ.out.below hbel);have HB:=hid hbel;obtain⟨L,hL⟩:∃L,es.length=L:=⟨_,rfl⟩;have hlq:L≤q:=by omega
  have HL:=hid hL;rw[hL] at hrow;have HR2:=hid hrow;clear hrow hbel hL
  by_cases hlt:q<m2
  ·obtain⟨g2,off2,y,rfl,hg2,hy,hdr,hmem,e0,e1⟩:=HEr.out.get q hlt;rw[hdr] at hc;have k0:(0:Int)≤(q:Int):=by omega
   have k1:(q:Int)<(m2:Int):=by omega
   clear hdr hmem hy
   by_cases hne:y.name=name
   ·have hstep:es++dropE (x.ents.drop (q+1)) name=RR:=by
     have h9:=hc;rw[dropE,if_pos hne] at h9;exact h9
    have q9:(y.name.toList==name.toList)=true:=z2g hne;have HC:=hid hstep;clear hc hstep hne;go_wp2_with fail;go_roundw
    case rel=>exact⟨q+1,_,es,rfl,by go_num,by omega,by rw[HL.out];exact HR2.out,HB.out,HC.out,by rw[HL.out];omega⟩
    case measure=>simp[intOf];omega
   ·have hstep:(es++[y])++dropE (x.ents.drop (q+1)) name=RR:=by
     have h9:=hc;rw[dropE,if_neg hne] at h9;rw[List.append_assoc];exact h9
    have q9:(y.name.toList==name.toList)=false:=z1d hne;have HC:=hid hstep;clear hc hstep hne;go_wp2_with (at_builtin;refine wpList_append_own _ rfl _ _ 57 rfl Z.heap.size 73 i0 (.agg #[.string ⟨#[]⟩,.int .i64 0]) 2 24 Tryz.underlying57 hi hz0 hz1 hz2 rfl (by decide) _ L _ rfl (HR2.out.alloc _) ⟨wr.heap.size,0,.none⟩ 1 1 [.string y.name,.int .i64 y.num] rfl rfl (z3c wr [.string y.name,.int .i64 y.num] _) ?ca2 ?ca3 ?ca4 ?ca5 ?_)
    case ca2=>first|(intro u hu;simp at hu;rcases hu with rfl|rfl<;>rfl)|(simp;done)|exact⟨rfl,rfl⟩
    case ca3=>unfold maxLen;omega
    case ca4=>omega
    case ca5=>have:=HB.out.size;first|omega|(simp;omega)
    intro v' w' hown' hgrow _;have hbel':Below Z.heap.size Z w':=(HB.out.alloc (by have:=HB.out.size;simpa using this) _).grown hgrow (by have:=HB.out.size;simp;omega) (fun k hk=>(HR2.out.lt k hk).1);have HO':=hid hown';have HB':=hid hbel';clear hown' hgrow hbel';go_wp2_with fail;go_roundw
    case rel=>exact⟨q+1,_,es++[y],rfl,by go_num,by omega,by rw[List.length_append,HL.out,List.flatMap_append];exact HO'.out,HB'.out,HC.out,by rw[List.length_append,HL.out];simp;omega⟩
    case measure=>simp[intOf];omega
  ·have hnil:x.ents.drop q=[]:=List.drop_eq_nil_of_le (by have:=HEL.out;omega);rw[hnil] at hc;have fz9:=(HB.out.frozen (p:=⟨g,off+i*4+2,.none⟩) (Nat.lt_of_lt_of_le hg HZB.out.size)).trans fz2;have HC2:=hid (show es++[]=RR from hc);have hents:=EntsAt.of_row HR2.out;obtain⟨A9,c9,rfl,hc9,hn9,hE9⟩:=hents;have hk9:SlOk A9 _ c9:=⟨hc9,fun e=>(hn9 e).2⟩;have HE9:=hid hE9;have hbw:=Cv.next HZB.out HB.out;have hown:=(HO.out.below hbw).setIno i 2 x { x with ents:=RR } (.slice A9 L c9) HX.out (.inl rfl) rfl rfl (fun _=>⟨rfl,A9,L,c9,rfl,hk9,by rw[←HC2.out,List.append_nil];exact HE9.out.mono (Nat.le_trans hB HZB.out.size)⟩) (fun h=>by cases h) (by have:=HZ.out;rw[setEnts,HAT.out,Int.toNat_natCast,z2a _ _ _ _ HX.out,HRR.out] at this;exact this) g off n c ((hbw.cell (p:=⟨p,0,.none⟩) hp).trans HC0.out);have HOWN:=hid hown;have HBW:=hid hbw
   clear hc hnil hE9 hbw hown;go_wp2_with fail
   go_returns
   refine⟨rfl,?_,(HBW.out.mono hB).setCell (by exact hgB) _,(Aside.below HBW.out).trans (Aside.set ((HBW.out.block g hg).trans HTAG.out) (.inl rfl))⟩;rw[setEnts,HAT.out,Int.toNat_natCast,z2a _ _ _ _ HX.out,HRR.out];exact HOWN.out
end Go.Proofs.YtmmpkfcdfcldlaaGreat
