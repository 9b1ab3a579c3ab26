/- Parts of the proof, side by side: StOwn, FsReach, FsRead, Ext. -/
import Derived.Test.YtmmpkfcdfcldlaaGreatM00
import Derived.Laws.Rows
import Derived.Lib.Hide
import Derived.WalkKit
import Derived.BigQuiet
import Derived.Deep.QuietTactic
import Derived.StillTailTactics
set_option linter.unusedVariables false
set_option linter.unusedSimpArgs false
namespace Go.Proofs.YtmmpkfcdfcldlaaGreat
open Lib (hid)
open Go.RowKit
structure KeepT (t:TypeId) (w w':World):Prop where
 size:w.heap.size≤w'.heap.size
 same:∀(b:Nat) (cur:Array Value),w.heap[b]? =some (.cells cur t (0,0))→w'.heap[b]? =w.heap[b]?
theorem KeepT.below {t:TypeId} {w w':World} (h:Below w.heap.size w w'):KeepT t w w':=⟨h.size,fun b cur hb=>h.block b (Array.getElem?_eq_some_iff.1 hb).1⟩
theorem KeepT.set {w:World} {g k:Nat} {u:Value} {cur:Array Value} {t t':TypeId} (h:w.heap[g]? =some (.cells cur t' (0,0))) (hne:t'≠t):KeepT t w (w.setCell ⟨g,k,none⟩ u):=
 ⟨by simp [World.setCell], fun b c hb => Below.heap_setCell w ⟨g, k, none⟩ u b (fun e => by
  have e2:b=g:=e;subst e2;rw[h] at hb;injection hb with hb
  injection hb with _ hb _
  exact hne hb)⟩
theorem KeepT.mine {t:TypeId} {w w':World} {B g:Nat} (h:KeepT t w w') (hm:Mine (some B) t w g):Mine (some B) t w' g∧w'.heap[g]? =w.heap[g]?:=by
 obtain⟨h1,cur,h2⟩:=hm B rfl;refine⟨fun C hC=>?_,h.same g cur h2⟩;cases hC;exact⟨h1,cur,(h.same g cur h2).trans h2⟩
theorem z0x {w w':World} {g:Nat} (h:w'.heap[g]? =w.heap[g]?) (j:Nat):w'.cell? ⟨g,j,none⟩=w.cell? ⟨g,j,none⟩:=by
 unfold World.cell?;simp only[h]
theorem EntsAt.keep {B:Nat} {w w':World} {A:Option Addr} {n:Nat} {es:List En} (h:EntsAt (some B) w A n es) (hk:KeepT 73 w w'):EntsAt (some B) w' A n es:=
 ⟨h.1, fun hn => by
  obtain⟨g,off,hA,hg,hm,hc⟩:=h.2 hn;obtain⟨m1,m2⟩:=hk.mine hm;exact⟨g,off,hA,Nat.lt_of_lt_of_le hg hk.size,m1,fun j e he=>⟨(z0x m2 _).trans (hc j e he).1,(z0x m2 _).trans (hc j e he).2⟩⟩⟩
theorem DescsAt.keep {B:Nat} {w w':World} {A:Option Addr} {n:Nat} {ds:List Ds} (h:DescsAt (some B) w A n ds) (hk:KeepT 75 w w'):DescsAt (some B) w' A n ds:=
 ⟨h.1, fun hn => by
  obtain⟨g,off,hA,hg,hm,hc⟩:=h.2 hn;obtain⟨m1,m2⟩:=hk.mine hm;exact⟨g,off,hA,Nat.lt_of_lt_of_le hg hk.size,m1,fun j e he=>⟨(z0x m2 _).trans (hc j e he).1,(z0x m2 _).trans (hc j e he).2.1,(z0x m2 _).trans (hc j e he).2.2⟩⟩⟩
theorem IntsAt.keep {B:Nat} {w w':World} {A:Option Addr} {n:Nat} {xs:List Int} (h:IntsAt (some B) w A n xs) (hk:KeepT 3 w w'):IntsAt (some B) w' A n xs:=
 ⟨h.1, fun hn => by
  obtain⟨g,off,hA,hg,hm,hc⟩:=h.2 hn;obtain⟨m1,m2⟩:=hk.mine hm;exact⟨g,off,hA,Nat.lt_of_lt_of_le hg hk.size,m1,fun j x hx=>(z0x m2 _).trans (hc j x hx)⟩⟩
theorem InosAt.keep {B:Nat} {w w':World} {A:Option Addr} {n:Nat} {is:List Ino} (h:InosAt (some B) w A n is) (hk:KeepT 59 w w') (he:KeepT 73 w w'):InosAt (some B) w' A n is:=
 ⟨h.1, fun hn => by
  obtain⟨g,off,hA,hg,hm,hc⟩:=h.2 hn;obtain⟨m1,m2⟩:=hk.mine hm;refine⟨g,off,hA,Nat.lt_of_lt_of_le hg hk.size,m1,fun j x hx=>?_⟩;obtain⟨h1,h2,⟨E,m,c,h3,h4,h5⟩,h6⟩:=hc j x hx;exact⟨(z0x m2 _).trans h1,(z0x m2 _).trans h2,⟨E,m,c,(z0x m2 _).trans h3,h4,h5.keep he⟩,(z0x m2 _).trans h6⟩⟩
structure Own (B:Nat) (w:World) (p:Nat) (s:St):Prop where
 at_:∃A n c E m d D k e,B≤p∧w.heap[p]? =some (.cells #[.slice A n c,.slice E m d,.slice D k e] 26 (0,0))∧InosAt (some B) w A n s.inos∧DescsAt (some B) w E m s.opn∧IntsAt (some B) w D k s.made∧SlOk A n c∧SlOk E m d∧SlOk D k e
 sized:Sized s
theorem Own.below {B:Nat} {w w':World} {p:Nat} {s:St} (h:Own B w p s) (hb:Below w.heap.size w w'):Own B w' p s:=by
 obtain⟨⟨A,n,c,E,m,d,D,k,e,h0,h1,h2,h3,h4,h5,h6,h7⟩,hz⟩:=h;exact⟨⟨A,n,c,E,m,d,D,k,e,h0,(hb.block p (Array.getElem?_eq_some_iff.1 h1).1).trans h1,h2.below hb,h3.below hb,h4.below hb,h5,h6,h7⟩,hz⟩
theorem Own.drewN {B:Nat} {w:World} {p:Nat} {s:St} (h:Own B w p s) (q:Nat):Own B (w.drewN q) p s:=⟨h.at_,h.sized⟩
theorem Own.val {B:Nat} {w:World} {p:Nat} {s:St} (h:Own B w p s):∃A n c E m d D k e,B≤p∧p<w.heap.size∧w.cell? ⟨p,0,none⟩=some (.slice A n c)∧w.cell? ⟨p,1,none⟩=some (.slice E m d)∧w.cell? ⟨p,2,none⟩=some (.slice D k e)∧(∀j,w.frozen? ⟨p,j,none⟩=false)∧
  StAt (some B) w (.agg #[.slice A n c,.slice E m d,.slice D k e]) s∧InosAt (some B) w A n s.inos∧DescsAt (some B) w E m s.opn∧IntsAt (some B) w D k s.made:=by
 obtain⟨⟨A,n,c,E,m,d,D,k,e,h0,h1,h2,h3,h4,h5,h6,h7⟩,hz⟩:=h;refine⟨A,n,c,E,m,d,D,k,e,h0,(Array.getElem?_eq_some_iff.1 h1).1,?_,?_,?_,fun j=>frozen_of_row w p j _ _ h1,⟨⟨A,n,c,E,m,d,D,k,e,rfl,h2,h3,h4,h5,h6,h7⟩,hz⟩,h2,h3,h4⟩<;>(rw[cell_of_row w p _ _ _ (0,0) h1];rfl)
theorem Own.setInos {B:Nat} {w:World} {p:Nat} {s:St} (h:Own B w p s) {A:Option Addr} {n c:Nat} {is:List Ino} (hi:InosAt (some B) w A n is) (hc:SlOk A n c) (hz:Sized { s with inos:=is }):Own B (w.setCell ⟨p,0,none⟩ (.slice A n c)) p { s with inos:=is }:=by
 obtain⟨⟨A',n',c',E,m,d,D,k,e,h0,h1,h2,h3,h4,h5,h6,h7⟩,_⟩:=h;refine⟨⟨A,n,c,E,m,d,D,k,e,h0,?_,hi.keep (KeepT.set h1 (by decide)) (KeepT.set h1 (by decide)),h3.keep (KeepT.set h1 (by decide)),h4.keep (KeepT.set h1 (by decide)),hc,h6,h7⟩,hz⟩;rw[heap_setCell_same w p 0 _ _ _ h1]
 rfl
theorem Own.setOpn {B:Nat} {w:World} {p:Nat} {s:St} (h:Own B w p s) {A:Option Addr} {n c:Nat} {ds:List Ds} (hi:DescsAt (some B) w A n ds) (hc:SlOk A n c) (hz:Sized { s with opn:=ds }):Own B (w.setCell ⟨p,1,none⟩ (.slice A n c)) p { s with opn:=ds }:=by
 obtain⟨⟨A',n',c',E,m,d,D,k,e,h0,h1,h2,h3,h4,h5,h6,h7⟩,_⟩:=h;refine⟨⟨A',n',c',A,n,c,D,k,e,h0,?_,h2.keep (KeepT.set h1 (by decide)) (KeepT.set h1 (by decide)),hi.keep (KeepT.set h1 (by decide)),h4.keep (KeepT.set h1 (by decide)),h5,hc,h7⟩,hz⟩;rw[heap_setCell_same w p 1 _ _ _ h1]
 rfl
theorem InosAt.set {B:Nat} {w:World} {g off n:Nat} {is:List Ino} (h:InosAt (some B) w (some ⟨g,off,none⟩) n is) (i a:Nat) (x y:Ino) (u:Value) (hx:is[i]? =some x) (ha:a=2∨a=3) (hnum:y.num=x.num) (hdir:y.dir=x.dir)
  (h2:a=2→y.data=x.data∧∃A m c,u=.slice A m c∧SlOk A m c∧EntsAt (some B) w A m y.ents) (h3:a=3→u=.string y.data∧y.ents=x.ents):
  InosAt (some B) (w.setCell ⟨g,off+i*4+a,none⟩ u) (some ⟨g,off,none⟩) n (is.set i y):=by
 refine⟨by rw[List.length_set];exact h.1,fun hn=>?_⟩;obtain⟨g',off',hA,hg,hm,hc⟩:=h.2 hn;injection hA with hA
 injection hA with hA1 hA2
 subst hA1 hA2;obtain⟨hB,cur,hcur⟩:=hm B rfl;have hkE:KeepT 73 w (w.setCell ⟨g,off+i*4+a,none⟩ u):=KeepT.set hcur (by decide)
 have other:∀k,k≠off+i*4+a→(w.setCell ⟨g,off+i*4+a,none⟩ u).cell? ⟨g,k,none⟩=w.cell? ⟨g,k,none⟩:=fun k hk=>by
  rw[World.cell?_setCell_other _ _ _ _ (fun e=>by injection e with _ e;exact hk e.symm)]
 have hil:i<is.length:=(List.getElem?_eq_some_iff.1 hx).1
 have same:(w.setCell ⟨g,off+i*4+a,none⟩ u).cell? ⟨g,off+i*4+a,none⟩=some u:=by
  obtain⟨_,_,⟨E,m,c,q3,_⟩,q4⟩:=hc i x hx
  rcases ha with rfl|rfl
  ·exact World.cell?_setCell_same' _ _ _ (by rw[q3];rfl)
  ·exact World.cell?_setCell_same' _ _ _ (by rw[q4];rfl)
 refine⟨g,off,rfl,by simpa [World.setCell] using hg,fun C hC=>?_,fun j z hz=>?_⟩
 ·cases hC;exact⟨hB,_,heap_setCell_same w g _ _ _ _ hcur⟩
 ·rw[List.getElem?_set] at hz
  by_cases hj:i=j
  ·subst hj;rw[if_pos rfl,if_pos hil] at hz;injection hz with hz
   subst hz;obtain⟨q1,q2,⟨E,m,c,q3,q5,q6⟩,q4⟩:=hc i x hx
   rcases ha with rfl|rfl
   ·obtain⟨hd,A',m',c',hu,hmc,hE⟩:=h2 rfl;refine⟨?_,?_,⟨A',m',c',?_,hmc,hE.keep hkE⟩,?_⟩
    ·rw[other _ (by omega),hnum];exact q1
    ·rw[other _ (by omega),hdir];exact q2
    ·rw[same,hu]
    ·rw[other _ (by omega),hd];exact q4
   ·obtain⟨hu,hE⟩:=h3 rfl;refine⟨?_,?_,⟨E,m,c,?_,q5,?_⟩,?_⟩
    ·rw[other _ (by omega),hnum];exact q1
    ·rw[other _ (by omega),hdir];exact q2
    ·rw[other _ (by omega)];exact q3
    ·rw[hE];exact q6.keep hkE
    ·rw[same,hu]
  ·rw[if_neg hj] at hz;obtain⟨q1,q2,⟨E,m,c,q3,q5,q6⟩,q4⟩:=hc j z hz;have ha4:a<4:=by rcases ha with rfl|rfl<;>decide
   refine⟨?_,?_,⟨E,m,c,?_,q5,q6.keep hkE⟩,?_⟩
   ·rw[other _ (by omega)];exact q1
   ·rw[other _ (by omega)];exact q2
   ·rw[other _ (by omega)];exact q3
   ·rw[other _ (by omega)];exact q4
theorem IntsAt.set {B:Nat} {w:World} {g off n:Nat} {xs:List Int} (h:IntsAt (some B) w (some ⟨g,off,none⟩) n xs) (i:Nat) (y:Int) (hi:i<n):IntsAt (some B) (w.setCell ⟨g,off+i,none⟩ (.int .i64 y)) (some ⟨g,off,none⟩) n (xs.set i y):=by
 refine⟨by rw[List.length_set];exact h.1,fun hn=>?_⟩;obtain⟨g',off',hA,hg,hm,hc⟩:=h.2 hn;injection hA with hA
 injection hA with hA1 hA2
 subst hA1 hA2;obtain⟨hB,cur,hcur⟩:=hm B rfl;have hil:i<xs.length:=by rw[h.1];exact hi
 refine⟨g,off,rfl,by simpa [World.setCell] using hg,fun C hC=>?_,fun j z hz=>?_⟩
 ·cases hC;exact⟨hB,_,heap_setCell_same w g _ _ _ _ hcur⟩
 ·rw[List.getElem?_set] at hz
  by_cases hj:i=j
  ·subst hj;rw[if_pos rfl,if_pos hil] at hz;injection hz with hz
   subst hz;exact World.cell?_setCell_same' _ _ _ (by rw[hc i _ (List.getElem?_eq_getElem hil)];rfl)
  ·rw[if_neg hj] at hz;rw[World.cell?_setCell_other _ _ _ _ (fun e=>by injection e with _ e;omega)];exact hc j z hz
theorem Own.setIno {B:Nat} {w:World} {p:Nat} {s:St} (h:Own B w p s) (i a:Nat) (x y:Ino) (u:Value) (hx:s.inos[i]? =some x) (ha:a=2∨a=3) (hnum:y.num=x.num) (hdir:y.dir=x.dir)
  (h2:a=2→y.data=x.data∧∃A m c,u=.slice A m c∧SlOk A m c∧EntsAt (some B) w A m y.ents) (h3:a=3→u=.string y.data∧y.ents=x.ents) (hz:Sized { s with inos:=s.inos.set i y })
  (g off n c:Nat) (hc:w.cell? ⟨p,0,none⟩=some (.slice (some ⟨g,off,none⟩) n c)):Own B (w.setCell ⟨g,off+i*4+a,none⟩ u) p { s with inos:=s.inos.set i y }:=by
 obtain⟨⟨A,n',c',E,m,d,D,k,e,q0,q1,q2,q3,q4,q5,q6,q7⟩,_⟩:=h;rw[cell_of_row w p _ _ _ (0,0) q1] at hc;have hc2:(Value.slice A n' c')=.slice (some ⟨g,off,none⟩) n c:=by simpa using hc
 injection hc2 with e1 e2 e3
 subst e1 e2 e3;have hil:i<s.inos.length:=(List.getElem?_eq_some_iff.1 hx).1;obtain⟨g',off',hA,hg,hm,hcc⟩:=q2.2 (by have:=q2.1;omega);injection hA with hA
 injection hA with hA1 hA2
 subst hA1 hA2;obtain⟨hB,cur,hcur⟩:=hm B rfl;refine⟨⟨some ⟨g,off,none⟩,n',c',E,m,d,D,k,e,q0,?_,q2.set i a x y u hx ha hnum hdir h2 h3,q3.keep (KeepT.set hcur (by decide)),q4.keep (KeepT.set hcur (by decide)),q5,q6,q7⟩,hz⟩;have hs:KeepT 26 w (w.setCell ⟨g,off+i*4+a,none⟩ u):=KeepT.set hcur (by decide);rw[hs.same p _ q1];exact q1
theorem Own.setMade {B:Nat} {w:World} {p:Nat} {s:St} (h:Own B w p s) (i:Nat) (y:Int) (hi:i<s.made.length) (hz:Sized { s with made:=s.made.set i y })
  (g off n c:Nat) (hc:w.cell? ⟨p,2,none⟩=some (.slice (some ⟨g,off,none⟩) n c)):Own B (w.setCell ⟨g,off+i,none⟩ (.int .i64 y)) p { s with made:=s.made.set i y }:=by
 obtain⟨⟨A,n',c',E,m,d,D,k,e,q0,q1,q2,q3,q4,q5,q6,q7⟩,_⟩:=h;rw[cell_of_row w p _ _ _ (0,0) q1] at hc;have hc2:(Value.slice D k e)=.slice (some ⟨g,off,none⟩) n c:=by simpa using hc
 injection hc2 with e1 e2 e3
 subst e1 e2 e3;have hk:s.made.length=k:=q4.1;obtain⟨g',off',hA,hg,hm,hcc⟩:=q4.2 (by omega);injection hA with hA
 injection hA with hA1 hA2
 subst hA1 hA2;obtain⟨hB,cur,hcur⟩:=hm B rfl;refine⟨⟨A,n',c',E,m,d,some ⟨g,off,none⟩,k,e,q0,?_,q2.keep (KeepT.set hcur (by decide)) (KeepT.set hcur (by decide)),q3.keep (KeepT.set hcur (by decide)),q4.set i y (by omega),q5,q6,q7⟩,hz⟩;have hs:KeepT 26 w (w.setCell ⟨g,off+i,none⟩ (.int .i64 y)):=KeepT.set hcur (by decide);rw[hs.same p _ q1];exact q1
theorem InosAt.free {B:Nat} {w:World} {g off n:Nat} {is:List Ino} (h:InosAt (some B) w (some ⟨g,off,none⟩) n is) (hn:0<n):B≤g∧∀j,w.frozen? ⟨g,j,none⟩=false:=by
 obtain⟨g',off',hA,hg,hm,hc⟩:=h.2 hn;injection hA with hA
 injection hA with hA1 hA2
 subst hA1 hA2;obtain⟨hB,cur,hcur⟩:=hm B rfl;exact⟨hB,fun j=>frozen_of_row w g j _ _ hcur⟩
theorem IntsAt.free {B:Nat} {w:World} {g off n:Nat} {xs:List Int} (h:IntsAt (some B) w (some ⟨g,off,none⟩) n xs) (hn:0<n):B≤g∧∀j,w.frozen? ⟨g,j,none⟩=false:=by
 obtain⟨g',off',hA,hg,hm,hc⟩:=h.2 hn;injection hA with hA
 injection hA with hA1 hA2
 subst hA1 hA2;obtain⟨hB,cur,hcur⟩:=hm B rfl;exact⟨hB,fun j=>frozen_of_row w g j _ _ hcur⟩
theorem EntsAt.mono {B B':Nat} {w:World} {A:Option Addr} {n:Nat} {es:List En} (h:EntsAt (some B) w A n es) (hb:B'≤B):EntsAt (some B') w A n es:=
 ⟨h.1, fun hn => by
  obtain⟨g,off,hA,hg,hm,hc⟩:=h.2 hn;exact⟨g,off,hA,hg,hm.mono hb,hc⟩⟩
theorem DescsAt.mono {B B':Nat} {w:World} {A:Option Addr} {n:Nat} {ds:List Ds} (h:DescsAt (some B) w A n ds) (hb:B'≤B):DescsAt (some B') w A n ds:=
 ⟨h.1, fun hn => by
  obtain⟨g,off,hA,hg,hm,hc⟩:=h.2 hn;exact⟨g,off,hA,hg,hm.mono hb,hc⟩⟩
theorem IntsAt.mono {B B':Nat} {w:World} {A:Option Addr} {n:Nat} {xs:List Int} (h:IntsAt (some B) w A n xs) (hb:B'≤B):IntsAt (some B') w A n xs:=
 ⟨h.1, fun hn => by
  obtain⟨g,off,hA,hg,hm,hc⟩:=h.2 hn;exact⟨g,off,hA,hg,hm.mono hb,hc⟩⟩
theorem InosAt.mono {B B':Nat} {w:World} {A:Option Addr} {n:Nat} {is:List Ino} (h:InosAt (some B) w A n is) (hb:B'≤B):InosAt (some B') w A n is:=
 ⟨h.1, fun hn => by
  obtain⟨g,off,hA,hg,hm,hc⟩:=h.2 hn;refine⟨g,off,hA,hg,hm.mono hb,fun j x hx=>?_⟩;obtain⟨h1,h2,⟨E,m,c,h3,h4,h5⟩,h6⟩:=hc j x hx;exact⟨h1,h2,⟨E,m,c,h3,h4,h5.mono hb⟩,h6⟩⟩
theorem z1v {α:Type} (f:α→α) (l:List α) (i:Nat) (x:α) (h:l[i]? =some x):l.modify i f=l.set i (f x):=by
 apply List.ext_getElem?;intro j;rw[List.getElem?_modify,List.getElem?_set]
 by_cases e:i=j
 ·subst e;have hl:i<l.length:=(List.getElem?_eq_some_iff.1 h).1;simp[hl,(List.getElem?_eq_some_iff.1 h).2]
 ·cases hj:l[j]?<;>simp[e,hj]
theorem InosAt.tag {B:Nat} {w:World} {g off n:Nat} {is:List Ino} (h:InosAt (some B) w (some ⟨g,off,none⟩) n is) (hn:0<n):∃cur,w.heap[g]? =some (.cells cur 59 (0,0)):=by
 obtain⟨g',off',hA,hg,hm,hc⟩:=h.2 hn;injection hA with hA
 injection hA with hA1 hA2
 subst hA1 hA2;exact(hm B rfl).2
theorem IntsAt.tag {B:Nat} {w:World} {g off n:Nat} {xs:List Int} (h:IntsAt (some B) w (some ⟨g,off,none⟩) n xs) (hn:0<n):∃cur,w.heap[g]? =some (.cells cur 3 (0,0)):=by
 obtain⟨g',off',hA,hg,hm,hc⟩:=h.2 hn;injection hA with hA
 injection hA with hA1 hA2
 subst hA1 hA2;exact(hm B rfl).2
structure Aside (p:Nat) (w w':World):Prop where
 size:w.heap.size≤w'.heap.size
 same:∀(b:Nat) (cur:Array Value) (t:TypeId),w.heap[b]? =some (.cells cur t (0,0))→59≠t→3≠t→b≠p→w'.heap[b]? =w.heap[b]?
theorem Aside.below {p:Nat} {w w':World} (h:Below w.heap.size w w'):Aside p w w':=⟨h.size,fun b cur t hb _ _ _=>h.block b (Array.getElem?_eq_some_iff.1 hb).1⟩
theorem Aside.trans {p:Nat} {a b c:World} (h:Aside p a b) (k:Aside p b c):Aside p a c:=
 ⟨Nat.le_trans h.size k.size,fun x cur t hx h1 h2 h3=>(k.same x cur t ((h.same x cur t hx h1 h2 h3).trans hx) h1 h2 h3).trans (h.same x cur t hx h1 h2 h3)⟩
theorem Aside.set {p:Nat} {w:World} {g k:Nat} {u:Value} {cur:Array Value} {t:TypeId} (h:w.heap[g]? =some (.cells cur t (0,0))) (ht:t=59∨t=3∨g=p):Aside p w (w.setCell ⟨g,k,none⟩ u):=
 ⟨by simp [World.setCell], fun b c t' hb h1 h2 h3 => Below.heap_setCell w ⟨g, k, none⟩ u b (fun e => by
  have e2:b=g:=e;subst e2;rw[h] at hb;injection hb with hb
  injection hb with _ hb _
  rcases ht with ht|ht|ht
  ·exact h1 (ht.symm.trans hb)
  ·exact h2 (ht.symm.trans hb)
  ·exact h3 ht)⟩
end Go.Proofs.YtmmpkfcdfcldlaaGreat
namespace Go.Proofs.YtmmpkfcdfcldlaaGreat
open Lib (hid)
inductive Reach (is:List Ino):Nat→Prop where
 | root (k:Nat):atV is 1=(k:Int)→Reach is k
 | step (k j:Nat) (x:Ino) (e:En):Reach is k→is[k]? =some x→x.dir=true→e∈x.ents→atV is e.num=(j:Int)→Reach is j
structure Found (is:List Ino) (todo:List Int) (f:List Bool):Prop where
 len:f.length=is.length
 sound:∀k,f.getD k false=true→Reach is k
 left_:∀t∈todo,∀j:Nat,atV is t=(j:Int)→Reach is j
 closed:∀(k:Nat) (x:Ino),f.getD k false=true→is[k]? =some x→x.dir=true→∀e∈x.ents,∀j:Nat,atV is e.num=(j:Int)→f.getD j false=true∨e.num∈todo
 root:∀j:Nat,atV is 1=(j:Int)→f.getD j false=true∨(1:Int)∈todo
theorem Found.done {is:List Ino} {f:List Bool} (h:Found is [] f) (k:Nat):f.getD k false=true↔Reach is k:=by
 refine⟨h.sound k,fun hr=>?_⟩
 induction hr with
 | root k hk=>rcases h.root k hk with h1|h1;exact h1;simp at h1
 | step k j x e _ hx hd he hj ih=>rcases h.closed k x ih hx hd e he j hj with h1|h1;exact h1;simp at h1
def sumUn:List Ino→List Bool→Nat
 | [],_=>0
 | x::xs,f=>(if f.headD false then 0 else x.ents.length)+sumUn xs f.tail
theorem z3f:∀(is:List Ino) (n:Nat),sumUn is (List.replicate n false)=bulkE is
 | [],_=>rfl
 | x::xs,0=>by
  show(if false=true then 0 else x.ents.length)+sumUn xs (List.replicate 0 false)=x.ents.length+bulkE xs;rw[z3f xs 0];simp
 | x::xs,n+1=>by
  show(if false=true then 0 else x.ents.length)+sumUn xs (List.replicate n false)=x.ents.length+bulkE xs;rw[z3f xs n];simp
theorem z8e:∀(is:List Ino) (f:List Bool) (k:Nat) (x:Ino),k<f.length→f.getD k false=false→is[k]? =some x→sumUn is f=x.ents.length+sumUn is (f.set k true)
 | [],_,_,_,_,_,h=>by simp at h
 | y::ys,[],_,_,hk,_,_=>by simp at hk
 | y::ys,b::f,0,x,_,hf,hx=>by
  have e:y=x:=by simpa using hx
  subst e;have hb:b=false:=by simpa using hf
  subst hb
  show(if false=true then 0 else y.ents.length)+sumUn ys f=y.ents.length+((if true=true then 0 else y.ents.length)+sumUn ys f);simp
 | y::ys,b::f,k+1,x,hk,hf,hx=>by
  have ih:=z8e ys f k x (by simpa using hk) (by simpa using hf) (by simpa using hx)
  show(if b=true then 0 else y.ents.length)+sumUn ys f=x.ents.length+((if b=true then 0 else y.ents.length)+sumUn ys (f.set k true));omega
theorem z1s (f:List Bool) (k j:Nat) (hk:k<f.length):(f.set k true).getD j false=if j=k then true else f.getD j false:=by
 rw[List.getD_eq_getElem?_getD,List.getElem?_set]
 by_cases h:k=j
 ·subst h;simp[hk]
 ·rw[if_neg h,if_neg (Ne.symm h),List.getD_eq_getElem?_getD]
theorem z7a {is:List Ino} {t:Int} {k:Nat} (h:atV is t=(k:Int)):∃x,is[k]? =some x∧x.num=t:=by
 rcases z0s is t with⟨h1,_⟩|⟨j,x,h1,h2,h3,_⟩
 ·omega
 ·have:j=k:=by omega
  subst this;exact⟨x,h2,h3⟩
theorem z4j {is:List Ino} {k:Int} {x:Ino} (h:inoAt is k=some x):∃j:Nat,k=(j:Int)∧is[j]? =some x:=by
 unfold inoAt at h
 by_cases hk:k<0
 ·rw[if_pos hk] at h;cases h
 ·rw[if_neg hk] at h;exact⟨k.toNat,by omega,h⟩
theorem zfi {is:List Ino} {t:Int} (h:inoAt is (atV is t)=none) (j:Nat):atV is t≠(j:Int):=fun e=>by
 obtain⟨x,hx,_⟩:=z7a e;rw[e,z0c,hx] at h;cases h
theorem z3g {todo:List Int} {t:Int} (h:todo.getLast? =some t) (u:Int):u∈todo↔u∈todo.dropLast∨u=t:=by
 obtain⟨ys,rfl⟩:=List.getLast?_eq_some_iff.1 h;simp
theorem Found.skip {is:List Ino} {todo:List Int} {f:List Bool} {t:Int} (h:Found is todo f) (hl:todo.getLast? =some t) (hs:∀j:Nat,atV is t=(j:Int)→f.getD j false=true):Found is todo.dropLast f where
 len:=h.len
 sound:=h.sound
 left_:=fun u hu=>h.left_ u ((z3g hl u).2 (.inl hu))
 closed:=fun k x hk hx hd e he j hj=>by
  rcases h.closed k x hk hx hd e he j hj with h1|h1
  ·exact .inl h1
  ·rcases (z3g hl _).1 h1 with h2|h2
   ·exact .inr h2
   ·exact .inl (hs j (by rw[←h2];exact hj))
 root:=fun j hj=>by
  rcases h.root j hj with h1|h1
  ·exact .inl h1
  ·rcases (z3g hl _).1 h1 with h2|h2
   ·exact .inr h2
   ·exact .inl (hs j (by rw[←h2];exact hj))
theorem Found.take {is:List Ino} {todo:List Int} {f:List Bool} {t:Int} {k:Nat} {x:Ino} (h:Found is todo f) (hl:todo.getLast? =some t) (hk:atV is t=(k:Int)) (hx:is[k]? =some x):
  Found is (todo.dropLast++(if x.dir then x.ents.map (·.num) else [])) (f.set k true):=by
 have hkl:k<f.length:=by rw[h.len];exact(List.getElem?_eq_some_iff.1 hx).1
 have hr:Reach is k:=h.left_ t ((z3g hl t).2 (.inr rfl)) k hk;have old:∀j,f.getD j false=true→(f.set k true).getD j false=true:=fun j hj=>by rw[z1s f k j hkl];split;rfl;exact hj
 have new:(f.set k true).getD k false=true:=by rw[z1s f k k hkl,if_pos rfl]
 refine⟨by rw[List.length_set];exact h.len,fun j hj=>?_,fun u hu j hj=>?_,fun j y hj hy hd e he i hi=>?_,fun j hj=>?_⟩
 ·rw[z1s f k j hkl] at hj
  by_cases e:j=k
  ·subst e;exact hr
  ·rw[if_neg e] at hj;exact h.sound j hj
 ·rcases List.mem_append.1 hu with hu|hu
  ·exact h.left_ u ((z3g hl u).2 (.inl hu)) j hj
  ·by_cases hd:x.dir=true
   ·rw[if_pos hd] at hu;obtain⟨e,he,rfl⟩:=List.mem_map.1 hu;exact .step k j x e hr hx hd he hj
   ·rw[if_neg hd] at hu;simp at hu
 ·by_cases ej:j=k
  ·subst ej;have:x=y:=by rw[hx] at hy;exact Option.some.inj hy
   subst this;exact .inr (List.mem_append.2 (.inr (by rw[if_pos hd];exact List.mem_map_of_mem he)))
  ·rw[z1s f k j hkl,if_neg ej] at hj
   rcases h.closed j y hj hy hd e he i hi with h1|h1
   ·exact .inl (old i h1)
   ·rcases (z3g hl _).1 h1 with h2|h2
    ·exact .inr (List.mem_append.2 (.inl h2))
    ·rw[h2,hk] at hi;have:k=i:=by omega
     subst this;exact .inl new
 ·rcases h.root j hj with h1|h1
  ·exact .inl (old j h1)
  ·rcases (z3g hl _).1 h1 with h2|h2
   ·exact .inr (List.mem_append.2 (.inl h2))
   ·rw[h2,hk] at hj;have:k=j:=by omega
    subst this;exact .inl new
theorem z3h:∀(n:Nat) (is:List Ino) (todo:List Int) (f:List Bool),Found is todo f→todo.length+sumUn is f≤n→Found is [] (reachF is n todo f)
 | 0,is,todo,f,h,hn=>by
  have:todo=[]:=List.eq_nil_of_length_eq_zero (by omega);subst this;exact h
 | n + 1, is, todo, f, h, hn => by
  unfold reachF;cases hl:todo.getLast? with
  | none=>
   have:todo=[]:=List.getLast?_eq_none_iff.1 hl;subst this;exact h
  | some t =>
   have hlen:todo.length=todo.dropLast.length+1:=by
    obtain⟨ys,rfl⟩:=List.getLast?_eq_some_iff.1 hl;simp
   simp only;cases hx:inoAt is (atV is t) with
   | none=>
    simp only;exact z3h n is _ f (h.skip hl fun j hj=>absurd hj (zfi hx j)) (by omega)
   | some x =>
    simp only;obtain⟨k,hk,hx2⟩:=z4j hx;have ek:(atV is t).toNat=k:=by omega
    rw[ek]
    by_cases hf:f.getD k false=true
    ·rw[if_pos hf]
     exact z3h n is _ f (h.skip hl fun j hj=>by
      have:j=k:=by omega
      rw[this];exact hf) (by omega)
    ·rw[if_neg hf];have hkl:k<f.length:=by rw[h.len];exact(List.getElem?_eq_some_iff.1 hx2).1
     have hs:=z8e is f k x hkl (by simpa using hf) hx2;refine z3h n is _ _ (h.take hl hk hx2) ?_;rw[List.length_append];have:(if x.dir=true then x.ents.map (·.num) else []).length≤x.ents.length:=by split<;>simp
     omega
theorem Found.start (is:List Ino):Found is [1] (List.replicate is.length false):=by
 have hno:∀k,(List.replicate is.length false).getD k false=false:=fun k=>by
  rw[List.getD_eq_getElem?_getD,List.getElem?_replicate]
  split<;>rfl
 refine⟨by simp,fun k hk=>?_,fun t ht j hj=>?_,fun k x hk=>?_,fun j hj=>.inr (by simp)⟩
 ·rw[hno] at hk;cases hk
 ·have e:t=1:=by simpa using ht
  rw[e] at hj;exact .root j hj
 ·rw[hno] at hk;cases hk
theorem z7b (is:List Ino):Found is [] (reachV is):=z3h _ is _ _ (Found.start is) (by rw[z3f];simp)
theorem z2c (is:List Ino) (k:Nat):(reachV is).getD k false=true↔Reach is k:=(z7b is).done k
theorem zfj (is:List Ino):(reachV is).length=is.length:=(z7b is).len
theorem Found.same {is:List Ino} {f:List Bool} (h:Found is [] f):f=reachV is:=by
 apply List.ext_getElem?;intro k;have h1:=h.done k;rw[←z2c] at h1;have hl:=h.len;have hv:=zfj is
 by_cases hk:k<is.length
 ·rw[List.getD_eq_getElem?_getD,List.getD_eq_getElem?_getD,List.getElem?_eq_getElem (by omega),List.getElem?_eq_getElem (by omega)] at h1;rw[List.getElem?_eq_getElem (by omega),List.getElem?_eq_getElem (by omega)];simp only[Option.getD_some] at h1
  congr 1
  exact Bool.eq_iff_iff.2 h1
 ·rw[List.getElem?_eq_none (by omega),List.getElem?_eq_none (by omega)]
end Go.Proofs.YtmmpkfcdfcldlaaGreat
namespace Go.Proofs.YtmmpkfcdfcldlaaGreat
open Lib (hid)
open Go.RowKit
theorem z1f (w:World) (A:Option Addr) (n c:Nat) (B:Option Addr) (m d:Nat) (D:Option Addr) (k e:Nat):∃W,w.alloc (.cells #[.slice A n c,.slice B m d,.slice D k e] 26)=W∧W.cell? ⟨w.heap.size,0,.none⟩=some (.slice A n c)∧W.cell? ⟨w.heap.size,1,.none⟩=some (.slice B m d)∧W.cell? ⟨w.heap.size,2,.none⟩=some (.slice D k e)∧Below w.heap.size w W∧w.heap.size<W.heap.size:=by
 refine⟨_,rfl,?_,?_,?_,(Below.refl _ _).alloc (Nat.le_refl _) _,by simp⟩
 ·exact(World.cell?_alloc_mark w _ _ (0,0) _).trans rfl
 ·exact(World.cell?_alloc_mark w _ _ (0,0) _).trans rfl
 ·exact(World.cell?_alloc_mark w _ _ (0,0) _).trans rfl
set_option maxHeartbeats 1000000 in
theorem z0o (v:Value) (s:St) (num:Int) (w:World) (h:StAt none w v s):
  Calls Tryz.prog 94 #[v,.int .i64 num] w fun e w'=>e=.returned (.int .i64 (atV s.inos num))∧Below w.heap.size w w':=by
 obtain⟨⟨A,n,c,B,m,d,D,k,e,rfl,hI,hD,hM,h5,h6,h7⟩,hz⟩:=h;obtain⟨R,hR⟩:∃R,atV s.inos num=R:=⟨_,rfl⟩;rw[hR];have hbig:=hz.big;have hn:=hI.1;have hn2:n≤1099511627776:=by omega
 obtain⟨W,hW,b0,b1,b2,hal,_⟩:=z1f w A n c B m d D k e;have HI:=hid (hI.below hal);have HR:=hid hR;have HAL:=hid hal;clear hI hD hM hz hR hbig hn b1 b2 hal
 go_enter Tryz.func94,Tryz.ntmps94
 go_wp2_with fail;clear hW
 go_loop [5] (fun i=>∃k:Nat,i=.int .i64 k∧k≤n∧atG (s.inos.drop k) num k=R) (fun i=>n-(intOf i).toNat)
 case atStart=>exact⟨0,rfl,by omega,HR.out⟩
 case round=>
  obtain⟨k,rfl,hk,hc⟩:=hrel
  by_cases hlt:k<n
  ·obtain⟨g,off,x,E,m2,d2,rfl,hg,hx,hd,hmem,c0,_,_,_,_,_⟩:=HI.out.get k hlt;rw[hd,atG] at hc
   by_cases hq:x.num=num
   ·rw[if_pos hq] at hc;subst hq;have Hc:=hid hc;clear hc hd hx hmem
    go_wp2
    go_ret;exact⟨Cv.ret_int Hc.out,HAL.out⟩
   ·rw[if_neg hq] at hc;have q:(x.num==num)=false:=by rw[beq_eq_false_iff_ne];exact hq
    have Hc:=hid hc;clear hc hd hx hmem
    go_wp2
    go_round
    case rel=>exact⟨k+1,by go_num,by omega,Hc.out⟩
    case measure=>simp[intOf];omega
  ·have:s.inos.drop k=[]:=List.drop_eq_nil_of_le (by have:=HI.out.1;omega);rw[this,atG] at hc;have Hc:=hid hc;clear hc this
   go_wp2
   go_ret;exact⟨Cv.ret_int Hc.out,HAL.out⟩
set_option maxHeartbeats 1000000 in
theorem z4k (v:Value) (s:St) (num:Int) (w:World) (h:StAt none w v s):
  Calls Tryz.prog 45 #[v,.int .i64 num] w fun e w'=>e=.returned (.bool (openB s.opn num))∧Below w.heap.size w w':=by
 obtain⟨⟨A,n,c,B,m,d,D,k,e,rfl,hI,hD,hM,h5,h6,h7⟩,hz⟩:=h;obtain⟨R,hR⟩:∃R,openB s.opn num=R:=⟨_,rfl⟩;rw[hR];have hbig:=hz.big;have hn:=hD.1;have hn2:m≤1099511627776:=by omega
 obtain⟨W,hW,b0,b1,b2,hal,_⟩:=z1f w A n c B m d D k e;have HD:=hid (hD.below hal);have HR:=hid hR;have HAL:=hid hal;clear hI hD hM hz hR hbig hn b0 b2 hal
 go_enter Tryz.func45,Tryz.ntmps45
 go_wp2_with fail;clear hW
 go_loop [5] (fun i=>∃k:Nat,i=.int .i64 k∧k≤m∧openB (s.opn.drop k) num=R) (fun i=>m-(intOf i).toNat)
 case atStart=>exact⟨0,rfl,by omega,HR.out⟩
 case round=>
  obtain⟨k,rfl,hk,hc⟩:=hrel
  by_cases hlt:k<m
  ·obtain⟨g,off,x,rfl,hg,hx,hd,hmem,_,_,c2⟩:=HD.out.get k hlt;rw[hd,openB] at hc
   by_cases hq:x.num=num
   ·rw[if_pos hq] at hc;subst hq;have Hc:=hid hc;clear hc hd hx hmem
    go_wp2
    go_ret;exact⟨Cv.ret_bool Hc.out,HAL.out⟩
   ·rw[if_neg hq] at hc;have q:(x.num==num)=false:=by rw[beq_eq_false_iff_ne];exact hq
    have Hc:=hid hc;clear hc hd hx hmem
    go_wp2
    go_round
    case rel=>exact⟨k+1,by go_num,by omega,Hc.out⟩
    case measure=>simp[intOf];omega
  ·have:s.opn.drop k=[]:=List.drop_eq_nil_of_le (by have:=HD.out.1;omega);rw[this,openB] at hc;have Hc:=hid hc;clear hc this
   go_wp2
   go_ret;exact⟨Cv.ret_bool Hc.out,HAL.out⟩
set_option maxHeartbeats 1000000 in
theorem z2g (v:Value) (s:St) (core fd:Int) (w:World) (h:StAt none w v s):
  Calls Tryz.prog 124 #[v,.int .i64 core,.int .i64 fd] w fun e w'=>e=.returned (.int .i64 (fdV s.opn core fd))∧Below w.heap.size w w':=by
 obtain⟨⟨A,n,c,B,m,d,D,k,e,rfl,hI,hD,hM,h5,h6,h7⟩,hz⟩:=h;obtain⟨R,hR⟩:∃R,fdV s.opn core fd=R:=⟨_,rfl⟩;rw[hR];have hbig:=hz.big;have hn:=hD.1;have hn2:m≤1099511627776:=by omega
 obtain⟨W,hW,b0,b1,b2,hal,_⟩:=z1f w A n c B m d D k e;have HD:=hid (hD.below hal);have HR:=hid hR;have HAL:=hid hal;clear hI hD hM hz hR hbig hn b0 b2 hal
 go_enter Tryz.func124,Tryz.ntmps124
 go_wp2_with fail;clear hW
 go_loop [7] (fun i=>∃k:Nat,i=.int .i64 k∧k≤m∧fdV (s.opn.drop k) core fd=R) (fun i=>m-(intOf i).toNat)
 case atStart=>exact⟨0,rfl,by omega,HR.out⟩
 case round=>
  obtain⟨k,rfl,hk,hc⟩:=hrel
  by_cases hlt:k<m
  ·obtain⟨g,off,x,rfl,hg,hx,hd,hmem,c0,c1,c2⟩:=HD.out.get k hlt;rw[hd,fdV] at hc
   by_cases hq1:x.core=core
   ·by_cases hq2:x.fd=fd
    ·rw[if_pos ⟨hq1,hq2⟩] at hc;subst hq1 hq2;have Hc:=hid hc;clear hc hd hx hmem
     go_wp2
     go_ret;exact⟨Cv.ret_int Hc.out,HAL.out⟩
    ·rw[if_neg (fun h=>hq2 h.2)] at hc;subst hq1;have q:(x.fd==fd)=false:=by rw[beq_eq_false_iff_ne];exact hq2
     have Hc:=hid hc;clear hc hd hx hmem
     go_wp2
     go_round
     case rel=>exact⟨k+1,by go_num,by omega,Hc.out⟩
     case measure=>simp[intOf];omega
   ·rw[if_neg (fun h=>hq1 h.1)] at hc;have q:(x.core==core)=false:=by rw[beq_eq_false_iff_ne];exact hq1
    have Hc:=hid hc;clear hc hd hx hmem
    go_wp2
    go_round
    case rel=>exact⟨k+1,by go_num,by omega,Hc.out⟩
    case measure=>simp[intOf];omega
  ·have:s.opn.drop k=[]:=List.drop_eq_nil_of_le (by have:=HD.out.1;omega);rw[this,fdV] at hc;have Hc:=hid hc;clear hc this
   go_wp2
   go_ret;exact⟨Cv.ret_int Hc.out,HAL.out⟩
structure Ext (W:World) where
 w:World
 bel:Below W.heap.size W w
instance extSome (W:World):Nonempty (Ext W):=⟨⟨W,Below.refl _ _⟩⟩
theorem Ext.cell {W:World} (x:Ext W) (p:Addr) (h:(W.cell? p).isSome=true):x.w.cell? p=W.cell? p:=by
 obtain⟨u,hu⟩:=Option.isSome_iff_exists.1 h;exact x.bel.cell (World.block_lt_of_cell? W p hu)
theorem zan {P:Program} {id:Nat} {Q:Exit→Act→World→Prop} {a:Act} {w:World} {l:List Oper} (hm:P.follows .mixedOrders=true) (hB:Region.lexB .any l.toArray=true)
  (h:wpQuiet P l.toArray (fun w'=>∃x:Ext w,w'=x.w) (fun a'=>∀w',(∃x:Ext w,w'=x.w)→Q .normal a' w') l a):(Code.region id l.toArray true).wp P Q a w:=
 wp_region_quiet (C:=fun w'=>∃x:Ext w,w'=x.w) hm hB ⟨⟨w.drew,Cv.drewN_below (Below.refl _ _) 1⟩,rfl⟩ (by simpa using h)
theorem wre {P:Program} {id:Nat} {Q:Exit→Act→World→Prop} {a:Act} {w:World} {l:List Oper}
  (h:wpQuiet P l.toArray (fun w'=>∃x:Ext w,w'=x.w) (fun a'=>∀w',(∃x:Ext w,w'=x.w)→Q .normal a' w') l a) (hm:P.follows .mixedOrders=true:=by kernel_rfl) (hB:Region.lexB .any l.toArray=true:=by kernel_rfl):(Code.region id l.toArray true).wp P Q a w:=
 zan hm hB h
theorem Calls.ext_of {P:Program} {f:FuncId} {args:Array Value} {W:World} {x:Ext W} {v:Value}
  (h:Calls P f args x.w fun e w'=>e=.returned v∧Below x.w.heap.size x.w w'):Calls P f args x.w fun e w''=>e=.returned v∧∃y:Ext W,w''=y.w:=
 h.mono fun _ w' ⟨he,hb⟩=>⟨he,⟨w',Cv.next x.bel hb⟩,rfl⟩
theorem Calls.ext_of_same {P:Program} {f:FuncId} {args:Array Value} {W:World} {x:Ext W} {v:Value}
  (h:Calls P f args x.w fun e w'=>e=.returned v∧x.w=w'):Calls P f args x.w fun e w''=>e=.returned v∧∃y:Ext W,w''=y.w:=
 h.mono fun _ w' ⟨he,hb⟩=>⟨he,x,hb.symm⟩
theorem z2r {P:Program} {ops:Array Oper} {w:World} {Q:Act→Prop}:∀(l:List Oper) (a:Act),wpQuiet P ops (fun w'=>w'=w) Q l a→wpStill P ops w Q l a
 | [],a,h=>h
 | o :: rest, a, h => by
  unfold wpQuiet at h;unfold wpStill
  split at h
  ·rename_i hw;rw[if_pos hw];obtain⟨v,h1,h2⟩:=h;have h3:=h1 w rfl;unfold Oper.quietAt at h3;unfold Oper.still;generalize (execOp a.eval o).run P w=r at h3 ⊢;have h4:=z2r rest _ h2;cases r with
   | ok n w' =>
    cases n<;>simp only[Oper.quietUpon] at h3
    case value u=>
     obtain⟨e1,e2⟩:=h3;subst e1 e2;exact⟨rfl,h4⟩
    case skip=>
     obtain⟨e1,e2⟩:=h3;subst e1 e2;exact⟨rfl,h4⟩
    case enter f args=>
     obtain⟨e1,hc⟩:=h3;subst e1;exact⟨rfl,v,hc,h4⟩
   | halt x w'=>simp only[Oper.quietUpon] at h3
  ·rename_i hw;rw[if_neg hw];exact z2r rest _ h
theorem z0m {P:Program} {id:Nat} {Q:Exit→Act→World→Prop} {a:Act} {w:World} {l:List Oper} (n:Nat) (hm:P.follows .mixedOrders=true) (hB:Region.lexTailB .any l.toArray n=true)
  (h:wpQuiet P l.toArray (fun w'=>w'=w.drew) (fun a'=>wpList P l.toArray Q (l.drop n) a' w.drew) (l.take n) a):(Code.region id l.toArray true).wp P Q a w:=
 wp_region_still_tail n hm hB (z2r _ _ h)
theorem z1k {a b:ByteArray} (h:a≠b):(a.toList==b.toList)=false:=by
 rw[beq_eq_false_iff_ne,ByteArray.toList_eq,ByteArray.toList_eq];intro e;apply h;cases a with|mk da=>cases b with|mk db=>exact congrArg ByteArray.mk (Array.toList_inj.1 e)
theorem z2j {a b:ByteArray} (h:a=b):(a.toList==b.toList)=true:=by rw[h];exact beq_self_eq_true _
end Go.Proofs.YtmmpkfcdfcldlaaGreat
