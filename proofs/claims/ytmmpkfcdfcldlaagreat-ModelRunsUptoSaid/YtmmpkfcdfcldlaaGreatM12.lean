/- Parts of the proof, side by side: MoReachP, LaInode, MoFind, MoFind2, MoMade, MoEnts, MoEnts2. -/
import Derived.Test.YtmmpkfcdfcldlaaGreatM11
import Derived.Laws.BitsAllLaws
import Derived.RegionTactic
import Derived.Test.YtmmpkfcdfcldlaaGreatM05
import Derived.Test.YtmmpkfcdfcldlaaGreatM01
import Derived.Test.YtmmpkfcdfcldlaaGreatM03
set_option linter.unusedVariables false
set_option linter.unusedSimpArgs false
namespace Go.Proofs.YtmmpkfcdfcldlaaGreat
open Lib (hid)
def Linked (is:List Ino):Prop:=∀x∈is,(x.dir=false→x.ents=[])∧∀e∈x.ents,0≤atV is e.num
structure FoundQ (is:List Ino) (todo:List Int) (cur:Nat) (rest:List En) (f:List Bool):Prop where
 len:f.length=is.length
 sound:∀k,f.getD k false=true→Reach is k
 queue:∀t∈todo,∃k:Nat,t=(k:Int)∧f.getD k false=true
 closed:∀(k:Nat) (x:Ino),f.getD k false=true→is[k]? =some x→x.dir=true→∀e∈x.ents,∀j:Nat,atV is e.num=(j:Int)→f.getD j false=true∨(k:Int)∈todo∨(k=cur∧e∈rest)
 root:∀j:Nat,atV is 1=(j:Int)→f.getD j false=true
theorem FoundQ.done {is:List Ino} {f:List Bool} {cur:Nat} (h:FoundQ is [] cur [] f):f=reachV is:=
 Found.same ⟨h.len,h.sound,fun t ht=>by simp at ht,fun k x hk hx hd e he j hj=>by
  rcases h.closed k x hk hx hd e he j hj with h1|h1|h1
  ·exact .inl h1
  ·simp at h1
  ·simp at h1,fun j hj=>.inl (h.root j hj)⟩
theorem FoundQ.start {is:List Ino} {x:Ino} (h0:is[0]? =some x) (hn:x.num=1):FoundQ is [0] 0 [] ((List.replicate is.length false).set 0 true):=by
 have hl:0<is.length:=(List.getElem?_eq_some_iff.1 h0).1
 have ha:atV is 1=(0:Nat):=by
  rcases z0o is 1 with⟨_,h2⟩|⟨k,y,h1,h2,h3,h4⟩
  ·exact absurd hn (h2 x (List.mem_of_getElem? h0))
  ·rcases Nat.eq_zero_or_pos k with h|h
   ·rw[h1,h]
   ·exact absurd hn (h4 0 x h h0)
 have hf:∀k,((List.replicate is.length false).set 0 true).getD k false=true→k=0:=fun k hk=>by
  rw[z2a _ 0 k (by simpa using hl)] at hk
  split at hk
  ·assumption
  ·rw[List.getD_eq_getElem?_getD,List.getElem?_replicate] at hk
   split at hk<;>cases hk
 have hf0:((List.replicate is.length false).set 0 true).getD 0 false=true:=by rw[z2a _ 0 0 (by simpa using hl),if_pos rfl]
 refine⟨by simp,fun k hk=>?_,fun t ht=>?_,fun k y hk hy hd e he j hj=>?_,fun j hj=>?_⟩
 ·rw[hf k hk];exact .root 0 ha
 ·have:t=0:=by simpa using ht
  exact⟨0,this,hf0⟩
 ·rw[hf k hk];exact .inr (.inl (by simp))
 ·have:j=0:=by rw[ha] at hj;omega
  rw[this];exact hf0
theorem FoundQ.take {is:List Ino} {t:Int} {ts:List Int} {f:List Bool} {c:Nat} (h:FoundQ is (t::ts) c [] f):∃(k:Nat) (x:Ino),t=(k:Int)∧is[k]? =some x∧f.getD k false=true∧FoundQ is ts k x.ents f:=by
 obtain⟨k,rfl,hk⟩:=h.queue t (by simp)
 have hkl:k<is.length:=by
  rw[←h.len];apply Classical.byContradiction;intro hn;rw[List.getD_eq_getElem?_getD,List.getElem?_eq_none (by omega)] at hk;cases hk
 refine⟨k,is[k],rfl,List.getElem?_eq_getElem hkl,hk,⟨h.len,h.sound,fun u hu=>h.queue u (by simp[hu]),fun i y hi hy hd e he j hj=>?_,h.root⟩⟩
 rcases h.closed i y hi hy hd e he j hj with h1|h1|h1
 ·exact .inl h1
 ·rcases List.mem_cons.1 h1 with h2|h2
  ·have e1:i=k:=by omega
   subst e1;rw[List.getElem?_eq_getElem hkl] at hy;have:is[i]=y:=Option.some.inj hy;rw[this];exact .inr (.inr ⟨rfl,he⟩)
  ·exact .inr (.inl h2)
 ·simp at h1
theorem FoundQ.old {is:List Ino} {ts:List Int} {k j:Nat} {e:En} {es:List En} {f:List Bool} (h:FoundQ is ts k (e::es) f) (hj:atV is e.num=(j:Int)) (hf:f.getD j false=true):FoundQ is ts k es f:=by
 refine⟨h.len,h.sound,h.queue,fun i y hi hy hd e2 he i2 hi2=>?_,h.root⟩
 rcases h.closed i y hi hy hd e2 he i2 hi2 with h1|h1|⟨h1,h2⟩
 ·exact .inl h1
 ·exact .inr (.inl h1)
 ·rcases List.mem_cons.1 h2 with h3|h3
  ·subst h3;have:i2=j:=by omega
   rw[this];exact .inl hf
  ·exact .inr (.inr ⟨h1,h3⟩)
theorem FoundQ.new {is:List Ino} {ts:List Int} {k j:Nat} {x:Ino} {e:En} {es:List En} {f:List Bool} (h:FoundQ is ts k (e::es) f) (hk:f.getD k false=true) (hx:is[k]? =some x) (hd:x.dir=true) (he:e∈x.ents) (hj:atV is e.num=(j:Int)):
  FoundQ is (ts++[(j:Int)]) k es (f.set j true):=by
 have hjl:j<f.length:=by
  rw[h.len];obtain⟨y,hy,_⟩:=z8d hj;exact(List.getElem?_eq_some_iff.1 hy).1
 have old:∀i,f.getD i false=true→(f.set j true).getD i false=true:=fun i hi=>by rw[z2a f j i hjl];split;rfl;exact hi
 have new:(f.set j true).getD j false=true:=by rw[z2a f j j hjl,if_pos rfl]
 refine⟨by rw[List.length_set];exact h.len,fun i hi=>?_,fun t ht=>?_,fun i y hi hy hd2 e2 he2 i2 hi2=>?_,fun i hi=>old i (h.root i hi)⟩
 ·rw[z2a f j i hjl] at hi
  by_cases e1:i=j
  ·subst e1;exact .step k i x e (h.sound k hk) hx hd he hj
  ·rw[if_neg e1] at hi;exact h.sound i hi
 ·rcases List.mem_append.1 ht with h1|h1
  ·obtain⟨i,e1,e2⟩:=h.queue t h1;exact⟨i,e1,old i e2⟩
  ·exact⟨j,by simpa using h1,new⟩
 ·by_cases e1:i=j
  ·subst e1;exact .inr (.inl (by simp))
  ·rw[z2a f j i hjl,if_neg e1] at hi
   rcases h.closed i y hi hy hd2 e2 he2 i2 hi2 with h1|h1|⟨h1,h2⟩
   ·exact .inl (old _ h1)
   ·exact .inr (.inl (List.mem_append.2 (.inl h1)))
   ·rcases List.mem_cons.1 h2 with h3|h3
    ·subst h3;have:i2=j:=by omega
     rw[this];exact .inl new
    ·exact .inr (.inr ⟨h1,h3⟩)
def unF:List Bool→Nat
 | []=>0
 | b::f=>(if b then 0 else 1)+unF f
theorem zlg:∀f:List Bool,unF f≤f.length
 | []=>Nat.le_refl _
 | b::f=>by
  have:=zlg f;unfold unF;rw[List.length_cons]
  split<;>omega
theorem zih:∀(f:List Bool) (k:Nat),k<f.length→f.getD k false=false→unF f=unF (f.set k true)+1
 | [],_,h,_=>by simp at h
 | b::f,0,_,h=>by
  have:b=false:=by simpa using h
  subst this
  show 1+unF f=0+unF f+1;omega
 | b::f,k+1,h,h2=>by
  have:=zih f k (by simpa using h) (by simpa using h2)
  show(if b=true then 0 else 1)+unF f=(if b=true then 0 else 1)+unF (f.set k true)+1;omega
def partL (is:List Ino) (i q:Nat) (num:Int):Nat:=linkI (is.take i) num+(match is[i]? with|none=>0|some x=>linkE (x.ents.take q) num)
theorem zgp (es:List En) (q:Nat) (e:En) (num:Int) (h:es[q]? =some e):linkE (es.take (q+1)) num=linkE (es.take q) num+if e.num=num then 1 else 0:=by
 induction es generalizing q with
 | nil=>simp at h
 | cons x xs ih =>
  cases q with
  | zero=>
   have:x=e:=by simpa using h
   subst this;simp[linkE]
  | succ q=>
   have:=ih q (by simpa using h);simp only[List.take_succ_cons,linkE];rw[this];omega
theorem zgq (is:List Ino) (i:Nat) (x:Ino) (num:Int) (h:is[i]? =some x):linkI (is.take (i+1)) num=linkI (is.take i) num+if x.dir then linkE x.ents num else 0:=by
 induction is generalizing i with
 | nil=>simp at h
 | cons y ys ih =>
  cases i with
  | zero=>
   have:y=x:=by simpa using h
   subst this;simp[linkI]
  | succ i=>
   have:=ih i (by simpa using h);simp only[List.take_succ_cons,linkI];rw[this];omega
theorem zgr (is:List Ino) (num:Int):partL is 0 0 num=0:=by
 unfold partL;cases is with
 | nil=>rfl
 | cons x xs=>simp[linkI,linkE]
theorem ze1 {is:List Ino} {i q:Nat} {x:Ino} {e:En} (hx:is[i]? =some x) (he:x.ents[q]? =some e) (num:Int):partL is i (q+1) num=partL is i q num+if e.num=num then 1 else 0:=by
 unfold partL;rw[hx];simp only;rw[zgp _ _ _ _ he];omega
theorem zgs {is:List Ino} (hl:Linked is) {i q:Nat} {x:Ino} (hx:is[i]? =some x) (hq:x.ents.length≤q) (num:Int):partL is (i+1) 0 num=partL is i q num:=by
 unfold partL;rw[hx,zgq _ _ _ _ hx];simp only;rw[List.take_of_length_le hq]
 have h0:(match is[i+1]? with|none=>0|some x=>linkE (x.ents.take 0) num)=0:=by
  cases is[i+1]? with
  | none=>rfl
  | some y=>simp[linkE]
 rw[h0];cases hd:x.dir
 ·rw[(hl x (List.mem_of_getElem? hx)).1 hd];simp[linkE]
 ·simp
theorem zii {is:List Ino} {i:Nat} (h:is.length≤i) (num:Int):partL is i 0 num=linkI is num:=by
 unfold partL;rw[List.take_of_length_le h,List.getElem?_eq_none h];simp
theorem zbu:∀(es:List En) (num:Int),linkE es num≤es.length
 | [],_=>Nat.le_refl _
 | e::es,num=>by
  have:=zbu es num;unfold linkE;rw[List.length_cons]
  split<;>omega
theorem z8v:∀(is:List Ino) (num:Int),linkI is num≤bulkE is
 | [],_=>Nat.le_refl _
 | x::xs,num=>by
  have h1:=z8v xs num;have h2:=zbu x.ents num;have h3:bulkE (x::xs)=x.ents.length+bulkE xs:=rfl;unfold linkI;rw[h3]
  split<;>omega
theorem zgt (is:List Ino) (i:Nat) (x:Ino) (h:is[i]? =some x):bulkE (is.take i)+x.ents.length≤bulkE is:=by
 induction is generalizing i with
 | nil=>simp at h
 | cons y ys ih =>
  have h3:bulkE (y::ys)=y.ents.length+bulkE ys:=rfl;cases i with
  | zero=>
   have:y=x:=by simpa using h
   subst this;rw[h3,List.take_zero];have:bulkE []=0:=rfl;omega
  | succ i=>
   have:=ih i (by simpa using h);rw[List.take_succ_cons,h3];have h4:bulkE (y::ys.take i)=y.ents.length+bulkE (ys.take i):=rfl;omega
theorem zka (is:List Ino) (i q:Nat) (num:Int):partL is i q num≤bulkE is:=by
 unfold partL;cases h:is[i]? with
 | none=>
  have:is.length≤i:=List.getElem?_eq_none_iff.1 h;rw[List.take_of_length_le this];have:=z8v is num;simp only;omega
 | some x=>
  have h1:=zgt is i x h;have h2:=z8v (is.take i) num;have h3:=zbu (x.ents.take q) num;have h4:(x.ents.take q).length≤x.ents.length:=by simp;omega
  simp only;omega
end Go.Proofs.YtmmpkfcdfcldlaaGreat
namespace Go.Proofs.YtmmpkfcdfcldlaaGreat
open Lib (hid)
open Go.RowKit
structure InoOk (x:Ino):Prop where
 num:0≤x.num∧x.num≤1099511627776
 data:x.data.size≤1099511627776
 ents:x.ents.length≤1099511627776∧∀e∈x.ents,0≤e.num∧e.num≤1099511627776∧e.name.size≤1099511627776
def RiseI (is:List Ino):Prop:=∀(i j:Nat) (x y:Ino),i<j→is[i]? =some x→is[j]? =some y→x.num<y.num
structure PtrAt (w:World) (p:Nat) (s:St):Prop where
 at_:∃A n c E m d D k e,w.heap[p]? =some (.cells #[.slice A n c,.slice E m d,.slice D k e] 26 (0,0))∧InosAt none w A n s.inos∧DescsAt none w E m s.opn∧IntsAt none w D k s.made∧SlOk A n c∧SlOk E m d∧SlOk D k e
 sized:Sized s
theorem PtrAt.below {w w':World} {p:Nat} {s:St} (h:PtrAt w p s) (hb:Below w.heap.size w w'):PtrAt w' p s:=by
 obtain⟨⟨A,n,c,E,m,d,D,k,e,h1,h2,h3,h4,h5,h6,h7⟩,hz⟩:=h;exact⟨⟨A,n,c,E,m,d,D,k,e,(hb.block p (Array.getElem?_eq_some_iff.1 h1).1).trans h1,h2.below hb,h3.below hb,h4.below hb,h5,h6,h7⟩,hz⟩
theorem zfd {is:List Ino} {num:Int} (h:∀x∈is,x.num≠num):atV is num=-1:=by
 rcases z0o is num with⟨h1,_⟩|⟨k,x,_,h2,h3,_⟩
 ·exact h1
 ·exact absurd h3 (h x (List.mem_of_getElem? h2))
theorem z0g {is:List Ino} {num:Int} {j:Nat} {x:Ino} (hr:RiseI is) (hx:is[j]? =some x) (hn:x.num=num):atV is num=(j:Int):=by
 rcases z0o is num with⟨h1,h2⟩|⟨k,y,h1,h2,h3,_⟩
 ·exact absurd hn (h2 x (List.mem_of_getElem? hx))
 ·rw[h1]
  by_cases e1:k<j
  ·have:=hr k j y x e1 h2 hx;omega
  ·by_cases e2:j<k
   ·have:=hr j k x y e2 hx h2;omega
   ·congr 1;omega
def cmpI (a b:Int):Int:=if a<b then -1 else if b<a then 1 else 0
theorem zij (x1 x2 x3 x4:Value) (num a:Int) (w:World) (h1:x1=.int .i64 a):
  Calls Tryz.prog 136 #[.agg #[x1,x2,x3,x4],.int .i64 num] w fun e w'=>e=.returned (.int .i64 (cmpI a num))∧Below w.heap.size w w':=by
 subst h1
 go_enter Tryz.func136,Tryz.ntmps136
 unfold cmpI
 by_cases h1:a<num
 ·rw[if_pos h1];have q1:decide (a<num)=true:=decide_eq_true h1;go_wp2_with fail;go_ret;exact⟨rfl,(Below.refl _ _).alloc (Nat.le_refl _) _⟩
 ·have q1:decide (a<num)=false:=decide_eq_false h1;rw[if_neg h1]
  by_cases h2:num<a
  ·rw[if_pos h2];have q2:decide (num<a)=true:=decide_eq_true h2;go_wp2_with fail;go_ret;exact⟨rfl,(Below.refl _ _).alloc (Nat.le_refl _) _⟩
  ·rw[if_neg h2];have q2:decide (num<a)=false:=decide_eq_false h2;go_wp2_with fail;go_ret;exact⟨rfl,(Below.refl _ _).alloc (Nat.le_refl _) _⟩
set_option maxRecDepth 100000 in
set_option maxHeartbeats 4000000 in
theorem ze2 (is:List Ino) (A:Option Addr) (n c:Nat) (num:Int) (w:World) (hI:InosAt none w A n is) (hn:n≤1099511627776) (hr:RiseI is):
  Calls Tryz.prog 109 #[.slice A n c,.int .i64 num,.func (.func 136) #[] #[]] w fun e w'=>∃i b,e=.returned (.tuple #[.int .i64 (i:Nat),.bool b])∧Below w.heap.size w w'∧atV is num=if b then(i:Int) else -1:=by
 have HI:=hid hI
 go_enter Tryz.func109,Tryz.ntmps109
 clear hI;go_wp2_with fail
 go_loopw [9,10] (fun iv jv wr=>∃i j:Nat,iv=.int .i64 i∧jv=.int .i64 j∧i≤j∧j≤n∧(∀(k:Nat) (x:Ino),k<i→is[k]? =some x→x.num<num)∧(∀(k:Nat) (x:Ino),j≤k→is[k]? =some x→num≤x.num)∧Below w.heap.size w wr) (fun iv jv _=>(intOf jv).toNat-(intOf iv).toNat)
 case atStart=>exact⟨0,n,rfl,rfl,by omega,by omega,fun k x hk=>by omega,fun k x hk hx=>by have:=(List.getElem?_eq_some_iff.1 hx).1;have:=HI.out.1;omega,Below.refl _ _⟩
 case round =>
  obtain⟨i,j,rfl,rfl,hij,hjn,hlo,hhi,hbel⟩:=hrel;have HB:=hid hbel;have HIr:=hid (HI.out.below hbel);have HLO:=hid hlo;have HHI:=hid hhi;clear hbel hlo hhi
  by_cases hlt:i<j
  ·obtain⟨h,hh⟩:∃h,(i+j) / 2=h:=⟨_,rfl⟩;have hh1:i≤h:=by omega
   have hh2:h<j:=by omega
   obtain⟨g,off,x,E,m,d,rfl,hg,hx,hd,hmem,c0,c1,c2,c3,hok,hE⟩:=HIr.out.get h (by omega);have HHH:=hid hh;have hx2:is[h]? =some x:=hx;have HX:=hid hx2;have HRR:=hid hr;have HHH2:Hid (h<j):=hid hh2;clear hx2;go_wp2_with fail;refine(zij _ _ _ _ num x.num _ rfl).mono ?_;rintro e5 w5 ⟨rfl,hb5⟩;have e2:((i:Int)+(j:Int)) / 2=(h:Int):=by have:=HHH.out;omega
   rw[e2];have HB5:=hid (HB.out.trans (hb5.mono HB.out.size));clear hb5 c0 c1 c2 c3
   by_cases hc:x.num<num
   ·have q1:cmpI x.num num=-1:=by unfold cmpI;rw[if_pos hc]
    rw[q1];clear q1;go_wp2_with fail;go_roundw
    case rel=>exact⟨h+1,j,by go_num,rfl,by omega,hjn,fun k y hk hy=>by
     by_cases e:k=h
     ·subst e;have:=HX.out;rw[hy] at this;cases this;exact hc
     ·have:=HRR.out k h y x (by omega) hy HX.out;omega,HHI.out,HB5.out⟩
    case measure=>simp[intOf];omega
   ·have q1:decide (cmpI x.num num<0)=false:=by unfold cmpI;rw[if_neg hc];split<;>rfl
    go_wp2_with fail;go_roundw
    case rel=>exact⟨i,h,rfl,rfl,hh1,by omega,HLO.out,fun k y hk hy=>by
     by_cases e:k=h
     ·subst e;have:=HX.out;rw[hy] at this;cases this;omega
     ·have:=HRR.out h k x y (by omega) HX.out hy;omega,HB5.out⟩
    case measure=>simp[intOf];omega
  ·have eij:j=i:=by omega
   subst eij
   by_cases hin:j<n
   ·obtain⟨g,off,x,E,m,d,rfl,hg,hx,hd,hmem,c0,c1,c2,c3,hok,hE⟩:=HIr.out.get j hin;have HX:=hid hx;have HRR:=hid hr;go_wp2_with fail;refine(zij _ _ _ _ num x.num _ rfl).mono ?_;rintro e5 w5 ⟨rfl,hb5⟩;have HB5:=hid (HB.out.trans (hb5.mono HB.out.size));clear hb5 c0 c1 c2 c3
    by_cases hc:x.num=num
    ·have q1:cmpI x.num num=0:=by unfold cmpI;rw[if_neg (by omega),if_neg (by omega)]
     rw[q1];clear q1;go_wp2_with fail;go_ret2;refine⟨j,true,rfl,HB5.out,?_⟩;rw[if_pos rfl];exact z0g HRR.out HX.out hc
    ·have q1:(cmpI x.num num==0)=false:=by unfold cmpI;rw[beq_eq_false_iff_ne];split;omega;split<;>omega
     go_wp2_with fail;go_ret2;refine⟨j,false,rfl,HB5.out,?_⟩;rw[if_neg (by decide)];refine zfd fun y hy=>?_
     obtain⟨k,hk⟩:=List.getElem?_of_mem hy
     by_cases e1:k<j
     ·have:=HLO.out k y e1 hk;omega
     ·by_cases e2:k=j
      ·subst e2;have:=HX.out;rw[hk] at this;cases this;exact hc
      ·have h1:=HRR.out j k x y (by omega) HX.out hk;have h2:=HHI.out j x (by omega) HX.out;omega
   ·have q1:decide ((j:Int)<(n:Int))=false:=by rw[decide_eq_false_iff_not];omega
    clear hlt;go_wp2_with fail;go_ret2;refine⟨j,false,rfl,HB.out,?_⟩;rw[if_neg (by decide)];refine zfd fun y hy=>?_
    obtain⟨k,hk⟩:=List.getElem?_of_mem hy;have h1:=(List.getElem?_eq_some_iff.1 hk).1;have h2:=HIr.out.1;have:=HLO.out k y (by omega) hk;omega
theorem PtrAt.val {w:World} {p:Nat} {s:St} (h:PtrAt w p s):∃A n c E m d D k e,p<w.heap.size∧w.cell? ⟨p,0,none⟩=some (.slice A n c)∧w.cell? ⟨p,1,none⟩=some (.slice E m d)∧w.cell? ⟨p,2,none⟩=some (.slice D k e)∧
  InosAt none w A n s.inos∧DescsAt none w E m s.opn∧IntsAt none w D k s.made∧n≤1099511627776∧m≤1099511627776∧k≤1099511627776:=by
 obtain⟨⟨A,n,c,E,m,d,D,k,e,h1,h2,h3,h4,h5,h6,h7⟩,hz⟩:=h;have hbig:=hz.big;have l1:=h2.1;have l2:=h3.1;have l3:=h4.1;refine⟨A,n,c,E,m,d,D,k,e,(Array.getElem?_eq_some_iff.1 h1).1,?_,?_,?_,h2,h3,h4,by omega,by omega,by omega⟩<;>(rw[cell_of_row w p _ _ _ (0,0) h1];rfl)
set_option maxRecDepth 100000 in
set_option maxHeartbeats 4000000 in
theorem z1w (p:Nat) (s:St) (num:Int) (w:World) (h:PtrAt w p s) (hr:RiseI s.inos):
  Calls Tryz.prog 92 #[.pointer (some ⟨p,0,.none⟩),.int .i64 num] w fun e w'=>e=.returned (.int .i64 (atV s.inos num))∧Below w.heap.size w w':=by
 obtain⟨A,n,c,E,m,d,D,k,e,hp,c0,c1,c2,hI,hD,hM,hn,_,_⟩:=h.val;obtain⟨R,hR⟩:∃R,atV s.inos num=R:=⟨_,rfl⟩;rw[hR]
 go_enter Tryz.func92,Tryz.ntmps92
 go_wp2_with fail;refine(ze2 s.inos A n c num w hI hn hr).mono ?_;rintro e1 w1 ⟨i,b,rfl,hb,hat⟩;rw[hR] at hat;cases b
 ·rw[if_neg (by decide)] at hat;subst hat;go_wp2_with fail;go_ret;exact⟨rfl,hb⟩
 ·rw[if_pos rfl] at hat;subst hat;go_wp2_with fail;go_ret;exact⟨rfl,hb⟩
theorem zik (x:Int) (w:World):Calls Tryz.prog 89 #[.int .i64 x] w fun e w'=>e=.returned (.bool (decide (x<0)||decide (32<x)))∧w=w':=by
 go_enter Tryz.func89,Tryz.ntmps89
 by_cases h1:x<0
 ·have q1:decide (x<0)=true:=decide_eq_true h1;go_wp2_with fail;go_ret;exact⟨by rw[q1];rfl,rfl⟩
 ·have q1:decide (x<0)=false:=decide_eq_false h1;go_wp2_with fail;go_ret;exact⟨by first|rfl|(rw[q1];rfl),rfl⟩
set_option maxRecDepth 100000 in
set_option maxHeartbeats 4000000 in
theorem zbv (xs:List Int) (A:Option Addr) (n c:Nat) (w:World) (hI:IntsAt none w A n xs) (hn:n≤1099511627776):
  Calls Tryz.prog 131 #[.slice A n c,.func (.func 89) #[] #[]] w fun e w'=>∃r:Int,e=.returned (.int .i64 r)∧w=w'∧(madeG xs=decide (r<0)):=by
 obtain⟨R,hR⟩:∃R,madeG xs=R:=⟨_,rfl⟩;rw[hR];have HI:=hid hI;have HR:=hid hR;clear hI hR
 go_enter Tryz.func131,Tryz.ntmps131
 go_wp2_with fail
 go_loop [8] (fun j=>∃q:Nat,j=.int .i64 q∧q≤n∧madeG (xs.drop q)=R) (fun j=>n-(intOf j).toNat)
 case atStart=>exact⟨0,rfl,by omega,HR.out⟩
 case round=>
  obtain⟨q,rfl,hq,hc⟩:=hrel
  by_cases hlt:q<n
  ·obtain⟨g,off,x,rfl,hg,hx,hd,hmem,c0⟩:=HI.out.get q hlt;rw[hd,madeG] at hc;have HC:=hid hc;have k0:(0:Int)≤(q:Int):=by omega
   clear hc hd hmem hx;go_wp2_with fail;refine(zik x _).mono ?_;rintro e5 w5 ⟨rfl,rfl⟩;obtain⟨bb,hbb⟩:∃bb,(decide (x<0)||decide (32<x))=bb:=⟨_,rfl⟩;rw[hbb];have hc:=HC.out;cases bb
   ·have hnx:¬(x<0∨32<x):=by
     rw[Bool.or_eq_false_iff,decide_eq_false_iff_not,decide_eq_false_iff_not] at hbb;omega
    rw[if_neg hnx] at hc;have HC2:=hid hc;clear hc hbb;go_wp2_with fail
    go_round
    case rel=>exact⟨q+1,by go_num,by omega,HC2.out⟩
    case measure=>simp[intOf];omega
   ·have hnx:x<0∨32<x:=by
     rw[Bool.or_eq_true,decide_eq_true_eq,decide_eq_true_eq] at hbb;exact hbb
    rw[if_pos hnx] at hc;have HC2:=hid hc;clear hc hbb;go_wp2_with fail;go_ret;refine⟨(q:Int),rfl,rfl,?_⟩;rw[←HC2.out,decide_eq_false (show ¬(q:Int)<0 by omega)]
  ·have hnil:xs.drop q=[]:=List.drop_eq_nil_of_le (by have:=HI.out.1;omega);rw[hnil,madeG] at hc;have HC:=hid hc;clear hc hnil;go_wp2_with fail;go_ret;exact⟨-1,rfl,rfl,HC.out.symm⟩
theorem z8m (xs:List Int) (A:Option Addr) (n c:Nat) (w:World) (hI:IntsAt none w A n xs) (hn:n≤1099511627776):
  Calls Tryz.prog 88 #[.slice A n c,.func (.func 89) #[] #[]] w fun e w'=>e=.returned (.bool (!madeG xs))∧w=w':=by
 go_enter Tryz.func88,Tryz.ntmps88
 go_wp2_with fail;refine(zbv xs A n c w hI hn).mono ?_;rintro e5 w5 ⟨r,rfl,rfl,hr⟩
 by_cases h0:0≤r
 ·have q0:decide ((0:Int)≤r)=true:=decide_eq_true h0;go_wp2_with fail;go_ret;exact⟨by rw[hr,decide_eq_false (by omega)];rfl,rfl⟩
 ·have q0:decide ((0:Int)≤r)=false:=decide_eq_false h0;go_wp2_with fail;go_ret;exact⟨by rw[hr,decide_eq_true (by omega)];rfl,rfl⟩
def mMadeV (s:St):Bool:=decide (1≤s.made.length)&&decide (s.made.length≤8)&&madeG s.made
set_option maxRecDepth 100000 in
set_option maxHeartbeats 4000000 in
theorem ze3 (p:Nat) (s:St) (w:World) (h:PtrAt w p s):
  Calls Tryz.prog 36 #[.pointer (some ⟨p,0,.none⟩)] w fun e w'=>e=.returned (.bool (mMadeV s))∧w=w':=by
 obtain⟨A,n,c,E,m,d,D,k,e,hp,c0,c1,c2,hI,hD,hM,hn,_,hk⟩:=h.val;have hkl:=hM.1
 go_enter Tryz.func36,Tryz.ntmps36
 unfold mMadeV
 by_cases h1:1≤k
 ·by_cases h8:k≤8
  ·have q1:decide ((k:Int)<1)=false:=by rw[decide_eq_false_iff_not];omega
   have q8:decide ((8:Int)<(k:Int))=false:=by rw[decide_eq_false_iff_not];omega
   go_wp2_with fail;refine(z8m s.made D k e _ hM hk).mono ?_;rintro e5 w5 ⟨rfl,rfl⟩;go_wp2_with fail;go_ret;exact⟨by rw[decide_eq_true (show 1≤s.made.length by omega),decide_eq_true (show s.made.length≤8 by omega)];simp,rfl⟩
  ·have q1:decide ((k:Int)<1)=false:=by rw[decide_eq_false_iff_not];omega
   have q8:decide ((8:Int)<(k:Int))=true:=by rw[decide_eq_true_eq];omega
   go_wp2_with fail;go_ret;exact⟨by rw[decide_eq_false (show ¬s.made.length≤8 by omega)];simp,rfl⟩
 ·have q1:decide ((k:Int)<1)=true:=by rw[decide_eq_true_eq];omega
  go_wp2_with fail;go_ret;exact⟨by rw[decide_eq_false (show ¬1≤s.made.length by omega)];simp,rfl⟩
theorem zkb (num:Int) (h1: -9223372036854775808≤num) (h2:num≤9223372036854775807) (w:World):
  Calls Tryz.prog 132 #[.int .i64 num] w fun e w'=>e=.returned (.int .i64 (if num<2 then -1 else(num-2)%8))∧w=w':=by
 go_enter Tryz.func132,Tryz.ntmps132
 by_cases h:num<2
 ·have q:decide (num<2)=true:=decide_eq_true h;rw[if_pos h];go_wp2_with fail;go_ret;exact⟨rfl,rfl⟩
 ·have q:decide (num<2)=false:=decide_eq_false h;rw[if_neg h];have e1:(num-2).tmod 8=(num-2)%8:=Int.tmod_eq_emod_of_nonneg (by omega);have w1:IntKind.i64.wrap (num-2)=num-2:=by rw[IntKind.wrap_i64];omega
  have w2:IntKind.i64.wrap ((num-2)%8)=(num-2)%8:=by rw[IntKind.wrap_i64];omega
  go_wp2_with fail;go_ret;exact⟨rfl,rfl⟩
theorem zkc (num:Int) (h1:2≤num) (h2:num≤9223372036854775807) (w:World):
  Calls Tryz.prog 133 #[.int .i64 num] w fun e w'=>e=.returned (.int .i64 ((num-2) / 8))∧w=w':=by
 go_enter Tryz.func133,Tryz.ntmps133
 have e1:(num-2).tdiv 8=(num-2) / 8:=Int.tdiv_eq_ediv_of_nonneg (by omega);have w1:IntKind.i64.wrap (num-2)=num-2:=by rw[IntKind.wrap_i64];omega
 have w2:IntKind.i64.wrap ((num-2) / 8)=(num-2) / 8:=by rw[IntKind.wrap_i64];omega
 go_wp2_with fail;go_ret;exact⟨rfl,rfl⟩
theorem z8h:∀(a b:List UInt8),Op.bytesLess a b=ltB a b
 | [],[]=>rfl
 | [],_::_=>rfl
 | _::_,[]=>rfl
 | a :: al, b :: bl => by
  unfold Op.bytesLess ltB;rw[z8h al bl]
  by_cases h:a=b
  ·subst h;rw[if_pos rfl];simp
  ·rw[if_neg h];have:(a==b)=false:=by rw[beq_eq_false_iff_ne];exact h
   simp[this]
theorem z5u (s:ByteArray) (w:World) (hs:s.size≤maxLen):
  Calls Tryz.prog 135 #[.string s] w fun e w'=>e=.returned (.int .i64 ((bktB s:Nat):Int))∧Below w.heap.size w w':=by
 have h1:hashL s.data.toList%8<8:=Nat.mod_lt _ (by omega);obtain⟨H,hH⟩:∃H,hashL s.data.toList=H:=⟨_,rfl⟩;have hb:bktB s=H%8:=by unfold bktB;rw[hH]
 rw[hb]
 go_enter Tryz.func135,Tryz.ntmps135
 go_wp2_with fail;refine(zk8 s _ hs).mono ?_;rintro e w1 ⟨rfl,hbl⟩;rw[hH];have e1:(H:Int).tmod 8=((H%8:Nat):Int):=rfl;go_wp2_with fail;go_ret;exact⟨by first|rfl|simp,hbl⟩
set_option maxRecDepth 100000 in
set_option maxHeartbeats 4000000 in
theorem zgu (p:Nat) (s:St) (num:Int) (w:World) (h:PtrAt w p s) (h1: -9223372036854775808≤num) (h2:num≤9223372036854775807):
  Calls Tryz.prog 90 #[.pointer (some ⟨p,0,.none⟩),.int .i64 num] w fun e w'=>e=.returned (.bool (givenV s.made num))∧Below w.heap.size w w':=by
 obtain⟨A,n,c,E,m,d,D,k,e,hp,c0,c1,c2,hI,hD,hM,hn,_,hk⟩:=h.val;have hkl:=hM.1;obtain⟨R,hR⟩:∃R,givenV s.made num=R:=⟨_,rfl⟩;rw[hR];unfold givenV at hR;have hX:=@Ext.cell w
 go_enter Tryz.func90,Tryz.ntmps90
 go_wp2_with fail;refine(zkb num h1 h2 _).mono ?_;rintro e1 w1 ⟨rfl,rfl⟩
 by_cases hnum:num<2
 ·rw[if_pos hnum] at hR ⊢;subst hR;go_wp2_with fail;refine wre ?_
  repeat (go_big_quiet_step (fail))
  refine wpQuiet_nil ?_;rintro w7 ⟨X,rfl⟩;go_wp2_with fail;go_ret;exact⟨rfl,X.bel⟩
 ·rw[if_neg hnum] at hR ⊢;obtain⟨C,hC⟩:∃C:Nat,(num-2)%8=(C:Int):=⟨((num-2)%8).toNat,by omega⟩;obtain⟨Q,hQ⟩:∃Q:Int,(num-2) / 8=Q:=⟨_,rfl⟩;rw[hC,hQ,Int.toNat_natCast] at hR;rw[hC];have q0:decide ((0:Int)≤(C:Int))=true:=by rw[decide_eq_true_eq];omega
  by_cases hlt:C<k
  ·have q1:decide ((C:Int)<(k:Int))=true:=by rw[decide_eq_true_eq];omega
   obtain⟨g,off,x,rfl,hg,hx,hd,hmem,cx⟩:=hM.get C hlt;have hgd:s.made.getD C 0=x:=by rw[List.getD_eq_getElem?_getD,hx];rfl
   rw[hgd,decide_eq_true (show(C:Int)<(s.made.length:Int) by omega),Bool.true_and] at hR;subst hR;have k0:(0:Int)≤(C:Int):=by omega
   have k1:(C:Int)<(k:Int):=by omega
   clear hd hx hmem hgd hI hD hM;go_wp2_with fail;refine wre ?_
   repeat (go_big_quiet_step (first|(go_at_call 133;exact Calls.ext_of_same (by have:=zkc num (by omega) h2;rw[hQ] at this;exact this _))))
   refine wpQuiet_nil ?_;rintro w7 ⟨X,rfl⟩;go_wp2_with fail;go_ret;exact⟨rfl,X.bel⟩
  ·have q1:decide ((C:Int)<(k:Int))=false:=by rw[decide_eq_false_iff_not];omega
   rw[decide_eq_false (show ¬(C:Int)<(s.made.length:Int) by omega),Bool.false_and] at hR;subst hR;go_wp2_with fail;refine wre ?_
   repeat (go_big_quiet_step (fail))
   refine wpQuiet_nil ?_;rintro w7 ⟨X,rfl⟩;go_wp2_with fail;go_ret;exact⟨rfl,X.bel⟩
def ManyT (w:World) (M:Nat) (f:Nat→Nat):Prop:=∃(cur:Array Value) (t:TypeId),w.heap[M]? =some (.cells cur t (0,0))∧∀j,j<8→cur[j]? =some (.int .i64 (f j:Nat))
theorem ManyT.lt {w:World} {M:Nat} {f:Nat→Nat} (h:ManyT w M f):M<w.heap.size:=by
 obtain⟨cur,t,hh,_⟩:=h;exact(Array.getElem?_eq_some_iff.1 hh).1
theorem ManyT.below {w w':World} {M:Nat} {f:Nat→Nat} (h:ManyT w M f) (hb:Below w.heap.size w w'):ManyT w' M f:=by
 have hl:=h.lt;obtain⟨cur,t,hh,hc⟩:=h;exact⟨cur,t,(hb.block M hl).trans hh,hc⟩
theorem ManyT.get {w:World} {M:Nat} {f:Nat→Nat} (h:ManyT w M f) (j:Nat) (hj:j<8):w.cell? ⟨M,j,.none⟩=some (.int .i64 (f j:Nat))∧w.frozen? ⟨M,j,.none⟩=false:=by
 obtain⟨cur,t,hh,hc⟩:=h;exact⟨by rw[cell_of_row w M j cur _ (0,0) hh];exact hc j hj,frozen_of_row w M j cur _ hh⟩
theorem ManyT.set {w:World} {M:Nat} {f:Nat→Nat} (h:ManyT w M f) (b:Nat) (hb:b<8):ManyT (w.setCell ⟨M,b,.none⟩ (.int .i64 ((f b:Int)+1))) M (fun j=>if j=b then f j+1 else f j):=by
 obtain⟨cur,t,hh,hc⟩:=h;refine⟨_,t,heap_setCell_same w M b cur _ _ hh,fun j hj=>?_⟩;rw[Array.getElem?_setIfInBounds]
 by_cases e:b=j
 ·subst e;have:b<cur.size:=(Array.getElem?_eq_some_iff.1 (hc b hb)).1;simp[this]
 ·have e2:¬j=b:=fun h=>e h.symm
  simp only[e,e2,if_false];exact hc j hj
theorem zkd (w:World) (t:TypeId):∃W,w.alloc (.cells #[.int .i64 0,.int .i64 0,.int .i64 0,.int .i64 0,.int .i64 0,.int .i64 0,.int .i64 0,.int .i64 0] t)=W∧ManyT W w.heap.size (fun _=>0)∧Below w.heap.size w W:=by
 refine⟨_,rfl,⟨_,t,heap_alloc_new w _,fun j hj=>?_⟩,(Below.refl _ _).alloc (Nat.le_refl _) _⟩;have:j=0∨j=1∨j=2∨j=3∨j=4∨j=5∨j=6∨j=7:=by omega
 rcases this with h|h|h|h|h|h|h|h<;>subst h<;>rfl
set_option maxRecDepth 100000 in
set_option maxHeartbeats 8000000 in
theorem ze4 (p:Nat) (s:St) (es:List En) (E:Option Addr) (m2 d2:Nat) (w:World) (h:PtrAt w p s) (hr:RiseI s.inos) (hE:EntsAt none w E m2 es) (hm2:m2≤1099511627776) (htx:∀e∈es,e.name.size≤140737488355328):
  Calls Tryz.prog 91 #[.pointer (some ⟨p,0,.none⟩),.slice E m2 d2] w fun e w'=>e=.returned (.bool (entsV s.inos es))∧Below w.heap.size w w':=by
 obtain⟨R,hR⟩:∃R,entsV s.inos es=R:=⟨_,rfl⟩;rw[hR];unfold entsV at hR;obtain⟨V,hV,hmany,hal3⟩:=zkd w 153;have HP:=hid h;have HRI:=hid hr;have HE:=hid hE;have HAL3:=hid hal3;have HR:=hid hR;have HTX:=hid htx;have HMY:=hid hmany;clear h hr hE hal3 hR htx hmany
 go_enter Tryz.func91,Tryz.ntmps91
 go_wp2_with fail;clear hV
 go_loopw [11] (fun i wr=>∃(k:Nat) (f:Nat→Nat),i=.int .i64 k∧k≤m2∧Below w.heap.size w wr∧ManyT wr w.heap.size f∧(∀j,f j≤k)∧entsG s.inos (es.drop k) (prevN es k) f=R) (fun i _=>m2-(intOf i).toNat)
 case atStart=>exact⟨0,fun _=>0,rfl,by omega,HAL3.out,HMY.out,fun _=>Nat.le_refl _,HR.out⟩
 case round =>
  obtain⟨k,f,rfl,hk,hbel,hmy,hfk,hc⟩:=hrel;have HB:=hid hbel;have HM:=hid hmy;have HF:=hid hfk;have HPr:=hid (HP.out.below hbel);have HEr:=hid (HE.out.below hbel);clear hbel hmy hfk
  by_cases hlt:k<m2
  ·obtain⟨g,off,y,rfl,hg,hy,hd,hmem,e0,e1⟩:=HEr.out.get k hlt;rw[hd,entsG] at hc;have hsz:=HTX.out y hmem;have k0:(0:Int)≤(k:Int):=by omega
   have k1:(k:Int)<(m2:Int):=by omega
   obtain⟨BD,hBD⟩:∃BD,entBad s.inos (prevN es k) y=BD:=⟨_,rfl⟩;rw[hBD] at hc;have HBD:=hid hBD;have HC:=hid hc;have HY:=hid hy;clear hBD;clear hc hd hmem hy;obtain⟨V2,hV2,v0,v1,hal4,hlt4⟩:=z9s wr y.name y.num;have HAL4:=hid hal4;have HPV:=hid (HPr.out.below hal4);have HEV:=hid (HEr.out.below hal4);clear hal4;go_upto_region 5 with fail
   have hx:∀(X:Ext V2) (p:Addr),(V2.cell? p).isSome=true→X.w.cell? p=V2.cell? p:=fun X p h=>X.cell p h
   clear hV2 e0 e1;obtain⟨CK,hCK⟩:∃CK,mayL y.name.data.toList=CK:=⟨_,rfl⟩;have HCK:=hid hCK;obtain⟨FD,hFD⟩:∃FD,atV s.inos y.num=FD:=⟨_,rfl⟩;have HFD:=hid hFD
   have hbd:BD=(!CK||(match prevN es k with|none=>false|some q=>!ltN q y.name)||decide (y.num=1)||decide (FD<0)):=by
    rw[←HBD.out,←hCK,←hFD];unfold entBad chkB mayL;cases hz:checkL y.name.data.toList<;>rfl
   have HBB:=hid hbd;clear hCK hFD hbd
   go_cut [46] (fun c wx=>c=.bool BD∧∃X:Ext V2,wx=X.w)
   case first=>
    obtain⟨N1,hN1⟩:∃N1,(y.num==1)=N1:=⟨_,rfl⟩;have hN1':decide (y.num=1)=N1:=by rw[←hN1];rfl
    have HN1:=hid hN1';obtain⟨F0,hF0⟩:∃F0,decide (FD<0)=F0:=⟨_,rfl⟩;have HF0:=hid hF0
    by_cases hk0:k=0
    ·have q1:decide ((0:Int)<(k:Int))=false:=by rw[decide_eq_false_iff_not];omega
     have q1n:decide (0<k)=false:=by rw[decide_eq_false_iff_not];omega
     have hp:prevN es k=none:=if_pos hk0;have HBC:=HBB.out;rw[hp,HN1.out,HF0.out] at HBC;have HBX:=hid HBC;clear HBC hp hk0
     cases CK<;>cases N1<;>(
      refine wre ?_
      repeat (go_big_quiet_step (first|(go_at_call 134;rename_i X;exact Calls.ext_of (by have:=zi8 y.name X.w hsz;rw[HCK.out] at this;exact this))|(go_at_call 92;rename_i X;exact Calls.ext_of (by have:=z1w p s y.num X.w (HPV.out.below X.bel) HRI.out;rw[HFD.out] at this;exact this))))
      refine wpQuiet_nil ?_;rintro w7 ⟨X,rfl⟩;go_wp2_with fail;go_meet;exact⟨congrArg Value.bool (by rw[HBX.out];simp),X,rfl⟩)
    ·obtain⟨j,rfl⟩:∃j,k=j+1:=⟨k-1,by omega⟩;have q1:decide ((0:Int)<((j+1:Nat):Int))=true:=by rw[decide_eq_true_eq];omega
     have q1b:decide ((0:Int)<(j:Int)+1)=true:=by rw[decide_eq_true_eq];omega
     obtain⟨g',off',y',hA',hg',hy',_,hmem',f0,f1⟩:=HEV.out.get j (by omega);injection hA' with hA'
     injection hA' with hA1 hA2
     subst hA1 hA2;have hp:prevN es (j+1)=some y'.name:=by unfold prevN;rw[if_neg (by omega),Nat.add_sub_cancel,hy'];rfl
     have j0:(0:Int)≤(j:Int):=by omega
     have j1:(j:Int)<(m2:Int):=by omega
     have jw:IntKind.i64.wrap ((j:Int)+1-1)=(j:Int):=by rw[IntKind.wrap_i64];omega
     obtain⟨LT,hLT⟩:∃LT,Op.bytesLess y'.name.toList y.name.toList=LT:=⟨_,rfl⟩;have hlt2:ltN y'.name y.name=LT:=by unfold ltN;rw[←hLT,z8h,ByteArray.toList_eq,ByteArray.toList_eq]
     have HBC:=HBB.out;rw[hp,HN1.out,HF0.out] at HBC;dsimp only at HBC;rw[hlt2] at HBC;have HBX:=hid HBC;clear HBC hp hy' hmem' hk0 hlt2
     cases CK<;>cases LT<;>cases N1<;>(
      refine wre ?_
      repeat (go_big_quiet_step (first|(go_at_call 134;rename_i X;exact Calls.ext_of (by have:=zi8 y.name X.w hsz;rw[HCK.out] at this;exact this))|(go_at_call 92;rename_i X;exact Calls.ext_of (by have:=z1w p s y.num X.w (HPV.out.below X.bel) HRI.out;rw[HFD.out] at this;exact this))))
      refine wpQuiet_nil ?_;rintro w7 ⟨X,rfl⟩;go_wp2_with fail;go_meet;exact⟨congrArg Value.bool (by rw[HBX.out];simp),X,rfl⟩)
   case rest=>
    obtain⟨rfl,X,rfl⟩:=hcut;generalize hZe:X.w=Z;have hZ:=hZe▸X.bel;clear hZe X;have hbx:=Cv.next HAL4.out hZ;have e0:=(hZ.cell (p:=⟨wr.heap.size,0,.none⟩) hlt4).trans v0;have HMZ:=hid (HM.out.below hbx);have HWZ:=hid (Cv.next HB.out hbx);clear hx v0 v1 hbx hZ HBB;cases BD;rotate_left
    ·have hr:=HC.out;rw[if_pos rfl] at hr;have HR2:=hid hr;clear hr;go_wp2_with fail;go_ret;exact⟨Cv.ret_bool HR2.out,HWZ.out⟩
    ·have hr:=HC.out;rw[if_neg (by simp)] at hr;obtain⟨b,hb⟩:∃b,bktB y.name=b:=⟨_,rfl⟩;rw[hb] at hr;have hb8:b<8:=by rw[←hb];exact zlu _
     have HBK:=hid hb;have HR2:=hid hr;clear hr hb;go_wp2_with fail;refine(z5u y.name _ (Nat.le_trans hsz (by unfold maxLen;omega))).mono ?_;rintro e w2 ⟨rfl,hb2⟩;rw[HBK.out];have hbx:=hb2;have HMZ2:=hid (HMZ.out.below hb2);have HWZ2:=hid (Cv.next HWZ.out hb2);have hfb:=HF.out b;obtain⟨cb,fz⟩:=HMZ2.out.get b hb8;have b0:(0:Int)≤(b:Int):=by omega
     have b8:(b:Int)<8:=by omega
     have wf:IntKind.i64.wrap ((f b:Int)+1)=(f b:Int)+1:=by rw[IntKind.wrap_i64];omega
     clear hbx hb2 e0
     by_cases h4:4<f b+1
     ·have hr:=HR2.out;rw[if_pos h4] at hr;have HR3:=hid hr;have q4:decide ((4:Int)<(f b:Int)+1)=true:=by simp;omega
      clear hr;go_wp2_with fail;go_ret;exact⟨Cv.ret_bool HR3.out,HWZ2.out.setCell (Nat.le_refl _) _⟩
     ·have hr:=HR2.out;rw[if_neg h4] at hr;have HR3:=hid hr;have q4:decide ((4:Int)<(f b:Int)+1)=false:=by simp;omega
      clear hr;go_wp2_with fail;go_roundw
      case rel=>exact⟨k+1,fun j=>if j=b then f j+1 else f j,by go_num,by omega,HWZ2.out.setCell (Nat.le_refl _) _,HMZ2.out.set b hb8,fun j=>by have:=HF.out j;simp only;split<;>omega,by
       have e:prevN es (k+1)=some y.name:=by unfold prevN;rw[if_neg (by omega),Nat.add_sub_cancel,HY.out];rfl
       rw[e];exact HR3.out⟩
      case measure=>simp[intOf];omega
  ·have:es.drop k=[]:=List.drop_eq_nil_of_le (by have:=HEr.out.1;omega);rw[this,entsG] at hc;have HC:=hid hc;clear hc this;go_wp2_with fail;go_ret;exact⟨Cv.ret_bool HC.out,HB.out⟩
end Go.Proofs.YtmmpkfcdfcldlaaGreat
