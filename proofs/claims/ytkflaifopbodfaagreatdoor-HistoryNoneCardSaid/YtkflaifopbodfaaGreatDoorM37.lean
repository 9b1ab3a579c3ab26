/- Parts of the proof, side by side: AllowsP, HistP, HistOps, ShBuild. -/
import Derived.Test.YtkflaifopbodfaaGreatDoorM34
import Derived.Test.YtkflaifopbodfaaGreatDoorGdDo
import Derived.Test.YtkflaifopbodfaaGreatDoorM21
import Derived.Test.YtkflaifopbodfaaGreatDoorM09
import Derived.Test.YtkflaifopbodfaaGreatDoorM10
import Derived.Laws.BitsAllLaws
import Derived.RegionTactic
set_option linter.unusedVariables false
set_option linter.unusedSimpArgs false
namespace Go.Proofs.YtkflaifopbodfaaGreatDoor
open Lib (hid)
def wantV (c:Ca) (r:Re):Int:=if c.kind=2∧r.code=0 then r.fd else -1
def allowsV (s:St) (c:Ca) (r:Re):St×Bool:=
 if c.kind=2∧r.code=0∧r.fd<0 then(s,false)
 else if(doF s c (wantV c r)).2.2=false∨sameR (doF s c (wantV c r)).2.1 r=false then(s,false)
 else((doF s c (wantV c r)).1,true)
def refuse (s:St) (c:Ca) (r:Re):Bool:=(fdP s.opn c.core r.fd).isSome||decide (r.fd<0)||decide (4≤r.fd)||decide (r.code≠0)||decide (r.num≠0)||r.dir||decide (r.data≠⟨#[]⟩)||decide (0<r.names.length)
theorem zhl {s:St} (h:Good s) (core fd:Int):fdP s.opn core fd=none↔fdV s.opn core fd=0:=by
 constructor
 ·intro h1;exact(zco _ _ _ h1).1
 ·intro h1;cases hp:fdP s.opn core fd with
  | none=>rfl
  | some k=>
   exfalso;obtain⟨d,hd,hc,hf,_⟩:=z9e _ _ _ _ hp;refine zag s.opn core fd (fun x hx=>?_) ⟨d,List.mem_of_getElem? hd,hc,hf⟩ h1;obtain⟨_,_,_,_,i,w,_,hw,hwn,_⟩:=h.opens x hx
   rcases Nat.eq_zero_or_pos i with rfl|hi
   ·obtain⟨y,hy,hyn,_⟩:=h.root;rw[hw] at hy;cases hy;omega
   ·have:=z4k (h.given i w hi hw);omega
theorem zes {s:St} {c:Ca} {r:Re} (h:c.kind≠2∨(doV s c).2.code≠0∨r.fd=(doV s c).2.fd):allowsV s c r=if sameR (doV s c).2 r then((doV s c).1,true) else(s,false):=by
 unfold allowsV
 by_cases hk:c.kind=2
 rotate_left
 ·have hw:wantV c r=-1:=by unfold wantV;rw[if_neg (fun h=>hk h.1)]
  have hok:∀want,(doF s c want).2.2=true:=fun want=>by
   unfold doF
   repeat' (first|rfl|(exact absurd (by assumption) hk)|split)
  rw[if_neg (fun h=>hk h.1),hw,hok]
  show(if true=false∨sameR (doV s c).2 r=false then _ else _)=_;cases sameR (doV s c).2 r<;>simp[doV]
 by_cases hm:mayV s=false∨c.core<0∨(s.made.length:Int)≤c.core∨c.kind<0∨16<c.kind
 ·have hd:∀want,doF s c want=(s,{ code:=9 },true):=fun want=>by unfold doF;rw[if_pos hm]
  have hv:doV s c=(s,{ code:=9 }):=by unfold doV;rw[hd]
  rw[hv,hd]
  by_cases h3:c.kind=2∧r.code=0∧r.fd<0
  ·rw[if_pos h3]
   have:sameR { code:=9 } r=false:=by
    cases hs:sameR { code:=9 } r
    ·rfl
    ·have:=z7d hs;rw[←this] at h3;exact absurd h3.2.1 (by decide)
   rw[this]
   rfl
  ·rw[if_neg h3];cases sameR { code:=9 } r<;>simp
 have hd:∀want,doF s c want=openedV s c want:=fun want=>by
  unfold doF;rw[if_neg hm,if_neg (by omega),if_pos hk]
 have hv:doV s c=((openedV s c (-1)).1,(openedV s c (-1)).2.1):=by unfold doV;rw[hd]
 rw[hv] at h ⊢;rw[hd]
 by_cases hf1:(findV s.inos c.path).2≠0
 ·have ho:∀want,openedV s c want=(s,{ code:=(findV s.inos c.path).2 },true):=fun want=>by unfold openedV;rw[if_pos hf1]
  rw[ho,ho]
  by_cases h3:c.kind=2∧r.code=0∧r.fd<0
  ·rw[if_pos h3]
   have:sameR { code:=(findV s.inos c.path).2 } r=false:=by
    cases hs:sameR { code:=(findV s.inos c.path).2 } r
    ·rfl
    ·have:=z7d hs;rw[←this] at h3;exact absurd h3.2.1 hf1
   rw[this]
   rfl
  ·rw[if_neg h3];cases sameR { code:=(findV s.inos c.path).2 } r<;>simp
 by_cases hf2:dirAt s.inos (findV s.inos c.path).1=true
 ·have ho:∀want,openedV s c want=(s,{ code:=8 },true):=fun want=>by unfold openedV;rw[if_neg hf1,if_pos hf2]
  rw[ho,ho]
  by_cases h3:c.kind=2∧r.code=0∧r.fd<0
  ·rw[if_pos h3]
   have:sameR { code:=8 } r=false:=by
    cases hs:sameR { code:=8 } r
    ·rfl
    ·have:=z7d hs;rw[←this] at h3;exact absurd h3.2.1 (by decide)
   rw[this]
   rfl
  ·rw[if_neg h3];cases sameR { code:=8 } r<;>simp
 by_cases hf3:freeFd s.opn c.core=4
 ·have ho:∀want,openedV s c want=(s,{ code:=10 },true):=fun want=>by unfold openedV;rw[if_neg hf1,if_neg hf2,if_pos hf3]
  rw[ho,ho]
  by_cases h3:c.kind=2∧r.code=0∧r.fd<0
  ·rw[if_pos h3]
   have:sameR { code:=10 } r=false:=by
    cases hs:sameR { code:=10 } r
    ·rfl
    ·have:=z7d hs;rw[←this] at h3;exact absurd h3.2.1 (by decide)
   rw[this]
   rfl
  ·rw[if_neg h3];cases sameR { code:=10 } r<;>simp
 obtain⟨hfree,hlt⟩:=z5n _ _ hf3
 have ho1:openedV s c (-1)=({ s with opn:=putD s.opn ⟨c.core,freeFd s.opn c.core,(findV s.inos c.path).1⟩ },{ fd:=freeFd s.opn c.core },true):=by
  unfold openedV;rw[if_neg hf1,if_neg hf2,if_neg hf3,if_neg (by omega)]
 rw[ho1] at h ⊢
 have hfd:r.fd=(freeFd s.opn c.core:Int):=by
  rcases h with h|h|h
  ·exact absurd hk h
  ·exact absurd rfl h
  ·exact h
 rw[if_neg (by omega)]
 by_cases hrc:r.code=0
 ·rw[show wantV c r=(freeFd s.opn c.core:Int) by unfold wantV;rw[if_pos ⟨hk,hrc⟩,hfd]]
  have ho2:openedV s c (freeFd s.opn c.core:Int)=({ s with opn:=putD s.opn ⟨c.core,freeFd s.opn c.core,(findV s.inos c.path).1⟩ },{ fd:=freeFd s.opn c.core },true):=by
   unfold openedV;rw[if_neg hf1,if_neg hf2,if_neg hf3,if_pos (by omega),if_neg (by rw[hfree];omega)]
  rw[ho2];simp only;cases hsr:sameR { fd:=(freeFd s.opn c.core:Int) } r<;>simp
 ·rw[show wantV c r=-1 by unfold wantV;rw[if_neg (fun h=>hrc h.2)],ho1];simp only;cases hsr:sameR { fd:=(freeFd s.opn c.core:Int) } r<;>simp
theorem z8q {s:St} {c:Ca} {r:Re} (hk:c.kind=2) (h0:(doV s c).2.code=0) (hne:r.fd≠(doV s c).2.fd):
  Good s∧0≤c.core∧c.core<(s.made.length:Int)∧∃num,(doV s c)=({ s with opn:=putD s.opn ⟨c.core,(doV s c).2.fd,num⟩ },{ fd:=(doV s c).2.fd })∧fdV s.opn c.core (doV s c).2.fd=0∧0≤(doV s c).2.fd∧(doV s c).2.fd<4∧
   allowsV s c r=if refuse s c r=true then(s,false) else({ s with opn:=putD s.opn ⟨c.core,r.fd,num⟩ },true):=by
 by_cases hm:mayV s=false∨c.core<0∨(s.made.length:Int)≤c.core∨c.kind<0∨16<c.kind
 ·have hv:doV s c=(s,{ code:=9 }):=by unfold doV doF;rw[if_pos hm]
  rw[hv] at h0;exact absurd (show(9:Int)=0 from h0) (by decide)
 have hd:∀want,doF s c want=openedV s c want:=fun want=>by
  unfold doF;rw[if_neg hm,if_neg (by omega),if_pos hk]
 have hv:doV s c=((openedV s c (-1)).1,(openedV s c (-1)).2.1):=by unfold doV;rw[hd]
 have hgood:Good s:=by
  rw[←z1b];cases hmv:mayV s
  ·exact absurd (.inl hmv) hm
  ·rfl
 rw[hv] at h0 hne ⊢
 by_cases hf1:(findV s.inos c.path).2≠0
 ·unfold openedV at h0;rw[if_pos hf1] at h0;exact absurd h0 hf1
 by_cases hf2:dirAt s.inos (findV s.inos c.path).1=true
 ·unfold openedV at h0;rw[if_neg hf1,if_pos hf2] at h0;exact absurd (show(8:Int)=0 from h0) (by decide)
 by_cases hf3:freeFd s.opn c.core=4
 ·unfold openedV at h0;rw[if_neg hf1,if_neg hf2,if_pos hf3] at h0;exact absurd (show(10:Int)=0 from h0) (by decide)
 obtain⟨hfree,hlt⟩:=z5n _ _ hf3
 have ho1:openedV s c (-1)=({ s with opn:=putD s.opn ⟨c.core,freeFd s.opn c.core,(findV s.inos c.path).1⟩ },{ fd:=freeFd s.opn c.core },true):=by
  unfold openedV;rw[if_neg hf1,if_neg hf2,if_neg hf3,if_neg (by omega)]
 rw[ho1] at hne ⊢;simp only at hne ⊢;refine⟨hgood,by omega,by omega,(findV s.inos c.path).1,rfl,hfree,by omega,by omega,?_⟩
 have hnone:(fdP s.opn c.core r.fd).isSome=true↔fdV s.opn c.core r.fd≠0:=by
  have hfr:=zhl hgood c.core r.fd;cases hq:fdP s.opn c.core r.fd with
  | none=>exact⟨(fun h1=>absurd h1 (by decide)),(fun h1=>absurd (hfr.1 hq) h1)⟩
  | some k=>exact⟨(fun _ h1=>by have h9:=hfr.2 h1;rw[hq] at h9;cases h9),(fun _=>rfl)⟩
 unfold allowsV;rw[hd]
 by_cases hrc:r.code=0
 ·rw [show wantV c r = r.fd by unfold wantV; rw [if_pos ⟨hk, hrc⟩]]
  by_cases hneg:r.fd<0
  ·have hr:refuse s c r=true:=by unfold refuse;simp[hneg]
   rw[if_pos ⟨hk,hrc,hneg⟩,hr]
   rfl
  ·rw [if_neg (by omega)]
   by_cases hbad:4≤r.fd∨fdV s.opn c.core r.fd≠0
   ·have ho2:openedV s c r.fd=(s,{},false):=by
     unfold openedV;rw[if_neg hf1,if_neg hf2,if_neg hf3,if_pos (by omega),if_pos hbad]
    have hr:refuse s c r=true:=by
     unfold refuse
     rcases hbad with h1|h1
     ·simp[h1]
     ·rw[hnone.2 h1];simp
    rw[ho2,hr];simp
   ·have ho2:openedV s c r.fd=({ s with opn:=putD s.opn ⟨c.core,r.fd,(findV s.inos c.path).1⟩ },{ fd:=r.fd },true):=by
     unfold openedV;rw[if_neg hf1,if_neg hf2,if_neg hf3,if_pos (by omega),if_neg hbad]
    rw[ho2]
    have hsome:(fdP s.opn c.core r.fd).isSome=false:=by
     cases hq:(fdP s.opn c.core r.fd).isSome
     ·rfl
     ·exact absurd (.inr (hnone.1 hq)) hbad
    have hs:sameR { fd:=r.fd } r= !refuse s c r:=by
     have h1:decide (r.fd<0)=false:=decide_eq_false hneg;have h2:decide (4≤r.fd)=false:=decide_eq_false (fun h=>hbad (.inl h));have h3:decide (r.code≠0)=false:=decide_eq_false (fun h=>h hrc);unfold refuse;rw[hsome,h1,h2,h3];unfold sameR sameF;simp only[hrc,Bool.false_or]
     have e1:decide ((([]:List ByteArray))=r.names)= !decide (0<r.names.length):=by
      cases r.names<;>simp
     have e2:decide ((0:Int)=r.num)= !decide (r.num≠0):=by
      by_cases h:r.num=0
      ·simp[h]
      ·simp[h];exact fun e=>h e.symm
     have e3:decide (false=r.dir)= !r.dir:=by cases r.dir<;>rfl
     have e4:decide ((⟨#[]⟩:ByteArray)=r.data)= !decide (r.data≠⟨#[]⟩):=by
      by_cases h:r.data=⟨#[]⟩
      ·simp[h]
      ·simp[h];exact fun e=>h e.symm
     rw[e1,e2,e3,e4];cases decide (0<r.names.length)<;>cases decide (r.num≠0)<;>cases r.dir<;>cases decide (r.data≠⟨#[]⟩)<;>simp
    simp only[hs];cases refuse s c r<;>simp
 ·have hr:refuse s c r=true:=by unfold refuse;simp[hrc]
  rw[if_neg (fun h=>hrc h.2.1),show wantV c r=-1 by unfold wantV;rw[if_neg (fun h=>hrc h.2)],ho1,hr]
  have:sameR { fd:=(freeFd s.opn c.core:Int) } r=false:=by
   cases hs:sameR { fd:=(freeFd s.opn c.core:Int) } r
   ·rfl
   ·have:=z7d hs;exact absurd (by rw[←this]) hrc
  simp[this]
structure Back (ds:List Ds) (core fd:Int) (i:Nat) (at_:Nat):Prop where
 le:at_≤ds.length
 gt:i≤at_
 hi:∀d,ds[at_]? =some d→core<d.core∨(d.core=core∧fd<d.fd)
 lo:∀(k:Nat) (d:Ds),i≤k→k<at_→ds[k]? =some d→¬(core<d.core∨(d.core=core∧fd<d.fd))
theorem Back.start (ds:List Ds) (core fd:Int):Back ds core fd ds.length ds.length:=⟨Nat.le_refl _,Nat.le_refl _,fun d hd=>by simp at hd,fun k d h1 h2=>by omega⟩
theorem Back.step {ds:List Ds} {core fd:Int} {i at_:Nat} (h:Back ds core fd (i+1) at_) {d:Ds} (hd:ds[i]? =some d):
  ((core<d.core∨(d.core=core∧fd<d.fd))→Back ds core fd i i)∧(¬(core<d.core∨(d.core=core∧fd<d.fd))→Back ds core fd i at_):=by
 have hl:=(List.getElem?_eq_some_iff.1 hd).1;refine⟨fun hc=>⟨by omega,Nat.le_refl _,fun e he=>by rw[hd] at he;cases he;exact hc,fun k e h1 h2=>by omega⟩,fun hc=>⟨h.le,by have:=h.gt;omega,h.hi,fun k e h1 h2 he=>?_⟩⟩
 by_cases hk:k=i
 ·subst hk;rw[hd] at he;cases he;exact hc
 ·exact h.lo k e (by omega) h2 he
theorem Back.put {ds:List Ds} {core fd num:Int} {at_:Nat} (h:Back ds core fd 0 at_) (hr:RiseD ds) (hno:∀x∈ds,¬(x.core=core∧x.fd=fd)):putD ds ⟨core,fd,num⟩=ds.take at_++[⟨core,fd,num⟩]++ds.drop at_:=by
 refine zcr _ _ _ h.le (fun k d hk hd=>?_) (fun k d hk hd=>?_)
 ·have h1:=h.lo k d (by omega) hk hd;have h2:=hno d (List.mem_of_getElem? hd);unfold ltD;simp only;omega
 ·have hl:=(List.getElem?_eq_some_iff.1 hd).1;have hat:=List.getElem?_eq_getElem (show at_<ds.length by omega);have h1:=h.hi _ hat
  by_cases e:at_=k
  ·subst e;rw[hd] at hat;cases hat;unfold ltD;simp only;omega
  ·have h2:=hr at_ k _ d (by omega) hat hd
   unfold ltD at h2 ⊢;simp only;omega
structure Op where
 call:Ca
 res:Re
 beg:Int
 fin:Int
def opMay (o:Op):Bool:=decide (0≤o.call.kind)&&decide (o.call.kind≤16)&&decide (0≤o.call.core)&&decide (o.call.core<8)&&decide (0≤o.beg)&&(if o.fin=-1 then sameR o.res {} else decide (o.beg<o.fin))
def nextV (s:St) (o:Op):St×Bool:=if o.fin=-1 then((doV s o.call).1,true) else allowsV s o.call o.res
def aheadL (d:Nat) (beg:Int):List Op→Nat→Bool
 | [],_=>false
 | p::ps,k=>(!d.testBit k&&decide (p.fin≠-1)&&decide (p.fin≤beg))||aheadL d beg ps (k+1)
def doneL (d:Nat):List Op→Nat→Bool
 | [],_=>true
 | p::ps,k=>(d.testBit k||decide (p.fin=-1))&&doneL d ps (k+1)
def overV (ops:List Op) (last:List UInt8) (s:St) (d:Nat):Bool:=doneL d ops 0&&(decide (last=[])||decide (ofL s=last))
def anyL (ops:List Op) (s:St) (d:Nat) (g:St→Nat→Bool):List Op→Nat→Bool
 | [],_=>false
 | p::ps,k=>(!d.testBit k&&!aheadL d p.beg ops 0&&(nextV s p).2&&g (nextV s p).1 (d|||2^k))||anyL ops s d g ps (k+1)
def rowF (ops:List Op) (last:List UInt8):Nat→St→Nat→Bool
 | 0,s,d=>overV ops last s d
 | f+1,s,d=>overV ops last s d||anyL ops s d (rowF ops last f) ops 0
def leftN (n d:Nat):Nat:=((List.range n).filter (fun k=>!d.testBit k)).length
def rowD (ops:List Op) (last:List UInt8) (s:St) (d:Nat):Bool:=rowF ops last (leftN ops.length d) s d
theorem z6f (d k j:Nat):(d|||2^k).testBit j=(d.testBit j||decide (j=k)):=by
 rw[Nat.testBit_or,Nat.testBit_two_pow]
 congr 1
 simp[eq_comm]
theorem zet {n d k:Nat} (hk:k<n) (hd:d.testBit k=false):leftN n (d|||2^k)+1=leftN n d:=by
 unfold leftN
 induction n with
 | zero=>omega
 | succ n ih =>
  rw[List.range_succ,List.filter_append,List.filter_append,List.length_append,List.length_append]
  by_cases e:k=n
  ·subst e
   have h1:(List.range k).filter (fun j=>!(d|||2^k).testBit j)=(List.range k).filter (fun j=>!d.testBit j):=by
    apply List.filter_congr;intro j hj;have:=List.mem_range.1 hj;rw[z6f,show decide (j=k)=false from decide_eq_false (by omega),Bool.or_false]
   rw[h1];simp[z6f,hd]
  ·have h2:=ih (by omega)
   have h3:(d|||2^k).testBit n=d.testBit n:=by
    rw[z6f,show decide (n=k)=false from decide_eq_false (by omega),Bool.or_false]
   simp only[List.filter_cons,h3,List.filter_nil];omega
theorem zj8 {n d:Nat} (h:leftN n d=0) (k:Nat) (hk:k<n):d.testBit k=true:=by
 unfold leftN at h;have h1:=List.eq_nil_of_length_eq_zero h;rw[List.filter_eq_nil_iff] at h1;have:=h1 k (List.mem_range.2 hk)
 simpa using this
theorem zmy (n d:Nat):leftN n d≤n:=by
 unfold leftN;exact Nat.le_trans (List.length_filter_le _ _) (by simp)
theorem zeu {ops:List Op} {s:St} {d:Nat} {g:St→Nat→Bool}:∀(ps:List Op) (k:Nat),(∀j,j<ps.length→d.testBit (k+j)=true)→anyL ops s d g ps k=false
 | [],_,_=>rfl
 | p :: ps, k, h => by
  have h0:=h 0 (by simp);rw[Nat.add_zero] at h0
  rw[anyL,h0,zeu ps (k+1) (fun j hj=>by
   have:=h (j+1) (by simp;omega);rw[show k+1+j=k+(j+1) by omega];exact this)]
  simp
theorem zbw {ops:List Op} {s:St} {d:Nat} {g g':St→Nat→Bool}:∀(ps:List Op) (k:Nat),(∀j t,j<ps.length→d.testBit (k+j)=false→g t (d|||2^(k+j))=g' t (d|||2^(k+j)))→anyL ops s d g ps k=anyL ops s d g' ps k
 | [],_,_=>rfl
 | p :: ps, k, h => by
  have hc:anyL ops s d g ps (k+1)=anyL ops s d g' ps (k+1):=zbw ps (k+1) (fun j t hj hb=>by
   have:=h (j+1) t (by simp;omega) (by rw[show k+(j+1)=k+1+j by omega];exact hb);rw[show k+1+j=k+(j+1) by omega];exact this)
  rw[anyL,anyL,hc];cases hb:d.testBit k
  ·have:=fun t=>h 0 t (by simp) hb
   simp only[Nat.add_zero] at this;rw[this]
  ·simp
theorem zoa (ops:List Op) (last:List UInt8) (s:St) (d:Nat):rowD ops last s d=(overV ops last s d||anyL ops s d (rowD ops last) ops 0):=by
 unfold rowD;cases hf:leftN ops.length d with
 | zero=>
  rw[rowF,zeu ops 0 (fun j hj=>by rw[Nat.zero_add];exact zj8 hf j hj),Bool.or_false]
 | succ f=>
  rw[rowF]
  congr 1
  apply zbw;intro j t hj hb;rw[Nat.zero_add] at hb ⊢;have:=zet hj hb;rw[show leftN ops.length (d|||2^j)=f by omega]
theorem Good.next {s:St} (h:Good s) (o:Op):Good (nextV s o).1:=by
 unfold nextV
 split
 ·exact h.doF o.call (-1)
 ·unfold allowsV
  split
  ·exact h
  ·split
   ·exact h
   ·exact h.doF _ _
theorem zp2 {d k n:Nat} (hd:d<2^n) (hk:k<n):d|||2^k<2^n:=Nat.or_lt_two_pow hd (Nat.pow_lt_pow_right (by omega) hk)
def keyL (s:St) (d:Nat):List UInt8:=ofL s++[UInt8.ofNat d,UInt8.ofNat (d / 256)]
theorem zob {s t:St} {d e:Nat} (hs:Good s) (ht:Good t) (hd:d<65536) (he:e<65536) (h:keyL s d=keyL t e):s=t∧d=e:=by
 unfold keyL at h;have h1:=List.append_inj' h rfl;refine⟨zpj hs ht h1.1,?_⟩;have h2:=h1.2;simp only[List.cons.injEq,and_true] at h2;have h3:=congrArg UInt8.toNat h2.1;have h4:=congrArg UInt8.toNat h2.2;simp only[UInt8.toNat_ofNat'] at h3 h4;omega
def Vain (ops:List Op) (last:List UInt8) (K:List UInt8→Prop):Prop:=
 ∀l,K l→∃t e,Good t∧e<2^ops.length∧l=keyL t e∧rowD ops last t e=false
theorem Vain.no {ops:List Op} {last:List UInt8} {K:List UInt8→Prop} (h:Vain ops last K) {s:St} {d:Nat} (hs:Good s) (hd:d<2^ops.length) (hn:ops.length≤10) (hk:K (keyL s d)):rowD ops last s d=false:=by
 obtain⟨t,e,ht,he,hl,hr⟩:=h _ hk;have hp:2^ops.length≤2^10:=Nat.pow_le_pow_right (by omega) hn;obtain⟨rfl,rfl⟩:=zob hs ht (by omega) (by omega) hl;exact hr
def capN:Nat→Nat
 | 0=>1
 | f+1=>1+10*capN f
theorem zoc {f:Nat} (h:f≤10):capN f≤11111111111:=by
 have:f=0∨f=1∨f=2∨f=3∨f=4∨f=5∨f=6∨f=7∨f=8∨f=9∨f=10:=by omega
 rcases this with rfl|rfl|rfl|rfl|rfl|rfl|rfl|rfl|rfl|rfl|rfl<;>decide
end Go.Proofs.YtkflaifopbodfaaGreatDoor
namespace Go.Proofs.YtkflaifopbodfaaGreatDoor
open Lib (hid)
open Go.RowKit
def opC (o:Op) (F:Option Addr) (f f9:Nat):List Value:=[.int .i64 o.call.kind,.int .i64 o.call.core,.int .i64 o.call.fd,.int .i64 o.call.off,.int .i64 o.call.num,.string o.call.path,.string o.call.path2,.string o.call.data,.int .i64 o.res.code,.int .i64 o.res.fd,.int .i64 o.res.num,.bool o.res.dir,.string o.res.data,.slice F f f9,.int .i64 o.beg,.int .i64 o.fin]
structure OpOk (o:Op):Prop where
 p1:o.call.path.size≤140737488355328
 p2:o.call.path2.size≤140737488355328
 ds:o.call.data.size≤140737488355328
 rn:o.res.names.length≤1099511627776
def OpAt (w:World) (g i:Nat) (o:Op):Prop:=
 ∃F f f9,SlOk F f f9∧NmsAt none w F f o.res.names∧OpOk o∧g<w.heap.size∧∀j x,(opC o F f f9)[j]? =some x→w.cell? ⟨g,i+j,none⟩=some x
theorem OpAt.below {w w':World} {g i:Nat} {o:Op} (h:OpAt w g i o) (hb:Below w.heap.size w w'):OpAt w' g i o:=by
 obtain⟨F,f,f9,h1,h2,h3,h4,h5⟩:=h;exact⟨F,f,f9,h1,h2.below hb,h3,Nat.lt_of_lt_of_le h4 hb.size,fun j x hx=>(hb.cell (p:=⟨g,_,none⟩) h4).trans (h5 j x hx)⟩
theorem OpAt.get {w:World} {g i:Nat} {o:Op} (h:OpAt w g i o):∃F f f9,SlOk F f f9∧NmsAt none w F f o.res.names∧OpOk o∧g<w.heap.size∧w.cell? ⟨g,i,none⟩=some (.int .i64 o.call.kind)∧w.cell? ⟨g,i+1,none⟩=some (.int .i64 o.call.core)∧w.cell? ⟨g,i+2,none⟩=some (.int .i64 o.call.fd)∧w.cell? ⟨g,i+3,none⟩=some (.int .i64 o.call.off)∧w.cell? ⟨g,i+4,none⟩=some (.int .i64 o.call.num)∧w.cell? ⟨g,i+5,none⟩=some (.string o.call.path)∧w.cell? ⟨g,i+6,none⟩=some (.string o.call.path2)∧w.cell? ⟨g,i+7,none⟩=some (.string o.call.data)∧w.cell? ⟨g,i+8,none⟩=some (.int .i64 o.res.code)∧w.cell? ⟨g,i+9,none⟩=some (.int .i64 o.res.fd)∧w.cell? ⟨g,i+10,none⟩=some (.int .i64 o.res.num)∧w.cell? ⟨g,i+11,none⟩=some (.bool o.res.dir)∧w.cell? ⟨g,i+12,none⟩=some (.string o.res.data)∧w.cell? ⟨g,i+13,none⟩=some (.slice F f f9)∧w.cell? ⟨g,i+14,none⟩=some (.int .i64 o.beg)∧w.cell? ⟨g,i+15,none⟩=some (.int .i64 o.fin):=by
 obtain⟨F,f,f9,h1,h2,h3,h4,h5⟩:=h;exact⟨F,f,f9,h1,h2,h3,h4,h5 0 _ rfl,h5 1 _ rfl,h5 2 _ rfl,h5 3 _ rfl,h5 4 _ rfl,h5 5 _ rfl,h5 6 _ rfl,h5 7 _ rfl,h5 8 _ rfl,h5 9 _ rfl,h5 10 _ rfl,h5 11 _ rfl,h5 12 _ rfl,h5 13 _ rfl,h5 14 _ rfl,h5 15 _ rfl⟩
def OpsAt (w:World) (A:Option Addr) (n:Nat) (ops:List Op):Prop:=
 ops.length=n∧(0<n→∃g off,A=some ⟨g,off,none⟩∧g<w.heap.size∧∀q o,ops[q]? =some o→OpAt w g (off+q*16) o)
theorem OpsAt.below {w w':World} {A:Option Addr} {n:Nat} {ops:List Op} (h:OpsAt w A n ops) (hb:Below w.heap.size w w'):OpsAt w' A n ops:=
 ⟨h.1, fun hn => by
  obtain⟨g,off,hA,hg,hc⟩:=h.2 hn;exact⟨g,off,hA,Nat.lt_of_lt_of_le hg hb.size,fun q o hq=>(hc q o hq).below hb⟩⟩
theorem OpsAt.get {w:World} {A:Option Addr} {n:Nat} {ops:List Op} (h:OpsAt w A n ops) (q:Nat) (hq:q<n):∃g off o,A=some ⟨g,off,none⟩∧g<w.heap.size∧ops[q]? =some o∧OpAt w g (off+q*16) o:=by
 obtain⟨g,off,hA,hg,hc⟩:=h.2 (by omega);have hl:q<ops.length:=by have:=h.1;omega
 exact⟨g,off,ops[q],hA,hg,List.getElem?_eq_getElem hl,hc q _ (List.getElem?_eq_getElem hl)⟩
theorem zl2 (w:World) (o:Op) (F:Option Addr) (f f9:Nat):∃W,w.alloc (.cells #[.int .i64 o.call.kind,.int .i64 o.call.core,.int .i64 o.call.fd,.int .i64 o.call.off,.int .i64 o.call.num,.string o.call.path,.string o.call.path2,.string o.call.data,.int .i64 o.res.code,.int .i64 o.res.fd,.int .i64 o.res.num,.bool o.res.dir,.string o.res.data,.slice F f f9,.int .i64 o.beg,.int .i64 o.fin] 37)=W∧Below w.heap.size w W∧W.heap.size=w.heap.size+1∧W.cell? ⟨w.heap.size,0,none⟩=some (.int .i64 o.call.kind)∧W.cell? ⟨w.heap.size,1,none⟩=some (.int .i64 o.call.core)∧W.cell? ⟨w.heap.size,2,none⟩=some (.int .i64 o.call.fd)∧W.cell? ⟨w.heap.size,3,none⟩=some (.int .i64 o.call.off)∧W.cell? ⟨w.heap.size,4,none⟩=some (.int .i64 o.call.num)∧W.cell? ⟨w.heap.size,5,none⟩=some (.string o.call.path)∧W.cell? ⟨w.heap.size,6,none⟩=some (.string o.call.path2)∧W.cell? ⟨w.heap.size,7,none⟩=some (.string o.call.data)∧W.cell? ⟨w.heap.size,8,none⟩=some (.int .i64 o.res.code)∧W.cell? ⟨w.heap.size,9,none⟩=some (.int .i64 o.res.fd)∧W.cell? ⟨w.heap.size,10,none⟩=some (.int .i64 o.res.num)∧W.cell? ⟨w.heap.size,11,none⟩=some (.bool o.res.dir)∧W.cell? ⟨w.heap.size,12,none⟩=some (.string o.res.data)∧W.cell? ⟨w.heap.size,13,none⟩=some (.slice F f f9)∧W.cell? ⟨w.heap.size,14,none⟩=some (.int .i64 o.beg)∧W.cell? ⟨w.heap.size,15,none⟩=some (.int .i64 o.fin):=by
 obtain⟨W,hW⟩:∃W,w.alloc (.cells #[.int .i64 o.call.kind,.int .i64 o.call.core,.int .i64 o.call.fd,.int .i64 o.call.off,.int .i64 o.call.num,.string o.call.path,.string o.call.path2,.string o.call.data,.int .i64 o.res.code,.int .i64 o.res.fd,.int .i64 o.res.num,.bool o.res.dir,.string o.res.data,.slice F f f9,.int .i64 o.beg,.int .i64 o.fin] 37)=W:=⟨_,rfl⟩;have hc:W.heap[w.heap.size]? =some (.cells #[.int .i64 o.call.kind,.int .i64 o.call.core,.int .i64 o.call.fd,.int .i64 o.call.off,.int .i64 o.call.num,.string o.call.path,.string o.call.path2,.string o.call.data,.int .i64 o.res.code,.int .i64 o.res.fd,.int .i64 o.res.num,.bool o.res.dir,.string o.res.data,.slice F f f9,.int .i64 o.beg,.int .i64 o.fin] 37 (0,0)):=by rw[←hW];exact heap_alloc_new w _
 refine⟨W,hW,by rw[←hW];exact(Below.refl _ _).alloc (Nat.le_refl _) _,by rw[←hW];simp,?_,?_,?_,?_,?_,?_,?_,?_,?_,?_,?_,?_,?_,?_,?_,?_⟩<;>(rw[cell_of_row W _ _ _ _ (0,0) hc];rfl)
set_option maxRecDepth 100000 in
set_option maxHeartbeats 4000000 in
theorem zhm (o:Op) (F:Option Addr) (f f9:Nat) (w:World) (hok:SlOk F f f9) (hn:NmsAt none w F f o.res.names) (hrn:o.res.names.length≤1099511627776):
  Calls Tryz.prog 14 #[.agg #[.int .i64 o.call.kind,.int .i64 o.call.core,.int .i64 o.call.fd,.int .i64 o.call.off,.int .i64 o.call.num,.string o.call.path,.string o.call.path2,.string o.call.data,.int .i64 o.res.code,.int .i64 o.res.fd,.int .i64 o.res.num,.bool o.res.dir,.string o.res.data,.slice F f f9,.int .i64 o.beg,.int .i64 o.fin]] w fun e w'=>e=.returned (.bool (opMay o))∧Below w.heap.size w w':=by
 obtain⟨W,hW,hal,hz,c0,c1,c2,c3,c4,c5,c6,c7,c8,c9,c10,c11,c12,c13,c14,c15⟩:=zl2 w o F f f9;have HB:=hid hal;have HN:=hid (hn.below hal);obtain⟨R,hR⟩:∃R,opMay o=R:=⟨_,rfl⟩;rw[hR];unfold opMay at hR;have HR:=hid hR;have HRN:=hid hrn;have HOK:=hid hok;clear hR hal hn hrn hok
 go_enter Tryz.func14,Tryz.ntmps14
 by_cases h1:o.call.kind<0
 ·have hr:=HR.out;have hr0:R=false:=by rw[←hr];simp;omega
  subst hr0;clear hr;go_wp2_with fail;go_ret;exact⟨rfl,HB.out⟩
 by_cases h2:16<o.call.kind
 ·have hr:=HR.out;have hr0:R=false:=by rw[←hr];simp;omega
  subst hr0;clear hr;go_wp2_with fail;go_ret;exact⟨rfl,HB.out⟩
 by_cases h3:o.call.core<0
 ·have hr:=HR.out;have hr0:R=false:=by rw[←hr];simp;omega
  subst hr0;clear hr;go_wp2_with fail;go_ret;exact⟨rfl,HB.out⟩
 by_cases h4:8≤o.call.core
 ·have hr:=HR.out;have hr0:R=false:=by rw[←hr];simp;omega
  subst hr0;clear hr;go_wp2_with fail;go_ret;exact⟨rfl,HB.out⟩
 by_cases h5:o.beg<0
 ·have hr:=HR.out;have hr0:R=false:=by rw[←hr];simp;omega
  subst hr0;clear hr;go_wp2_with fail;go_ret;exact⟨rfl,HB.out⟩
 by_cases h6:o.fin=-1
 ·have h6':(o.fin==-1)=true:=by rw[beq_iff_eq];exact h6
  have H6:=hid h6;clear h6;go_wp2_with fail
  try rw[hW]
  have h7:Calls Tryz.prog 19 #[.agg #[.int .i64 o.res.code,.int .i64 o.res.fd,.int .i64 o.res.num,.bool o.res.dir,.string o.res.data,.slice F f f9],.agg #[.int .i64 0,.int .i64 0,.int .i64 0,.bool false,.string ⟨#[]⟩,.slice none 0 0]] W (fun e w'=>e=.returned (.bool (sameR o.res {}))∧Below W.heap.size W w'):=zer _ _ o.res {} W ⟨F,f,f9,rfl,HOK.out,HN.out⟩ ⟨none,0,0,rfl,⟨Nat.le_refl _,fun _=>rfl⟩,⟨rfl,fun h=>absurd h (by omega)⟩⟩ HRN.out (by decide)
  have h8:R=sameR o.res {}:=by
   rw[←HR.out,if_pos H6.out];simp;omega
  subst h8;refine h7.mono ?_;rintro e w2 ⟨rfl,hb2⟩;have HB2:=hid (Cv.next HB.out hb2);clear hb2;go_wp2_with fail;go_ret;exact⟨rfl,HB2.out⟩
 ·have h6':(o.fin==-1)=false:=by rw[beq_eq_false_iff_ne];exact h6
  have h8:R=decide (o.beg<o.fin):=by
   rw[←HR.out,if_neg h6];simp;omega
  subst h8;go_wp2_with fail;go_ret;exact⟨rfl,HB.out⟩
theorem zev:liesAt Tryz.prog Tryz.prog.depth 81 (2 / Tryz.prog.cellsOf 81) 0 81 1=true:=by kernel_rfl
def BldH (B b:Nat) (l:List UInt8) (w:World):Prop:=Lib.IsBuilderF 81 5 B b (Lib.byteCells l) w
theorem BldH.keep {B b:Nat} {l:List UInt8} {w w':World} (h:BldH B b l w) (hb:Below w.heap.size w w'):BldH B b l w':=by
 have key:∀p,Lib.BuilderAtF 81 5 B b p (Lib.byteCells l) w→Lib.BuilderAtF 81 5 B b p (Lib.byteCells l) w':=by
  intro p hp;have hlt:=hp.lt;obtain⟨hB,v,h1,h2,h3⟩:=hp;exact⟨hB,v,(hb.block b hlt).trans h1,h2.kept (row:=none) ⟨hb.os,hb.tape,hb.output,hb.size,fun k hk _=>hb.block k hk⟩ (by cases hv:v.ownBlock<;>simp),h3⟩
 rcases h with h|h
 ·exact .inl (key _ h)
 ·exact .inr (key _ h)
theorem BldH.lt {B b:Nat} {l:List UInt8} {w:World} (h:BldH B b l w):b<w.heap.size:=by
 rcases h with h|h
 ·exact h.lt
 ·exact h.lt
theorem BldH.ge {B b:Nat} {l:List UInt8} {w:World} (h:BldH B b l w):B≤b:=by
 rcases h with h|h
 ·exact h.1
 ·exact h.1
set_option maxRecDepth 100000 in
set_option maxHeartbeats 1000000 in
theorem zas (b:Nat) (w:World) (h0:w.cell? ⟨b,0,none⟩=some (.pointer (some ⟨b,0,none⟩))):
  Calls Tryz.prog 71 #[.pointer (some ⟨b,0,none⟩)] w fun e w'=>e=.returned (.tuple #[])∧w'=w:=by
 obtain⟨j,hj,_⟩:=Option.map_eq_some_iff.1 sizeBuilder
 go_enter Tryz.func71,Tryz.ntmps71
 go_wp2
 rw[Lib.run_neq_ptr_same w _ Tryz.underlying78 hj]
 go_wp2
 go_end0
 exact⟨rfl,rfl⟩
set_option maxRecDepth 100000 in
set_option maxHeartbeats 1000000 in
theorem z8u (b:Nat) (w:World) (h0:w.cell? ⟨b,0,none⟩=some (.pointer none)) (hsh:w.shape? b=some (81,2)) (hfz:w.frozen? ⟨b,0,none⟩=false):
  Calls Tryz.prog 71 #[.pointer (some ⟨b,0,none⟩)] w fun e w'=>e=.returned (.tuple #[])∧w'=w.setCell ⟨b,0,none⟩ (.pointer (some ⟨b,0,none⟩)):=by
 obtain⟨j,hj,hjs⟩:=Option.map_eq_some_iff.1 sizeBuilder
 go_enter Tryz.func71,Tryz.ntmps71
 go_wp2
 rw[Lib.run_to_unsafe w ⟨b,0,none⟩ Tryz.underlying78 Tryz.underlying152 hj (by rw[hjs];decide) hsh (Nat.zero_lt_succ 1)];simp only[Result.andThen];rw[Oper.upon_value]
 go_wp2
 rw[run_callFunc_extern Tryz.func98 (by kernel_rfl) (by kernel_rfl) (by kernel_rfl) (e:=Extern.AbiNoEscape.same) (by kernel_rfl)];rw[Lib.run_noEscape];simp only[Result.andThen];rw[Oper.upon_value]
 go_wp2
 rw[Lib.run_from_unsafe w ⟨b,0,none⟩ Tryz.underlying152 Tryz.underlying78 hj hsh zev];simp only[Result.andThen];rw[Oper.upon_value]
 go_wp2
 go_end0
 exact⟨rfl,rfl⟩
theorem zb1 (B b:Nat) (l:List UInt8) (w:World) (h:BldH B b l w):
  Calls Tryz.prog 71 #[.pointer (some ⟨b,0,none⟩)] w fun e w'=>e=.returned (.tuple #[])∧Lib.BuilderAtF 81 5 B b (.pointer (some ⟨b,0,none⟩)) (Lib.byteCells l) w'∧Wr B b w w':=by
 rcases h with h|h
 ·refine(z8u b w h.cell0 h.shape h.frozen0).mono ?_;rintro e w' ⟨rfl,rfl⟩;exact⟨rfl,h.used _,Wr.set h.1 0 _⟩
 ·refine(zas b w h.cell0).mono ?_;rintro e w' ⟨rfl,rfl⟩;exact⟨rfl,h,Wr.refl B b _⟩
set_option maxRecDepth 100000 in
set_option maxHeartbeats 2000000 in
theorem z5l (B b:Nat) (l:List UInt8) (c:UInt8) (v0:Int) (w:World) (hv0:v0=(c.toNat:Int)) (h:BldH B b l w) (hlen:l.length+1≤140737488355328) (hBw:B≤w.heap.size):
  Calls Tryz.prog 38 #[.pointer (some ⟨b,0,none⟩),.int .u8 v0] w fun e w'=>e=.returned .nilIface∧BldH B b (l++[c]) w'∧Wr B b w w':=by
 obtain⟨i0,hi,hz0,hz1,hz2⟩:=info_parts infoByte;have HB0:=hid h;have HV0:=hid hv0;clear h hv0
 go_enter Tryz.func38,Tryz.ntmps38
 go_wp2_with fail;refine(zb1 B b l _ HB0.out).mono ?_;rintro e w1 ⟨rfl,h1,hb1⟩;obtain⟨hB,v,hbk,hown,hne⟩:=h1;have c0:w1.cell? ⟨b,0,none⟩=some (.pointer (some ⟨b,0,none⟩)):=by rw[Lib.cell_of_heap hbk];rfl
 have c1:w1.cell? ⟨b,1,none⟩=some v:=by rw[Lib.cell_of_heap hbk];rfl
 rw[Lib.byteCells_length] at hown;have hlt:b<w1.heap.size:=(Array.getElem?_eq_some_iff.1 hbk).1;go_wp2_with (at_builtin;refine wpList_append_ownF _ rfl _ _ 79 rfl B 5 i0 (.int .u8 0) 1 1 Tryz.underlying79 hi hz0 hz1 hz2 rfl (by decide) v _ _ rfl (hown.alloc _) ⟨w1.heap.size,0,.none⟩ 1 1 [.int .u8 v0] rfl rfl (z9o w1 _ _) ?c2 ?c3 ?c4 ?c5 ?_)
 case c2=>intro u hu;simp at hu;subst hu;rfl
 case c3=>unfold maxLen;omega
 case c4=>omega
 case c5=>have:=hb1.below.size;simp;omega
 intro v' w2 hown' hgrow _
 have hb2:w2.heap[b]? =some (.cells #[.pointer (some ⟨b,0,none⟩),v] 81 (0,0)):=by
  rw[hgrow.block b (by simp;omega) (fun e=>hne e.symm)];exact(Below.heap_alloc w1 _ b hlt).trans hbk
 have d0:w2.cell? ⟨b,0,none⟩=some (.pointer (some ⟨b,0,none⟩)):=by rw[Lib.cell_of_heap hb2];rfl
 have d1:w2.cell? ⟨b,1,none⟩=some v:=by rw[Lib.cell_of_heap hb2];rfl
 have f1:w2.frozen? ⟨b,1,none⟩=false:=Lib.frozen_of_heap hb2 1
 obtain⟨ao,n',cap,rfl⟩:∃ao n' cap,v'=.slice ao n' cap:=by
  rcases hown'.2 with⟨hv,_⟩|⟨g,cap,cur,fz,hv,_⟩
  ·exact⟨_,_,_,hv⟩
  ·exact⟨_,_,_,hv⟩
 go_wp2_with fail;go_ret;refine⟨rfl,.inr ?_,?_⟩
 ·exact Lib.BuilderAtF.put (T:=81) (e:=5) hB hb2 (bs':=Lib.byteCells (l++[c])) (by
   rw[Lib.byteCells_append,List.length_append,Lib.byteCells_length,Lib.byteCells_length];rw[HV0.out] at hown';exact hown') (by decide)
 ·exact((hb1.trans (Wr.of_below ((Below.refl _ _).alloc (Nat.le_refl _) _) (by have:=hb1.below.size;omega))).trans (Wr.grown (hown.alloc _) hgrow (by have:=hb1.below.size;simp;omega))).trans (Wr.set hB 1 _)
set_option maxRecDepth 100000 in
set_option maxHeartbeats 2000000 in
theorem zg5 (B b:Nat) (l:List UInt8) (w:World) (h:BldH B b l w) (h0:l≠[]):
  Calls Tryz.prog 40 #[.pointer (some ⟨b,0,none⟩)] w fun e w'=>e=.returned (.string ⟨l.toArray⟩)∧BldH B b l w'∧Wr B b w w':=by
 obtain⟨p,hp,hAt⟩:∃p,(p=.pointer none∨p=.pointer (some ⟨b,0,none⟩))∧Lib.BuilderAtF 81 5 B b p (Lib.byteCells l) w:=by
  rcases h with h|h
  ·exact⟨_,.inl rfl,h⟩
  ·exact⟨_,.inr rfl,h⟩
 obtain⟨hB,v,hbk,hown,hne⟩:=hAt;have hl0:l.length≠0:=by simpa using h0
 rw[Lib.byteCells_length] at hown
 obtain⟨g,cap,cur,fz,rfl,hbg,hg,hfz,hnc,hcm,hcs,htake⟩:∃g cap cur fz,v=.slice (some ⟨g,0,none⟩) l.length cap∧B≤g∧w.heap[g]? =some (.cells cur 5 fz)∧fz.2≤l.length*1∧l.length≤cap∧cap≤maxLen∧cur.size=cap*1∧cur.toList.take (l.length*1)=Lib.byteCells l:=by
  rcases hown.2 with⟨_,hz⟩|⟨g,cap,cur,fz,hv,r⟩
  ·exact absurd hz hl0
  ·exact⟨g,cap,cur,fz,hv,r⟩
 have c1:w.cell? ⟨b,1,none⟩=some (.slice (some ⟨g,0,none⟩) l.length cap):=by
  rw[Lib.cell_of_heap hbk];rfl
 have hSD:∀W,(Builtin.unsafeSliceData_ #[79] 123 #[.slice (some ⟨g,0,none⟩) l.length cap]).run Tryz.prog W=.ok (.pointer (some ⟨g,0,none⟩)) W:=
  fun W=>Lib.run_unsafeSliceData_row _ _ _ _ _ _ (by omega)
 have hUS:(Builtin.unsafeString_ #[123,3] 9 #[.pointer (some ⟨g,0,none⟩),.int .i64 l.length]).run Tryz.prog w.drew=.ok (.string ⟨l.toArray⟩) (w.drew.freeze ⟨g,0,none⟩ l.length):=by
  refine Lib.run_unsafeString_row w.drew 123 3 9 5 Tryz.underlying123 (by kernel_rfl) g cur.size (by have hg':w.drew.heap[g]? =some (.cells cur 5 fz):=hg;simp[World.shape?,hg']) l h0 (by omega) (by unfold maxLen at hcm;omega) ?_;intro j x hx;exact hown.cells (g:=g) rfl j (.int .u8 x.toNat) (by simp[Lib.byteCells,hx])
 have hkeep:BldH B b l (w.drew.freeze ⟨g,0,none⟩ l.length):=by
  have hA:Lib.BuilderAtF 81 5 B b p (Lib.byteCells l) w.drew:=⟨hB,_,hbk,by rw[Lib.byteCells_length];exact hown,hne⟩;have hF:=hA.froze (g:=g) (cap:=cap) (by rw[Lib.byteCells_length];exact c1);rw[Lib.byteCells_length] at hF
  rcases hp with rfl|rfl
  ·exact .inl hF
  ·exact .inr hF
 have HK:=hid hkeep;have hfr:Wr B b w (w.drew.freeze ⟨g,0,none⟩ l.length):=Wr.drew.trans (Wr.freeze (w:=w.drew) (cur:=cur) (fz:=fz) hg hbg _);have HG:=hid hfr;clear hbk hown hne hg hfz hcs htake hkeep hbg h hp hfr
 go_enter Tryz.func40,Tryz.ntmps40
 go_wp2_with fail;go_region
 all_goals (go_wp2_with fail;go_ret;exact⟨rfl,HK.out,HG.out⟩)
end Go.Proofs.YtkflaifopbodfaaGreatDoor
