/- Parts of the proof, side by side: Conc, AllowsP, AllowsC, Allows1, Allows2, Allows3, AllowsQ. -/
import Derived.Test.YtmmpkfcdfcldlaaGreatM42
import Derived.Test.YtmmpkfcdfcldlaaGreatM41
import Derived.Test.YtmmpkfcdfcldlaaGreatM19
import Derived.Test.YtmmpkfcdfcldlaaGreatM15
import Derived.Test.YtmmpkfcdfcldlaaGreatM30
import Derived.Test.YtmmpkfcdfcldlaaGreatGdDo
import Derived.Test.YtmmpkfcdfcldlaaGreatM29
import Derived.Test.YtmmpkfcdfcldlaaGreatM14
import Derived.Test.YtmmpkfcdfcldlaaGreatM33
set_option linter.unusedVariables false
set_option linter.unusedSimpArgs false
namespace Go.Proofs.YtmmpkfcdfcldlaaGreat
open Lib (hid)
open Go.RowKit
deriving instance DecidableEq for Re
deriving instance DecidableEq for Ca
theorem doC (v:Value) (s:St) (c:Ca) (w:World) (h:StAt none w v s) (T:St) (code fd num:Int) (dir:Bool) (data:ByteArray) (names:List ByteArray) (hd:doV s c=(T,⟨code,fd,num,dir,data,names⟩)) (hp1:c.path.size≤140737488355328) (hp2:c.path2.size≤140737488355328) (hds:c.data.size≤140737488355328):
  Calls Tryz.prog 7 #[v,caV c] w fun e w'=>∃A n c1 E m d D k e1 F f f',e=.returned (.tuple #[.agg #[.slice A n c1,.slice E m d,.slice D k e1],.agg #[.int .i64 code,.int .i64 fd,.int .i64 num,.bool dir,.string data,.slice F f f']])∧
   StAt none w' (.agg #[.slice A n c1,.slice E m d,.slice D k e1]) T∧DescsAt none w' E m T.opn∧(m=T.opn.length∧n=T.inos.length)∧NmsAt none w' F f names∧SlOk F f f'∧Below w.heap.size w w':=by
 refine(zjs v s c w h hp1 hp2 hds).mono ?_;rintro e w' ⟨v',rv,rfl,hs,⟨F,f,f',rfl,hok,hn⟩,hb⟩;rw[hd] at hs hn;rw[hd];obtain⟨A,n,c1,E,m,d,D,k,e1,rfl,hI,hD,_⟩:=hs.weak.at_;exact⟨A,n,c1,E,m,d,D,k,e1,F,f,f',rfl,hs.weak,hD,⟨hD.1.symm,hI.1.symm⟩,hn.weak,hok,hb⟩
theorem zg4 (w:World) (a b c:Value) (code fd num:Int) (dir:Bool) (data:ByteArray) (F:Option Addr) (f f':Nat):∃V1 V,w.alloc (.cells #[a,b,c] 26)=V1∧V1.alloc (.cells #[.int .i64 code,.int .i64 fd,.int .i64 num,.bool dir,.string data,.slice F f f'] 32)=V∧V1.heap.size=w.heap.size+1∧V.heap.size=w.heap.size+2∧
  OutAt V w.heap.size a b c∧ResAt V (w.heap.size+1) (.int .i64 code) (.int .i64 fd) (.int .i64 num) (.bool dir) (.string data) (.slice F f f')∧Below w.heap.size w V:=by
 obtain⟨V1,hV1⟩:∃V1,w.alloc (.cells #[a,b,c] 26)=V1:=⟨_,rfl⟩;have l1:Below w.heap.size w V1:=by rw[←hV1];exact(Below.refl _ _).alloc (Nat.le_refl _) _
 have o1:OutAt V1 w.heap.size a b c:=by rw[←hV1];exact heap_alloc_new w _
 have y1:V1.heap.size=w.heap.size+1:=by rw[←hV1];simp
 obtain⟨V2,hV2⟩:∃V2,V1.alloc (.cells #[.int .i64 code,.int .i64 fd,.int .i64 num,.bool dir,.string data,.slice F f f'] 32)=V2:=⟨_,rfl⟩;have l2:Below V1.heap.size V1 V2:=by rw[←hV2];exact(Below.refl _ _).alloc (Nat.le_refl _) _
 have r2:ResAt V2 (w.heap.size+1) (.int .i64 code) (.int .i64 fd) (.int .i64 num) (.bool dir) (.string data) (.slice F f f'):=by rw[←y1,←hV2];exact heap_alloc_new V1 _
 have o2:OutAt V2 w.heap.size a b c:=(l2.block _ (by omega)).trans o1;exact⟨V1,V2,hV1,hV2,y1,by rw[←hV2];simp;omega,o2,r2,Cv.next l1 l2⟩
theorem zjy (w:World) (a b c:Value):∃V,w.alloc (.cells #[a,b,c] 26)=V∧V.heap.size=w.heap.size+1∧OutAt V w.heap.size a b c∧Below w.heap.size w V:=
 ⟨_,rfl,by simp,heap_alloc_new w _,(Below.refl _ _).alloc (Nat.le_refl _) _⟩
theorem OutAt.mv {w w':World} {p:Nat} {a b c:Value} (h:OutAt w p a b c) (hb:Below w.heap.size w w'):OutAt w' p a b c:=(hb.block p (Array.getElem?_eq_some_iff.1 h).1).trans h
theorem ResAt.mv {w w':World} {p:Nat} {a b c d e f:Value} (h:ResAt w p a b c d e f) (hb:Below w.heap.size w w'):ResAt w' p a b c d e f:=(hb.block p (Array.getElem?_eq_some_iff.1 h).1).trans h
theorem zld (lo:Option Nat) (w:World) (code fd num:Int) (dir:Bool) (data:ByteArray):ResIs lo w (.agg #[.int .i64 code,.int .i64 fd,.int .i64 num,.bool dir,.string data,.slice none 0 0]) ⟨code,fd,num,dir,data,[]⟩:=
 ⟨none,0,0,rfl,⟨Nat.le_refl _,fun _=>rfl⟩,rfl,fun h=>absurd h (by omega)⟩
theorem znb (n:Int) (w:World):Calls Tryz.prog 18 #[.int .i64 n] w fun e w'=>e=.returned (.int .i64 n)∧w=w':=by
 go_enter Tryz.func18,Tryz.ntmps18
 go_wp2_with fail;go_ret;exact⟨rfl,rfl⟩
def pA:ByteArray:=⟨#[47,97]⟩
def cA:Ca:=⟨0,0,0,0,0,⟨#[47,97]⟩,⟨#[]⟩,⟨#[]⟩⟩
def cO:Ca:=⟨2,1,0,0,0,⟨#[47,97]⟩,⟨#[]⟩,⟨#[]⟩⟩
def cW:Ca:=⟨5,1,0,0,0,⟨#[]⟩,⟨#[]⟩,⟨#[104,105]⟩⟩
def cP:Ca:=⟨2,0,0,0,0,⟨#[47,97]⟩,⟨#[]⟩,⟨#[]⟩⟩
def stT:St:=⟨[⟨1,true,[⟨⟨#[97]⟩,2⟩],⟨#[]⟩⟩,⟨2,false,[],⟨#[]⟩⟩],[],[1,0]⟩
def stU:St:=⟨[⟨1,true,[⟨⟨#[97]⟩,2⟩],⟨#[]⟩⟩,⟨2,false,[],⟨#[]⟩⟩],[⟨1,0,2⟩],[1,0]⟩
def stW:St:=⟨[⟨1,true,[⟨⟨#[97]⟩,2⟩],⟨#[]⟩⟩,⟨2,false,[],⟨#[104,105]⟩⟩],[⟨1,0,2⟩],[1,0]⟩
theorem zne:doV (newV 2) cA=(stT,⟨0,0,0,false,⟨#[]⟩,[]⟩):=by decide+kernel
theorem znf:doV stT cO=(stU,⟨0,0,0,false,⟨#[]⟩,[]⟩):=by decide+kernel
theorem zng:doV stU cW=(stW,⟨0,0,2,false,⟨#[]⟩,[]⟩):=by decide+kernel
theorem znh:doV stT cA=(stT,⟨2,0,0,false,⟨#[]⟩,[]⟩):=by decide+kernel
theorem zni:mayV stT=true:=by decide+kernel
theorem znj:linkI stT.inos 2=1:=by decide+kernel
theorem znk:mfindV stT pA=(2,0):=by decide+kernel
end Go.Proofs.YtmmpkfcdfcldlaaGreat
namespace Go.Proofs.YtmmpkfcdfcldlaaGreat
open Lib (hid)
def wantV (c:Ca) (r:Re):Int:=if c.kind=2∧r.code=0 then r.fd else -1
def allowsV (s:St) (c:Ca) (r:Re):St×Bool:=
 if c.kind=2∧r.code=0∧r.fd<0 then(s,false)
 else if(doF s c (wantV c r)).2.2=false∨sameR (doF s c (wantV c r)).2.1 r=false then(s,false)
 else((doF s c (wantV c r)).1,true)
def refuse (s:St) (c:Ca) (r:Re):Bool:=(fdP s.opn c.core r.fd).isSome||decide (r.fd<0)||decide (4≤r.fd)||decide (r.code≠0)||decide (r.num≠0)||r.dir||decide (r.data≠⟨#[]⟩)||decide (0<r.names.length)
theorem zg5 {s:St} (h:Good s) (core fd:Int):fdP s.opn core fd=none↔fdV s.opn core fd=0:=by
 constructor
 ·intro h1;exact(zc6 _ _ _ h1).1
 ·intro h1;cases hp:fdP s.opn core fd with
  | none=>rfl
  | some k=>
   exfalso;obtain⟨d,hd,hc,hf,_⟩:=z8z _ _ _ _ hp;refine zaa s.opn core fd (fun x hx=>?_) ⟨d,List.mem_of_getElem? hd,hc,hf⟩ h1;obtain⟨_,_,_,_,w,hw,hwn,_⟩:=h.frm.1.opn x hx
   by_cases h2:w.num=1
   ·omega
   ·have:=z4t (h.frm.1.given w hw h2);omega
theorem zdo {s:St} {c:Ca} {r:Re} (hk:c.kind=2) (h0:(doV s c).2.code=0) (hne:r.fd≠(doV s c).2.fd):
  Good s∧0≤c.core∧c.core<(s.made.length:Int)∧∃num,(doV s c)=({ s with opn:=putD s.opn ⟨c.core,(doV s c).2.fd,num⟩ },{ fd:=(doV s c).2.fd })∧fdV s.opn c.core (doV s c).2.fd=0∧0≤(doV s c).2.fd∧(doV s c).2.fd<4∧
   allowsV s c r=if refuse s c r=true then(s,false) else({ s with opn:=putD s.opn ⟨c.core,r.fd,num⟩ },true):=by
 by_cases hm:mayV s=false∨c.core<0∨(s.made.length:Int)≤c.core∨c.kind<0∨16<c.kind
 ·have hv:doV s c=(s,{ code:=9 }):=by unfold doV doF;rw[if_pos hm]
  rw[hv] at h0;exact absurd (show(9:Int)=0 from h0) (by decide)
 have hd:∀want,doF s c want=openedV s c want:=fun want=>by
  unfold doF;rw[if_neg hm,if_neg (by omega),if_pos hk]
 have hv:doV s c=((openedV s c (-1)).1,(openedV s c (-1)).2.1):=by unfold doV;rw[hd]
 have hgood:Good s:=by
  rw[←z1t];cases hmv:mayV s
  ·exact absurd (.inl hmv) hm
  ·rfl
 rw[hv] at h0 hne ⊢
 by_cases hf1:(findV s.inos c.path).2≠0
 ·unfold openedV at h0;rw[if_pos hf1] at h0;exact absurd h0 hf1
 by_cases hf2:dirAt s.inos (findV s.inos c.path).1=true
 ·unfold openedV at h0;rw[if_neg hf1,if_pos hf2] at h0;exact absurd (show(8:Int)=0 from h0) (by decide)
 by_cases hf3:freeFd s.opn c.core=4
 ·unfold openedV at h0;rw[if_neg hf1,if_neg hf2,if_pos hf3] at h0;exact absurd (show(10:Int)=0 from h0) (by decide)
 obtain⟨hfree,hlt⟩:=z9f _ _ hf3
 have ho1:openedV s c (-1)=({ s with opn:=putD s.opn ⟨c.core,freeFd s.opn c.core,(findV s.inos c.path).1⟩ },{ fd:=freeFd s.opn c.core },true):=by
  unfold openedV;rw[if_neg hf1,if_neg hf2,if_neg hf3,if_neg (by omega)]
 rw[ho1] at hne ⊢;simp only at hne ⊢;refine⟨hgood,by omega,by omega,(findV s.inos c.path).1,rfl,hfree,by omega,by omega,?_⟩
 have hnone:(fdP s.opn c.core r.fd).isSome=true↔fdV s.opn c.core r.fd≠0:=by
  have hfr:=zg5 hgood c.core r.fd;cases hq:fdP s.opn c.core r.fd with
  | none=>exact⟨(fun h1=>absurd h1 (by decide)),(fun h1=>absurd (hfr.1 hq) h1)⟩
  | some k=>exact⟨(fun _ h1=>by have h9:=hfr.2 h1;rw[hq] at h9;cases h9),(fun _=>rfl)⟩
 unfold allowsV;rw[hd]
 by_cases hrc:r.code=0
 ·rw [show wantV c r = r.fd by unfold wantV; rw [if_pos ⟨hk, hrc⟩]]
  by_cases hneg:r.fd<0
  ·have hr:refuse s c r=true:=by unfold refuse;simp[hneg]
   rw[if_pos ⟨hk,hrc,hneg⟩,hr]
   rfl
  ·rw [if_neg (by omega)]
   by_cases hbad:4≤r.fd∨fdV s.opn c.core r.fd≠0
   ·have ho2:openedV s c r.fd=(s,{},false):=by
     unfold openedV;rw[if_neg hf1,if_neg hf2,if_neg hf3,if_pos (by omega),if_pos hbad]
    have hr:refuse s c r=true:=by
     unfold refuse
     rcases hbad with h1|h1
     ·simp[h1]
     ·rw[hnone.2 h1];simp
    rw[ho2,hr];simp
   ·have ho2:openedV s c r.fd=({ s with opn:=putD s.opn ⟨c.core,r.fd,(findV s.inos c.path).1⟩ },{ fd:=r.fd },true):=by
     unfold openedV;rw[if_neg hf1,if_neg hf2,if_neg hf3,if_pos (by omega),if_neg hbad]
    rw[ho2]
    have hsome:(fdP s.opn c.core r.fd).isSome=false:=by
     cases hq:(fdP s.opn c.core r.fd).isSome
     ·rfl
     ·exact absurd (.inr (hnone.1 hq)) hbad
    have hs:sameR { fd:=r.fd } r= !refuse s c r:=by
     have h1:decide (r.fd<0)=false:=decide_eq_false hneg;have h2:decide (4≤r.fd)=false:=decide_eq_false (fun h=>hbad (.inl h));have h3:decide (r.code≠0)=false:=decide_eq_false (fun h=>h hrc);unfold refuse;rw[hsome,h1,h2,h3];unfold sameR sameF;simp only[hrc,Bool.false_or]
     have e1:decide ((([]:List ByteArray))=r.names)= !decide (0<r.names.length):=by
      cases r.names<;>simp
     have e2:decide ((0:Int)=r.num)= !decide (r.num≠0):=by
      by_cases h:r.num=0
      ·simp[h]
      ·simp[h];exact fun e=>h e.symm
     have e3:decide (false=r.dir)= !r.dir:=by cases r.dir<;>rfl
     have e4:decide ((⟨#[]⟩:ByteArray)=r.data)= !decide (r.data≠⟨#[]⟩):=by
      by_cases h:r.data=⟨#[]⟩
      ·simp[h]
      ·simp[h];exact fun e=>h e.symm
     rw[e1,e2,e3,e4];cases decide (0<r.names.length)<;>cases decide (r.num≠0)<;>cases r.dir<;>cases decide (r.data≠⟨#[]⟩)<;>simp
    simp only[hs];cases refuse s c r<;>simp
 ·have hr:refuse s c r=true:=by unfold refuse;simp[hrc]
  rw[if_neg (fun h=>hrc h.2.1),show wantV c r=-1 by unfold wantV;rw[if_neg (fun h=>hrc h.2)],ho1,hr]
  have:sameR { fd:=(freeFd s.opn c.core:Int) } r=false:=by
   cases hs:sameR { fd:=(freeFd s.opn c.core:Int) } r
   ·rfl
   ·have:=zlc hs;exact absurd (by rw[←this]) hrc
  simp[this]
structure Back (ds:List Ds) (core fd:Int) (i:Nat) (at_:Nat):Prop where
 le:at_≤ds.length
 gt:i≤at_
 hi:∀d,ds[at_]? =some d→core<d.core∨(d.core=core∧fd<d.fd)
 lo:∀(k:Nat) (d:Ds),i≤k→k<at_→ds[k]? =some d→¬(core<d.core∨(d.core=core∧fd<d.fd))
theorem Back.start (ds:List Ds) (core fd:Int):Back ds core fd ds.length ds.length:=⟨Nat.le_refl _,Nat.le_refl _,fun d hd=>by simp at hd,fun k d h1 h2=>by omega⟩
theorem Back.step {ds:List Ds} {core fd:Int} {i at_:Nat} (h:Back ds core fd (i+1) at_) {d:Ds} (hd:ds[i]? =some d):
  ((core<d.core∨(d.core=core∧fd<d.fd))→Back ds core fd i i)∧(¬(core<d.core∨(d.core=core∧fd<d.fd))→Back ds core fd i at_):=by
 have hl:=(List.getElem?_eq_some_iff.1 hd).1;refine⟨fun hc=>⟨by omega,Nat.le_refl _,fun e he=>by rw[hd] at he;cases he;exact hc,fun k e h1 h2=>by omega⟩,fun hc=>⟨h.le,by have:=h.gt;omega,h.hi,fun k e h1 h2 he=>?_⟩⟩
 by_cases hk:k=i
 ·subst hk;rw[hd] at he;cases he;exact hc
 ·exact h.lo k e (by omega) h2 he
theorem Back.put {ds:List Ds} {core fd num:Int} {at_:Nat} (h:Back ds core fd 0 at_) (hr:RiseD ds) (hno:∀x∈ds,¬(x.core=core∧x.fd=fd)):putD ds ⟨core,fd,num⟩=ds.take at_++[⟨core,fd,num⟩]++ds.drop at_:=by
 refine zc9 _ _ _ h.le (fun k d hk hd=>?_) (fun k d hk hd=>?_)
 ·have h1:=h.lo k d (by omega) hk hd;have h2:=hno d (List.mem_of_getElem? hd);unfold ltD;simp only;omega
 ·have hl:=(List.getElem?_eq_some_iff.1 hd).1;have hat:=List.getElem?_eq_getElem (show at_<ds.length by omega);have h1:=h.hi _ hat
  by_cases e:at_=k
  ·subst e;rw[hd] at hat;cases hat;unfold ltD;simp only;omega
  ·have h2:=hr at_ k _ d (by omega) hat hd
   unfold ltD at h2 ⊢;simp only;omega
end Go.Proofs.YtmmpkfcdfcldlaaGreat
namespace Go.Proofs.YtmmpkfcdfcldlaaGreat
open Lib (hid)
open Go.RowKit
theorem zhn (g1 g2:Nat) (CO FD a b k:Int) (w:World) (h1:w.cell? ⟨g1,1,.none⟩=some (.int .i64 CO)) (h2:w.cell? ⟨g2,1,.none⟩=some (.int .i64 FD)) (l1:g1<w.heap.size) (l2:g2<w.heap.size):
  Calls Tryz.prog 51 #[.agg #[.int .i64 a,.int .i64 b,.int .i64 k],.pointer (some ⟨g1,0,.none⟩),.pointer (some ⟨g2,0,.none⟩)] w fun e w'=>e=.returned (.bool (a==CO&&b==FD))∧Below w.heap.size w w':=by
 obtain⟨V2,hV2,v0,v1,v2,hal4,hlt4⟩:=z4f w a b k;have z1:=(hal4.cell (p:=⟨g1,1,.none⟩) l1).trans h1;have z2:=(hal4.cell (p:=⟨g2,1,.none⟩) l2).trans h2;have HAL:=hid hal4;clear hal4;obtain⟨X,hX⟩:∃X,(a==CO)=X:=⟨_,rfl⟩;obtain⟨Y,hY⟩:∃Y,(b==FD)=Y:=⟨_,rfl⟩;rw[hX,hY]
 go_enter Tryz.func51,Tryz.ntmps51
 cases X
 ·go_wp2_with fail;go_ret;exact⟨by first|rfl|simp,HAL.out⟩
 ·go_wp2_with fail;go_ret;exact⟨by first|rfl|simp,HAL.out⟩
set_option maxRecDepth 100000 in
set_option maxHeartbeats 4000000 in
theorem zag (g1 g2:Nat) (CO FD:Int) (xs:List Ds) (A:Option Addr) (n cp:Nat) (w:World) (hI:DescsAt none w A n xs) (hn:n≤1099511627776) (h1:w.cell? ⟨g1,1,.none⟩=some (.int .i64 CO)) (h2:w.cell? ⟨g2,1,.none⟩=some (.int .i64 FD)) (l1:g1<w.heap.size) (l2:g2<w.heap.size):
  Calls Tryz.prog 52 #[.slice A n cp,.func (.func 51) #[] #[.pointer (some ⟨g1,0,.none⟩),.pointer (some ⟨g2,0,.none⟩)]] w fun e w'=>e=.returned (.int .i64 (fdI xs CO FD))∧Below w.heap.size w w':=by
 obtain⟨R,hR⟩:∃R,fdP xs CO FD=R:=⟨_,rfl⟩;unfold fdI;rw[hR];have HI:=hid hI;have HR:=hid hR;clear hI hR
 go_enter Tryz.func52,Tryz.ntmps52
 go_wp2_with fail
 go_loopw [8] (fun j wr=>∃r:Nat,j=.int .i64 r∧r≤n∧Below w.heap.size w wr∧(fdP (xs.drop r) CO FD).map (· +r)=R) (fun j _=>n-(intOf j).toNat)
 case atStart=>exact⟨0,rfl,by omega,Below.refl _ _,by rw[List.drop_zero,HR.out];cases R<;>rfl⟩
 case round=>
  obtain⟨r,rfl,hq,hbel,hc⟩:=hrel;have HB:=hid hbel;have HIr:=hid (HI.out.below hbel);have z1:=(hbel.cell (p:=⟨g1,1,.none⟩) l1).trans h1;have z2:=(hbel.cell (p:=⟨g2,1,.none⟩) l2).trans h2;have m1:g1<wr.heap.size:=Nat.lt_of_lt_of_le l1 hbel.size;have m2:g2<wr.heap.size:=Nat.lt_of_lt_of_le l2 hbel.size;clear hbel
  by_cases hlt:r<n
  ·obtain⟨g,off,y,rfl,hg,hy,hd,hmem,e0,e1,e2⟩:=HIr.out.get r hlt;rw[zc7 xs _ _ r y hd] at hc;have HC:=hid hc;have k0:(0:Int)≤(r:Int):=by omega
   clear hc hd hmem hy;go_wp2_with fail;refine(zhn g1 g2 CO FD y.core y.fd y.num _ z1 z2 m1 m2).mono ?_;rintro e5 w5 ⟨rfl,hb5⟩;have HB5:=hid (HB.out.trans (hb5.mono HB.out.size));clear hb5 e0 e1 e2;obtain⟨bb,hbb⟩:∃bb,(y.core==CO&&y.fd==FD)=bb:=⟨_,rfl⟩;rw[hbb];have hc:=HC.out;cases bb
   ·have hnx:¬(y.core=CO∧y.fd=FD):=fun h=>by rw[h.1,h.2] at hbb;simp at hbb
    rw[if_neg hnx] at hc;have HC2:=hid hc;clear hc hbb hnx;go_wp2_with fail;go_roundw
    case rel=>exact⟨r+1,by go_num,by omega,HB5.out,by
     rw[←HC2.out];cases fdP (xs.drop (r+1)) CO FD
     ·rfl
     ·simp;omega⟩
    case measure=>simp[intOf];omega
   ·have hnx:y.core=CO∧y.fd=FD:=by simpa using hbb
    rw[if_pos hnx] at hc;have HC2:=hid hc;clear hc hbb hnx;go_wp2_with fail;go_ret;have h:=HC2.out;simp at h;subst h;exact⟨rfl,HB5.out⟩
  ·have hnil:xs.drop r=[]:=List.drop_eq_nil_of_le (by have:=HI.out.1;omega);rw[hnil,fdP] at hc;have HC:=hid hc;clear hc hnil;go_wp2_with fail;go_ret;exact⟨by rw[←HC.out];rfl,HB.out⟩
theorem zho (g1 g2:Nat) (CO FD a b k:Int) (w:World) (h1:w.cell? ⟨g1,1,.none⟩=some (.int .i64 CO)) (h2:w.cell? ⟨g2,1,.none⟩=some (.int .i64 FD)) (l1:g1<w.heap.size) (l2:g2<w.heap.size):
  Calls Tryz.prog 53 #[.agg #[.int .i64 a,.int .i64 b,.int .i64 k],.pointer (some ⟨g1,0,.none⟩),.pointer (some ⟨g2,0,.none⟩)] w fun e w'=>e=.returned (.bool (a==CO&&b==FD))∧Below w.heap.size w w':=by
 obtain⟨V2,hV2,v0,v1,v2,hal4,hlt4⟩:=z4f w a b k;have z1:=(hal4.cell (p:=⟨g1,1,.none⟩) l1).trans h1;have z2:=(hal4.cell (p:=⟨g2,1,.none⟩) l2).trans h2;have HAL:=hid hal4;clear hal4;obtain⟨X,hX⟩:∃X,(a==CO)=X:=⟨_,rfl⟩;obtain⟨Y,hY⟩:∃Y,(b==FD)=Y:=⟨_,rfl⟩;rw[hX,hY]
 go_enter Tryz.func53,Tryz.ntmps53
 cases X
 ·go_wp2_with fail;go_ret;exact⟨by first|rfl|simp,HAL.out⟩
 ·go_wp2_with fail;go_ret;exact⟨by first|rfl|simp,HAL.out⟩
set_option maxRecDepth 100000 in
set_option maxHeartbeats 4000000 in
theorem zah (g1 g2:Nat) (CO FD:Int) (xs:List Ds) (A:Option Addr) (n cp:Nat) (w:World) (hI:DescsAt none w A n xs) (hn:n≤1099511627776) (h1:w.cell? ⟨g1,1,.none⟩=some (.int .i64 CO)) (h2:w.cell? ⟨g2,1,.none⟩=some (.int .i64 FD)) (l1:g1<w.heap.size) (l2:g2<w.heap.size):
  Calls Tryz.prog 52 #[.slice A n cp,.func (.func 53) #[] #[.pointer (some ⟨g1,0,.none⟩),.pointer (some ⟨g2,0,.none⟩)]] w fun e w'=>e=.returned (.int .i64 (fdI xs CO FD))∧Below w.heap.size w w':=by
 obtain⟨R,hR⟩:∃R,fdP xs CO FD=R:=⟨_,rfl⟩;unfold fdI;rw[hR];have HI:=hid hI;have HR:=hid hR;clear hI hR
 go_enter Tryz.func52,Tryz.ntmps52
 go_wp2_with fail
 go_loopw [8] (fun j wr=>∃r:Nat,j=.int .i64 r∧r≤n∧Below w.heap.size w wr∧(fdP (xs.drop r) CO FD).map (· +r)=R) (fun j _=>n-(intOf j).toNat)
 case atStart=>exact⟨0,rfl,by omega,Below.refl _ _,by rw[List.drop_zero,HR.out];cases R<;>rfl⟩
 case round=>
  obtain⟨r,rfl,hq,hbel,hc⟩:=hrel;have HB:=hid hbel;have HIr:=hid (HI.out.below hbel);have z1:=(hbel.cell (p:=⟨g1,1,.none⟩) l1).trans h1;have z2:=(hbel.cell (p:=⟨g2,1,.none⟩) l2).trans h2;have m1:g1<wr.heap.size:=Nat.lt_of_lt_of_le l1 hbel.size;have m2:g2<wr.heap.size:=Nat.lt_of_lt_of_le l2 hbel.size;clear hbel
  by_cases hlt:r<n
  ·obtain⟨g,off,y,rfl,hg,hy,hd,hmem,e0,e1,e2⟩:=HIr.out.get r hlt;rw[zc7 xs _ _ r y hd] at hc;have HC:=hid hc;have k0:(0:Int)≤(r:Int):=by omega
   clear hc hd hmem hy;go_wp2_with fail;refine(zho g1 g2 CO FD y.core y.fd y.num _ z1 z2 m1 m2).mono ?_;rintro e5 w5 ⟨rfl,hb5⟩;have HB5:=hid (HB.out.trans (hb5.mono HB.out.size));clear hb5 e0 e1 e2;obtain⟨bb,hbb⟩:∃bb,(y.core==CO&&y.fd==FD)=bb:=⟨_,rfl⟩;rw[hbb];have hc:=HC.out;cases bb
   ·have hnx:¬(y.core=CO∧y.fd=FD):=fun h=>by rw[h.1,h.2] at hbb;simp at hbb
    rw[if_neg hnx] at hc;have HC2:=hid hc;clear hc hbb hnx;go_wp2_with fail;go_roundw
    case rel=>exact⟨r+1,by go_num,by omega,HB5.out,by
     rw[←HC2.out];cases fdP (xs.drop (r+1)) CO FD
     ·rfl
     ·simp;omega⟩
    case measure=>simp[intOf];omega
   ·have hnx:y.core=CO∧y.fd=FD:=by simpa using hbb
    rw[if_pos hnx] at hc;have HC2:=hid hc;clear hc hbb hnx;go_wp2_with fail;go_ret;have h:=HC2.out;simp at h;subst h;exact⟨rfl,HB5.out⟩
  ·have hnil:xs.drop r=[]:=List.drop_eq_nil_of_le (by have:=HI.out.1;omega);rw[hnil,fdP] at hc;have HC:=hid hc;clear hc hnil;go_wp2_with fail;go_ret;exact⟨by rw[←HC.out];rfl,HB.out⟩
theorem z7z (g1 g2:Nat) (CO FD:Int) (xs:List Ds) (A:Option Addr) (n cp:Nat) (w:World) (hI:DescsAt none w A n xs) (hn:n≤1099511627776) (h1:w.cell? ⟨g1,1,.none⟩=some (.int .i64 CO)) (h2:w.cell? ⟨g2,1,.none⟩=some (.int .i64 FD)) (l1:g1<w.heap.size) (l2:g2<w.heap.size):
  Calls Tryz.prog 50 #[.slice A n cp,.func (.func 51) #[] #[.pointer (some ⟨g1,0,.none⟩),.pointer (some ⟨g2,0,.none⟩)]] w fun e w'=>e=.returned (.bool (fdP xs CO FD).isSome)∧Below w.heap.size w w':=by
 obtain⟨R,hR⟩:∃R,(fdP xs CO FD).isSome=R:=⟨_,rfl⟩
 have hd:decide (0≤fdI xs CO FD)=R:=by
  rw[←hR];unfold fdI;cases fdP xs CO FD with
  | none=>rfl
  | some k=>simp
 have hcall:=zag g1 g2 CO FD xs A n cp w hI hn h1 h2 l1 l2;obtain⟨F,hF⟩:∃F,fdI xs CO FD=F:=⟨_,rfl⟩;rw[hF] at hd hcall;rw[hR];have HC:=hid hcall;clear hcall hF hR hI
 go_enter Tryz.func50,Tryz.ntmps50
 go_wp2_with fail;refine HC.out.mono ?_;rintro e5 w5 ⟨rfl,hb5⟩;have HB5:=hid hb5;clear hb5;go_wp2_with fail;go_ret;exact⟨Cv.ret_bool (by first|exact hd|rfl|simp),HB5.out⟩
theorem zdp (A:Option Addr) (n c':Nat) (E:Option Addr) (m d:Nat) (D:Option Addr) (k e:Nat) (s:St) (c:Ca) (r:Re) (F:Option Addr) (f f':Nat) (w:World) (h:StAt none w (.agg #[.slice A n c',.slice E m d,.slice D k e]) s):
  ∃W W2 W3 W4,w.alloc (.cells #[.slice A n c',.slice E m d,.slice D k e] 26)=W∧W.alloc (.cells #[.int .i64 c.kind,.int .i64 c.core,.int .i64 c.fd,.int .i64 c.off,.int .i64 c.num,.string c.path,.string c.path2,.string c.data] 28)=W2∧
   W2.alloc (.cells #[.int .i64 r.code,.int .i64 r.fd,.int .i64 r.num,.bool r.dir,.string r.data,.slice F f f'] 32)=W3∧W3.alloc (.cells #[.slice none 0 0,.slice none 0 0,.slice none 0 0] 26)=W4∧
   W.heap.size=w.heap.size+1∧W2.heap.size=w.heap.size+2∧W3.heap.size=w.heap.size+3∧W4.heap.size=w.heap.size+4∧
   StAt none W4 (.agg #[.slice A n c',.slice E m d,.slice D k e]) s∧OutAt W4 w.heap.size (.slice A n c') (.slice E m d) (.slice D k e)∧W4.heap[w.heap.size+1]? =some (caRow c)∧
   ResAt W4 (w.heap.size+2) (.int .i64 r.code) (.int .i64 r.fd) (.int .i64 r.num) (.bool r.dir) (.string r.data) (.slice F f f')∧OutAt W4 (w.heap.size+3) (.slice none 0 0) (.slice none 0 0) (.slice none 0 0)∧Below w.heap.size w W4:=by
 obtain⟨W,hW⟩:∃W,w.alloc (.cells #[.slice A n c',.slice E m d,.slice D k e] 26)=W:=⟨_,rfl⟩;have l1:Below w.heap.size w W:=by rw[←hW];exact(Below.refl _ _).alloc (Nat.le_refl _) _
 have o1:OutAt W w.heap.size (.slice A n c') (.slice E m d) (.slice D k e):=by rw[←hW];exact heap_alloc_new w _
 have z1:W.heap.size=w.heap.size+1:=by rw[←hW];simp
 obtain⟨W2,hW2,hbc,l2,z2⟩:=z8a W c;obtain⟨W3,hW3⟩:∃W3,W2.alloc (.cells #[.int .i64 r.code,.int .i64 r.fd,.int .i64 r.num,.bool r.dir,.string r.data,.slice F f f'] 32)=W3:=⟨_,rfl⟩;have l3:Below W2.heap.size W2 W3:=by rw[←hW3];exact(Below.refl _ _).alloc (Nat.le_refl _) _
 have z3:W3.heap.size=W2.heap.size+1:=by rw[←hW3];simp
 have r3:ResAt W3 W2.heap.size (.int .i64 r.code) (.int .i64 r.fd) (.int .i64 r.num) (.bool r.dir) (.string r.data) (.slice F f f'):=by rw[←hW3];exact heap_alloc_new W2 _
 obtain⟨W4,hW4⟩:∃W4,W3.alloc (.cells #[.slice none 0 0,.slice none 0 0,.slice none 0 0] 26)=W4:=⟨_,rfl⟩;have l4:Below W3.heap.size W3 W4:=by rw[←hW4];exact(Below.refl _ _).alloc (Nat.le_refl _) _
 have z4:W4.heap.size=W3.heap.size+1:=by rw[←hW4];simp
 have o4:OutAt W4 W3.heap.size (.slice none 0 0) (.slice none 0 0) (.slice none 0 0):=by rw[←hW4];exact heap_alloc_new W3 _
 have l24:=Cv.next l3 l4;have l14:=Cv.next l2 l24;have l04:=Cv.next l1 l14;refine⟨W,W2,W3,W4,hW,hW2,hW3,hW4,z1,by omega,by omega,by omega,h.below l04,(l14.block w.heap.size (by omega)).trans o1,?_,?_,?_,l04⟩
 ·rw[←z1];exact(l24.block W.heap.size (by omega)).trans hbc
 ·rw[show w.heap.size+2=W2.heap.size by omega];exact(l4.block W2.heap.size (by omega)).trans r3
 ·rw[show w.heap.size+3=W3.heap.size by omega];exact o4
theorem zal (tmps:Array Value) (g:Nat) (a b d:Value) (B:Bool) (w:World) (h6:tmps.getD 6 undef=.pointer (some ⟨g,0,none⟩)) (h7:tmps.getD 7 undef=.bool B) (hO:OutAt w g a b d):
  (results Tryz.f19 tmps).run Tryz.prog w=.ok (.tuple #[.agg #[a,b,d],.bool B]) w:=by
 rw[results_cell_tmp rfl,h6,h7];have hl1:=run_loadVar_row (P:=Tryz.prog) w g _ 26 _ (0,0) _ hO Tryz.underlying26 rfl (by kernel_rfl);simp[asAddr,hl1,Result.andThen]
def AlOut (w:World) (R:St×Bool) (e:Ending) (w':World):Prop:=∃v',e=.returned (.tuple #[v',.bool R.2])∧StAt (some w.heap.size) w' v' R.1∧Below w.heap.size w w'
structure AlAt (w w':World) (A:Option Addr) (n c':Nat) (E:Option Addr) (m d:Nat) (D:Option Addr) (k e:Nat) (s:St) (c:Ca) (r:Re) (F:Option Addr) (f f':Nat):Prop where
 st:StAt none w' (.agg #[.slice A n c',.slice E m d,.slice D k e]) s
 o0:OutAt w' w.heap.size (.slice A n c') (.slice E m d) (.slice D k e)
 ca:w'.heap[w.heap.size+1]? =some (caRow c)
 re:ResAt w' (w.heap.size+2) (.int .i64 r.code) (.int .i64 r.fd) (.int .i64 r.num) (.bool r.dir) (.string r.data) (.slice F f f')
 out:OutAt w' (w.heap.size+3) (.slice none 0 0) (.slice none 0 0) (.slice none 0 0)
 bel:Below w.heap.size w w'
 sz:w.heap.size+4≤w'.heap.size
theorem AlAt.below {w w' w'':World} {A:Option Addr} {n c':Nat} {E:Option Addr} {m d:Nat} {D:Option Addr} {k e:Nat} {s:St} {c:Ca} {r:Re} {F:Option Addr} {f f':Nat} (h:AlAt w w' A n c' E m d D k e s c r F f f') (hb:Below w'.heap.size w' w''):AlAt w w'' A n c' E m d D k e s c r F f f':=by
 have:=h.sz;exact⟨h.st.below hb,(hb.block _ (by omega)).trans h.o0,(hb.block _ (by omega)).trans h.ca,(hb.block _ (by omega)).trans h.re,(hb.block _ (by omega)).trans h.out,Cv.next h.bel hb,Nat.le_trans h.sz hb.size⟩
theorem zdq (s:St) (c:Ca) (hg:Good s):(looksV s c).names.length≤1099511627776:=by
 unfold looksV
 repeat' (first|exact Nat.zero_le _|split)
 show((entsOf s.inos (findV s.inos c.path).1).map (·.name)).length≤_;rw[List.length_map];unfold entsOf
 split
 ·exact Nat.zero_le _
 ·rename_i x hx;unfold inoAt at hx
  split at hx
  ·cases hx
  ·have:=hg.ents_len (List.mem_of_getElem? hx);omega
theorem zdr (s:St) (c:Ca):(doV s c).2.names.length≤1099511627776:=by
 unfold doV doF
 split
 ·exact Nat.zero_le _
 ·rename_i h
  have hg:Good s:=by
   rw[←z1t];cases hmv:mayV s
   ·exact absurd (.inl hmv) h
   ·rfl
  split
  ·show(make1V s c).2.names.length≤_;rw[z8j];exact Nat.zero_le _
  ·split
   ·show(openedV s c (-1)).2.1.names.length≤_;unfold openedV
    repeat' (first|exact Nat.zero_le _|split)
   ·split
    ·show(byFdV s c).2.names.length≤_;unfold byFdV
     repeat' (first|exact Nat.zero_le _|split)
    ·split
     ·show(namesV s c).2.names.length≤_;unfold namesV linkV renameV
      repeat' (first|exact Nat.zero_le _|split)
     ·split
      ·exact zdq s c hg
      ·exact Nat.zero_le _
theorem AlAt.descs {w w':World} {A:Option Addr} {n c':Nat} {E:Option Addr} {m d:Nat} {D:Option Addr} {k e:Nat} {s:St} {c:Ca} {r:Re} {F:Option Addr} {f f':Nat} (h:AlAt w w' A n c' E m d D k e s c r F f f'):DescsAt none w' E m s.opn:=by
 obtain⟨A2,n2,c2,E2,m2,d2,D2,k2,e2,hv,_,hd,_⟩:=h.st.at_;simp at hv;obtain⟨_,⟨rfl,rfl,_⟩,_⟩:=hv;exact hd
theorem zjz {a:ByteArray} (h:a=⟨#[]⟩):a.toList=[]:=by rw[h,ByteArray.toList_eq]
end Go.Proofs.YtmmpkfcdfcldlaaGreat
namespace Go.Proofs.YtmmpkfcdfcldlaaGreat
open Lib (hid)
theorem zn8 {s:St} (h:Good s) {core fd:Int} (h0:fdV s.opn core fd=0):∀x∈s.opn,¬(x.core=core∧x.fd=fd):=fun y hy hcf=>by
 refine zaa s.opn core fd (fun x hx=>?_) ⟨y,hy,hcf⟩ h0;obtain⟨_,_,_,_,w,hw,hwn,_⟩:=h.frm.1.opn x hx
 by_cases h2:w.num=1
 ·omega
 ·have:=z4t (h.frm.1.given w hw h2);omega
theorem zll:∀(ds:List Ds) (core fd num:Int),(∀x∈ds,¬(x.core=core∧x.fd=fd))→∃k,fdP (putD ds ⟨core,fd,num⟩) core fd=some k∧(putD ds ⟨core,fd,num⟩)[k]? =some ⟨core,fd,num⟩∧(putD ds ⟨core,fd,num⟩).take k++(putD ds ⟨core,fd,num⟩).drop (k+1)=ds
 | [],core,fd,num,_=>⟨0,by simp[putD,fdP],by simp[putD],by simp[putD]⟩
 | e :: t, core, fd, num, h => by
  have he:=h e (by simp);unfold putD
  split
  ·exact⟨0,by simp[fdP],by simp,by simp⟩
  ·obtain⟨k,h1,h2,h3⟩:=zll t core fd num (fun x hx=>h x (by simp[hx]));refine⟨k+1,?_,by simpa using h2,by simpa using h3⟩;unfold fdP;rw[if_neg he,h1]
   rfl
theorem zk0 {s:St} (h:Good s) (y:Ds):Sized { s with opn:=putD s.opn y }:=
 (h.small.opn _ (by rw[z5g];have:=h.opn_len;omega)).sized (by omega) (by omega) (by omega)
end Go.Proofs.YtmmpkfcdfcldlaaGreat
