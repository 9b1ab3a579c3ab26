/- Parts of the proof, side by side: FsMay, MoReachP, LaInode, MoEnts2. -/
import Derived.Test.YtmmpkfcdfcldlaaGreatM00
import Derived.Test.YtmmpkfcdfcldlaaGreatM13
import Derived.Laws.BitsAllLaws
import Derived.RegionTactic
import Derived.Test.YtmmpkfcdfcldlaaGreatM02
import Derived.Test.YtmmpkfcdfcldlaaGreatM03
set_option linter.unusedVariables false
set_option linter.unusedSimpArgs false
namespace Go.Proofs.YtmmpkfcdfcldlaaGreat
open Lib (hid)
def numsM (made:List Int):List Ino→Int→Bool
 | [],_=>true
 | x::xs,p=>if x.num≤p∨givenV made x.num=false then false else numsM made xs x.num
def shapesM (is:List Ino):List Ino→Bool
 | []=>true
 | x::xs=>if x.dir=true then(if x.data.size≠0∨entsV is x.ents=false then false else shapesM is xs) else if x.ents≠[]∨256<x.data.size then false else shapesM is xs
def finalR (s:St):List Ino→Bool→List Bool→Bool
 | [],_,_=>true
 | x::xs,first,f=>if(first=false∧x.dir=true∧(linkI s.inos x.num≠1∨f.headD false=false))∨(x.dir=false∧f.headD false=false∧openB s.opn x.num=false) then false else finalR s xs false f.tail
def finalM (s:St):List Ino→Bool→List Nat→List Bool→Bool
 | [],_,_,_=>true
 | x::xs,first,many,f=>
  if first=true then finalM s xs false many.tail f.tail
  else if x.dir=true∧(many.headD 0≠1∨f.headD false=false) then false
  else if x.dir=false∧f.headD false=false∧(0<many.headD 0∨openB s.opn x.num=false) then false
  else finalM s xs false many.tail f.tail
def numsP (made:List Int) (p:Option Int) (xs:List Ino):Bool:=
 match p,xs with
 | some q,xs=>numsM made xs q
 | none,[]=>true
 | none,x::xs=>numsM made xs x.num
theorem z6p (made:List Int) (p:Option Int) (x:Ino) (xs:List Ino):numsP made p (x::xs)=(!badNum made p x.num&&numsM made xs x.num):=by
 cases p with
 | none=>simp[numsP,badNum]
 | some q=>
  simp only[numsP,numsM,badNum]
  by_cases h1:x.num≤q<;>cases h2:givenV made x.num<;>simp[h1]
theorem z5n (s:St):∀(xs:List Ino) (p:Option Int) (f:List Bool),inosG s xs p f=(numsP s.made p xs&&(shapesM s.inos xs&&finalR s xs p.isNone f))
 | [],none,f=>rfl
 | [],some q,f=>rfl
 | x :: xs, p, f => by
  unfold inosG shapesM finalR;rw[z5n s xs (some x.num) f.tail,z6p];simp only[numsP,Option.isNone_some];unfold inoBad inoLost;generalize p.isNone=first;generalize badNum s.made p x.num=A;generalize numsM s.made xs x.num=N;generalize shapesM s.inos xs=S;generalize finalR s xs false f.tail=F;have hE:x.ents=[]→entsV s.inos x.ents=true:=fun h=>by rw[h];rfl
  generalize entsV s.inos x.ents=E at hE ⊢;generalize f.headD false=H;generalize openB s.opn x.num=O;cases hd:x.dir
  ·by_cases h1:x.ents=[]
   ·have:=hE h1;subst this
    by_cases h2:256<x.data.size<;>cases A<;>cases N<;>cases S<;>cases F<;>cases H<;>cases O<;>simp[h1,h2]
   ·have h3:x.ents.isEmpty=false:=by simpa using h1
    cases A<;>cases N<;>cases S<;>simp[h1,h3]
  ·by_cases h1:x.data.size=0
   ·by_cases h2:linkI s.inos x.num=1<;>cases A<;>cases N<;>cases S<;>cases F<;>cases H<;>cases E<;>cases first<;>simp[h1,h2]
   ·cases A<;>cases N<;>cases S<;>simp[h1]
theorem z3e (s:St):∀(xs:List Ino) (first:Bool) (f:List Bool),finalR s xs first f=true↔∀(i:Nat) (x:Ino),xs[i]? =some x→((first=false∨0<i)→x.dir=true→linkI s.inos x.num=1∧f.getD i false=true)∧(x.dir=false→f.getD i false=true∨openB s.opn x.num=true)
 | [],first,f=>by simp[finalR]
 | x :: xs, first, f => by
  unfold finalR;have hh:f.headD false=f.getD 0 false:=by cases f<;>rfl
  have ht:∀i,f.tail.getD i false=f.getD (i+1) false:=fun i=>by cases f<;>rfl
  constructor
  ·intro h
   split at h
   ·cases h
   ·rename_i hc;have ih:=(z3e s xs false f.tail).1 h;intro i y hy;cases i with
    | zero =>
     have e:x=y:=by simpa using hy
     subst e;rw[←hh];refine⟨fun h1 h2=>?_,fun h2=>?_⟩
     ·have hf:first=false:=by rcases h1 with h1|h1;exact h1;omega
      refine⟨?_,?_⟩
      ·apply Classical.byContradiction;intro hn;exact hc (.inl ⟨hf,h2,.inl hn⟩)
      ·cases hb:f.headD false
       ·exact absurd (.inl ⟨hf,h2,.inr hb⟩) hc
       ·rfl
     ·cases hb:f.headD false
      ·right
       cases ho:openB s.opn x.num
       ·exact absurd (.inr ⟨h2,hb,ho⟩) hc
       ·rfl
      ·exact .inl rfl
    | succ i=>
     have:=ih i y (by simpa using hy);rw[ht] at this;exact⟨fun _=>this.1 (.inl rfl),this.2⟩
  ·intro h;rw[if_neg,z3e s xs false f.tail]
   ·intro i y hy;have:=h (i+1) y (by simpa using hy);rw[ht];exact⟨fun _=>this.1 (.inr (by omega)),this.2⟩
   ·have h0:=h 0 x rfl;rw[←hh] at h0;rintro(⟨h1,h2,h3⟩|⟨h1,h2,h3⟩)
    ·have:=h0.1 (.inl h1) h2
     rcases h3 with h3|h3
     ·exact h3 this.1
     ·rw[this.2] at h3;cases h3
    ·rcases h0.2 h1 with h4|h4
     ·rw[h2] at h4;cases h4
     ·rw[h3] at h4;cases h4
theorem za4 (s:St):∀(xs:List Ino) (first:Bool) (many:List Nat) (f:List Bool),finalM s xs first many f=true↔∀(i:Nat) (x:Ino),xs[i]? =some x→(first=false∨0<i)→(x.dir=true→many.getD i 0=1∧f.getD i false=true)∧(x.dir=false→f.getD i false=true∨(many.getD i 0=0∧openB s.opn x.num=true))
 | [],first,many,f=>by simp[finalM]
 | x :: xs, first, many, f => by
  unfold finalM;have hh:f.headD false=f.getD 0 false:=by cases f<;>rfl
  have ht:∀i,f.tail.getD i false=f.getD (i+1) false:=fun i=>by cases f<;>rfl
  have mh:many.headD 0=many.getD 0 0:=by cases many<;>rfl
  have mt:∀i,many.tail.getD i 0=many.getD (i+1) 0:=fun i=>by cases many<;>rfl
  rw[hh,mh];have ih:=za4 s xs false many.tail f.tail
  have tail_:(∀(i:Nat) (x:Ino),xs[i]? =some x→(false=false∨0<i)→(x.dir=true→many.tail.getD i 0=1∧f.tail.getD i false=true)∧(x.dir=false→f.tail.getD i false=true∨(many.tail.getD i 0=0∧openB s.opn x.num=true)))↔
    (∀(i:Nat) (y:Ino),xs[i]? =some y→(y.dir=true→many.getD (i+1) 0=1∧f.getD (i+1) false=true)∧(y.dir=false→f.getD (i+1) false=true∨(many.getD (i+1) 0=0∧openB s.opn y.num=true))):=by
   constructor
   ·intro h i y hy;have:=h i y hy (.inl rfl)
    rwa [ht,mt] at this
   ·intro h i y hy _;have:=h i y hy
    rwa [ht,mt]
  rw[tail_] at ih
  have whole:(∀(i:Nat) (y:Ino),(x::xs)[i]? =some y→(first=false∨0<i)→(y.dir=true→many.getD i 0=1∧f.getD i false=true)∧(y.dir=false→f.getD i false=true∨(many.getD i 0=0∧openB s.opn y.num=true)))↔
    (first=false→(x.dir=true→many.getD 0 0=1∧f.getD 0 false=true)∧(x.dir=false→f.getD 0 false=true∨(many.getD 0 0=0∧openB s.opn x.num=true)))∧(∀(i:Nat) (y:Ino),xs[i]? =some y→(y.dir=true→many.getD (i+1) 0=1∧f.getD (i+1) false=true)∧(y.dir=false→f.getD (i+1) false=true∨(many.getD (i+1) 0=0∧openB s.opn y.num=true))):=by
   constructor
   ·intro h;exact⟨fun h1=>h 0 x rfl (.inl h1),fun i y hy=>h (i+1) y (by simpa using hy) (.inr (by omega))⟩
   ·rintro⟨h1,h2⟩ i y hy hq;cases i with
    | zero=>
     have e:x=y:=by simpa using hy
     subst e
     rcases hq with hq|hq
     ·exact h1 hq
     ·omega
    | succ i=>exact h2 i y (by simpa using hy)
  rw[whole,←ih];clear ih whole tail_ ht mt hh mh;generalize finalM s xs false many.tail f.tail=F;generalize many.getD 0 0=m;generalize f.getD 0 false=b;generalize openB s.opn x.num=o
  by_cases h1:m=1
  ·cases first<;>cases x.dir<;>cases b<;>cases o<;>simp[h1]
  ·by_cases h0:m=0
   ·cases first<;>cases x.dir<;>cases b<;>cases o<;>simp[h0]
   ·have:0<m:=by omega
    cases first<;>cases x.dir<;>cases b<;>cases o<;>simp[h1,h0,this]
theorem zc4:∀(es:List En) (num:Int),0<linkE es num→∃e∈es,e.num=num
 | [],num,h=>absurd h (by simp[linkE])
 | e::es,num,h=>by
  unfold linkE at h
  by_cases hq:e.num=num
  ·exact⟨e,by simp,hq⟩
  ·rw[if_neg hq] at h;obtain⟨y,hy,hn⟩:=zc4 es num (by omega);exact⟨y,by simp[hy],hn⟩
theorem zc5:∀(is:List Ino) (num:Int),0<linkI is num→∃(k:Nat) (y:Ino) (e:En),is[k]? =some y∧y.dir=true∧e∈y.ents∧e.num=num
 | [],num,h=>absurd h (by simp[linkI])
 | x :: xs, num, h => by
  unfold linkI at h
  by_cases hd:x.dir=true∧0<linkE x.ents num
  ·obtain⟨e,he,hn⟩:=zc4 _ _ hd.2;exact⟨0,x,e,rfl,hd.1,he,hn⟩
  ·have:0<linkI xs num:=by
    split at h
    ·rename_i h1;have:¬0<linkE x.ents num:=fun h2=>hd ⟨h1,h2⟩
     omega
    ·omega
   obtain⟨k,y,e,h1,h2⟩:=zc5 xs num this;exact⟨k+1,y,e,by simpa using h1,h2⟩
theorem z4f:∀(made:List Int) (xs:List Ino) (p:Int),numsM made xs p=true→(∀x∈xs,p<x.num)∧xs.Pairwise (fun a b=>a.num<b.num)∧∀x∈xs,givenV made x.num=true
 | made,[],p,h=>by simp
 | made, x :: xs, p, h => by
  unfold numsM at h
  split at h
  ·cases h
  ·rename_i hc;obtain⟨h1,h2,h3⟩:=z4f made xs x.num h;have hg:givenV made x.num=true:=by cases hg:givenV made x.num;exact absurd (.inr hg) hc;rfl
   have hp:p<x.num:=by
    rcases Int.lt_or_le p x.num with h|h
    ·exact h
    ·exact absurd (.inl h) hc
   refine⟨?_,List.pairwise_cons.2 ⟨h1,h2⟩,?_⟩
   ·intro y hy
    rcases List.mem_cons.1 hy with rfl|hy
    ·exact hp
    ·have:=h1 y hy;omega
   ·intro y hy
    rcases List.mem_cons.1 hy with rfl|hy
    ·exact hg
    ·exact h3 y hy
theorem z6q {made:List Int} {is:List Ino} (h:numsP made none is=true):is.Pairwise (fun a b=>a.num<b.num):=by
 cases is with
 | nil=>exact List.Pairwise.nil
 | cons x xs=>
  obtain⟨h1,h2,_⟩:=z4f made xs x.num h;exact List.pairwise_cons.2 ⟨h1,h2⟩
theorem zhy {is:List Ino} (hp:is.Pairwise (fun a b=>a.num<b.num)) {i:Nat} {x:Ino} (hx:is[i]? =some x):atV is x.num=(i:Int):=by
 obtain⟨hi,hxe⟩:=List.getElem?_eq_some_iff.1 hx
 rcases z0u is x.num with⟨_,h2⟩|⟨k,y,h1,h2,h3,h4⟩
 ·exact absurd rfl (h2 x (List.mem_of_getElem? hx))
 ·rw[h1];obtain⟨hk,hye⟩:=List.getElem?_eq_some_iff.1 h2
  rcases Nat.lt_trichotomy k i with h|h|h
  ·have:=List.pairwise_iff_getElem.1 hp k i hk hi h;rw[hye,hxe] at this;omega
  ·rw[h]
  ·exact absurd rfl (h4 i x h hx)
theorem zex {made:List Int} (hm:madeG made=true) {n:Int} (h:givenV made n=true):n≤257:=by
 have all:∀(l:List Int),madeG l=true→∀k,l.getD k 0≤32:=by
  intro l
  induction l with
  | nil=>intro _ k;simp
  | cons x l ih =>
   intro h k;unfold madeG at h
   split at h
   ·cases h
   ·rename_i hc;cases k with
    | zero=>simp;omega
    | succ k=>simpa using ih h k
 unfold givenV at h
 split at h
 ·cases h
 ·rw[Bool.and_eq_true,decide_eq_true_eq,decide_eq_true_eq] at h;have:=all made hm ((n-2)%8).toNat;omega
theorem z7t:∀(made:List Int) (xs:List Ino) (p:Int),madeG made=true→numsM made xs p=true→p≤257→(xs.length:Int)+p≤257
 | made,[],p,_,_,hp=>by simpa using hp
 | made,x::xs,p,hm,h,hp=>by
  obtain⟨h1,_,h3⟩:=z4f made (x::xs) p h;unfold numsM at h
  split at h
  ·cases h
  ·have:=z7t made xs x.num hm h (zex hm (h3 x (by simp)));have:=h1 x (by simp);rw[List.length_cons];omega
def manyV (is:List Ino):List Nat:=is.map fun x=>linkI is x.num
theorem zg5 (s:St) (h0:rootB s.inos=true) (hn:numsP s.made none s.inos=true):finalR s s.inos true (reachV s.inos)=finalM s s.inos true (manyV s.inos) (reachV s.inos):=by
 have hp:=z6q hn
 have hroot:∃x xs,s.inos=x::xs∧x.num=1∧x.dir=true:=by
  cases e:s.inos with
  | nil=>rw[e] at h0;cases h0
  | cons x xs=>
   rw[e] at h0;unfold rootB at h0;rw[Bool.and_eq_true,decide_eq_true_eq] at h0;exact⟨x,xs,rfl,h0⟩
 obtain⟨r,rs,he,hr1,hrd⟩:=hroot
 have hmany:∀(i:Nat) (x:Ino),s.inos[i]? =some x→(manyV s.inos).getD i 0=linkI s.inos x.num:=by
  intro i x hx;unfold manyV;rw[List.getD_eq_getElem?_getD,List.getElem?_map,hx]
  rfl
 apply Bool.eq_iff_iff.2;rw[z3e,za4]
 constructor
 ·intro h i x hx hq;have hi:=h i x hx;rw[hmany i x hx];refine⟨fun hd=>hi.1 hq hd,fun hd=>?_⟩;cases hb:(reachV s.inos).getD i false
  ·right
   rcases hi.2 hd with h1|h1
   ·rw[hb] at h1;cases h1
   ·refine⟨?_,h1⟩;apply Classical.byContradiction;intro hl;obtain⟨k,y,e,hy,hyd,hey,hen⟩:=zc5 s.inos x.num (by omega)
    have hry:Reach s.inos k:=by
     rcases Nat.eq_zero_or_pos k with h2|h2
     ·subst h2;have:r=y:=by rw[he] at hy;simpa using hy
      subst this;refine .root 0 ?_;rw[←hr1];exact zhy hp hy
     ·exact(z2f _ _).1 ((h k y hy).1 (.inr h2) hyd).2
    have hrx:Reach s.inos i:=.step k i y e hry hy hyd hey (by rw[hen];exact zhy hp hx);rw[(z2f _ _).2 hrx] at hb;cases hb
  ·exact .inl rfl
 ·intro h i x hx;refine⟨fun hq hd=>?_,fun hd=>?_⟩
  ·have:=(h i x hx (by rcases hq with h1|h1;cases h1;exact .inr h1)).1 hd
   rwa [hmany i x hx] at this
  ·have hi:0<i:=by
    rcases Nat.eq_zero_or_pos i with h2|h2
    ·subst h2;have:r=x:=by rw[he] at hx;simpa using hx
     subst this;rw[hd] at hrd;cases hrd
    ·exact h2
   rcases (h i x hx (.inr hi)).2 hd with h1|h1
   ·exact .inl h1
   ·exact .inr h1.2
theorem zdn (s:St):mayV s=((decide (1≤s.made.length)&&decide (s.made.length≤8)&&madeG s.made)&&(rootB s.inos&&numsP s.made none s.inos&&shapesM s.inos s.inos)&&opensV s&&finalM s s.inos true (manyV s.inos) (reachV s.inos)):=by
 unfold mayV;rw[z5n];simp only[Option.isNone_none];cases h0:rootB s.inos
 ·simp
 cases hn:numsP s.made none s.inos
 ·simp
 rw[zg5 s h0 hn];cases hm:madeG s.made
 ·simp
 have hlen:s.inos.length≤257:=by
  cases e:s.inos with
  | nil=>simp
  | cons x xs=>
   rw[e] at h0 hn;unfold rootB at h0;rw[Bool.and_eq_true,decide_eq_true_eq] at h0;have:=z7t s.made xs x.num hm hn (by omega);rw[List.length_cons];omega
 generalize finalM s s.inos true (manyV s.inos) (reachV s.inos)=F;generalize shapesM s.inos s.inos=S;generalize opensV s=O;cases F<;>cases S<;>cases O<;>simp[hlen]
def Linked (is:List Ino):Prop:=∀x∈is,(x.dir=false→x.ents=[])∧∀e∈x.ents,0≤atV is e.num
structure FoundQ (is:List Ino) (todo:List Int) (cur:Nat) (rest:List En) (f:List Bool):Prop where
 len:f.length=is.length
 sound:∀k,f.getD k false=true→Reach is k
 queue:∀t∈todo,∃k:Nat,t=(k:Int)∧f.getD k false=true
 closed:∀(k:Nat) (x:Ino),f.getD k false=true→is[k]? =some x→x.dir=true→∀e∈x.ents,∀j:Nat,atV is e.num=(j:Int)→f.getD j false=true∨(k:Int)∈todo∨(k=cur∧e∈rest)
 root:∀j:Nat,atV is 1=(j:Int)→f.getD j false=true
theorem FoundQ.done {is:List Ino} {f:List Bool} {cur:Nat} (h:FoundQ is [] cur [] f):f=reachV is:=
 Found.same ⟨h.len,h.sound,fun t ht=>by simp at ht,fun k x hk hx hd e he j hj=>by
  rcases h.closed k x hk hx hd e he j hj with h1|h1|h1
  ·exact .inl h1
  ·simp at h1
  ·simp at h1,fun j hj=>.inl (h.root j hj)⟩
theorem FoundQ.start {is:List Ino} {x:Ino} (h0:is[0]? =some x) (hn:x.num=1):FoundQ is [0] 0 [] ((List.replicate is.length false).set 0 true):=by
 have hl:0<is.length:=(List.getElem?_eq_some_iff.1 h0).1
 have ha:atV is 1=(0:Nat):=by
  rcases z0u is 1 with⟨_,h2⟩|⟨k,y,h1,h2,h3,h4⟩
  ·exact absurd hn (h2 x (List.mem_of_getElem? h0))
  ·rcases Nat.eq_zero_or_pos k with h|h
   ·rw[h1,h]
   ·exact absurd hn (h4 0 x h h0)
 have hf:∀k,((List.replicate is.length false).set 0 true).getD k false=true→k=0:=fun k hk=>by
  rw[z1v _ 0 k (by simpa using hl)] at hk
  split at hk
  ·assumption
  ·rw[List.getD_eq_getElem?_getD,List.getElem?_replicate] at hk
   split at hk<;>cases hk
 have hf0:((List.replicate is.length false).set 0 true).getD 0 false=true:=by rw[z1v _ 0 0 (by simpa using hl),if_pos rfl]
 refine⟨by simp,fun k hk=>?_,fun t ht=>?_,fun k y hk hy hd e he j hj=>?_,fun j hj=>?_⟩
 ·rw[hf k hk];exact .root 0 ha
 ·have:t=0:=by simpa using ht
  exact⟨0,this,hf0⟩
 ·rw[hf k hk];exact .inr (.inl (by simp))
 ·have:j=0:=by rw[ha] at hj;omega
  rw[this];exact hf0
theorem FoundQ.take {is:List Ino} {t:Int} {ts:List Int} {f:List Bool} {c:Nat} (h:FoundQ is (t::ts) c [] f):∃(k:Nat) (x:Ino),t=(k:Int)∧is[k]? =some x∧f.getD k false=true∧FoundQ is ts k x.ents f:=by
 obtain⟨k,rfl,hk⟩:=h.queue t (by simp)
 have hkl:k<is.length:=by
  rw[←h.len];apply Classical.byContradiction;intro hn;rw[List.getD_eq_getElem?_getD,List.getElem?_eq_none (by omega)] at hk;cases hk
 refine⟨k,is[k],rfl,List.getElem?_eq_getElem hkl,hk,⟨h.len,h.sound,fun u hu=>h.queue u (by simp[hu]),fun i y hi hy hd e he j hj=>?_,h.root⟩⟩
 rcases h.closed i y hi hy hd e he j hj with h1|h1|h1
 ·exact .inl h1
 ·rcases List.mem_cons.1 h1 with h2|h2
  ·have e1:i=k:=by omega
   subst e1;rw[List.getElem?_eq_getElem hkl] at hy;have:is[i]=y:=Option.some.inj hy;rw[this];exact .inr (.inr ⟨rfl,he⟩)
  ·exact .inr (.inl h2)
 ·simp at h1
theorem FoundQ.old {is:List Ino} {ts:List Int} {k j:Nat} {e:En} {es:List En} {f:List Bool} (h:FoundQ is ts k (e::es) f) (hj:atV is e.num=(j:Int)) (hf:f.getD j false=true):FoundQ is ts k es f:=by
 refine⟨h.len,h.sound,h.queue,fun i y hi hy hd e2 he i2 hi2=>?_,h.root⟩
 rcases h.closed i y hi hy hd e2 he i2 hi2 with h1|h1|⟨h1,h2⟩
 ·exact .inl h1
 ·exact .inr (.inl h1)
 ·rcases List.mem_cons.1 h2 with h3|h3
  ·subst h3;have:i2=j:=by omega
   rw[this];exact .inl hf
  ·exact .inr (.inr ⟨h1,h3⟩)
theorem FoundQ.new {is:List Ino} {ts:List Int} {k j:Nat} {x:Ino} {e:En} {es:List En} {f:List Bool} (h:FoundQ is ts k (e::es) f) (hk:f.getD k false=true) (hx:is[k]? =some x) (hd:x.dir=true) (he:e∈x.ents) (hj:atV is e.num=(j:Int)):
  FoundQ is (ts++[(j:Int)]) k es (f.set j true):=by
 have hjl:j<f.length:=by
  rw[h.len];obtain⟨y,hy,_⟩:=z7d hj;exact(List.getElem?_eq_some_iff.1 hy).1
 have old:∀i,f.getD i false=true→(f.set j true).getD i false=true:=fun i hi=>by rw[z1v f j i hjl];split;rfl;exact hi
 have new:(f.set j true).getD j false=true:=by rw[z1v f j j hjl,if_pos rfl]
 refine⟨by rw[List.length_set];exact h.len,fun i hi=>?_,fun t ht=>?_,fun i y hi hy hd2 e2 he2 i2 hi2=>?_,fun i hi=>old i (h.root i hi)⟩
 ·rw[z1v f j i hjl] at hi
  by_cases e1:i=j
  ·subst e1;exact .step k i x e (h.sound k hk) hx hd he hj
  ·rw[if_neg e1] at hi;exact h.sound i hi
 ·rcases List.mem_append.1 ht with h1|h1
  ·obtain⟨i,e1,e2⟩:=h.queue t h1;exact⟨i,e1,old i e2⟩
  ·exact⟨j,by simpa using h1,new⟩
 ·by_cases e1:i=j
  ·subst e1;exact .inr (.inl (by simp))
  ·rw[z1v f j i hjl,if_neg e1] at hi
   rcases h.closed i y hi hy hd2 e2 he2 i2 hi2 with h1|h1|⟨h1,h2⟩
   ·exact .inl (old _ h1)
   ·exact .inr (.inl (List.mem_append.2 (.inl h1)))
   ·rcases List.mem_cons.1 h2 with h3|h3
    ·subst h3;have:i2=j:=by omega
     rw[this];exact .inl new
    ·exact .inr (.inr ⟨h1,h3⟩)
def unF:List Bool→Nat
 | []=>0
 | b::f=>(if b then 0 else 1)+unF f
theorem zko:∀f:List Bool,unF f≤f.length
 | []=>Nat.le_refl _
 | b::f=>by
  have:=zko f;unfold unF;rw[List.length_cons]
  split<;>omega
theorem zhz:∀(f:List Bool) (k:Nat),k<f.length→f.getD k false=false→unF f=unF (f.set k true)+1
 | [],_,h,_=>by simp at h
 | b::f,0,_,h=>by
  have:b=false:=by simpa using h
  subst this
  show 1+unF f=0+unF f+1;omega
 | b::f,k+1,h,h2=>by
  have:=zhz f k (by simpa using h) (by simpa using h2)
  show(if b=true then 0 else 1)+unF f=(if b=true then 0 else 1)+unF (f.set k true)+1;omega
def partL (is:List Ino) (i q:Nat) (num:Int):Nat:=linkI (is.take i) num+(match is[i]? with|none=>0|some x=>linkE (x.ents.take q) num)
theorem zg6 (es:List En) (q:Nat) (e:En) (num:Int) (h:es[q]? =some e):linkE (es.take (q+1)) num=linkE (es.take q) num+if e.num=num then 1 else 0:=by
 induction es generalizing q with
 | nil=>simp at h
 | cons x xs ih =>
  cases q with
  | zero=>
   have:x=e:=by simpa using h
   subst this;simp[linkE]
  | succ q=>
   have:=ih q (by simpa using h);simp only[List.take_succ_cons,linkE];rw[this];omega
theorem zg7 (is:List Ino) (i:Nat) (x:Ino) (num:Int) (h:is[i]? =some x):linkI (is.take (i+1)) num=linkI (is.take i) num+if x.dir then linkE x.ents num else 0:=by
 induction is generalizing i with
 | nil=>simp at h
 | cons y ys ih =>
  cases i with
  | zero=>
   have:y=x:=by simpa using h
   subst this;simp[linkI]
  | succ i=>
   have:=ih i (by simpa using h);simp only[List.take_succ_cons,linkI];rw[this];omega
theorem zg8 (is:List Ino) (num:Int):partL is 0 0 num=0:=by
 unfold partL;cases is with
 | nil=>rfl
 | cons x xs=>simp[linkI,linkE]
theorem zdo {is:List Ino} {i q:Nat} {x:Ino} {e:En} (hx:is[i]? =some x) (he:x.ents[q]? =some e) (num:Int):partL is i (q+1) num=partL is i q num+if e.num=num then 1 else 0:=by
 unfold partL;rw[hx];simp only;rw[zg6 _ _ _ _ he];omega
theorem zg9 {is:List Ino} (hl:Linked is) {i q:Nat} {x:Ino} (hx:is[i]? =some x) (hq:x.ents.length≤q) (num:Int):partL is (i+1) 0 num=partL is i q num:=by
 unfold partL;rw[hx,zg7 _ _ _ _ hx];simp only;rw[List.take_of_length_le hq]
 have h0:(match is[i+1]? with|none=>0|some x=>linkE (x.ents.take 0) num)=0:=by
  cases is[i+1]? with
  | none=>rfl
  | some y=>simp[linkE]
 rw[h0];cases hd:x.dir
 ·rw[(hl x (List.mem_of_getElem? hx)).1 hd];simp[linkE]
 ·simp
theorem zi0 {is:List Ino} {i:Nat} (h:is.length≤i) (num:Int):partL is i 0 num=linkI is num:=by
 unfold partL;rw[List.take_of_length_le h,List.getElem?_eq_none h];simp
theorem zb5:∀(es:List En) (num:Int),linkE es num≤es.length
 | [],_=>Nat.le_refl _
 | e::es,num=>by
  have:=zb5 es num;unfold linkE;rw[List.length_cons]
  split<;>omega
theorem z7u:∀(is:List Ino) (num:Int),linkI is num≤bulkE is
 | [],_=>Nat.le_refl _
 | x::xs,num=>by
  have h1:=z7u xs num;have h2:=zb5 x.ents num;have h3:bulkE (x::xs)=x.ents.length+bulkE xs:=rfl;unfold linkI;rw[h3]
  split<;>omega
theorem zga (is:List Ino) (i:Nat) (x:Ino) (h:is[i]? =some x):bulkE (is.take i)+x.ents.length≤bulkE is:=by
 induction is generalizing i with
 | nil=>simp at h
 | cons y ys ih =>
  have h3:bulkE (y::ys)=y.ents.length+bulkE ys:=rfl;cases i with
  | zero=>
   have:y=x:=by simpa using h
   subst this;rw[h3,List.take_zero];have:bulkE []=0:=rfl;omega
  | succ i=>
   have:=ih i (by simpa using h);rw[List.take_succ_cons,h3];have h4:bulkE (y::ys.take i)=y.ents.length+bulkE (ys.take i):=rfl;omega
theorem zjo (is:List Ino) (i q:Nat) (num:Int):partL is i q num≤bulkE is:=by
 unfold partL;cases h:is[i]? with
 | none=>
  have:is.length≤i:=List.getElem?_eq_none_iff.1 h;rw[List.take_of_length_le this];have:=z7u is num;simp only;omega
 | some x=>
  have h1:=zga is i x h;have h2:=z7u (is.take i) num;have h3:=zb5 (x.ents.take q) num;have h4:(x.ents.take q).length≤x.ents.length:=by simp;omega
  simp only;omega
end Go.Proofs.YtmmpkfcdfcldlaaGreat
namespace Go.Proofs.YtmmpkfcdfcldlaaGreat
open Lib (hid)
open Go.RowKit
structure InoOk (x:Ino):Prop where
 num:0≤x.num∧x.num≤1099511627776
 data:x.data.size≤1099511627776
 ents:x.ents.length≤1099511627776∧∀e∈x.ents,0≤e.num∧e.num≤1099511627776∧e.name.size≤1099511627776
set_option maxRecDepth 100000 in
set_option maxHeartbeats 8000000 in
theorem zdp (p:Nat) (s:St) (es:List En) (E:Option Addr) (m2 d2:Nat) (w:World) (h:PtrAt w p s) (hr:RiseI s.inos) (hE:EntsAt none w E m2 es) (hm2:m2≤1099511627776) (htx:∀e∈es,e.name.size≤140737488355328):
  Calls Tryz.prog 91 #[.pointer (some ⟨p,0,.none⟩),.slice E m2 d2] w fun e w'=>e=.returned (.bool (entsV s.inos es))∧Below w.heap.size w w':=by
 obtain⟨R,hR⟩:∃R,entsV s.inos es=R:=⟨_,rfl⟩;rw[hR];unfold entsV at hR;obtain⟨V,hV,hmany,hal3⟩:=zji w 153;have HP:=hid h;have HRI:=hid hr;have HE:=hid hE;have HAL3:=hid hal3;have HR:=hid hR;have HTX:=hid htx;have HMY:=hid hmany;clear h hr hE hal3 hR htx hmany
 go_enter Tryz.func91,Tryz.ntmps91
 go_wp2_with fail;clear hV
 go_loopw [11] (fun i wr=>∃(k:Nat) (f:Nat→Nat),i=.int .i64 k∧k≤m2∧Below w.heap.size w wr∧ManyT wr w.heap.size f∧(∀j,f j≤k)∧entsG s.inos (es.drop k) (prevN es k) f=R) (fun i _=>m2-(intOf i).toNat)
 case atStart=>exact⟨0,fun _=>0,rfl,by omega,HAL3.out,HMY.out,fun _=>Nat.le_refl _,HR.out⟩
 case round =>
  obtain⟨k,f,rfl,hk,hbel,hmy,hfk,hc⟩:=hrel;have HB:=hid hbel;have HM:=hid hmy;have HF:=hid hfk;have HPr:=hid (HP.out.below hbel);have HEr:=hid (HE.out.below hbel);clear hbel hmy hfk
  by_cases hlt:k<m2
  ·obtain⟨g,off,y,rfl,hg,hy,hd,hmem,e0,e1⟩:=HEr.out.get k hlt;rw[hd,entsG] at hc;have hsz:=HTX.out y hmem;have k0:(0:Int)≤(k:Int):=by omega
   have k1:(k:Int)<(m2:Int):=by omega
   obtain⟨BD,hBD⟩:∃BD,entBad s.inos (prevN es k) y=BD:=⟨_,rfl⟩;rw[hBD] at hc;have HBD:=hid hBD;have HC:=hid hc;have HY:=hid hy;clear hBD;clear hc hd hmem hy;obtain⟨V2,hV2,v0,v1,hal4,hlt4⟩:=z8m wr y.name y.num;have HAL4:=hid hal4;have HPV:=hid (HPr.out.below hal4);have HEV:=hid (HEr.out.below hal4);clear hal4;go_upto_region 5 with fail
   have hx:∀(X:Ext V2) (p:Addr),(V2.cell? p).isSome=true→X.w.cell? p=V2.cell? p:=fun X p h=>X.cell p h
   clear hV2 e0 e1;obtain⟨CK,hCK⟩:∃CK,mayL y.name.data.toList=CK:=⟨_,rfl⟩;have HCK:=hid hCK;obtain⟨FD,hFD⟩:∃FD,atV s.inos y.num=FD:=⟨_,rfl⟩;have HFD:=hid hFD
   have hbd:BD=(!CK||(match prevN es k with|none=>false|some q=>!ltN q y.name)||decide (y.num=1)||decide (FD<0)):=by
    rw[←HBD.out,←hCK,←hFD];unfold entBad chkB mayL;cases hz:checkL y.name.data.toList<;>rfl
   have HBB:=hid hbd;clear hCK hFD hbd
   go_cut [46] (fun c wx=>c=.bool BD∧∃X:Ext V2,wx=X.w)
   case first=>
    obtain⟨N1,hN1⟩:∃N1,(y.num==1)=N1:=⟨_,rfl⟩;have hN1':decide (y.num=1)=N1:=by rw[←hN1];rfl
    have HN1:=hid hN1';obtain⟨F0,hF0⟩:∃F0,decide (FD<0)=F0:=⟨_,rfl⟩;have HF0:=hid hF0
    by_cases hk0:k=0
    ·have q1:decide ((0:Int)<(k:Int))=false:=by rw[decide_eq_false_iff_not];omega
     have q1n:decide (0<k)=false:=by rw[decide_eq_false_iff_not];omega
     have hp:prevN es k=none:=if_pos hk0;have HBC:=HBB.out;rw[hp,HN1.out,HF0.out] at HBC;have HBX:=hid HBC;clear HBC hp hk0
     cases CK<;>cases N1<;>(
      refine wre ?_
      repeat (go_big_quiet_step (first|(go_at_call 134;rename_i X;exact Calls.ext_of (by have:=zhm y.name X.w hsz;rw[HCK.out] at this;exact this))|(go_at_call 92;rename_i X;exact Calls.ext_of (by have:=z1r p s y.num X.w (HPV.out.below X.bel) HRI.out;rw[HFD.out] at this;exact this))))
      refine wpQuiet_nil ?_;rintro w7 ⟨X,rfl⟩;go_wp2_with fail;go_meet;exact⟨congrArg Value.bool (by rw[HBX.out];simp),X,rfl⟩)
    ·obtain⟨j,rfl⟩:∃j,k=j+1:=⟨k-1,by omega⟩;have q1:decide ((0:Int)<((j+1:Nat):Int))=true:=by rw[decide_eq_true_eq];omega
     have q1b:decide ((0:Int)<(j:Int)+1)=true:=by rw[decide_eq_true_eq];omega
     obtain⟨g',off',y',hA',hg',hy',_,hmem',f0,f1⟩:=HEV.out.get j (by omega);injection hA' with hA'
     injection hA' with hA1 hA2
     subst hA1 hA2;have hp:prevN es (j+1)=some y'.name:=by unfold prevN;rw[if_neg (by omega),Nat.add_sub_cancel,hy'];rfl
     have j0:(0:Int)≤(j:Int):=by omega
     have j1:(j:Int)<(m2:Int):=by omega
     have jw:IntKind.i64.wrap ((j:Int)+1-1)=(j:Int):=by rw[IntKind.wrap_i64];omega
     obtain⟨LT,hLT⟩:∃LT,Op.bytesLess y'.name.toList y.name.toList=LT:=⟨_,rfl⟩;have hlt2:ltN y'.name y.name=LT:=by unfold ltN;rw[←hLT,z7f,ByteArray.toList_eq,ByteArray.toList_eq]
     have HBC:=HBB.out;rw[hp,HN1.out,HF0.out] at HBC;dsimp only at HBC;rw[hlt2] at HBC;have HBX:=hid HBC;clear HBC hp hy' hmem' hk0 hlt2
     cases CK<;>cases LT<;>cases N1<;>(
      refine wre ?_
      repeat (go_big_quiet_step (first|(go_at_call 134;rename_i X;exact Calls.ext_of (by have:=zhm y.name X.w hsz;rw[HCK.out] at this;exact this))|(go_at_call 92;rename_i X;exact Calls.ext_of (by have:=z1r p s y.num X.w (HPV.out.below X.bel) HRI.out;rw[HFD.out] at this;exact this))))
      refine wpQuiet_nil ?_;rintro w7 ⟨X,rfl⟩;go_wp2_with fail;go_meet;exact⟨congrArg Value.bool (by rw[HBX.out];simp),X,rfl⟩)
   case rest=>
    obtain⟨rfl,X,rfl⟩:=hcut;generalize hZe:X.w=Z;have hZ:=hZe▸X.bel;clear hZe X;have hbx:=Cv.next HAL4.out hZ;have e0:=(hZ.cell (p:=⟨wr.heap.size,0,.none⟩) hlt4).trans v0;have HMZ:=hid (HM.out.below hbx);have HWZ:=hid (Cv.next HB.out hbx);clear hx v0 v1 hbx hZ HBB;cases BD;rotate_left
    ·have hr:=HC.out;rw[if_pos rfl] at hr;have HR2:=hid hr;clear hr;go_wp2_with fail;go_ret;exact⟨Cv.ret_bool HR2.out,HWZ.out⟩
    ·have hr:=HC.out;rw[if_neg (by simp)] at hr;obtain⟨b,hb⟩:∃b,bktB y.name=b:=⟨_,rfl⟩;rw[hb] at hr;have hb8:b<8:=by rw[←hb];exact zkt _
     have HBK:=hid hb;have HR2:=hid hr;clear hr hb;go_wp2_with fail;refine(z5j y.name _ (Nat.le_trans hsz (by unfold maxLen;omega))).mono ?_;rintro e w2 ⟨rfl,hb2⟩;rw[HBK.out];have hbx:=hb2;have HMZ2:=hid (HMZ.out.below hb2);have HWZ2:=hid (Cv.next HWZ.out hb2);have hfb:=HF.out b;obtain⟨cb,fz⟩:=HMZ2.out.get b hb8;have b0:(0:Int)≤(b:Int):=by omega
     have b8:(b:Int)<8:=by omega
     have wf:IntKind.i64.wrap ((f b:Int)+1)=(f b:Int)+1:=by rw[IntKind.wrap_i64];omega
     clear hbx hb2 e0
     by_cases h4:4<f b+1
     ·have hr:=HR2.out;rw[if_pos h4] at hr;have HR3:=hid hr;have q4:decide ((4:Int)<(f b:Int)+1)=true:=by simp;omega
      clear hr;go_wp2_with fail;go_ret;exact⟨Cv.ret_bool HR3.out,HWZ2.out.setCell (Nat.le_refl _) _⟩
     ·have hr:=HR2.out;rw[if_neg h4] at hr;have HR3:=hid hr;have q4:decide ((4:Int)<(f b:Int)+1)=false:=by simp;omega
      clear hr;go_wp2_with fail;go_roundw
      case rel=>exact⟨k+1,fun j=>if j=b then f j+1 else f j,by go_num,by omega,HWZ2.out.setCell (Nat.le_refl _) _,HMZ2.out.set b hb8,fun j=>by have:=HF.out j;simp only;split<;>omega,by
       have e:prevN es (k+1)=some y.name:=by unfold prevN;rw[if_neg (by omega),Nat.add_sub_cancel,HY.out];rfl
       rw[e];exact HR3.out⟩
      case measure=>simp[intOf];omega
  ·have:es.drop k=[]:=List.drop_eq_nil_of_le (by have:=HEr.out.1;omega);rw[this,entsG] at hc;have HC:=hid hc;clear hc this;go_wp2_with fail;go_ret;exact⟨Cv.ret_bool HC.out,HB.out⟩
end Go.Proofs.YtmmpkfcdfcldlaaGreat
