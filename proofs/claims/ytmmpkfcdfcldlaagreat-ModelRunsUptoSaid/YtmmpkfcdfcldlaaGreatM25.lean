/- Parts of the proof, side by side: Good, Deep, Deep2, Small, DoOk, DoOk2. -/
import Derived.Test.YtmmpkfcdfcldlaaGreatM11
import Derived.Test.YtmmpkfcdfcldlaaGreatM16
import Derived.Test.YtmmpkfcdfcldlaaGreatM02
import Derived.Test.YtmmpkfcdfcldlaaGreatM24
set_option linter.unusedVariables false
set_option linter.unusedSimpArgs false
namespace Go.Proofs.YtmmpkfcdfcldlaaGreat
structure Good (s:St):Prop where
 m1:1≤s.made.length
 m8:s.made.length≤8
 mr:∀m∈s.made,0≤m∧m≤32
 root:∃x,s.inos[0]? =some x∧x.num=1∧x.dir=true
 rise:s.inos.Pairwise (fun a b=>a.num<b.num)
 given:∀(i:Nat) (x:Ino),0<i→s.inos[i]? =some x→givenV s.made x.num=true
 dirs:∀x∈s.inos,x.dir=true→x.data.size=0∧entsV s.inos x.ents=true
 files:∀x∈s.inos,x.dir=false→x.ents=[]∧x.data.size≤256
 opn:opensV s=true
 one:∀(i:Nat) (x:Ino),0<i→s.inos[i]? =some x→x.dir=true→linkI s.inos x.num=1∧Reach s.inos i
 has:∀(i:Nat) (x:Ino),s.inos[i]? =some x→x.dir=false→Reach s.inos i∨openB s.opn x.num=true
theorem z6s:∀(l:List Int),madeG l=true↔∀m∈l,0≤m∧m≤32
 | []=>by simp[madeG]
 | x :: xs => by
  unfold madeG
  split
  ·rename_i h
   constructor
   ·intro h2;cases h2
   ·intro h2;have:=h2 x List.mem_cons_self;omega
  ·rename_i h;rw[z6s xs]
   constructor
   ·intro h2 m hm
    rcases List.mem_cons.1 hm with rfl|hm
    ·omega
    ·exact h2 m hm
   ·intro h2 m hm;exact h2 m (List.mem_cons_of_mem _ hm)
theorem z5z (is:List Ino):∀(xs:List Ino),shapesM is xs=true↔∀x∈xs,(x.dir=true→x.data.size=0∧entsV is x.ents=true)∧(x.dir=false→x.ents=[]∧x.data.size≤256)
 | []=>by simp[shapesM]
 | x :: xs => by
  have ih:=z5z is xs;unfold shapesM;rw[List.forall_mem_cons,←ih];cases hd:x.dir
  ·rw[if_neg (by decide)]
   split
   ·rename_i h
    constructor
    ·intro h2;cases h2
    ·intro h2;have:=h2.1.2 rfl
     rcases h with h|h
     ·exact absurd this.1 h
     ·omega
   ·rename_i h
    constructor
    ·intro h2;refine⟨⟨(fun h=>by cases h),fun _=>⟨?_,?_⟩⟩,h2⟩
     ·exact Classical.byContradiction fun h3=>h (.inl h3)
     ·exact Nat.le_of_not_lt fun h3=>h (.inr h3)
    ·intro h2;exact h2.2
  ·rw [if_pos rfl]
   split
   ·rename_i h
    constructor
    ·intro h2;cases h2
    ·intro h2;have:=h2.1.1 rfl
     rcases h with h|h
     ·exact absurd this.1 h
     ·rw[this.2] at h;cases h
   ·rename_i h
    constructor
    ·intro h2;refine⟨⟨fun _=>⟨?_,?_⟩,(fun h=>by cases h)⟩,h2⟩
     ·exact Classical.byContradiction fun h3=>h (.inl h3)
     ·cases h4:entsV is x.ents
      ·exact absurd (.inr h4) h
      ·rfl
    ·intro h2;exact h2.2
theorem zfl (made:List Int):∀(xs:List Ino) (p:Int),(∀x∈xs,p<x.num)→xs.Pairwise (fun a b=>a.num<b.num)→(∀x∈xs,givenV made x.num=true)→numsM made xs p=true
 | [],_,_,_,_=>rfl
 | x::xs,p,h1,h2,h3=>by
  rw[List.pairwise_cons] at h2;have hx:=h1 x List.mem_cons_self;have hg:=h3 x List.mem_cons_self;unfold numsM;have ih:=zfl made xs x.num h2.1 h2.2 (fun y hy=>h3 y (List.mem_cons_of_mem _ hy));simp[ih,hg]
  try omega
theorem z1t (s:St):mayV s=true↔Good s:=by
 have hsplit:=z5t s s.inos none (reachV s.inos)
 constructor
 ·intro h;unfold mayV at h;simp only[Bool.and_eq_true,decide_eq_true_eq] at h;obtain⟨⟨⟨⟨⟨⟨h1,h8⟩,hroot⟩,hopn⟩,hmade⟩,hlen⟩,hinos⟩:=h;rw[hsplit,Bool.and_eq_true,Bool.and_eq_true] at hinos;obtain⟨hn,hsh,hfin⟩:=hinos;obtain⟨is,op,md⟩:=s;cases is with
  | nil=>simp[rootB] at hroot
  | cons x xs =>
   simp only[rootB,Bool.and_eq_true,decide_eq_true_eq] at hroot;have hn0:=hn;rw[z7j,Bool.and_eq_true] at hn;obtain⟨p1,p2,p3⟩:=z4g _ _ _ hn.2;have hshape:=(z5z _ _).1 hsh;have hf:=(z3f _ _ _ _).1 hfin;refine⟨h1,h8,(z6s _).1 hmade,⟨x,rfl,hroot.1,hroot.2⟩,?_,?_,fun y hy hd=>(hshape y hy).1 hd,fun y hy hd=>(hshape y hy).2 hd,hopn,?_,?_⟩
   ·exact z7k hn0
   ·intro i y hi hy;cases i with
    | zero=>omega
    | succ i=>exact p3 y (List.mem_of_getElem? hy)
   ·intro i y hi hy hd;have:=(hf i y hy).1 (.inr hi) hd;exact⟨this.1,(z2h _ _).1 this.2⟩
   ·intro i y hy hd
    rcases (hf i y hy).2 hd with h|h
    ·exact .inl ((z2h _ _).1 h)
    ·exact .inr h
 ·intro h;obtain⟨is,op,md⟩:=s;obtain⟨x0,hx0,hn0,hd0⟩:=h.root;cases is with
  | nil=>simp at hx0
  | cons x xs =>
   have ex:x=x0:=by simpa using hx0
   subst ex;have hrise:=h.rise;rw[List.pairwise_cons] at hrise
   have hnm:numsM md xs x.num=true:=zfl md xs x.num hrise.1 hrise.2 (fun y hy=>by
    obtain⟨i,hi⟩:=List.getElem?_of_mem hy;exact h.given (i+1) y (by omega) hi)
   have hnp:numsP md none (x::xs)=true:=by
    rw[z7j,hnm];simp[badNum]
   have hlen:=z8u md xs x.num ((z6s _).2 h.mr) hnm (by rw[hn0];decide);have hsh:shapesM (x::xs) (x::xs)=true:=(z5z _ _).2 fun y hy=>⟨fun hd=>h.dirs y hy hd,fun hd=>h.files y hy hd⟩
   have hfin:finalR ⟨x::xs,op,md⟩ (x::xs) true (reachV (x::xs))=true:=by
    rw[z3f];intro i y hy;refine⟨fun hi hd=>?_,fun hd=>?_⟩
    ·have:=h.one i y (by rcases hi with hi|hi;cases hi;exact hi) hy hd;exact⟨this.1,(z2h _ _).2 this.2⟩
    ·rcases h.has i y hy hd with h3|h3
     ·exact .inl ((z2h _ _).2 h3)
     ·exact .inr h3
   unfold mayV;simp only[Bool.and_eq_true,decide_eq_true_eq];refine⟨⟨⟨⟨⟨⟨h.m1,h.m8⟩,?_⟩,h.opn⟩,(z6s _).2 h.mr⟩,?_⟩,?_⟩
   ·simp[rootB,hn0,hd0]
   ·rw[List.length_cons];omega
   ·rw[hsplit,Bool.and_eq_true,Bool.and_eq_true];exact⟨hnp,hsh,hfin⟩
inductive Lev (is:List Ino):Nat→Nat→Prop where
 | root:Lev is 0 0
 | step {k i j:Nat} {x:Ino} {e:En}:Lev is k i→is[i]? =some x→x.dir=true→e∈x.ents→atV is e.num=(j:Int)→Lev is (k+1) j
theorem zd4 (is:List Ino):∀(es:List En) (p:Option ByteArray) (many:Nat→Nat),entsG is es p many=true→∀e∈es,e.num≠1∧0≤atV is e.num
 | [],_,_,_,e,he=>by simp at he
 | y :: es, p, many, h, e, he => by
  unfold entsG at h
  split at h
  ·cases h
  ·rename_i h1
   split at h
   ·cases h
   ·rcases List.mem_cons.1 he with rfl|he
    ·unfold entBad at h1;simp only[Bool.or_eq_true,decide_eq_true_eq,not_or] at h1;exact⟨h1.1.2,by omega⟩
    ·exact zd4 is es _ _ h e he
theorem zd5 {es:List En} {e:En} (h:e∈es):1≤linkE es e.num:=by
 induction es with
 | nil=>simp at h
 | cons y ys ih=>
  unfold linkE
  rcases List.mem_cons.1 h with rfl|h
  ·rw[if_pos rfl];omega
  ·have:=ih h;omega
theorem zfm:∀(is:List Ino) (i:Nat) (x:Ino) (num:Int),is[i]? =some x→x.dir=true→linkE x.ents num≤linkI is num
 | [],i,x,num,h,_=>by simp at h
 | y::ys,0,x,num,h,hd=>by
  have:y=x:=by simpa using h
  subst this;unfold linkI;rw[hd,if_pos rfl];omega
 | y::ys,i+1,x,num,h,hd=>by
  have:=zfm ys i x num (by simpa using h) hd;unfold linkI;omega
theorem za1:∀(is:List Ino) (i j:Nat) (x y:Ino) (num:Int),i<j→is[i]? =some x→is[j]? =some y→x.dir=true→y.dir=true→linkE x.ents num+linkE y.ents num≤linkI is num
 | [],i,j,x,y,num,_,h,_,_,_=>by simp at h
 | z::zs,0,j+1,x,y,num,_,h,h2,hd,hd2=>by
  have:z=x:=by simpa using h
  subst this;have:=zfm zs j y num (by simpa using h2) hd2;unfold linkI;rw[hd,if_pos rfl];omega
 | z::zs,i+1,j+1,x,y,num,hij,h,h2,hd,hd2=>by
  have:=za1 zs i j x y num (by omega) (by simpa using h) (by simpa using h2) hd hd2;unfold linkI;omega
theorem Good.idx {s:St} (h:Good s) {i:Nat} {x:Ino} (hx:s.inos[i]? =some x):atV s.inos x.num=(i:Int):=zig h.rise hx
theorem Good.parent {s:St} (h:Good s) {i j k:Nat} {x y z:Ino} {e e':En} (hk:0<k) (hz:s.inos[k]? =some z) (hzd:z.dir=true) (hx:s.inos[i]? =some x) (hxd:x.dir=true) (he:e∈x.ents) (hen:e.num=z.num)
  (hy:s.inos[j]? =some y) (hyd:y.dir=true) (he':e'∈y.ents) (hen':e'.num=z.num):i=j:=by
 have h1:=(h.one k z hk hz hzd).1;have a1:=zd5 he;have a2:=zd5 he';rw[hen] at a1;rw[hen'] at a2
 rcases Nat.lt_trichotomy i j with hij|hij|hij
 ·have:=za1 _ i j x y z.num hij hx hy hxd hyd;omega
 ·exact hij
 ·have:=za1 _ j i y x z.num hij hy hx hyd hxd;omega
theorem Good.ent {s:St} (h:Good s) {i:Nat} {x:Ino} {e:En} (hx:s.inos[i]? =some x) (hd:x.dir=true) (he:e∈x.ents):∃(j:Nat) (y:Ino),0<j∧s.inos[j]? =some y∧y.num=e.num∧atV s.inos e.num=(j:Int):=by
 have h1:=(h.dirs x (List.mem_of_getElem? hx) hd).2;obtain⟨h2,h3⟩:=zd4 _ _ _ _ h1 e he
 rcases z0o s.inos e.num with⟨h4,_⟩|⟨j,y,h4,h5,h6,_⟩
 ·omega
 ·refine⟨j,y,?_,h5,h6,h4⟩;obtain⟨r,hr,hrn,_⟩:=h.root
  rcases Nat.eq_zero_or_pos j with rfl|hj
  ·rw[hr] at h5;cases h5;omega
  ·exact hj
theorem Good.lev_zero {s:St} (h:Good s) {k:Nat} (hl:Lev s.inos k 0):k=0:=by
 cases hl with
 | root=>rfl
 | step hl hx hd he hj=>
  obtain⟨j,y,hj0,hy,hyn,hat⟩:=h.ent hx hd he;rw[hat] at hj;omega
theorem Good.lev_one {s:St} (h:Good s):∀(k k' i:Nat) (z:Ino),s.inos[i]? =some z→z.dir=true→Lev s.inos k i→Lev s.inos k' i→k=k'
 | 0,k',i,z,hz,hzd,h1,h2=>by
  cases h1 with
  | root=>exact(h.lev_zero h2).symm
 | k+1,0,i,z,hz,hzd,h1,h2=>by
  cases h2 with
  | root=>exact h.lev_zero h1
 | k + 1, k' + 1, i, z, hz, hzd, h1, h2 => by
  cases h1 with
  | step g1 hx hd he hj =>
   cases h2 with
   | step g2 hx2 hd2 he2 hj2=>
    obtain⟨j1,y1,hp1,hy1,hn1,ha1⟩:=h.ent hx hd he;obtain⟨j2,y2,hp2,hy2,hn2,ha2⟩:=h.ent hx2 hd2 he2;rw[ha1] at hj;rw[ha2] at hj2;have e1:j1=i:=by omega
    have e2:j2=i:=by omega
    subst e1;subst e2;rw[hz] at hy1 hy2;cases hy1;cases hy2;have e:=h.parent hp1 hz hzd hx hd he hn1.symm hx2 hd2 he2 hn2.symm;subst e;have:=h.lev_one k k' _ _ hx hd g1 g2;omega
theorem z2t:∀(n:Nat) (l:List Nat),l.Nodup→(∀x∈l,x<n)→l.length≤n
 | 0,[],_,_=>Nat.le_refl _
 | 0,x::l,_,h=>absurd (h x List.mem_cons_self) (by omega)
 | n + 1, l, hn, h => by
  by_cases hm:n∈l
  ·have h1:=List.length_erase_of_mem hm
   have h2:=z2t n (l.erase n) (hn.erase n) (fun x hx=>by
    have h3:=List.mem_of_mem_erase hx;have h4:=h x h3
    have h5:x≠n:=fun e=>by
     subst e;exact(List.Nodup.not_mem_erase hn) hx
    omega)
   have:0<l.length:=List.length_pos_of_mem hm;omega
  ·have:=z2t n l hn (fun x hx=>by
    have h4:=h x hx;have h5:x≠n:=fun e=>hm (e▸hx)
    omega)
   omega
theorem Deep.more {is:List Ino}:∀(n:Nat) (num:Int),Deep is n num→Deep is (n+1) num
 | 0,num,h=>absurd h (by intro h;exact h)
 | n+1,num,h=>fun x hx e he hd=>Deep.more n e.num (h x hx e he hd)
theorem Deep.le {is:List Ino} {n m:Nat} {num:Int} (h:Deep is n num) (hm:n≤m):Deep is m num:=by
 induction m with
 | zero=>
  have:n=0:=by omega
  subst this;exact h
 | succ m ih=>
  by_cases e:n=m+1
  ·subst e;exact h
  ·exact Deep.more _ _ (ih (by omega))
structure Way (s:St) (l:List Nat) (i:Nat):Prop where
 nodup:l.Nodup
 lt:∀j∈l,j<s.inos.length
 lev:∀j∈l,∃a z,a<l.length∧Lev s.inos a j∧s.inos[j]? =some z∧z.dir=true
 last:∃k,k+1=l.length∧Lev s.inos k i
theorem Good.deep_way {s:St} (h:Good s):∀(m:Nat) (l:List Nat) (i:Nat) (x:Ino),Way s l i→s.inos[i]? =some x→x.dir=true→m+l.length=s.inos.length+1→Deep s.inos m x.num
 | 0,l,i,x,hw,hx,hd,hm=>by
  have:=z2t _ _ hw.nodup hw.lt;omega
 | m + 1, l, i, x, hw, hx, hd, hm => by
  intro x' hx' e he hde;rw[h.idx hx,z0c,hx] at hx';cases hx';obtain⟨j,y,hj0,hy,hyn,hat⟩:=h.ent hx hd he;obtain⟨k,hk,hlk⟩:=hw.last
  have hyd:y.dir=true:=by
   unfold dirAt at hde;rw[hat,z0c,hy] at hde;exact hde
  have hlj:Lev s.inos (k+1) j:=Lev.step hlk hx hd he hat
  have hnot:j∉l:=fun hm2=>by
   obtain⟨a,z,ha,hla,hz,hzd⟩:=hw.lev j hm2;have:=h.lev_one _ _ _ _ hz hzd hla hlj;omega
  rw[←hyn];refine h.deep_way m (j::l) j y ⟨List.nodup_cons.2 ⟨hnot,hw.nodup⟩,?_,?_,⟨k+1,by rw[List.length_cons];omega,hlj⟩⟩ hy hyd (by rw[List.length_cons];omega)
  ·intro q hq
   rcases List.mem_cons.1 hq with rfl|hq
   ·exact(List.getElem?_eq_some_iff.1 hy).1
   ·exact hw.lt q hq
  ·intro q hq
   rcases List.mem_cons.1 hq with rfl|hq
   ·exact⟨k+1,y,by rw[List.length_cons];omega,hlj,hy,hyd⟩
   ·obtain⟨a,z,ha,h2⟩:=hw.lev q hq;exact⟨a,z,by rw[List.length_cons];omega,h2⟩
theorem Good.way {s:St} (h:Good s):∀(k i:Nat) (x:Ino),Lev s.inos k i→s.inos[i]? =some x→x.dir=true→∃l,Way s l i∧l.length=k+1:=by
 intro k i x hl
 induction hl generalizing x with
 | root =>
  intro hx hd;refine⟨[0],⟨List.nodup_cons.2 ⟨by simp,List.nodup_nil⟩,?_,?_,⟨0,rfl,Lev.root⟩⟩,rfl⟩
  ·intro j hj;have:j=0:=by simpa using hj
   subst this;exact(List.getElem?_eq_some_iff.1 hx).1
  ·intro j hj;have:j=0:=by simpa using hj
   subst this;exact⟨0,x,by simp,Lev.root,hx,hd⟩
 | @step k' i' j' x' e' hl' hx' hd' he' hj' ih =>
  intro hx hd;obtain⟨l,hw,hlen⟩:=ih x' hx' hd';have hlj:Lev s.inos (k'+1) j':=Lev.step hl' hx' hd' he' hj'
  have hnot:j'∉l:=fun hm2=>by
   obtain⟨a,z,ha,hla,hz,hzd⟩:=hw.lev j' hm2;have:=h.lev_one _ _ _ _ hz hzd hla hlj;omega
  refine⟨j'::l,⟨List.nodup_cons.2 ⟨hnot,hw.nodup⟩,?_,?_,⟨k'+1,by rw[List.length_cons];omega,hlj⟩⟩,by rw[List.length_cons,hlen]⟩
  ·intro q hq
   rcases List.mem_cons.1 hq with rfl|hq
   ·exact(List.getElem?_eq_some_iff.1 hx).1
   ·exact hw.lt q hq
  ·intro q hq
   rcases List.mem_cons.1 hq with rfl|hq
   ·exact⟨k'+1,x,by rw[List.length_cons];omega,hlj,hx,hd⟩
   ·obtain⟨a,z,ha,h2⟩:=hw.lev q hq;exact⟨a,z,by rw[List.length_cons];omega,h2⟩
theorem Good.root_at {s:St} (h:Good s):atV s.inos 1=((0:Nat):Int):=by
 obtain⟨r,hr,hrn,_⟩:=h.root;have:=h.idx hr;rw[hrn] at this;exact this
theorem Good.lev_of {s:St} (h:Good s) {i:Nat} (hr:Reach s.inos i):∃k,Lev s.inos k i:=by
 induction hr with
 | root k hk=>
  rw[h.root_at] at hk;have:k=0:=by omega
  subst this;exact⟨0,Lev.root⟩
 | step k j x e _ hx hd he hj ih=>
  obtain⟨k',hk'⟩:=ih;exact⟨k'+1,Lev.step hk' hx hd he hj⟩
theorem Good.deep {s:St} (h:Good s) (num:Int) (hd:dirAt s.inos num=true):Deep s.inos (1+s.inos.length) num:=by
 unfold dirAt at hd
 rcases z0o s.inos num with⟨h1,_⟩|⟨i,x,h1,hx,hxn,_⟩
 ·rw[h1] at hd;simp[inoAt] at hd
 ·rw[h1,z0c,hx] at hd;have hd2:x.dir=true:=hd
  have hr:Reach s.inos i:=by
   rcases Nat.eq_zero_or_pos i with rfl|hi
   ·exact Reach.root 0 h.root_at
   ·exact(h.one i x hi hx hd2).2
  obtain⟨k,hl⟩:=h.lev_of hr;obtain⟨l,hw,hlen⟩:=h.way k i x hl hx hd2;have hle:=z2t _ _ hw.nodup hw.lt;have:=h.deep_way (s.inos.length+1-l.length) l i x hw hx hd2 (by omega);rw[hxn] at this;exact this.le (by omega)
def sum8 (f:Nat→Nat):Nat:=f 0+f 1+f 2+f 3+f 4+f 5+f 6+f 7
theorem zko (f:Nat→Nat) (b:Nat) (hb:b<8):sum8 (fun q=>if q=b then f q+1 else f q)=sum8 f+1:=by
 have:b=0∨b=1∨b=2∨b=3∨b=4∨b=5∨b=6∨b=7:=by omega
 unfold sum8
 rcases this with rfl|rfl|rfl|rfl|rfl|rfl|rfl|rfl<;>simp<;>omega
theorem zd6 (is:List Ino):∀(es:List En) (p:Option ByteArray) (many:Nat→Nat),(∀b,b<8→many b≤4)→entsG is es p many=true→es.length+sum8 many≤32
 | [],_,many,hm,_=>by
  have:=hm 0 (by omega);have:=hm 1 (by omega);have:=hm 2 (by omega);have:=hm 3 (by omega);have:=hm 4 (by omega);have:=hm 5 (by omega);have:=hm 6 (by omega);have:=hm 7 (by omega);unfold sum8;simp;omega
 | e :: es, p, many, hm, h => by
  unfold entsG at h
  split at h
  ·cases h
  ·split at h
   ·cases h
   ·rename_i h2;have hb:bktB e.name<8:=Nat.mod_lt _ (by omega)
    have ih:=zd6 is es _ _ (fun b hb8=>by
     show(if b=bktB e.name then many b+1 else many b)≤4
     split
     ·rename_i e9;subst e9;omega
     ·exact hm b hb8) h
    have h3:=zko many (bktB e.name) hb;rw[List.length_cons];have e4:sum8 (fun b=>if b=bktB e.name then many b+1 else many b)=sum8 many+1:=h3;omega
theorem zj8 {is:List Ino} {es:List En} (h:entsV is es=true):es.length≤32:=by
 have:=zd6 is es none _ (fun _ _=>by show 0≤4;omega) h;omega
theorem zb1 (is:List Ino) (n:Nat):∀(ds:List Ds) (o:Ds),0≤o.core→0≤o.fd→o.fd<4→o.core<(n:Int)→opensG is n ds (some o)=true→(ds.length:Int)+o.core*4+o.fd+1≤4*n
 | [],o,h1,h2,h3,h4,_=>by simp;omega
 | d :: ds, o, h1, h2, h3, h4, h => by
  unfold opensG at h
  split at h
  ·cases h
  ·rename_i hb
   split at h
   ·cases h
   ·rename_i hp;unfold dsBad at hb;simp only[Bool.or_eq_true,decide_eq_true_eq,not_or] at hb;unfold dsPrev at hp;simp only[Bool.or_eq_true,Bool.and_eq_true,decide_eq_true_eq,not_or,not_and] at hp;have ih:=zb1 is n ds d (by omega) (by omega) (by omega) (by omega) h
    have h9:o.core*4+o.fd<d.core*4+d.fd:=by
     by_cases e:o.core=d.core
     ·have:=hp.2 e;omega
     ·omega
    rw[List.length_cons]
    push_cast
    omega
theorem zh0 {s:St} (h:opensV s=true) (h8:s.made.length≤8):s.opn.length≤32:=by
 unfold opensV at h;cases ho:s.opn with
 | nil=>simp
 | cons d ds =>
  rw[ho] at h;unfold opensG at h
  split at h
  ·cases h
  ·rename_i hb
   split at h
   ·cases h
   ·unfold dsBad at hb;simp only[Bool.or_eq_true,decide_eq_true_eq,not_or] at hb;have:=zb1 s.inos s.made.length ds d (by omega) (by omega) (by omega) (by omega) h;rw[List.length_cons];omega
theorem Good.len {s:St} (h:Good s):s.inos.length≤257:=by
 have h1:=(z1t s).2 h;unfold mayV at h1;simp only[Bool.and_eq_true,decide_eq_true_eq] at h1;exact h1.1.2
theorem Good.ents_len {s:St} (h:Good s) {x:Ino} (hx:x∈s.inos):x.ents.length≤32:=by
 cases hd:x.dir
 ·rw[(h.files x hx hd).1];simp
 ·exact zj8 (h.dirs x hx hd).2
theorem Good.opn_len {s:St} (h:Good s):s.opn.length≤32:=zh0 h.opn h.m8
def En1 (e:En):Prop:=e.name.size≤140737488355328∧-9223372036854775808≤e.num∧e.num≤9223372036854775807
structure Small (a b c:Nat) (s:St):Prop where
 il:s.inos.length≤a
 io:∀x∈s.inos,x.ents.length≤b∧x.data.size≤140737488355328∧(-9223372036854775808≤x.num∧x.num≤9223372036854775807)∧∀e∈x.ents,En1 e
 ol:s.opn.length≤c
 ml:s.made.length≤8
 mr:∀m∈s.made,0≤m∧m≤33
theorem zd7 (b:Nat):∀(is:List Ino),(∀x∈is,x.ents.length≤b)→bulkE is≤is.length*b
 | [],_=>by simp[bulkE]
 | x::xs,h=>by
  have h1:=h x List.mem_cons_self;have h2:=zd7 b xs (fun y hy=>h y (List.mem_cons_of_mem _ hy));have e:bulkE (x::xs)=x.ents.length+bulkE xs:=rfl;rw[e,List.length_cons,Nat.add_mul];omega
theorem Small.sized {a b c:Nat} {s:St} (h:Small a b c s) (ha:a≤1000) (hb:b≤1000) (hc:c≤1000):Sized s:=by
 refine⟨?_,fun x hx=>⟨(h.io x hx).2.1,fun e he=>((h.io x hx).2.2.2 e he).1⟩,⟨fun x hx=>⟨(h.io x hx).2.2.1.1,(h.io x hx).2.2.1.2,fun e he=>((h.io x hx).2.2.2 e he).2⟩,fun m hm=>?_⟩⟩
 ·have h1:=zd7 b s.inos (fun x hx=>(h.io x hx).1);have h2:=h.il;have h3:=h.ol;have h4:=h.ml;have h5:s.inos.length*b≤1000*1000:=Nat.mul_le_mul (by omega) hb;omega
 ·have:=h.mr m hm;omega
theorem Good.small {s:St} (h:Good s):Small 257 32 32 s:=by
 have hm:=(z1t s).2 h;have hf:=z4h hm;refine⟨h.len,fun x hx=>⟨h.ents_len hx,?_,?_,fun e he=>⟨?_,?_,?_⟩⟩,h.opn_len,h.m8,fun m hm=>?_⟩
 ·have:=(hf.data x hx).1;omega
 ·have:=hf.nums x hx;omega
 ·have:=(hf.data x hx).2 e he;omega
 ·have h1:=(hf.linked x hx).2 e he;obtain⟨y,hy,hn⟩:=z8d (is:=s.inos) (t:=e.num) (k:=(atV s.inos e.num).toNat) (by omega);have:=hf.nums y (List.mem_of_getElem? hy);omega
 ·have h1:=(hf.linked x hx).2 e he;obtain⟨y,hy,hn⟩:=z8d (is:=s.inos) (t:=e.num) (k:=(atV s.inos e.num).toNat) (by omega);have:=hf.nums y (List.mem_of_getElem? hy);omega
 ·have:=h.mr m hm;omega
theorem Small.more {a b c a' b' c':Nat} {s:St} (h:Small a b c s) (ha:a≤a') (hb:b≤b') (hc:c≤c'):Small a' b' c' s:=
 ⟨Nat.le_trans h.il ha,fun x hx=>⟨Nat.le_trans (h.io x hx).1 hb,(h.io x hx).2⟩,Nat.le_trans h.ol hc,h.ml,h.mr⟩
theorem Small.ents {a b c:Nat} {s:St} (h:Small a b c s) (dir:Int) (f:List En→List En) (hf:∀es,(f es).length≤es.length+1) (hm:∀es e,e∈f es→e∈es∨En1 e):Small a (b+1) c { s with inos:=setEnts s.inos dir f }:=by
 refine⟨by show(setEnts s.inos dir f).length≤a;unfold setEnts;rw[List.length_modify];exact h.il,fun x hx=>?_,h.ol,h.ml,h.mr⟩
 rcases z3g _ _ _ _ hx with hx|⟨z,hz,rfl⟩
 ·have:=h.io x hx;exact⟨by omega,this.2⟩
 ·have h1:=h.io z hz;refine⟨?_,h1.2.1,h1.2.2.1,fun e he=>?_⟩
  ·have:=hf z.ents
   show(f z.ents).length≤b+1;omega
  ·rcases hm _ _ he with h2|h2
   ·exact h1.2.2.2 e h2
   ·exact h2
theorem zbz:∀(es:List En) (name:ByteArray) (num:Int) (e:En),e∈putE es name num→e∈es∨e=⟨name,num⟩
 | [],name,num,e,h=>by
  have:e=⟨name,num⟩:=by simpa [putE] using h
  exact .inr this
 | y :: es, name, num, e, h => by
  unfold putE at h
  split at h
  ·rcases List.mem_cons.1 h with h|h
   ·exact .inr h
   ·exact .inl h
  ·rcases List.mem_cons.1 h with rfl|h
   ·exact .inl List.mem_cons_self
   ·rcases zbz es name num e h with h|h
    ·exact .inl (List.mem_cons_of_mem _ h)
    ·exact .inr h
theorem Small.put {a b c:Nat} {s:St} (h:Small a b c s) (dir:Int) (name:ByteArray) (num:Int) (hn:En1 ⟨name,num⟩):Small a (b+1) c { s with inos:=setEnts s.inos dir fun es=>putE es name num }:=
 h.ents dir _ (fun es=>by rw[zfa];omega) (fun es e he=>by
  rcases zbz es name num e he with h|h
  ·exact .inl h
  ·exact .inr (h▸hn))
theorem Small.dropE {a b c:Nat} {s:St} (h:Small a b c s) (dir:Int) (name:ByteArray):Small a (b+1) c { s with inos:=setEnts s.inos dir fun es=>Go.Proofs.YtmmpkfcdfcldlaaGreat.dropE es name }:=
 h.ents dir _ (fun es=>by have:=z9y es name;omega) (fun es e he=>.inl (z4j es name e he))
theorem zfn:∀(is:List Ino) (y x:Ino),x∈putI is y→x∈is∨x=y
 | [],y,x,h=>by
  have:x=y:=by simpa [putI] using h
  exact .inr this
 | z :: zs, y, x, h => by
  unfold putI at h
  split at h
  ·rcases List.mem_cons.1 h with h|h
   ·exact .inr h
   ·exact .inl h
  ·rcases List.mem_cons.1 h with rfl|h
   ·exact .inl List.mem_cons_self
   ·rcases zfn zs y x h with h|h
    ·exact .inl (List.mem_cons_of_mem _ h)
    ·exact .inr h
theorem zfo:∀(is:List Ino) (y:Ino),(putI is y).length=is.length+1
 | [],_=>rfl
 | z::zs,y=>by
  unfold putI
  split
  ·rfl
  ·rw[List.length_cons,zfo zs y,List.length_cons]
theorem Small.putI {a b c:Nat} {s:St} (h:Small a b c s) (y:Ino) (hy:y.ents=[]) (hd:y.data.size≤140737488355328) (hn: -9223372036854775808≤y.num∧y.num≤9223372036854775807):Small (a+1) b c { s with inos:=Go.Proofs.YtmmpkfcdfcldlaaGreat.putI s.inos y }:=by
 refine⟨by show(Go.Proofs.YtmmpkfcdfcldlaaGreat.putI s.inos y).length≤a+1;rw[zfo];have:=h.il;omega,fun x hx=>?_,h.ol,h.ml,h.mr⟩
 rcases zfn _ _ _ hx with hx|rfl
 ·exact h.io x hx
 ·exact⟨by rw[hy];simp,hd,hn,by rw[hy];intro e he;simp at he⟩
theorem z5g:∀(ds:List Ds) (y:Ds),(putD ds y).length=ds.length+1
 | [],_=>rfl
 | z::zs,y=>by
  unfold putD
  split
  ·rfl
  ·rw[List.length_cons,z5g zs y,List.length_cons]
theorem z8k {α:Type}:∀(l:List α) (d:α),l≠[]→l.getLastD d∈l
 | [],_,h=>absurd rfl h
 | [x],d,_=>by simp[List.getLastD]
 | x::y::l,d,_=>by
  rw[List.getLastD_cons];exact List.mem_cons_of_mem _ (z8k (y::l) x (by simp))
theorem z7p:∀(r cur:List UInt8) (out:List (List UInt8)),(∀n∈out,checkL n=0)→∀n∈(scanP r cur out).1,checkL n=0
 | [],cur,out,ho,n,hn=>by
  unfold scanP at hn
  split at hn
  ·simp at hn
  ·exact ho n hn
 | b :: r, cur, out, ho, n, hn => by
  unfold scanP at hn
  split at hn
  ·split at hn
   ·rename_i hc;refine z7p r _ _ (fun m hm=>?_) n hn
    rcases List.mem_append.1 hm with hm|hm
    ·exact ho m hm
    ·have:m=cur:=by simpa using hm
     rw[this];exact hc
   ·split at hn<;>simp at hn
  ·exact z7p r _ _ ho n hn
theorem zeg (l:List UInt8):∀n∈(parseL l).1,checkL n=0:=by
 intro n hn;unfold parseL at hn
 split at hn
 ·simp at hn
 ·split at hn
  ·simp at hn
  ·split at hn
   ·simp at hn
   ·exact z7p _ _ _ (by simp) n hn
theorem zeh {l:List UInt8} (h:checkL l=0):l.length≤12∧l≠[]:=by
 unfold checkL at h
 split at h
 ·cases h
 ·split at h
  ·cases h
  ·rename_i h1 h2;exact⟨by omega,fun e=>h2 (.inl e)⟩
theorem zkp (l:List UInt8):(txt l).data.toList=l:=rfl
theorem z2x (is:List Ino) (path:ByteArray) (h:(parentV is path).2.2=0):chkB (parentV is path).2.1=0:=by
 unfold parentV at h ⊢
 split
 ·rename_i h1;rw[if_pos h1] at h;exfalso;have h2:codeP (parseL path.data.toList).2=0:=h;unfold codeP at h2;rw[if_neg h1] at h2
  split at h2<;>omega
 ·rename_i h1;rw[if_neg h1] at h
  split
  ·rename_i h2;rw[if_pos h2] at h;exact absurd h (by show ¬(9:Int)=0;decide)
  ·rename_i h2;rw[if_neg h2] at h
   split
   ·rename_i h3;rw[if_pos h3] at h;exact absurd h h3
   ·rename_i h3;rw[if_neg h3] at h
    split
    ·rename_i h4;rw[if_pos h4] at h;exact absurd h (by show ¬(7:Int)=0;decide)
    ·show chkB (txt ((parseL path.data.toList).1.getLastD []))=0;unfold chkB;rw[zkp];exact zeg path.data.toList _ (z8k _ _ h2)
theorem z1c (is:List Ino) (path:ByteArray):(parentV is path).2.1.size≤12:=by
 by_cases h:(parentV is path).2.2=0
 ·have h1:=z2x is path h;unfold chkB at h1;have h2:=(zeh h1).1
  rwa [Array.length_toList] at h2
 ·have e:(parentV is path).2.1=txt []:=by
   revert h;unfold parentV
   split
   ·intro _;rfl
   ·split
    ·intro _;rfl
    ·split
     ·intro _;rfl
     ·split
      ·intro _;rfl
      ·intro h;exact absurd rfl h
  rw[e]
  decide
theorem Good.whole {s:St} (h:Good s):Whole s.inos:=zio ((z1t s).2 h)
theorem Good.num_range {s:St} (h:Good s) {num:Int} (hn:0≤atV s.inos num):1≤num∧num≤257:=by
 obtain⟨k,x,_,hx,hxn⟩:=z0u hn;have:=(z4h ((z1t s).2 h)).nums x (List.mem_of_getElem? hx);omega
theorem Small.dropI {a b c:Nat} {s:St} (h:Small a b c s) (num:Int):Small a b c { s with inos:=Go.Proofs.YtmmpkfcdfcldlaaGreat.dropI s.inos num }:=
 ⟨by have:=(z9z s.inos num).1;have:=h.il;show(Go.Proofs.YtmmpkfcdfcldlaaGreat.dropI s.inos num).length≤a;omega,fun x hx=>h.io x (z4i _ _ _ hx),h.ol,h.ml,h.mr⟩
theorem Small.sweep {a b c:Nat} {s:St} (h:Small a b c s) (num:Int):Small a b c (sweepV s num):=by
 unfold sweepV
 split
 ·exact h
 ·exact h.dropI num
theorem Small.opn {a b c:Nat} {s:St} (h:Small a b c s) (ds:List Ds) (hd:ds.length≤c+1):Small a b (c+1) { s with opn:=ds }:=⟨h.il,h.io,hd,h.ml,h.mr⟩
theorem Small.setData {a b c:Nat} {s:St} (h:Small a b c s) (num:Int) (d:ByteArray) (hd:d.size≤140737488355328):Small a b c { s with inos:=Go.Proofs.YtmmpkfcdfcldlaaGreat.setData s.inos num d }:=by
 refine⟨by show(Go.Proofs.YtmmpkfcdfcldlaaGreat.setData s.inos num d).length≤a;unfold Go.Proofs.YtmmpkfcdfcldlaaGreat.setData;rw[List.length_modify];exact h.il,fun x hx=>?_,h.ol,h.ml,h.mr⟩
 rcases z3g _ _ _ _ hx with hx|⟨z,hz,rfl⟩
 ·exact h.io x hx
 ·have:=h.io z hz;exact⟨this.1,hd,this.2.2⟩
theorem Small.made {a b c:Nat} {s:St} (h:Small a b c s) (xs:List Int) (hl:xs.length≤8) (hr:∀m∈xs,0≤m∧m≤33):Small a b c { s with made:=xs }:=⟨h.il,h.io,h.ol,hl,hr⟩
theorem zc0 (l:List UInt8) (o:Nat) (d:List UInt8):(layL l o d).length=max l.length (o+d.length):=by
 unfold layL;rw[List.length_append,List.length_append,List.length_take,List.length_drop,z0w];omega
theorem z5h (l:List UInt8):(txt l).size=l.length:=by
 show l.toArray.size=_;simp
theorem z7q {s:St} (h:Good s) (c:Ca) (hc0:0≤c.core) (hc1:c.core<(s.made.length:Int)):MakeSized s c∧Sized (make1V s c).1:=by
 have hs:=h.small;have hm8:=h.m8
 have hget:0≤s.made.getD c.core.toNat 0∧s.made.getD c.core.toNat 0≤32:=by
  have hlt:c.core.toNat<s.made.length:=by omega
  rw[List.getD_eq_getElem?_getD,List.getElem?_eq_getElem hlt];exact h.mr _ (List.getElem_mem hlt)
 have hset:∀m∈s.made.set c.core.toNat (s.made.getD c.core.toNat 0+1),0≤m∧m≤33:=by
  intro m hm
  rcases List.mem_or_eq_of_mem_set hm with hm|rfl
  ·have:=h.mr m hm;omega
  ·omega
 have h1:=hs.made _ (by rw[List.length_set];exact hm8) hset;have hns:=z1c s.inos c.path;have hen:En1 ⟨(parentV s.inos c.path).2.1,2+c.core+8*s.made.getD c.core.toNat 0⟩:=⟨by show(parentV s.inos c.path).2.1.size≤_;omega,by show(-9223372036854775808:Int)≤2+c.core+8*s.made.getD c.core.toNat 0;omega,by show 2+c.core+8*s.made.getD c.core.toNat 0≤9223372036854775807;omega⟩;have h2:=h1.put (parentV s.inos c.path).1 _ _ hen;have h3:=h2.putI ⟨2+c.core+8*s.made.getD c.core.toNat 0,decide (c.kind=1),[],txt []⟩ rfl (by show(txt []).size≤_;rw[z5h];simp) ⟨by show(-9223372036854775808:Int)≤2+c.core+8*s.made.getD c.core.toNat 0;omega,by show 2+c.core+8*s.made.getD c.core.toNat 0≤9223372036854775807;omega⟩
 have h4:Sized (make1V s c).1:=by
  unfold make1V
  split
  ·exact hs.sized (by omega) (by omega) (by omega)
  ·split
   ·exact hs.sized (by omega) (by omega) (by omega)
   ·split
    ·exact hs.sized (by omega) (by omega) (by omega)
    ·exact h3.sized (by omega) (by omega) (by omega)
 exact⟨⟨h1.sized (by omega) (by omega) (by omega),h2.sized (by omega) (by omega) (by omega),h4,by omega⟩,h4⟩
theorem zb2 {s:St} (h:Good s) (c:Ca) (want:Int):Sized (openedV s c want).1:=by
 have hs:=h.small;have h0:=hs.sized (by omega) (by omega) (by omega);have hp:∀y,Sized { s with opn:=putD s.opn y }:=fun y=>(hs.opn _ (by rw[z5g];have:=h.opn_len;omega)).sized (by omega) (by omega) (by omega)
 unfold openedV
 repeat (first|exact h0|exact hp _|split)
theorem z8x {s:St} (h:Good s) (c:Ca):Sized (byFdV s c).1:=by
 have hs:=h.small;have h0:=hs.sized (by omega) (by omega) (by omega);have hd:Sized (sweepV { s with opn:=dropD s.opn c.core c.fd } (fdV s.opn c.core c.fd)):=((hs.opn _ (by have:=z9a s.opn c.core c.fd;have:=h.opn_len;omega)).sweep _).sized (by omega) (by omega) (by omega)
 have hdat:∀num:Int,(dataAt s.inos num).size≤256:=by
  intro num;unfold dataAt
  rcases z0o s.inos num with⟨h1,_⟩|⟨k,x,h1,hx,_,_⟩
  ·rw[h1];show(txt []).size≤256;rw[z5h];simp
  ·rw[h1,z0c,hx];exact((z4h ((z1t s).2 h)).data x (List.mem_of_getElem? hx)).1
 unfold byFdV
 split
 ·exact h0
 split
 ·exact hd
 split
 ·split<;>exact h0
 split
 ·split
  ·exact h0
  split
  ·exact h0
  split
  ·exact h0
  ·rename_i h5 h6 h7;refine(hs.setData _ _ ?_).sized (by omega) (by omega) (by omega);rw[z5h,zc0,Array.length_toList,Array.length_toList];have:=hdat (fdV s.opn c.core c.fd);have e1:(dataAt s.inos (fdV s.opn c.core c.fd)).data.size=(dataAt s.inos (fdV s.opn c.core c.fd)).size:=rfl;have e2:c.data.data.size=c.data.size:=rfl;omega
 split
 ·split
  ·exact h0
  ·refine(hs.setData _ _ ?_).sized (by omega) (by omega) (by omega);rw[z5h,z0w];omega
 split<;>exact h0
theorem zb3 {s:St} (h:Good s) (c:Ca):Sized (linkV s c).1:=by
 have hs:=h.small;have h0:=hs.sized (by omega) (by omega) (by omega);have hns:=z1c s.inos c.path2;unfold linkV
 split
 ·exact h0
 ·rename_i hf;have hn:=h.num_range (z6d h.whole c.path (by omega));have h1:=(hs.put (parentV s.inos c.path2).1 (parentV s.inos c.path2).2.1 (findV s.inos c.path).1 ⟨by show(parentV s.inos c.path2).2.1.size≤_;omega,by show(-9223372036854775808:Int)≤(findV s.inos c.path).1;omega,by show(findV s.inos c.path).1≤9223372036854775807;omega⟩).sized (by omega) (by omega) (by omega)
  repeat (first|exact h0|exact h1|split)
theorem z6a {s:St} (h:Good s) (c:Ca):Sized (namesV s c).1:=by
 have hs:=h.small;have h0:=hs.sized (by omega) (by omega) (by omega);have hns:=z1c s.inos c.path2;unfold namesV
 split
 ·exact zb3 h c
 split
 ·exact h0
 split
 ·exact h0
 ·rename_i hen;have hn:=h.num_range (z2j h.whole hen);have h1:=hs.dropE (parentV s.inos c.path).1 (parentV s.inos c.path).2.1;have h2:=(h1.sweep (entV s.inos (parentV s.inos c.path).1 (parentV s.inos c.path).2.1)).sized (by omega) (by omega) (by omega);have h3:=(h1.put (parentV s.inos c.path2).1 (parentV s.inos c.path2).2.1 (entV s.inos (parentV s.inos c.path).1 (parentV s.inos c.path).2.1) ⟨by show(parentV s.inos c.path2).2.1.size≤_;omega,by show(-9223372036854775808:Int)≤entV s.inos (parentV s.inos c.path).1 (parentV s.inos c.path).2.1;omega,by show entV s.inos (parentV s.inos c.path).1 (parentV s.inos c.path).2.1≤9223372036854775807;omega⟩).sized (by omega) (by omega) (by omega)
  split
  ·unfold renameV
   repeat (first|exact h0|exact h3|split)
  ·repeat (first|exact h0|exact h2|split)
theorem zkq {s:St} (h:Good s) (c:Ca) (want:Int) (hc0:0≤c.core) (hc1:c.core<(s.made.length:Int)):Sized (doF s c want).1:=by
 have h0:=h.small.sized (by omega) (by omega) (by omega);unfold doF
 split
 ·exact h0
 split
 ·exact(z7q h c hc0 hc1).2
 split
 ·exact zb2 h c want
 split
 ·exact z8x h c
 split
 ·exact z6a h c
 split<;>exact h0
theorem znn {s:St} {c:Ca} {want:Int} (hm:mayV s=true) (hc0:0≤c.core) (hc1:c.core<(s.made.length:Int)) (hp:c.path.size≤140737488355328) (hp2:c.path2.size≤140737488355328):DoOk s c want:=by
 have h:=(z1t s).1 hm;exact⟨h.whole,hp,hp2,by have:=z1c s.inos c.path2;omega,h.deep,zkq h c want hc0 hc1,fun _=>(z7q h c hc0 hc1).1,h.m8,h.mr⟩
end Go.Proofs.YtmmpkfcdfcldlaaGreat
