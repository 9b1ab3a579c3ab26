/- Parts of the proof, side by side: ShTell2, ShTell3. -/
import Derived.Test.YtkflaifopbodfaaGreatDoorM20
set_option linter.unusedVariables false
set_option linter.unusedSimpArgs false
namespace Go.Proofs.YtkflaifopbodfaaGreatDoor
structure Rc where
 path:List (List UInt8)
 num:Int
 dat:Option (List UInt8)
def lineR (r:Rc):List UInt8:=match r.dat with|none=>lineD (pathT r.path) r.num|some d=>lineF (pathT r.path) r.num d
structure RcOk (r:Rc):Prop where
 path:∀n∈r.path,NameOk n
 num:0≤r.num
theorem z8a (p:List UInt8) (n:Int) (R:List UInt8):lineD p n++R=100::32::((shownL p++32::decN n)++10::R):=by simp[lineD]
theorem z8b (p:List UInt8) (n:Int) (d R:List UInt8):lineF p n d++R=102::32::(((shownL p++32::decN n)++32::hexT d)++10::R):=by simp[lineF]
theorem z3u {a b:List UInt8} {s:UInt8} (ha:∀c∈a,c≠s) (hb:∀c∈b,c≠s):∀c∈a++b,c≠s:=fun c hc=>(List.mem_append.1 hc).elim (ha c) (hb c)
theorem z2e {b:List UInt8} {s x:UInt8} (hx:x≠s) (hb:∀c∈b,c≠s):∀c∈x::b,c≠s:=fun c hc=>(List.mem_cons.1 hc).elim (fun e=>e▸hx) (hb c)
theorem zkg (a b:Rc) (R R':List UInt8) (ha:RcOk a) (hb:RcOk b) (h:lineR a++R=lineR b++R'):a=b∧R=R':=by
 obtain⟨p,n,d⟩:=a;obtain⟨q,m,e⟩:=b;have hp10:=zec ha.path;have hq10:=zec hb.path;have d10:∀k:Int,∀c∈decN k,c≠10:=fun k=>zal k 10 (.inl (by decide))
 have d32:∀k:Int,∀c∈decN k,c≠32:=fun k=>zal k 32 (.inl (by decide))
 have x10:∀k:List UInt8,∀c∈hexT k,c≠10:=fun k=>zcy k 10 (by decide)
 have x32:∀k:List UInt8,∀c∈hexT k,c≠32:=fun k=>zcy k 32 (by decide)
 cases d with
 | none =>
  cases e with
  | none=>
   unfold lineR at h;simp only[z8a,List.cons.injEq,true_and] at h;have h1:=zea 10 _ _ _ _ (z3u hp10 (z2e (by decide) (d10 n))) (z3u hq10 (z2e (by decide) (d10 m))) h;have h2:=z7z 32 _ _ _ _ (d32 n) (d32 m) h1.1;have e1:=zeb ha.path hb.path h2.1;have e2:=z3r ha.num hb.num h2.2;simp only at e1 e2;exact⟨by rw[e1,e2],h1.2⟩
  | some e=>
   unfold lineR at h;simp only[z8a,z8b,List.cons.injEq] at h;exact absurd h.1 (by decide)
 | some d =>
  cases e with
  | none=>
   unfold lineR at h;simp only[z8a,z8b,List.cons.injEq] at h;exact absurd h.1 (by decide)
  | some e=>
   unfold lineR at h;simp only[z8b,List.cons.injEq,true_and] at h;have h1:=zea 10 _ _ _ _ (z3u (z3u hp10 (z2e (by decide) (d10 n))) (z2e (by decide) (x10 d))) (z3u (z3u hq10 (z2e (by decide) (d10 m))) (z2e (by decide) (x10 e))) h;have h2:=z7z 32 _ _ _ _ (x32 d) (x32 e) h1.1;have h3:=z7z 32 _ _ _ _ (d32 n) (d32 m) h2.1;have e1:=zeb ha.path hb.path h3.1;have e2:=z3r ha.num hb.num h3.2;have e3:=zhc h2.2;simp only at e1 e2;exact⟨by rw[e1,e2,e3],h1.2⟩
theorem zin (r:Rc):∃c t,lineR r=c::t∧(c=100∨c=102):=by
 obtain⟨p,n,d⟩:=r;cases d with
 | none=>exact⟨_,_,rfl,.inl rfl⟩
 | some d=>exact⟨_,_,rfl,.inr rfl⟩
def recs (is:List Ino):Nat→Int→List (List UInt8)→List Rc
 | 0,_,_=>[]
 | n+1,num,p=>
  match inoAt is (atV is num) with
  | none=>[]
  | some x=>if x.dir then⟨p,num,none⟩::x.ents.flatMap (fun e=>recs is n e.num (p++[e.name.data.toList])) else [⟨p,num,some x.data.data.toList⟩]
theorem zio (p:List (List UInt8)) (n:ByteArray):pathT (p++[n.data.toList])=stepSh (pathT p) n:=by
 unfold pathT stepSh;rw[List.flatMap_append];simp
theorem zed (is:List Ino):∀(n:Nat) (num:Int) (p:List (List UInt8)),walkL is n num (pathT p)=(recs is n num p).flatMap lineR
 | 0,num,p=>rfl
 | n + 1, num, p => by
  unfold walkL recs;cases inoAt is (atV is num) with
  | none=>rfl
  | some x =>
   by_cases hd:x.dir=true
   ·simp only[hd,if_true,List.flatMap_cons]
    congr 1
    rw[List.flatMap_assoc]
    congr 1
    funext e
    rw[←zio,zed is n]
   ·simp[hd,lineR]
structure NamesAll (is:List Ino):Prop where
 ok:∀x∈is,∀e∈x.ents,NameOk e.name.data.toList
 one:∀x∈is,x.ents.Pairwise (fun a b=>a.name.data.toList≠b.name.data.toList)
theorem z8p:∀l:List UInt8,ltB l l=false
 | []=>rfl
 | a::l=>by unfold ltB;rw[if_pos rfl];exact z8p l
theorem Good.namesAll {s:St} (h:Good s):NamesAll s.inos:=by
 constructor
 ·intro x hx e he
  by_cases hd:x.dir=true
  ·have h2:=(h.dirs x hx hd).2;exact zoq ((z5c s.inos x.ents none (fun _=>0) h2).1 e he).1
  ·rw[(h.files x hx (by simpa using hd)).1] at he;cases he
 ·intro x hx
  by_cases hd:x.dir=true
  ·have h2:=(zah.1 (h.dirs x hx hd).2).rise;rw[List.pairwise_iff_getElem];intro i j hi hj hij e;have h3:=h2 i j _ _ hij (List.getElem?_eq_getElem hi) (List.getElem?_eq_getElem hj);unfold ltN at h3;rw[e,z8p] at h3;cases h3
  ·rw[(h.files x hx (by simpa using hd)).1];exact List.Pairwise.nil
theorem zft {is:List Ino} (hN:NamesAll is):∀(n:Nat) (num:Int) (p:List (List UInt8)),DeepT is n num→(∀m∈p,NameOk m)→∀r∈recs is n num p,RcOk r
 | 0,num,p,hd,_,r,_=>absurd hd (by intro h;exact h)
 | n + 1, num, p, hd, hp, r, hr => by
  obtain⟨x,hx,hr1,_,_,hall⟩:=hd;unfold recs at hr;rw[hx] at hr
  by_cases hdir:x.dir=true
  ·simp only[hdir,if_true,List.mem_cons] at hr
   rcases hr with rfl|hr
   ·exact⟨hp,by show 0≤num;omega⟩
   ·obtain⟨e,he,hr⟩:=List.mem_flatMap.1 hr;refine zft hN n e.num _ (hall e he).2 (fun m hm=>?_) r hr
    rcases List.mem_append.1 hm with hm|hm
    ·exact hp m hm
    ·have:m=e.name.data.toList:=by simpa using hm
     rw[this];exact hN.ok x (zh5 hx).1 e he
  ·have:r=⟨p,num,some x.data.data.toList⟩:=by simpa [hdir] using hr
   subst this;exact⟨hp,by show 0≤num;omega⟩
theorem zcz {is:List Ino}:∀(n:Nat) (num:Int) (p:List (List UInt8)),∀r∈recs is n num p,∃x,inoAt is (atV is r.num)=some x∧r.dat=if x.dir then none else some x.data.data.toList
 | 0,num,p,r,hr=>by cases hr
 | n + 1, num, p, r, hr => by
  unfold recs at hr;cases hx:inoAt is (atV is num) with
  | none=>rw[hx] at hr;cases hr
  | some x =>
   rw[hx] at hr
   by_cases hdir:x.dir=true
   ·simp only[hdir,if_true,List.mem_cons] at hr
    rcases hr with rfl|hr
    ·exact⟨x,hx,by simp[hdir]⟩
    ·obtain⟨e,he,hr⟩:=List.mem_flatMap.1 hr;exact zcz n e.num _ r hr
   ·have:r=⟨p,num,some x.data.data.toList⟩:=by simpa [hdir] using hr
    subst this;exact⟨x,hx,by simp[hdir]⟩
theorem z9g {is:List Ino}:∀(n:Nat) (num:Int) (p:List (List UInt8)),∀r∈recs is n num p,∃t,r.path=p++t
 | 0,num,p,r,hr=>by cases hr
 | n + 1, num, p, r, hr => by
  unfold recs at hr;cases hx:inoAt is (atV is num) with
  | none=>rw[hx] at hr;cases hr
  | some x =>
   rw[hx] at hr
   by_cases hdir:x.dir=true
   ·simp only[hdir,if_true,List.mem_cons] at hr
    rcases hr with rfl|hr
    ·exact⟨[],by simp⟩
    ·obtain⟨e,he,hr⟩:=List.mem_flatMap.1 hr;obtain⟨t,ht⟩:=z9g n e.num _ r hr;exact⟨e.name.data.toList::t,by rw[ht];simp⟩
   ·have:r=⟨p,num,some x.data.data.toList⟩:=by simpa [hdir] using hr
    subst this;exact⟨[],by simp⟩
theorem zee {is:List Ino} {n:Nat} {num:Int} {p:List (List UInt8)} (hd:DeepT is (n+1) num):∃dat tl,recs is (n+1) num p=⟨p,num,dat⟩::tl∧∀r∈tl,∃a t,r.path=p++a::t:=by
 obtain⟨x,hx,_⟩:=hd;unfold recs;rw[hx]
 by_cases hdir:x.dir=true
 ·simp only[hdir,if_true];refine⟨none,_,rfl,fun r hr=>?_⟩;obtain⟨e,he,hr⟩:=List.mem_flatMap.1 hr;obtain⟨t,ht⟩:=z9g n e.num _ r hr;exact⟨e.name.data.toList,t,by rw[ht];simp⟩
 ·simp only[hdir];exact⟨_,[],rfl,by simp⟩
def kidR (q:List (List UInt8)) (r:Rc):Option (List UInt8×Int):=if r.path.length=q.length+1∧r.path.take q.length=q then some (r.path.getD q.length [],r.num) else none
def kidsR (R:List Rc) (q:List (List UInt8)):List (List UInt8×Int):=R.filterMap (kidR q)
theorem zef {α:Type} (f:α→List Rc) (q:List (List UInt8)):∀l:List α,kidsR (l.flatMap f) q=l.flatMap (fun a=>kidsR (f a) q)
 | []=>rfl
 | a::l=>by
  have:=zef f q l;unfold kidsR at this ⊢;rw[List.flatMap_cons,List.filterMap_append,this,List.flatMap_cons]
theorem zmb {is:List Ino} {d:Nat} {m:Int} {p:List (List UInt8)} {a:List UInt8} (hd:DeepT is d m):kidsR (recs is d m (p++[a])) p=[(a,m)]:=by
 match d,hd with
 | 0,hd=>exact absurd hd (by intro h;exact h)
 | d + 1, hd =>
  obtain⟨dat,tl,e,htl⟩:=zee (p:=p++[a]) hd;unfold kidsR;rw[e,List.filterMap_cons]
  have h1:kidR p ⟨p++[a],m,dat⟩=some (a,m):=by
   unfold kidR;simp
  rw[h1]
  have h2:tl.filterMap (kidR p)=[]:=by
   rw[List.filterMap_eq_nil_iff];intro r hr;obtain⟨b,t,ht⟩:=htl r hr;unfold kidR;rw[if_neg];intro ⟨h3,_⟩;rw[ht] at h3;simp only[List.length_append,List.length_cons,List.length_nil] at h3;omega
  rw[h2]
theorem zhd {β:Type} (f:En→List β):∀(es:List En) (e:En),es.Pairwise (fun a b=>a.name.data.toList≠b.name.data.toList)→e∈es→(∀e'∈es,e'.name.data.toList≠e.name.data.toList→f e'=[])→es.flatMap f=f e
 | [],e,_,he,_=>by cases he
 | x :: es, e, hp, he, hf => by
  rw[List.pairwise_cons] at hp;rw[List.flatMap_cons]
  rcases List.mem_cons.1 he with rfl|he
  ·have:es.flatMap f=[]:=by
    rw[List.flatMap_eq_nil_iff];exact fun y hy=>hf y (by simp[hy]) (fun h=>hp.1 y hy h.symm)
   rw[this,List.append_nil]
  ·rw[hf x (by simp) (hp.1 e he),List.nil_append];exact zhd f es e hp.2 he (fun y hy=>hf y (by simp[hy]))
theorem z6z {is:List Ino} (hN:NamesAll is):∀(d:Nat) (n:Int) (p:List (List UInt8)),DeepT is d n→∀(q:List (List UInt8)) (m:Int),⟨q,m,none⟩∈recs is d n p→
  ∃x,inoAt is (atV is m)=some x∧x.dir=true∧kidsR (recs is d n p) q=x.ents.map (fun e=>(e.name.data.toList,e.num))
 | 0,n,p,hd,q,m,_=>absurd hd (by intro h;exact h)
 | d + 1, n, p, hd, q, m, hm => by
  have hd0:=hd;obtain⟨x,hx,_,_,_,hall⟩:=hd
  by_cases hdir:x.dir=true
  ·have e:recs is (d+1) n p=⟨p,n,none⟩::x.ents.flatMap (fun e=>recs is d e.num (p++[e.name.data.toList])):=by
    conv=>lhs;unfold recs
    rw[hx];simp only[hdir,if_true]
   rw[e] at hm ⊢
   have hk0:∀q':List (List UInt8),p.length+1≤q'.length+1→kidR q' ⟨p,n,none⟩=none:=fun q' hq=>by
    unfold kidR;rw[if_neg];intro ⟨h3,_⟩;simp only at h3;omega
   have hcons:∀q':List (List UInt8),p.length+1≤q'.length+1→kidsR (⟨p,n,none⟩::x.ents.flatMap (fun e=>recs is d e.num (p++[e.name.data.toList]))) q'=x.ents.flatMap (fun e=>kidsR (recs is d e.num (p++[e.name.data.toList])) q'):=fun q' hq=>by
    rw[←zef];unfold kidsR;rw[List.filterMap_cons,hk0 q' hq]
   rcases List.mem_cons.1 hm with h1|h1
   ·have e1:q=p:=by injection h1
    have e2:m=n:=by injection h1
    subst e1 e2;refine⟨x,hx,hdir,?_⟩;rw[hcons q (Nat.le_refl _)]
    have:∀es:List En,(∀e∈es,e∈x.ents)→es.flatMap (fun e=>kidsR (recs is d e.num (q++[e.name.data.toList])) q)=es.map (fun e=>(e.name.data.toList,e.num)):=by
     intro es
     induction es with
     | nil=>intro _;rfl
     | cons y es ih=>
      intro hy;rw[List.flatMap_cons,zmb (hall y (hy y (by simp))).2,ih (fun z hz=>hy z (by simp[hz])),List.map_cons]
      rfl
    exact this x.ents (fun _ h=>h)
   ·obtain⟨e0,he0,hr⟩:=List.mem_flatMap.1 h1;obtain⟨t,ht⟩:=z9g d e0.num _ _ hr;simp only at ht;obtain⟨y,hy,hyd,hk⟩:=z6z hN d e0.num _ (hall e0 he0).2 q m hr;refine⟨y,hy,hyd,?_⟩;have hql:q.length=p.length+1+t.length:=by rw[ht];simp;omega
    rw[hcons q (by omega),zhd _ x.ents e0 (hN.one x (zh5 hx).1) he0 (fun e' he' hne=>?_)]
    ·exact hk
    ·unfold kidsR;rw[List.filterMap_eq_nil_iff];intro r hr';obtain⟨t',ht'⟩:=z9g d e'.num _ r hr';unfold kidR;rw[if_neg];intro ⟨_,h4⟩;apply hne;have h5:=congrArg (fun l=>l[p.length]?) h4;simp only[List.getElem?_take] at h5;rw[if_pos (by omega),ht',ht] at h5
     simpa using h5
  ·exfalso;unfold recs at hm;rw[hx] at hm;simp[hdir] at hm
theorem zmc {R:List Rc} {q:List (List UInt8)} {a:List UInt8} {n:Int} (h:(a,n)∈kidsR R q):∃r∈R,r.num=n:=by
 unfold kidsR at h;obtain⟨r,hr,e⟩:=List.mem_filterMap.1 h;unfold kidR at e
 split at e
 ·exact⟨r,hr,by injection e with e;injection e⟩
 ·cases e
def rcs (s:St):List Rc:=recs s.inos (topD s) 1 []
theorem Good.reach_rec {s:St} (h:Good s) {i:Nat} (hr:Reach s.inos i):∀x,s.inos[i]? =some x→∃r∈rcs s,r.num=x.num:=by
 induction hr with
 | root k hk=>
  intro x hx;have h0:=h.root_at;rw[hk] at h0;have:k=0:=by omega
  subst this;obtain⟨z,hz,hzn,_⟩:=h.root;rw[hx] at hz;cases hz;have ht:=h.top;have e:topD s=(s.inos.length+1)+1:=rfl;rw[e] at ht;obtain⟨dat,tl,e2,_⟩:=zee (p:=[]) ht;unfold rcs;rw[e,e2];exact⟨_,List.mem_cons_self,hzn.symm⟩
 | step k j y e _ hx hd he hj ih =>
  intro x hxj;obtain⟨r,hr,hrn⟩:=ih y hx;obtain⟨q,m,dat⟩:=r;simp only at hrn;subst hrn;obtain⟨z,hz,hdat⟩:=zcz _ _ _ _ hr;simp only at hz hdat;have hi:inoAt s.inos (atV s.inos y.num)=some y:=by rw[h.idx hx,z0c,hx]
  rw[hi] at hz;cases hz;rw[hd,if_pos rfl] at hdat;subst hdat;obtain⟨z,hz,_,hk⟩:=z6z h.namesAll _ _ _ h.top q y.num hr;rw[hi] at hz;cases hz
  have hm:(e.name.data.toList,e.num)∈kidsR (recs s.inos (topD s) 1 []) q:=by
   rw[hk];exact List.mem_map.2 ⟨e,he,rfl⟩
  obtain⟨r',hr',hn'⟩:=zmc hm;refine⟨r',hr',?_⟩;rw[hn']
  rcases z0k s.inos e.num with⟨h1,_⟩|⟨k',z,h1,hz,hzn,_⟩
  ·omega
  ·have:k'=j:=by omega
   subst this;rw[hz] at hxj;cases hxj;exact hzn.symm
theorem zip {is:List Ino} {n:Int}:linkI is n≠0→∃x∈is,x.dir=true∧∃e∈x.ents,e.num=n:=by
 induction is with
 | nil=>intro h;exact absurd rfl h
 | cons x is ih =>
  intro h;unfold linkI at h
  by_cases hd:x.dir=true
  ·by_cases h0:linkE x.ents n=0
   ·obtain⟨y,hy,h2⟩:=ih (by rw[if_pos hd,h0] at h;omega);exact⟨y,by simp[hy],h2⟩
   ·refine⟨x,by simp,hd,?_⟩
    have:∀es:List En,linkE es n≠0→∃e∈es,e.num=n:=by
     intro es
     induction es with
     | nil=>intro h;exact absurd rfl h
     | cons e es ih2=>
      intro h;unfold linkE at h
      by_cases he:e.num=n
      ·exact⟨e,by simp,he⟩
      ·rw[if_neg he] at h;obtain⟨y,hy,h2⟩:=ih2 (by omega);exact⟨y,by simp[hy],h2⟩
    exact this _ h0
  ·rw[if_neg hd] at h;obtain⟨y,hy,h2⟩:=ih (by omega);exact⟨y,by simp[hy],h2⟩
theorem Good.dir_reach {s:St} (h:Good s) {i:Nat} {x:Ino} (hx:s.inos[i]? =some x) (hd:x.dir=true):Reach s.inos i:=by
 rcases Nat.eq_zero_or_pos i with rfl|hi
 ·exact Reach.root 0 h.root_at
 ·exact(h.one i x hi hx hd).2
def uns (s:St):List (Int×List UInt8):=(s.inos.filter (fun x=>!x.dir&&decide (linkI s.inos x.num=0))).map (fun x=>(x.num,x.data.data.toList))
def lineU' (u:Int×List UInt8):List UInt8:=117::32::(decN u.1++32::(hexT u.2++[10]))
theorem znd (s:St):∀xs:List Ino,unlL s xs=((xs.filter (fun x=>!x.dir&&decide (linkI s.inos x.num=0))).map (fun x=>(x.num,x.data.data.toList))).flatMap lineU'
 | []=>rfl
 | x :: xs => by
  have:=znd s xs;unfold unlL at this ⊢;rw[List.flatMap_cons,this,List.filter_cons]
  split
  ·rename_i hc;simp only[hc,if_true,List.map_cons,List.flatMap_cons]
   rfl
  ·rename_i hc;simp[hc]
theorem zkh (a b:Int×List UInt8) (R R':List UInt8) (ha:0≤a.1) (hb:0≤b.1) (h:lineU' a++R=lineU' b++R'):a=b∧R=R':=by
 obtain⟨n,d⟩:=a;obtain⟨m,e⟩:=b;have body:∀(k:Int) (x S:List UInt8),lineU' (k,x)++S=117::32::((decN k++32::hexT x)++10::S):=fun k x S=>by simp[lineU']
 rw[body,body] at h;simp only[List.cons.injEq,true_and] at h;have d10:∀k:Int,∀c∈decN k,c≠10:=fun k=>zal k 10 (.inl (by decide))
 have x10:∀k:List UInt8,∀c∈hexT k,c≠10:=fun k=>zcy k 10 (by decide)
 have x32:∀k:List UInt8,∀c∈hexT k,c≠32:=fun k=>zcy k 32 (by decide)
 have h1:=zea 10 _ _ _ _ (z3u (d10 n) (z2e (by decide) (x10 d))) (z3u (d10 m) (z2e (by decide) (x10 e))) h;have h2:=z7z 32 _ _ _ _ (x32 d) (x32 e) h1.1;have e1:=z3r ha hb h2.1;simp only at e1;exact⟨by rw[e1,zhc h2.2],h1.2⟩
structure DsPos (d:Ds):Prop where
 core:0≤d.core
 fd:0≤d.fd
 num:0≤d.num
theorem zki (a b:Ds) (R R':List UInt8) (ha:DsPos a) (hb:DsPos b) (h:lineO a++R=lineO b++R'):a=b∧R=R':=by
 obtain⟨c,f,n⟩:=a;obtain⟨c',f',n'⟩:=b;have body:∀(x y z:Int) (S:List UInt8),lineO ⟨x,y,z⟩++S=111::32::(((decN x++32::decN y)++32::decN z)++10::S):=fun x y z S=>by simp[lineO]
 rw[body,body] at h;simp only[List.cons.injEq,true_and] at h;have d10:∀k:Int,∀c∈decN k,c≠10:=fun k=>zal k 10 (.inl (by decide))
 have d32:∀k:Int,∀c∈decN k,c≠32:=fun k=>zal k 32 (.inl (by decide))
 have h1:=zea 10 _ _ _ _ (z3u (z3u (d10 c) (z2e (by decide) (d10 f))) (z2e (by decide) (d10 n))) (z3u (z3u (d10 c') (z2e (by decide) (d10 f'))) (z2e (by decide) (d10 n'))) h;have h2:=z7z 32 _ _ _ _ (d32 n) (d32 n') h1.1;have h3:=z7z 32 _ _ _ _ (d32 f) (d32 f') h2.1;have e1:=z3r ha.core hb.core h3.1;have e2:=z3r ha.fd hb.fd h3.2;have e3:=z3r ha.num hb.num h2.2;simp only at e1 e2 e3;exact⟨by rw[e1,e2,e3],h1.2⟩
theorem zhe:∀(ms ns:List Int),(∀m∈ms,0≤m)→(∀n∈ns,0≤n)→madeSh ms++[10]=madeSh ns++[10]→ms=ns
 | [],[],_,_,_=>rfl
 | [],n::ns,_,_,h=>by
  unfold madeSh at h;simp only[List.flatMap_nil,List.flatMap_cons,List.nil_append,List.cons_append,List.cons.injEq] at h;exact absurd h.1 (by decide)
 | m::ms,[],_,_,h=>by
  unfold madeSh at h;simp only[List.flatMap_nil,List.flatMap_cons,List.nil_append,List.cons_append,List.cons.injEq] at h;exact absurd h.1 (by decide)
 | m :: ms, n :: ns, hm, hn, h => by
  have body:∀(k:Int) (ks:List Int),madeSh (k::ks)++[10]=32::(decN k++(madeSh ks++[10])):=fun k ks=>by simp[madeSh]
  have head:∀(ks:List Int) (c:UInt8) (t:List UInt8),madeSh ks++[10]=c::t→¬(48≤c.toNat∧c.toNat≤57):=fun ks c t e=>by
   cases ks with
   | nil =>
    have:(10:UInt8)=c:=by
     have e2:([10]:List UInt8)=c::t:=e;injection e2
    subst this
    decide
   | cons k ks=>
    rw[body] at e;have:(32:UInt8)=c:=by injection e
    subst this
    decide
  rw[body,body] at h;simp only[List.cons.injEq,true_and] at h;have h1:=zcu (fun c=>48≤c.toNat∧c.toNat≤57) _ _ _ _ (zcw m) (zcw n) (head ms) (head ns) h;rw[z3r (hm m (by simp)) (hn n (by simp)) h1.1,zhe ms ns (fun x hx=>hm x (by simp[hx])) (fun x hx=>hn x (by simp[hx])) h1.2]
theorem of_parts {s t:St} (hs:Good s) (ht:Good t) (h:ofL s=ofL t):rcs s=rcs t∧uns s=uns t∧s.opn=t.opn∧s.made=t.made:=by
 have hp:∀u:St,Good u→∀d∈u.opn,DsPos d:=fun u hu d hd=>by
  have h1:=hu.frm.1.opn d hd;obtain⟨y,hy,hyn,_⟩:=h1.2.2.2.2;obtain⟨i,hi⟩:=List.getElem?_of_mem hy;have:=hu.num_at hi;exact⟨h1.1,h1.2.2.1,by omega⟩
 have hu:∀u:St,Good u→∀p∈uns u,0≤p.1:=fun u hu p hp=>by
  obtain⟨x,hx,rfl⟩:=List.mem_map.1 hp;obtain⟨i,hi⟩:=List.getElem?_of_mem (List.mem_filter.1 hx).1;have:=hu.num_at hi;simp only;omega
 have e1:∀u:St,ofL u=(rcs u).flatMap lineR++((uns u).flatMap lineU'++(u.opn.flatMap lineO++109::(madeSh u.made++[10]))):=fun u=>by
  have:filesL u=(rcs u).flatMap lineR:=zed u.inos (topD u) 1 [];unfold ofL restL opnL;rw[this,znd];unfold uns;simp
 rw[e1,e1] at h;have tail3:∀(x:List UInt8) (c:UInt8) (t':List UInt8),109::x=c::t'→c=109:=fun x c t' e=>by injection e with e _;exact e.symm
 have tail2:∀(os:List Ds) (x:List UInt8) (c:UInt8) (t':List UInt8),os.flatMap lineO++109::x=c::t'→c=111∨c=109:=fun os x c t' e=>by
  cases os with
  | nil=>exact .inr (tail3 x c t' e)
  | cons o os=>
   simp only[List.flatMap_cons,lineO,List.cons_append] at e;injection e with e _
   exact .inl e.symm
 have tail1:∀(us:List (Int×List UInt8)) (os:List Ds) (x:List UInt8) (c:UInt8) (t':List UInt8),us.flatMap lineU'++(os.flatMap lineO++109::x)=c::t'→c=117∨c=111∨c=109:=fun us os x c t' e=>by
  cases us with
  | nil=>exact .inr (tail2 os x c t' e)
  | cons o us=>
   simp only[List.flatMap_cons,lineU',List.cons_append] at e;injection e with e _
   exact .inl e.symm
 have h1:=z9f lineR RcOk (fun c=>c=100∨c=102) (fun a b R R'=>zkg a b R R') (fun a _=>zin a) (rcs s) (rcs t) _ _ (zft hs.namesAll _ _ _ hs.top (by simp)) (zft ht.namesAll _ _ _ ht.top (by simp))
  (fun c t' e=>by rcases tail1 _ _ _ c t' e with rfl|rfl|rfl<;>decide) (fun c t' e=>by rcases tail1 _ _ _ c t' e with rfl|rfl|rfl<;>decide) h
 have h2:=z9f lineU' (fun a=>0≤a.1) (fun c=>c=117) (fun a b R R'=>zkh a b R R') (fun a _=>⟨_,_,rfl,rfl⟩) (uns s) (uns t) _ _ (hu s hs) (hu t ht)
  (fun c t' e=>by rcases tail2 _ _ c t' e with rfl|rfl<;>decide) (fun c t' e=>by rcases tail2 _ _ c t' e with rfl|rfl<;>decide) h1.2
 have h3:=z9f lineO DsPos (fun c=>c=111) (fun a b R R'=>zki a b R R') (fun a _=>⟨_,_,rfl,rfl⟩) s.opn t.opn _ _ (hp s hs) (hp t ht)
  (fun c t' e=>by rw[tail3 _ c t' e];decide) (fun c t' e=>by rw[tail3 _ c t' e];decide) h2.2
 have h4:=zhe s.made t.made (fun m hm=>(hs.mr m hm).1) (fun m hm=>(ht.mr m hm).1) (by injection h3.2);exact⟨h1.1,h2.1,h3.1,h4⟩
theorem En.eq_of {a b:En} (h:(a.name.data.toList,a.num)=(b.name.data.toList,b.num)):a=b:=by
 obtain⟨⟨x⟩,n⟩:=a;obtain⟨⟨y⟩,m⟩:=b;injection h with h1 h2
 have h3:x=y:=Array.toList_inj.1 h1;have h4:n=m:=h2;rw[h3,h4]
theorem zkj:∀(es fs:List En),es.map (fun e=>(e.name.data.toList,e.num))=fs.map (fun e=>(e.name.data.toList,e.num))→es=fs
 | [],[],_=>rfl
 | [],f::fs,h=>by cases h
 | e::es,[],h=>by cases h
 | e::es,f::fs,h=>by
  rw[List.map_cons,List.map_cons] at h;injection h with h1 h2
  rw[En.eq_of h1,zkj es fs h2]
theorem zfu {a b:ByteArray} (h:a.data.toList=b.data.toList):a=b:=by
 obtain⟨x⟩:=a;obtain⟨y⟩:=b;have h2:x=y:=Array.toList_inj.1 h;rw[h2]
theorem zkk {a b:ByteArray} (ha:a.size=0) (hb:b.size=0):a=b:=by
 apply zfu;have h1:a.data.toList.length=a.size:=Array.length_toList;have h2:b.data.toList.length=b.size:=Array.length_toList;have h3:a.data.toList=[]:=List.eq_nil_of_length_eq_zero (by omega);have h4:b.data.toList=[]:=List.eq_nil_of_length_eq_zero (by omega);rw[h3,h4]
theorem zeg {s t:St} (hs:Good s) (ht:Good t) (hR:rcs s=rcs t) (hU:uns s=uns t):∀x∈s.inos,x∈t.inos:=by
 intro x hx;obtain⟨i,hi⟩:=List.getElem?_of_mem hx;have hix:inoAt s.inos (atV s.inos x.num)=some x:=by rw[hs.idx hi,z0c,hi]
 -- by its line
 have byRec:Reach s.inos i→x∈t.inos:=fun hr=>by
  obtain⟨r,hr,hrn⟩:=hs.reach_rec hr x hi;obtain⟨q,m,dat⟩:=r;simp only at hrn;subst hrn;obtain⟨z,hz,hdat⟩:=zcz _ _ _ _ hr;simp only at hz hdat;rw[hix] at hz;cases hz;have hr2:=hr;rw[hR] at hr2;obtain⟨y,hy,hdat2⟩:=zcz _ _ _ _ hr2;simp only at hy hdat2;have hym:=zh5 hy
  have:x=y:=by
   by_cases hd:x.dir=true
   ·rw[if_pos hd] at hdat;subst hdat
    have hyd:y.dir=true:=by
     by_cases hyd:y.dir=true
     ·exact hyd
     ·rw[if_neg hyd] at hdat2;cases hdat2
    obtain⟨z,hz,_,hk⟩:=z6z hs.namesAll _ _ _ hs.top q x.num hr;rw[hix] at hz;cases hz;obtain⟨z,hz,_,hk2⟩:=z6z ht.namesAll _ _ _ ht.top q x.num hr2;rw[hy] at hz;cases hz;have hee:x.ents=y.ents:=zkj _ _ (by rw[←hk,←hk2];exact congrArg (fun R=>kidsR R q) hR);have hdd:x.data=y.data:=zkk (hs.dirs x hx hd).1 (ht.dirs y hym.1 hyd).1;obtain⟨a,b,c,d⟩:=x;obtain⟨a',b',c',d'⟩:=y;simp only at hd hyd hee hdd hym;rw[hym.2,hd,hyd,hee,hdd]
   ·rw[if_neg hd] at hdat;subst hdat
    have hyd:y.dir=false:=by
     by_cases hyd:y.dir=true
     ·rw[if_pos hyd] at hdat2;cases hdat2
     ·simpa using hyd
    rw[hyd] at hdat2;have hdd:x.data=y.data:=zfu (by injection hdat2);have hd':x.dir=false:=by simpa using hd
    have hee:x.ents=y.ents:=by rw[(hs.files x hx hd').1,(ht.files y hym.1 hyd).1]
    obtain⟨a,b,c,d⟩:=x;obtain⟨a',b',c',d'⟩:=y;simp only at hd' hyd hee hdd hym;rw[hym.2,hd',hyd,hee,hdd]
  rw[this];exact hym.1
 by_cases hd:x.dir=true
 ·exact byRec (hs.dir_reach hi hd)
 ·have hd':x.dir=false:=by simpa using hd
  by_cases hl:linkI s.inos x.num=0
  ·have hu:(x.num,x.data.data.toList)∈uns s:=List.mem_map.2 ⟨x,List.mem_filter.2 ⟨hx,by simp[hd',hl]⟩,rfl⟩;rw[hU] at hu;obtain⟨y,hy,e⟩:=List.mem_map.1 hu;have hy2:=List.mem_filter.1 hy
   have hyd:y.dir=false:=by
    have:=hy2.2;simp only[Bool.and_eq_true,Bool.not_eq_true'] at this;exact this.1
   injection e with e1 e2
   have hdd:x.data=y.data:=(zfu e2).symm;have hee:x.ents=y.ents:=by rw[(hs.files x hx hd').1,(ht.files y hy2.1 hyd).1]
   have:x=y:=by
    obtain⟨a,b,c,d⟩:=x;obtain⟨a',b',c',d'⟩:=y;simp only at hd' hyd hee hdd e1;rw[e1,hd',hyd,hee,hdd]
   rw[this];exact hy2.1
  ·obtain⟨z,hz,hzd,e,he,hen⟩:=zip hl;obtain⟨k,hk⟩:=List.getElem?_of_mem hz;exact byRec (Reach.step k i z e (hs.dir_reach hk hzd) hk hzd he (by rw[hen];exact hs.idx hi))
theorem zan:∀(xs ys:List Ino),xs.Pairwise (fun a b=>a.num<b.num)→ys.Pairwise (fun a b=>a.num<b.num)→(∀x∈xs,x∈ys)→(∀y∈ys,y∈xs)→xs=ys
 | [],[],_,_,_,_=>rfl
 | [],y::ys,_,_,_,h=>by cases h y (by simp)
 | x::xs,[],_,_,h,_=>by cases h x (by simp)
 | x :: xs, y :: ys, hx, hy, h1, h2 => by
  rw[List.pairwise_cons] at hx hy
  have e:x=y:=by
   rcases List.mem_cons.1 (h1 x (by simp)) with h|h
   ·exact h
   ·rcases List.mem_cons.1 (h2 y (by simp)) with h'|h'
    ·exact h'.symm
    ·have a1:=hy.1 x h;have a2:=hx.1 y h';omega
  subst e
  rw[zan xs ys hx.2 hy.2 (fun z hz=>by
   rcases List.mem_cons.1 (h1 z (by simp[hz])) with h|h
   ·subst h;have:=hx.1 z hz;omega
   ·exact h) (fun z hz=>by
   rcases List.mem_cons.1 (h2 z (by simp[hz])) with h|h
   ·subst h;have:=hy.1 z hz;omega
   ·exact h)]
theorem zpj {s t:St} (hs:Good s) (ht:Good t) (h:ofL s=ofL t):s=t:=by
 obtain⟨h1,h2,h3,h4⟩:=of_parts hs ht h;have h5:=zan s.inos t.inos hs.rise ht.rise (zeg hs ht h1 h2) (zeg ht hs h1.symm h2.symm);obtain⟨a,b,c⟩:=s;obtain⟨a',b',c'⟩:=t;simp only at h3 h4 h5;rw[h3,h4,h5]
end Go.Proofs.YtkflaifopbodfaaGreatDoor
