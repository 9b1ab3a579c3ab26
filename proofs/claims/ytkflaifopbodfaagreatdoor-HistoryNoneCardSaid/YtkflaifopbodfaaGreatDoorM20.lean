/- Parts of the proof, side by side: ShP, ShTell. -/
import Derived.Test.YtkflaifopbodfaaGreatDoorM08
import Derived.Test.YtkflaifopbodfaaGreatDoorM02
import Derived.Test.YtkflaifopbodfaaGreatDoorM19
import Derived.Lib.ItoaNum
set_option linter.unusedVariables false
set_option linter.unusedSimpArgs false
namespace Go.Proofs.YtkflaifopbodfaaGreatDoor
def hexD (n:Nat):UInt8:=if n<10 then UInt8.ofNat (48+n) else UInt8.ofNat (87+n)
def hexL:List UInt8→List UInt8
 | []=>[]
 | b::bs=>hexD (b.toNat / 16)::hexD (b.toNat%16)::hexL bs
def hexT (l:List UInt8):List UInt8:=if l=[] then [45] else hexL l
theorem z5d:∀l:List UInt8,(hexL l).length=2*l.length
 | []=>rfl
 | b::bs=>by simp only[hexL,List.length_cons,z5d bs];omega
theorem zh4 (l:List UInt8):(hexT l).length≤2*l.length+1:=by
 unfold hexT
 split
 ·simp
 ·rw[z5d];omega
def decN (n:Int):List UInt8:=Lib.decDigits n.toNat
theorem zcs {u:Nat} (h:u<1000):Lib.nDigits u≤3:=by
 by_cases h1:u<10
 ·rw[Lib.nDigits_small h1];omega
 ·rw[Lib.nDigits_big h1]
  by_cases h2:u / 10<10
  ·rw[Lib.nDigits_small h2];omega
  ·rw[Lib.nDigits_big h2,Lib.nDigits_small (by omega)];omega
theorem z2t {n:Int} (h:n<1000):(decN n).length≤3:=by
 unfold decN;rw[Lib.decDigits_length];exact zcs (by omega)
def shownL (p:List UInt8):List UInt8:=if p=[] then [47] else p
def lineD (p:List UInt8) (num:Int):List UInt8:=100::32::(shownL p++32::(decN num++[10]))
def lineF (p:List UInt8) (num:Int) (d:List UInt8):List UInt8:=102::32::(shownL p++32::(decN num++32::(hexT d++[10])))
def stepSh (p:List UInt8) (n:ByteArray):List UInt8:=p++47::n.data.toList
def walkL (is:List Ino):Nat→Int→List UInt8→List UInt8
 | 0,_,_=>[]
 | n+1,num,p=>
  match inoAt is (atV is num) with
  | none=>[]
  | some x=>if x.dir then lineD p num++x.ents.flatMap (fun e=>walkL is n e.num (stepSh p e.name)) else lineF p num x.data.data.toList
def topD (s:St):Nat:=s.inos.length+2
def filesL (s:St):List UInt8:=walkL s.inos (topD s) 1 []
def lineU (x:Ino):List UInt8:=117::32::(decN x.num++32::(hexT x.data.data.toList++[10]))
def unlL (s:St) (xs:List Ino):List UInt8:=xs.flatMap (fun x=>if !x.dir&&decide (linkI s.inos x.num=0) then lineU x else [])
def lineO (d:Ds):List UInt8:=111::32::(decN d.core++32::(decN d.fd++32::(decN d.num++[10])))
def opnL (ds:List Ds):List UInt8:=ds.flatMap lineO
def madeSh (ms:List Int):List UInt8:=ms.flatMap (fun m=>32::decN m)
def restL (s:St):List UInt8:=unlL s s.inos++(opnL s.opn++109::madeSh s.made)
def ofL (s:St):List UInt8:=filesL s++(restL s++[10])
def DeepT (is:List Ino):Nat→Int→Prop
 | 0,_=>False
 | n+1,num=>∃x,inoAt is (atV is num)=some x∧(1≤num∧num≤257)∧x.data.size≤256∧(x.dir=false→x.ents=[])∧∀e∈x.ents,e.name.size≤12∧DeepT is n e.num
theorem z0s (l:List UInt8):(txt l).data.toList=l:=by unfold txt;simp
theorem zil {α:Type} (f:α→List UInt8) (l:List α) (k:Nat) (a:α) (h:l[k]? =some a):((l.take k).flatMap f).length+(f a).length≤(l.flatMap f).length:=by
 obtain⟨hk,e⟩:=List.getElem?_eq_some_iff.1 h
 have h1:l=l.take k++(a::l.drop (k+1)):=by
  rw[←e,List.getElem_cons_drop,List.take_append_drop]
 conv=>rhs;rw[h1]
 rw[List.flatMap_append,List.flatMap_cons,List.length_append,List.length_append];omega
theorem z6e {α:Type} (f:α→List UInt8) (l:List α) (k:Nat) (a:α) (h:l[k]? =some a):(l.take (k+1)).flatMap f=(l.take k).flatMap f++f a:=by
 rw[List.take_add_one,h];simp
theorem zh5 {is:List Ino} {n:Int} {x:Ino} (h:inoAt is (atV is n)=some x):x∈is∧x.num=n:=by
 rcases z0k is n with⟨h1,_⟩|⟨k,y,h1,hy,hn,_⟩
 ·rw[h1] at h;simp[inoAt] at h
 ·rw[h1,z0c,hy] at h;cases h;exact⟨List.mem_of_getElem? hy,hn⟩
theorem zim {n:ByteArray} (h:chkB n=0):n.size≤12:=by
 unfold chkB checkL at h
 by_cases h1:12<n.data.toList.length
 ·rw[if_pos h1] at h;cases h
 ·have:n.data.toList.length=n.size:=Array.length_toList;omega
theorem Good.num_at {s:St} (h:Good s) {i:Nat} {x:Ino} (hx:s.inos[i]? =some x):1≤x.num∧x.num≤257:=by
 have h8:=h.m8
 rcases Nat.eq_zero_or_pos i with rfl|hi
 ·obtain⟨r,hr,hrn,_⟩:=h.root;rw[hx] at hr;cases hr;omega
 ·have hg:=h.given i x hi hx;unfold givenV at hg
  by_cases h2:x.num<2
  ·rw[if_pos h2] at hg;cases hg
  ·rw[if_neg h2] at hg;simp only[Bool.and_eq_true,decide_eq_true_eq] at hg
   have hm:s.made.getD ((x.num-2)%8).toNat 0≤32:=by
    rw[List.getD_eq_getElem?_getD]
    rcases hq:s.made[((x.num-2)%8).toNat]? with _|m
    ·simp
    ·exact(h.mr m (List.mem_of_getElem? hq)).2
   omega
theorem Good.deepT {s:St} (h:Good s):∀(n:Nat) (num:Int),Deep s.inos n num→0≤atV s.inos num→DeepT s.inos (n+1) num
 | 0,num,hd,_=>absurd hd (by intro h;exact h)
 | n + 1, num, hd, hat => by
  rcases z0k s.inos num with⟨h1,_⟩|⟨i,x,h1,hx,hxn,_⟩
  ·omega
  ·have hi:inoAt s.inos (atV s.inos num)=some x:=by rw[h1,z0c,hx]
   have hm:x∈s.inos:=List.mem_of_getElem? hx
   have hsz:x.data.size≤256:=by
    by_cases hdir:x.dir=true
    ·have:=(h.dirs x hm hdir).1;omega
    ·exact(h.files x hm (by simpa using hdir)).2
   refine⟨x,hi,by rw[←hxn];exact h.num_at hx,hsz,fun hf=>(h.files x hm hf).1,fun e he=>?_⟩
   by_cases hdir:x.dir=true
   ·have h2:=(h.dirs x hm hdir).2;obtain⟨j,y,hj,hy,hyn,haty⟩:=h.ent hx hdir he;have hch:chkB e.name=0:=((z5c s.inos x.ents none (fun _=>0) h2).1 e he).1;refine⟨zim hch,?_⟩
    by_cases hyd:y.dir=true
    ·refine h.deepT n e.num (hd x hi e he ?_) (by omega);unfold dirAt;rw[haty,z0c,hy];exact hyd
    ·have hyf:y.dir=false:=by simpa using hyd
     have hym:y∈s.inos:=List.mem_of_getElem? hy;exact⟨y,by rw[haty,z0c,hy],by rw[←hyn];exact h.num_at hy,(h.files y hym hyf).2,fun _=>(h.files y hym hyf).1,by rw[(h.files y hym hyf).1];simp⟩
   ·rw[(h.files x hm (by simpa using hdir)).1] at he;simp at he
theorem Good.top {s:St} (h:Good s):DeepT s.inos (topD s) 1:=by
 obtain⟨r,hr,hrn,hrd⟩:=h.root;have ha:=h.root_at;have:=h.deepT (1+s.inos.length) 1 (h.deep 1 (by unfold dirAt;rw[ha,z0c,hr];exact hrd)) (by omega);have e:topD s=1+s.inos.length+1:=by unfold topD;omega
 rw[e];exact this
/-! How long a state's text is: few lines at each level. -/
theorem zfq:∀(L:List Int) (ns:List Int) (f:Int→Nat),(∀n∈ns,f n≠0→n∈L∧ns.count n≤1)→(ns.map f).sum≤(L.map f).sum
 | [], ns, f, h => by
  have:∀n∈ns,f n=0:=fun n hn=>by
   by_cases h0:f n=0
   ·exact h0
   ·exact absurd (h n hn h0).1 (by simp)
  have h2:ns.map f=ns.map (fun _=>0):=List.map_congr_left this
  have h3:∀l:List Int,(l.map (fun _=>0)).sum=0:=by
   intro l
   induction l with
   | nil=>rfl
   | cons a l ih=>rw[List.map_cons,List.sum_cons,ih]
  rw[h2,h3];exact Nat.zero_le _
 | a :: L, ns, f, h => by
  have h1:=zfq L ns (fun n=>if n=a then 0 else f n) (fun n hn h0=>by
   by_cases e:n=a
   ·simp[e] at h0
   ·simp only[if_neg e] at h0;have:=h n hn h0;refine⟨?_,this.2⟩
    rcases List.mem_cons.1 this.1 with h3|h3
    ·exact absurd h3 e
    ·exact h3)
  have h2:∀ms:List Int,(ms.map f).sum=ms.count a*f a+(ms.map (fun n=>if n=a then 0 else f n)).sum:=by
   intro ms
   induction ms with
   | nil=>simp
   | cons m ms ih=>
    rw[List.map_cons,List.sum_cons,ih,List.map_cons,List.sum_cons,List.count_cons]
    by_cases e:m=a
    ·subst e;simp[Nat.add_mul];omega
    ·simp[e];omega
  have h3:ns.count a*f a≤f a:=by
   by_cases h0:f a=0
   ·simp[h0]
   ·by_cases hm:a∈ns
    ·have:=(h a hm h0).2
     calc ns.count a*f a≤1*f a:=Nat.mul_le_mul_right _ this
      _=f a:=Nat.one_mul _
    ·rw[List.count_eq_zero.2 hm];simp
  have h4:(L.map (fun n=>if n=a then 0 else f n)).sum≤(L.map f).sum:=by
   clear h h1 h2 h3
   induction L with
   | nil=>simp
   | cons m ms ih=>
    rw[List.map_cons,List.sum_cons,List.map_cons,List.sum_cons]
    by_cases e:m=a
    ·simp[e];omega
    ·simp[e];omega
  rw[h2 ns,List.map_cons,List.sum_cons];omega
def kidsN (is:List Ino) (n:Int):List En:=match inoAt is (atV is n) with|none=>[]|some x=>if x.dir then x.ents else []
def belowN (is:List Ino) (ns:List Int):List Int:=ns.flatMap (fun n=>(kidsN is n).map (·.num))
def Few (s:St) (ns:List Int):Prop:=∀n,dirAt s.inos n=true→ns.count n≤1
theorem zh6 {is:List Ino} {n:Int} (h:kidsN is n≠[]):dirAt is n=true∧0≤atV is n:=by
 unfold kidsN at h;unfold dirAt
 rcases hq:inoAt is (atV is n) with _|x
 ·rw[hq] at h;exact absurd rfl h
 ·rw[hq] at h
  by_cases hd:x.dir=true
  ·refine⟨hd,?_⟩;unfold inoAt at hq
   by_cases h0:atV is n<0
   ·rw[if_pos h0] at hq;cases hq
   ·omega
  ·simp[hd] at h
theorem Good.kids_at {s:St} (h:Good s) {i:Nat} {x:Ino} (hx:s.inos[i]? =some x):kidsN s.inos x.num=if x.dir then x.ents else []:=by
 unfold kidsN;rw[h.idx hx,z0c,hx]
theorem zbr (e:En) (es:List En) (m:Int):linkE (e::es) m=(if e.num=m then 1 else 0)+linkE es m:=rfl
theorem zbs (x:Ino) (xs:List Ino) (m:Int):linkI (x::xs) m=(if x.dir then linkE x.ents m else 0)+linkI xs m:=rfl
theorem zfr (es:List En) (m:Int):(es.map (·.num)).count m=linkE es m:=by
 induction es with
 | nil=>rfl
 | cons e es ih=>
  rw[List.map_cons,List.count_cons,ih,zbr]
  by_cases he:e.num=m
  ·simp[he];omega
  ·simp[he]
theorem zai (is:List Ino) (m:Int):∀ns:List Int,(belowN is ns).count m=(ns.map (fun n=>linkE (kidsN is n) m)).sum
 | []=>rfl
 | n::ns=>by
  have:=zai is m ns;unfold belowN at this ⊢;rw[List.flatMap_cons,List.count_append,this,List.map_cons,List.sum_cons,zfr]
theorem ze9 (is:List Ino):∀ns:List Int,(belowN is ns).length=(ns.map (fun n=>(kidsN is n).length)).sum
 | []=>rfl
 | n::ns=>by
  have:=ze9 is ns;unfold belowN at this ⊢;rw[List.flatMap_cons,List.length_append,this,List.map_cons,List.sum_cons,List.length_map]
theorem zke {is:List Ino} {n:Int} (h:0≤atV is n):n∈is.map (·.num):=by
 obtain⟨y,hy,hn⟩:=zh2.1 h;exact List.mem_map.2 ⟨y,hy,hn⟩
theorem Good.few {s : St} (h : Good s) {ns : List Int} (hf : Few s ns) : Few s (belowN s.inos ns) ∧ (belowN s.inos ns).length ≤ 8224 := by
 have hk:∀x∈s.inos,kidsN s.inos x.num=if x.dir then x.ents else []:=fun x hx=>by
  obtain⟨i,hi⟩:=List.getElem?_of_mem hx;exact h.kids_at hi
 constructor
 ·intro m hm;rw [zai]
  have h1:=zfq (s.inos.map (·.num)) ns (fun n=>linkE (kidsN s.inos n) m) (fun n _ h0=>by
   have hne:kidsN s.inos n≠[]:=fun e=>h0 (by simp only[e];rfl)
   have:=zh6 hne;exact⟨zke this.2,hf n this.1⟩)
  refine Nat.le_trans h1 ?_
  have h2:∀xs:List Ino,(∀x∈xs,x∈s.inos)→((xs.map (·.num)).map (fun n=>linkE (kidsN s.inos n) m)).sum=linkI xs m:=by
   intro xs
   induction xs with
   | nil=>intro _;rfl
   | cons x xs ih =>
    intro hx;rw[List.map_cons,List.map_cons,List.sum_cons,ih (fun y hy=>hx y (by simp[hy])),hk x (hx x (by simp)),zbs]
    by_cases hd:x.dir=true
    ·rw[if_pos hd,if_pos hd]
    ·rw[if_neg hd,if_neg hd]
     rfl
  rw[h2 s.inos (fun _ hx=>hx)];unfold dirAt at hm
  rcases z0k s.inos m with⟨h3,_⟩|⟨i,x,h3,hx,hxn,_⟩
  ·rw[h3] at hm;simp[inoAt] at hm
  ·rw [h3, z0c, hx] at hm
   rcases Nat.eq_zero_or_pos i with rfl|hi
   ·obtain⟨r,hr,hrn,_⟩:=h.root;rw[hx] at hr;cases hr
    have : ∀ xs : List Ino, (∀ x ∈ xs, x ∈ s.inos) → linkI xs m = 0 := by
     intro xs
     induction xs with
     | nil=>intro _;rfl
     | cons z xs ih =>
      intro hz;rw[zbs,ih (fun y hy=>hz y (by simp[hy]))]
      by_cases hd:z.dir=true
      ·have hv:=(h.dirs z (hz z (by simp)) hd).2
       have hl:∀es:List En,(∀e∈es,e.num≠m)→linkE es m=0:=by
        intro es
        induction es with
        | nil=>intro _;rfl
        | cons e es ih2=>
         intro he;rw[zbr,if_neg (he e (by simp)),ih2 (fun y hy=>he y (by simp[hy]))]
       rw[if_pos hd,hl z.ents (fun e he=>by
        have:=(z9z s.inos z.ents none (fun _=>0) hv e he).1;rw[←hxn,hrn];exact this)]
      ·rw[if_neg hd]
    rw[this s.inos (fun _ hx=>hx)];omega
   ·have:=(h.one i x hi hx hm).1;rw[hxn] at this;omega
 ·rw [ze9]
  have h1:=zfq (s.inos.map (·.num)) ns (fun n=>(kidsN s.inos n).length) (fun n _ h0=>by
   have hne:kidsN s.inos n≠[]:=fun e=>h0 (by simp only[e];rfl)
   have:=zh6 hne;exact⟨zke this.2,hf n this.1⟩)
  refine Nat.le_trans h1 ?_
  have h2:∀xs:List Ino,(∀x∈xs,x∈s.inos)→((xs.map (·.num)).map (fun n=>(kidsN s.inos n).length)).sum≤32*xs.length:=by
   intro xs
   induction xs with
   | nil=>intro _;simp
   | cons x xs ih =>
    intro hx;have:=ih (fun y hy=>hx y (by simp[hy]))
    have h3:(kidsN s.inos x.num).length≤32:=by
     rw[hk x (hx x (by simp))]
     split
     ·exact h.ents_len (hx x (by simp))
     ·simp
    rw[List.map_cons,List.map_cons,List.sum_cons,List.length_cons];omega
  have:=h2 s.inos (fun _ hx=>hx);have:=h.len;omega
theorem zkf (p:List UInt8):(shownL p).length≤p.length+1:=by
 unfold shownL
 split
 ·simp
 ·omega
theorem zh7 {α β:Type} (f:α→List β) (g:β→Nat):∀l:List α,((l.flatMap f).map g).sum=(l.map (fun a=>((f a).map g).sum)).sum
 | []=>rfl
 | a::l=>by rw[List.flatMap_cons,List.map_append,List.sum_append,zh7 f g l,List.map_cons,List.sum_cons]
theorem zbt {α:Type} (f:α→List UInt8):∀l:List α,(l.flatMap f).length=(l.map (fun a=>(f a).length)).sum
 | []=>rfl
 | a::l=>by rw[List.flatMap_cons,List.length_append,zbt f l,List.map_cons,List.sum_cons]
theorem znc {α:Type} (f g:α→Nat) (c:Nat):∀l:List α,(∀a∈l,f a≤c+g a)→(l.map f).sum≤l.length*c+(l.map g).sum
 | [],_=>by simp
 | a::l,h=>by
  have h1:=znc f g c l (fun x hx=>h x (by simp[hx]));have h2:=h a (by simp);rw[List.map_cons,List.sum_cons,List.map_cons,List.sum_cons,List.length_cons,Nat.add_mul];omega
theorem zct {is:List Ino} {n:Nat} {num:Int} {p:List UInt8} {x:Ino} (hx:inoAt is (atV is num)=some x) (hd:x.dir=true):walkL is (n+1) num p=lineD p num++x.ents.flatMap (fun e=>walkL is n e.num (stepSh p e.name)):=by
 conv=>lhs;unfold walkL
 rw[hx];simp only[hd,if_true]
theorem zaj {is:List Ino} {n:Nat} {num:Int} {p:List UInt8} {x:Ino} (hx:inoAt is (atV is num)=some x) (hd:x.dir=false):walkL is (n+1) num p=lineF p num x.data.data.toList:=by
 conv=>lhs;unfold walkL
 rw[hx];simp[hd]
theorem zm9 {is:List Ino} {n:Nat} {num:Int} {p:List UInt8} (hd:DeepT is (n+1) num):
  (walkL is (n+1) num p).length≤(p.length+530)+((kidsN is num).map (fun e=>(walkL is n e.num (stepSh p e.name)).length)).sum:=by
 obtain⟨x,hx,hr,hs,hf,_⟩:=hd;have h3:(decN num).length≤3:=z2t (by omega);have h4:=zkf p;have h5:=zh4 x.data.data.toList;have h6:x.data.data.toList.length=x.data.size:=Array.length_toList
 by_cases hdir:x.dir=true
 ·have hk:kidsN is num=x.ents:=by unfold kidsN;rw[hx];simp[hdir]
  rw[zct hx hdir,hk,List.length_append,zbt]
  have:(lineD p num).length≤p.length+530:=by
   unfold lineD;simp only[List.length_cons,List.length_append,List.length_nil];omega
  omega
 ·rw[zaj hx (by simpa using hdir)];unfold lineF;simp only[List.length_cons,List.length_append,List.length_nil];omega
theorem Good.walk_len {s:St} (h:Good s):∀(d a:Nat) (ps:List (Int×List UInt8)),Few s (ps.map Prod.fst)→ps.length≤8225→(∀q∈ps,DeepT s.inos d q.1∧q.2.length≤a)→
  (ps.map (fun q=>(walkL s.inos d q.1 q.2).length)).sum≤d*(8225*(a+13*d+530))
 | 0,a,ps,_,_,hd=>by
  have:∀q∈ps,False:=fun q hq=>(hd q hq).1
  cases ps with
  | nil=>simp
  | cons q ps=>exact absurd (this q (by simp)) (by simp)
 | d + 1, a, ps, hf, hl, hd => by
  have h1:=znc (fun q:Int×List UInt8=>(walkL s.inos (d+1) q.1 q.2).length) (fun q=>((kidsN s.inos q.1).map (fun e=>(walkL s.inos d e.num (stepSh q.2 e.name)).length)).sum) (a+530) ps (fun q hq=>by
   have:=zm9 (p:=q.2) (hd q hq).1;have:=(hd q hq).2;omega)
  have hfew:=h.few hf
  have e1:(ps.flatMap (fun q=>(kidsN s.inos q.1).map (fun e=>(e.num,stepSh q.2 e.name)))).map Prod.fst=belowN s.inos (ps.map Prod.fst):=by
   unfold belowN;rw[List.map_flatMap,List.flatMap_map]
   congr 1
   funext q
   rw[List.map_map]
   rfl
  have h2:=h.walk_len d (a+13) (ps.flatMap (fun q=>(kidsN s.inos q.1).map (fun e=>(e.num,stepSh q.2 e.name)))) (by rw[e1];exact hfew.1) (by
   have:=congrArg List.length e1;rw[List.length_map] at this;rw[this]
   exact Nat.le_succ_of_le hfew.2) (fun q hq=>by
    obtain⟨r,hr,hq⟩:=List.mem_flatMap.1 hq;obtain⟨e,he,rfl⟩:=List.mem_map.1 hq;obtain⟨x,hx,_,_,_,hall⟩:=(hd r hr).1
    have he2:e∈x.ents:=by
     unfold kidsN at he;rw[hx] at he
     by_cases hdir:x.dir=true
     ·simpa [hdir] using he
     ·simp[hdir] at he
    have h3:=hall e he2;refine⟨h3.2,?_⟩;have h4:=(hd r hr).2;have h5:e.name.data.toList.length=e.name.size:=Array.length_toList;unfold stepSh;simp only[List.length_append,List.length_cons];omega)
  rw[zh7] at h2;simp only[List.map_map] at h2;have e3:ps.length*(a+530)≤8225*(a+530):=Nat.mul_le_mul_right _ hl
  have e4:(d+1)*(8225*(a+13*(d+1)+530))=d*(8225*(a+13+13*d+530))+8225*(a+13*(d+1)+530):=by
   rw[Nat.add_mul,Nat.one_mul];have:a+13*(d+1)+530=a+13+13*d+530:=by omega
   rw[this]
  rw[e4];refine Nat.le_trans h1 ?_;have e5:8225*(a+530)≤8225*(a+13*(d+1)+530):=Nat.mul_le_mul_left _ (by omega);have e6:(ps.map (fun q=>((kidsN s.inos q.1).map (fun e=>(walkL s.inos d e.num (stepSh q.2 e.name)).length)).sum)).sum≤d*(8225*(a+13+13*d+530)):=h2;rw[Nat.add_comm];exact Nat.add_le_add e6 (Nat.le_trans e3 e5)
def maxT:Nat:=259*(8225*(0+13*259+530))
theorem znw:maxT≤17179869184:=by decide+kernel
theorem Good.files_len {s:St} (h:Good s):(filesL s).length≤17179869184:=by
 have hl:=h.len
 have h1:=h.walk_len (topD s) 0 [(1,[])] (fun n _=>by
  show [(1:Int)].count n≤1
  exact Nat.le_trans List.count_le_length (Nat.le_refl _)) (by simp) (fun q hq=>by
   have:q=(1,[]):=by simpa using hq
   subst this;exact⟨h.top,Nat.le_refl _⟩)
 have h2:topD s≤259:=by unfold topD;omega
 have h3:topD s*(8225*(0+13*topD s+530))≤maxT:=Nat.mul_le_mul h2 (Nat.mul_le_mul_left _ (Nat.add_le_add_right (Nat.add_le_add_left (Nat.mul_le_mul_left _ h2) _) _));have h4:(([(1,[])]:List (Int×List UInt8)).map (fun q=>(walkL s.inos (topD s) q.1 q.2).length)).sum=(filesL s).length:=rfl;rw[h4] at h1;exact Nat.le_trans h1 (Nat.le_trans h3 znw)
end Go.Proofs.YtkflaifopbodfaaGreatDoor
namespace Go.Proofs.YtkflaifopbodfaaGreatDoor
open Go.Lib (decodeN)
/-! What bytes a name has. -/
theorem zfs (n b0 b1 b2 b3:Nat):(b0<128→decodeN n b0 b1 b2 b3=(b0,1))∧(2≤(decodeN n b0 b1 b2 b3).2→b1 / 64=2)∧(3≤(decodeN n b0 b1 b2 b3).2→b2 / 64=2)∧(4≤(decodeN n b0 b1 b2 b3).2→b3 / 64=2):=by
 unfold decodeN;refine⟨fun h=>by rw[if_pos h],?_⟩
 repeat' split
 all_goals (simp only;omega)
def Plainly (b:UInt8):Prop:=b≠47∧32≤b.toNat
theorem zak (l:List UInt8) (hl:l≠[]) (h:runeBad (decodeL l)=false):∀b∈l.take (decodeL l).2,Plainly b:=by
 have hn:=zfs l.length (l.getD 0 0).toNat (l.getD 1 0).toNat (l.getD 2 0).toNat (l.getD 3 0).toNat;have hw:=z0p l;intro b hb;obtain⟨j,hj,rfl⟩:=List.getElem_of_mem hb;have hj1:j<(decodeL l).2∧j<l.length:=by rw[List.length_take] at hj;omega
 rw[List.getElem_take];have hg:l[j]'hj1.2=l.getD j 0:=by rw[List.getD_eq_getElem?_getD,List.getElem?_eq_getElem hj1.2];rfl
 rw[hg];have hd:(decodeL l).2=(decodeN l.length (l.getD 0 0).toNat (l.getD 1 0).toNat (l.getD 2 0).toNat (l.getD 3 0).toNat).2:=rfl;have he:decodeL l=decodeN l.length (l.getD 0 0).toNat (l.getD 1 0).toNat (l.getD 2 0).toNat (l.getD 3 0).toNat:=rfl;rw[←hd,←he] at hn;have big:∀c:UInt8,128≤c.toNat→Plainly c:=fun c hc=>⟨fun e=>by rw[e] at hc;exact absurd hc (by decide),by omega⟩
 match j,hj1 with
 | 0,_=>
  by_cases h0:(l.getD 0 0).toNat<128
  ·have:=hn.1 h0;rw[this] at h;unfold runeBad at h;simp only[Bool.or_eq_false_iff,beq_eq_false_iff_ne,decide_eq_false_iff_not] at h;exact⟨fun e=>h.1.1.1 (by rw[e];rfl),by omega⟩
  ·exact big _ (by omega)
 | 1,hj1=>exact big _ (by have:=hn.2.1 (by omega);omega)
 | 2,hj1=>exact big _ (by have:=hn.2.2.1 (by omega);omega)
 | 3,hj1=>exact big _ (by have:=hn.2.2.2 (by omega);omega)
 | j+4,hj1=>omega
theorem z5j:∀(n:Nat) (l:List UInt8),l.length≤n→anyBad l=false→∀b∈l,Plainly b
 | 0,l,hl,_,b,hb=>by
  have:l=[]:=List.eq_nil_of_length_eq_zero (by omega);subst this;cases hb
 | n + 1, l, hl, h, b, hb => by
  by_cases e:l=[]
  ·subst e;cases hb
  ·have hw:=z0p l;have hd:(l.drop (decodeL l).2).length=l.length-(decodeL l).2:=List.length_drop;rw[z5p l e,Bool.or_eq_false_iff] at h;have hs:=zak l e h.1;have hm:b∈l.take (decodeL l).2++l.drop (decodeL l).2:=by rw[List.take_append_drop];exact hb
   rcases List.mem_append.1 hm with hm|hm
   ·exact hs b hm
   ·exact z5j n _ (by omega) h.2 b hm
def NameOk (l:List UInt8):Prop:=l≠[]∧∀b∈l,Plainly b
theorem zoq {n:ByteArray} (h:chkB n=0):NameOk n.data.toList:=by
 unfold chkB checkL at h
 split at h
 ·omega
 ·split at h
  ·omega
  ·rename_i h1
   split at h
   ·omega
   ·rename_i hb;exact⟨fun e=>h1 (.inl e),z5j _ _ (Nat.le_refl _) (by simpa using hb)⟩
/-! Texts that are cut at a byte. -/
theorem zcu (P:UInt8→Prop):∀(a b R R':List UInt8),(∀c∈a,P c)→(∀c∈b,P c)→(∀c t,R=c::t→¬P c)→(∀c t,R'=c::t→¬P c)→a++R=b++R'→a=b∧R=R'
 | [],[],R,R',_,_,_,_,h=>⟨rfl,h⟩
 | [],y::b,R,R',_,hb,hR,_,h=>absurd (hb y (by simp)) (hR y (b++R') h)
 | x::a,[],R,R',ha,_,_,hR',h=>absurd (ha x (by simp)) (hR' x (a++R) h.symm)
 | x::a,y::b,R,R',ha,hb,hR,hR',h=>by
  have h1:x=y∧a++R=b++R':=by simpa using h
  have:=zcu P a b R R' (fun c hc=>ha c (by simp[hc])) (fun c hc=>hb c (by simp[hc])) hR hR' h1.2;exact⟨by rw[h1.1,this.1],this.2⟩
theorem zea (s:UInt8) (a b R R':List UInt8) (ha:∀c∈a,c≠s) (hb:∀c∈b,c≠s) (h:a++s::R=b++s::R'):a=b∧R=R':=by
 have:=zcu (fun c=>c≠s) a b (s::R) (s::R') ha hb (fun c t e=>by cases e;simp) (fun c t e=>by cases e;simp) h;exact⟨this.1,by simpa using this.2⟩
theorem z7z (s:UInt8) (a b u v:List UInt8) (hu:∀c∈u,c≠s) (hv:∀c∈v,c≠s) (h:a++s::u=b++s::v):a=b∧u=v:=by
 have h1:=congrArg List.reverse h;simp only[List.reverse_append,List.reverse_cons,List.append_assoc] at h1;have h2:=zea s u.reverse v.reverse a.reverse b.reverse (fun c hc=>hu c (List.mem_reverse.1 hc)) (fun c hc=>hv c (List.mem_reverse.1 hc)) (by simpa using h1);exact⟨List.reverse_inj.1 h2.2,List.reverse_inj.1 h2.1⟩
theorem z9f {α:Type} (f:α→List UInt8) (ok:α→Prop) (hd:UInt8→Prop) (hinj:∀a b R R',ok a→ok b→f a++R=f b++R'→a=b∧R=R') (hhead:∀a,ok a→∃c t,f a=c::t∧hd c):
  ∀(xs ys:List α) (T T':List UInt8),(∀a∈xs,ok a)→(∀b∈ys,ok b)→(∀c t,T=c::t→¬hd c)→(∀c t,T'=c::t→¬hd c)→xs.flatMap f++T=ys.flatMap f++T'→xs=ys∧T=T'
 | [],[],T,T',_,_,_,_,h=>⟨rfl,by simpa using h⟩
 | [],b::ys,T,T',_,hb,hT,_,h=>by
  obtain⟨c,t,e,hc⟩:=hhead b (hb b (by simp));simp only[List.flatMap_nil,List.flatMap_cons,e,List.nil_append,List.cons_append] at h;exact absurd hc (hT _ _ h)
 | a::xs,[],T,T',ha,_,_,hT',h=>by
  obtain⟨c,t,e,hc⟩:=hhead a (ha a (by simp));simp only[List.flatMap_nil,List.flatMap_cons,e,List.nil_append,List.cons_append] at h;exact absurd hc (hT' _ _ h.symm)
 | a::xs,b::ys,T,T',ha,hb,hT,hT',h=>by
  simp only[List.flatMap_cons,List.append_assoc] at h;have h1:=hinj a b _ _ (ha a (by simp)) (hb b (by simp)) h;have h2:=z9f f ok hd hinj hhead xs ys T T' (fun z hz=>ha z (by simp[hz])) (fun z hz=>hb z (by simp[hz])) hT hT' h1.2;exact⟨by rw[h1.1,h2.1],h2.2⟩
/-! Numbers and bytes as digits. -/
theorem z6x {d:Nat} (h:d<10):(UInt8.ofNat (48+d)).toNat=48+d:=by
 rw[UInt8.toNat_ofNat'];omega
theorem zcv:∀(k u:Nat),u≤k→∀c∈Lib.decDigits u,48≤c.toNat∧c.toNat≤57
 | k,u,hk,c,hc=>by
  rw[Lib.decDigits_eq] at hc;obtain⟨t,_,rfl⟩:=List.mem_map.1 hc;unfold Lib.dg;rw[z6x (Nat.mod_lt _ (by omega))];omega
theorem zcw (n:Int):∀c∈decN n,48≤c.toNat∧c.toNat≤57:=zcv _ _ (Nat.le_refl _)
theorem zal (n:Int) (s:UInt8) (hs:s.toNat<48∨57<s.toNat):∀c∈decN n,c≠s:=fun c hc e=>by
 have:=zcw n c hc;rw[e] at this;omega
theorem z6y:∀(k u v:Nat),u≤k→Lib.decDigits u=Lib.decDigits v→u=v
 | k, u, v, hk, h => by
  have hl:=congrArg List.length h;rw[Lib.decDigits_length,Lib.decDigits_length] at hl
  by_cases h1:u<10
  ·by_cases h2:v<10
   ·rw[Lib.decDigits_one h1,Lib.decDigits_one h2] at h;have:=congrArg UInt8.toNat (List.cons.inj h).1;rw[z6x h1,z6x h2] at this;omega
   ·rw[Lib.nDigits_small h1,Lib.nDigits_big h2] at hl;have:=Lib.nDigits_pos (v / 10);omega
  ·by_cases h2:v<10
   ·rw[Lib.nDigits_small h2,Lib.nDigits_big h1] at hl;have:=Lib.nDigits_pos (u / 10);omega
   ·have eu:∀w:Nat,¬w<10→Lib.decDigits w=Lib.decDigits (w / 10)++[UInt8.ofNat (48+w%10)]:=fun w hw=>by rw[Lib.decDigits,dif_neg hw]
    rw[eu u h1,eu v h2] at h;have h3:=List.append_inj' h rfl
    match k,hk with
    | 0,hk=>omega
    | k+1,hk=>
     have h4:=z6y k (u / 10) (v / 10) (by omega) h3.1;have h5:=congrArg UInt8.toNat (List.cons.inj h3.2).1;rw[z6x (Nat.mod_lt _ (by omega)),z6x (Nat.mod_lt _ (by omega))] at h5;omega
theorem z3r {m n:Int} (hm:0≤m) (hn:0≤n) (h:decN m=decN n):m=n:=by
 have:=z6y _ _ _ (Nat.le_refl _) h;omega
theorem zcx (n:Nat) (h:n<16):(hexD n).toNat=if n<10 then 48+n else 87+n:=by
 unfold hexD
 split
 ·rw[UInt8.toNat_ofNat'];omega
 ·rw[UInt8.toNat_ofNat'];omega
theorem zh8 (n:Nat) (h:n<16):48≤(hexD n).toNat∧(hexD n).toNat≤102:=by
 rw[zcx n h]
 split<;>omega
theorem zh9:∀(l:List UInt8),∀c∈hexL l,45≤c.toNat∧c.toNat≤102
 | [],c,hc=>by cases hc
 | b::bs,c,hc=>by
  have hb:b.toNat<256:=UInt8.toNat_lt b;simp only[hexL,List.mem_cons] at hc
  rcases hc with rfl|rfl|hc
  ·have:=zh8 (b.toNat / 16) (by omega);omega
  ·have:=zh8 (b.toNat%16) (by omega);omega
  ·exact zh9 bs c hc
theorem zma (l:List UInt8):∀c∈hexT l,45≤c.toNat∧c.toNat≤102:=by
 unfold hexT
 split
 ·intro c hc;have:c=45:=by simpa using hc
  subst this
  decide
 ·exact zh9 l
theorem zcy (l:List UInt8) (s:UInt8) (hs:s.toNat<45):∀c∈hexT l,c≠s:=fun c hc e=>by
 have:=zma l c hc;rw[e] at this;omega
theorem zha {m n:Nat} (hm:m<16) (hn:n<16) (h:hexD m=hexD n):m=n:=by
 have:=congrArg UInt8.toNat h;rw[zcx m hm,zcx n hn] at this
 split at this<;>split at this<;>omega
theorem zhb:∀(l m:List UInt8),hexL l=hexL m→l=m
 | [],[],_=>rfl
 | [],b::m,h=>by cases h
 | a::l,[],h=>by cases h
 | a::l,b::m,h=>by
  have ha:a.toNat<256:=UInt8.toNat_lt a;have hb:b.toNat<256:=UInt8.toNat_lt b;simp only[hexL,List.cons.injEq] at h;have h1:=zha (by omega) (by omega) h.1;have h2:=zha (by omega) (by omega) h.2.1;have h3:a=b:=UInt8.toNat_inj.1 (by omega);rw[h3,zhb l m h.2.2]
theorem zhc {l m:List UInt8} (h:hexT l=hexT m):l=m:=by
 unfold hexT at h
 have hl:∀x:List UInt8,x≠[]→hexL x≠[45]:=fun x hx e=>by
  have:=congrArg List.length e;rw[z5d] at this;simp at this;omega
 by_cases h1:l=[]
 ·by_cases h2:m=[]
  ·rw[h1,h2]
  ·rw[if_pos h1,if_neg h2] at h;exact absurd h.symm (hl m h2)
 ·by_cases h2:m=[]
  ·rw[if_neg h1,if_pos h2] at h;exact absurd h (hl l h1)
  ·rw[if_neg h1,if_neg h2] at h;exact zhb l m h
/-! Paths. -/
def pathT (p:List (List UInt8)):List UInt8:=p.flatMap (fun n=>47::n)
theorem zam:∀(p q:List (List UInt8)),(∀n∈p,NameOk n)→(∀n∈q,NameOk n)→pathT p=pathT q→p=q
 | [],[],_,_,_=>rfl
 | [],n::q,_,_,h=>by cases h
 | n::p,[],_,_,h=>by cases h
 | n :: p, m :: q, hp, hq, h => by
  unfold pathT at h;simp only[List.flatMap_cons,List.cons_append,List.cons.injEq,true_and] at h
  have hd:∀(r:List (List UInt8)) (c:UInt8) (t:List UInt8),r.flatMap (fun n=>(47:UInt8)::n)=c::t→¬c≠47:=fun r c t e=>by
   cases r with
   | nil=>cases e
   | cons x r=>
    simp only[List.flatMap_cons,List.cons_append,List.cons.injEq] at e;simp[e.1]
  have h1:=zcu (fun c=>c≠47) n m _ _ (fun c hc=>((hp n (by simp)).2 c hc).1) (fun c hc=>((hq m (by simp)).2 c hc).1) (hd p) (hd q) h;rw[h1.1,zam p q (fun x hx=>hp x (by simp[hx])) (fun x hx=>hq x (by simp[hx])) h1.2]
theorem zeb {p q:List (List UInt8)} (hp:∀n∈p,NameOk n) (hq:∀n∈q,NameOk n) (h:shownL (pathT p)=shownL (pathT q)):p=q:=by
 have key:∀r:List (List UInt8),(∀n∈r,NameOk n)→pathT r≠[47]:=fun r hr e=>by
  cases r with
  | nil=>cases e
  | cons n r=>
   unfold pathT at e;simp only[List.flatMap_cons,List.cons_append,List.cons.injEq,true_and,List.append_eq_nil_iff] at e;exact(hr n (by simp)).1 e.1
 unfold shownL at h
 by_cases h1:pathT p=[]
 ·by_cases h2:pathT q=[]
  ·exact zam p q hp hq (by rw[h1,h2])
  ·rw[if_pos h1,if_neg h2] at h;exact absurd h.symm (key q hq)
 ·by_cases h2:pathT q=[]
  ·rw[if_neg h1,if_pos h2] at h;exact absurd h (key p hp)
  ·rw[if_neg h1,if_neg h2] at h;exact zam p q hp hq h
theorem zec {p:List (List UInt8)} (hp:∀n∈p,NameOk n):∀c∈shownL (pathT p),c≠10:=by
 have h1:∀c∈pathT p,c≠10:=fun c hc e=>by
  unfold pathT at hc;obtain⟨n,hn,hc⟩:=List.mem_flatMap.1 hc
  rcases List.mem_cons.1 hc with h|h
  ·rw[e] at h;exact absurd h (by decide)
  ·have:=((hp n hn).2 c h).2;rw[e] at this;exact absurd this (by decide)
 unfold shownL
 split
 ·intro c hc;have:c=47:=by simpa using hc
  rw[this]
  decide
 ·exact h1
end Go.Proofs.YtkflaifopbodfaaGreatDoor
