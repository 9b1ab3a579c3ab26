/- Parts of the proof, side by side: Deep, Deep2, Small, DoOk, DoOk2, MoPlain. -/
import Derived.Test.YtmmpkfcdfcldlaaGreatM23
import Derived.Test.YtmmpkfcdfcldlaaGreatM09
import Derived.Test.YtmmpkfcdfcldlaaGreatM04
import Derived.Test.YtmmpkfcdfcldlaaGreatM03
set_option linter.unusedVariables false
set_option linter.unusedSimpArgs false
namespace Go.Proofs.YtmmpkfcdfcldlaaGreat
inductive Lev (is:List Ino):Nat→Nat→Prop where
 | root:Lev is 0 0
 | step {k i j:Nat} {x:Ino} {e:En}:Lev is k i→is[i]? =some x→x.dir=true→e∈x.ents→atV is e.num=(j:Int)→Lev is (k+1) j
theorem zcc (is:List Ino):∀(es:List En) (p:Option ByteArray) (many:Nat→Nat),entsG is es p many=true→∀e∈es,e.num≠1∧0≤atV is e.num
 | [],_,_,_,e,he=>by simp at he
 | y :: es, p, many, h, e, he => by
  unfold entsG at h
  split at h
  ·cases h
  ·rename_i h1
   split at h
   ·cases h
   ·rcases List.mem_cons.1 he with rfl|he
    ·unfold entBad at h1;simp only[Bool.or_eq_true,decide_eq_true_eq,not_or] at h1;exact⟨h1.1.2,by omega⟩
    ·exact zcc is es _ _ h e he
theorem zcd {es:List En} {e:En} (h:e∈es):1≤linkE es e.num:=by
 induction es with
 | nil=>simp at h
 | cons y ys ih=>
  unfold linkE
  rcases List.mem_cons.1 h with rfl|h
  ·rw[if_pos rfl];omega
  ·have:=ih h;omega
theorem zf4:∀(is:List Ino) (i:Nat) (x:Ino) (num:Int),is[i]? =some x→x.dir=true→linkE x.ents num≤linkI is num
 | [],i,x,num,h,_=>by simp at h
 | y::ys,0,x,num,h,hd=>by
  have:y=x:=by simpa using h
  subst this;unfold linkI;rw[hd,if_pos rfl];omega
 | y::ys,i+1,x,num,h,hd=>by
  have:=zf4 ys i x num (by simpa using h) hd;unfold linkI;omega
theorem z8x:∀(is:List Ino) (i j:Nat) (x y:Ino) (num:Int),i<j→is[i]? =some x→is[j]? =some y→x.dir=true→y.dir=true→linkE x.ents num+linkE y.ents num≤linkI is num
 | [],i,j,x,y,num,_,h,_,_,_=>by simp at h
 | z::zs,0,j+1,x,y,num,_,h,h2,hd,hd2=>by
  have:z=x:=by simpa using h
  subst this;have:=zf4 zs j y num (by simpa using h2) hd2;unfold linkI;rw[hd,if_pos rfl];omega
 | z::zs,i+1,j+1,x,y,num,hij,h,h2,hd,hd2=>by
  have:=z8x zs i j x y num (by omega) (by simpa using h) (by simpa using h2) hd hd2;unfold linkI;omega
theorem Good.idx {s:St} (h:Good s) {i:Nat} {x:Ino} (hx:s.inos[i]? =some x):atV s.inos x.num=(i:Int):=zhy h.rise hx
theorem Good.parent {s:St} (h:Good s) {i j k:Nat} {x y z:Ino} {e e':En} (hk:0<k) (hz:s.inos[k]? =some z) (hzd:z.dir=true) (hx:s.inos[i]? =some x) (hxd:x.dir=true) (he:e∈x.ents) (hen:e.num=z.num)
  (hy:s.inos[j]? =some y) (hyd:y.dir=true) (he':e'∈y.ents) (hen':e'.num=z.num):i=j:=by
 have h1:=(h.one k z hk hz hzd).1;have a1:=zcd he;have a2:=zcd he';rw[hen] at a1;rw[hen'] at a2
 rcases Nat.lt_trichotomy i j with hij|hij|hij
 ·have:=z8x _ i j x y z.num hij hx hy hxd hyd;omega
 ·exact hij
 ·have:=z8x _ j i y x z.num hij hy hx hyd hxd;omega
theorem Good.ent {s:St} (h:Good s) {i:Nat} {x:Ino} {e:En} (hx:s.inos[i]? =some x) (hd:x.dir=true) (he:e∈x.ents):∃(j:Nat) (y:Ino),0<j∧s.inos[j]? =some y∧y.num=e.num∧atV s.inos e.num=(j:Int):=by
 have h1:=(h.dirs x (List.mem_of_getElem? hx) hd).2;obtain⟨h2,h3⟩:=zcc _ _ _ _ h1 e he
 rcases z0u s.inos e.num with⟨h4,_⟩|⟨j,y,h4,h5,h6,_⟩
 ·omega
 ·refine⟨j,y,?_,h5,h6,h4⟩;obtain⟨r,hr,hrn,_⟩:=h.root
  rcases Nat.eq_zero_or_pos j with rfl|hj
  ·rw[hr] at h5;cases h5;omega
  ·exact hj
theorem Good.lev_zero {s:St} (h:Good s) {k:Nat} (hl:Lev s.inos k 0):k=0:=by
 cases hl with
 | root=>rfl
 | step hl hx hd he hj=>
  obtain⟨j,y,hj0,hy,hyn,hat⟩:=h.ent hx hd he;rw[hat] at hj;omega
theorem Good.lev_one {s:St} (h:Good s):∀(k k' i:Nat) (z:Ino),s.inos[i]? =some z→z.dir=true→Lev s.inos k i→Lev s.inos k' i→k=k'
 | 0,k',i,z,hz,hzd,h1,h2=>by
  cases h1 with
  | root=>exact(h.lev_zero h2).symm
 | k+1,0,i,z,hz,hzd,h1,h2=>by
  cases h2 with
  | root=>exact h.lev_zero h1
 | k + 1, k' + 1, i, z, hz, hzd, h1, h2 => by
  cases h1 with
  | step g1 hx hd he hj =>
   cases h2 with
   | step g2 hx2 hd2 he2 hj2=>
    obtain⟨j1,y1,hp1,hy1,hn1,ha1⟩:=h.ent hx hd he;obtain⟨j2,y2,hp2,hy2,hn2,ha2⟩:=h.ent hx2 hd2 he2;rw[ha1] at hj;rw[ha2] at hj2;have e1:j1=i:=by omega
    have e2:j2=i:=by omega
    subst e1;subst e2;rw[hz] at hy1 hy2;cases hy1;cases hy2;have e:=h.parent hp1 hz hzd hx hd he hn1.symm hx2 hd2 he2 hn2.symm;subst e;have:=h.lev_one k k' _ _ hx hd g1 g2;omega
theorem z2q:∀(n:Nat) (l:List Nat),l.Nodup→(∀x∈l,x<n)→l.length≤n
 | 0,[],_,_=>Nat.le_refl _
 | 0,x::l,_,h=>absurd (h x List.mem_cons_self) (by omega)
 | n + 1, l, hn, h => by
  by_cases hm:n∈l
  ·have h1:=List.length_erase_of_mem hm
   have h2:=z2q n (l.erase n) (hn.erase n) (fun x hx=>by
    have h3:=List.mem_of_mem_erase hx;have h4:=h x h3
    have h5:x≠n:=fun e=>by
     subst e;exact(List.Nodup.not_mem_erase hn) hx
    omega)
   have:0<l.length:=List.length_pos_of_mem hm;omega
  ·have:=z2q n l hn (fun x hx=>by
    have h4:=h x hx;have h5:x≠n:=fun e=>hm (e▸hx)
    omega)
   omega
theorem Deep.more {is:List Ino}:∀(n:Nat) (num:Int),Deep is n num→Deep is (n+1) num
 | 0,num,h=>absurd h (by intro h;exact h)
 | n+1,num,h=>fun x hx e he hd=>Deep.more n e.num (h x hx e he hd)
theorem Deep.le {is:List Ino} {n m:Nat} {num:Int} (h:Deep is n num) (hm:n≤m):Deep is m num:=by
 induction m with
 | zero=>
  have:n=0:=by omega
  subst this;exact h
 | succ m ih=>
  by_cases e:n=m+1
  ·subst e;exact h
  ·exact Deep.more _ _ (ih (by omega))
structure Way (s:St) (l:List Nat) (i:Nat):Prop where
 nodup:l.Nodup
 lt:∀j∈l,j<s.inos.length
 lev:∀j∈l,∃a z,a<l.length∧Lev s.inos a j∧s.inos[j]? =some z∧z.dir=true
 last:∃k,k+1=l.length∧Lev s.inos k i
theorem Good.deep_way {s:St} (h:Good s):∀(m:Nat) (l:List Nat) (i:Nat) (x:Ino),Way s l i→s.inos[i]? =some x→x.dir=true→m+l.length=s.inos.length+1→Deep s.inos m x.num
 | 0,l,i,x,hw,hx,hd,hm=>by
  have:=z2q _ _ hw.nodup hw.lt;omega
 | m + 1, l, i, x, hw, hx, hd, hm => by
  intro x' hx' e he hde;rw[h.idx hx,z0c,hx] at hx';cases hx';obtain⟨j,y,hj0,hy,hyn,hat⟩:=h.ent hx hd he;obtain⟨k,hk,hlk⟩:=hw.last
  have hyd:y.dir=true:=by
   unfold dirAt at hde;rw[hat,z0c,hy] at hde;exact hde
  have hlj:Lev s.inos (k+1) j:=Lev.step hlk hx hd he hat
  have hnot:j∉l:=fun hm2=>by
   obtain⟨a,z,ha,hla,hz,hzd⟩:=hw.lev j hm2;have:=h.lev_one _ _ _ _ hz hzd hla hlj;omega
  rw[←hyn];refine h.deep_way m (j::l) j y ⟨List.nodup_cons.2 ⟨hnot,hw.nodup⟩,?_,?_,⟨k+1,by rw[List.length_cons];omega,hlj⟩⟩ hy hyd (by rw[List.length_cons];omega)
  ·intro q hq
   rcases List.mem_cons.1 hq with rfl|hq
   ·exact(List.getElem?_eq_some_iff.1 hy).1
   ·exact hw.lt q hq
  ·intro q hq
   rcases List.mem_cons.1 hq with rfl|hq
   ·exact⟨k+1,y,by rw[List.length_cons];omega,hlj,hy,hyd⟩
   ·obtain⟨a,z,ha,h2⟩:=hw.lev q hq;exact⟨a,z,by rw[List.length_cons];omega,h2⟩
theorem Good.way {s:St} (h:Good s):∀(k i:Nat) (x:Ino),Lev s.inos k i→s.inos[i]? =some x→x.dir=true→∃l,Way s l i∧l.length=k+1:=by
 intro k i x hl
 induction hl generalizing x with
 | root =>
  intro hx hd;refine⟨[0],⟨List.nodup_cons.2 ⟨by simp,List.nodup_nil⟩,?_,?_,⟨0,rfl,Lev.root⟩⟩,rfl⟩
  ·intro j hj;have:j=0:=by simpa using hj
   subst this;exact(List.getElem?_eq_some_iff.1 hx).1
  ·intro j hj;have:j=0:=by simpa using hj
   subst this;exact⟨0,x,by simp,Lev.root,hx,hd⟩
 | @step k' i' j' x' e' hl' hx' hd' he' hj' ih =>
  intro hx hd;obtain⟨l,hw,hlen⟩:=ih x' hx' hd';have hlj:Lev s.inos (k'+1) j':=Lev.step hl' hx' hd' he' hj'
  have hnot:j'∉l:=fun hm2=>by
   obtain⟨a,z,ha,hla,hz,hzd⟩:=hw.lev j' hm2;have:=h.lev_one _ _ _ _ hz hzd hla hlj;omega
  refine⟨j'::l,⟨List.nodup_cons.2 ⟨hnot,hw.nodup⟩,?_,?_,⟨k'+1,by rw[List.length_cons];omega,hlj⟩⟩,by rw[List.length_cons,hlen]⟩
  ·intro q hq
   rcases List.mem_cons.1 hq with rfl|hq
   ·exact(List.getElem?_eq_some_iff.1 hx).1
   ·exact hw.lt q hq
  ·intro q hq
   rcases List.mem_cons.1 hq with rfl|hq
   ·exact⟨k'+1,x,by rw[List.length_cons];omega,hlj,hx,hd⟩
   ·obtain⟨a,z,ha,h2⟩:=hw.lev q hq;exact⟨a,z,by rw[List.length_cons];omega,h2⟩
theorem Good.root_at {s:St} (h:Good s):atV s.inos 1=((0:Nat):Int):=by
 obtain⟨r,hr,hrn,_⟩:=h.root;have:=h.idx hr;rw[hrn] at this;exact this
theorem Good.lev_of {s:St} (h:Good s) {i:Nat} (hr:Reach s.inos i):∃k,Lev s.inos k i:=by
 induction hr with
 | root k hk=>
  rw[h.root_at] at hk;have:k=0:=by omega
  subst this;exact⟨0,Lev.root⟩
 | step k j x e _ hx hd he hj ih=>
  obtain⟨k',hk'⟩:=ih;exact⟨k'+1,Lev.step hk' hx hd he hj⟩
theorem Good.deep {s:St} (h:Good s) (num:Int) (hd:dirAt s.inos num=true):Deep s.inos (1+s.inos.length) num:=by
 unfold dirAt at hd
 rcases z0u s.inos num with⟨h1,_⟩|⟨i,x,h1,hx,hxn,_⟩
 ·rw[h1] at hd;simp[inoAt] at hd
 ·rw[h1,z0c,hx] at hd;have hd2:x.dir=true:=hd
  have hr:Reach s.inos i:=by
   rcases Nat.eq_zero_or_pos i with rfl|hi
   ·exact Reach.root 0 h.root_at
   ·exact(h.one i x hi hx hd2).2
  obtain⟨k,hl⟩:=h.lev_of hr;obtain⟨l,hw,hlen⟩:=h.way k i x hl hx hd2;have hle:=z2q _ _ hw.nodup hw.lt;have:=h.deep_way (s.inos.length+1-l.length) l i x hw hx hd2 (by omega);rw[hxn] at this;exact this.le (by omega)
def sum8 (f:Nat→Nat):Nat:=f 0+f 1+f 2+f 3+f 4+f 5+f 6+f 7
theorem zjt (f:Nat→Nat) (b:Nat) (hb:b<8):sum8 (fun q=>if q=b then f q+1 else f q)=sum8 f+1:=by
 have:b=0∨b=1∨b=2∨b=3∨b=4∨b=5∨b=6∨b=7:=by omega
 unfold sum8
 rcases this with rfl|rfl|rfl|rfl|rfl|rfl|rfl|rfl<;>simp<;>omega
theorem zce (is:List Ino):∀(es:List En) (p:Option ByteArray) (many:Nat→Nat),(∀b,b<8→many b≤4)→entsG is es p many=true→es.length+sum8 many≤32
 | [],_,many,hm,_=>by
  have:=hm 0 (by omega);have:=hm 1 (by omega);have:=hm 2 (by omega);have:=hm 3 (by omega);have:=hm 4 (by omega);have:=hm 5 (by omega);have:=hm 6 (by omega);have:=hm 7 (by omega);unfold sum8;simp;omega
 | e :: es, p, many, hm, h => by
  unfold entsG at h
  split at h
  ·cases h
  ·split at h
   ·cases h
   ·rename_i h2;have hb:bktB e.name<8:=Nat.mod_lt _ (by omega)
    have ih:=zce is es _ _ (fun b hb8=>by
     show(if b=bktB e.name then many b+1 else many b)≤4
     split
     ·rename_i e9;subst e9;omega
     ·exact hm b hb8) h
    have h3:=zjt many (bktB e.name) hb;rw[List.length_cons];have e4:sum8 (fun b=>if b=bktB e.name then many b+1 else many b)=sum8 many+1:=h3;omega
theorem zib {is:List Ino} {es:List En} (h:entsV is es=true):es.length≤32:=by
 have:=zce is es none _ (fun _ _=>by show 0≤4;omega) h;omega
theorem za7 (is:List Ino) (n:Nat):∀(ds:List Ds) (o:Ds),0≤o.core→0≤o.fd→o.fd<4→o.core<(n:Int)→opensG is n ds (some o)=true→(ds.length:Int)+o.core*4+o.fd+1≤4*n
 | [],o,h1,h2,h3,h4,_=>by simp;omega
 | d :: ds, o, h1, h2, h3, h4, h => by
  unfold opensG at h
  split at h
  ·cases h
  ·rename_i hb
   split at h
   ·cases h
   ·rename_i hp;unfold dsBad at hb;simp only[Bool.or_eq_true,decide_eq_true_eq,not_or] at hb;unfold dsPrev at hp;simp only[Bool.or_eq_true,Bool.and_eq_true,decide_eq_true_eq,not_or,not_and] at hp;have ih:=za7 is n ds d (by omega) (by omega) (by omega) (by omega) h
    have h9:o.core*4+o.fd<d.core*4+d.fd:=by
     by_cases e:o.core=d.core
     ·have:=hp.2 e;omega
     ·omega
    rw[List.length_cons]
    push_cast
    omega
theorem zgc {s:St} (h:opensV s=true) (h8:s.made.length≤8):s.opn.length≤32:=by
 unfold opensV at h;cases ho:s.opn with
 | nil=>simp
 | cons d ds =>
  rw[ho] at h;unfold opensG at h
  split at h
  ·cases h
  ·rename_i hb
   split at h
   ·cases h
   ·unfold dsBad at hb;simp only[Bool.or_eq_true,decide_eq_true_eq,not_or] at hb;have:=za7 s.inos s.made.length ds d (by omega) (by omega) (by omega) (by omega) h;rw[List.length_cons];omega
theorem Good.len {s:St} (h:Good s):s.inos.length≤257:=by
 have h1:=(z1o s).2 h;unfold mayV at h1;simp only[Bool.and_eq_true,decide_eq_true_eq] at h1;exact h1.1.2
theorem Good.ents_len {s:St} (h:Good s) {x:Ino} (hx:x∈s.inos):x.ents.length≤32:=by
 cases hd:x.dir
 ·rw[(h.files x hx hd).1];simp
 ·exact zib (h.dirs x hx hd).2
theorem Good.opn_len {s:St} (h:Good s):s.opn.length≤32:=zgc h.opn h.m8
def En1 (e:En):Prop:=e.name.size≤140737488355328∧-9223372036854775808≤e.num∧e.num≤9223372036854775807
structure Small (a b c:Nat) (s:St):Prop where
 il:s.inos.length≤a
 io:∀x∈s.inos,x.ents.length≤b∧x.data.size≤140737488355328∧(-9223372036854775808≤x.num∧x.num≤9223372036854775807)∧∀e∈x.ents,En1 e
 ol:s.opn.length≤c
 ml:s.made.length≤8
 mr:∀m∈s.made,0≤m∧m≤33
theorem zcf (b:Nat):∀(is:List Ino),(∀x∈is,x.ents.length≤b)→bulkE is≤is.length*b
 | [],_=>by simp[bulkE]
 | x::xs,h=>by
  have h1:=h x List.mem_cons_self;have h2:=zcf b xs (fun y hy=>h y (List.mem_cons_of_mem _ hy));have e:bulkE (x::xs)=x.ents.length+bulkE xs:=rfl;rw[e,List.length_cons,Nat.add_mul];omega
theorem Small.sized {a b c:Nat} {s:St} (h:Small a b c s) (ha:a≤1000) (hb:b≤1000) (hc:c≤1000):Sized s:=by
 refine⟨?_,fun x hx=>⟨(h.io x hx).2.1,fun e he=>((h.io x hx).2.2.2 e he).1⟩,⟨fun x hx=>⟨(h.io x hx).2.2.1.1,(h.io x hx).2.2.1.2,fun e he=>((h.io x hx).2.2.2 e he).2⟩,fun m hm=>?_⟩⟩
 ·have h1:=zcf b s.inos (fun x hx=>(h.io x hx).1);have h2:=h.il;have h3:=h.ol;have h4:=h.ml;have h5:s.inos.length*b≤1000*1000:=Nat.mul_le_mul (by omega) hb;omega
 ·have:=h.mr m hm;omega
theorem Good.small {s:St} (h:Good s):Small 257 32 32 s:=by
 have hm:=(z1o s).2 h;have hf:=z4g hm;refine⟨h.len,fun x hx=>⟨h.ents_len hx,?_,?_,fun e he=>⟨?_,?_,?_⟩⟩,h.opn_len,h.m8,fun m hm=>?_⟩
 ·have:=(hf.data x hx).1;omega
 ·have:=hf.nums x hx;omega
 ·have:=(hf.data x hx).2 e he;omega
 ·have h1:=(hf.linked x hx).2 e he;obtain⟨y,hy,hn⟩:=z7d (is:=s.inos) (t:=e.num) (k:=(atV s.inos e.num).toNat) (by omega);have:=hf.nums y (List.mem_of_getElem? hy);omega
 ·have h1:=(hf.linked x hx).2 e he;obtain⟨y,hy,hn⟩:=z7d (is:=s.inos) (t:=e.num) (k:=(atV s.inos e.num).toNat) (by omega);have:=hf.nums y (List.mem_of_getElem? hy);omega
 ·have:=h.mr m hm;omega
theorem Small.more {a b c a' b' c':Nat} {s:St} (h:Small a b c s) (ha:a≤a') (hb:b≤b') (hc:c≤c'):Small a' b' c' s:=
 ⟨Nat.le_trans h.il ha,fun x hx=>⟨Nat.le_trans (h.io x hx).1 hb,(h.io x hx).2⟩,Nat.le_trans h.ol hc,h.ml,h.mr⟩
theorem Small.ents {a b c:Nat} {s:St} (h:Small a b c s) (dir:Int) (f:List En→List En) (hf:∀es,(f es).length≤es.length+1) (hm:∀es e,e∈f es→e∈es∨En1 e):Small a (b+1) c { s with inos:=setEnts s.inos dir f }:=by
 refine⟨by show(setEnts s.inos dir f).length≤a;unfold setEnts;rw[List.length_modify];exact h.il,fun x hx=>?_,h.ol,h.ml,h.mr⟩
 rcases z3d _ _ _ _ hx with hx|⟨z,hz,rfl⟩
 ·have:=h.io x hx;exact⟨by omega,this.2⟩
 ·have h1:=h.io z hz;refine⟨?_,h1.2.1,h1.2.2.1,fun e he=>?_⟩
  ·have:=hf z.ents
   show(f z.ents).length≤b+1;omega
  ·rcases hm _ _ he with h2|h2
   ·exact h1.2.2.2 e h2
   ·exact h2
theorem zf5:∀(es:List En) (name:ByteArray) (num:Int) (e:En),e∈putE es name num→e∈es∨e=⟨name,num⟩
 | [],name,num,e,h=>by
  have:e=⟨name,num⟩:=by simpa [putE] using h
  exact .inr this
 | y :: es, name, num, e, h => by
  unfold putE at h
  split at h
  ·rcases List.mem_cons.1 h with h|h
   ·exact .inr h
   ·exact .inl h
  ·rcases List.mem_cons.1 h with rfl|h
   ·exact .inl List.mem_cons_self
   ·rcases zf5 es name num e h with h|h
    ·exact .inl (List.mem_cons_of_mem _ h)
    ·exact .inr h
theorem Small.put {a b c:Nat} {s:St} (h:Small a b c s) (dir:Int) (name:ByteArray) (num:Int) (hn:En1 ⟨name,num⟩):Small a (b+1) c { s with inos:=setEnts s.inos dir fun es=>putE es name num }:=
 h.ents dir _ (fun es=>by rw[zeu];omega) (fun es e he=>by
  rcases zf5 es name num e he with h|h
  ·exact .inl h
  ·exact .inr (h▸hn))
theorem Small.dropE {a b c:Nat} {s:St} (h:Small a b c s) (dir:Int) (name:ByteArray):Small a (b+1) c { s with inos:=setEnts s.inos dir fun es=>Go.Proofs.YtmmpkfcdfcldlaaGreat.dropE es name }:=
 h.ents dir _ (fun es=>by have:=z8r es name;omega) (fun es e he=>.inl (z4d es name e he))
theorem zf6:∀(is:List Ino) (y x:Ino),x∈putI is y→x∈is∨x=y
 | [],y,x,h=>by
  have:x=y:=by simpa [putI] using h
  exact .inr this
 | z :: zs, y, x, h => by
  unfold putI at h
  split at h
  ·rcases List.mem_cons.1 h with h|h
   ·exact .inr h
   ·exact .inl h
  ·rcases List.mem_cons.1 h with rfl|h
   ·exact .inl List.mem_cons_self
   ·rcases zf6 zs y x h with h|h
    ·exact .inl (List.mem_cons_of_mem _ h)
    ·exact .inr h
theorem zf7:∀(is:List Ino) (y:Ino),(putI is y).length=is.length+1
 | [],_=>rfl
 | z::zs,y=>by
  unfold putI
  split
  ·rfl
  ·rw[List.length_cons,zf7 zs y,List.length_cons]
theorem Small.putI {a b c:Nat} {s:St} (h:Small a b c s) (y:Ino) (hy:y.ents=[]) (hd:y.data.size≤140737488355328) (hn: -9223372036854775808≤y.num∧y.num≤9223372036854775807):Small (a+1) b c { s with inos:=Go.Proofs.YtmmpkfcdfcldlaaGreat.putI s.inos y }:=by
 refine⟨by show(Go.Proofs.YtmmpkfcdfcldlaaGreat.putI s.inos y).length≤a+1;rw[zf7];have:=h.il;omega,fun x hx=>?_,h.ol,h.ml,h.mr⟩
 rcases zf6 _ _ _ hx with hx|rfl
 ·exact h.io x hx
 ·exact⟨by rw[hy];simp,hd,hn,by rw[hy];intro e he;simp at he⟩
theorem z4x:∀(ds:List Ds) (y:Ds),(putD ds y).length=ds.length+1
 | [],_=>rfl
 | z::zs,y=>by
  unfold putD
  split
  ·rfl
  ·rw[List.length_cons,z4x zs y,List.length_cons]
theorem z7j {α:Type}:∀(l:List α) (d:α),l≠[]→l.getLastD d∈l
 | [],_,h=>absurd rfl h
 | [x],d,_=>by simp[List.getLastD]
 | x::y::l,d,_=>by
  rw[List.getLastD_cons];exact List.mem_cons_of_mem _ (z7j (y::l) x (by simp))
theorem z6t:∀(r cur:List UInt8) (out:List (List UInt8)),(∀n∈out,checkL n=0)→∀n∈(scanP r cur out).1,checkL n=0
 | [],cur,out,ho,n,hn=>by
  unfold scanP at hn
  split at hn
  ·simp at hn
  ·exact ho n hn
 | b :: r, cur, out, ho, n, hn => by
  unfold scanP at hn
  split at hn
  ·split at hn
   ·rename_i hc;refine z6t r _ _ (fun m hm=>?_) n hn
    rcases List.mem_append.1 hm with hm|hm
    ·exact ho m hm
    ·have:m=cur:=by simpa using hm
     rw[this];exact hc
   ·split at hn<;>simp at hn
  ·exact z6t r _ _ ho n hn
theorem zdw (l:List UInt8):∀n∈(parseL l).1,checkL n=0:=by
 intro n hn;unfold parseL at hn
 split at hn
 ·simp at hn
 ·split at hn
  ·simp at hn
  ·split at hn
   ·simp at hn
   ·exact z6t _ _ _ (by simp) n hn
theorem zdx {l:List UInt8} (h:checkL l=0):l.length≤12∧l≠[]:=by
 unfold checkL at h
 split at h
 ·cases h
 ·split at h
  ·cases h
  ·rename_i h1 h2;exact⟨by omega,fun e=>h2 (.inl e)⟩
theorem zju (l:List UInt8):(txt l).data.toList=l:=rfl
theorem zcg (is:List Ino) (path:ByteArray) (h:(parentV is path).2.2=0):chkB (parentV is path).2.1=0:=by
 unfold parentV at h ⊢
 split
 ·rename_i h1;rw[if_pos h1] at h;exfalso;have h2:codeP (parseL path.data.toList).2=0:=h;unfold codeP at h2;rw[if_neg h1] at h2
  split at h2<;>omega
 ·rename_i h1;rw[if_neg h1] at h
  split
  ·rename_i h2;rw[if_pos h2] at h;exact absurd h (by show ¬(9:Int)=0;decide)
  ·rename_i h2;rw[if_neg h2] at h
   split
   ·rename_i h3;rw[if_pos h3] at h;exact absurd h h3
   ·rename_i h3;rw[if_neg h3] at h
    split
    ·rename_i h4;rw[if_pos h4] at h;exact absurd h (by show ¬(7:Int)=0;decide)
    ·show chkB (txt ((parseL path.data.toList).1.getLastD []))=0;unfold chkB;rw[zju];exact zdw path.data.toList _ (z7j _ _ h2)
theorem z1f (is:List Ino) (path:ByteArray):(parentV is path).2.1.size≤12:=by
 by_cases h:(parentV is path).2.2=0
 ·have h1:=zcg is path h;unfold chkB at h1;have h2:=(zdx h1).1
  rwa [Array.length_toList] at h2
 ·have e:(parentV is path).2.1=txt []:=by
   revert h;unfold parentV
   split
   ·intro _;rfl
   ·split
    ·intro _;rfl
    ·split
     ·intro _;rfl
     ·split
      ·intro _;rfl
      ·intro h;exact absurd rfl h
  rw[e]
  decide
theorem Good.whole {s:St} (h:Good s):Whole s.inos:=zi9 ((z1o s).2 h)
theorem Good.num_range {s:St} (h:Good s) {num:Int} (hn:0≤atV s.inos num):1≤num∧num≤257:=by
 obtain⟨k,x,_,hx,hxn⟩:=z0r hn;have:=(z4g ((z1o s).2 h)).nums x (List.mem_of_getElem? hx);omega
theorem Small.dropI {a b c:Nat} {s:St} (h:Small a b c s) (num:Int):Small a b c { s with inos:=Go.Proofs.YtmmpkfcdfcldlaaGreat.dropI s.inos num }:=
 ⟨by have:=(z8s s.inos num).1;have:=h.il;show(Go.Proofs.YtmmpkfcdfcldlaaGreat.dropI s.inos num).length≤a;omega,fun x hx=>h.io x (z4c _ _ _ hx),h.ol,h.ml,h.mr⟩
theorem Small.sweep {a b c:Nat} {s:St} (h:Small a b c s) (num:Int):Small a b c (sweepV s num):=by
 unfold sweepV
 split
 ·exact h
 ·exact h.dropI num
theorem Small.opn {a b c:Nat} {s:St} (h:Small a b c s) (ds:List Ds) (hd:ds.length≤c+1):Small a b (c+1) { s with opn:=ds }:=⟨h.il,h.io,hd,h.ml,h.mr⟩
theorem Small.setData {a b c:Nat} {s:St} (h:Small a b c s) (num:Int) (d:ByteArray) (hd:d.size≤140737488355328):Small a b c { s with inos:=Go.Proofs.YtmmpkfcdfcldlaaGreat.setData s.inos num d }:=by
 refine⟨by show(Go.Proofs.YtmmpkfcdfcldlaaGreat.setData s.inos num d).length≤a;unfold Go.Proofs.YtmmpkfcdfcldlaaGreat.setData;rw[List.length_modify];exact h.il,fun x hx=>?_,h.ol,h.ml,h.mr⟩
 rcases z3d _ _ _ _ hx with hx|⟨z,hz,rfl⟩
 ·exact h.io x hx
 ·have:=h.io z hz;exact⟨this.1,hd,this.2.2⟩
theorem Small.made {a b c:Nat} {s:St} (h:Small a b c s) (xs:List Int) (hl:xs.length≤8) (hr:∀m∈xs,0≤m∧m≤33):Small a b c { s with made:=xs }:=⟨h.il,h.io,h.ol,hl,hr⟩
theorem zf8 (l:List UInt8) (o:Nat) (d:List UInt8):(layL l o d).length=max l.length (o+d.length):=by
 unfold layL;rw[List.length_append,List.length_append,List.length_take,List.length_drop,z0w];omega
theorem z7v (l:List UInt8):(txt l).size=l.length:=by
 show l.toArray.size=_;simp
theorem z6u {s:St} (h:Good s) (c:Ca) (hc0:0≤c.core) (hc1:c.core<(s.made.length:Int)):MakeSized s c∧Sized (make1V s c).1:=by
 have hs:=h.small;have hm8:=h.m8
 have hget:0≤s.made.getD c.core.toNat 0∧s.made.getD c.core.toNat 0≤32:=by
  have hlt:c.core.toNat<s.made.length:=by omega
  rw[List.getD_eq_getElem?_getD,List.getElem?_eq_getElem hlt];exact h.mr _ (List.getElem_mem hlt)
 have hset:∀m∈s.made.set c.core.toNat (s.made.getD c.core.toNat 0+1),0≤m∧m≤33:=by
  intro m hm
  rcases List.mem_or_eq_of_mem_set hm with hm|rfl
  ·have:=h.mr m hm;omega
  ·omega
 have h1:=hs.made _ (by rw[List.length_set];exact hm8) hset;have hns:=z1f s.inos c.path;have hen:En1 ⟨(parentV s.inos c.path).2.1,2+c.core+8*s.made.getD c.core.toNat 0⟩:=⟨by show(parentV s.inos c.path).2.1.size≤_;omega,by show(-9223372036854775808:Int)≤2+c.core+8*s.made.getD c.core.toNat 0;omega,by show 2+c.core+8*s.made.getD c.core.toNat 0≤9223372036854775807;omega⟩;have h2:=h1.put (parentV s.inos c.path).1 _ _ hen;have h3:=h2.putI ⟨2+c.core+8*s.made.getD c.core.toNat 0,decide (c.kind=1),[],txt []⟩ rfl (by show(txt []).size≤_;rw[z7v];simp) ⟨by show(-9223372036854775808:Int)≤2+c.core+8*s.made.getD c.core.toNat 0;omega,by show 2+c.core+8*s.made.getD c.core.toNat 0≤9223372036854775807;omega⟩
 have h4:Sized (make1V s c).1:=by
  unfold make1V
  split
  ·exact hs.sized (by omega) (by omega) (by omega)
  ·split
   ·exact hs.sized (by omega) (by omega) (by omega)
   ·split
    ·exact hs.sized (by omega) (by omega) (by omega)
    ·exact h3.sized (by omega) (by omega) (by omega)
 exact⟨⟨h1.sized (by omega) (by omega) (by omega),h2.sized (by omega) (by omega) (by omega),h4,by omega⟩,h4⟩
theorem za8 {s:St} (h:Good s) (c:Ca) (want:Int):Sized (openedV s c want).1:=by
 have hs:=h.small;have h0:=hs.sized (by omega) (by omega) (by omega);have hp:∀y,Sized { s with opn:=putD s.opn y }:=fun y=>(hs.opn _ (by rw[z4x];have:=h.opn_len;omega)).sized (by omega) (by omega) (by omega)
 unfold openedV
 repeat (first|exact h0|exact hp _|split)
theorem z7w {s:St} (h:Good s) (c:Ca):Sized (byFdV s c).1:=by
 have hs:=h.small;have h0:=hs.sized (by omega) (by omega) (by omega);have hd:Sized (sweepV { s with opn:=dropD s.opn c.core c.fd } (fdV s.opn c.core c.fd)):=((hs.opn _ (by have:=z8a s.opn c.core c.fd;have:=h.opn_len;omega)).sweep _).sized (by omega) (by omega) (by omega)
 have hdat:∀num:Int,(dataAt s.inos num).size≤256:=by
  intro num;unfold dataAt
  rcases z0u s.inos num with⟨h1,_⟩|⟨k,x,h1,hx,_,_⟩
  ·rw[h1];show(txt []).size≤256;rw[z7v];simp
  ·rw[h1,z0c,hx];exact((z4g ((z1o s).2 h)).data x (List.mem_of_getElem? hx)).1
 unfold byFdV
 split
 ·exact h0
 split
 ·exact hd
 split
 ·split<;>exact h0
 split
 ·split
  ·exact h0
  split
  ·exact h0
  split
  ·exact h0
  ·rename_i h5 h6 h7;refine(hs.setData _ _ ?_).sized (by omega) (by omega) (by omega);rw[z7v,zf8,Array.length_toList,Array.length_toList];have:=hdat (fdV s.opn c.core c.fd);have e1:(dataAt s.inos (fdV s.opn c.core c.fd)).data.size=(dataAt s.inos (fdV s.opn c.core c.fd)).size:=rfl;have e2:c.data.data.size=c.data.size:=rfl;omega
 split
 ·split
  ·exact h0
  ·refine(hs.setData _ _ ?_).sized (by omega) (by omega) (by omega);rw[z7v,z0w];omega
 split<;>exact h0
theorem za9 {s:St} (h:Good s) (c:Ca):Sized (linkV s c).1:=by
 have hs:=h.small;have h0:=hs.sized (by omega) (by omega) (by omega);have hns:=z1f s.inos c.path2;unfold linkV
 split
 ·exact h0
 ·rename_i hf;have hn:=h.num_range (z7s h.whole c.path (by omega));have h1:=(hs.put (parentV s.inos c.path2).1 (parentV s.inos c.path2).2.1 (findV s.inos c.path).1 ⟨by show(parentV s.inos c.path2).2.1.size≤_;omega,by show(-9223372036854775808:Int)≤(findV s.inos c.path).1;omega,by show(findV s.inos c.path).1≤9223372036854775807;omega⟩).sized (by omega) (by omega) (by omega)
  repeat (first|exact h0|exact h1|split)
theorem z5r {s:St} (h:Good s) (c:Ca):Sized (namesV s c).1:=by
 have hs:=h.small;have h0:=hs.sized (by omega) (by omega) (by omega);have hns:=z1f s.inos c.path2;unfold namesV
 split
 ·exact za9 h c
 split
 ·exact h0
 split
 ·exact h0
 ·rename_i hen;have hn:=h.num_range (z2i h.whole hen);have h1:=hs.dropE (parentV s.inos c.path).1 (parentV s.inos c.path).2.1;have h2:=(h1.sweep (entV s.inos (parentV s.inos c.path).1 (parentV s.inos c.path).2.1)).sized (by omega) (by omega) (by omega);have h3:=(h1.put (parentV s.inos c.path2).1 (parentV s.inos c.path2).2.1 (entV s.inos (parentV s.inos c.path).1 (parentV s.inos c.path).2.1) ⟨by show(parentV s.inos c.path2).2.1.size≤_;omega,by show(-9223372036854775808:Int)≤entV s.inos (parentV s.inos c.path).1 (parentV s.inos c.path).2.1;omega,by show entV s.inos (parentV s.inos c.path).1 (parentV s.inos c.path).2.1≤9223372036854775807;omega⟩).sized (by omega) (by omega) (by omega)
  split
  ·unfold renameV
   repeat (first|exact h0|exact h3|split)
  ·repeat (first|exact h0|exact h2|split)
theorem zjv {s:St} (h:Good s) (c:Ca) (want:Int) (hc0:0≤c.core) (hc1:c.core<(s.made.length:Int)):Sized (doF s c want).1:=by
 have h0:=h.small.sized (by omega) (by omega) (by omega);unfold doF
 split
 ·exact h0
 split
 ·exact(z6u h c hc0 hc1).2
 split
 ·exact za8 h c want
 split
 ·exact z7w h c
 split
 ·exact z5r h c
 split<;>exact h0
theorem zme {s:St} {c:Ca} {want:Int} (hm:mayV s=true) (hc0:0≤c.core) (hc1:c.core<(s.made.length:Int)) (hp:c.path.size≤140737488355328) (hp2:c.path2.size≤140737488355328):DoOk s c want:=by
 have h:=(z1o s).1 hm;exact⟨h.whole,hp,hp2,by have:=z1f s.inos c.path2;omega,h.deep,zjv h c want hc0 hc1,fun _=>(z6u h c hc0 hc1).1,h.m8,h.mr⟩
theorem zaa:∀(a:List UInt8),ltB a a=false
 | []=>rfl
 | a::l=>by unfold ltB;rw[if_pos rfl];exact zaa l
theorem z2b (a:ByteArray):ltN a a=false:=zaa _
theorem zch {a b:ByteArray} (h:ltN a b=true):ltN b a=false:=by
 cases h2:ltN b a
 ·rfl
 ·have:=z5x h h2;rw[z2b] at this;cases this
theorem zic:∀(a b:List UInt8),ltB a b=false→ltB b a=false→a=b
 | [],[],_,_=>rfl
 | [],_::_,h,_=>by simp[ltB] at h
 | _::_,[],_,h=>by simp[ltB] at h
 | a::al,b::bl,h1,h2=>by
  unfold ltB at h1 h2
  by_cases e:a=b
  ·subst e;rw[if_pos rfl] at h1 h2;rw[zic al bl h1 h2]
  ·rw[if_neg e,decide_eq_false_iff_not] at h1;rw[if_neg (fun e2=>e e2.symm),decide_eq_false_iff_not] at h2;exact absurd (UInt8.le_antisymm (UInt8.not_lt.1 h2) (UInt8.not_lt.1 h1)) e
theorem zkz {a b:ByteArray} (h1:ltN a b=false) (h2:ltN b a=false):a=b:=by
 have h:=zic _ _ h1 h2;cases a;cases b;exact congrArg ByteArray.mk (Array.toList_inj.1 h)
theorem EnPos.tail {e:En} {t:List En} {nm:ByteArray} {i:Nat} {b:Bool} (h:EnPos (e::t) nm (i+1) b):EnPos t nm i b:=
 ⟨by have := h.le; simp at this; omega, fun k x hk hx => h.lo (k + 1) x (by omega) (by simpa using hx), fun k x hk hx => h.hi (k + 1) x (by omega) (by simpa using hx), fun hb => by
  obtain⟨x,hx,hn⟩:=h.is_ hb;exact⟨x,by simpa using hx,hn⟩,fun hb=>by
  obtain⟨x,hx,hn⟩:=hb;exact h.of_ ⟨x,by simpa using hx,hn⟩⟩
theorem EnPos.head {e:En} {t:List En} {nm:ByteArray} {i:Nat} {b:Bool} (h:EnPos (e::t) nm (i+1) b):ltN e.name nm=true:=h.lo 0 e (by omega) rfl
theorem zf9:∀(es:List En) (nm:ByteArray) (i:Nat) (num:Int),EnPos es nm i false→putE es nm num=es.take i++[⟨nm,num⟩]++es.drop i
 | [],nm,i,num,h=>by
  have:=h.le;have:i=0:=by simpa using this
  subst this
  rfl
 | e :: t, nm, 0, num, h => by
  have h1:=h.hi 0 e (Nat.le_refl _) rfl
  have h2:e.name≠nm:=fun e2=>by
   have:=h.of_ ⟨e,rfl,e2⟩;cases this
  have h3:ltN nm e.name=true:=by
   cases h4:ltN nm e.name
   ·exact absurd (zkz h1 h4) h2
   ·rfl
  unfold putE;rw[if_pos h3]
  rfl
 | e::t,nm,i+1,num,h=>by
  unfold putE;rw[if_neg (by rw[zch h.head];decide),zf9 t nm i num h.tail]
  rfl
theorem RiseE.tail {e:En} {t:List En} (h:RiseE (e::t)):RiseE t:=fun i j x y hij hx hy=>h (i+1) (j+1) x y (by omega) (by simpa using hx) (by simpa using hy)
theorem zci:∀(l:List En) (nm:ByteArray),(∀x∈l,x.name≠nm)→entG l nm=0
 | [],_,_=>rfl
 | y::ys,nm,hl=>by
  unfold entG;rw[if_neg (hl y (by simp)),zci ys nm (fun x hx=>hl x (by simp[hx]))]
theorem zb9:∀(es:List En) (nm:ByteArray) (i:Nat) (b:Bool),RiseE es→EnPos es nm i b→(b=false→entG es nm=0)∧∀e,es[i]? =some e→b=true→entG es nm=e.num
 | [],nm,i,b,hr,h=>⟨fun _=>rfl,fun e he=>by simp at he⟩
 | e :: t, nm, 0, b, hr, h => by
  refine⟨fun hb=>?_,fun x hx hb=>?_⟩
  ·subst hb;refine zci _ _ (fun x hx e2=>?_);obtain⟨j,hj⟩:=List.getElem?_of_mem hx
   by_cases h0:j=0
   ·subst h0;have:=h.of_ ⟨x,hj,e2⟩;cases this
   ·have h1:=hr 0 j e x (by omega) rfl hj;have h2:=h.hi 0 e (Nat.le_refl _) rfl;rw[e2,h2] at h1;cases h1
  ·have:e=x:=by simpa using hx
   subst this;obtain⟨y,hy,hn⟩:=h.is_ hb;have:e=y:=by simpa using hy
   subst this;unfold entG;rw[if_pos hn]
 | e :: t, nm, i + 1, b, hr, h => by
  have ih:=zb9 t nm i b hr.tail h.tail
  have hne:e.name≠nm:=fun e2=>by
   have:=h.head;rw[e2,z2b] at this;cases this
  unfold entG;rw[if_neg hne];exact⟨ih.1,fun x hx hb=>ih.2 x (by simpa using hx) hb⟩
theorem zab:∀(l:List En) (nm:ByteArray),(∀x∈l,x.name≠nm)→dropE l nm=l
 | [],_,_=>rfl
 | y::ys,nm,hl=>by
  unfold dropE;rw[if_neg (hl y (by simp)),zab ys nm (fun x hx=>hl x (by simp[hx]))]
theorem z8y:∀(es:List En) (nm:ByteArray) (i:Nat),RiseE es→EnPos es nm i true→dropE es nm=es.take i++es.drop (i+1)
 | [],nm,i,hr,h=>by
  obtain⟨x,hx,_⟩:=h.is_ rfl;simp at hx
 | e::t,nm,0,hr,h=>by
  obtain⟨y,hy,hn⟩:=h.is_ rfl;have:e=y:=by simpa using hy
  subst this;unfold dropE;rw[if_pos hn,zab t nm (fun x hx e2=>?_)]
  ·rfl
  ·obtain⟨j,hj⟩:=List.getElem?_of_mem hx;have h1:=hr 0 (j+1) e x (by omega) rfl (by simpa using hj);rw[hn,e2,z2b] at h1;cases h1
 | e :: t, nm, i + 1, hr, h => by
  have hne:e.name≠nm:=fun e2=>by
   have:=h.head;rw[e2,z2b] at this;cases this
  unfold dropE;rw[if_neg hne,z8y t nm i hr.tail h.tail]
  rfl
theorem zac (is:List Ino):∀(es:List En) (p:Option ByteArray) (many:Nat→Nat),entsG is es p many=true→RiseE es∧∀q x,p=some q→es[0]? =some x→ltN q x.name=true
 | [],p,many,h=>⟨fun i j x y _ hx=>by simp at hx,fun q x _ hx=>by simp at hx⟩
 | e :: es, p, many, h => by
  unfold entsG at h
  by_cases h1:entBad is p e=true
  ·rw[if_pos h1] at h;cases h
  ·rw [if_neg h1] at h
   by_cases h2:4<many (bktB e.name)+1
   ·rw[if_pos h2] at h;cases h
   ·rw [if_neg h2] at h;obtain ⟨r1, r2⟩ := zac is es (some e.name) _ h
    have key:∀(j:Nat) (y:En),es[j]? =some y→ltN e.name y.name=true:=by
     intro j
     induction j with
     | zero=>intro y hy;exact r2 _ _ rfl hy
     | succ j ih=>
      intro y hy;have hjl:j<es.length:=by have:=(List.getElem?_eq_some_iff.1 hy).1;omega
      exact z5x (ih _ (List.getElem?_eq_getElem hjl)) (r1 j (j+1) _ _ (by omega) (List.getElem?_eq_getElem hjl) hy)
    refine⟨fun i j x y hij hx hy=>?_,fun q x hp hx=>?_⟩
    ·cases j with
     | zero=>omega
     | succ j =>
      have hy2:es[j]? =some y:=by simpa using hy
      cases i with
      | zero=>
       have:e=x:=by simpa using hx
       subst this;exact key j y hy2
      | succ i=>exact r1 i j x y (by omega) (by simpa using hx) hy2
    ·have:e=x:=by simpa using hx
     subst this;subst hp;cases h3:ltN q e.name
     ·exfalso;apply h1;unfold entBad;simp[h3]
     ·rfl
theorem Good.riseE {s:St} (h:Good s) {x:Ino} (hx:x∈s.inos):RiseE x.ents:=by
 cases hd:x.dir
 ·rw[(h.files x hx hd).1];intro i j x y _ hx;simp at hx
 ·exact(zac _ _ _ _ (h.dirs x hx hd).2).1
theorem Good.riseI {s:St} (h:Good s):RiseI s.inos:=fun i j x y hij hx hy=>by
 obtain⟨hi,rfl⟩:=List.getElem?_eq_some_iff.1 hx;obtain⟨hj,rfl⟩:=List.getElem?_eq_some_iff.1 hy;exact List.pairwise_iff_getElem.1 h.rise i j hi hj hij
theorem Good.entNum {s:St} (h:Good s) {x:Ino} (hx:x∈s.inos) {e:En} (he:e∈x.ents):e.num≠0∧0≤atV s.inos e.num:=by
 have h1:=h.whole.2 x hx e he;have:=h.num_range h1;exact⟨by omega,h1⟩
theorem Good.entIs {s:St} (h:Good s) {x:Ino} (hx:x∈s.inos) {nm:ByteArray} {i:Nat} {b:Bool} (hp:EnPos x.ents nm i b):(b=false∧entG x.ents nm=0)∨(b=true∧entG x.ents nm≠0∧∃e,x.ents[i]? =some e∧e.num=entG x.ents nm∧e.name=nm):=by
 have hr:=zb9 x.ents nm i b (h.riseE hx) hp;cases b
 ·exact .inl ⟨rfl,hr.1 rfl⟩
 ·obtain⟨e,he,hn⟩:=hp.is_ rfl;have h2:=hr.2 e he rfl;exact .inr ⟨rfl,by rw[h2];exact(h.entNum hx (List.mem_of_getElem? he)).1,e,he,h2.symm,hn⟩
theorem z5s {is:List Ino} {t:Int} {i:Nat} {x:Ino} (ha:atV is t=(i:Int)) (hx:is[i]? =some x) (nm:ByteArray):entV is t nm=entG x.ents nm:=by
 unfold entV;rw[ha,z0c,hx]
theorem zad:∀(l:List Ino) (num:Int),(∀x∈l,x.num≠num)→dropI l num=l
 | [],_,_=>rfl
 | y::ys,num,hl=>by
  unfold dropI;rw[if_neg (hl y (by simp)),zad ys num (fun x hx=>hl x (by simp[hx]))]
theorem RiseI.tail {e:Ino} {t:List Ino} (h:RiseI (e::t)):RiseI t:=fun i j x y hij hx hy=>h (i+1) (j+1) x y (by omega) (by simpa using hx) (by simpa using hy)
theorem z8z:∀(is:List Ino) (i:Nat) (x:Ino),RiseI is→is[i]? =some x→dropI is x.num=is.take i++is.drop (i+1)
 | [],i,x,hr,h=>by simp at h
 | e::t,0,x,hr,h=>by
  have:e=x:=by simpa using h
  subst this;unfold dropI;rw[if_pos rfl,zad t e.num (fun y hy e2=>?_)]
  ·rfl
  ·obtain⟨j,hj⟩:=List.getElem?_of_mem hy;have h1:=hr 0 (j+1) e y (by omega) rfl (by simpa using hj);omega
 | e::t,i+1,x,hr,h=>by
  have hx:t[i]? =some x:=by simpa using h
  have h1:=hr 0 (i+1) e x (by omega) rfl h;unfold dropI;rw[if_neg (by omega),z8z t i x hr.tail hx]
  rfl
theorem zfa:∀(is:List Ino) (i:Nat) (y:Ino),i≤is.length→(∀(k:Nat) (x:Ino),k<i→is[k]? =some x→x.num<y.num)→(∀(k:Nat) (x:Ino),i≤k→is[k]? =some x→y.num<x.num)→putI is y=is.take i++[y]++is.drop i
 | [],i,y,hi,_,_=>by
  have:i=0:=by simpa using hi
  subst this
  rfl
 | e::t,0,y,hi,_,h2=>by
  have:=h2 0 e (Nat.le_refl _) rfl;unfold putI;rw[if_pos this]
  rfl
 | e::t,i+1,y,hi,h1,h2=>by
  have:=h1 0 e (by omega) rfl;unfold putI;rw[if_neg (by omega),zfa t i y (by simpa using hi) (fun k x hk hx=>h1 (k+1) x (by omega) (by simpa using hx)) (fun k x hk hx=>h2 (k+1) x (by omega) (by simpa using hx))]
  rfl
end Go.Proofs.YtmmpkfcdfcldlaaGreat
