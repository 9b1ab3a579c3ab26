/- Parts of the proof, side by side: FsDoAll, FsDoc, GdN. -/
import Derived.Test.YtmmpkfcdfcldlaaGreatM42
import Derived.Test.YtmmpkfcdfcldlaaGreatM15
import Derived.Test.YtmmpkfcdfcldlaaGreatM25
import Derived.Test.YtmmpkfcdfcldlaaGreatM37
import Derived.Test.YtmmpkfcdfcldlaaGreatM31
set_option linter.unusedVariables false
set_option linter.unusedSimpArgs false
namespace Go.Proofs.YtmmpkfcdfcldlaaGreat
open Lib (hid)
open Go.RowKit
set_option maxRecDepth 100000 in
set_option maxHeartbeats 2000000 in
theorem zn6 (v:Value) (s:St) (c:Ca) (w:World) (h:StAt none w v s) (hok:mayV s=true→0≤c.core→c.core<(s.made.length:Int)→0≤c.kind→c.kind≤16→DoOk s c (-1)):
  Calls Tryz.prog 8 #[v,caV c] w fun e w'=>∃v' rv,e=.returned (.tuple #[v',rv])∧StAt (some w.heap.size) w' v' (doV s c).1∧ResIs (some w.heap.size) w' rv (doV s c).2∧Below w.heap.size w w':=by
 have hd:∀u,StAt none u v s→Calls Tryz.prog 32 #[v,caV c,.int .i64 (-1)] u fun e w'=>∃v' rv,e=.returned (.tuple #[v',rv,.bool (doF s c (-1)).2.2])∧StAt (some u.heap.size) w' v' (doV s c).1∧ResIs (some u.heap.size) w' rv (doV s c).2∧Below u.heap.size u w':=fun u hu=>zn5 v s c (-1) u hu hok
 obtain⟨s',hs'⟩:∃s',(doV s c).1=s':=⟨_,rfl⟩;obtain⟨r,hr⟩:∃r,(doV s c).2=r:=⟨_,rfl⟩;obtain⟨OKB,hOKB⟩:∃OKB,(doF s c (-1)).2.2=OKB:=⟨_,rfl⟩;rw[hs',hr] at hd ⊢;rw[hOKB] at hd;clear hs' hr hOKB hok;obtain⟨⟨A,n,cp,Bz,m,d,D,k,e,rfl,hI,hD,hM,h5,h6,h7⟩,hz⟩:=h;obtain⟨W,hW,b0,b1,b2,hal,hlt0⟩:=z1l w A n cp Bz m d D k e;obtain⟨W2,hW2,hbc,hal2,hsz2⟩:=z8a W c;obtain⟨W3,hW3⟩:∃W3,W2.alloc (.cells #[.slice none 0 0,.slice none 0 0,.slice none 0 0] 26)=W3:=⟨_,rfl⟩;have hal3:Below W2.heap.size W2 W3:=by rw[←hW3];exact(Below.refl _ _).alloc (Nat.le_refl _) _
 have hsz3:W3.heap.size=W2.heap.size+1:=by rw[←hW3];simp
 have ho3:OutAt W3 W2.heap.size (.slice none 0 0) (.slice none 0 0) (.slice none 0 0):=by rw[←hW3];exact heap_alloc_new W2 _
 obtain⟨W4,hW4⟩:∃W4,W3.alloc (.cells #[.int .i64 0,.int .i64 0,.int .i64 0,.bool false,.string ⟨#[]⟩,.slice none 0 0] 32)=W4:=⟨_,rfl⟩;have hal4:Below W3.heap.size W3 W4:=by rw[←hW4];exact(Below.refl _ _).alloc (Nat.le_refl _) _
 have hr4:ResAt W4 W3.heap.size (.int .i64 0) (.int .i64 0) (.int .i64 0) (.bool false) (.string ⟨#[]⟩) (.slice none 0 0):=by rw[←hW4];exact heap_alloc_new W3 _
 have hst0:StAt none W (.agg #[.slice A n cp,.slice Bz m d,.slice D k e]) s:=⟨⟨A,n,cp,Bz,m,d,D,k,e,rfl,hI.below hal,hD.below hal,hM.below hal,h5,h6,h7⟩,hz⟩;have hb24:Below W2.heap.size W2 W4:=Cv.next hal3 hal4;have hb14:Below W.heap.size W W4:=Cv.next hal2 hb24;have hb4:Below w.heap.size w W4:=Cv.next hal hb14;have hst:=hst0.below hb14;have x0:=(hb14.cell (p:=⟨w.heap.size,0,.none⟩) hlt0).trans b0;have x1:=(hb14.cell (p:=⟨w.heap.size,1,.none⟩) hlt0).trans b1;have x2:=(hb14.cell (p:=⟨w.heap.size,2,.none⟩) hlt0).trans b2;have hbc4:=(hb24.block W.heap.size (by omega)).trans hbc;have k0:W4.cell? ⟨W.heap.size,0,none⟩=some (.int .i64 c.kind):=by rw[cell_of_row W4 W.heap.size _ _ _ (0,0) hbc4];rfl
 have k1:W4.cell? ⟨W.heap.size,1,none⟩=some (.int .i64 c.core):=by rw[cell_of_row W4 W.heap.size _ _ _ (0,0) hbc4];rfl
 have k2:W4.cell? ⟨W.heap.size,2,none⟩=some (.int .i64 c.fd):=by rw[cell_of_row W4 W.heap.size _ _ _ (0,0) hbc4];rfl
 have k3:W4.cell? ⟨W.heap.size,3,none⟩=some (.int .i64 c.off):=by rw[cell_of_row W4 W.heap.size _ _ _ (0,0) hbc4];rfl
 have k4:W4.cell? ⟨W.heap.size,4,none⟩=some (.int .i64 c.num):=by rw[cell_of_row W4 W.heap.size _ _ _ (0,0) hbc4];rfl
 have k5:W4.cell? ⟨W.heap.size,5,none⟩=some (.string c.path):=by rw[cell_of_row W4 W.heap.size _ _ _ (0,0) hbc4];rfl
 have k6:W4.cell? ⟨W.heap.size,6,none⟩=some (.string c.path2):=by rw[cell_of_row W4 W.heap.size _ _ _ (0,0) hbc4];rfl
 have k7:W4.cell? ⟨W.heap.size,7,none⟩=some (.string c.data):=by rw[cell_of_row W4 W.heap.size _ _ _ (0,0) hbc4];rfl
 have hcall:=hd W4 hst;have HCALL:=hid hcall;have HB4:=hid hb4;have hb4s:=hb4.size;have HO3:=hid ((hal4.block W2.heap.size (by omega)).trans ho3);have HR4:=hid hr4;have hs1:w.heap.size<W.heap.size:=hlt0;have hs4:W4.heap.size=W3.heap.size+1:=by rw[←hW4];simp
 unfold caV;clear hI hD hM hz hst0 hst hbc hbc4 hb4 hb14 hb24 ho3 hr4 hal hal2 hal3 hal4 b0 b1 b2 h5 h6 h7 hlt0 hd hcall
 go_enter Tryz.func8,Tryz.ntmps8
 go_wp2_with fail;clear hW hW2 hW3 hW4;refine HCALL.out.mono ?_;rintro e5 w5 ⟨v5,rv,rfl,hst5,⟨AN,nN,cN,rfl,hokN,hnN⟩,hb5⟩;have HN5:=hid hnN;obtain⟨A6,n6,c6,E6,m6,d6,D6,k6',e6,rfl,_⟩:=hst5.at_;have HST5:=hid hst5;have HB5:=hid (Cv.next HB4.out hb5);have HO5:Hid (OutAt w5 W2.heap.size _ _ _):=hid ((hb5.block W2.heap.size (by omega)).trans HO3.out);have HR5:Hid (ResAt w5 W3.heap.size _ _ _ _ _ _):=hid ((hb5.block W3.heap.size (by omega)).trans HR4.out);have hs5:W4.heap.size≤w5.heap.size:=hb5.size;clear hst5 hb5 hnN x0 x1 x2 k0 k1 k2 k3 k4 k5 k6 k7;go_wp2_with fail;obtain⟨U1,hU1⟩:∃U1,w5.alloc (.cells #[.slice A6 n6 c6,.slice E6 m6 d6,.slice D6 k6' e6] 26)=U1:=⟨_,rfl⟩;obtain⟨U2,hU2⟩:∃U2,U1.alloc (.cells #[.int .i64 r.code,.int .i64 r.fd,.int .i64 r.num,.bool r.dir,.string r.data,.slice AN nN cN] 32)=U2:=⟨_,rfl⟩
 rw[hU1,hU2];have hau1:Below w5.heap.size w5 U1:=by rw[←hU1];exact(Below.refl _ _).alloc (Nat.le_refl _) _
 have hau2:Below U1.heap.size U1 U2:=by rw[←hU2];exact(Below.refl _ _).alloc (Nat.le_refl _) _
 have hsu1:U1.heap.size=w5.heap.size+1:=by rw[←hU1];simp
 have hau:=Cv.next hau1 hau2;have hru:ResAt U2 (w5.heap.size+1) (.int .i64 r.code) (.int .i64 r.fd) (.int .i64 r.num) (.bool r.dir) (.string r.data) (.slice AN nN cN):=by rw[←hsu1,←hU2];exact heap_alloc_new U1 _
 have hou:OutAt U2 w5.heap.size (.slice A6 n6 c6) (.slice E6 m6 d6) (.slice D6 k6' e6):=by
  have h1:U1.heap[w5.heap.size]? =some (.cells #[.slice A6 n6 c6,.slice E6 m6 d6,.slice D6 k6' e6] 26 (0,0)):=by rw[←hU1];exact heap_alloc_new w5 _
  exact(hau2.block w5.heap.size (by omega)).trans h1
 have hst8:=HST5.out.below hau;have hO8:OutAt U2 (W.heap.size+1) (.slice none 0 0) (.slice none 0 0) (.slice none 0 0):=by rw[←hsz2];exact(hau.block W2.heap.size (by omega)).trans HO5.out
 have hR8:ResAt U2 (W.heap.size+1+1) (.int .i64 0) (.int .i64 0) (.int .i64 0) (.bool false) (.string ⟨#[]⟩) (.slice none 0 0):=by rw[show W.heap.size+1+1=W3.heap.size by omega];exact(hau.block W3.heap.size (by omega)).trans HR5.out
 have HB8:=hid (Cv.next HB5.out hau);have HST8:=hid hst8;have HN8:=hid (HN5.out.below hau);obtain⟨q0,q1,q2,_⟩:=hou.get;obtain⟨j0,j1,j2,j3,j4,j5,_⟩:=hru.get;have uf:∀j,U2.frozen? ⟨W.heap.size+1,j,none⟩=false:=hO8.get.2.2.2;have vf:∀j,U2.frozen? ⟨W.heap.size+1+1,j,none⟩=false:=hR8.get.2.2.2.2.2.2;have n1:w5.heap.size≠W.heap.size+1:=by omega
 have n2:w5.heap.size≠W.heap.size+1+1:=by omega
 have n3:w5.heap.size+1≠W.heap.size+1:=by omega
 have n4:w5.heap.size+1≠W.heap.size+1+1:=by omega
 have n1':=Ne.symm n1;have n2':=Ne.symm n2;have n3':=Ne.symm n3;have n4':=Ne.symm n4;have n5:W.heap.size≠w5.heap.size:=by omega
 have n6':w5.heap.size≠W.heap.size:=by omega
 obtain⟨t0,t1,t2,_⟩:=hO8.get;obtain⟨v0,v1,v2,v3,v4,v5,_⟩:=hR8.get;have uf0:=uf 0;have uf1:=uf 1;have uf2:=uf 2;clear hU1 hU2 hau1 hau2 hau hru hou hst8
 go_region_held3 (fun w'=>w'.cell? ⟨w5.heap.size,0,none⟩=some (.slice A6 n6 c6)∧w'.cell? ⟨w5.heap.size,1,none⟩=some (.slice E6 m6 d6)∧w'.cell? ⟨w5.heap.size,2,none⟩=some (.slice D6 k6' e6)∧
   w'.cell? ⟨w5.heap.size+1,0,none⟩=some (.int .i64 r.code)∧w'.cell? ⟨w5.heap.size+1,1,none⟩=some (.int .i64 r.fd)∧w'.cell? ⟨w5.heap.size+1,2,none⟩=some (.int .i64 r.num)∧w'.cell? ⟨w5.heap.size+1,3,none⟩=some (.bool r.dir)∧w'.cell? ⟨w5.heap.size+1,4,none⟩=some (.string r.data)∧w'.cell? ⟨w5.heap.size+1,5,none⟩=some (.slice AN nN cN))
  (go_keep) (fail)
 obtain⟨U5,hU5,ho5,k5,b5⟩:=hO8.three (.slice A6 n6 c6) (.slice E6 m6 d6) (.slice D6 k6' e6);have hr5:ResAt U5 (W.heap.size+1+1) _ _ _ _ _ _:=((k5 _ (by decide)).same (W.heap.size+1+1) _ hR8).trans hR8;obtain⟨U6,hU6,hr6,k6,b6,a6,s6⟩:=hr5.six (.int .i64 r.code) (.int .i64 r.fd) (.int .i64 r.num) (.bool r.dir) (.string r.data) (.slice AN nN cN);have ho6:OutAt U6 (W.heap.size+1) _ _ _:=(a6 (W.heap.size+1) (by omega)).trans ho5;have hbw:Below w.heap.size w U6:=b6 w.heap.size w (by omega) (b5 w.heap.size w (by omega) HB8.out);have hst6:=(HST8.out.keep3 (k5 _ (by decide)) (k5 _ (by decide)) (k5 _ (by decide)) (k5 _ (by decide))).keep3 (k6 _ (by decide)) (k6 _ (by decide)) (k6 _ (by decide)) (k6 _ (by decide));rw[hU5,hU6];have HO6f:=hid ho6;have HR6f:=hid hr6;have HSTf:=hid ((hst6.lower (by have:=hb4s;omega)).below (Below.drew (Below.refl _ _)))
 have HBF:=hid (Below.drew hbw);have HNf:=hid (((((HN8.out.keep (k5 _ (by decide))).keep (k6 _ (by decide))).lower (B':=w.heap.size) (by have:=hb4s;omega))).below (Below.drew (Below.refl _ _)));clear hU5 hU6 ho5 k5 b5 hr5 hr6 k6 b6 a6 s6 ho6 hst6 hbw t0 t1 t2 v0 v1 v2 v3 v4 v5 uf0 uf1 uf2 uf vf j0 j1 j2 j3 j4 j5 q0 q1 q2;go_wp2_with fail
 (try simp only[Exit.inBlock,Exit.then])
 refine bodyPost_ret (v:=.tuple #[.agg #[.slice A6 n6 c6,.slice E6 m6 d6,.slice D6 k6' e6],.agg #[.int .i64 r.code,.int .i64 r.fd,.int .i64 r.num,.bool r.dir,.string r.data,.slice AN nN cN]]) ?_ rfl ?_
 ·rw[z6q rfl];have hl1:=run_loadVar_row (P:=Tryz.prog) U6.drew (W.heap.size+1) _ 26 _ (0,0) _ HO6f.out Tryz.underlying26 rfl (by kernel_rfl);have hl2:=run_loadVar_row (P:=Tryz.prog) U6.drew (W.heap.size+1+1) _ 32 _ (0,0) _ HR6f.out Tryz.underlying32 rfl (by kernel_rfl);simp[asAddr,hl1,hl2,Result.andThen]
 ·exact⟨_,_,rfl,HSTf.out,⟨AN,nN,cN,rfl,hokN,HNf.out⟩,HBF.out⟩
end Go.Proofs.YtmmpkfcdfcldlaaGreat
namespace Go.Proofs.YtmmpkfcdfcldlaaGreat
open Lib (hid)
open Go.RowKit
theorem zn7 (v:Value) (s:St) (c:Ca) (w:World) (h:StAt none w v s) (hp:c.path.size≤140737488355328) (hp2:c.path2.size≤140737488355328):
  Calls Tryz.prog 8 #[v,caV c] w fun e w'=>∃v' rv,e=.returned (.tuple #[v',rv])∧StAt (some w.heap.size) w' v' (doV s c).1∧ResIs (some w.heap.size) w' rv (doV s c).2∧Below w.heap.size w w':=
 zn6 v s c w h fun hm h0 h1 _ _=>znn hm h0 h1 hp hp2
end Go.Proofs.YtmmpkfcdfcldlaaGreat
namespace Go.Proofs.YtmmpkfcdfcldlaaGreat
open Lib (hid)
inductive Rn (is:List Ino):Int→Prop where
 | root:Rn is 1
 | step {x:Ino} {e:En}:Rn is x.num→x∈is→x.dir=true→e∈x.ents→Rn is e.num
structure EntsOk (is:List Ino) (es:List En):Prop where
 each:∀e∈es,chkB e.name=0∧e.num≠1∧∃y∈is,y.num=e.num
 rise:RiseE es
 bkt:∀b,bktE es b≤4
theorem zjx {is:List Ino} {n:Int}:0≤atV is n↔∃y∈is,y.num=n:=by
 rcases z0o is n with⟨h1,h2⟩|⟨k,x,h1,h2,h3,_⟩
 ·constructor
  ·intro h;omega
  ·rintro⟨y,hy,hn⟩;exact absurd hn (h2 y hy)
 ·constructor
  ·intro _;exact⟨x,List.mem_of_getElem? h2,h3⟩
  ·intro _;omega
theorem zbd (is:List Ino):∀(es:List En) (p:Option ByteArray) (many:Nat→Nat),entsG is es p many=true→(∀e∈es,chkB e.name=0∧e.num≠1∧∃y∈is,y.num=e.num)∧∀b,many b≤4→many b+bktE es b≤4
 | [],p,many,h=>⟨by simp,fun b hb=>by simpa [bktE] using hb⟩
 | e :: es, p, many, h => by
  unfold entsG at h
  by_cases h1:entBad is p e=true
  ·rw[if_pos h1] at h;cases h
  ·rw[if_neg h1] at h
   by_cases h2:4<many (bktB e.name)+1
   ·rw[if_pos h2] at h;cases h
   ·rw[if_neg h2] at h;obtain⟨r1,r2⟩:=zbd is es _ _ h
    have hb:chkB e.name=0∧e.num≠1∧0≤atV is e.num:=by
     unfold entBad at h1;simp only[Bool.or_eq_true,decide_eq_true_eq,not_or] at h1;obtain⟨⟨⟨a1,_⟩,a2⟩,a3⟩:=h1;exact⟨by omega,a2,by omega⟩
    refine⟨fun x hx=>?_,fun b hb4=>?_⟩
    ·rcases List.mem_cons.1 hx with rfl|hx
     ·exact⟨hb.1,hb.2.1,zjx.1 hb.2.2⟩
     ·exact r1 x hx
    ·have h3:=r2 b;unfold bktE
     by_cases hbb:b=bktB e.name
     ·rw[if_pos hbb] at h3;rw[if_pos hbb.symm];have:=h3 (by rw[hbb];omega);omega
     ·rw[if_neg hbb] at h3;rw[if_neg (fun e2=>hbb e2.symm)];have:=h3 hb4;omega
theorem zg3 (is:List Ino):∀(es:List En) (p:Option ByteArray) (many:Nat→Nat),(∀e∈es,chkB e.name=0∧e.num≠1∧∃y∈is,y.num=e.num)→RiseE es→(∀q x,p=some q→es[0]? =some x→ltN q x.name=true)→(∀b,bktE es b=0∨many b+bktE es b≤4)→entsG is es p many=true
 | [],p,many,_,_,_,_=>rfl
 | e :: es, p, many, h1, h2, h3, h4 => by
  have he:=h1 e (by simp);have hb:=h4 (bktB e.name)
  have hbe:bktE (e::es) (bktB e.name)=1+bktE es (bktB e.name):=by
   show(if bktB e.name=bktB e.name then 1 else 0)+bktE es (bktB e.name)=_;rw[if_pos rfl]
  have hbad:entBad is p e=false:=by
   have ha:=zjx.2 he.2.2;unfold entBad;rw[Bool.or_eq_false_iff,Bool.or_eq_false_iff,Bool.or_eq_false_iff];refine⟨⟨⟨?_,?_⟩,?_⟩,?_⟩
   ·rw[decide_eq_false_iff_not];intro h;exact h he.1
   ·cases p with
    | none=>rfl
    | some q=>
     have:=h3 q e rfl rfl;simp[this]
   ·rw[decide_eq_false_iff_not];exact he.2.1
   ·rw[decide_eq_false_iff_not];omega
  unfold entsG;rw[if_neg (by rw[hbad];decide),if_neg (by omega)];refine zg3 is es _ _ (fun x hx=>h1 x (by simp[hx])) h2.tail (fun q x hq hx=>?_) (fun b=>?_)
  ·cases hq;exact h2 0 1 e x (by omega) rfl (by simpa using hx)
  ·have hbb:=h4 b;have hbs:bktE (e::es) b=(if bktB e.name=b then 1 else 0)+bktE es b:=rfl
   by_cases hq:b=bktB e.name
   ·rw[if_pos hq];rw[hbs,if_pos hq.symm] at hbb;omega
   ·rw[if_neg hq];rw[hbs,if_neg (fun e2=>hq e2.symm)] at hbb;omega
theorem zdm {is:List Ino} {es:List En}:entsV is es=true↔EntsOk is es:=by
 constructor
 ·intro h;obtain⟨h1,h2⟩:=zbd is es _ _ h;exact⟨h1,(z7r is es _ _ h).1,fun b=>by have:=h2 b (by omega);omega⟩
 ·intro h;exact zg3 is es _ _ h.each h.rise (fun q x hq=>by cases hq) (fun b=>.inr (by have:=h.bkt b;omega))
theorem zdn (is:List Ino) (n:Nat):∀(ds:List Ds) (p:Option Ds),(∀d∈ds,dsBad is n d=false)→RiseD ds→(∀q x,p=some q→ds[0]? =some x→ltD q x)→opensG is n ds p=true
 | [],p,_,_,_=>rfl
 | d :: ds, p, h1, h2, h3 => by
  have hp:dsPrev p d=false:=by
   cases p with
   | none=>rfl
   | some q=>
    have:=h3 q d rfl rfl;unfold ltD at this;simp only[dsPrev,Bool.or_eq_false_iff,Bool.and_eq_false_iff,decide_eq_false_iff_not];omega
  unfold opensG;rw[if_neg (by rw[h1 d (by simp)];decide),if_neg (by rw[hp];decide)];refine zdn is n ds _ (fun x hx=>h1 x (by simp[hx])) (fun i j x y hij hx hy=>h2 (i+1) (j+1) x y (by omega) (by simpa using hx) (by simpa using hy)) (fun q x hq hx=>?_);cases hq;exact h2 0 1 d x (by omega) rfl (by simpa using hx)
structure Frm (s:St):Prop where
 m1:1≤s.made.length
 m8:s.made.length≤8
 mr:∀m∈s.made,0≤m∧m≤32
 rise:RiseI s.inos
 root:∃x∈s.inos,x.num=1∧x.dir=true
 given:∀x∈s.inos,x.num≠1→givenV s.made x.num=true
 dirs:∀x∈s.inos,x.dir=true→x.data.size=0∧EntsOk s.inos x.ents
 files:∀x∈s.inos,x.dir=false→x.ents=[]∧x.data.size≤256
 opn:∀d∈s.opn,0≤d.core∧d.core<(s.made.length:Int)∧0≤d.fd∧d.fd<4∧∃y∈s.inos,y.num=d.num∧y.dir=false
 riseD:RiseD s.opn
structure Had (s:St):Prop where
 one:∀x∈s.inos,x.num≠1→x.dir=true→linkI s.inos x.num=1∧Rn s.inos x.num
 has:∀x∈s.inos,x.dir=false→Rn s.inos x.num∨openB s.opn x.num=true
theorem z4t {made:List Int} {n:Int} (h:givenV made n=true):2≤n:=by
 unfold givenV at h
 by_cases h2:n<2
 ·rw[if_pos h2] at h;cases h
 ·omega
theorem RiseI.one {is:List Ino} (h:RiseI is) {x y:Ino} (hx:x∈is) (hy:y∈is) (hn:x.num=y.num):x=y:=by
 obtain⟨i,hi⟩:=List.getElem?_of_mem hx;obtain⟨j,hj⟩:=List.getElem?_of_mem hy
 rcases Nat.lt_trichotomy i j with h1|h1|h1
 ·have:=h i j x y h1 hi hj;omega
 ·subst h1;rw[hi] at hj;exact Option.some.inj hj
 ·have:=h j i y x h1 hj hi;omega
theorem Reach.num {is:List Ino} (hr:RiseI is) {k:Nat} (h:Reach is k):∃x,is[k]? =some x∧Rn is x.num:=by
 induction h with
 | root k hk =>
  rcases z0o is 1 with⟨h1,_⟩|⟨j,x,h1,h2,h3,_⟩
  ·omega
  ·have:j=k:=by omega
   subst this;exact⟨x,h2,by rw[h3];exact .root⟩
 | step k j x e hk hx hd he hat ih =>
  obtain⟨x',hx',hrn⟩:=ih;rw[hx] at hx';cases hx'
  rcases z0o is e.num with⟨h1,_⟩|⟨i,y,h1,h2,h3,_⟩
  ·omega
  ·have:i=j:=by omega
   subst this;exact⟨y,h2,by rw[h3];exact .step hrn (List.mem_of_getElem? hx) hd he⟩
theorem Rn.place {is:List Ino} (hr:RiseI is) (h1:∃x∈is,x.num=1∧x.dir=true) (hw:∀x∈is,x.dir=true→∀e∈x.ents,∃y∈is,y.num=e.num) {n:Int} (h:Rn is n):∃(k:Nat) (x:Ino),is[k]? =some x∧x.num=n∧Reach is k:=by
 induction h with
 | root=>
  obtain⟨x,hx,hn,_⟩:=h1;obtain⟨k,hk⟩:=List.getElem?_of_mem hx;exact⟨k,x,hk,hn,.root k (z0g hr hk hn)⟩
 | step hrn hx hd he ih=>
  rename_i x e;obtain⟨k,z,hz,hzn,hzr⟩:=ih;have:z=x:=hr.one (List.mem_of_getElem? hz) hx hzn;subst this;obtain⟨y,hy,hyn⟩:=hw z hx hd e he;obtain⟨j,hj⟩:=List.getElem?_of_mem hy;exact⟨j,y,hj,hyn,.step k j z e hzr hz hd he (z0g hr hj hyn)⟩
theorem Good.frm {s:St} (h:Good s):Frm s∧Had s:=by
 obtain⟨r,hr,hrn,hrd⟩:=h.root;have hri:=h.riseI
 have hidx:∀x∈s.inos,x.num≠1→∃i,0<i∧s.inos[i]? =some x:=fun x hx hn=>by
  obtain⟨i,hi⟩:=List.getElem?_of_mem hx
  rcases Nat.eq_zero_or_pos i with rfl|hp
  ·rw[hr] at hi;cases hi;exact absurd hrn hn
  ·exact⟨i,hp,hi⟩
 refine⟨⟨h.m1,h.m8,h.mr,hri,⟨r,List.mem_of_getElem? hr,hrn,hrd⟩,?_,fun x hx hd=>⟨(h.dirs x hx hd).1,zdm.1 (h.dirs x hx hd).2⟩,h.files,?_,h.riseD⟩,?_,?_⟩
 ·intro x hx hn;obtain⟨i,hi,hi2⟩:=hidx x hx hn;exact h.given i x hi hi2
 ·intro d hd;obtain⟨a1,a2,a3,a4,i,x,_,a5,a6,a7⟩:=h.opens d hd;exact⟨a1,a2,a3,a4,x,List.mem_of_getElem? a5,a6,a7⟩
 ·intro x hx hn hd;obtain⟨i,hi,hi2⟩:=hidx x hx hn;obtain⟨h1,h2⟩:=h.one i x hi hi2 hd;obtain⟨y,hy,hyr⟩:=h2.num hri;rw[hi2] at hy;cases hy;exact⟨h1,hyr⟩
 ·intro x hx hd;obtain⟨i,hi⟩:=List.getElem?_of_mem hx
  rcases h.has i x hi hd with h2|h2
  ·obtain⟨y,hy,hyr⟩:=h2.num hri;rw[hi] at hy;cases hy;exact .inl hyr
  ·exact .inr h2
theorem Frm.good {s:St} (h:Frm s) (g:Had s):Good s:=by
 have hi0:∃x,s.inos[0]? =some x∧x.num=1∧x.dir=true:=by
  obtain⟨x,hx,hn,hd⟩:=h.root;obtain⟨i,hi⟩:=List.getElem?_of_mem hx
  rcases Nat.eq_zero_or_pos i with rfl|hp
  ·exact⟨x,hi,hn,hd⟩
  ·exfalso;have hl:0<s.inos.length:=by have:=(List.getElem?_eq_some_iff.1 hi).1;omega
   have h0:=List.getElem?_eq_getElem hl;have h1:=h.rise 0 i _ x hp h0 hi;have h2:=z4t (h.given _ (List.mem_of_getElem? h0) (by omega));omega
 have hne:∀(i:Nat) (x:Ino),0<i→s.inos[i]? =some x→x.num≠1:=fun i x hi hx hn=>by
  obtain⟨r,hr,hrn,_⟩:=hi0;have:=h.rise 0 i r x hi hr hx;omega
 have hw:∀x∈s.inos,x.dir=true→∀e∈x.ents,∃y∈s.inos,y.num=e.num:=fun x hx hd e he=>((h.dirs x hx hd).2.each e he).2.2
 have hpl:∀{i:Nat} {x:Ino},s.inos[i]? =some x→Rn s.inos x.num→Reach s.inos i:=fun {i x} hx hrn=>by
  obtain⟨k,y,hy,hyn,hyr⟩:=hrn.place h.rise h.root hw
  have:k=i:=by
   rcases Nat.lt_trichotomy k i with h1|h1|h1
   ·have:=h.rise k i y x h1 hy hx;omega
   ·exact h1
   ·have:=h.rise i k x y h1 hx hy;omega
  subst this;exact hyr
 refine⟨h.m1,h.m8,h.mr,hi0,?_,fun i x hi hx=>h.given x (List.mem_of_getElem? hx) (hne i x hi hx),fun x hx hd=>⟨(h.dirs x hx hd).1,zdm.2 (h.dirs x hx hd).2⟩,h.files,?_,?_,?_⟩
 ·rw[List.pairwise_iff_getElem];intro i j hi hj hij;exact h.rise i j _ _ hij (List.getElem?_eq_getElem hi) (List.getElem?_eq_getElem hj)
 ·refine zdn _ _ _ _ (fun d hd=>?_) h.riseD (fun q x hq=>by cases hq);obtain⟨a1,a2,a3,a4,y,hy,hyn,hyd⟩:=h.opn d hd;obtain⟨j,hj⟩:=List.getElem?_of_mem hy;have hat:=z0g h.rise hj hyn;unfold dsBad;simp only[Bool.or_eq_false_iff,decide_eq_false_iff_not];refine⟨⟨⟨⟨by omega,by omega⟩,by omega⟩,by omega⟩,?_⟩;rw[hat,z0c,hj];exact hyd
 ·intro i x hi hx hd;obtain⟨h1,h2⟩:=g.one x (List.mem_of_getElem? hx) (hne i x hi hx) hd;exact⟨h1,hpl hx h2⟩
 ·intro i x hx hd
  rcases g.has x (List.mem_of_getElem? hx) hd with h2|h2
  ·exact .inl (hpl hx h2)
  ·exact .inr h2
end Go.Proofs.YtmmpkfcdfcldlaaGreat
