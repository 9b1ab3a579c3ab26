/- Parts of the proof, side by side: MoDo, MoFinds. -/
import Derived.Test.YtmmpkfcdfcldlaaGreatM39
import Derived.Deep.RegionHeld3
set_option linter.unusedVariables false
set_option linter.unusedSimpArgs false
namespace Go.Proofs.YtmmpkfcdfcldlaaGreat
open Lib (hid)
open Go.RowKit
set_option maxRecDepth 100000 in
set_option maxHeartbeats 8000000 in
theorem zla (v:Value) (s:St) (c:Ca) (w:World) (h:StAt none w v s) (hyes:mayC s c=true) (hp1:c.path.size≤140737488355328) (hp2:c.path2.size≤140737488355328) (hds:c.data.size≤140737488355328):
  Calls Tryz.prog 7 #[v,caV c] w fun e w'=>∃zs vI vO vM rv,e=.returned (.tuple #[.agg #[vI,vO,vM],rv])∧OwnR w.heap.size w' (doV s c).1 zs vI vO vM∧ResIs (some w.heap.size) w' rv (doV s c).2∧Below w.heap.size w w':=by
 obtain⟨hgood,hk0,hk1,hc0,hc1⟩:=ziu hyes;have hrun:=fun B q p zs vI vO vM w hN=>zke B q p s c zs vI vO vM w hN hgood hp1 hp2 hds hk0 hk1 hc0 hc1
 obtain⟨R,hR⟩:∃R,doV s c=R:=⟨_,rfl⟩;have hfail:=zkd s c;rw[hR] at hfail;simp only[hR] at hrun;rw[hR];have HFAIL:=hid hfail;have HRUN:=hid hrun;obtain⟨A,n,c',E,m,d,D,k,e,rfl,_⟩:=h.at_;obtain⟨W,W2,W3,W4,hW,hW2,hW3,hW4,z1,z2,z3,z4,hst,ho0,hca,ho2,hr3,hbel⟩:=zfj A n c' E m d D k e s c w h;have HST:=hid hst;have HO0:=hid ho0;have HCA:=hid hca;have HO2:=hid ho2;have HR3:=hid hr3;have HB:=hid hbel;have HMC:=hid hyes;obtain⟨p0,p1,p2,_⟩:=ho0.get;have hmf:∀(fn:Fn) (first cap:Array Value) (w:World),(Instr.makeFunc fn first cap).run Tryz.prog w=.ok (.func fn first cap) w:=fun _ _ _ _=>rfl
 unfold caV;clear h hst ho0 hca ho2 hr3 hbel hgood hk0 hk1 hc0 hc1 hrun hfail hR hyes hp1 hp2 hds
 go_enter_defers Tryz.func7,Tryz.ntmps7
 go_wp2_with fail;refine(zcu w.heap.size (w.heap.size+1) A n c' E m d D k e s c W4 HO0.out HST.out HCA.out).mono ?_;rintro e5 w5 ⟨rfl,hb5⟩;rw[HMC.out];have q0:=(hb5.cell (p:=⟨w.heap.size,0,none⟩) (by show w.heap.size<_;omega)).trans p0;have q1:=(hb5.cell (p:=⟨w.heap.size,1,none⟩) (by show w.heap.size<_;omega)).trans p1;have q2:=(hb5.cell (p:=⟨w.heap.size,2,none⟩) (by show w.heap.size<_;omega)).trans p2;have HB5:=hid hb5;have hs5:=hb5.size;clear hb5 p0 p1 p2 hW hW2 hW3 hW4;go_wp2_with fail;refine(z0t _ s w5 (HST.out.below HB5.out)).mono ?_;rintro e6 w6 ⟨zs,vI,vO,vM,rfl,hown6,hb6⟩;obtain⟨A1,c1,rfl,_⟩:=hown6.rowI.slice;obtain⟨A2,c2,rfl,_⟩:=hown6.rowO.slice;obtain⟨A3,c3,rfl,_⟩:=hown6.rowM.slice;have hs6:=hb6.size;have hbw:Below W4.heap.size W4 w6:=Cv.next HB5.out hb6;obtain⟨V1,hV1⟩:∃V1,w6.alloc (.cells #[.slice A1 zs.length c1,.slice A2 s.opn.length c2,.slice A3 s.made.length c3] 26)=V1:=⟨_,rfl⟩
 have l1:Below w6.heap.size w6 V1:=by rw[←hV1];exact(Below.refl _ _).alloc (Nat.le_refl _) _
 have o1:OutAt V1 w6.heap.size (.slice A1 zs.length c1) (.slice A2 s.opn.length c2) (.slice A3 s.made.length c3):=by rw[←hV1];exact heap_alloc_new w6 _
 have y1:V1.heap.size=w6.heap.size+1:=by rw[←hV1];simp
 obtain⟨V2,hV2⟩:∃V2,V1.alloc (.cells #[.pointer (some ⟨w6.heap.size,0,none⟩),.int .i64 c.kind,.int .i64 c.core,.int .i64 c.fd,.int .i64 c.off,.int .i64 c.num,.string c.path,.string c.path2,.string c.data,.int .i64 0,.int .i64 0,.int .i64 0,.bool false,.string ⟨#[]⟩,.slice none 0 0] 69)=V2:=⟨_,rfl⟩;have l2:Below V1.heap.size V1 V2:=by rw[←hV2];exact(Below.refl _ _).alloc (Nat.le_refl _) _
 have hdoer:DoerAt V2 (w6.heap.size+1) w6.heap.size c 0 0 false ⟨#[]⟩ (.slice none 0 0):=⟨by rw[←y1,←hV2];exact heap_alloc_new V1 _⟩;have hown2:Own2 w5.heap.size V2 w6.heap.size s zs (.slice A1 zs.length c1) (.slice A2 s.opn.length c2) (.slice A3 s.made.length c3):=OwnR.own2 ((hown6.below l1).below l2) hs6 ((l2.block w6.heap.size (by omega)).trans o1);have l12:=Cv.next l1 l2;have hnow:Now w5.heap.size (w6.heap.size+1) w6.heap.size s c zs (.slice A1 zs.length c1) (.slice A2 s.opn.length c2) (.slice A3 s.made.length c3) V2 V2:=⟨Nat.le_trans hs6 l12.size,by omega,Below.refl _ _,hown2,hdoer⟩;have hcall:=HRUN.out _ _ _ _ _ _ _ V2 hnow;have HCALL:=hid hcall;have HB52:=hid ((Cv.next hb6 l12:Below w5.heap.size w5 V2));have hca6:w6.heap[w.heap.size+1]? =some (caRow c):=(hbw.block _ (by omega)).trans HCA.out;unfold caRow at hca6;have k0:w6.cell? ⟨w.heap.size+1,0,none⟩=some (.int .i64 c.kind):=by rw[cell_of_row w6 _ _ _ _ (0,0) hca6];rfl
 have k1:w6.cell? ⟨w.heap.size+1,1,none⟩=some (.int .i64 c.core):=by rw[cell_of_row w6 _ _ _ _ (0,0) hca6];rfl
 have k2:w6.cell? ⟨w.heap.size+1,2,none⟩=some (.int .i64 c.fd):=by rw[cell_of_row w6 _ _ _ _ (0,0) hca6];rfl
 have k3:w6.cell? ⟨w.heap.size+1,3,none⟩=some (.int .i64 c.off):=by rw[cell_of_row w6 _ _ _ _ (0,0) hca6];rfl
 have k4:w6.cell? ⟨w.heap.size+1,4,none⟩=some (.int .i64 c.num):=by rw[cell_of_row w6 _ _ _ _ (0,0) hca6];rfl
 have k5:w6.cell? ⟨w.heap.size+1,5,none⟩=some (.string c.path):=by rw[cell_of_row w6 _ _ _ _ (0,0) hca6];rfl
 have k6:w6.cell? ⟨w.heap.size+1,6,none⟩=some (.string c.path2):=by rw[cell_of_row w6 _ _ _ _ (0,0) hca6];rfl
 have k7:w6.cell? ⟨w.heap.size+1,7,none⟩=some (.string c.data):=by rw[cell_of_row w6 _ _ _ _ (0,0) hca6];rfl
 have hl1:w.heap.size+1<w6.heap.size:=by omega
 have j0:=(l1.cell (p:=⟨w.heap.size+1,0,none⟩) hl1).trans k0;have j1:=(l1.cell (p:=⟨w.heap.size+1,1,none⟩) hl1).trans k1;have j2:=(l1.cell (p:=⟨w.heap.size+1,2,none⟩) hl1).trans k2;have j3:=(l1.cell (p:=⟨w.heap.size+1,3,none⟩) hl1).trans k3;have j4:=(l1.cell (p:=⟨w.heap.size+1,4,none⟩) hl1).trans k4;have j5:=(l1.cell (p:=⟨w.heap.size+1,5,none⟩) hl1).trans k5;have j6:=(l1.cell (p:=⟨w.heap.size+1,6,none⟩) hl1).trans k6;have j7:=(l1.cell (p:=⟨w.heap.size+1,7,none⟩) hl1).trans k7;clear hown6 hb6 hbw l1 o1 l2 hdoer hown2 l12 hnow hcall hca6 q0 q1 q2 k0 k1 k2 k3 k4 k5 k6 k7;go_wp2_with fail;refine HCALL.out.mono ?_;rintro e7 w7 ⟨hb7,⟨hc,rfl⟩|⟨hc,rfl,⟨zs7,vI7,vO7,vM7,ho7⟩,nv,hd7,hrow7⟩⟩
 ·have hbw7:Below w5.heap.size w5 w7:=HB52.out.trans hb7;have hs7:=hbw7.size;have hst7:=(HST.out.below HB5.out).below hbw7;have hO7:OutAt w7 w.heap.size _ _ _:=(hbw7.block w.heap.size (by omega)).trans ((HB5.out.block w.heap.size (by omega)).trans HO0.out);have hO27:OutAt w7 (w.heap.size+2) _ _ _:=(hbw7.block (w.heap.size+2) (by omega)).trans ((HB5.out.block (w.heap.size+2) (by omega)).trans HO2.out);have hR7:ResAt w7 (w.heap.size+3) _ _ _ _ _ _:=(hbw7.block (w.heap.size+3) (by omega)).trans ((HB5.out.block (w.heap.size+3) (by omega)).trans HR3.out);have hBB:Below w.heap.size w w7:=Cv.next HB.out (Cv.next HB5.out hbw7);have hrec:=zea w.heap.size (w.heap.size+2) (w.heap.size+3) A n c' E m d D k e s R.2.code w7 hO7 hst7 hO27 hR7
  go_simp
  refine leaves_cons (f:=30) (args:=#[.pointer (some ⟨w.heap.size,0,none⟩),.pointer (some ⟨w.heap.size+2,0,none⟩),.pointer (some ⟨w.heap.size+3,0,none⟩)]) (by simp) (by simp[go_sem]) ?_;refine hrec.mono ?_;rintro e9 u9 w9 ⟨rfl,rfl,zs9,a9,b9,d9,hO9,hown9,hr9,hbel9⟩;have hf:=HFAIL.out hc;refine⟨_,z6z _ _ _ _ _ _ _ _ _ _ _ _ w9 rfl rfl hO9 hr9,zs9,_,_,_,_,rfl,?_,?_,hBB.trans (hbel9 _ (by omega) (by omega) (by omega))⟩
  ·rw[hf];exact hown9.lower (by omega)
  ·rw[hf];exact⟨none,0,0,rfl,⟨Nat.le_refl _,fun _=>rfl⟩,zit _ _⟩
 ·have hbw7:Below w5.heap.size w5 w7:=HB52.out.trans hb7;have hs7:=hbw7.size;obtain⟨A7,c7,rfl,_⟩:=ho7.rowI.slice;obtain⟨A8,c8,rfl,_⟩:=ho7.rowO.slice;obtain⟨A9,c9,rfl,_⟩:=ho7.rowM.slice;obtain⟨AN,cN,rfl,hokN,hNN⟩:=hrow7.nmsB;have hO27:OutAt w7 (w.heap.size+2) _ _ _:=(hbw7.block (w.heap.size+2) (by omega)).trans ((HB5.out.block (w.heap.size+2) (by omega)).trans HO2.out);have hR7:ResAt w7 (w.heap.size+3) _ _ _ _ _ _:=(hbw7.block (w.heap.size+3) (by omega)).trans ((HB5.out.block (w.heap.size+3) (by omega)).trans HR3.out);have s0:=ho7.s0;have s1:=ho7.s1;have s2:=ho7.s2;have t9:w7.cell? ⟨w6.heap.size+1,9,none⟩=some (.int .i64 0):=by rw[cell_of_row w7 _ _ _ _ (0,0) hd7.cell];rfl
  have t10:=hd7.r10;have t11:=hd7.r11;have t12:=hd7.r12;have t13:=hd7.r13;have t14:=hd7.r14;have hcR:R.2.code=0:=hc;obtain⟨x0,x1,x2,xf⟩:=hO27.get;obtain⟨y0,y1,y2,y3,y4,y5,yf⟩:=hR7.get;have xf0:=xf 0;have xf1:=xf 1;have xf2:=xf 2;have n1:w6.heap.size≠w.heap.size+2:=by omega
  have n2:w6.heap.size≠w.heap.size+3:=by omega
  have n3:w6.heap.size+1≠w.heap.size+2:=by omega
  have n4:w6.heap.size+1≠w.heap.size+3:=by omega
  have n5:w.heap.size+2≠w.heap.size+3:=by omega
  have n1':=Ne.symm n1;have n2':=Ne.symm n2;have n3':=Ne.symm n3;have n4':=Ne.symm n4;have n5':=Ne.symm n5;have hlt:=hd7.lt;have HO27:=hid hO27;have HR7:=hid hR7;have HO7:=hid ho7;have HNN:=hid hNN;have HOK:=hid hokN;have HBB:=hid ((Cv.next HB.out (Cv.next HB5.out hbw7):Below w.heap.size w w7));clear hO27 hR7 ho7 hNN hokN hbw7 hb7 hd7 hrow7 xf j0 j1 j2 j3 j4 j5 j6 j7 hV1 hV2 HFAIL HRUN;go_wp2_with fail
  go_region_held3 (fun w'=>w'.cell? ⟨w6.heap.size,0,none⟩=some (.slice A7 zs7.length c7)∧w'.cell? ⟨w6.heap.size,1,none⟩=some (.slice A8 R.1.opn.length c8)∧w'.cell? ⟨w6.heap.size,2,none⟩=some (.slice A9 R.1.made.length c9)∧
    w'.cell? ⟨w6.heap.size+1,9,none⟩=some (.int .i64 0)∧w'.cell? ⟨w6.heap.size+1,10,none⟩=some (.int .i64 R.2.fd)∧w'.cell? ⟨w6.heap.size+1,11,none⟩=some (.int .i64 R.2.num)∧w'.cell? ⟨w6.heap.size+1,12,none⟩=some (.bool R.2.dir)∧w'.cell? ⟨w6.heap.size+1,13,none⟩=some (.string R.2.data)∧w'.cell? ⟨w6.heap.size+1,14,none⟩=some (.slice AN R.2.names.length cN))
   (go_keep) (fail)
  obtain⟨U5,hU5,ho5,k5,b5⟩:=HO27.out.three (.slice A7 zs7.length c7) (.slice A8 R.1.opn.length c8) (.slice A9 R.1.made.length c9);have hr5:ResAt U5 (w.heap.size+3) _ _ _ _ _ _:=((k5 _ (by decide)).same (w.heap.size+3) _ HR7.out).trans HR7.out;obtain⟨U6,hU6,hr6,k6,b6,a6,s6⟩:=hr5.six (.int .i64 0) (.int .i64 R.2.fd) (.int .i64 R.2.num) (.bool R.2.dir) (.string R.2.data) (.slice AN R.2.names.length cN);have ho6:OutAt U6 (w.heap.size+2) _ _ _:=(a6 (w.heap.size+2) (by omega)).trans ho5;have hbw:Below w.heap.size w U6:=b6 w.heap.size w (by omega) (b5 w.heap.size w (by omega) HBB.out);have hown6:=(HO7.out.ownR.keep (k5 _ (by decide)) (k5 _ (by decide)) (k5 _ (by decide)) (k5 _ (by decide))).keep (k6 _ (by decide)) (k6 _ (by decide)) (k6 _ (by decide)) (k6 _ (by decide));rw[hU5,hU6];have HO6f:=hid ho6;have HR6f:=hid hr6;have HSTf:=hid ((hown6.lower (B':=w.heap.size) (by omega)).below (Below.drew (Below.refl _ _)))
  have HBF:=hid (Below.drew hbw);have HNf:=hid (((((HNN.out.keep (k5 _ (by decide))).keep (k6 _ (by decide))).lower (B':=w.heap.size) (by omega))).below (Below.drew (Below.refl _ _)));clear hU5 hU6 ho5 k5 b5 hr5 hr6 k6 b6 a6 s6 ho6 hown6 hbw x0 x1 x2 y0 y1 y2 y3 y4 y5 yf xf0 xf1 xf2 t9 t10 t11 t12 t13 t14 s0 s1 s2;go_wp2_with fail;refine leaves_cons (f:=30) (args:=#[.pointer (some ⟨w.heap.size,0,none⟩),.pointer (some ⟨w.heap.size+2,0,none⟩),.pointer (some ⟨w.heap.size+3,0,none⟩)]) (by simp) (by simp[go_sem]) ?_;refine(zgx w.heap.size (w.heap.size+2) (w.heap.size+3) U6.drew).mono ?_;rintro e9 u9 w9 ⟨rfl,rfl,rfl⟩;exact⟨_,z6z _ _ _ _ _ _ _ _ _ _ _ _ U6.drew rfl rfl HO6f.out HR6f.out,zs7,_,_,_,_,rfl,HSTf.out,⟨AN,_,cN,by rw[hcR],HOK.out,HNf.out⟩,HBF.out⟩
theorem z7z (v:Value) (s:St) (c:Ca) (w:World) (h:StAt none w v s) (hp1:c.path.size≤140737488355328) (hp2:c.path2.size≤140737488355328) (hds:c.data.size≤140737488355328):
  Calls Tryz.prog 7 #[v,caV c] w fun e w'=>∃zs vI vO vM rv,e=.returned (.tuple #[.agg #[vI,vO,vM],rv])∧OwnR w.heap.size w' (doV s c).1 zs vI vO vM∧ResIs (some w.heap.size) w' rv (doV s c).2∧Below w.heap.size w w':=by
 cases hm:mayC s c
 ·exact zls v s c w h hm
 ·exact zla v s c w h hm hp1 hp2 hds
theorem zlb (v:Value) (s:St) (c:Ca) (w:World) (h:StAt none w v s) (hp1:c.path.size≤140737488355328) (hp2:c.path2.size≤140737488355328) (hds:c.data.size≤140737488355328):
  Calls Tryz.prog 7 #[v,caV c] w fun e w'=>∃v' rv,e=.returned (.tuple #[v',rv])∧StAt (some w.heap.size) w' v' (doV s c).1∧ResIs (some w.heap.size) w' rv (doV s c).2∧Below w.heap.size w w':=
 (z7z v s c w h hp1 hp2 hds).mono fun e w' ⟨zs,vI,vO,vM,rv,he,ho,hr,hb⟩=>⟨_,rv,he,ho.st,hr,hb⟩
end Go.Proofs.YtmmpkfcdfcldlaaGreat
namespace Go.Proofs.YtmmpkfcdfcldlaaGreat
open Lib (hid)
open Go.RowKit
def mfindV (s:St) (path:ByteArray):Int×Int:=
 if(parseL path.data.toList).2≠0 then(0,codeP (parseL path.data.toList).2)
 else if mayV s=false then(0,9) else walkG s.inos (parseL path.data.toList).1 1
theorem zeb {s:St} (h:Good s) (path:ByteArray):mfindV s path=findV s.inos path:=by
 unfold mfindV findV
 split
 ·rfl
 ·rw[if_neg (by rw[(z1o s).2 h];decide)]
theorem zah (is:List Ino):∀(ns:List (List UInt8)) (t:Int),(walkG is ns t).2≠0→(walkG is ns t).1=0
 | [],t,h=>absurd rfl h
 | n :: ns, t, h => by
  unfold walkG at h ⊢;cases hi:inoAt is (atV is t) with
  | none=>rfl
  | some x =>
   rw[hi] at h;simp only at h ⊢
   split
   ·rfl
   ·rename_i h1;rw[if_neg h1] at h
    split
    ·rfl
    ·rename_i h2;rw[if_neg h2] at h;exact zah is ns _ h
set_option maxRecDepth 100000 in
set_option maxHeartbeats 4000000 in
theorem zcv (v:Value) (s:St) (path:ByteArray) (w:World) (h:StAt none w v s) (hs:path.size≤140737488355328):
  Calls Tryz.prog 21 #[v,.string path] w fun e w'=>e=.returned (.tuple #[.int .i64 (mfindV s path).1,.int .i64 (mfindV s path).2])∧Below w.heap.size w w':=by
 obtain⟨A,n,c,E,m,d,D,k,e,rfl,_⟩:=h.at_;obtain⟨W,hW,b0,b1,b2,hal,hlt0⟩:=z1p w A n c E m d D k e;have hcell:W.heap[w.heap.size]? =some (.cells #[.slice A n c,.slice E m d,.slice D k e] 26 (0,0)):=by rw[←hW];exact heap_alloc_new w _
 have hst:=h.below hal
 have hptr:PtrAt W w.heap.size s:=by
  obtain⟨⟨A',n',c',B',m',d',D',k',e',hv,hI,hD,hM,h5,h6,h7⟩,hz⟩:=hst;injection hv with hv
  have g0:=congrArg (fun a:Array Value=>a[0]?) hv;have g1:=congrArg (fun a:Array Value=>a[1]?) hv;have g2:=congrArg (fun a:Array Value=>a[2]?) hv;simp at g0 g1 g2;obtain⟨rfl,rfl,rfl⟩:=g0;obtain⟨rfl,rfl,rfl⟩:=g1;obtain⟨rfl,rfl,rfl⟩:=g2;exact⟨⟨_,_,_,_,_,_,_,_,_,hcell,hI,hD,hM,h5,h6,h7⟩,hz⟩
 have hn:n=s.inos.length:=by
  obtain⟨A',n',c',B',m',d',D',k',e',hv,hI,_⟩:=hst.at_;injection hv with hv
  have g0:=congrArg (fun a:Array Value=>a[0]?) hv;simp at g0;rw[hI.1];exact g0.2.1
 have HST:=hid hst;have HPT:=hid hptr;have HAL:=hid hal;have HNL:=hid hn;have HCE:=hid hcell;obtain⟨R,hR⟩:∃R,mfindV s path=R:=⟨_,rfl⟩;rw[hR];unfold mfindV at hR;have HR:=hid hR;have hle:=z5z path.data.toList;obtain⟨RP,hRP⟩:∃RP,parseL path.data.toList=RP:=⟨_,rfl⟩;have hlen:=z3b path.data.toList;rw[hRP] at hle hlen;have HRP:=hid hRP;clear h hst hptr hal hn hR hRP hcell
 go_enter Tryz.func21,Tryz.ntmps21
 go_wp2_with fail;refine(z9c path _ hs).mono ?_;rintro e1 w1 ⟨v1,out,C,rfl,hp,hnm,_,hb1⟩;rw[HRP.out] at hp;obtain⟨A1,c1,rfl,hc1,hnm1⟩:=NmAt.of_names hnm;have HB1:=hid hb1;have HNM:=hid hnm1;have hlt1:w.heap.size<w1.heap.size:=Nat.lt_of_lt_of_le hlt0 hb1.size;have p0:=(hb1.cell (p:=⟨w.heap.size,0,none⟩) hlt0).trans b0;have p1:=(hb1.cell (p:=⟨w.heap.size,1,none⟩) hlt0).trans b1;have p2:=(hb1.cell (p:=⟨w.heap.size,2,none⟩) hlt0).trans b2;subst hp;simp only at hle hlen;have hr:=HR.out;rw[HRP.out] at hr;simp only at hr;have HR1:=hid hr;clear hnm hb1 hnm1 b0 b1 b2 hW hr HR
 by_cases hC:C=0
 rotate_left
 ·have hr:=HR1.out;rw[if_pos (by simpa using hC)] at hr;have HR2:=hid hr;have hne:((C:Int) != 0)=true:=by rw[bne_iff_ne];omega
  clear hr hC;go_wp2_with fail;refine(zbc C (by omega) _).mono ?_;rintro e2 w2 ⟨rfl,rfl⟩;rw[zid];go_wp2_with fail;go_ret2;exact⟨by rw[←HR2.out];rfl,Cv.next HAL.out HB1.out⟩
 ·subst hC;have hr:=HR1.out;rw[if_neg (by simp)] at hr;have HR2:=hid hr;clear hr;go_wp2_with fail;refine(zb7 _ s w1 (HST.out.below HB1.out)).mono ?_;rintro e2 w2 ⟨rfl,hb2⟩;obtain⟨MV,hMV⟩:∃MV,mayV s=MV:=⟨_,rfl⟩;rw[hMV];have hr:=HR2.out;rw[hMV] at hr;have HMV:=hid hMV;have HR3:=hid hr;have HB2:=hid hb2;have q0:=(hb2.cell (p:=⟨w.heap.size,0,none⟩) hlt1).trans p0;have hlt2:w.heap.size<w2.heap.size:=Nat.lt_of_lt_of_le hlt1 hb2.size;clear hr hMV hb2 p0 p1 p2;cases MV
  ·have hr:=HR3.out;rw[if_pos rfl] at hr;go_wp2_with fail;go_ret2;exact⟨by rw[←hr];rfl,Cv.next HAL.out (Cv.next HB1.out HB2.out)⟩
  ·have hr:=HR3.out;rw[if_neg (by decide)] at hr;have HR4:=hid hr;have hg:=(z1o s).1 HMV.out;have HG:=hid hg;have hwz:=zah s.inos out 1;rw[hr] at hwz;have HWZ:=hid hwz;clear hr hg hwz;go_wp2_with fail;refine(z6b w.heap.size s A1 out.length c1 out w2 ((HPT.out.below HB1.out).below HB2.out) HG.out (HNM.out.below HB2.out) (by omega)).mono ?_;rintro e3 w3 ⟨rfl,hb3,hpl⟩;rw[HR4.out] at hpl ⊢;obtain⟨KP,hKP⟩:∃KP,placeG s.inos R=KP:=⟨_,rfl⟩;rw[hKP] at hpl ⊢;have r0:=(hb3.cell (p:=⟨w.heap.size,0,none⟩) hlt2).trans q0;have HPL:=hid hpl;have HB3:=hid hb3;have hst3:=((HST.out.below HB1.out).below HB2.out).below hb3;have HST3:=hid hst3;obtain⟨RN,RC⟩:=R;simp only at HPL HWZ ⊢;clear hb3 q0 hpl hKP hst3
   by_cases hc:RC=0
   ·subst hc;obtain⟨i,x,rfl,hx,hxn⟩:=HPL.out rfl;have hil:=(List.getElem?_eq_some_iff.1 hx).1;have i0:(0:Int)≤(i:Int):=by omega
    have i1:(i:Int)<(n:Int):=by have:=HNL.out;omega
    obtain⟨A',n',c',B',m',d',D',k',e',hv,hI,_⟩:=HST3.out.at_
    have hI2:InosAt none w3 A n s.inos:=by
     injection hv with hv
     have g0:=congrArg (fun a:Array Value=>a[0]?) hv;simp at g0;obtain⟨rfl,rfl,rfl⟩:=g0;exact hI
    obtain⟨g,off,x',E9,m9,d9,rfl,hg9,hx',_,_,e0,_⟩:=hI2.get i (by have:=HNL.out;omega);have:x=x':=by rw[hx] at hx';exact Option.some.inj hx'
    subst this;rw[hxn] at e0;clear hI hI2 hv hx hx' hxn;go_wp2_with fail;go_ret2;exact⟨rfl,Cv.next HAL.out (Cv.next HB1.out (Cv.next HB2.out HB3.out))⟩
   ·have hz:RN=0:=HWZ.out hc;have hne:(RC != 0)=true:=by rw[bne_iff_ne];exact hc
    subst hz;clear hc;go_wp2_with fail;go_ret2;exact⟨rfl,Cv.next HAL.out (Cv.next HB1.out (Cv.next HB2.out HB3.out))⟩
end Go.Proofs.YtmmpkfcdfcldlaaGreat
