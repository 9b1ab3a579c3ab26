/- Parts of the proof, side by side: FsAllows, Allows3, AllowsQ. -/
import Derived.Test.YtmmpkfcdfcldlaaGreatM43
import Derived.Test.YtmmpkfcdfcldlaaGreatM42
import Derived.Test.YtmmpkfcdfcldlaaGreatM32
set_option linter.unusedVariables false
set_option linter.unusedSimpArgs false
namespace Go.Proofs.YtmmpkfcdfcldlaaGreat
open Lib (hid)
open Go.RowKit
theorem z2e (tmps:Array Value) (g:Nat) (a b d:Value) (B:Bool) (w:World) (h6:tmps.getD 6 undef=.pointer (some ⟨g,0,none⟩)) (h7:tmps.getD 7 undef=.bool B) (hO:OutAt w g a b d):
  (results Tryz.f20 tmps).run Tryz.prog w=.ok (.tuple #[.agg #[a,b,d],.bool B]) w:=by
 rw[results_cell_tmp rfl,h6,h7];have hl1:=run_loadVar_row (P:=Tryz.prog) w g _ 26 _ (0,0) _ hO Tryz.underlying26 rfl (by kernel_rfl);simp[asAddr,hl1,Result.andThen]
theorem zh0 (s:St) (c:Ca) (r:Re):(doF s c (wantV c r)).2.1.names.length≤1099511627776:=by
 by_cases hk:c.kind=2∧r.code=0
 ·have hd:(doF s c (wantV c r)).2.1.names=[]:=by
   unfold doF
   split
   ·rfl
   ·rw[if_neg (by omega),if_pos hk.1];unfold openedV
    repeat' (first|rfl|split)
  rw[hd];exact Nat.zero_le _
 ·have hw:wantV c r=-1:=by unfold wantV;rw[if_neg hk]
  rw[hw];exact z6h s c
set_option maxRecDepth 100000 in
set_option maxHeartbeats 8000000 in
theorem zed (v rv:Value) (s:St) (c:Ca) (r:Re) (w:World) (h:StAt none w v s) (hr:ResIs none w rv r) (hp1:c.path.size≤140737488355328) (hp2:c.path2.size≤140737488355328) (hrn:r.names.length≤1099511627776):
  Calls Tryz.prog 20 #[v,caV c,rv] w (AlOut w (allowsV s c r)):=by
 obtain⟨AV,hAV⟩:∃AV,allowsV s c r=AV:=⟨_,rfl⟩;rw[hAV];have hnm:=zh0 s c r;have hdo:=fun u hu=>zlv v s c (wantV c r) u hu hp1 hp2
 obtain⟨R,hR⟩:∃R,doF s c (wantV c r)=R:=⟨_,rfl⟩;unfold allowsV at hAV;rw[hR] at hAV hnm;simp only[hR] at hdo;obtain⟨A,n,c',E,m,d,D,k,e,rfl,_⟩:=h.at_;obtain⟨F,f,f',rfl,hokF,hnF⟩:=hr;obtain⟨W,W2,W3,W4,hW,hW2,hW3,hW4,z1,z2,z3,z4,hst,ho0,hca,hre,hout,hbel⟩:=z2v A n c' E m d D k e s c r F f f' w h;have hat:AlAt w W4 A n c' E m d D k e s c r F f f':=⟨hst,ho0,hca,hre,hout,hbel,by omega⟩;have HDO:=hid (hdo W4 hst);have HAT:=hid hat;have HNF:=hid (hnF.below hbel);have HOKF:=hid hokF;have HNM:=hid hnm;have HRN:=hid hrn;have HAV:=hid hAV;obtain⟨p0,p1,p2,_⟩:=ho0.get;obtain⟨r0,r1,r2,r3,r4,r5,_⟩:=hre.get;have hca':=hca;unfold caRow at hca';have y0:W4.cell? ⟨w.heap.size+1,0,none⟩=some (.int .i64 c.kind):=by rw[cell_of_row W4 _ _ _ _ (0,0) hca'];rfl
 have y1:W4.cell? ⟨w.heap.size+1,1,none⟩=some (.int .i64 c.core):=by rw[cell_of_row W4 _ _ _ _ (0,0) hca'];rfl
 have y2:W4.cell? ⟨w.heap.size+1,2,none⟩=some (.int .i64 c.fd):=by rw[cell_of_row W4 _ _ _ _ (0,0) hca'];rfl
 have y3:W4.cell? ⟨w.heap.size+1,3,none⟩=some (.int .i64 c.off):=by rw[cell_of_row W4 _ _ _ _ (0,0) hca'];rfl
 have y4:W4.cell? ⟨w.heap.size+1,4,none⟩=some (.int .i64 c.num):=by rw[cell_of_row W4 _ _ _ _ (0,0) hca'];rfl
 have y5:W4.cell? ⟨w.heap.size+1,5,none⟩=some (.string c.path):=by rw[cell_of_row W4 _ _ _ _ (0,0) hca'];rfl
 have y6:W4.cell? ⟨w.heap.size+1,6,none⟩=some (.string c.path2):=by rw[cell_of_row W4 _ _ _ _ (0,0) hca'];rfl
 have y7:W4.cell? ⟨w.heap.size+1,7,none⟩=some (.string c.data):=by rw[cell_of_row W4 _ _ _ _ (0,0) hca'];rfl
 unfold caV at *;clear h hst ho0 hca hca' hre hout hbel hdo hp1 hp2 hR hnm hrn hokF hnF hat
 go_enter Tryz.func20,Tryz.ntmps20
 by_cases hneg:c.kind=2∧r.code=0∧r.fd<0
 ·rw[if_pos hneg] at hAV;have HFIN:=hid hAV.symm;have HAT':=HAT.out;have t0:(c.kind==2)=true:=by rw[beq_iff_eq];exact hneg.1
  have t1:(r.code==0)=true:=by rw[beq_iff_eq];exact hneg.2.1
  have t2:decide (r.fd<0)=true:=decide_eq_true hneg.2.2;clear hAV HDO hneg HAV;go_wp2_with fail;refine(z3r _ s W4 HAT.out.st).mono ?_;rintro e8 w8 ⟨v8,rfl,hst,hb⟩;obtain⟨A8,n8,c8,E8,m8,d8,D8,k8,g8,rfl,_⟩:=hst.at_;have hA:=HAT.out.below hb;have hsz:=HAT.out.sz;obtain⟨x0,x1,x2,xf⟩:=hA.out.get;have xf0:=xf 0;have xf1:=xf 1;have xf2:=xf 2;obtain⟨U,hU,hr,hk,hB⟩:=hA.out.three (.slice A8 n8 c8) (.slice E8 m8 d8) (.slice D8 k8 g8);have HF:=hid (And.intro hr (And.intro ((hst.lower (B':=w.heap.size) (by omega)).keep3 (hk _ (by decide)) (hk _ (by decide)) (hk _ (by decide)) (hk _ (by decide))) (hB w.heap.size w (by omega) hA.bel)));clear hst hb hA hr hk hB xf;go_wp2_with fail
  (try simp only[Exit.inBlock,Exit.then])
  refine bodyPost_ret (z2e _ (w.heap.size+3) _ _ _ false U rfl rfl HF.out.1) rfl ⟨_,by rw[HFIN.out],by rw[HFIN.out];exact HF.out.2.1,HF.out.2.2⟩
 rw[if_neg hneg] at hAV;have HFIN0:=hid hAV.symm;obtain⟨WT,hWT⟩:∃WT,wantV c r=WT:=⟨_,rfl⟩;rw[hWT] at HDO;have hwt:=hWT;unfold wantV at hwt;have HWT:=hid hwt;have HNEG:=hid hneg;clear hAV HAV hwt hWT hneg
 have hgo:((c.kind==2)=false∧(-1:Int)=WT)∨((c.kind==2)=true∧(r.code==0)=false∧(-1:Int)=WT)∨((c.kind==2)=true∧(r.code==0)=true∧decide (r.fd<0)=false∧max r.fd (-1)=WT):=by
  have h3:=HNEG.out;have h4:=HWT.out
  by_cases h1:c.kind=2
  ·by_cases h2:r.code=0
   ·rw[if_pos ⟨h1,h2⟩] at h4;exact .inr (.inr ⟨beq_iff_eq.2 h1,beq_iff_eq.2 h2,decide_eq_false (fun h=>h3 ⟨h1,h2,h⟩),by have:=fun h=>h3 ⟨h1,h2,h⟩;omega⟩)
   ·rw[if_neg (fun h=>h2 h.2)] at h4;exact .inr (.inl ⟨beq_iff_eq.2 h1,beq_eq_false_iff_ne.2 h2,h4⟩)
  ·rw[if_neg (fun h=>h1 h.1)] at h4;exact .inl ⟨beq_eq_false_iff_ne.2 h1,h4⟩
 clear HNEG HWT;have hcall:Hid (Calls Tryz.prog 32 #[.agg #[.slice A n c',.slice E m d,.slice D k e],.agg #[.int .i64 c.kind,.int .i64 c.core,.int .i64 c.fd,.int .i64 c.off,.int .i64 c.num,.string c.path,.string c.path2,.string c.data],.int .i64 WT] W4 _):=hid HDO.out;clear HDO
 rcases hgo with⟨t0,rfl⟩|⟨t0,t1,rfl⟩|⟨t0,t1,t2,rfl⟩
 all_goals (
  go_wp2_with fail;refine hcall.out.mono ?_;rintro e5 w5 ⟨v5,rv5,rfl,hst5,⟨F5,f5,q5,rfl,hok5,hnm5⟩,hb5⟩;obtain⟨A5,n5,c5,E5,m5,d5,D5,k5,g5,rfl,_⟩:=hst5.at_;obtain⟨U5,V5,hU5,hW5,hy5,hyz5,ho,hr,hb⟩:=zd0 w5 (.slice A5 n5 c5) (.slice E5 m5 d5) (.slice D5 k5 g5) R.2.1.code R.2.1.fd R.2.1.num R.2.1.dir R.2.1.data F5 f5 q5;have hsz:=HAT.out.sz;have hsb:=hb5.size;have hbb:=Cv.next hb5 hb;have HA5:=hid (HAT.out.below hbb);have HST5:=hid ((hst5.lower (B':=w.heap.size) (by omega)).below hb);have HN5:=hid ((hnm5.weak).below hb);have HNF5:=hid (HNF.out.below hbb);have HOK5:=hid hok5;have HO5:=hid ho;have HR5:=hid hr;have hlt5:w5.heap.size<V5.heap.size:=by omega
  obtain⟨a0,a1,a2,_⟩:=ho.get;obtain⟨s0,s1,s2,s3,s4,s5,_⟩:=hr.get;obtain⟨u0,u1,u2,u3,u4,u5,_⟩:=HA5.out.re.get;obtain⟨q0,q1,q2,_⟩:=HA5.out.o0.get;clear hst5 hok5 hnm5 ho hr hb hbb hb5 hcall p0 p1 p2 r0 r1 r2 r3 r4 r5 y0 y1 y2 y3 y4 y5 y6 y7;obtain⟨OK,hOK⟩:∃OK,R.2.2=OK:=⟨_,rfl⟩;rw[hOK] at HFIN0 ⊢;cases OK
  ·have HFIN:=hid (show AV=(s,false) by rw[HFIN0.out];exact if_pos (.inl rfl));go_wp2_with fail;refine(z3r _ s V5 HA5.out.st).mono ?_;rintro e8 w8 ⟨v8,rfl,hst,hb⟩;obtain⟨A8,n8,c8,E8,m8,d8,D8,k8,g8,rfl,_⟩:=hst.at_;have hA:=HA5.out.below hb;have hsz:=HA5.out.sz;obtain⟨x0,x1,x2,xf⟩:=hA.out.get;have xf0:=xf 0;have xf1:=xf 1;have xf2:=xf 2;obtain⟨U,hU,hr,hk,hB⟩:=hA.out.three (.slice A8 n8 c8) (.slice E8 m8 d8) (.slice D8 k8 g8);have HF:=hid (And.intro hr (And.intro ((hst.lower (B':=w.heap.size) (by omega)).keep3 (hk _ (by decide)) (hk _ (by decide)) (hk _ (by decide)) (hk _ (by decide))) (hB w.heap.size w (by omega) hA.bel)));clear hst hb hA hr hk hB xf;go_wp2_with fail
   (try simp only[Exit.inBlock,Exit.then])
   refine bodyPost_ret (z2e _ (w.heap.size+3) _ _ _ false U rfl rfl HF.out.1) rfl ⟨_,by rw[HFIN.out],by rw[HFIN.out];exact HF.out.2.1,HF.out.2.2⟩
  ·go_wp2_with fail;refine(z9u _ _ R.2.1 r V5 ⟨F5,f5,q5,rfl,HOK5.out,HN5.out⟩ ⟨F,f,f',rfl,HOKF.out,HNF5.out⟩ HNM.out HRN.out).mono ?_;rintro e6 w6 ⟨rfl,hb6⟩;have HA6:=hid (HA5.out.below hb6);have HST6:=hid (HST5.out.below hb6);have HO6:=hid (HO5.out.mv hb6);obtain⟨i0,i1,i2,_⟩:=HO6.out.get;obtain⟨j0,j1,j2,_⟩:=HA6.out.o0.get;have hsz6:=hb6.size;have hne6:w5.heap.size≠w.heap.size+3:=by have:=HAT.out.sz;omega
   clear hb6 a0 a1 a2 s0 s1 s2 s3 s4 s5 u0 u1 u2 u3 u4 u5 q0 q1 q2;obtain⟨SR,hSR⟩:∃SR,sameR R.2.1 r=SR:=⟨_,rfl⟩;rw[hSR] at HFIN0 ⊢;cases SR
   ·have HFIN:=hid (show AV=(s,false) by rw[HFIN0.out];exact if_pos (.inr rfl));go_wp2_with fail;refine(z3r _ s w6 HA6.out.st).mono ?_;rintro e8 w8 ⟨v8,rfl,hst,hb⟩;obtain⟨A8,n8,c8,E8,m8,d8,D8,k8,g8,rfl,_⟩:=hst.at_;have hA:=HA6.out.below hb;have hsz:=HA6.out.sz;obtain⟨x0,x1,x2,xf⟩:=hA.out.get;have xf0:=xf 0;have xf1:=xf 1;have xf2:=xf 2;obtain⟨U,hU,hr,hk,hB⟩:=hA.out.three (.slice A8 n8 c8) (.slice E8 m8 d8) (.slice D8 k8 g8);have HF:=hid (And.intro hr (And.intro ((hst.lower (B':=w.heap.size) (by omega)).keep3 (hk _ (by decide)) (hk _ (by decide)) (hk _ (by decide)) (hk _ (by decide))) (hB w.heap.size w (by omega) hA.bel)));clear hst hb hA hr hk hB xf;go_wp2_with fail
    (try simp only[Exit.inBlock,Exit.then])
    refine bodyPost_ret (z2e _ (w.heap.size+3) _ _ _ false U rfl rfl HF.out.1) rfl ⟨_,by rw[HFIN.out],by rw[HFIN.out];exact HF.out.2.1,HF.out.2.2⟩
   ·have HFIN:=hid (show AV=(R.1,true) by rw[HFIN0.out];exact if_neg (by decide));obtain⟨x0,x1,x2,xf⟩:=HA6.out.out.get;have xf0:=xf 0;have xf1:=xf 1;have xf2:=xf 2;obtain⟨U,hU,hr,hk,hB⟩:=HA6.out.out.three (.slice A5 n5 c5) (.slice E5 m5 d5) (.slice D5 k5 g5);have HF:=hid (And.intro hr (And.intro (HST6.out.keep3 (hk _ (by decide)) (hk _ (by decide)) (hk _ (by decide)) (hk _ (by decide))) (hB w.heap.size w (by omega) HA6.out.bel)));clear hr hk hB xf;go_wp2_with fail
    (try simp only[Exit.inBlock,Exit.then])
    refine bodyPost_ret (z2e _ (w.heap.size+3) _ _ _ true U rfl rfl HF.out.1) rfl ⟨_,by rw[HFIN.out],by rw[HFIN.out];exact HF.out.2.1,HF.out.2.2⟩)
theorem AlAt.descs {w w':World} {A:Option Addr} {n c':Nat} {E:Option Addr} {m d:Nat} {D:Option Addr} {k e:Nat} {s:St} {c:Ca} {r:Re} {F:Option Addr} {f f':Nat} (h:AlAt w w' A n c' E m d D k e s c r F f f'):DescsAt none w' E m s.opn:=by
 obtain⟨A2,n2,c2,E2,m2,d2,D2,k2,e2,hv,_,hd,_⟩:=h.st.at_;simp at hv;obtain⟨_,⟨rfl,rfl,_⟩,_⟩:=hv;exact hd
theorem zd1 {a:ByteArray} (h:a=⟨#[]⟩):a.toList=[]:=by rw[h,ByteArray.toList_eq]
theorem ziz {a:ByteArray} (h:a≠⟨#[]⟩):¬a.toList=[]:=fun e=>h (by
 rw[ByteArray.toList_eq] at e;cases a with
 | mk d=>cases d with
  | mk l=>rw[show l=[] from e])
set_option maxRecDepth 100000 in
set_option maxHeartbeats 8000000 in
theorem z9v (v rv:Value) (s:St) (c:Ca) (r:Re) (w:World) (h:StAt none w v s) (hr:ResIs none w rv r) (hp1:c.path.size≤140737488355328) (hp2:c.path2.size≤140737488355328) (hds:c.data.size≤140737488355328) (hrn:r.names.length≤1099511627776)
  (hk:c.kind=2) (h0:(doV s c).2.code=0) (hne:r.fd≠(doV s c).2.fd) (hrf:refuse s c r=true):
  Calls Tryz.prog 19 #[v,caV c,rv] w (AlOut w (allowsV s c r)):=by
 obtain⟨AV,hAV⟩:∃AV,allowsV s c r=AV:=⟨_,rfl⟩
 have hal:allowsV s c r=(s,false):=by
  obtain⟨_,_,_,_,_,_,_,_,hal⟩:=z7l hk h0 hne;rw[hal,if_pos hrf]
 rw[hAV] at hal;rw[hAV];have hnames:(doV s c).2.names.length≤1099511627776:=z6h s c;obtain⟨R,hR⟩:∃R,doV s c=R:=⟨_,rfl⟩;have hdo:=fun u hu=>z7z v s c u hu hp1 hp2 hds
 simp only[hR] at hdo h0 hne hnames;obtain⟨A,n,c',E,m,d,D,k,e,rfl,_⟩:=h.at_;obtain⟨F,f,f',rfl,hokF,hnF⟩:=hr;obtain⟨W,W2,W3,W4,hW,hW2,hW3,hW4,z1,z2,z3,z4,hst,ho0,hca,hre,hout,hbel⟩:=z2v A n c' E m d D k e s c r F f f' w h;have hat:AlAt w W4 A n c' E m d D k e s c r F f f':=⟨hst,ho0,hca,hre,hout,hbel,by omega⟩;have hcall:=hdo W4 hst;have HCALL:=hid hcall;have HAT:=hid hat;have HNF:=hid (hnF.below hbel);have HOKF:=hid hokF;have HK:=hid hk;have H0:=hid h0;have HNE:=hid hne;have HFIN:=hid hal;have HRF:=hid hrf;have HNM:=hid hnames;have HRN:=hid hrn;obtain⟨p0,p1,p2,_⟩:=ho0.get;have hca':=hca;unfold caRow at hca';obtain⟨KD,hKD⟩:∃KD,c.kind=KD:=⟨_,rfl⟩;have HKD:=hid hKD;have k0:W4.cell? ⟨w.heap.size+1,0,none⟩=some (.int .i64 c.kind):=by rw[cell_of_row W4 _ _ _ _ (0,0) hca'];rfl
 have k1:W4.cell? ⟨w.heap.size+1,1,none⟩=some (.int .i64 c.core):=by rw[cell_of_row W4 _ _ _ _ (0,0) hca'];rfl
 have k2:W4.cell? ⟨w.heap.size+1,2,none⟩=some (.int .i64 c.fd):=by rw[cell_of_row W4 _ _ _ _ (0,0) hca'];rfl
 have k3:W4.cell? ⟨w.heap.size+1,3,none⟩=some (.int .i64 c.off):=by rw[cell_of_row W4 _ _ _ _ (0,0) hca'];rfl
 have k4:W4.cell? ⟨w.heap.size+1,4,none⟩=some (.int .i64 c.num):=by rw[cell_of_row W4 _ _ _ _ (0,0) hca'];rfl
 have k5:W4.cell? ⟨w.heap.size+1,5,none⟩=some (.string c.path):=by rw[cell_of_row W4 _ _ _ _ (0,0) hca'];rfl
 have k6:W4.cell? ⟨w.heap.size+1,6,none⟩=some (.string c.path2):=by rw[cell_of_row W4 _ _ _ _ (0,0) hca'];rfl
 have k7:W4.cell? ⟨w.heap.size+1,7,none⟩=some (.string c.data):=by rw[cell_of_row W4 _ _ _ _ (0,0) hca'];rfl
 unfold caV at *;clear h hst ho0 hca hca' hre hout hbel hat hcall hdo hp1 hp2 hds hR hnames hrn hokF hnF hAV hKD hk h0 hne hal hrf
 go_enter Tryz.func19,Tryz.ntmps19
 go_wp2_with fail;refine HCALL.out.mono ?_;rintro e5 w5 ⟨zs,vI,vO,vM,gv,rfl,hown5,⟨GA,gn,gc,rfl,hokG,hnG⟩,hb5⟩;obtain⟨A1,c1,rfl,_⟩:=hown5.rowI.slice;obtain⟨A2,c2,rfl,_⟩:=hown5.rowO.slice;obtain⟨A3,c3,rfl,_⟩:=hown5.rowM.slice;obtain⟨V1,hV1⟩:∃V1,w5.alloc (.cells #[.slice A1 zs.length c1,.slice A2 R.1.opn.length c2,.slice A3 R.1.made.length c3] 26)=V1:=⟨_,rfl⟩;have l1:Below w5.heap.size w5 V1:=by rw[←hV1];exact(Below.refl _ _).alloc (Nat.le_refl _) _
 have o1:OutAt V1 w5.heap.size (.slice A1 zs.length c1) (.slice A2 R.1.opn.length c2) (.slice A3 R.1.made.length c3):=by rw[←hV1];exact heap_alloc_new w5 _
 have y1:V1.heap.size=w5.heap.size+1:=by rw[←hV1];simp
 obtain⟨V2,hV2⟩:∃V2,V1.alloc (.cells #[.int .i64 R.2.code,.int .i64 R.2.fd,.int .i64 R.2.num,.bool R.2.dir,.string R.2.data,.slice GA gn gc] 32)=V2:=⟨_,rfl⟩;have l2:Below V1.heap.size V1 V2:=by rw[←hV2];exact(Below.refl _ _).alloc (Nat.le_refl _) _
 have r2:ResAt V2 (w5.heap.size+1) (.int .i64 R.2.code) (.int .i64 R.2.fd) (.int .i64 R.2.num) (.bool R.2.dir) (.string R.2.data) (.slice GA gn gc):=by rw[←y1,←hV2];exact heap_alloc_new V1 _
 have o2:OutAt V2 w5.heap.size (.slice A1 zs.length c1) (.slice A2 R.1.opn.length c2) (.slice A3 R.1.made.length c3):=(l2.block _ (by omega)).trans o1;have l12:=Cv.next l1 l2;have hs5:=HAT.out.sz;have hs45:=hb5.size;have HA2:=hid ((HAT.out.below hb5).below l12);have hown2:=hown5.below l12;have HOW:=hid (hown2.lower (B':=w.heap.size) (by omega));have HOWN:=hid hown2;have HNG:=hid (((hnG.weak).below l12));have HNFV:=hid (HNF.out.below (Cv.next hb5 l12));have HO2:=hid o2;have HR2:=hid r2;have HOKG:=hid hokG;obtain⟨u0,u1,u2,uf⟩:=o2.get;obtain⟨g0,g1,g2,g3,g4,g5,_⟩:=r2.get;obtain⟨i0,i1,i2,i3,i4,i5,_⟩:=HA2.out.re.get;obtain⟨q0,q1,q2,qf⟩:=HA2.out.o0.get;have hca2:=HA2.out.ca;unfold caRow at hca2;have j0:V2.cell? ⟨w.heap.size+1,0,none⟩=some (.int .i64 KD):=by rw[cell_of_row V2 _ _ _ _ (0,0) hca2,←HKD.out];rfl
 have j1:V2.cell? ⟨w.heap.size+1,1,none⟩=some (.int .i64 c.core):=by rw[cell_of_row V2 _ _ _ _ (0,0) hca2];rfl
 obtain⟨RC,hRC⟩:∃RC,R.2.code=RC:=⟨_,rfl⟩;have hs2:=l12.size;have hszV:V2.heap.size=w5.heap.size+2:=by rw[←hV2];simp;omega
 clear hW hW2 hW3 hW4 hown5 hb5 l1 o1 l2 r2 o2 l12 hown2 hokG hnG hca2 p0 p1 p2 k0 k1 k2 k3 k4 k5 k6 k7;have hc1:KD=2:=by rw[←HKD.out];exact HK.out
 have qk:(KD != 2)=false:=by rw[hc1];rfl
 have hc2:RC=0:=by rw[←hRC];exact H0.out
 have qf:(r.fd==R.2.fd)=false:=by rw[beq_eq_false_iff_ne];exact HNE.out
 rw[hRC,hc2] at g0 hV2
 have hml:m≤1099511627776:=by
  have h1:=HA2.out.st.sized.big;have h2:=HA2.out.descs.1;omega
 have hHD:=HA2.out.descs;have HDS:=hid hHD;have HML:=hid hml;obtain⟨HAD,hHAD⟩:∃b,(fdP s.opn c.core r.fd).isSome=b:=⟨_,rfl⟩;have HHAD:=hid hHAD;have hcon:=z3h (w.heap.size+1) (w.heap.size+2) c.core r.fd s.opn E m d V2 HDS.out HML.out j1 i1 (by omega) (by omega);rw[hHAD] at hcon;have HCON:=hid hcon;clear hc1 hml hHD hHAD hcon;go_wp2_with fail;refine HCON.out.mono ?_;rintro e6 w6 ⟨rfl,hb6⟩;have HA6:=hid (HA2.out.below hb6);have HO6:Hid (OutAt w6 w5.heap.size _ _ _):=hid ((hb6.block w5.heap.size (by omega)).trans HO2.out);have HR6:Hid (ResAt w6 (w5.heap.size+1) _ _ _ _ _ _):=hid ((hb6.block (w5.heap.size+1) (by omega)).trans HR2.out);have hs6:=hb6.size;have HOW6:=hid (HOWN.out.below hb6);obtain⟨q06,q16,q26,_⟩:=HA6.out.o0.get;obtain⟨m0,m1,m2,mf⟩:=HO6.out.get;obtain⟨h0',h1',h2',h3',h4',h5',_⟩:=HA6.out.re.get;obtain⟨n0,n1,n2,n3,n4,n5,_⟩:=HR6.out.get
 have hca6:=HA6.out.ca;unfold caRow at hca6;have l0:w6.cell? ⟨w.heap.size+1,1,none⟩=some (.int .i64 c.core):=by rw[cell_of_row w6 _ _ _ _ (0,0) hca6];rfl
 clear hb6 u0 u1 u2 uf g0 g1 g2 g3 g4 g5 i0 i1 i2 i3 i4 i5 q0 q1 q2 qf j0 j1 hV1 hV2 hca6 qk hs2 hc2 hRC;cases HAD;rotate_left
 ·go_wp2_with fail;refine(z0t _ s w6 HA6.out.st).mono ?_;rintro e8 w8 ⟨zs8,vI8,vO8,vM8,rfl,hown8,hb8⟩;obtain⟨A8,c8,rfl,_⟩:=hown8.rowI.slice;obtain⟨B8,d8,rfl,_⟩:=hown8.rowO.slice;obtain⟨C8,e8',rfl,_⟩:=hown8.rowM.slice;have hA8:=HA6.out.below hb8;obtain⟨x0,x1,x2,xf⟩:=hA8.out.get;have xf0:=xf 0;have xf1:=xf 1;have xf2:=xf 2;obtain⟨U4,hU4,hr4,hk4,hB4⟩:=hA8.out.three (.slice A8 zs8.length c8) (.slice B8 s.opn.length d8) (.slice C8 s.made.length e8');have hown9:OwnR w.heap.size U4 s zs8 (.slice A8 zs8.length c8) (.slice B8 s.opn.length d8) (.slice C8 s.made.length e8'):=(hown8.lower (B':=w.heap.size) (by have:=HA6.out.sz;omega)).keep (hk4 _ (by decide)) (hk4 _ (by decide)) (hk4 _ (by decide)) (hk4 _ (by decide));have HF:=hid (And.intro hr4 (And.intro hown9 (hB4 w.heap.size w (by omega) hA8.bel)));clear hown8 hb8 hA8 hr4 hk4 hB4 hown9 xf;go_wp2_with fail
  (try simp only[Exit.inBlock,Exit.then])
  refine bodyPost_ret (z0h _ (w.heap.size+3) _ _ _ false U4 rfl rfl HF.out.1) rfl ⟨_,by rw[HFIN.out],by rw[HFIN.out];exact HF.out.2.1.st,HF.out.2.2⟩
 by_cases t0:r.fd<0
 ·have y0:decide (r.fd<0)=true:=decide_eq_true t0;clear t0;go_wp2_with fail;refine(z0t _ s w6 HA6.out.st).mono ?_;rintro e8 w8 ⟨zs8,vI8,vO8,vM8,rfl,hown8,hb8⟩;obtain⟨A8,c8,rfl,_⟩:=hown8.rowI.slice;obtain⟨B8,d8,rfl,_⟩:=hown8.rowO.slice;obtain⟨C8,e8',rfl,_⟩:=hown8.rowM.slice;have hA8:=HA6.out.below hb8;obtain⟨x0,x1,x2,xf⟩:=hA8.out.get;have xf0:=xf 0;have xf1:=xf 1;have xf2:=xf 2;obtain⟨U4,hU4,hr4,hk4,hB4⟩:=hA8.out.three (.slice A8 zs8.length c8) (.slice B8 s.opn.length d8) (.slice C8 s.made.length e8');have hown9:OwnR w.heap.size U4 s zs8 (.slice A8 zs8.length c8) (.slice B8 s.opn.length d8) (.slice C8 s.made.length e8'):=(hown8.lower (B':=w.heap.size) (by have:=HA6.out.sz;omega)).keep (hk4 _ (by decide)) (hk4 _ (by decide)) (hk4 _ (by decide)) (hk4 _ (by decide));have HF:=hid (And.intro hr4 (And.intro hown9 (hB4 w.heap.size w (by omega) hA8.bel)))
  clear hown8 hb8 hA8 hr4 hk4 hB4 hown9 xf;go_wp2_with fail
  (try simp only[Exit.inBlock,Exit.then])
  refine bodyPost_ret (z0h _ (w.heap.size+3) _ _ _ false U4 rfl rfl HF.out.1) rfl ⟨_,by rw[HFIN.out],by rw[HFIN.out];exact HF.out.2.1.st,HF.out.2.2⟩
 have y0:decide (r.fd<0)=false:=decide_eq_false t0;have T0:=hid t0;clear t0
 by_cases t1:4≤r.fd
 ·have y1:decide (4≤r.fd)=true:=decide_eq_true t1;clear t1;go_wp2_with fail;refine(z0t _ s w6 HA6.out.st).mono ?_;rintro e8 w8 ⟨zs8,vI8,vO8,vM8,rfl,hown8,hb8⟩;obtain⟨A8,c8,rfl,_⟩:=hown8.rowI.slice;obtain⟨B8,d8,rfl,_⟩:=hown8.rowO.slice;obtain⟨C8,e8',rfl,_⟩:=hown8.rowM.slice;have hA8:=HA6.out.below hb8;obtain⟨x0,x1,x2,xf⟩:=hA8.out.get;have xf0:=xf 0;have xf1:=xf 1;have xf2:=xf 2;obtain⟨U4,hU4,hr4,hk4,hB4⟩:=hA8.out.three (.slice A8 zs8.length c8) (.slice B8 s.opn.length d8) (.slice C8 s.made.length e8');have hown9:OwnR w.heap.size U4 s zs8 (.slice A8 zs8.length c8) (.slice B8 s.opn.length d8) (.slice C8 s.made.length e8'):=(hown8.lower (B':=w.heap.size) (by have:=HA6.out.sz;omega)).keep (hk4 _ (by decide)) (hk4 _ (by decide)) (hk4 _ (by decide)) (hk4 _ (by decide));have HF:=hid (And.intro hr4 (And.intro hown9 (hB4 w.heap.size w (by omega) hA8.bel)))
  clear hown8 hb8 hA8 hr4 hk4 hB4 hown9 xf;go_wp2_with fail
  (try simp only[Exit.inBlock,Exit.then])
  refine bodyPost_ret (z0h _ (w.heap.size+3) _ _ _ false U4 rfl rfl HF.out.1) rfl ⟨_,by rw[HFIN.out],by rw[HFIN.out];exact HF.out.2.1.st,HF.out.2.2⟩
 have y1:decide (4≤r.fd)=false:=decide_eq_false t1;have T1:=hid t1;clear t1
 by_cases t2:r.code≠0
 ·have y2:(r.code != 0)=true:=by rw[bne_iff_ne];exact t2
  clear t2;go_wp2_with fail;refine(z0t _ s w6 HA6.out.st).mono ?_;rintro e8 w8 ⟨zs8,vI8,vO8,vM8,rfl,hown8,hb8⟩;obtain⟨A8,c8,rfl,_⟩:=hown8.rowI.slice;obtain⟨B8,d8,rfl,_⟩:=hown8.rowO.slice;obtain⟨C8,e8',rfl,_⟩:=hown8.rowM.slice;have hA8:=HA6.out.below hb8;obtain⟨x0,x1,x2,xf⟩:=hA8.out.get;have xf0:=xf 0;have xf1:=xf 1;have xf2:=xf 2;obtain⟨U4,hU4,hr4,hk4,hB4⟩:=hA8.out.three (.slice A8 zs8.length c8) (.slice B8 s.opn.length d8) (.slice C8 s.made.length e8');have hown9:OwnR w.heap.size U4 s zs8 (.slice A8 zs8.length c8) (.slice B8 s.opn.length d8) (.slice C8 s.made.length e8'):=(hown8.lower (B':=w.heap.size) (by have:=HA6.out.sz;omega)).keep (hk4 _ (by decide)) (hk4 _ (by decide)) (hk4 _ (by decide)) (hk4 _ (by decide));have HF:=hid (And.intro hr4 (And.intro hown9 (hB4 w.heap.size w (by omega) hA8.bel)));clear hown8 hb8 hA8 hr4 hk4 hB4 hown9 xf
  go_wp2_with fail
  (try simp only[Exit.inBlock,Exit.then])
  refine bodyPost_ret (z0h _ (w.heap.size+3) _ _ _ false U4 rfl rfl HF.out.1) rfl ⟨_,by rw[HFIN.out],by rw[HFIN.out];exact HF.out.2.1.st,HF.out.2.2⟩
 have y2:(r.code != 0)=false:=by
  rw[bne_eq_false_iff_eq];exact Classical.not_not.1 t2
 have T2:=hid t2;clear t2
 by_cases t3:r.num≠0
 ·have y3:(r.num != 0)=true:=by rw[bne_iff_ne];exact t3
  clear t3;go_wp2_with fail;refine(z0t _ s w6 HA6.out.st).mono ?_;rintro e8 w8 ⟨zs8,vI8,vO8,vM8,rfl,hown8,hb8⟩;obtain⟨A8,c8,rfl,_⟩:=hown8.rowI.slice;obtain⟨B8,d8,rfl,_⟩:=hown8.rowO.slice;obtain⟨C8,e8',rfl,_⟩:=hown8.rowM.slice;have hA8:=HA6.out.below hb8;obtain⟨x0,x1,x2,xf⟩:=hA8.out.get;have xf0:=xf 0;have xf1:=xf 1;have xf2:=xf 2;obtain⟨U4,hU4,hr4,hk4,hB4⟩:=hA8.out.three (.slice A8 zs8.length c8) (.slice B8 s.opn.length d8) (.slice C8 s.made.length e8');have hown9:OwnR w.heap.size U4 s zs8 (.slice A8 zs8.length c8) (.slice B8 s.opn.length d8) (.slice C8 s.made.length e8'):=(hown8.lower (B':=w.heap.size) (by have:=HA6.out.sz;omega)).keep (hk4 _ (by decide)) (hk4 _ (by decide)) (hk4 _ (by decide)) (hk4 _ (by decide));have HF:=hid (And.intro hr4 (And.intro hown9 (hB4 w.heap.size w (by omega) hA8.bel)));clear hown8 hb8 hA8 hr4 hk4 hB4 hown9 xf
  go_wp2_with fail
  (try simp only[Exit.inBlock,Exit.then])
  refine bodyPost_ret (z0h _ (w.heap.size+3) _ _ _ false U4 rfl rfl HF.out.1) rfl ⟨_,by rw[HFIN.out],by rw[HFIN.out];exact HF.out.2.1.st,HF.out.2.2⟩
 have y3:(r.num != 0)=false:=by
  rw[bne_eq_false_iff_eq];exact Classical.not_not.1 t3
 have T3:=hid t3;clear t3
 by_cases t4:r.dir=true
 ·rw[t4] at h3';clear t4;go_wp2_with fail;refine(z0t _ s w6 HA6.out.st).mono ?_;rintro e8 w8 ⟨zs8,vI8,vO8,vM8,rfl,hown8,hb8⟩;obtain⟨A8,c8,rfl,_⟩:=hown8.rowI.slice;obtain⟨B8,d8,rfl,_⟩:=hown8.rowO.slice;obtain⟨C8,e8',rfl,_⟩:=hown8.rowM.slice;have hA8:=HA6.out.below hb8;obtain⟨x0,x1,x2,xf⟩:=hA8.out.get;have xf0:=xf 0;have xf1:=xf 1;have xf2:=xf 2;obtain⟨U4,hU4,hr4,hk4,hB4⟩:=hA8.out.three (.slice A8 zs8.length c8) (.slice B8 s.opn.length d8) (.slice C8 s.made.length e8');have hown9:OwnR w.heap.size U4 s zs8 (.slice A8 zs8.length c8) (.slice B8 s.opn.length d8) (.slice C8 s.made.length e8'):=(hown8.lower (B':=w.heap.size) (by have:=HA6.out.sz;omega)).keep (hk4 _ (by decide)) (hk4 _ (by decide)) (hk4 _ (by decide)) (hk4 _ (by decide));have HF:=hid (And.intro hr4 (And.intro hown9 (hB4 w.heap.size w (by omega) hA8.bel)));clear hown8 hb8 hA8 hr4 hk4 hB4 hown9 xf
  go_wp2_with fail
  (try simp only[Exit.inBlock,Exit.then])
  refine bodyPost_ret (z0h _ (w.heap.size+3) _ _ _ false U4 rfl rfl HF.out.1) rfl ⟨_,by rw[HFIN.out],by rw[HFIN.out];exact HF.out.2.1.st,HF.out.2.2⟩
 have y4:r.dir=false:=by simpa using t4
 rw[y4] at h3';have T4:=hid t4;clear t4
 by_cases t5:r.data≠⟨#[]⟩
 ·have y5:¬r.data.toList=[]:=ziz t5;clear t5;go_wp2_with fail;refine(z0t _ s w6 HA6.out.st).mono ?_;rintro e8 w8 ⟨zs8,vI8,vO8,vM8,rfl,hown8,hb8⟩;obtain⟨A8,c8,rfl,_⟩:=hown8.rowI.slice;obtain⟨B8,d8,rfl,_⟩:=hown8.rowO.slice;obtain⟨C8,e8',rfl,_⟩:=hown8.rowM.slice;have hA8:=HA6.out.below hb8;obtain⟨x0,x1,x2,xf⟩:=hA8.out.get;have xf0:=xf 0;have xf1:=xf 1;have xf2:=xf 2;obtain⟨U4,hU4,hr4,hk4,hB4⟩:=hA8.out.three (.slice A8 zs8.length c8) (.slice B8 s.opn.length d8) (.slice C8 s.made.length e8');have hown9:OwnR w.heap.size U4 s zs8 (.slice A8 zs8.length c8) (.slice B8 s.opn.length d8) (.slice C8 s.made.length e8'):=(hown8.lower (B':=w.heap.size) (by have:=HA6.out.sz;omega)).keep (hk4 _ (by decide)) (hk4 _ (by decide)) (hk4 _ (by decide)) (hk4 _ (by decide));have HF:=hid (And.intro hr4 (And.intro hown9 (hB4 w.heap.size w (by omega) hA8.bel)))
  clear hown8 hb8 hA8 hr4 hk4 hB4 hown9 xf;go_wp2_with fail
  (try simp only[Exit.inBlock,Exit.then])
  refine bodyPost_ret (z0h _ (w.heap.size+3) _ _ _ false U4 rfl rfl HF.out.1) rfl ⟨_,by rw[HFIN.out],by rw[HFIN.out];exact HF.out.2.1.st,HF.out.2.2⟩
 have y5:r.data.toList=[]:=zd1 (Classical.not_not.1 t5);have T5:=hid t5;clear t5
 by_cases t6:0<f
 ·have y6:0<f:=t6;go_wp2_with fail;refine(z0t _ s w6 HA6.out.st).mono ?_;rintro e8 w8 ⟨zs8,vI8,vO8,vM8,rfl,hown8,hb8⟩;obtain⟨A8,c8,rfl,_⟩:=hown8.rowI.slice;obtain⟨B8,d8,rfl,_⟩:=hown8.rowO.slice;obtain⟨C8,e8',rfl,_⟩:=hown8.rowM.slice;have hA8:=HA6.out.below hb8;obtain⟨x0,x1,x2,xf⟩:=hA8.out.get;have xf0:=xf 0;have xf1:=xf 1;have xf2:=xf 2;obtain⟨U4,hU4,hr4,hk4,hB4⟩:=hA8.out.three (.slice A8 zs8.length c8) (.slice B8 s.opn.length d8) (.slice C8 s.made.length e8');have hown9:OwnR w.heap.size U4 s zs8 (.slice A8 zs8.length c8) (.slice B8 s.opn.length d8) (.slice C8 s.made.length e8'):=(hown8.lower (B':=w.heap.size) (by have:=HA6.out.sz;omega)).keep (hk4 _ (by decide)) (hk4 _ (by decide)) (hk4 _ (by decide)) (hk4 _ (by decide));have HF:=hid (And.intro hr4 (And.intro hown9 (hB4 w.heap.size w (by omega) hA8.bel)));clear hown8 hb8 hA8 hr4 hk4 hB4 hown9 xf
  go_wp2_with fail
  (try simp only[Exit.inBlock,Exit.then])
  refine bodyPost_ret (z0h _ (w.heap.size+3) _ _ _ false U4 rfl rfl HF.out.1) rfl ⟨_,by rw[HFIN.out],by rw[HFIN.out];exact HF.out.2.1.st,HF.out.2.2⟩
 have y6:¬0<f:=t6;exfalso;have hrf:=HRF.out;unfold refuse at hrf;have hnn:¬0<r.names.length:=by rw[HNFV.out.1];exact t6
 rw[HHAD.out,decide_eq_false T0.out,decide_eq_false T1.out,decide_eq_false T2.out,decide_eq_false T3.out,decide_eq_false T5.out,decide_eq_false hnn,y4] at hrf;cases hrf
end Go.Proofs.YtmmpkfcdfcldlaaGreat
namespace Go.Proofs.YtmmpkfcdfcldlaaGreat
open Lib (hid)
theorem zlw {s:St} (h:Good s) {core fd:Int} (h0:fdV s.opn core fd=0):∀x∈s.opn,¬(x.core=core∧x.fd=fd):=fun y hy hcf=>by
 refine zbi s.opn core fd (fun x hx=>?_) ⟨y,hy,hcf⟩ h0;obtain⟨_,_,_,_,i,w,_,hw,hwn,_⟩:=h.opens x hx
 rcases Nat.eq_zero_or_pos i with rfl|hi
 ·obtain⟨y,hy,hyn,_⟩:=h.root;rw[hw] at hy;cases hy;omega
 ·have:=zcx (h.given i w hi hw);omega
theorem zkq:∀(ds:List Ds) (core fd num:Int),(∀x∈ds,¬(x.core=core∧x.fd=fd))→∃k,fdP (putD ds ⟨core,fd,num⟩) core fd=some k∧(putD ds ⟨core,fd,num⟩)[k]? =some ⟨core,fd,num⟩∧(putD ds ⟨core,fd,num⟩).take k++(putD ds ⟨core,fd,num⟩).drop (k+1)=ds
 | [],core,fd,num,_=>⟨0,by simp[putD,fdP],by simp[putD],by simp[putD]⟩
 | e :: t, core, fd, num, h => by
  have he:=h e (by simp);unfold putD
  split
  ·exact⟨0,by simp[fdP],by simp,by simp⟩
  ·obtain⟨k,h1,h2,h3⟩:=zkq t core fd num (fun x hx=>h x (by simp[hx]));refine⟨k+1,?_,by simpa using h2,by simpa using h3⟩;unfold fdP;rw[if_neg he,h1]
   rfl
theorem zj0 {s:St} (h:Good s) (y:Ds):Sized { s with opn:=putD s.opn y }:=
 (h.small.opn _ (by rw[z4x];have:=h.opn_len;omega)).sized (by omega) (by omega) (by omega)
end Go.Proofs.YtmmpkfcdfcldlaaGreat
