/- Parts of the proof, side by side: Allows3, AllowsQ, Allows4, Allows5. -/
import Derived.Test.YtkflaifopbodfaaGreatDoorM41
import Derived.Test.YtkflaifopbodfaaGreatDoorM37
import Derived.Test.YtkflaifopbodfaaGreatDoorM26
import Derived.Test.YtkflaifopbodfaaGreatDoorM25
set_option linter.unusedVariables false
set_option linter.unusedSimpArgs false
namespace Go.Proofs.YtkflaifopbodfaaGreatDoor
open Lib (hid)
open Go.RowKit
theorem AlAt.descs {w w':World} {A:Option Addr} {n c':Nat} {E:Option Addr} {m d:Nat} {D:Option Addr} {k e:Nat} {s:St} {c:Ca} {r:Re} {F:Option Addr} {f f':Nat} (h:AlAt w w' A n c' E m d D k e s c r F f f'):DescsAt none w' E m s.opn:=by
 obtain⟨A2,n2,c2,E2,m2,d2,D2,k2,e2,hv,_,hd,_⟩:=h.st.at_;simp at hv;obtain⟨_,⟨rfl,rfl,_⟩,_⟩:=hv;exact hd
theorem zf2 {a:ByteArray} (h:a=⟨#[]⟩):a.toList=[]:=by rw[h,ByteArray.toList_eq]
theorem zl8 {a:ByteArray} (h:a≠⟨#[]⟩):¬a.toList=[]:=fun e=>h (by
 rw[ByteArray.toList_eq] at e;cases a with
 | mk d=>cases d with
  | mk l=>rw[show l=[] from e])
set_option maxRecDepth 100000 in
set_option maxHeartbeats 8000000 in
theorem zb3 (v rv:Value) (s:St) (c:Ca) (r:Re) (w:World) (h:StAt none w v s) (hr:ResIs none w rv r) (hp1:c.path.size≤140737488355328) (hp2:c.path2.size≤140737488355328) (hds:c.data.size≤140737488355328) (hrn:r.names.length≤1099511627776)
  (hk:c.kind=2) (h0:(doV s c).2.code=0) (hne:r.fd≠(doV s c).2.fd) (hrf:refuse s c r=true):
  Calls Tryz.prog 47 #[v,caV c,rv] w (AlOut w (allowsV s c r)):=by
 obtain⟨AV,hAV⟩:∃AV,allowsV s c r=AV:=⟨_,rfl⟩
 have hal:allowsV s c r=(s,false):=by
  obtain⟨_,_,_,_,_,_,_,_,hal⟩:=z8q hk h0 hne;rw[hal,if_pos hrf]
 rw[hAV] at hal;rw[hAV];have hnames:(doV s c).2.names.length≤1099511627776:=zb0 s c;obtain⟨R,hR⟩:∃R,doV s c=R:=⟨_,rfl⟩;have hdo:=fun u hu=>z9i v s c u hu hp1 hp2 hds
 simp only[hR] at hdo h0 hne hnames;obtain⟨A,n,c',E,m,d,D,k,e,rfl,_⟩:=h.at_;obtain⟨F,f,f',rfl,hokF,hnF⟩:=hr;obtain⟨W,W2,W3,W4,hW,hW2,hW3,hW4,z1,z2,z3,z4,hst,ho0,hca,hre,hout,hbel⟩:=z4o A n c' E m d D k e s c r F f f' w h;have hat:AlAt w W4 A n c' E m d D k e s c r F f f':=⟨hst,ho0,hca,hre,hout,hbel,by omega⟩;have hcall:=hdo W4 hst;have HCALL:=hid hcall;have HAT:=hid hat;have HNF:=hid (hnF.below hbel);have HOKF:=hid hokF;have HK:=hid hk;have H0:=hid h0;have HNE:=hid hne;have HFIN:=hid hal;have HRF:=hid hrf;have HNM:=hid hnames;have HRN:=hid hrn;obtain⟨p0,p1,p2,_⟩:=ho0.get;have hca':=hca;unfold caRow at hca';obtain⟨KD,hKD⟩:∃KD,c.kind=KD:=⟨_,rfl⟩;have HKD:=hid hKD;have k0:W4.cell? ⟨w.heap.size+1,0,none⟩=some (.int .i64 c.kind):=by rw[cell_of_row W4 _ _ _ _ (0,0) hca'];rfl
 have k1:W4.cell? ⟨w.heap.size+1,1,none⟩=some (.int .i64 c.core):=by rw[cell_of_row W4 _ _ _ _ (0,0) hca'];rfl
 have k2:W4.cell? ⟨w.heap.size+1,2,none⟩=some (.int .i64 c.fd):=by rw[cell_of_row W4 _ _ _ _ (0,0) hca'];rfl
 have k3:W4.cell? ⟨w.heap.size+1,3,none⟩=some (.int .i64 c.off):=by rw[cell_of_row W4 _ _ _ _ (0,0) hca'];rfl
 have k4:W4.cell? ⟨w.heap.size+1,4,none⟩=some (.int .i64 c.num):=by rw[cell_of_row W4 _ _ _ _ (0,0) hca'];rfl
 have k5:W4.cell? ⟨w.heap.size+1,5,none⟩=some (.string c.path):=by rw[cell_of_row W4 _ _ _ _ (0,0) hca'];rfl
 have k6:W4.cell? ⟨w.heap.size+1,6,none⟩=some (.string c.path2):=by rw[cell_of_row W4 _ _ _ _ (0,0) hca'];rfl
 have k7:W4.cell? ⟨w.heap.size+1,7,none⟩=some (.string c.data):=by rw[cell_of_row W4 _ _ _ _ (0,0) hca'];rfl
 unfold caV at *;clear h hst ho0 hca hca' hre hout hbel hat hcall hdo hp1 hp2 hds hR hnames hrn hokF hnF hAV hKD hk h0 hne hal hrf
 go_enter Tryz.func47,Tryz.ntmps47
 go_wp2_with fail;refine HCALL.out.mono ?_;rintro e5 w5 ⟨zs,vI,vO,vM,gv,rfl,hown5,⟨GA,gn,gc,rfl,hokG,hnG⟩,hb5⟩;obtain⟨A1,c1,rfl,_⟩:=hown5.rowI.slice;obtain⟨A2,c2,rfl,_⟩:=hown5.rowO.slice;obtain⟨A3,c3,rfl,_⟩:=hown5.rowM.slice;obtain⟨V1,hV1⟩:∃V1,w5.alloc (.cells #[.slice A1 zs.length c1,.slice A2 R.1.opn.length c2,.slice A3 R.1.made.length c3] 27)=V1:=⟨_,rfl⟩;have l1:Below w5.heap.size w5 V1:=by rw[←hV1];exact(Below.refl _ _).alloc (Nat.le_refl _) _
 have o1:OutAt V1 w5.heap.size (.slice A1 zs.length c1) (.slice A2 R.1.opn.length c2) (.slice A3 R.1.made.length c3):=by rw[←hV1];exact heap_alloc_new w5 _
 have y1:V1.heap.size=w5.heap.size+1:=by rw[←hV1];simp
 obtain⟨V2,hV2⟩:∃V2,V1.alloc (.cells #[.int .i64 R.2.code,.int .i64 R.2.fd,.int .i64 R.2.num,.bool R.2.dir,.string R.2.data,.slice GA gn gc] 35)=V2:=⟨_,rfl⟩;have l2:Below V1.heap.size V1 V2:=by rw[←hV2];exact(Below.refl _ _).alloc (Nat.le_refl _) _
 have r2:ResAt V2 (w5.heap.size+1) (.int .i64 R.2.code) (.int .i64 R.2.fd) (.int .i64 R.2.num) (.bool R.2.dir) (.string R.2.data) (.slice GA gn gc):=by rw[←y1,←hV2];exact heap_alloc_new V1 _
 have o2:OutAt V2 w5.heap.size (.slice A1 zs.length c1) (.slice A2 R.1.opn.length c2) (.slice A3 R.1.made.length c3):=(l2.block _ (by omega)).trans o1;have l12:=Cv.next l1 l2;have hs5:=HAT.out.sz;have hs45:=hb5.size;have HA2:=hid ((HAT.out.below hb5).below l12);have hown2:=hown5.below l12;have HOW:=hid (hown2.lower (B':=w.heap.size) (by omega));have HOWN:=hid hown2;have HNG:=hid (((hnG.weak).below l12));have HNFV:=hid (HNF.out.below (Cv.next hb5 l12));have HO2:=hid o2;have HR2:=hid r2;have HOKG:=hid hokG;obtain⟨u0,u1,u2,uf⟩:=o2.get;obtain⟨g0,g1,g2,g3,g4,g5,_⟩:=r2.get;obtain⟨i0,i1,i2,i3,i4,i5,_⟩:=HA2.out.re.get;obtain⟨q0,q1,q2,qf⟩:=HA2.out.o0.get;have hca2:=HA2.out.ca;unfold caRow at hca2;have j0:V2.cell? ⟨w.heap.size+1,0,none⟩=some (.int .i64 KD):=by rw[cell_of_row V2 _ _ _ _ (0,0) hca2,←HKD.out];rfl
 have j1:V2.cell? ⟨w.heap.size+1,1,none⟩=some (.int .i64 c.core):=by rw[cell_of_row V2 _ _ _ _ (0,0) hca2];rfl
 obtain⟨RC,hRC⟩:∃RC,R.2.code=RC:=⟨_,rfl⟩;have hs2:=l12.size;have hszV:V2.heap.size=w5.heap.size+2:=by rw[←hV2];simp;omega
 clear hW hW2 hW3 hW4 hown5 hb5 l1 o1 l2 r2 o2 l12 hown2 hokG hnG hca2 p0 p1 p2 k0 k1 k2 k3 k4 k5 k6 k7;have hc1:KD=2:=by rw[←HKD.out];exact HK.out
 have qk:(KD != 2)=false:=by rw[hc1];rfl
 have hc2:RC=0:=by rw[←hRC];exact H0.out
 have qf:(r.fd==R.2.fd)=false:=by rw[beq_eq_false_iff_ne];exact HNE.out
 rw[hRC,hc2] at g0 hV2
 have hml:m≤1099511627776:=by
  have h1:=HA2.out.st.sized.big;have h2:=HA2.out.descs.1;omega
 have hHD:=HA2.out.descs;have HDS:=hid hHD;have HML:=hid hml;obtain⟨HAD,hHAD⟩:∃b,(fdP s.opn c.core r.fd).isSome=b:=⟨_,rfl⟩;have HHAD:=hid hHAD;have hcon:=z3g (w.heap.size+1) (w.heap.size+2) c.core r.fd s.opn E m d V2 HDS.out HML.out j1 i1 (by omega) (by omega);rw[hHAD] at hcon;have HCON:=hid hcon;clear hc1 hml hHD hHAD hcon;go_wp2_with fail;refine HCON.out.mono ?_;rintro e6 w6 ⟨rfl,hb6⟩;have HA6:=hid (HA2.out.below hb6);have HO6:Hid (OutAt w6 w5.heap.size _ _ _):=hid ((hb6.block w5.heap.size (by omega)).trans HO2.out);have HR6:Hid (ResAt w6 (w5.heap.size+1) _ _ _ _ _ _):=hid ((hb6.block (w5.heap.size+1) (by omega)).trans HR2.out);have hs6:=hb6.size;have HOW6:=hid (HOWN.out.below hb6);obtain⟨q06,q16,q26,_⟩:=HA6.out.o0.get;obtain⟨m0,m1,m2,mf⟩:=HO6.out.get;obtain⟨h0',h1',h2',h3',h4',h5',_⟩:=HA6.out.re.get;obtain⟨n0,n1,n2,n3,n4,n5,_⟩:=HR6.out.get
 have hca6:=HA6.out.ca;unfold caRow at hca6;have l0:w6.cell? ⟨w.heap.size+1,1,none⟩=some (.int .i64 c.core):=by rw[cell_of_row w6 _ _ _ _ (0,0) hca6];rfl
 clear hb6 u0 u1 u2 uf g0 g1 g2 g3 g4 g5 i0 i1 i2 i3 i4 i5 q0 q1 q2 qf j0 j1 hV1 hV2 hca6 qk hs2 hc2 hRC;cases HAD;rotate_left
 ·go_wp2_with fail;refine(z0r _ s w6 HA6.out.st).mono ?_;rintro e8 w8 ⟨zs8,vI8,vO8,vM8,rfl,hown8,hb8⟩;obtain⟨A8,c8,rfl,_⟩:=hown8.rowI.slice;obtain⟨B8,d8,rfl,_⟩:=hown8.rowO.slice;obtain⟨C8,e8',rfl,_⟩:=hown8.rowM.slice;have hA8:=HA6.out.below hb8;obtain⟨x0,x1,x2,xf⟩:=hA8.out.get;have xf0:=xf 0;have xf1:=xf 1;have xf2:=xf 2;obtain⟨U4,hU4,hr4,hk4,hB4⟩:=hA8.out.three (.slice A8 zs8.length c8) (.slice B8 s.opn.length d8) (.slice C8 s.made.length e8');have hown9:OwnR w.heap.size U4 s zs8 (.slice A8 zs8.length c8) (.slice B8 s.opn.length d8) (.slice C8 s.made.length e8'):=(hown8.lower (B':=w.heap.size) (by have:=HA6.out.sz;omega)).keep (hk4 _ (by decide)) (hk4 _ (by decide)) (hk4 _ (by decide)) (hk4 _ (by decide));have HF:=hid (And.intro hr4 (And.intro hown9 (hB4 w.heap.size w (by omega) hA8.bel)));clear hown8 hb8 hA8 hr4 hk4 hB4 hown9 xf;go_wp2_with fail
  (try simp only[Exit.inBlock,Exit.then])
  refine bodyPost_ret (z0g _ (w.heap.size+3) _ _ _ false U4 rfl rfl HF.out.1) rfl ⟨_,by rw[HFIN.out],by rw[HFIN.out];exact HF.out.2.1.st,HF.out.2.2⟩
 by_cases t0:r.fd<0
 ·have y0:decide (r.fd<0)=true:=decide_eq_true t0;clear t0;go_wp2_with fail;refine(z0r _ s w6 HA6.out.st).mono ?_;rintro e8 w8 ⟨zs8,vI8,vO8,vM8,rfl,hown8,hb8⟩;obtain⟨A8,c8,rfl,_⟩:=hown8.rowI.slice;obtain⟨B8,d8,rfl,_⟩:=hown8.rowO.slice;obtain⟨C8,e8',rfl,_⟩:=hown8.rowM.slice;have hA8:=HA6.out.below hb8;obtain⟨x0,x1,x2,xf⟩:=hA8.out.get;have xf0:=xf 0;have xf1:=xf 1;have xf2:=xf 2;obtain⟨U4,hU4,hr4,hk4,hB4⟩:=hA8.out.three (.slice A8 zs8.length c8) (.slice B8 s.opn.length d8) (.slice C8 s.made.length e8');have hown9:OwnR w.heap.size U4 s zs8 (.slice A8 zs8.length c8) (.slice B8 s.opn.length d8) (.slice C8 s.made.length e8'):=(hown8.lower (B':=w.heap.size) (by have:=HA6.out.sz;omega)).keep (hk4 _ (by decide)) (hk4 _ (by decide)) (hk4 _ (by decide)) (hk4 _ (by decide));have HF:=hid (And.intro hr4 (And.intro hown9 (hB4 w.heap.size w (by omega) hA8.bel)))
  clear hown8 hb8 hA8 hr4 hk4 hB4 hown9 xf;go_wp2_with fail
  (try simp only[Exit.inBlock,Exit.then])
  refine bodyPost_ret (z0g _ (w.heap.size+3) _ _ _ false U4 rfl rfl HF.out.1) rfl ⟨_,by rw[HFIN.out],by rw[HFIN.out];exact HF.out.2.1.st,HF.out.2.2⟩
 have y0:decide (r.fd<0)=false:=decide_eq_false t0;have T0:=hid t0;clear t0
 by_cases t1:4≤r.fd
 ·have y1:decide (4≤r.fd)=true:=decide_eq_true t1;clear t1;go_wp2_with fail;refine(z0r _ s w6 HA6.out.st).mono ?_;rintro e8 w8 ⟨zs8,vI8,vO8,vM8,rfl,hown8,hb8⟩;obtain⟨A8,c8,rfl,_⟩:=hown8.rowI.slice;obtain⟨B8,d8,rfl,_⟩:=hown8.rowO.slice;obtain⟨C8,e8',rfl,_⟩:=hown8.rowM.slice;have hA8:=HA6.out.below hb8;obtain⟨x0,x1,x2,xf⟩:=hA8.out.get;have xf0:=xf 0;have xf1:=xf 1;have xf2:=xf 2;obtain⟨U4,hU4,hr4,hk4,hB4⟩:=hA8.out.three (.slice A8 zs8.length c8) (.slice B8 s.opn.length d8) (.slice C8 s.made.length e8');have hown9:OwnR w.heap.size U4 s zs8 (.slice A8 zs8.length c8) (.slice B8 s.opn.length d8) (.slice C8 s.made.length e8'):=(hown8.lower (B':=w.heap.size) (by have:=HA6.out.sz;omega)).keep (hk4 _ (by decide)) (hk4 _ (by decide)) (hk4 _ (by decide)) (hk4 _ (by decide));have HF:=hid (And.intro hr4 (And.intro hown9 (hB4 w.heap.size w (by omega) hA8.bel)))
  clear hown8 hb8 hA8 hr4 hk4 hB4 hown9 xf;go_wp2_with fail
  (try simp only[Exit.inBlock,Exit.then])
  refine bodyPost_ret (z0g _ (w.heap.size+3) _ _ _ false U4 rfl rfl HF.out.1) rfl ⟨_,by rw[HFIN.out],by rw[HFIN.out];exact HF.out.2.1.st,HF.out.2.2⟩
 have y1:decide (4≤r.fd)=false:=decide_eq_false t1;have T1:=hid t1;clear t1
 by_cases t2:r.code≠0
 ·have y2:(r.code != 0)=true:=by rw[bne_iff_ne];exact t2
  clear t2;go_wp2_with fail;refine(z0r _ s w6 HA6.out.st).mono ?_;rintro e8 w8 ⟨zs8,vI8,vO8,vM8,rfl,hown8,hb8⟩;obtain⟨A8,c8,rfl,_⟩:=hown8.rowI.slice;obtain⟨B8,d8,rfl,_⟩:=hown8.rowO.slice;obtain⟨C8,e8',rfl,_⟩:=hown8.rowM.slice;have hA8:=HA6.out.below hb8;obtain⟨x0,x1,x2,xf⟩:=hA8.out.get;have xf0:=xf 0;have xf1:=xf 1;have xf2:=xf 2;obtain⟨U4,hU4,hr4,hk4,hB4⟩:=hA8.out.three (.slice A8 zs8.length c8) (.slice B8 s.opn.length d8) (.slice C8 s.made.length e8');have hown9:OwnR w.heap.size U4 s zs8 (.slice A8 zs8.length c8) (.slice B8 s.opn.length d8) (.slice C8 s.made.length e8'):=(hown8.lower (B':=w.heap.size) (by have:=HA6.out.sz;omega)).keep (hk4 _ (by decide)) (hk4 _ (by decide)) (hk4 _ (by decide)) (hk4 _ (by decide));have HF:=hid (And.intro hr4 (And.intro hown9 (hB4 w.heap.size w (by omega) hA8.bel)));clear hown8 hb8 hA8 hr4 hk4 hB4 hown9 xf
  go_wp2_with fail
  (try simp only[Exit.inBlock,Exit.then])
  refine bodyPost_ret (z0g _ (w.heap.size+3) _ _ _ false U4 rfl rfl HF.out.1) rfl ⟨_,by rw[HFIN.out],by rw[HFIN.out];exact HF.out.2.1.st,HF.out.2.2⟩
 have y2:(r.code != 0)=false:=by
  rw[bne_eq_false_iff_eq];exact Classical.not_not.1 t2
 have T2:=hid t2;clear t2
 by_cases t3:r.num≠0
 ·have y3:(r.num != 0)=true:=by rw[bne_iff_ne];exact t3
  clear t3;go_wp2_with fail;refine(z0r _ s w6 HA6.out.st).mono ?_;rintro e8 w8 ⟨zs8,vI8,vO8,vM8,rfl,hown8,hb8⟩;obtain⟨A8,c8,rfl,_⟩:=hown8.rowI.slice;obtain⟨B8,d8,rfl,_⟩:=hown8.rowO.slice;obtain⟨C8,e8',rfl,_⟩:=hown8.rowM.slice;have hA8:=HA6.out.below hb8;obtain⟨x0,x1,x2,xf⟩:=hA8.out.get;have xf0:=xf 0;have xf1:=xf 1;have xf2:=xf 2;obtain⟨U4,hU4,hr4,hk4,hB4⟩:=hA8.out.three (.slice A8 zs8.length c8) (.slice B8 s.opn.length d8) (.slice C8 s.made.length e8');have hown9:OwnR w.heap.size U4 s zs8 (.slice A8 zs8.length c8) (.slice B8 s.opn.length d8) (.slice C8 s.made.length e8'):=(hown8.lower (B':=w.heap.size) (by have:=HA6.out.sz;omega)).keep (hk4 _ (by decide)) (hk4 _ (by decide)) (hk4 _ (by decide)) (hk4 _ (by decide));have HF:=hid (And.intro hr4 (And.intro hown9 (hB4 w.heap.size w (by omega) hA8.bel)));clear hown8 hb8 hA8 hr4 hk4 hB4 hown9 xf
  go_wp2_with fail
  (try simp only[Exit.inBlock,Exit.then])
  refine bodyPost_ret (z0g _ (w.heap.size+3) _ _ _ false U4 rfl rfl HF.out.1) rfl ⟨_,by rw[HFIN.out],by rw[HFIN.out];exact HF.out.2.1.st,HF.out.2.2⟩
 have y3:(r.num != 0)=false:=by
  rw[bne_eq_false_iff_eq];exact Classical.not_not.1 t3
 have T3:=hid t3;clear t3
 by_cases t4:r.dir=true
 ·rw[t4] at h3';clear t4;go_wp2_with fail;refine(z0r _ s w6 HA6.out.st).mono ?_;rintro e8 w8 ⟨zs8,vI8,vO8,vM8,rfl,hown8,hb8⟩;obtain⟨A8,c8,rfl,_⟩:=hown8.rowI.slice;obtain⟨B8,d8,rfl,_⟩:=hown8.rowO.slice;obtain⟨C8,e8',rfl,_⟩:=hown8.rowM.slice;have hA8:=HA6.out.below hb8;obtain⟨x0,x1,x2,xf⟩:=hA8.out.get;have xf0:=xf 0;have xf1:=xf 1;have xf2:=xf 2;obtain⟨U4,hU4,hr4,hk4,hB4⟩:=hA8.out.three (.slice A8 zs8.length c8) (.slice B8 s.opn.length d8) (.slice C8 s.made.length e8');have hown9:OwnR w.heap.size U4 s zs8 (.slice A8 zs8.length c8) (.slice B8 s.opn.length d8) (.slice C8 s.made.length e8'):=(hown8.lower (B':=w.heap.size) (by have:=HA6.out.sz;omega)).keep (hk4 _ (by decide)) (hk4 _ (by decide)) (hk4 _ (by decide)) (hk4 _ (by decide));have HF:=hid (And.intro hr4 (And.intro hown9 (hB4 w.heap.size w (by omega) hA8.bel)));clear hown8 hb8 hA8 hr4 hk4 hB4 hown9 xf
  go_wp2_with fail
  (try simp only[Exit.inBlock,Exit.then])
  refine bodyPost_ret (z0g _ (w.heap.size+3) _ _ _ false U4 rfl rfl HF.out.1) rfl ⟨_,by rw[HFIN.out],by rw[HFIN.out];exact HF.out.2.1.st,HF.out.2.2⟩
 have y4:r.dir=false:=by simpa using t4
 rw[y4] at h3';have T4:=hid t4;clear t4
 by_cases t5:r.data≠⟨#[]⟩
 ·have y5:¬r.data.toList=[]:=zl8 t5;clear t5;go_wp2_with fail;refine(z0r _ s w6 HA6.out.st).mono ?_;rintro e8 w8 ⟨zs8,vI8,vO8,vM8,rfl,hown8,hb8⟩;obtain⟨A8,c8,rfl,_⟩:=hown8.rowI.slice;obtain⟨B8,d8,rfl,_⟩:=hown8.rowO.slice;obtain⟨C8,e8',rfl,_⟩:=hown8.rowM.slice;have hA8:=HA6.out.below hb8;obtain⟨x0,x1,x2,xf⟩:=hA8.out.get;have xf0:=xf 0;have xf1:=xf 1;have xf2:=xf 2;obtain⟨U4,hU4,hr4,hk4,hB4⟩:=hA8.out.three (.slice A8 zs8.length c8) (.slice B8 s.opn.length d8) (.slice C8 s.made.length e8');have hown9:OwnR w.heap.size U4 s zs8 (.slice A8 zs8.length c8) (.slice B8 s.opn.length d8) (.slice C8 s.made.length e8'):=(hown8.lower (B':=w.heap.size) (by have:=HA6.out.sz;omega)).keep (hk4 _ (by decide)) (hk4 _ (by decide)) (hk4 _ (by decide)) (hk4 _ (by decide));have HF:=hid (And.intro hr4 (And.intro hown9 (hB4 w.heap.size w (by omega) hA8.bel)))
  clear hown8 hb8 hA8 hr4 hk4 hB4 hown9 xf;go_wp2_with fail
  (try simp only[Exit.inBlock,Exit.then])
  refine bodyPost_ret (z0g _ (w.heap.size+3) _ _ _ false U4 rfl rfl HF.out.1) rfl ⟨_,by rw[HFIN.out],by rw[HFIN.out];exact HF.out.2.1.st,HF.out.2.2⟩
 have y5:r.data.toList=[]:=zf2 (Classical.not_not.1 t5);have T5:=hid t5;clear t5
 by_cases t6:0<f
 ·have y6:0<f:=t6;go_wp2_with fail;refine(z0r _ s w6 HA6.out.st).mono ?_;rintro e8 w8 ⟨zs8,vI8,vO8,vM8,rfl,hown8,hb8⟩;obtain⟨A8,c8,rfl,_⟩:=hown8.rowI.slice;obtain⟨B8,d8,rfl,_⟩:=hown8.rowO.slice;obtain⟨C8,e8',rfl,_⟩:=hown8.rowM.slice;have hA8:=HA6.out.below hb8;obtain⟨x0,x1,x2,xf⟩:=hA8.out.get;have xf0:=xf 0;have xf1:=xf 1;have xf2:=xf 2;obtain⟨U4,hU4,hr4,hk4,hB4⟩:=hA8.out.three (.slice A8 zs8.length c8) (.slice B8 s.opn.length d8) (.slice C8 s.made.length e8');have hown9:OwnR w.heap.size U4 s zs8 (.slice A8 zs8.length c8) (.slice B8 s.opn.length d8) (.slice C8 s.made.length e8'):=(hown8.lower (B':=w.heap.size) (by have:=HA6.out.sz;omega)).keep (hk4 _ (by decide)) (hk4 _ (by decide)) (hk4 _ (by decide)) (hk4 _ (by decide));have HF:=hid (And.intro hr4 (And.intro hown9 (hB4 w.heap.size w (by omega) hA8.bel)));clear hown8 hb8 hA8 hr4 hk4 hB4 hown9 xf
  go_wp2_with fail
  (try simp only[Exit.inBlock,Exit.then])
  refine bodyPost_ret (z0g _ (w.heap.size+3) _ _ _ false U4 rfl rfl HF.out.1) rfl ⟨_,by rw[HFIN.out],by rw[HFIN.out];exact HF.out.2.1.st,HF.out.2.2⟩
 have y6:¬0<f:=t6;exfalso;have hrf:=HRF.out;unfold refuse at hrf;have hnn:¬0<r.names.length:=by rw[HNFV.out.1];exact t6
 rw[HHAD.out,decide_eq_false T0.out,decide_eq_false T1.out,decide_eq_false T2.out,decide_eq_false T3.out,decide_eq_false T5.out,decide_eq_false hnn,y4] at hrf;cases hrf
end Go.Proofs.YtkflaifopbodfaaGreatDoor
namespace Go.Proofs.YtkflaifopbodfaaGreatDoor
open Lib (hid)
theorem zp4 {s:St} (h:Good s) {core fd:Int} (h0:fdV s.opn core fd=0):∀x∈s.opn,¬(x.core=core∧x.fd=fd):=fun y hy hcf=>by
 refine zag s.opn core fd (fun x hx=>?_) ⟨y,hy,hcf⟩ h0;obtain⟨_,_,_,_,i,w,_,hw,hwn,_⟩:=h.opens x hx
 rcases Nat.eq_zero_or_pos i with rfl|hi
 ·obtain⟨y,hy,hyn,_⟩:=h.root;rw[hw] at hy;cases hy;omega
 ·have:=z4k (h.given i w hi hw);omega
theorem znj:∀(ds:List Ds) (core fd num:Int),(∀x∈ds,¬(x.core=core∧x.fd=fd))→∃k,fdP (putD ds ⟨core,fd,num⟩) core fd=some k∧(putD ds ⟨core,fd,num⟩)[k]? =some ⟨core,fd,num⟩∧(putD ds ⟨core,fd,num⟩).take k++(putD ds ⟨core,fd,num⟩).drop (k+1)=ds
 | [],core,fd,num,_=>⟨0,by simp[putD,fdP],by simp[putD],by simp[putD]⟩
 | e :: t, core, fd, num, h => by
  have he:=h e (by simp);unfold putD
  split
  ·exact⟨0,by simp[fdP],by simp,by simp⟩
  ·obtain⟨k,h1,h2,h3⟩:=znj t core fd num (fun x hx=>h x (by simp[hx]));refine⟨k+1,?_,by simpa using h2,by simpa using h3⟩;unfold fdP;rw[if_neg he,h1]
   rfl
theorem zl9 {s:St} (h:Good s) (y:Ds):Sized { s with opn:=putD s.opn y }:=
 (h.small.opn _ (by rw[z4z];have:=h.opn_len;omega)).sized (by omega) (by omega) (by omega)
end Go.Proofs.YtkflaifopbodfaaGreatDoor
namespace Go.Proofs.YtkflaifopbodfaaGreatDoor
open Lib (hid)
open Go.RowKit
set_option maxRecDepth 100000 in
set_option maxHeartbeats 8000000 in
theorem zf3 (v rv:Value) (s:St) (c:Ca) (r:Re) (w:World) (h:StAt none w v s) (hr:ResIs none w rv r) (hp1:c.path.size≤140737488355328) (hp2:c.path2.size≤140737488355328) (hds:c.data.size≤140737488355328) (hrn:r.names.length≤1099511627776)
  (hk:c.kind=2) (h0:(doV s c).2.code=0) (hne:r.fd≠(doV s c).2.fd) (hrf:refuse s c r=false):
  Calls Tryz.prog 47 #[v,caV c,rv] w (AlOut w (allowsV s c r)):=by
 obtain⟨AV,hAV⟩:∃AV,allowsV s c r=AV:=⟨_,rfl⟩;obtain⟨hg,_,_,num,hd,hfv,_,_,hal⟩:=z8q hk h0 hne;rw[if_neg (by rw[hrf];decide),hAV] at hal;rw[hAV];have hnames:(doV s c).2.names.length≤1099511627776:=zb0 s c;obtain⟨R,hR⟩:∃R,doV s c=R:=⟨_,rfl⟩;have hdo:=fun u hu=>z9i v s c u hu hp1 hp2 hds
 simp only[hR] at hdo hd h0 hne hfv hnames;obtain⟨A,n,c',E,m,d,D,k,e,rfl,_⟩:=h.at_;obtain⟨F,f,f',rfl,hokF,hnF⟩:=hr;obtain⟨W,W2,W3,W4,hW,hW2,hW3,hW4,z1,z2,z3,z4,hst,ho0,hca,hre,hout,hbel⟩:=z4o A n c' E m d D k e s c r F f f' w h;have hat:AlAt w W4 A n c' E m d D k e s c r F f f':=⟨hst,ho0,hca,hre,hout,hbel,by omega⟩;have hcall:=hdo W4 hst;have HCALL:=hid hcall;have HAT:=hid hat;have HNF:=hid (hnF.below hbel);have HOKF:=hid hokF;have HK:=hid hk;have H0:=hid h0;have HNE:=hid hne;have HFIN:=hid hal;have HRF:=hid hrf;have HG:=hid hg;have HD:=hid hd;have HFV:=hid hfv;have HNM:=hid hnames;have HRN:=hid hrn;obtain⟨p0,p1,p2,_⟩:=ho0.get;have hca':=hca;unfold caRow at hca';obtain⟨KD,hKD⟩:∃KD,c.kind=KD:=⟨_,rfl⟩;have HKD:=hid hKD;have k0:W4.cell? ⟨w.heap.size+1,0,none⟩=some (.int .i64 c.kind):=by rw[cell_of_row W4 _ _ _ _ (0,0) hca'];rfl
 have k1:W4.cell? ⟨w.heap.size+1,1,none⟩=some (.int .i64 c.core):=by rw[cell_of_row W4 _ _ _ _ (0,0) hca'];rfl
 have k2:W4.cell? ⟨w.heap.size+1,2,none⟩=some (.int .i64 c.fd):=by rw[cell_of_row W4 _ _ _ _ (0,0) hca'];rfl
 have k3:W4.cell? ⟨w.heap.size+1,3,none⟩=some (.int .i64 c.off):=by rw[cell_of_row W4 _ _ _ _ (0,0) hca'];rfl
 have k4:W4.cell? ⟨w.heap.size+1,4,none⟩=some (.int .i64 c.num):=by rw[cell_of_row W4 _ _ _ _ (0,0) hca'];rfl
 have k5:W4.cell? ⟨w.heap.size+1,5,none⟩=some (.string c.path):=by rw[cell_of_row W4 _ _ _ _ (0,0) hca'];rfl
 have k6:W4.cell? ⟨w.heap.size+1,6,none⟩=some (.string c.path2):=by rw[cell_of_row W4 _ _ _ _ (0,0) hca'];rfl
 have k7:W4.cell? ⟨w.heap.size+1,7,none⟩=some (.string c.data):=by rw[cell_of_row W4 _ _ _ _ (0,0) hca'];rfl
 unfold caV at *;clear h hst ho0 hca hca' hre hout hbel hat hcall hdo hp1 hp2 hds hR hnames hrn hokF hnF hAV hKD hk h0 hne hal hrf hg hd hfv
 go_enter Tryz.func47,Tryz.ntmps47
 go_wp2_with fail;refine HCALL.out.mono ?_;rintro e5 w5 ⟨zs,vI,vO,vM,gv,rfl,hown5,⟨GA,gn,gc,rfl,hokG,hnG⟩,hb5⟩;obtain⟨A1,c1,rfl,_⟩:=hown5.rowI.slice;obtain⟨A2,c2,rfl,_⟩:=hown5.rowO.slice;obtain⟨A3,c3,rfl,_⟩:=hown5.rowM.slice;obtain⟨V1,hV1⟩:∃V1,w5.alloc (.cells #[.slice A1 zs.length c1,.slice A2 R.1.opn.length c2,.slice A3 R.1.made.length c3] 27)=V1:=⟨_,rfl⟩;have l1:Below w5.heap.size w5 V1:=by rw[←hV1];exact(Below.refl _ _).alloc (Nat.le_refl _) _
 have o1:OutAt V1 w5.heap.size (.slice A1 zs.length c1) (.slice A2 R.1.opn.length c2) (.slice A3 R.1.made.length c3):=by rw[←hV1];exact heap_alloc_new w5 _
 have y1:V1.heap.size=w5.heap.size+1:=by rw[←hV1];simp
 obtain⟨V2,hV2⟩:∃V2,V1.alloc (.cells #[.int .i64 R.2.code,.int .i64 R.2.fd,.int .i64 R.2.num,.bool R.2.dir,.string R.2.data,.slice GA gn gc] 35)=V2:=⟨_,rfl⟩;have l2:Below V1.heap.size V1 V2:=by rw[←hV2];exact(Below.refl _ _).alloc (Nat.le_refl _) _
 have r2:ResAt V2 (w5.heap.size+1) (.int .i64 R.2.code) (.int .i64 R.2.fd) (.int .i64 R.2.num) (.bool R.2.dir) (.string R.2.data) (.slice GA gn gc):=by rw[←y1,←hV2];exact heap_alloc_new V1 _
 have o2:OutAt V2 w5.heap.size (.slice A1 zs.length c1) (.slice A2 R.1.opn.length c2) (.slice A3 R.1.made.length c3):=(l2.block _ (by omega)).trans o1;have l12:=Cv.next l1 l2;have hs5:=HAT.out.sz;have hs45:=hb5.size;have HA2:=hid ((HAT.out.below hb5).below l12);have hown2:=hown5.below l12;have HOW:=hid (hown2.lower (B':=w.heap.size) (by omega));have HOWN:=hid hown2;have HB25:=hid (Cv.next hb5 l12);have HNG:=hid (((hnG.weak).below l12));have HNFV:=hid (HNF.out.below (Cv.next hb5 l12));have HO2:=hid o2;have HR2:=hid r2;have HOKG:=hid hokG;obtain⟨u0,u1,u2,uf⟩:=o2.get;obtain⟨g0,g1,g2,g3,g4,g5,_⟩:=r2.get;obtain⟨i0,i1,i2,i3,i4,i5,_⟩:=HA2.out.re.get;obtain⟨q0,q1,q2,qf⟩:=HA2.out.o0.get;have hca2:=HA2.out.ca;unfold caRow at hca2;have j0:V2.cell? ⟨w.heap.size+1,0,none⟩=some (.int .i64 KD):=by rw[cell_of_row V2 _ _ _ _ (0,0) hca2,←HKD.out];rfl
 have j1:V2.cell? ⟨w.heap.size+1,1,none⟩=some (.int .i64 c.core):=by rw[cell_of_row V2 _ _ _ _ (0,0) hca2];rfl
 obtain⟨RC,hRC⟩:∃RC,R.2.code=RC:=⟨_,rfl⟩;have hs2:=l12.size;have hszV:V2.heap.size=w5.heap.size+2:=by rw[←hV2];simp;omega
 clear hW hW2 hW3 hW4 hown5 hb5 l1 o1 l2 r2 o2 l12 hown2 hokG hnG hca2 p0 p1 p2 k0 k1 k2 k3 k4 k5 k6 k7;have hc1:KD=2:=by rw[←HKD.out];exact HK.out
 have qk:(KD != 2)=false:=by rw[hc1];rfl
 have hc2:RC=0:=by rw[←hRC];exact H0.out
 have qf:(r.fd==R.2.fd)=false:=by rw[beq_eq_false_iff_ne];exact HNE.out
 rw[hRC,hc2] at g0 hV2
 have hml:m≤1099511627776:=by
  have h1:=HA2.out.st.sized.big;have h2:=HA2.out.descs.1;omega
 have hHD:=HA2.out.descs;have HDS:=hid hHD;have HML:=hid hml;obtain⟨HAD,hHAD⟩:∃b,(fdP s.opn c.core r.fd).isSome=b:=⟨_,rfl⟩;have HHAD:=hid hHAD;have hcon:=z3g (w.heap.size+1) (w.heap.size+2) c.core r.fd s.opn E m d V2 HDS.out HML.out j1 i1 (by omega) (by omega);rw[hHAD] at hcon;have HCON:=hid hcon;clear hc1 hml hHD hHAD hcon;go_wp2_with fail;refine HCON.out.mono ?_;rintro e6 w6 ⟨rfl,hb6⟩;have HA6:=hid (HA2.out.below hb6);have HO6:Hid (OutAt w6 w5.heap.size _ _ _):=hid ((hb6.block w5.heap.size (by omega)).trans HO2.out);have HR6:Hid (ResAt w6 (w5.heap.size+1) _ _ _ _ _ _):=hid ((hb6.block (w5.heap.size+1) (by omega)).trans HR2.out);have hs6:=hb6.size;have HOW6:=hid (HOWN.out.below hb6);obtain⟨q06,q16,q26,_⟩:=HA6.out.o0.get;obtain⟨m0,m1,m2,mf⟩:=HO6.out.get;obtain⟨h0',h1',h2',h3',h4',h5',_⟩:=HA6.out.re.get;obtain⟨n0,n1,n2,n3,n4,n5,_⟩:=HR6.out.get
 have hca6:=HA6.out.ca;unfold caRow at hca6;have l0:w6.cell? ⟨w.heap.size+1,1,none⟩=some (.int .i64 c.core):=by rw[cell_of_row w6 _ _ _ _ (0,0) hca6];rfl
 have HB6:=hid (Cv.next HB25.out hb6);clear hb6 u0 u1 u2 uf g0 g1 g2 g3 g4 g5 i0 i1 i2 i3 i4 i5 q0 q1 q2 qf j0 j1 hV1 hV2 hca6 qk hs2 hc2 hRC;have hrf:=HRF.out;unfold refuse at hrf;simp only[Bool.or_eq_false_iff] at hrf;obtain⟨⟨⟨⟨⟨⟨⟨r0,r1⟩,r2⟩,r3⟩,r4⟩,r5⟩,r6⟩,r7⟩:=hrf;rw[HHAD.out] at r0;have y0:decide (r.fd<0)=false:=r1;have y1:decide (4≤r.fd)=false:=r2;have y2:(r.code != 0)=false:=by rw[bne_eq_false_iff_eq];exact Classical.not_not.1 (of_decide_eq_false r3)
 have y3:(r.num != 0)=false:=by rw[bne_eq_false_iff_eq];exact Classical.not_not.1 (of_decide_eq_false r4)
 have y5:r.data.toList=[]:=zf2 (Classical.not_not.1 (of_decide_eq_false r6));have y6:¬0<f:=by have h1:=of_decide_eq_false r7;rw[HNFV.out.1] at h1;exact h1
 rw[r5] at h3';clear r1 r2 r3 r4 r5 r6 r7;subst r0;have hno:=zp4 HG.out HFV.out;obtain⟨k1,hk1,hk2,hk3⟩:=znj s.opn c.core R.2.fd num hno;have hR1:R.1=({ s with opn:=putD s.opn ⟨c.core,R.2.fd,num⟩ }:St):=congrArg Prod.fst HD.out;have hopn:R.1.opn=putD s.opn ⟨c.core,R.2.fd,num⟩:=congrArg St.opn hR1
 have hs1:({ R.1 with opn:=s.opn }:St)=s:=by
  generalize R.1=X at hR1;subst hR1
  rfl
 rw[←hopn] at hk1 hk2 hk3;have hkm:k1<R.1.opn.length:=(List.getElem?_eq_some_iff.1 hk2).1;have hsl:R.1.opn.length-1=s.opn.length:=by rw[hopn,z4z];omega
 have hrl:R.1.opn.length≤33:=by rw[hopn,z4z];have:=HG.out.opn_len;omega
 have hrow:RowAt W4.heap.size w6 89 3 (.slice A2 R.1.opn.length c2) R.1.opn.length (R.1.opn.flatMap dsV):=HOW6.out.rowO
 have hDD:DescsAt none w6 A2 R.1.opn.length R.1.opn:=by
  obtain⟨A',c',hv,_,h⟩:=hrow.descs;injection hv with e1 _ _
  rw[e1];exact h
 have hI:fdI R.1.opn c.core R.2.fd=(k1:Int):=by unfold fdI;rw[hk1]
 have hidx:=zaz (w.heap.size+1) (w5.heap.size+1) c.core R.2.fd R.1.opn A2 R.1.opn.length c2 w6 hDD (by omega) l0 n1 (by omega) (by omega);rw[hI] at hidx;have HIDX:=hid hidx;have HDD:=hid hDD;have HKM:=hid hkm;have HSL:=hid hsl;have HRL:=hid hrl;have HK2:=hid hk2;have HK3:=hid hk3;have HS1:=hid hs1;have HNO:=hid hno;clear hidx hDD hkm hsl hrl hrow hI hk1 hk2 hk3 hopn hs1 hR1 hno;go_wp2_with fail;refine HIDX.out.mono ?_;rintro e7 w7 ⟨rfl,hb7⟩;have hs7:=hb7.size;have HB7:=hid (Cv.next HB6.out hb7);have HA7:=hid (HA6.out.below hb7);have hO7:OutAt w7 w5.heap.size (.slice A1 zs.length c1) (.slice A2 R.1.opn.length c2) (.slice A3 R.1.made.length c3):=(hb7.block w5.heap.size (by omega)).trans HO6.out;have hown7:=(HOW6.out.below hb7).own2 (p:=w5.heap.size) (by omega) hO7;have hDD7:=HDD.out.below hb7;obtain⟨go,oo,o,rfl,hgo,hoo,_,hmem,e0,e1,e2⟩:=hDD7.get k1 HKM.out
 have hoy:o=⟨c.core,R.2.fd,num⟩:=by have h:=HK2.out;rw[hoo] at h;injection h
 rw[hoy] at e2;obtain⟨m0,m1,m2,mf⟩:=hO7.get;have kz:(0:Int)≤(k1:Int):=by omega
 have kl:(k1:Int)<(R.1.opn.length:Int):=by have:=HKM.out;omega
 have kw:IntKind.i64.wrap ((k1:Int)+1)=(k1:Int)+1:=by rw[IntKind.wrap_i64];have:=HKM.out;have:=HRL.out;omega
 have HOWN7:=hid hown7;clear hb7 hO7 hown7 hDD7 hoo hmem e0 e1 hoy q06 q16 q26 h0' h1' h2' h3' h4' h5' n0 n1 n2 n3 n4 n5 l0 y0 y1 y2 y3 y5 y6;go_wp2_with fail;have hrow7:RowAt W4.heap.size w7 89 3 (.slice (some ⟨go,oo,none⟩) R.1.opn.length c2) R.1.opn.length (R.1.opn.flatMap dsV):=HOWN7.out.rowO;refine(zhg W4.heap.size R.1.opn.length k1 _ (R.1.opn.flatMap dsV) w7 hrow7 HKM.out (zhi _)).mono ?_;rintro e8 w8 ⟨v',rfl,hrow8,hgr8,hbl8⟩
 have hflat:(R.1.opn.flatMap dsV).take (k1*3)++(R.1.opn.flatMap dsV).drop ((k1+1)*3)=s.opn.flatMap dsV:=by
  rw[z1o dsV 3 (fun _=>rfl),z1p dsV 3 (fun _=>rfl),←List.flatMap_append,HK3.out]
 rw[HSL.out,hflat] at hrow8;obtain⟨A8,c8,rfl,hok8⟩:=hrow8.slice
 have hnP:some w5.heap.size≠rowBlk (.slice (some ⟨go,oo,none⟩) R.1.opn.length c2):=fun e=>by
  obtain⟨_,_,cc,h1⟩:=hrow7.blk _ e.symm;exact z0i HOWN7.out.cell h1 (by decide) rfl
 have hO8:OutAt w8 w5.heap.size (.slice A1 zs.length c1) (.slice (some ⟨go,oo,none⟩) R.1.opn.length c2) (.slice A3 R.1.made.length c3):=(hgr8.block w5.heap.size (by omega) hnP).trans HOWN7.out.cell;have hset:=HOWN7.out.setO (by have:=HB7.out.size;omega) hgr8 hrow8 (by rw[HS1.out];exact HA7.out.st.sized);rw[HS1.out] at hset;obtain⟨W9,hW9⟩:∃W9,w8.setCell ⟨w5.heap.size,1,none⟩ (.slice A8 s.opn.length c8)=W9:=⟨_,rfl⟩;rw[hW9] at hset;have HB9:=hid (HB7.out.trans hset.2.below);have HA9:=hid (HAT.out.below HB9.out)
 have hDD9:DescsAt none W9 A8 s.opn.length s.opn:=by
  obtain⟨A',c',hv,_,h⟩:=hset.1.rowO.descs;injection hv with e1 _ _
  rw[e1];exact h
 have HDD9:=hid hDD9;have hs9:=hset.2.below.size;have HOWN9:=hid hset.1;have hca9:=HA9.out.ca;unfold caRow at hca9;have l9:W9.cell? ⟨w.heap.size+1,1,none⟩=some (.int .i64 c.core):=by rw[cell_of_row W9 _ _ _ _ (0,0) hca9];rfl
 obtain⟨_,b1,_⟩:=HA9.out.re.get;obtain⟨m90,m91,m92,m9f⟩:=(show OutAt W9 w5.heap.size _ _ _ from HOWN9.out.cell).get;obtain⟨_,m81,_,m8f⟩:=hO8.get;obtain⟨N,hN⟩:∃N,s.opn.length=N:=⟨_,rfl⟩;have hN32:N≤32:=by rw[←hN];exact HG.out.opn_len
 have HN:=hid hN;rw[hN] at hW9 m91;have wN:IntKind.i64.wrap ((N:Int)-1)=(N:Int)-1:=by rw[IntKind.wrap_i64];omega
 clear hrow7 hrow8 hgr8 hbl8 hflat hok8 hnP hO8 hset hDD9 hca9 m0 m1 m2 e2;rw[hN];go_wp2_with fail
 go_loopw [13,14] (fun a j wr=>∃(i at_:Nat) (jj:Int),a=.int .i64 at_∧j=.int .i64 jj∧jj=(i:Int)-1∧i≤N∧Below W9.heap.size W9 wr∧Back s.opn c.core r.fd i at_) (fun _ j _=>(intOf j+1).toNat)
 case atStart=>exact⟨N,N,(N:Int)-1,rfl,rfl,rfl,Nat.le_refl _,Below.refl _ _,by rw[←HN.out];exact Back.start _ _ _⟩
 case round =>
  obtain⟨i,at_,jj,rfl,rfl,hjj,hiN,hbel,hback⟩:=hrel;have HB:=hid hbel;have HBK:=hid hback;have hsr:=hbel.size;have l9r:=(hbel.cell (p:=⟨w.heap.size+1,1,none⟩) (show w.heap.size+1<W9.heap.size by have:=HA9.out.sz;omega)).trans l9;have b1r:=(hbel.cell (p:=⟨w.heap.size+2,1,none⟩) (show w.heap.size+2<W9.heap.size by have:=HA9.out.sz;omega)).trans b1;have hlt9:w5.heap.size<W9.heap.size:=by omega
  have m91r:=(hbel.cell (p:=⟨w5.heap.size,1,none⟩) hlt9).trans m91;have HDDr:=hid (HDD9.out.below hbel);have hzr:w.heap.size+4≤wr.heap.size:=by have:=HA9.out.sz;omega
  clear hbel hback;cases i with
  | succ q =>
   obtain rfl:jj=(q:Int):=by omega
   obtain⟨g,off,o,rfl,hg,hoo,_,hmem,e0,e1,e2⟩:=HDDr.out.get q (by rw[HN.out];omega);have HST:=hid (HBK.out.step hoo);obtain⟨V,hV,v0,v1,v2,hal,hlt4⟩:=z5h wr o.core o.fd o.num;have l9v:=(hal.cell (p:=⟨w.heap.size+1,1,none⟩) (show w.heap.size+1<wr.heap.size by omega)).trans l9r;have b1v:=(hal.cell (p:=⟨w.heap.size+2,1,none⟩) (show w.heap.size+2<wr.heap.size by omega)).trans b1r;have HBV:=hid (Cv.next HB.out hal);have k0:(0:Int)≤(q:Int):=by omega
   have k1:(q:Int)<(N:Int):=by omega
   have fw:IntKind.i64.wrap ((q:Int)-1)=(q:Int)-1:=by rw[IntKind.wrap_i64];omega
   clear hoo hmem hal hjj
   by_cases hA:c.core<o.core
   ·have qa:decide (c.core<o.core)=true:=decide_eq_true hA;have HNX:=hid (HST.out.1 (.inl hA));clear hA;go_wp2_with fail;go_roundw
    case rel=>exact⟨q,q,(q:Int)-1,rfl,rfl,rfl,by omega,HBV.out,HNX.out⟩
    case measure=>simp[intOf]
   ·have qa:decide (c.core<o.core)=false:=decide_eq_false hA
    by_cases hC:o.core=c.core
    ·have qb:(o.core==c.core)=true:=by rw[beq_iff_eq];exact hC
     by_cases hF:r.fd<o.fd
     ·have qc:decide (r.fd<o.fd)=true:=decide_eq_true hF;have HNX:=hid (HST.out.1 (.inr ⟨hC,hF⟩));clear hA hC hF;go_wp2_with fail;go_roundw
      case rel=>exact⟨q,q,(q:Int)-1,rfl,rfl,rfl,by omega,HBV.out,HNX.out⟩
      case measure=>simp[intOf]
     ·have qc:decide (r.fd<o.fd)=false:=decide_eq_false hF;have HNX:=hid (HST.out.2 (by omega));clear hA hC hF;go_wp2_with fail;go_roundw
      case rel=>exact⟨q,at_,(q:Int)-1,rfl,rfl,rfl,by omega,HBV.out,HNX.out⟩
      case measure=>simp[intOf]
    ·have qb:(o.core==c.core)=false:=by rw[beq_eq_false_iff_ne];exact hC
     have HNX:=hid (HST.out.2 (by omega));clear hA hC;go_wp2_with fail;go_roundw
     case rel=>exact⟨q,at_,(q:Int)-1,rfl,rfl,rfl,by omega,HBV.out,HNX.out⟩
     case measure=>simp[intOf]
  | zero =>
   obtain rfl:jj=-1:=by omega
   have hno:=zp4 (core:=c.core) (fd:=r.fd) HG.out ((zhl HG.out c.core r.fd).1 (by
    have h:=HHAD.out;cases hq:fdP s.opn c.core r.fd with
    | none=>rfl
    | some k=>rw[hq] at h;cases h))
   have hput:=HBK.out.put (num:=num) HG.out.riseD hno;have hatl:=HBK.out.le;rw[HN.out] at hatl;obtain⟨V,hV⟩:∃V,wr.alloc (.cells #[.int .i64 c.core,.int .i64 r.fd,.int .i64 num] 89)=V:=⟨_,rfl⟩;have hal:Below wr.heap.size wr V:=by rw[←hV];exact(Below.refl _ _).alloc (Nat.le_refl _) _
   have hbv:V.heap[wr.heap.size]? =some (.cells #[.int .i64 c.core,.int .i64 r.fd,.int .i64 num] 89 (0,0)):=by rw[←hV];exact Go.heap_alloc_new wr _
   have hVs:V.heap.size=wr.heap.size+1:=by rw[←hV];simp
   have hownV:=(HOWN9.out.below HB.out).below hal
   have hrowV:RowAt W4.heap.size V 89 3 (.slice A8 N c8) N (s.opn.flatMap dsV):=by
    have h:=hownV.rowO;rw[HN.out] at h;exact h
   have hvb:rowBlk (.slice A8 N c8)≠some wr.heap.size:=fun e=>by
    have h9:RowAt W4.heap.size wr 89 3 (.slice A8 N c8) N (s.opn.flatMap dsV):=by
     have h:=(HOWN9.out.below HB.out).rowO;rw[HN.out] at h;exact h
    obtain⟨_,h2,_⟩:=h9.blk _ e;omega
   have h1x:∀v∈[Value.int .i64 c.core,.int .i64 r.fd,.int .i64 num],v.oneCell'=true:=by intro v hv;simp at hv;rcases hv with rfl|rfl|rfl<;>rfl
   have m9V:=(hal.cell (p:=⟨w5.heap.size,1,none⟩) (show w5.heap.size<wr.heap.size by omega)).trans m91r;have HOWNV:=hid hownV;have HROWV:=hid hrowV;have HPUT:=hid hput;have HBV2:=hid hbv;have HVB:=hid hvb;have H1X:=hid h1x;have HATL:=hid hatl;have HBVB:=hid (HB9.out.trans ((HB.out.mono (by have:=HB9.out.size;omega)).trans (hal.mono (by have:=HB9.out.size;omega))));clear hno hput hownV hrowV hbv hvb h1x hatl hal hjj;go_wp2_with fail;refine(zhh W4.heap.size N at_ wr.heap.size (.slice A8 N c8) (s.opn.flatMap dsV) [.int .i64 c.core,.int .i64 r.fd,.int .i64 num] V HROWV.out (by have:=HBVB.out.size;omega) HATL.out (by omega) rfl HBV2.out HVB.out H1X.out (zhi _)).mono ?_;rintro e11 w11 ⟨v',rfl,hrow11,hgr11,hbl11⟩
   have hflat:(s.opn.flatMap dsV).take (at_*3)++[.int .i64 c.core,.int .i64 r.fd,.int .i64 num]++(s.opn.flatMap dsV).drop (at_*3)=(putD s.opn ⟨c.core,r.fd,num⟩).flatMap dsV:=by
    rw[HPUT.out,z1o dsV 3 (fun _=>rfl),z1p dsV 3 (fun _=>rfl),List.flatMap_append,List.flatMap_append]
    rfl
   have hpl:N+1=(putD s.opn ⟨c.core,r.fd,num⟩).length:=by rw[z4z,HN.out]
   obtain⟨A11,c11,rfl,hok11⟩:=hrow11.slice;rw[hflat] at hrow11
   have hnP:some w5.heap.size≠rowBlk (.slice A8 N c8):=fun e=>by
    obtain⟨_,_,cc,h1⟩:=HROWV.out.blk _ e.symm;exact z0i HOWNV.out.cell h1 (by decide) rfl
   have hO11:OutAt w11 w5.heap.size (.slice A1 zs.length c1) (.slice A8 s.opn.length c8) (.slice A3 R.1.made.length c3):=(hgr11.block w5.heap.size (by omega) hnP).trans HOWNV.out.cell;have hset:=HOWNV.out.setO (ds:=putD s.opn ⟨c.core,r.fd,num⟩) (v':=.slice A11 (N+1) c11) (w':=w11) (by have:=HBVB.out.size;omega) (by rw[HN.out];exact hgr11) (by rw[←hpl];exact hrow11) (zl9 HG.out _);obtain⟨W12,hW12⟩:∃W12,w11.setCell ⟨w5.heap.size,1,none⟩ (.slice A11 (N+1) c11)=W12:=⟨_,rfl⟩;rw[hW12] at hset;have HA12:=hid (HAT.out.below (HBVB.out.trans hset.2.below));have HOW12:=hid (hset.1.ownR.lower (B':=w.heap.size) (by omega));obtain⟨m120,m121,m122,m12f⟩:=(show OutAt W12 w5.heap.size _ _ _ from hset.1.cell).get;obtain⟨_,m111,_,m11f⟩:=hO11.get;have m11g:=m11f 1;clear hrow11 hgr11 hbl11 hflat hpl hnP hO11 hset hok11 m9V m91r l9r b1r;obtain⟨x0,x1,x2,xf⟩:=HA12.out.out.get
   have xf0:=xf 0;have xf1:=xf 1;have xf2:=xf 2;obtain⟨U4,hU4,hr4,hk4,hB4⟩:=HA12.out.out.three (.slice A1 zs.length c1) (.slice A11 (N+1) c11) (.slice A3 R.1.made.length c3);have hown9:=(HOW12.out).keep (hk4 _ (by decide)) (hk4 _ (by decide)) (hk4 _ (by decide)) (hk4 _ (by decide));have HF:=hid (And.intro hr4 (And.intro hown9 (hB4 w.heap.size w (by omega) HA12.out.bel)));clear hr4 hk4 hB4 hown9 xf;go_wp2_with fail
   (try simp only[Exit.inBlock,Exit.then])
   refine bodyPost_ret (z0g _ (w.heap.size+3) _ _ _ true U4 rfl rfl HF.out.1) rfl ⟨_,by rw[HFIN.out],by rw[HFIN.out];exact HF.out.2.1.st,HF.out.2.2⟩
end Go.Proofs.YtkflaifopbodfaaGreatDoor
namespace Go.Proofs.YtkflaifopbodfaaGreatDoor
open Lib (hid)
open Go.RowKit
theorem zg9 (v rv:Value) (s:St) (c:Ca) (r:Re) (w:World) (h:StAt none w v s) (hr:ResIs none w rv r) (hp1:c.path.size≤140737488355328) (hp2:c.path2.size≤140737488355328) (hds:c.data.size≤140737488355328) (hrn:r.names.length≤1099511627776):
  Calls Tryz.prog 47 #[v,caV c,rv] w (AlOut w (allowsV s c r)):=by
 by_cases h1:c.kind≠2∨(doV s c).2.code≠0∨r.fd=(doV s c).2.fd
 ·exact zd4 v rv s c r w h hr hp1 hp2 hds hrn h1
 have hk:c.kind=2:=Classical.not_not.1 (fun h=>h1 (.inl h));have h0:(doV s c).2.code=0:=Classical.not_not.1 (fun h=>h1 (.inr (.inl h)));have hne:r.fd≠(doV s c).2.fd:=fun h=>h1 (.inr (.inr h))
 cases hrf:refuse s c r
 ·exact zf3 v rv s c r w h hr hp1 hp2 hds hrn hk h0 hne hrf
 ·exact zb3 v rv s c r w h hr hp1 hp2 hds hrn hk h0 hne hrf
end Go.Proofs.YtkflaifopbodfaaGreatDoor
