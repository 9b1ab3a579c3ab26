/- Parts of the proof, side by side: FsDoBad, FsDoAll, FsDoc, FsNew, MoNews, Conc, GdN, GdDo, AllowsP. -/
import Derived.Test.YtmmpkfcdfcldlaaGreatM27
import Derived.Test.YtmmpkfcdfcldlaaGreatM43
import Derived.Test.YtmmpkfcdfcldlaaGreatM28
import Derived.Test.YtmmpkfcdfcldlaaGreatFsCopy
import Derived.Test.YtmmpkfcdfcldlaaGreatM03
import Derived.Laws.ResultCell
import Derived.Test.YtmmpkfcdfcldlaaGreatFsEqual
import Derived.Test.YtmmpkfcdfcldlaaGreatM44
import Derived.Test.YtmmpkfcdfcldlaaGreatM24
import Derived.Test.YtmmpkfcdfcldlaaGreatM33
import Derived.Test.YtmmpkfcdfcldlaaGreatM40
import Derived.Test.YtmmpkfcdfcldlaaGreatM34
set_option linter.unusedVariables false
set_option linter.unusedSimpArgs false
namespace Go.Proofs.YtmmpkfcdfcldlaaGreat
open Lib (hid)
open Go.RowKit
set_option maxRecDepth 100000 in
set_option maxHeartbeats 16000000 in
theorem zln (v:Value) (s:St) (c:Ca) (want:Int) (w:World) (h:StAt none w v s) (hbad:mayV s=false∨c.core<0∨(s.made.length:Int)≤c.core∨c.kind<0∨16<c.kind):
  Calls Tryz.prog 32 #[v,caV c,.int .i64 want] w fun e w'=>∃v' rv,e=.returned (.tuple #[v',rv,.bool true])∧StAt (some w.heap.size) w' v' s∧ResIs (some w.heap.size) w' rv { code:=9 }∧Below w.heap.size w w':=by
 obtain⟨A,n,cp,E,m,d,D,k,e,rfl,_,_,hM,_⟩:=h.at_;have hkl:s.made.length=k:=hM.1;obtain⟨W,W2,W3,W4,hW,hW2,hW3,hW4,hs1,hs2,hs3,hdk⟩:=Dk.start h c;obtain⟨x0,x1,x2,k0,k1,_⟩:=hdk.vals;have HD:=hid hdk;obtain⟨MV,hMV⟩:∃MV,mayV s=MV:=⟨_,rfl⟩;have HM:=hid hMV;rw[hMV,hkl] at hbad
 have hcase:MV=false∨(MV=true∧decide (c.core<0)=true)∨(MV=true∧decide (c.core<0)=false∧decide ((k:Int)≤c.core)=true)∨(MV=true∧decide (c.core<0)=false∧decide ((k:Int)≤c.core)=false∧decide (c.kind<0)=true)∨(MV=true∧decide (c.core<0)=false∧decide ((k:Int)≤c.core)=false∧decide (c.kind<0)=false∧decide ((16:Int)<c.kind)=true):=by
  simp only[decide_eq_true_eq,decide_eq_false_iff_not];cases MV
  ·exact .inl rfl
  ·rcases hbad with h|h|h|h|h
   ·cases h
   all_goals (right;simp only[true_and];omega)
 have hsz:=hdk.size;clear hM hdk hMV h hbad;unfold caV
 rcases hcase with hmv|⟨hmv,g1⟩|⟨hmv,g1,g2⟩|⟨hmv,g1,g2,g3⟩|⟨hmv,g1,g2,g3,g4⟩
 all_goals
  subst hmv
  go_enter Tryz.func32,Tryz.ntmps32
  go_wp2_with fail;clear hW hW2 hW3 hW4;refine(zdn _ s W4 HD.out.st).mono ?_;rintro e5 w5 ⟨rfl,hb5⟩;rw[HM.out];have HD5:=hid (HD.out.below hb5);have hsz5:=HD5.out.size;clear hb5 x0 x1 x2 k0 k1;obtain⟨x0,x1,x2,k0,k1,_⟩:=HD5.out.vals;go_wp2_with fail;refine(z7l _ s w5 HD5.out.st).mono ?_;rintro e6 w6 ⟨v6,rfl,hst6,hb6⟩;obtain⟨A6,n6,c6,E6,m6,d6,D6,k6,e6,rfl,_⟩:=hst6.at_;have HD6:=hid (HD5.out.below hb6);have HST6:=hid hst6;clear hst6 hb6 x0 x1 x2 k0 k1;go_wp2_with fail;refine(z0d 9 _).mono ?_;rintro e7 w7 ⟨rfl,hb7⟩;have HD7:=hid (HD6.out.below hb7);have HST7:=hid (HST6.out.below hb7);obtain⟨t0,t1,t2,uf⟩:=HD7.out.outS.get;obtain⟨v0,v1,v2,v3,v4,v5,vf⟩:=HD7.out.outR.get;obtain⟨U5,hU5,ho5,k5,b5⟩:=HD7.out.outS.three (.slice A6 n6 c6) (.slice E6 m6 d6) (.slice D6 k6 e6);have hr5:ResAt U5 (w.heap.size+3) _ _ _ _ _ _:=((k5 _ (by decide)).same (w.heap.size+3) _ HD7.out.outR).trans HD7.out.outR
  obtain⟨z0,z1,z2,z3,z4,z5,zf⟩:=hr5.get;obtain⟨U6,hU6,hr6,k6',b6,a6,s6⟩:=hr5.six (.int .i64 9) (.int .i64 0) (.int .i64 0) (.bool false) (.string ⟨#[]⟩) (.slice none 0 0);have ho6:OutAt U6 (w.heap.size+2) _ _ _:=(a6 (w.heap.size+2) (by omega)).trans ho5;have hst8:=(HST7.out.keep3 (k5 _ (by decide)) (k5 _ (by decide)) (k5 _ (by decide)) (k5 _ (by decide))).keep3 (k6' _ (by decide)) (k6' _ (by decide)) (k6' _ (by decide)) (k6' _ (by decide));have hbf:=b6 w.heap.size w (by omega) (b5 w.heap.size w (by omega) HD7.out.bel);have HO6f:=hid ho6;have HR6f:=hid hr6;have HSTf:=hid (hst8.lower (B':=w.heap.size) (by omega));have HBF:=hid hbf;clear hb7 ho5 k5 b5 hr5 hr6 k6' b6 a6 s6 ho6 hst8 hbf;go_wp2_with fail
  (try simp only[Exit.inBlock,Exit.then])
  refine bodyPost_ret (v:=.tuple #[.agg #[.slice A6 n6 c6,.slice E6 m6 d6,.slice D6 k6 e6],.agg #[.int .i64 9,.int .i64 0,.int .i64 0,.bool false,.string ⟨#[]⟩,.slice none 0 0],.bool true]) ?_ rfl ?_
  ·rw[z1m rfl];have hl1:=run_loadVar_row (P:=Tryz.prog) U6 (w.heap.size+2) _ 26 _ (0,0) _ HO6f.out Tryz.underlying26 rfl (by kernel_rfl);have hl2:=run_loadVar_row (P:=Tryz.prog) U6 (w.heap.size+3) _ 32 _ (0,0) _ HR6f.out Tryz.underlying32 rfl (by kernel_rfl);simp[asAddr,hl1,hl2,Result.andThen]
  ·exact⟨_,_,rfl,HSTf.out,ResIs.of_resV _ _ { code:=9 } rfl,HBF.out⟩
theorem zlo (v:Value) (s:St) (c:Ca) (want:Int) (w:World) (h:StAt none w v s) (hok:mayV s=true→0≤c.core→c.core<(s.made.length:Int)→0≤c.kind→c.kind≤16→DoOk s c want):
  Calls Tryz.prog 32 #[v,caV c,.int .i64 want] w fun e w'=>∃v' rv,e=.returned (.tuple #[v',rv,.bool (doF s c want).2.2])∧StAt (some w.heap.size) w' v' (doF s c want).1∧ResIs (some w.heap.size) w' rv (doF s c want).2.1∧Below w.heap.size w w':=by
 by_cases hb:mayV s=false∨c.core<0∨(s.made.length:Int)≤c.core∨c.kind<0∨16<c.kind
 ·have e:doF s c want=(s,{ code:=9 },true):=by unfold doF;rw[if_pos hb]
  rw[e];exact zln v s c want w h hb
 ·have h1:mayV s=true:=by cases hm:mayV s;exact absurd (.inl hm) hb;rfl
  have h2:0≤c.core:=by omega
  have h3:c.core<(s.made.length:Int):=by omega
  have h4:0≤c.kind:=by omega
  have h5:c.kind≤16:=by omega
  exact zko v s c want w h h1 h2 h3 h4 h5 (hok h1 h2 h3 h4 h5)
end Go.Proofs.YtmmpkfcdfcldlaaGreat
namespace Go.Proofs.YtmmpkfcdfcldlaaGreat
open Lib (hid)
open Go.RowKit
set_option maxRecDepth 100000 in
set_option maxHeartbeats 2000000 in
theorem zlp (v:Value) (s:St) (c:Ca) (w:World) (h:StAt none w v s) (hok:mayV s=true→0≤c.core→c.core<(s.made.length:Int)→0≤c.kind→c.kind≤16→DoOk s c (-1)):
  Calls Tryz.prog 8 #[v,caV c] w fun e w'=>∃v' rv,e=.returned (.tuple #[v',rv])∧StAt (some w.heap.size) w' v' (doV s c).1∧ResIs (some w.heap.size) w' rv (doV s c).2∧Below w.heap.size w w':=by
 have hd:∀u,StAt none u v s→Calls Tryz.prog 32 #[v,caV c,.int .i64 (-1)] u fun e w'=>∃v' rv,e=.returned (.tuple #[v',rv,.bool (doF s c (-1)).2.2])∧StAt (some u.heap.size) w' v' (doV s c).1∧ResIs (some u.heap.size) w' rv (doV s c).2∧Below u.heap.size u w':=fun u hu=>zlo v s c (-1) u hu hok
 obtain⟨s',hs'⟩:∃s',(doV s c).1=s':=⟨_,rfl⟩;obtain⟨r,hr⟩:∃r,(doV s c).2=r:=⟨_,rfl⟩;obtain⟨OKB,hOKB⟩:∃OKB,(doF s c (-1)).2.2=OKB:=⟨_,rfl⟩;rw[hs',hr] at hd ⊢;rw[hOKB] at hd;clear hs' hr hOKB hok;obtain⟨⟨A,n,cp,Bz,m,d,D,k,e,rfl,hI,hD,hM,h5,h6,h7⟩,hz⟩:=h;obtain⟨W,hW,b0,b1,b2,hal,hlt0⟩:=z1f w A n cp Bz m d D k e;obtain⟨W2,hW2,hbc,hal2,hsz2⟩:=z5o W c;obtain⟨W3,hW3⟩:∃W3,W2.alloc (.cells #[.slice none 0 0,.slice none 0 0,.slice none 0 0] 26)=W3:=⟨_,rfl⟩;have hal3:Below W2.heap.size W2 W3:=by rw[←hW3];exact(Below.refl _ _).alloc (Nat.le_refl _) _
 have hsz3:W3.heap.size=W2.heap.size+1:=by rw[←hW3];simp
 have ho3:OutAt W3 W2.heap.size (.slice none 0 0) (.slice none 0 0) (.slice none 0 0):=by rw[←hW3];exact heap_alloc_new W2 _
 obtain⟨W4,hW4⟩:∃W4,W3.alloc (.cells #[.int .i64 0,.int .i64 0,.int .i64 0,.bool false,.string ⟨#[]⟩,.slice none 0 0] 32)=W4:=⟨_,rfl⟩;have hal4:Below W3.heap.size W3 W4:=by rw[←hW4];exact(Below.refl _ _).alloc (Nat.le_refl _) _
 have hr4:ResAt W4 W3.heap.size (.int .i64 0) (.int .i64 0) (.int .i64 0) (.bool false) (.string ⟨#[]⟩) (.slice none 0 0):=by rw[←hW4];exact heap_alloc_new W3 _
 have hst0:StAt none W (.agg #[.slice A n cp,.slice Bz m d,.slice D k e]) s:=⟨⟨A,n,cp,Bz,m,d,D,k,e,rfl,hI.below hal,hD.below hal,hM.below hal,h5,h6,h7⟩,hz⟩;have hb24:Below W2.heap.size W2 W4:=Cv.next hal3 hal4;have hb14:Below W.heap.size W W4:=Cv.next hal2 hb24;have hb4:Below w.heap.size w W4:=Cv.next hal hb14;have hst:=hst0.below hb14;have x0:=(hb14.cell (p:=⟨w.heap.size,0,.none⟩) hlt0).trans b0;have x1:=(hb14.cell (p:=⟨w.heap.size,1,.none⟩) hlt0).trans b1;have x2:=(hb14.cell (p:=⟨w.heap.size,2,.none⟩) hlt0).trans b2;have hbc4:=(hb24.block W.heap.size (by omega)).trans hbc;have k0:W4.cell? ⟨W.heap.size,0,none⟩=some (.int .i64 c.kind):=by rw[cell_of_row W4 W.heap.size _ _ _ (0,0) hbc4];rfl
 have k1:W4.cell? ⟨W.heap.size,1,none⟩=some (.int .i64 c.core):=by rw[cell_of_row W4 W.heap.size _ _ _ (0,0) hbc4];rfl
 have k2:W4.cell? ⟨W.heap.size,2,none⟩=some (.int .i64 c.fd):=by rw[cell_of_row W4 W.heap.size _ _ _ (0,0) hbc4];rfl
 have k3:W4.cell? ⟨W.heap.size,3,none⟩=some (.int .i64 c.off):=by rw[cell_of_row W4 W.heap.size _ _ _ (0,0) hbc4];rfl
 have k4:W4.cell? ⟨W.heap.size,4,none⟩=some (.int .i64 c.num):=by rw[cell_of_row W4 W.heap.size _ _ _ (0,0) hbc4];rfl
 have k5:W4.cell? ⟨W.heap.size,5,none⟩=some (.string c.path):=by rw[cell_of_row W4 W.heap.size _ _ _ (0,0) hbc4];rfl
 have k6:W4.cell? ⟨W.heap.size,6,none⟩=some (.string c.path2):=by rw[cell_of_row W4 W.heap.size _ _ _ (0,0) hbc4];rfl
 have k7:W4.cell? ⟨W.heap.size,7,none⟩=some (.string c.data):=by rw[cell_of_row W4 W.heap.size _ _ _ (0,0) hbc4];rfl
 have hcall:=hd W4 hst;have HCALL:=hid hcall;have HB4:=hid hb4;have hb4s:=hb4.size;have HO3:=hid ((hal4.block W2.heap.size (by omega)).trans ho3);have HR4:=hid hr4;have hs1:w.heap.size<W.heap.size:=hlt0;have hs4:W4.heap.size=W3.heap.size+1:=by rw[←hW4];simp
 unfold caV;clear hI hD hM hz hst0 hst hbc hbc4 hb4 hb14 hb24 ho3 hr4 hal hal2 hal3 hal4 b0 b1 b2 h5 h6 h7 hlt0 hd hcall
 go_enter Tryz.func8,Tryz.ntmps8
 go_wp2_with fail;clear hW hW2 hW3 hW4;refine HCALL.out.mono ?_;rintro e5 w5 ⟨v5,rv,rfl,hst5,⟨AN,nN,cN,rfl,hokN,hnN⟩,hb5⟩;have HN5:=hid hnN;obtain⟨A6,n6,c6,E6,m6,d6,D6,k6',e6,rfl,_⟩:=hst5.at_;have HST5:=hid hst5;have HB5:=hid (Cv.next HB4.out hb5);have HO5:Hid (OutAt w5 W2.heap.size _ _ _):=hid ((hb5.block W2.heap.size (by omega)).trans HO3.out);have HR5:Hid (ResAt w5 W3.heap.size _ _ _ _ _ _):=hid ((hb5.block W3.heap.size (by omega)).trans HR4.out);have hs5:W4.heap.size≤w5.heap.size:=hb5.size;clear hst5 hb5 hnN x0 x1 x2 k0 k1 k2 k3 k4 k5 k6 k7;go_wp2_with fail;obtain⟨U1,hU1⟩:∃U1,w5.alloc (.cells #[.slice A6 n6 c6,.slice E6 m6 d6,.slice D6 k6' e6] 26)=U1:=⟨_,rfl⟩;obtain⟨U2,hU2⟩:∃U2,U1.alloc (.cells #[.int .i64 r.code,.int .i64 r.fd,.int .i64 r.num,.bool r.dir,.string r.data,.slice AN nN cN] 32)=U2:=⟨_,rfl⟩
 rw[hU1,hU2];have hau1:Below w5.heap.size w5 U1:=by rw[←hU1];exact(Below.refl _ _).alloc (Nat.le_refl _) _
 have hau2:Below U1.heap.size U1 U2:=by rw[←hU2];exact(Below.refl _ _).alloc (Nat.le_refl _) _
 have hsu1:U1.heap.size=w5.heap.size+1:=by rw[←hU1];simp
 have hau:=Cv.next hau1 hau2;have hru:ResAt U2 (w5.heap.size+1) (.int .i64 r.code) (.int .i64 r.fd) (.int .i64 r.num) (.bool r.dir) (.string r.data) (.slice AN nN cN):=by rw[←hsu1,←hU2];exact heap_alloc_new U1 _
 have hou:OutAt U2 w5.heap.size (.slice A6 n6 c6) (.slice E6 m6 d6) (.slice D6 k6' e6):=by
  have h1:U1.heap[w5.heap.size]? =some (.cells #[.slice A6 n6 c6,.slice E6 m6 d6,.slice D6 k6' e6] 26 (0,0)):=by rw[←hU1];exact heap_alloc_new w5 _
  exact(hau2.block w5.heap.size (by omega)).trans h1
 have hst8:=HST5.out.below hau;have hO8:OutAt U2 (W.heap.size+1) (.slice none 0 0) (.slice none 0 0) (.slice none 0 0):=by rw[←hsz2];exact(hau.block W2.heap.size (by omega)).trans HO5.out
 have hR8:ResAt U2 (W.heap.size+1+1) (.int .i64 0) (.int .i64 0) (.int .i64 0) (.bool false) (.string ⟨#[]⟩) (.slice none 0 0):=by rw[show W.heap.size+1+1=W3.heap.size by omega];exact(hau.block W3.heap.size (by omega)).trans HR5.out
 have HB8:=hid (Cv.next HB5.out hau);have HST8:=hid hst8;have HN8:=hid (HN5.out.below hau);obtain⟨q0,q1,q2,_⟩:=hou.get;obtain⟨j0,j1,j2,j3,j4,j5,_⟩:=hru.get;have uf:∀j,U2.frozen? ⟨W.heap.size+1,j,none⟩=false:=hO8.get.2.2.2;have vf:∀j,U2.frozen? ⟨W.heap.size+1+1,j,none⟩=false:=hR8.get.2.2.2.2.2.2;have n1:w5.heap.size≠W.heap.size+1:=by omega
 have n2:w5.heap.size≠W.heap.size+1+1:=by omega
 have n3:w5.heap.size+1≠W.heap.size+1:=by omega
 have n4:w5.heap.size+1≠W.heap.size+1+1:=by omega
 have n1':=Ne.symm n1;have n2':=Ne.symm n2;have n3':=Ne.symm n3;have n4':=Ne.symm n4;have n5:W.heap.size≠w5.heap.size:=by omega
 have n6':w5.heap.size≠W.heap.size:=by omega
 obtain⟨t0,t1,t2,_⟩:=hO8.get;obtain⟨v0,v1,v2,v3,v4,v5,_⟩:=hR8.get;have uf0:=uf 0;have uf1:=uf 1;have uf2:=uf 2;clear hU1 hU2 hau1 hau2 hau hru hou hst8
 go_region_held3 (fun w'=>w'.cell? ⟨w5.heap.size,0,none⟩=some (.slice A6 n6 c6)∧w'.cell? ⟨w5.heap.size,1,none⟩=some (.slice E6 m6 d6)∧w'.cell? ⟨w5.heap.size,2,none⟩=some (.slice D6 k6' e6)∧
   w'.cell? ⟨w5.heap.size+1,0,none⟩=some (.int .i64 r.code)∧w'.cell? ⟨w5.heap.size+1,1,none⟩=some (.int .i64 r.fd)∧w'.cell? ⟨w5.heap.size+1,2,none⟩=some (.int .i64 r.num)∧w'.cell? ⟨w5.heap.size+1,3,none⟩=some (.bool r.dir)∧w'.cell? ⟨w5.heap.size+1,4,none⟩=some (.string r.data)∧w'.cell? ⟨w5.heap.size+1,5,none⟩=some (.slice AN nN cN))
  (go_keep) (fail)
 obtain⟨U5,hU5,ho5,k5,b5⟩:=hO8.three (.slice A6 n6 c6) (.slice E6 m6 d6) (.slice D6 k6' e6);have hr5:ResAt U5 (W.heap.size+1+1) _ _ _ _ _ _:=((k5 _ (by decide)).same (W.heap.size+1+1) _ hR8).trans hR8;obtain⟨U6,hU6,hr6,k6,b6,a6,s6⟩:=hr5.six (.int .i64 r.code) (.int .i64 r.fd) (.int .i64 r.num) (.bool r.dir) (.string r.data) (.slice AN nN cN);have ho6:OutAt U6 (W.heap.size+1) _ _ _:=(a6 (W.heap.size+1) (by omega)).trans ho5;have hbw:Below w.heap.size w U6:=b6 w.heap.size w (by omega) (b5 w.heap.size w (by omega) HB8.out);have hst6:=(HST8.out.keep3 (k5 _ (by decide)) (k5 _ (by decide)) (k5 _ (by decide)) (k5 _ (by decide))).keep3 (k6 _ (by decide)) (k6 _ (by decide)) (k6 _ (by decide)) (k6 _ (by decide));rw[hU5,hU6];have HO6f:=hid ho6;have HR6f:=hid hr6;have HSTf:=hid ((hst6.lower (by have:=hb4s;omega)).below (Below.drew (Below.refl _ _)))
 have HBF:=hid (Below.drew hbw);have HNf:=hid (((((HN8.out.keep (k5 _ (by decide))).keep (k6 _ (by decide))).lower (B':=w.heap.size) (by have:=hb4s;omega))).below (Below.drew (Below.refl _ _)));clear hU5 hU6 ho5 k5 b5 hr5 hr6 k6 b6 a6 s6 ho6 hst6 hbw t0 t1 t2 v0 v1 v2 v3 v4 v5 uf0 uf1 uf2 uf vf j0 j1 j2 j3 j4 j5 q0 q1 q2;go_wp2_with fail
 (try simp only[Exit.inBlock,Exit.then])
 refine bodyPost_ret (v:=.tuple #[.agg #[.slice A6 n6 c6,.slice E6 m6 d6,.slice D6 k6' e6],.agg #[.int .i64 r.code,.int .i64 r.fd,.int .i64 r.num,.bool r.dir,.string r.data,.slice AN nN cN]]) ?_ rfl ?_
 ·rw[z6c rfl];have hl1:=run_loadVar_row (P:=Tryz.prog) U6.drew (W.heap.size+1) _ 26 _ (0,0) _ HO6f.out Tryz.underlying26 rfl (by kernel_rfl);have hl2:=run_loadVar_row (P:=Tryz.prog) U6.drew (W.heap.size+1+1) _ 32 _ (0,0) _ HR6f.out Tryz.underlying32 rfl (by kernel_rfl);simp[asAddr,hl1,hl2,Result.andThen]
 ·exact⟨_,_,rfl,HSTf.out,⟨AN,nN,cN,rfl,hokN,HNf.out⟩,HBF.out⟩
end Go.Proofs.YtmmpkfcdfcldlaaGreat
namespace Go.Proofs.YtmmpkfcdfcldlaaGreat
open Lib (hid)
open Go.RowKit
theorem zlq (v:Value) (s:St) (c:Ca) (w:World) (h:StAt none w v s) (hp:c.path.size≤140737488355328) (hp2:c.path2.size≤140737488355328):
  Calls Tryz.prog 8 #[v,caV c] w fun e w'=>∃v' rv,e=.returned (.tuple #[v',rv])∧StAt (some w.heap.size) w' v' (doV s c).1∧ResIs (some w.heap.size) w' rv (doV s c).2∧Below w.heap.size w w':=
 zlp v s c w h fun hm h0 h1 _ _=>zm5 hm h0 h1 hp hp2
theorem zio (N:Nat) (h:N≤65536) (w:World):∃W,(Instr.makeSlice 24 (.int .i64 (N:Int)) (.int .i64 (N:Int))).run Tryz.prog w=.ok (.slice (some ⟨w.heap.size,0,.none⟩) N N) W∧IntsAt (some w.heap.size) W (some ⟨w.heap.size,0,.none⟩) N (List.replicate N 0)∧Below w.heap.size w W:=by
 refine⟨_,run_make_row' (P:=Tryz.prog) 24 3 (.int .i64 0) 8 Tryz.underlying24 z3i rfl .i64 .i64 N (by omega) (by omega) w,⟨by simp,fun hn=>⟨w.heap.size,0,rfl,by simp,fun B hB=>?_,fun j x hx=>?_⟩⟩,(Below.refl _ _).alloc (Nat.le_refl _) _⟩
 ·cases hB;exact⟨Nat.le_refl _,_,heap_alloc_new w _⟩
 ·have hj:j<N:=by have:=(List.getElem?_eq_some_iff.1 hx).1;simpa using this
  have h0:x=0:=by rw[List.getElem?_replicate,if_pos hj] at hx;exact(Option.some.inj hx).symm
  subst h0;rw[Nat.zero_add];refine(cell_of_row _ w.heap.size _ _ _ (0,0) (heap_alloc_new w _)).trans ?_;simp[madeCells,hj,Nat.mod_one]
set_option maxRecDepth 100000 in
set_option maxHeartbeats 4000000 in
theorem zk6 (n:Nat) (h1:1≤n) (h8:n≤8) (w:World):
  Calls Tryz.prog 16 #[.int .i64 (n:Int)] w fun e w'=>∃v,e=.returned (.tuple #[v,.int .i64 0])∧StAt (some w.heap.size) w' v (newV n)∧Below w.heap.size w w':=by
 have q1:decide ((n:Int)<1)=false:=by rw[decide_eq_false_iff_not];omega
 have q2:decide ((8:Int)<(n:Int))=false:=by rw[decide_eq_false_iff_not];omega
 obtain⟨W1,hW1⟩:∃W1,w.alloc (.cells #[.slice none 0 0,.slice none 0 0,.slice none 0 0] 26)=W1:=⟨_,rfl⟩;have o1:OutAt W1 w.heap.size (.slice none 0 0) (.slice none 0 0) (.slice none 0 0):=by rw[←hW1];exact heap_alloc_new w _
 have l1:Below w.heap.size w W1:=by rw[←hW1];exact(Below.refl _ _).alloc (Nat.le_refl _) _
 have z1:W1.heap.size=w.heap.size+1:=by rw[←hW1];simp
 obtain⟨W2,hW2⟩:∃W2,W1.alloc (.cells #[.int .i64 1,.bool true,.slice none 0 0,.string ⟨#[]⟩] 59)=W2:=⟨_,rfl⟩;have i2:W2.heap[W1.heap.size]? =some (.cells #[.int .i64 1,.bool true,.slice none 0 0,.string ⟨#[]⟩] 59 (0,0)):=by rw[←hW2];exact heap_alloc_new W1 _
 have l2:Below W1.heap.size W1 W2:=by rw[←hW2];exact(Below.refl _ _).alloc (Nat.le_refl _) _
 have z2:W2.heap.size=W1.heap.size+1:=by rw[←hW2];simp
 obtain⟨W3,hmk,hints,l3⟩:=zio n (by omega) W2;have i3:=(l3.block W1.heap.size (by omega)).trans i2;have o3:OutAt W3 w.heap.size (.slice none 0 0) (.slice none 0 0) (.slice none 0 0):=((l2.trans (l3.mono (by omega))).block w.heap.size (by omega)).trans o1;have hb3:Below w.heap.size w W3:=Cv.next l1 (Cv.next l2 l3);obtain⟨g0,g1,g2,gf⟩:=o3.get;have gf0:=gf 0;have gf1:=gf 1;have gf2:=gf 2;obtain⟨W4,hW4,o4,k4,b4⟩:=o3.three (.slice (some ⟨W1.heap.size,0,none⟩) 1 1) (.slice none 0 0) (.slice (some ⟨W2.heap.size,0,none⟩) n n);have i4:=((k4 59 (by decide)).same _ _ i3).trans i3
 have hi:InosAt (some w.heap.size) W4 (some ⟨W1.heap.size,0,none⟩) 1 [⟨1,true,[],txt []⟩]:=by
  refine⟨rfl,fun _=>⟨W1.heap.size,0,rfl,(Array.getElem?_eq_some_iff.1 i4).1,fun B hB=>?_,fun j x hx=>?_⟩⟩
  ·cases hB;exact⟨by omega,_,i4⟩
  ·have hj:j=0:=by have:=(List.getElem?_eq_some_iff.1 hx).1;simpa using this
   subst hj;have ex:(⟨1,true,[],txt []⟩:Ino)=x:=by simpa using hx
   subst ex;refine⟨?_,?_,⟨none,0,0,?_,⟨Nat.le_refl _,fun _=>rfl⟩,rfl,fun h=>absurd h (by omega)⟩,?_⟩<;>(rw[cell_of_row W4 W1.heap.size _ _ _ (0,0) i4];rfl)
 have hd:DescsAt (some w.heap.size) W4 none 0 []:=⟨rfl,fun h=>absurd h (by omega)⟩;have hm:IntsAt (some w.heap.size) W4 (some ⟨W2.heap.size,0,none⟩) n (List.replicate n 0):=(hints.keep (k4 _ (by decide))).mono (by omega)
 have hst:StAt (some w.heap.size) W4 (.agg #[.slice (some ⟨W1.heap.size,0,none⟩) 1 1,.slice none 0 0,.slice (some ⟨W2.heap.size,0,none⟩) n n]) (newV n):=by
  refine⟨⟨_,1,1,_,0,0,_,n,n,rfl,hi,hd,hm,⟨Nat.le_refl _,fun h=>by cases h⟩,⟨Nat.le_refl _,fun _=>rfl⟩,⟨Nat.le_refl _,fun h=>by cases h⟩⟩,⟨?_,?_,?_,?_⟩⟩
  ·show 1+bulkE [⟨1,true,[],txt []⟩]+0+(List.replicate n (0:Int)).length≤_;rw[List.length_replicate]
   show 1+0+0+n≤_;omega
  ·intro x hx;have ex:x=⟨1,true,[],txt []⟩:=by simpa [newV] using hx
   subst ex;exact⟨Nat.zero_le _,fun e he=>by cases he⟩
  ·intro x hx;have ex:x=⟨1,true,[],txt []⟩:=by simpa [newV] using hx
   subst ex;exact⟨by show(-9223372036854775808:Int)≤1;omega,by show(1:Int)≤9223372036854775807;omega,fun e he=>by cases he⟩
  ·intro x hx
   have ex:x=0:=by
    have:=List.mem_replicate.1 (show x∈List.replicate n (0:Int) from hx);exact this.2
   subst ex;omega
 have HST:=hid hst;have HB4:=hid (b4 _ _ (Nat.le_refl _) hb3);have HO4:=hid o4;obtain⟨t0,t1,t2,_⟩:=o4.get;clear hst hi hd hm i4 i3 i2 o1 o3 o4 k4 b4 l1 l2 l3 hb3 hints z1 z2 gf
 go_enter Tryz.func16,Tryz.ntmps16
 go_wp2_with fail
 (try simp only[Exit.inBlock,Exit.then])
 refine bodyPost_ret (v:=.tuple #[.agg #[.slice (some ⟨W1.heap.size,0,none⟩) 1 1,.slice none 0 0,.slice (some ⟨W2.heap.size,0,none⟩) n n],.int .i64 0]) ?_ rfl ⟨_,rfl,HST.out,HB4.out⟩;rw[results_cell_tmp rfl];have hload:=run_loadVar_row (P:=Tryz.prog) W4 w.heap.size _ 26 _ (0,0) _ HO4.out Tryz.underlying26 rfl (by kernel_rfl);simp[asAddr,hload,Result.andThen]
set_option maxRecDepth 100000 in
theorem zk7 (n:Int) (h:n<1∨8<n) (w:World):
  Calls Tryz.prog 16 #[.int .i64 n] w fun e w'=>e=.returned (.tuple #[.agg #[.slice none 0 0,.slice none 0 0,.slice none 0 0],.int .i64 1300])∧Below w.heap.size w w':=by
 obtain⟨W1,hW1⟩:∃W1,w.alloc (.cells #[.slice none 0 0,.slice none 0 0,.slice none 0 0] 26)=W1:=⟨_,rfl⟩;have o1:OutAt W1 w.heap.size (.slice none 0 0) (.slice none 0 0) (.slice none 0 0):=by rw[←hW1];exact heap_alloc_new w _
 have l1:Below w.heap.size w W1:=by rw[←hW1];exact(Below.refl _ _).alloc (Nat.le_refl _) _
 obtain⟨g0,g1,g2,gf⟩:=o1.get;have gf0:=gf 0;have gf1:=gf 1;have gf2:=gf 2;obtain⟨W4,hW4,o4,k4,b4⟩:=o1.three (.slice none 0 0) (.slice none 0 0) (.slice none 0 0);have HB4:=hid (b4 _ _ (Nat.le_refl _) l1);have HO4:=hid o4;clear l1 o1 o4 k4 b4 gf
 by_cases h1:n<1
 ·have q1:decide (n<1)=true:=decide_eq_true h1;clear h h1
  go_enter Tryz.func16,Tryz.ntmps16
  go_wp2_with fail
  (try simp only[Exit.inBlock,Exit.then])
  refine bodyPost_ret (v:=.tuple #[.agg #[.slice none 0 0,.slice none 0 0,.slice none 0 0],.int .i64 1300]) ?_ rfl ⟨rfl,HB4.out⟩;rw[results_cell_tmp rfl];have hload:=run_loadVar_row (P:=Tryz.prog) W4 w.heap.size _ 26 _ (0,0) _ HO4.out Tryz.underlying26 rfl (by kernel_rfl);simp[asAddr,hload,Result.andThen]
 ·have q1:decide (n<1)=false:=decide_eq_false h1;have q2:decide (8<n)=true:=decide_eq_true (h.resolve_left h1);clear h h1
  go_enter Tryz.func16,Tryz.ntmps16
  go_wp2_with fail
  (try simp only[Exit.inBlock,Exit.then])
  refine bodyPost_ret (v:=.tuple #[.agg #[.slice none 0 0,.slice none 0 0,.slice none 0 0],.int .i64 1300]) ?_ rfl ⟨rfl,HB4.out⟩;rw[results_cell_tmp rfl];have hload:=run_loadVar_row (P:=Tryz.prog) W4 w.heap.size _ 26 _ (0,0) _ HO4.out Tryz.underlying26 rfl (by kernel_rfl);simp[asAddr,hload,Result.andThen]
deriving instance DecidableEq for Re
deriving instance DecidableEq for Ca
theorem doC (v:Value) (s:St) (c:Ca) (w:World) (h:StAt none w v s) (T:St) (code fd num:Int) (dir:Bool) (data:ByteArray) (names:List ByteArray) (hd:doV s c=(T,⟨code,fd,num,dir,data,names⟩)) (hp1:c.path.size≤140737488355328) (hp2:c.path2.size≤140737488355328) (hds:c.data.size≤140737488355328):
  Calls Tryz.prog 7 #[v,caV c] w fun e w'=>∃A n c1 E m d D k e1 F f f',e=.returned (.tuple #[.agg #[.slice A n c1,.slice E m d,.slice D k e1],.agg #[.int .i64 code,.int .i64 fd,.int .i64 num,.bool dir,.string data,.slice F f f']])∧
   StAt none w' (.agg #[.slice A n c1,.slice E m d,.slice D k e1]) T∧DescsAt none w' E m T.opn∧(m=T.opn.length∧n=T.inos.length)∧NmsAt none w' F f names∧SlOk F f f'∧Below w.heap.size w w':=by
 refine(ze4 v s c w h hp1 hp2 hds).mono ?_;rintro e w' ⟨v',rv,rfl,hs,⟨F,f,f',rfl,hok,hn⟩,hb⟩;rw[hd] at hs hn;rw[hd];obtain⟨A,n,c1,E,m,d,D,k,e1,rfl,hI,hD,_⟩:=hs.weak.at_;exact⟨A,n,c1,E,m,d,D,k,e1,F,f,f',rfl,hs.weak,hD,⟨hD.1.symm,hI.1.symm⟩,hn.weak,hok,hb⟩
theorem z9j (w:World) (a b c:Value) (code fd num:Int) (dir:Bool) (data:ByteArray) (F:Option Addr) (f f':Nat):∃V1 V,w.alloc (.cells #[a,b,c] 26)=V1∧V1.alloc (.cells #[.int .i64 code,.int .i64 fd,.int .i64 num,.bool dir,.string data,.slice F f f'] 32)=V∧V1.heap.size=w.heap.size+1∧V.heap.size=w.heap.size+2∧
  OutAt V w.heap.size a b c∧ResAt V (w.heap.size+1) (.int .i64 code) (.int .i64 fd) (.int .i64 num) (.bool dir) (.string data) (.slice F f f')∧Below w.heap.size w V:=by
 obtain⟨V1,hV1⟩:∃V1,w.alloc (.cells #[a,b,c] 26)=V1:=⟨_,rfl⟩;have l1:Below w.heap.size w V1:=by rw[←hV1];exact(Below.refl _ _).alloc (Nat.le_refl _) _
 have o1:OutAt V1 w.heap.size a b c:=by rw[←hV1];exact heap_alloc_new w _
 have y1:V1.heap.size=w.heap.size+1:=by rw[←hV1];simp
 obtain⟨V2,hV2⟩:∃V2,V1.alloc (.cells #[.int .i64 code,.int .i64 fd,.int .i64 num,.bool dir,.string data,.slice F f f'] 32)=V2:=⟨_,rfl⟩;have l2:Below V1.heap.size V1 V2:=by rw[←hV2];exact(Below.refl _ _).alloc (Nat.le_refl _) _
 have r2:ResAt V2 (w.heap.size+1) (.int .i64 code) (.int .i64 fd) (.int .i64 num) (.bool dir) (.string data) (.slice F f f'):=by rw[←y1,←hV2];exact heap_alloc_new V1 _
 have o2:OutAt V2 w.heap.size a b c:=(l2.block _ (by omega)).trans o1;exact⟨V1,V2,hV1,hV2,y1,by rw[←hV2];simp;omega,o2,r2,Cv.next l1 l2⟩
theorem zip (w:World) (a b c:Value):∃V,w.alloc (.cells #[a,b,c] 26)=V∧V.heap.size=w.heap.size+1∧OutAt V w.heap.size a b c∧Below w.heap.size w V:=
 ⟨_,rfl,by simp,heap_alloc_new w _,(Below.refl _ _).alloc (Nat.le_refl _) _⟩
theorem OutAt.mv {w w':World} {p:Nat} {a b c:Value} (h:OutAt w p a b c) (hb:Below w.heap.size w w'):OutAt w' p a b c:=(hb.block p (Array.getElem?_eq_some_iff.1 h).1).trans h
theorem ResAt.mv {w w':World} {p:Nat} {a b c d e f:Value} (h:ResAt w p a b c d e f) (hb:Below w.heap.size w w'):ResAt w' p a b c d e f:=(hb.block p (Array.getElem?_eq_some_iff.1 h).1).trans h
theorem zk8 (lo:Option Nat) (w:World) (code fd num:Int) (dir:Bool) (data:ByteArray):ResIs lo w (.agg #[.int .i64 code,.int .i64 fd,.int .i64 num,.bool dir,.string data,.slice none 0 0]) ⟨code,fd,num,dir,data,[]⟩:=
 ⟨none,0,0,rfl,⟨Nat.le_refl _,fun _=>rfl⟩,rfl,fun h=>absurd h (by omega)⟩
theorem zm4 (n:Int) (w:World):Calls Tryz.prog 18 #[.int .i64 n] w fun e w'=>e=.returned (.int .i64 n)∧w=w':=by
 go_enter Tryz.func18,Tryz.ntmps18
 go_wp2_with fail;go_ret;exact⟨rfl,rfl⟩
def pA:ByteArray:=⟨#[47,97]⟩
def cA:Ca:=⟨0,0,0,0,0,⟨#[47,97]⟩,⟨#[]⟩,⟨#[]⟩⟩
def cO:Ca:=⟨2,1,0,0,0,⟨#[47,97]⟩,⟨#[]⟩,⟨#[]⟩⟩
def cW:Ca:=⟨5,1,0,0,0,⟨#[]⟩,⟨#[]⟩,⟨#[104,105]⟩⟩
def cP:Ca:=⟨2,0,0,0,0,⟨#[47,97]⟩,⟨#[]⟩,⟨#[]⟩⟩
def stT:St:=⟨[⟨1,true,[⟨⟨#[97]⟩,2⟩],⟨#[]⟩⟩,⟨2,false,[],⟨#[]⟩⟩],[],[1,0]⟩
def stU:St:=⟨[⟨1,true,[⟨⟨#[97]⟩,2⟩],⟨#[]⟩⟩,⟨2,false,[],⟨#[]⟩⟩],[⟨1,0,2⟩],[1,0]⟩
def stW:St:=⟨[⟨1,true,[⟨⟨#[97]⟩,2⟩],⟨#[]⟩⟩,⟨2,false,[],⟨#[104,105]⟩⟩],[⟨1,0,2⟩],[1,0]⟩
theorem zlv:doV (newV 2) cA=(stT,⟨0,0,0,false,⟨#[]⟩,[]⟩):=by decide+kernel
theorem zlw:doV stT cO=(stU,⟨0,0,0,false,⟨#[]⟩,[]⟩):=by decide+kernel
theorem zlx:doV stU cW=(stW,⟨0,0,2,false,⟨#[]⟩,[]⟩):=by decide+kernel
theorem zly:doV stT cA=(stT,⟨2,0,0,false,⟨#[]⟩,[]⟩):=by decide+kernel
theorem zlz:mayV stT=true:=by decide+kernel
theorem zm0:linkI stT.inos 2=1:=by decide+kernel
theorem zm1:mfindV stT pA=(2,0):=by decide+kernel
end Go.Proofs.YtmmpkfcdfcldlaaGreat
namespace Go.Proofs.YtmmpkfcdfcldlaaGreat
open Lib (hid)
theorem zcw {made:List Int} {n:Int} (h:givenV made n=true):2≤n:=by
 unfold givenV at h
 by_cases h2:n<2
 ·rw[if_pos h2] at h;cases h
 ·omega
theorem ze6 (ds:List Ds) (core:Int) (h:freeFd ds core≠4):fdV ds core (freeFd ds core:Int)=0∧freeFd ds core<4:=by
 unfold freeFd at h ⊢
 by_cases h0:fdV ds core 0=0
 ·rw[if_pos h0];exact⟨h0,by omega⟩
 ·rw[if_neg h0] at h ⊢
  by_cases h1:fdV ds core 1=0
  ·rw[if_pos h1];exact⟨h1,by omega⟩
  ·rw[if_neg h1] at h ⊢
   by_cases h2:fdV ds core 2=0
   ·rw[if_pos h2];exact⟨h2,by omega⟩
   ·rw[if_neg h2] at h ⊢
    by_cases h3:fdV ds core 3=0
    ·rw[if_pos h3];exact⟨h3,by omega⟩
    ·rw[if_neg h3] at h;exact absurd rfl h
def wantV (c:Ca) (r:Re):Int:=if c.kind=2∧r.code=0 then r.fd else -1
def allowsV (s:St) (c:Ca) (r:Re):St×Bool:=
 if c.kind=2∧r.code=0∧r.fd<0 then(s,false)
 else if(doF s c (wantV c r)).2.2=false∨sameR (doF s c (wantV c r)).2.1 r=false then(s,false)
 else((doF s c (wantV c r)).1,true)
def refuse (s:St) (c:Ca) (r:Re):Bool:=(fdP s.opn c.core r.fd).isSome||decide (r.fd<0)||decide (4≤r.fd)||decide (r.code≠0)||decide (r.num≠0)||r.dir||decide (r.data≠⟨#[]⟩)||decide (0<r.names.length)
theorem zfb {s:St} (h:Good s) (core fd:Int):fdP s.opn core fd=none↔fdV s.opn core fd=0:=by
 constructor
 ·intro h1;exact(zbe _ _ _ h1).1
 ·intro h1;cases hp:fdP s.opn core fd with
  | none=>rfl
  | some k=>
   exfalso;obtain⟨d,hd,hc,hf,_⟩:=z7v _ _ _ _ hp;refine zbi s.opn core fd (fun x hx=>?_) ⟨d,List.mem_of_getElem? hd,hc,hf⟩ h1;obtain⟨_,_,_,_,i,w,_,hw,hwn,_⟩:=h.opens x hx
   rcases Nat.eq_zero_or_pos i with rfl|hi
   ·obtain⟨y,hy,hyn,_⟩:=h.root;rw[hw] at hy;cases hy;omega
   ·have:=zcw (h.given i w hi hw);omega
theorem zcx {s:St} {c:Ca} {r:Re} (hk:c.kind=2) (h0:(doV s c).2.code=0) (hne:r.fd≠(doV s c).2.fd):
  Good s∧0≤c.core∧c.core<(s.made.length:Int)∧∃num,(doV s c)=({ s with opn:=putD s.opn ⟨c.core,(doV s c).2.fd,num⟩ },{ fd:=(doV s c).2.fd })∧fdV s.opn c.core (doV s c).2.fd=0∧0≤(doV s c).2.fd∧(doV s c).2.fd<4∧
   allowsV s c r=if refuse s c r=true then(s,false) else({ s with opn:=putD s.opn ⟨c.core,r.fd,num⟩ },true):=by
 by_cases hm:mayV s=false∨c.core<0∨(s.made.length:Int)≤c.core∨c.kind<0∨16<c.kind
 ·have hv:doV s c=(s,{ code:=9 }):=by unfold doV doF;rw[if_pos hm]
  rw[hv] at h0;exact absurd (show(9:Int)=0 from h0) (by decide)
 have hd:∀want,doF s c want=openedV s c want:=fun want=>by
  unfold doF;rw[if_neg hm,if_neg (by omega),if_pos hk]
 have hv:doV s c=((openedV s c (-1)).1,(openedV s c (-1)).2.1):=by unfold doV;rw[hd]
 have hgood:Good s:=by
  rw[←z2b];cases hmv:mayV s
  ·exact absurd (.inl hmv) hm
  ·rfl
 rw[hv] at h0 hne ⊢
 by_cases hf1:(findV s.inos c.path).2≠0
 ·unfold openedV at h0;rw[if_pos hf1] at h0;exact absurd h0 hf1
 by_cases hf2:dirAt s.inos (findV s.inos c.path).1=true
 ·unfold openedV at h0;rw[if_neg hf1,if_pos hf2] at h0;exact absurd (show(8:Int)=0 from h0) (by decide)
 by_cases hf3:freeFd s.opn c.core=4
 ·unfold openedV at h0;rw[if_neg hf1,if_neg hf2,if_pos hf3] at h0;exact absurd (show(10:Int)=0 from h0) (by decide)
 obtain⟨hfree,hlt⟩:=ze6 _ _ hf3
 have ho1:openedV s c (-1)=({ s with opn:=putD s.opn ⟨c.core,freeFd s.opn c.core,(findV s.inos c.path).1⟩ },{ fd:=freeFd s.opn c.core },true):=by
  unfold openedV;rw[if_neg hf1,if_neg hf2,if_neg hf3,if_neg (by omega)]
 rw[ho1] at hne ⊢;simp only at hne ⊢;refine⟨hgood,by omega,by omega,(findV s.inos c.path).1,rfl,hfree,by omega,by omega,?_⟩
 have hnone:(fdP s.opn c.core r.fd).isSome=true↔fdV s.opn c.core r.fd≠0:=by
  have hfr:=zfb hgood c.core r.fd;cases hq:fdP s.opn c.core r.fd with
  | none=>exact⟨(fun h1=>absurd h1 (by decide)),(fun h1=>absurd (hfr.1 hq) h1)⟩
  | some k=>exact⟨(fun _ h1=>by have h9:=hfr.2 h1;rw[hq] at h9;cases h9),(fun _=>rfl)⟩
 unfold allowsV;rw[hd]
 by_cases hrc:r.code=0
 ·rw [show wantV c r = r.fd by unfold wantV; rw [if_pos ⟨hk, hrc⟩]]
  by_cases hneg:r.fd<0
  ·have hr:refuse s c r=true:=by unfold refuse;simp[hneg]
   rw[if_pos ⟨hk,hrc,hneg⟩,hr]
   rfl
  ·rw [if_neg (by omega)]
   by_cases hbad:4≤r.fd∨fdV s.opn c.core r.fd≠0
   ·have ho2:openedV s c r.fd=(s,{},false):=by
     unfold openedV;rw[if_neg hf1,if_neg hf2,if_neg hf3,if_pos (by omega),if_pos hbad]
    have hr:refuse s c r=true:=by
     unfold refuse
     rcases hbad with h1|h1
     ·simp[h1]
     ·rw[hnone.2 h1];simp
    rw[ho2,hr];simp
   ·have ho2:openedV s c r.fd=({ s with opn:=putD s.opn ⟨c.core,r.fd,(findV s.inos c.path).1⟩ },{ fd:=r.fd },true):=by
     unfold openedV;rw[if_neg hf1,if_neg hf2,if_neg hf3,if_pos (by omega),if_neg hbad]
    rw[ho2]
    have hsome:(fdP s.opn c.core r.fd).isSome=false:=by
     cases hq:(fdP s.opn c.core r.fd).isSome
     ·rfl
     ·exact absurd (.inr (hnone.1 hq)) hbad
    have hs:sameR { fd:=r.fd } r= !refuse s c r:=by
     have h1:decide (r.fd<0)=false:=decide_eq_false hneg;have h2:decide (4≤r.fd)=false:=decide_eq_false (fun h=>hbad (.inl h));have h3:decide (r.code≠0)=false:=decide_eq_false (fun h=>h hrc);unfold refuse;rw[hsome,h1,h2,h3];unfold sameR sameF;simp only[hrc,Bool.false_or]
     have e1:decide ((([]:List ByteArray))=r.names)= !decide (0<r.names.length):=by
      cases r.names<;>simp
     have e2:decide ((0:Int)=r.num)= !decide (r.num≠0):=by
      by_cases h:r.num=0
      ·simp[h]
      ·simp[h];exact fun e=>h e.symm
     have e3:decide (false=r.dir)= !r.dir:=by cases r.dir<;>rfl
     have e4:decide ((⟨#[]⟩:ByteArray)=r.data)= !decide (r.data≠⟨#[]⟩):=by
      by_cases h:r.data=⟨#[]⟩
      ·simp[h]
      ·simp[h];exact fun e=>h e.symm
     rw[e1,e2,e3,e4];cases decide (0<r.names.length)<;>cases decide (r.num≠0)<;>cases r.dir<;>cases decide (r.data≠⟨#[]⟩)<;>simp
    simp only[hs];cases refuse s c r<;>simp
 ·have hr:refuse s c r=true:=by unfold refuse;simp[hrc]
  rw[if_neg (fun h=>hrc h.2.1),show wantV c r=-1 by unfold wantV;rw[if_neg (fun h=>hrc h.2)],ho1,hr]
  have:sameR { fd:=(freeFd s.opn c.core:Int) } r=false:=by
   cases hs:sameR { fd:=(freeFd s.opn c.core:Int) } r
   ·rfl
   ·have:=zk5 hs;exact absurd (by rw[←this]) hrc
  simp[this]
structure Back (ds:List Ds) (core fd:Int) (i:Nat) (at_:Nat):Prop where
 le:at_≤ds.length
 gt:i≤at_
 hi:∀d,ds[at_]? =some d→core<d.core∨(d.core=core∧fd<d.fd)
 lo:∀(k:Nat) (d:Ds),i≤k→k<at_→ds[k]? =some d→¬(core<d.core∨(d.core=core∧fd<d.fd))
theorem Back.start (ds:List Ds) (core fd:Int):Back ds core fd ds.length ds.length:=⟨Nat.le_refl _,Nat.le_refl _,fun d hd=>by simp at hd,fun k d h1 h2=>by omega⟩
theorem Back.step {ds:List Ds} {core fd:Int} {i at_:Nat} (h:Back ds core fd (i+1) at_) {d:Ds} (hd:ds[i]? =some d):
  ((core<d.core∨(d.core=core∧fd<d.fd))→Back ds core fd i i)∧(¬(core<d.core∨(d.core=core∧fd<d.fd))→Back ds core fd i at_):=by
 have hl:=(List.getElem?_eq_some_iff.1 hd).1;refine⟨fun hc=>⟨by omega,Nat.le_refl _,fun e he=>by rw[hd] at he;cases he;exact hc,fun k e h1 h2=>by omega⟩,fun hc=>⟨h.le,by have:=h.gt;omega,h.hi,fun k e h1 h2 he=>?_⟩⟩
 by_cases hk:k=i
 ·subst hk;rw[hd] at he;cases he;exact hc
 ·exact h.lo k e (by omega) h2 he
theorem Back.put {ds:List Ds} {core fd num:Int} {at_:Nat} (h:Back ds core fd 0 at_) (hr:RiseD ds) (hno:∀x∈ds,¬(x.core=core∧x.fd=fd)):putD ds ⟨core,fd,num⟩=ds.take at_++[⟨core,fd,num⟩]++ds.drop at_:=by
 refine zbh _ _ _ h.le (fun k d hk hd=>?_) (fun k d hk hd=>?_)
 ·have h1:=h.lo k d (by omega) hk hd;have h2:=hno d (List.mem_of_getElem? hd);unfold ltD;simp only;omega
 ·have hl:=(List.getElem?_eq_some_iff.1 hd).1;have hat:=List.getElem?_eq_getElem (show at_<ds.length by omega);have h1:=h.hi _ hat
  by_cases e:at_=k
  ·subst e;rw[hd] at hat;cases hat;unfold ltD;simp only;omega
  ·have h2:=hr at_ k _ d (by omega) hat hd
   unfold ltD at h2 ⊢;simp only;omega
end Go.Proofs.YtmmpkfcdfcldlaaGreat
