/- Parts of the proof, side by side: KeptSt, Awake13, ModelAllowsW. -/
import Derived.Test.YtmmpkfcdfcldlaaGreatM46
import Derived.Test.YtmmpkfcdfcldlaaGreatM43
import Derived.Test.YtmmpkfcdfcldlaaGreatM45
import Derived.Test.YtmmpkfcdfcldlaaGreatM44
set_option linter.unusedVariables false
set_option linter.unusedSimpArgs false
namespace Go.Proofs.YtmmpkfcdfcldlaaGreat
open Lib (hid)
open Go.RowKit
theorem Lent.entsAt {lo:Nat} {w:World} {A:Option Addr} {n c:Nat} {es:List En} {ms:List Value} (h:Lent lo w 73 2 A n c (es.flatMap enV) ms):SlOk A n c∧EntsAt (some lo) w A n es:=by
 obtain⟨A',c',hv,hc,hn,hE⟩:=EntsAt.of_row h.row;injection hv with e1 e2 e3
 subst e1 e3;exact⟨⟨hc,fun e=>(hn e).2⟩,hE⟩
theorem Lent.descsAt {lo:Nat} {w:World} {A:Option Addr} {n c:Nat} {es:List Ds} {ms:List Value} (h:Lent lo w 75 3 A n c (es.flatMap dsV) ms):SlOk A n c∧DescsAt (some lo) w A n es:=by
 obtain⟨A',c',hv,hc,hn,hE⟩:=DescsAt.of_row h.row;injection hv with e1 e2 e3
 subst e1 e3;exact⟨⟨hc,fun e=>(hn e).2⟩,hE⟩
theorem Lent.intsAt {lo:Nat} {w:World} {A:Option Addr} {n c:Nat} {es:List Int} {ms:List Value} (h:Lent lo w 3 1 A n c (es.map (Value.int .i64)) ms):SlOk A n c∧IntsAt (some lo) w A n es:=by
 obtain⟨A',c',hv,hc,hn,hE⟩:=IntsAt.of_row h.row;injection hv with e1 e2 e3
 subst e1 e3;exact⟨⟨hc,fun e=>(hn e).2⟩,hE⟩
theorem EntsAt.anyLo {lo:Nat} {w:World} {A:Option Addr} {n:Nat} {es:List En} (h:EntsAt (some lo) w A n es):EntsAt none w A n es:=
 ⟨h.1, fun hn => by
  obtain⟨g,off,hA,hg,hm,hc⟩:=h.2 hn;exact⟨g,off,hA,hg,Mine.any _ _ _,hc⟩⟩
theorem DescsAt.anyLo {lo:Nat} {w:World} {A:Option Addr} {n:Nat} {es:List Ds} (h:DescsAt (some lo) w A n es):DescsAt none w A n es:=
 ⟨h.1, fun hn => by
  obtain⟨g,off,hA,hg,hm,hc⟩:=h.2 hn;exact⟨g,off,hA,hg,Mine.any _ _ _,hc⟩⟩
theorem IntsAt.anyLo {lo:Nat} {w:World} {A:Option Addr} {n:Nat} {es:List Int} (h:IntsAt (some lo) w A n es):IntsAt none w A n es:=
 ⟨h.1, fun hn => by
  obtain⟨g,off,hA,hg,hm,hc⟩:=h.2 hn;exact⟨g,off,hA,hg,Mine.any _ _ _,hc⟩⟩
theorem LentAt.st {lo:Nat} {w:World} {v:Value} {s:St} (h:LentAt lo w v s):StAt (some lo) w v s:=by
 obtain⟨A,n,c,B,m,d,D,k,e,zs,rfl,hr,hz,hd,hdl,hm,hml,hsz⟩:=h
 have hi:InoRow lo w (.slice A n c) n zs:=⟨hr.row,fun z hz=>by
  obtain⟨E,m,c,h1,h2,h3⟩:=hr.ents z hz;exact⟨E,m,c,h1,h3.entsAt.1,h3.entsAt.2⟩⟩
 obtain⟨A',c',hv,hc,hn,hI⟩:=InosAt.of_row hi;injection hv with e1 e2 e3
 subst e1 e3;rw[hz] at hI;exact⟨⟨A,n,c,B,m,d,D,k,e,rfl,hI,hd.descsAt.2,hm.intsAt.2,⟨hc,fun e=>(hn e).2⟩,hd.descsAt.1,hm.intsAt.1⟩,hsz⟩
theorem LentAt.below {lo:Nat} {w w':World} {v:Value} {s:St} (h:LentAt lo w v s) (hb:Below w.heap.size w w'):LentAt lo w' v s:=by
 obtain⟨A,n,c,B,m,d,D,k,e,zs,rfl,hr,hz,hd,hdl,hm,hml,hsz⟩:=h
 exact⟨A,n,c,B,m,d,D,k,e,zs,rfl,⟨z0z hr.row hb,fun z hz=>by
  obtain⟨E,m,c,h1,h2,h3⟩:=hr.ents z hz;exact⟨E,m,c,h1,h2,h3.below hb⟩⟩,hz,hd.below hb,hdl,hm.below hb,hml,hsz⟩
theorem LentRow.get {lo:Nat} {w:World} {A:Option Addr} {n c:Nat} {zs:List (Ino×Value)} (h:LentRow lo w (.slice A n c) n zs) (q:Nat) (hq:q<n):∃g x E m d,A=some ⟨g,0,none⟩∧g<w.heap.size∧(zs.map Prod.fst)[q]? =some x∧
  w.cell? ⟨g,q*4,none⟩=some (.int .i64 x.num)∧w.cell? ⟨g,q*4+1,none⟩=some (.bool x.dir)∧w.cell? ⟨g,q*4+2,none⟩=some (.slice E m d)∧w.cell? ⟨g,q*4+3,none⟩=some (.string x.data)∧x.ents.length=m∧Lent lo w 73 2 E m d (x.ents.flatMap enV) mkE:=by
 obtain⟨A',c',hv,_,_,hg⟩:=z1e h.row (by decide);injection hv with e1 e2 e3
 subst e1 e3;obtain⟨g,hA,hgl,hm,hc⟩:=hg (by omega)
 have hl:zs.length=n:=by
  have h1:=h.row.1;rw[z1c inoV 4 (fun _=>rfl)] at h1;omega
 have hz:=List.getElem?_eq_getElem (show q<zs.length by omega);obtain⟨E,m,d,h1,h2,h3⟩:=h.ents _ (List.getElem_mem (show q<zs.length by omega));have hf:=fun i (hi:i<4)=>z1b inoV 4 (fun _=>rfl) zs q _ hz i hi
 have c0:=(hc (q*4) (by omega)).trans (hf 0 (by decide));have c1:=(hc (q*4+1) (by omega)).trans (hf 1 (by decide));have c2:=(hc (q*4+2) (by omega)).trans (hf 2 (by decide));have c3:=(hc (q*4+3) (by omega)).trans (hf 3 (by decide));refine⟨g,_,E,m,d,hA,hgl,by rw[List.getElem?_map,hz];rfl,c0,c1,?_,c3,h2,h3⟩;rw[c2]
 show some zs[q].2=_;rw[h1]
set_option maxRecDepth 100000 in
set_option maxHeartbeats 8000000 in
theorem zbq (lo:Nat) (v u:Value) (s:St) (w:World) (h:LentAt lo w v s) (h':StAt none w u s):
  Calls Tryz.prog 11 #[v,u] w fun e w'=>e=.returned (.bool true)∧Below w.heap.size w w':=by
 obtain⟨A,n,c,B,m,d,D,k,e,zs,rfl,hr,hz,hd,hdl,hm,hml,hsz⟩:=h;obtain⟨⟨A',n',c',B',m',d',D',k',e',rfl,hI',hD',hM',h5',h6',h7'⟩,_⟩:=h'
 have hzl:zs.length=n:=by
  have h1:=hr.row.1;rw[z1c inoV 4 (fun _=>rfl)] at h1;omega
 obtain rfl:n'=n:=by rw[←hI'.1,←hz,List.length_map];exact hzl
 obtain rfl:m'=m:=by rw[←hD'.1];exact hdl
 obtain rfl:k'=k:=by rw[←hM'.1];exact hml
 have hbig:=hsz.big;have l1:=hI'.1;have hn2:n'≤1099511627776:=by omega
 have hm2:m'≤1099511627776:=by omega
 have hk2:k'≤1099511627776:=by omega
 obtain⟨W,hW,a0,a1,a2,b0,b1,b2,hal,hsW⟩:=zhc w A n' c B m' d D k' e A' n' c' B' m' d' D' k' e'
 have HR:=hid (show ∀w',Below W.heap.size W w'→LentRow lo w' (.slice A n' c) n' zs from fun w' hb=>⟨z0z (z0z hr.row hal) hb,fun z hz=>by
  obtain⟨E,m,c,h1,h2,h3⟩:=hr.ents z hz;exact⟨E,m,c,h1,h2,(h3.below hal).below hb⟩⟩)
 have HI:=hid (hI'.below hal);have HKD:=hid (zbp lo B B' m' d d' s.opn W (hd.below hal) (hd.below hal).descsAt.2.anyLo (hD'.below hal) hm2);have HKI:=hid (show ∀w',Below W.heap.size W w'→_ from fun w' hb=>zd9 lo D D' k' e e' s.made w' ((hm.below hal).below hb) ((hm.below hal).below hb).intsAt.2.anyLo ((hM'.below hal).below hb) hk2);have HAL:=hid hal;have HZ:=hid hsz;have HZS:=hid hz;have hnn:((n':Int) != (n':Int))=false:=by simp
 clear hr hz hd hdl hm hml hsz hI' hD' hM' h5' h6' h7' hal hbig l1
 go_enter Tryz.func11,Tryz.ntmps11
 go_wp2_with fail;refine HKD.out.mono ?_;rintro e1 w1 ⟨rfl,hb1⟩;have s2:=(hb1.cell (p:=⟨w.heap.size,2,none⟩) (by show w.heap.size<W.heap.size;omega)).trans a2;have t2:=(hb1.cell (p:=⟨w.heap.size+1,2,none⟩) (by show w.heap.size+1<W.heap.size;omega)).trans b2;have HB1:=hid hb1;clear hb1;go_wp2_with fail;refine(HKI.out w1 HB1.out).mono ?_;rintro e2 w2 ⟨rfl,hb2⟩;have hbx:=HB1.out.trans (hb2.mono HB1.out.size);have s0:=(hbx.cell (p:=⟨w.heap.size,0,none⟩) (by show w.heap.size<W.heap.size;omega)).trans a0;have t0:=(hbx.cell (p:=⟨w.heap.size+1,0,none⟩) (by show w.heap.size+1<W.heap.size;omega)).trans b0;have HB2:=hid hbx;clear hb2 hbx s2 t2 a1 a2 b1 b2 HB1 HKD HKI;go_wp2_with fail
 go_loopw [5] (fun i wr=>∃q:Nat,i=.int .i64 q∧q≤n'∧Below W.heap.size W wr) (fun i _=>n'-(intOf i).toNat)
 case atStart=>exact⟨0,rfl,by omega,HB2.out⟩
 case round=>
  clear s0 t0 HB2;obtain⟨q,rfl,hq,hbW⟩:=hrel;have HBW:=hid hbW;have a0':=(hbW.cell (p:=⟨w.heap.size,0,none⟩) (by show w.heap.size<W.heap.size;omega)).trans a0;have b0':=(hbW.cell (p:=⟨w.heap.size+1,0,none⟩) (by show w.heap.size+1<W.heap.size;omega)).trans b0;have HFIN:=hid (show Below w.heap.size w wr from HAL.out.trans (hbW.mono HAL.out.size));clear hbW
  by_cases hlt:q<n'
  ·obtain⟨g,x,E,m2,d2,rfl,hg,hx,c0,c1,c2,c3,hel,hE⟩:=(HR.out wr HBW.out).get q hlt;obtain⟨g',off',x',E',m2',d2',rfl,hg',hx',hd',hmem',c0',c1',c2',hok',hE',c3'⟩:=(HI.out.below HBW.out).get q hlt;rw[HZS.out] at hx;obtain rfl:x=x':=by rw[hx] at hx';exact Option.some.inj hx'
   obtain rfl:m2'=m2:=by rw[←hE'.1];exact hel
   have q1:decide ((q:Int)<(n':Int))=true:=by rw[decide_eq_true_eq];omega
   have q2:(0:Int)≤(q:Int):=by omega
   have q3:(q:Int)<(n':Int):=by omega
   have hle:=z0s hx;have hm22:m2'≤1099511627776:=by have:=HZ.out.big;omega
   have HE:=hid hE;have HE':=hid hE';have hoff:(0:Nat)+q*4=q*4:=Nat.zero_add _;clear hx hx' hd' hmem' hE hE' hle hel hok';go_upto_region 6 with fail
   have hwr:W.heap.size≤wr.heap.size:=HBW.out.size
   go_cut [6,7] (fun p1 p2 wx=>∃b1 b2,p1=.pointer (some ⟨b1,0,.none⟩)∧p2=.pointer (some ⟨b2,0,.none⟩)∧Below wr.heap.size wr wx∧
    wx.cell? ⟨b1,0,none⟩=some (.int .i64 x.num)∧wx.cell? ⟨b1,1,none⟩=some (.bool x.dir)∧wx.cell? ⟨b1,2,none⟩=some (.slice E m2' d2)∧wx.cell? ⟨b1,3,none⟩=some (.string x.data)∧
    wx.cell? ⟨b2,0,none⟩=some (.int .i64 x.num)∧wx.cell? ⟨b2,1,none⟩=some (.bool x.dir)∧wx.cell? ⟨b2,2,none⟩=some (.slice E' m2' d2')∧wx.cell? ⟨b2,3,none⟩=some (.string x.data)∧b1<wx.heap.size∧b2<wx.heap.size)
   case first=>
    have nA:wr.heap.size≠w.heap.size:=by omega
    have nB:wr.heap.size≠w.heap.size+1:=by omega
    have nC:wr.heap.size≠g:=by omega
    have nD:wr.heap.size≠g':=by omega
    have mA:wr.heap.size+1≠w.heap.size:=by omega
    have mB:wr.heap.size+1≠w.heap.size+1:=by omega
    have mC:wr.heap.size+1≠g:=by omega
    have mD:wr.heap.size+1≠g':=by omega
    go_region_held3 (fun w'=>w'.cell? ⟨w.heap.size,0,none⟩=some (.slice (some ⟨g,0,none⟩) n' c)∧w'.cell? ⟨w.heap.size+1,0,none⟩=some (.slice (some ⟨g',off',none⟩) n' c')∧
     w'.cell? ⟨g,q*4,none⟩=some (.int .i64 x.num)∧w'.cell? ⟨g,q*4+1,none⟩=some (.bool x.dir)∧w'.cell? ⟨g,q*4+2,none⟩=some (.slice E m2' d2)∧w'.cell? ⟨g,q*4+3,none⟩=some (.string x.data)∧
     w'.cell? ⟨g',off'+q*4,none⟩=some (.int .i64 x.num)∧w'.cell? ⟨g',off'+q*4+1,none⟩=some (.bool x.dir)∧w'.cell? ⟨g',off'+q*4+2,none⟩=some (.slice E' m2' d2')∧w'.cell? ⟨g',off'+q*4+3,none⟩=some (.string x.data))
     (first|go_keep|trace_state)
     (fail)
    all_goals (
     go_wp2_with fail;go_meet)
    ·obtain⟨U,hU,hbU,hbD,f1,f2,hsU⟩:=zam wr (.int .i64 x.num) (.bool x.dir) (.slice E m2' d2) (.string x.data) (.int .i64 x.num) (.bool x.dir) (.slice E' m2' d2') (.string x.data);rw[hU];exact⟨_,_,rfl,rfl,hbD,f1 0,f1 1,f1 2,f1 3,f2 0,f2 1,f2 2,f2 3,by simp[hsU],by simp[hsU]⟩
    ·obtain⟨U,hU,hbU,hbD,f1,f2,hsU⟩:=zam wr (.int .i64 x.num) (.bool x.dir) (.slice E' m2' d2') (.string x.data) (.int .i64 x.num) (.bool x.dir) (.slice E m2' d2) (.string x.data);rw[hU];exact⟨_,_,rfl,rfl,hbD,f2 0,f2 1,f2 2,f2 3,f1 0,f1 1,f1 2,f1 3,by simp[hsU],by simp[hsU]⟩
   case rest=>
    obtain⟨b1,b2,rfl,rfl,hbx,z0,z1,z2,z3,y0,y1,y2,y3,hl1,hl2⟩:=hcut;have HKE:=hid (zd7 lo E E' m2' d2 d2' x.ents wc (HE.out.below hbx) (HE.out.below hbx).entsAt.2.anyLo (HE'.out.below hbx) hm22);have HBX:=hid (HBW.out.trans (hbx.mono HBW.out.size));have u1:(x.num != x.num)=false:=by simp
    have u2:(x.dir != x.dir)=false:=by cases x.dir<;>rfl
    have u3:(x.data.toList==x.data.toList)=true:=z2g rfl;clear hbx c0 c1 c2 c3 c0' c1' c2' c3' a0' b0';go_wp2_with fail;refine HKE.out.mono ?_;rintro e5 w5 ⟨rfl,hb5⟩;have HB5:=hid (HBX.out.trans (hb5.mono HBX.out.size));clear hb5;go_wp2_with fail;go_roundw
    case rel=>exact⟨q+1,by go_num,by omega,HB5.out⟩
    case measure=>simp[intOf];omega
  ·obtain rfl:q=n':=by omega
   have q1:decide ((q:Int)<(q:Int))=false:=by rw[decide_eq_false_iff_not];omega
   go_wp2_with fail;go_ret;exact⟨rfl,HFIN.out⟩
def stP:St:=⟨[⟨1,true,[⟨⟨#[97]⟩,2⟩],⟨#[]⟩⟩,⟨2,false,[],⟨#[]⟩⟩],[⟨0,3,2⟩],[1,0]⟩
theorem zma:allowsV stT cP ⟨0,3,0,false,⟨#[]⟩,[]⟩=(stP,true):=by decide+kernel
set_option maxRecDepth 100000 in
set_option maxHeartbeats 8000000 in
theorem zj3 (w:World):Calls Tryz.prog 15 #[] w fun e w'=>e=.returned (.bool true)∧Below w.heap.size w w':=by
 go_enter Tryz.func15,Tryz.ntmps15
 go_wp2_with fail;refine(zkh 2 (by omega) (by omega) w).mono ?_;rintro e x0 ⟨v1,rfl,hst1,hb1⟩;obtain⟨A0,n0,c0,E0,m0,d0,D0,k0,e0,rfl,_⟩:=hst1.at_;obtain⟨w0,hV,hz,ho,hb⟩:=zec x0 (.slice A0 n0 c0) (.slice E0 m0 d0) (.slice D0 k0 e0);have HB:=hid (Cv.next hb1 hb);have HS0:=hid (hst1.weak.below hb);have HO0:=hid ho;obtain⟨i0,i1,i2,_⟩:=ho.get;clear hst1 hb1 ho hb;go_wp2_with fail;refine(doC _ (newV 2) cA w0 HS0.out _ _ _ _ _ _ _ zm3 (by decide) (by decide) (by decide)).mono ?_;rintro e1 x1 ⟨A1,n1,c1,E1,m1,d1,D1,k1,g1,F1,f1,p1,rfl,hst,-,-,-,-,hb1⟩;obtain⟨V1,w1,hV1,hV,hz1,hz,ho,hr,hb⟩:=zd0 x1 (.slice A1 n1 c1) (.slice E1 m1 d1) (.slice D1 k1 g1) 0 0 0 false ⟨#[]⟩ F1 f1 p1;have hbb:Below w0.heap.size w0 w1:=Cv.next hb1 hb;have HO0:=hid (HO0.out.mv hbb);have HS0:=hid (HS0.out.below hbb);have HB:=hid (Cv.next HB.out hbb);have HS1:=hid (hst.below hb)
 have HO1:=hid ho;have HR1:=hid hr;have hsz1:=hbb.size;clear hst hb1 ho hr hb hbb;obtain⟨ta0,ta1,ta2,_⟩:=HO1.out.get;go_wp2_with fail;refine(doC _ stT cO w1 HS1.out _ _ _ _ _ _ _ zm4 (by decide) (by decide) (by decide)).mono ?_;rintro e2 x2 ⟨A2,n2,c2,E2,m2,d2,D2,k2,g2,F2,f2,p2,rfl,hst,-,-,-,-,hb1⟩;obtain⟨V1,w2,hV1,hV,hz1,hz,ho,hr,hb⟩:=zd0 x2 (.slice A2 n2 c2) (.slice E2 m2 d2) (.slice D2 k2 g2) 0 0 0 false ⟨#[]⟩ F2 f2 p2;have hbb:Below w1.heap.size w1 w2:=Cv.next hb1 hb;have HO0:=hid (HO0.out.mv hbb);have HO1:=hid (HO1.out.mv hbb);have HR1:=hid (HR1.out.mv hbb);have HS0:=hid (HS0.out.below hbb);have HS1:=hid (HS1.out.below hbb);have HB:=hid (Cv.next HB.out hbb);have HS2:=hid (hst.below hb);have HO2:=hid ho;have HR2:=hid hr;have hsz2:=hbb.size;clear hst hb1 ho hr hb hbb;obtain⟨ub0,ub1,ub2,_⟩:=HO2.out.get;obtain⟨uc0,uc1,uc2,uc3,uc4,uc5,_⟩:=HR2.out.get
 go_wp2_with fail;refine(doC _ stU cW w2 HS2.out _ _ _ _ _ _ _ zm5 (by decide) (by decide) (by decide)).mono ?_;rintro e3 x3 ⟨A3,n3,c3,E3,m3,d3,D3,k3,g3,F3,f3,p3,rfl,hst,-,-,-,-,hb1⟩;obtain⟨V1,w3,hV1,hV,hz1,hz,ho,hr,hb⟩:=zd0 x3 (.slice A3 n3 c3) (.slice E3 m3 d3) (.slice D3 k3 g3) 0 0 2 false ⟨#[]⟩ F3 f3 p3;have hbb:Below w2.heap.size w2 w3:=Cv.next hb1 hb;have HO0:=hid (HO0.out.mv hbb);have HO1:=hid (HO1.out.mv hbb);have HR1:=hid (HR1.out.mv hbb);have HO2:=hid (HO2.out.mv hbb);have HR2:=hid (HR2.out.mv hbb);have HS0:=hid (HS0.out.below hbb);have HS1:=hid (HS1.out.below hbb);have HS2:=hid (HS2.out.below hbb);have HB:=hid (Cv.next HB.out hbb);have HS3:=hid (hst.below hb);have HO3:=hid ho;have HR3:=hid hr;have hsz3:=hbb.size;clear hst hb1 ho hr hb hbb;obtain⟨tb0,tb1,tb2,_⟩:=HO1.out.get;go_wp2_with fail;refine(doC _ stT cA w3 HS1.out _ _ _ _ _ _ _ zm6 (by decide) (by decide) (by decide)).mono ?_
 rintro e4 x4 ⟨A4,n4,c4,E4,m4,d4,D4,k4,g4,F4,f4,p4,rfl,hst,-,-,-,-,hb1⟩;obtain⟨V1,w4,hV1,hV,hz1,hz,ho,hr,hb⟩:=zd0 x4 (.slice A4 n4 c4) (.slice E4 m4 d4) (.slice D4 k4 g4) 2 0 0 false ⟨#[]⟩ F4 f4 p4;have hbb:Below w3.heap.size w3 w4:=Cv.next hb1 hb;have HO0:=hid (HO0.out.mv hbb);have HO1:=hid (HO1.out.mv hbb);have HR1:=hid (HR1.out.mv hbb);have HO2:=hid (HO2.out.mv hbb);have HR2:=hid (HR2.out.mv hbb);have HO3:=hid (HO3.out.mv hbb);have HR3:=hid (HR3.out.mv hbb);have HS0:=hid (HS0.out.below hbb);have HS1:=hid (HS1.out.below hbb);have HS2:=hid (HS2.out.below hbb);have HS3:=hid (HS3.out.below hbb);have HB:=hid (Cv.next HB.out hbb);have HS4:=hid (hst.below hb);have HO4:=hid ho;have HR4:=hid hr;have hsz4:=hbb.size;clear hst hb1 ho hr hb hbb;obtain⟨tc0,tc1,tc2,_⟩:=HO1.out.get;go_wp2_with fail;have hal:=z7m (.agg #[.slice A1 n1 c1,.slice E1 m1 d1,.slice D1 k1 g1]) _ stT cP ⟨0,3,0,false,⟨#[]⟩,[]⟩ w4 HS1.out (zkj none w4 0 3 0 false ⟨#[]⟩) (by decide) (by decide) (by decide) (by decide) rfl (by decide+kernel) (by decide+kernel) (by decide+kernel)
 rw[zma] at hal;refine hal.mono ?_;clear hal;rintro e5 x5 ⟨v5,rfl,hst5,hb1⟩;obtain⟨A5,n5,c5,E5,m5,d5,D5,k5,g5,rfl,_,hD5,_⟩:=hst5.at_;have hm5:(1:Nat)=m5:=hD5.1;subst hm5;obtain⟨w5,hV,hz,ho,hb⟩:=zec x5 (.slice A5 n5 c5) (.slice E5 1 d5) (.slice D5 k5 g5);have hbb:Below w4.heap.size w4 w5:=Cv.next (hb1) hb;have HO0:=hid (HO0.out.mv hbb);have HO1:=hid (HO1.out.mv hbb);have HR1:=hid (HR1.out.mv hbb);have HO2:=hid (HO2.out.mv hbb);have HR2:=hid (HR2.out.mv hbb);have HO3:=hid (HO3.out.mv hbb);have HR3:=hid (HR3.out.mv hbb);have HO4:=hid (HO4.out.mv hbb);have HR4:=hid (HR4.out.mv hbb);have HS0:=hid (HS0.out.below hbb);have HS1:=hid (HS1.out.below hbb);have HS2:=hid (HS2.out.below hbb);have HS3:=hid (HS3.out.below hbb);have HS4:=hid (HS4.out.below hbb);have HB:=hid (Cv.next HB.out hbb);have HO5:=hid ho;clear hst5 hb1 ho hb hbb hD5
 obtain⟨td0,td1,td2,_⟩:=HO1.out.get;go_wp2_with fail;have hfi:=zcv (.agg #[.slice A1 n1 c1,.slice E1 m1 d1,.slice D1 k1 g1]) stT pA w5 HS1.out (by decide);rw[zm9] at hfi;refine hfi.mono ?_;clear hfi;rintro e6 w6 ⟨rfl,hb1⟩;have HO0:=hid (HO0.out.mv hb1);have HO1:=hid (HO1.out.mv hb1);have HR1:=hid (HR1.out.mv hb1);have HO2:=hid (HO2.out.mv hb1);have HR2:=hid (HR2.out.mv hb1);have HO3:=hid (HO3.out.mv hb1);have HR3:=hid (HR3.out.mv hb1);have HO4:=hid (HO4.out.mv hb1);have HR4:=hid (HR4.out.mv hb1);have HO5:=hid (HO5.out.mv hb1);have HS0:=hid (HS0.out.below hb1);have HS1:=hid (HS1.out.below hb1);have HS2:=hid (HS2.out.below hb1);have HS3:=hid (HS3.out.below hb1);have HS4:=hid (HS4.out.below hb1);have HB:=hid (Cv.next HB.out hb1);clear hb1;go_wp2_with fail;refine(zki 0 (by omega) w6).mono ?_;rintro e7 x7 ⟨rfl,hb1⟩;go_wp2_with fail;obtain⟨w7,hV,hz,ho,hb⟩:=zec x7 (.slice none 0 0) (.slice none 0 0) (.slice none 0 0)
 have hbb:Below w6.heap.size w6 w7:=Cv.next hb1 hb;have HO0:=hid (HO0.out.mv hbb);have HO1:=hid (HO1.out.mv hbb);have HR1:=hid (HR1.out.mv hbb);have HO2:=hid (HO2.out.mv hbb);have HR2:=hid (HR2.out.mv hbb);have HO3:=hid (HO3.out.mv hbb);have HR3:=hid (HR3.out.mv hbb);have HO4:=hid (HO4.out.mv hbb);have HR4:=hid (HR4.out.mv hbb);have HO5:=hid (HO5.out.mv hbb);have HS0:=hid (HS0.out.below hbb);have HS1:=hid (HS1.out.below hbb);have HS2:=hid (HS2.out.below hbb);have HS3:=hid (HS3.out.below hbb);have HS4:=hid (HS4.out.below hbb);have HB:=hid (Cv.next HB.out hbb);clear hb1 ho hb hbb;obtain⟨te0,te1,te2,_⟩:=HO1.out.get;obtain⟨ra0,ra1,ra2,ra3,ra4,ra5,_⟩:=HR1.out.get;obtain⟨rb0,rb1,rb2,rb3,rb4,rb5,_⟩:=HR2.out.get;obtain⟨rc0,rc1,rc2,rc3,rc4,rc5,_⟩:=HR3.out.get;obtain⟨rd0,rd1,rd2,rd3,rd4,rd5,_⟩:=HR4.out.get;obtain⟨va0,va1,va2,_⟩:=HO5.out.get
 rw[hV];refine(zmc 0 w7).mono ?_;rintro e8 w8 ⟨rfl,rfl⟩;go_wp2_with fail;have hli:=z4z (.agg #[.slice A1 n1 c1,.slice E1 m1 d1,.slice D1 k1 g1]) stT 2 w7 HS1.out;rw[zm8] at hli;refine hli.mono ?_;clear hli;rintro e9 w9 ⟨rfl,hb1⟩;have HO0:=hid (HO0.out.mv hb1);have HO1:=hid (HO1.out.mv hb1);have HR1:=hid (HR1.out.mv hb1);have HO2:=hid (HO2.out.mv hb1);have HR2:=hid (HR2.out.mv hb1);have HO3:=hid (HO3.out.mv hb1);have HR3:=hid (HR3.out.mv hb1);have HO4:=hid (HO4.out.mv hb1);have HR4:=hid (HR4.out.mv hb1);have HO5:=hid (HO5.out.mv hb1);have HS0:=hid (HS0.out.below hb1);have HS1:=hid (HS1.out.below hb1);have HS2:=hid (HS2.out.below hb1);have HS3:=hid (HS3.out.below hb1);have HS4:=hid (HS4.out.below hb1);have HB:=hid (Cv.next HB.out hb1);clear hb1;obtain⟨tf0,tf1,tf2,_⟩:=HO1.out.get;go_wp2_with fail;refine(zmc 1300 w9).mono ?_;rintro e10 w10 ⟨rfl,rfl⟩
 go_wp2_with fail;have hma:=zb7 (.agg #[.slice A1 n1 c1,.slice E1 m1 d1,.slice D1 k1 g1]) stT w9 HS1.out;rw[zm7] at hma;refine hma.mono ?_;clear hma;rintro e11 w11 ⟨rfl,hb1⟩;have HB:=hid (Cv.next HB.out hb1);clear hb1;go_wp2_with fail;go_ret;exact⟨rfl,HB.out⟩
theorem zmb (w:World) (a b c d e f:Value):∃V,w.alloc (.cells #[a,b,c,d,e,f] 32)=V∧V.heap.size=w.heap.size+1∧ResAt V w.heap.size a b c d e f∧Below w.heap.size w V:=
 ⟨_,rfl,by simp,heap_alloc_new w _,(Below.refl _ _).alloc (Nat.le_refl _) _⟩
set_option maxRecDepth 100000 in
set_option maxHeartbeats 16000000 in
theorem z7p (w:World) (v rv:Value) (s:St) (h:StAt none w v s) (c:Ca) (hp1:c.path.size≤1048576) (hp2:c.path2.size≤1048576) (hds:c.data.size≤1048576) (r:Re) (hr:ResIs none w rv r) (hrn:r.names.length≤1048576) (pth:ByteArray) (hpt:pth.size≤1048576) (num:Int):
  Calls Tryz.prog 5 #[v,caV c,rv,.string pth,.int .i64 num] w fun e w'=>e=.returned (.bool true)∧Below w.heap.size w w':=by
 obtain⟨A0,n0,c0,E0,m0,d0,D0,k0,g0,rfl,_⟩:=h.at_;obtain⟨F,f,f',rfl,hokF,hnF⟩:=hr;obtain⟨V1,hV1,hz1,ho1,hb1⟩:=zec w (.slice A0 n0 c0) (.slice E0 m0 d0) (.slice D0 k0 g0);obtain⟨V2,hV2,hc2,hb2,hz2⟩:=z7a V1 c;rw[hz1] at hc2;obtain⟨V3,hV3,hz3,hr3,hb3⟩:=zmb V2 (.int .i64 r.code) (.int .i64 r.fd) (.int .i64 r.num) (.bool r.dir) (.string r.data) (.slice F f f');rw[show V2.heap.size=w.heap.size+2 by omega] at hr3;have hbb:=Cv.next hb1 (Cv.next hb2 hb3);have HSS:=hid (h.below hbb);have HO0:=hid (ho1.mv (Cv.next hb2 hb3));have HB:=hid hbb;have HCA:Hid (V3.heap[w.heap.size+1]? =some _):=hid (z2j hb3 hc2);have HR0:=hid hr3;have HN0:=hid (hnF.below hbb);have HOK0:=hid hokF;have hl0:w.heap.size+2<V3.heap.size:=by omega
 obtain⟨R,hR⟩:∃R,allowsV s c r=R:=⟨_,rfl⟩;have HR:=hid hR;clear h hb1 hb2 hb3 hbb ho1 hc2 hr3 hR hnF hokF;unfold caV
 go_enter Tryz.func5,Tryz.ntmps5
 obtain⟨i0,i1,i2,_⟩:=HO0.out.get;go_wp2_with fail;clear hz1 hz2 hz3 i0 i1 i2;refine(zbn _ s V3 HSS.out).mono ?_;rintro e1 u1 ⟨vx,rfl,hl1,hb1⟩;obtain⟨A1,n1,c1,E1,m1,d1,D1,k1,g1,rfl,_⟩:=hl1.st.at_;obtain⟨V4,hV4,hz4,ho4,hb4⟩:=zec u1 (.slice A1 n1 c1) (.slice E1 m1 d1) (.slice D1 k1 g1);have hbb:=Cv.next hb1 hb4;replace HO0:=hid (HO0.out.mv hbb);replace HR0:=hid (HR0.out.mv hbb);replace HCA:Hid (_=some _):=hid (z2j hbb HCA.out);replace HSS:=hid (HSS.out.below hbb);replace HN0:=hid (HN0.out.below hbb);replace HB:=hid (Cv.next HB.out hbb);have HL:=hid (hl1.below hb4);have HO1:=hid ho4;have hs1:=hb1.size;have hs4:u1.heap.size<V4.heap.size:=by omega
 have hlw:w.heap.size+2<V4.heap.size:=by omega
 clear hb1 ho4 hb4 hbb hl1;obtain⟨i0,i1,i2,_⟩:=HO1.out.get;obtain⟨r0,r1,r2,r3,r4,r5,_⟩:=HR0.out.get;have y0:V4.cell? ⟨w.heap.size+1,0,none⟩=some (.int .i64 c.kind):=by rw[cell_of_row V4 _ _ _ _ (0,0) HCA.out];rfl
 have y1:V4.cell? ⟨w.heap.size+1,1,none⟩=some (.int .i64 c.core):=by rw[cell_of_row V4 _ _ _ _ (0,0) HCA.out];rfl
 have y2:V4.cell? ⟨w.heap.size+1,2,none⟩=some (.int .i64 c.fd):=by rw[cell_of_row V4 _ _ _ _ (0,0) HCA.out];rfl
 have y3:V4.cell? ⟨w.heap.size+1,3,none⟩=some (.int .i64 c.off):=by rw[cell_of_row V4 _ _ _ _ (0,0) HCA.out];rfl
 have y4:V4.cell? ⟨w.heap.size+1,4,none⟩=some (.int .i64 c.num):=by rw[cell_of_row V4 _ _ _ _ (0,0) HCA.out];rfl
 have y5:V4.cell? ⟨w.heap.size+1,5,none⟩=some (.string c.path):=by rw[cell_of_row V4 _ _ _ _ (0,0) HCA.out];rfl
 have y6:V4.cell? ⟨w.heap.size+1,6,none⟩=some (.string c.path2):=by rw[cell_of_row V4 _ _ _ _ (0,0) HCA.out];rfl
 have y7:V4.cell? ⟨w.heap.size+1,7,none⟩=some (.string c.data):=by rw[cell_of_row V4 _ _ _ _ (0,0) HCA.out];rfl
 go_wp2_with fail;have hdo:=zee (.agg #[.slice A1 n1 c1,.slice E1 m1 d1,.slice D1 k1 g1]) (.agg #[.int .i64 r.code,.int .i64 r.fd,.int .i64 r.num,.bool r.dir,.string r.data,.slice F f f']) s c r V4 HL.out.st.weak ⟨F,f,f',rfl,HOK0.out,HN0.out⟩ (by omega) (by omega) (by omega) (by omega);rw[HR.out] at hdo;refine hdo.mono ?_;clear hdo i0 i1 i2 r0 r1 r2 r3 r4 r5 y0 y1 y2 y3 y4 y5 y6 y7;rintro e2 x2 ⟨v2,rfl,hst,hb1⟩;obtain⟨A2,n2,c2,E2,m2,d2,D2,k2,g2,rfl,_⟩:=hst.at_;obtain⟨w2,hW2,hz2,ho,hb⟩:=zec x2 (.slice A2 n2 c2) (.slice E2 m2 d2) (.slice D2 k2 g2);have hbb:=Cv.next hb1 hb;replace HO0:=hid (HO0.out.mv hbb);replace HR0:=hid (HR0.out.mv hbb);replace HO1:=hid (HO1.out.mv hbb);replace HCA:Hid (_=some _):=hid (z2j hbb HCA.out);replace HSS:=hid (HSS.out.below hbb);replace HN0:=hid (HN0.out.below hbb);replace HL:=hid (HL.out.below hbb);replace HB:=hid (Cv.next HB.out hbb)
 have HS2:=hid (hst.weak.below hb);have HO2:=hid ho;have hx2:=hb1.size;have hlt2:x2.heap.size<w2.heap.size:=by omega
 clear hst ho hb hb1 hbb;obtain⟨i0,i1,i2,_⟩:=HO0.out.get;obtain⟨r0,r1,r2,r3,r4,r5,_⟩:=HR0.out.get;have y0:w2.cell? ⟨w.heap.size+1,0,none⟩=some (.int .i64 c.kind):=by rw[cell_of_row w2 _ _ _ _ (0,0) HCA.out];rfl
 have y1:w2.cell? ⟨w.heap.size+1,1,none⟩=some (.int .i64 c.core):=by rw[cell_of_row w2 _ _ _ _ (0,0) HCA.out];rfl
 have y2:w2.cell? ⟨w.heap.size+1,2,none⟩=some (.int .i64 c.fd):=by rw[cell_of_row w2 _ _ _ _ (0,0) HCA.out];rfl
 have y3:w2.cell? ⟨w.heap.size+1,3,none⟩=some (.int .i64 c.off):=by rw[cell_of_row w2 _ _ _ _ (0,0) HCA.out];rfl
 have y4:w2.cell? ⟨w.heap.size+1,4,none⟩=some (.int .i64 c.num):=by rw[cell_of_row w2 _ _ _ _ (0,0) HCA.out];rfl
 have y5:w2.cell? ⟨w.heap.size+1,5,none⟩=some (.string c.path):=by rw[cell_of_row w2 _ _ _ _ (0,0) HCA.out];rfl
 have y6:w2.cell? ⟨w.heap.size+1,6,none⟩=some (.string c.path2):=by rw[cell_of_row w2 _ _ _ _ (0,0) HCA.out];rfl
 have y7:w2.cell? ⟨w.heap.size+1,7,none⟩=some (.string c.data):=by rw[cell_of_row w2 _ _ _ _ (0,0) HCA.out];rfl
 go_wp2_with fail;have hdo:=zed (.agg #[.slice A0 n0 c0,.slice E0 m0 d0,.slice D0 k0 g0]) (.agg #[.int .i64 r.code,.int .i64 r.fd,.int .i64 r.num,.bool r.dir,.string r.data,.slice F f f']) s c r w2 HSS.out ⟨F,f,f',rfl,HOK0.out,HN0.out⟩ (by omega) (by omega) (by omega);rw[HR.out] at hdo;refine hdo.mono ?_;clear hdo i0 i1 i2 r0 r1 r2 r3 r4 r5 y0 y1 y2 y3 y4 y5 y6 y7;rintro e3 x3 ⟨v3,rfl,hst,hb1⟩;obtain⟨A3,n3,c3,E3,m3,d3,D3,k3,g3,rfl,_⟩:=hst.at_;obtain⟨w3,hW3,hz3,ho,hb⟩:=zec x3 (.slice A3 n3 c3) (.slice E3 m3 d3) (.slice D3 k3 g3);have hbb:=Cv.next hb1 hb;replace HO0:=hid (HO0.out.mv hbb);replace HR0:=hid (HR0.out.mv hbb);replace HO1:=hid (HO1.out.mv hbb);replace HO2:=hid (HO2.out.mv hbb);replace HCA:Hid (_=some _):=hid (z2j hbb HCA.out);replace HSS:=hid (HSS.out.below hbb);replace HN0:=hid (HN0.out.below hbb);replace HL:=hid (HL.out.below hbb)
 replace HS2:=hid (HS2.out.below hbb);replace HB:=hid (Cv.next HB.out hbb);have HS3:=hid (hst.weak.below hb);have HO3:=hid ho;have hx3:=hb1.size;have hlt3:x3.heap.size<w3.heap.size:=by omega
 clear hst ho hb hb1 hbb;have hne:(R.2 != R.2)=false:=by cases R.2<;>rfl
 obtain⟨s0,s1,s2,_⟩:=HO2.out.get;obtain⟨t0,t1,t2,_⟩:=HO3.out.get;go_wp2_with fail;clear s0 s1 s2 t0 t1 t2;have hpl:=zhd (.agg #[.slice A2 n2 c2,.slice E2 m2 d2,.slice D2 k2 g2]) (.agg #[.slice A3 n3 c3,.slice E3 m3 d3,.slice D3 k3 g3]) R.1 R.1 w3 HS2.out HS3.out;rw[z9w rfl] at hpl;refine hpl.mono ?_;rintro e4 w4 ⟨rfl,h4⟩;replace HO0:=hid (HO0.out.mv h4);replace HO1:=hid (HO1.out.mv h4);replace HSS:=hid (HSS.out.below h4);replace HL:=hid (HL.out.below h4);replace HB:=hid (Cv.next HB.out h4);clear h4 hpl HCA HR0 HN0;obtain⟨s0,s1,s2,_⟩:=HO0.out.get;obtain⟨t0,t1,t2,_⟩:=HO1.out.get;go_wp2_with fail;clear s0 s1 s2 t0 t1 t2;refine(zbq _ _ _ s w4 HL.out HSS.out).mono ?_;rintro e5 w5 ⟨rfl,h5⟩;replace HO0:=hid (HO0.out.mv h5);replace HO1:=hid (HO1.out.mv h5);replace HSS:=hid (HSS.out.below h5);replace HL:=hid (HL.out.below h5);replace HB:=hid (Cv.next HB.out h5)
 clear h5;obtain⟨s0,s1,s2,_⟩:=HO0.out.get;go_wp2_with fail;clear s0 s1 s2;obtain⟨MV,hMV⟩:∃MV,mayV s=MV:=⟨_,rfl⟩;have hmay:=zds (.agg #[.slice A0 n0 c0,.slice E0 m0 d0,.slice D0 k0 g0]) s w5 HSS.out;rw[hMV] at hmay;refine hmay.mono ?_;rintro e6 w6 ⟨rfl,h6⟩;replace HO0:=hid (HO0.out.mv h6);replace HO1:=hid (HO1.out.mv h6);replace HSS:=hid (HSS.out.below h6);replace HL:=hid (HL.out.below h6);replace HB:=hid (Cv.next HB.out h6);clear h6 hmay;cases MV
 ·go_wp2_with fail;refine(zj3 _).mono ?_;rintro e7 w7 ⟨rfl,h7⟩;have hfin:=Cv.next HB.out h7;go_wp2_with fail;go_ret;exact⟨rfl,hfin⟩
 have hg:Good s:=(z1o s).1 hMV;have HWH:=hid hg.whole;have hfe:=zeb hg pth;obtain⟨FV,hFV⟩:∃FV,findV s.inos pth=FV:=⟨_,rfl⟩;rw[hFV] at hfe;have HFE:=hid hfe;have HFV:=hid hFV;clear hg hfe hMV hFV;obtain⟨t0,t1,t2,_⟩:=HO1.out.get;go_wp2_with fail;clear t0 t1 t2;have hmf:=zcv (.agg #[.slice A1 n1 c1,.slice E1 m1 d1,.slice D1 k1 g1]) s pth w6 HL.out.st.weak (by omega);rw[HFE.out] at hmf;refine hmf.mono ?_;rintro e8 w8 ⟨rfl,h8⟩;replace HO0:=hid (HO0.out.mv h8);replace HO1:=hid (HO1.out.mv h8);replace HSS:=hid (HSS.out.below h8);replace HL:=hid (HL.out.below h8);replace HB:=hid (Cv.next HB.out h8);clear h8 hmf;obtain⟨s0,s1,s2,_⟩:=HO0.out.get;go_wp2_with fail;clear s0 s1 s2;have hdf:=z4q (.agg #[.slice A0 n0 c0,.slice E0 m0 d0,.slice D0 k0 g0]) s pth w8 HSS.out HWH.out (by omega);rw[HFV.out] at hdf;refine hdf.mono ?_;rintro e9 w9 ⟨rfl,h9⟩
 replace HO0:=hid (HO0.out.mv h9);replace HO1:=hid (HO1.out.mv h9);replace HSS:=hid (HSS.out.below h9);replace HL:=hid (HL.out.below h9);replace HB:=hid (Cv.next HB.out h9);clear h9 hdf;obtain⟨s0,s1,s2,_⟩:=HO0.out.get;obtain⟨t0,t1,t2,_⟩:=HO1.out.get;have hq1:(FV.1==FV.1)=true:=beq_self_eq_true _;have hq2:(FV.2==FV.2)=true:=beq_self_eq_true _;obtain⟨LK,hLK⟩:∃LK:Int,((linkI s.inos num:Nat):Int)=LK:=⟨_,rfl⟩;have hq3:(LK==LK)=true:=beq_self_eq_true _
 have HX1:Hid (∀X:Ext w9,Calls Tryz.prog 23 #[(.agg #[.slice A1 n1 c1,.slice E1 m1 d1,.slice D1 k1 g1]),.int .i64 num] X.w fun e w'=>e=.returned (.int .i64 LK)∧Below X.w.heap.size X.w w'):=hid fun X=>by
  have h:=z4z (.agg #[.slice A1 n1 c1,.slice E1 m1 d1,.slice D1 k1 g1]) s num X.w (HL.out.st.weak.below X.bel);rw[hLK] at h;exact h
 have HX2:Hid (∀X:Ext w9,Calls Tryz.prog 24 #[(.agg #[.slice A0 n0 c0,.slice E0 m0 d0,.slice D0 k0 g0]),.int .i64 num] X.w fun e w'=>e=.returned (.int .i64 LK)∧Below X.w.heap.size X.w w'):=hid fun X=>by
  have h:=z2z (.agg #[.slice A0 n0 c0,.slice E0 m0 d0,.slice D0 k0 g0]) s num X.w (HSS.out.below X.bel);rw[hLK] at h;exact h
 have HX3:Hid (∀X:Ext w9,Calls Tryz.prog 15 #[] X.w fun e w'=>e=.returned (.bool true)∧Below X.w.heap.size X.w w'):=hid fun X=>by
  exact zj3 X.w
 go_wp2_with fail;have hXc:=@Ext.cell w9;refine wre ?_
 repeat (go_big_quiet_step (first|(go_at_call 23;rename_i X;with_reducible exact Calls.ext_of (HX1.out X))|(go_at_call 24;rename_i X;with_reducible exact Calls.ext_of (HX2.out X))|(go_at_call 15;rename_i X;with_reducible exact Calls.ext_of (HX3.out X))))
 refine wpQuiet_nil ?_;rintro z ⟨X,rfl⟩;have hfin:=Cv.next HB.out X.bel;clear hXc HX1 HX2 HX3 s0 s1 s2 t0 t1 t2;go_wp2_with fail;go_ret;exact⟨rfl,hfin⟩
end Go.Proofs.YtmmpkfcdfcldlaaGreat
