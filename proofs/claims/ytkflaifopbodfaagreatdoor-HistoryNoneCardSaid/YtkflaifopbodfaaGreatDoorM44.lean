/- Parts of the proof, side by side: HistRun, HistAsk, HistLegal, FsNew. -/
import Derived.Test.YtkflaifopbodfaaGreatDoorM41
import Derived.Test.YtkflaifopbodfaaGreatDoorM43
import Derived.Test.YtkflaifopbodfaaGreatDoorM37
import Derived.Test.YtkflaifopbodfaaGreatDoorM13
import Derived.Carry
import Derived.Test.YtkflaifopbodfaaGreatDoorM06
import Derived.Test.YtkflaifopbodfaaGreatDoorM02
import Derived.Laws.ResultCell
set_option linter.unusedVariables false
set_option linter.unusedSimpArgs false
namespace Go.Proofs.YtkflaifopbodfaaGreatDoor
open Lib (hid)
open Go.RowKit Go.Maps
def capM:Nat→Nat
 | 0=>0
 | f+1=>capN f
theorem zhp (f:Nat):capN f=1+10*capM f:=by cases f<;>rfl
theorem zlf {d q:Nat} {s:St} {g:St→Nat→Bool} {ops:List Op} {o:Op} (h:ops[q]? =some o):anyL ops s d g (ops.drop q) q=((!d.testBit q&&!aheadL d o.beg ops 0&&(nextV s o).2&&g (nextV s o).1 (d|||2^q))||anyL ops s d g (ops.drop (q+1)) (q+1)):=by
 rw[List.drop_eq_getElem_cons (List.getElem?_eq_some_iff.1 h).1,anyL,(List.getElem?_eq_some_iff.1 h).2]
theorem zpc (d q:Nat) (hd:d<1024) (hq:q<10):bits .or .i64 (d:Int) (IntKind.i64.wrap (2^q))=((d|||2^q:Nat):Int):=by
 have hp:2^q<2^10:=Nat.pow_lt_pow_right (by decide) hq;have hor:d|||2^q<2^10:=Nat.or_lt_two_pow hd hp;rw[show(2:Int)^q=((2^q:Nat):Int) by rw[Int.natCast_pow];rfl];generalize 2^q=x at hp hor ⊢;rw[IntWalk.i64_in _ (by omega)]
 show IntKind.i64.wrap ((BitVec.ofInt 64 (d:Int)|||BitVec.ofInt 64 (x:Int)).toNat:Int)=_
 have h1:(BitVec.ofInt 64 (d:Int)|||BitVec.ofInt 64 (x:Int)).toNat=d|||x:=by
  rw[BitVec.toNat_or,BitVec.ofInt_natCast,BitVec.ofInt_natCast,BitVec.toNat_ofNat,BitVec.toNat_ofNat,Nat.mod_eq_of_lt (by omega),Nat.mod_eq_of_lt (by omega)]
 rw[h1,IntWalk.i64_in _ (by omega)]
theorem zpd {wr w5:World} {a b c v:Value} {s:St} {B:Nat} (h:StAt (some B) w5 v s) (hb:Below wr.heap.size wr w5):
  OutAt (w5.alloc (.cells #[a,b,c] 27)) w5.heap.size a b c∧StAt (some B) (w5.alloc (.cells #[a,b,c] 27)) v s∧Below wr.heap.size wr (w5.alloc (.cells #[a,b,c] 27))∧wr.heap.size≤w5.heap.size:=
 ⟨heap_alloc_new w5 _,h.alloc _,hb.alloc hb.size _,hb.size⟩
theorem zpe {wr w5:World} {a b c v:Value} {s:St} {B:Nat} (h:StAt (some B) w5 v s) (hb:Below wr.heap.size wr w5) (h0:w5.heap[wr.heap.size]? =some (.cells #[.slice none 0 0,.slice none 0 0,.slice none 0 0] 27)):
  OutAt (((w5.setCell ⟨wr.heap.size,0,none⟩ a).setCell ⟨wr.heap.size,1,none⟩ b).setCell ⟨wr.heap.size,2,none⟩ c) wr.heap.size a b c∧StAt (some B) (((w5.setCell ⟨wr.heap.size,0,none⟩ a).setCell ⟨wr.heap.size,1,none⟩ b).setCell ⟨wr.heap.size,2,none⟩ c) v s∧Below wr.heap.size wr (((w5.setCell ⟨wr.heap.size,0,none⟩ a).setCell ⟨wr.heap.size,1,none⟩ b).setCell ⟨wr.heap.size,2,none⟩ c)∧wr.heap.size≤wr.heap.size:=
 ⟨z3c h0 _ _ _,h.set3 h0 _ _ _,z2i hb (Nat.le_refl _) _ _ _,Nat.le_refl _⟩
def RunOk (f:Nat):Prop:=∀(p fm:Nat) (B:Option Addr) (n cap:Nat) (lb:ByteArray) (d m:Nat) (v:Value) (s:St) (ops:List Op) (w:World),leftN n d=f→SeAt w p B n cap fm lb→OpsAt w B n ops→StAt none w v s→mayV s=true→Tab w→n≤10→d<2^n→VainAt w fm m ops lb.data.toList→m+capN f≤100000000000→
 Calls Tryz.prog 16 #[.pointer (some ⟨p,0,none⟩),v,.int .i64 d] w fun e w'=>e=.returned (.bool (rowD ops lb.data.toList s d))∧VainAt w' fm (m+capN f) ops lb.data.toList∧Past w w'∧Below fm w w'
set_option maxRecDepth 100000 in
set_option maxHeartbeats 8000000 in
theorem zhq (f0 : Nat) (IH : ∀ f', f' + 1 = f0 → RunOk f') : RunOk f0 := by
 intro p fm B n cap lb d m v s ops w hf0 hse ho hs hm hT hn9 hd hv hcap;obtain⟨A,n',c',E,l,d',D,k,e,rfl,_⟩:=hs.at_;obtain⟨W,hW,a0,a1,a2,hal,hlt0⟩:=z0u w A n' c' E l d' D k e;have hse':=hse.go hal;obtain⟨p0,p1,p2⟩:=hse'.get;have hlp:=hse'.lt;have hd9:d<1024:=Nat.lt_of_lt_of_le hd (show 2^n≤2^10 from Nat.pow_le_pow_right (by decide) hn9);have HIH:=hid IH;have HF:=hid hf0;have HD:=hid hd;have HV:=hid (hv.below hal);have HFM:=hid hv.lt;have HSE:=hid hse';have HS:=hid (hs.below hal);have HO:=hid (ho.below hal);have HT:=hid (hT.below hal);have HB0:=hid hal;have HL:=hid ho.1;have HM:=hid hm;have HG:=hid ((z1b s).1 hm);have HCAP:=hid hcap;obtain⟨last,hlast⟩:∃l,lb.data.toList=l:=⟨_,rfl⟩;have HLA:=hid hlast;clear IH hf0 hse hse' ho hs hm hT hal hv hcap hd;obtain⟨R0,hR0⟩:∃R,overV ops lb.data.toList s d=R:=⟨_,rfl⟩
 obtain⟨R,hR⟩:∃R,anyL ops s d (rowD ops lb.data.toList) ops 0=R:=⟨_,rfl⟩;have hov:rowD ops lb.data.toList s d=(R0||R):=by rw[zoa,hR0,hR]
 have HRD:=hid hov;rw[hov];have HR0:=hid hR0;have HR:=hid hR;clear hR hov hR0
 go_enter Tryz.func16,Tryz.ntmps16
 go_wp2_with fail;have h1:=zn3 p _ s B n cap fm lb d ops W HSE.out HO.out HS.out HM.out HT.out hn9 hd9;rw[HR0.out] at h1;refine h1.mono ?_;clear h1;rintro e w1 ⟨rfl,hb1⟩;have HB1:=hid hb1;have HV1:=hid (HV.out.below hb1);cases R0
 case true=>
  clear hb1;go_wp2_with fail;go_ret;refine⟨rfl,HV1.out.mono (Nat.le_add_right _ _),Past.of_below (Cv.next HB0.out HB1.out),(Cv.next HB0.out HB1.out).mono (Nat.le_of_lt HFM.out)⟩
 case false =>
  have x0:=(hb1.cell (p:=⟨p,0,none⟩) hlp).trans p0;have x1:=(hb1.cell (p:=⟨p,1,none⟩) hlp).trans p1;have x2:=(hb1.cell (p:=⟨p,2,none⟩) hlp).trans p2;have y0:=(hb1.cell (p:=⟨w.heap.size,0,none⟩) hlt0).trans a0;have y1:=(hb1.cell (p:=⟨w.heap.size,1,none⟩) hlt0).trans a1;have y2:=(hb1.cell (p:=⟨w.heap.size,2,none⟩) hlt0).trans a2;clear hb1;go_wp2_with fail;refine(zof ⟨p,0,none⟩ _ s d w1 (HS.out.below HB1.out) HM.out (HT.out.below HB1.out) hd9).mono ?_;rintro e w2 ⟨K,rfl,hK,hKs,hb2⟩;have HB2:=hid (Cv.next HB1.out hb2);have hlp2:=Nat.lt_of_lt_of_le hlp HB1.out.size;have hlt2:=Nat.lt_of_lt_of_le hlt0 HB1.out.size;have z0:=(hb2.cell (p:=⟨p,0,none⟩) hlp2).trans x0;have z1:=(hb2.cell (p:=⟨p,1,none⟩) hlp2).trans x1;have z2:=(hb2.cell (p:=⟨p,2,none⟩) hlp2).trans x2;have t0:=(hb2.cell (p:=⟨w.heap.size,0,none⟩) hlt2).trans y0;have t1:=(hb2.cell (p:=⟨w.heap.size,1,none⟩) hlt2).trans y1
  have t2:=(hb2.cell (p:=⟨w.heap.size,2,none⟩) hlt2).trans y2;have HV2:=hid (HV1.out.below hb2);have HK:=hid hK;have HKS:=hid hKs;obtain⟨b,hrun,hbv⟩:=HV2.out.look K hKs HG.out (by rw[HL.out];exact HD.out) (by rw[HL.out];exact hn9) hK;have HBV:=hid hbv;clear x0 x1 x2 y0 y1 y2 hb2 hK hKs hbv;cases b
  case true=>
   have hr0:R=false:=by
    have h9:=HBV.out rfl;rw[HRD.out] at h9;exact h9
   subst hr0;go_wp2_with fail;go_ret;refine⟨rfl,HV2.out.mono (Nat.le_add_right _ _),Past.of_below (Cv.next HB0.out HB2.out),(Cv.next HB0.out HB2.out).mono (Nat.le_of_lt HFM.out)⟩
  case false =>
   clear HBV;go_wp2_with fail;clear hrun
   go_loopw [30] (fun j wr=>∃q:Nat,j=.int .i64 q∧q≤n∧anyL ops s d (rowD ops lb.data.toList) (ops.drop q) q=R∧VainAt wr fm (m+q*capM f0) ops lb.data.toList∧Past w2 wr∧Below fm w2 wr) (fun j _=>n-(intOf j).toNat)
   case atStart=>exact⟨0,rfl,by omega,HR.out,HV2.out.mono (Nat.le_add_right _ _),Past.refl _,Below.refl _ _⟩
   case round =>
    obtain⟨q,rfl,hq,hrest,hvr,hpa,hbf⟩:=hrel;have HREST:=hid hrest;have HVR:=hid hvr;have HPA:=hid hpa;have HBF:=hid hbf;have HP0:=hid ((Past.of_below (Cv.next HB0.out HB2.out)).trans hpa);have x0:=hpa.cell z0;have x1:=hpa.cell z1;have x2:=hpa.cell z2;have y0:=hpa.cell t0;have y1:=hpa.cell t1;have y2:=hpa.cell t2;have hlpr:=World.block_lt_of_cell? wr ⟨p,0,none⟩ x0;have hltr:=World.block_lt_of_cell? wr ⟨w.heap.size,0,none⟩ y0;clear hrest hvr hpa hbf
    by_cases hlt:q<n
    ·obtain⟨g,off,o,rfl,hg,hoq,hat⟩:=((HO.out.below HB2.out).past HPA.out).get q hlt;have HOQ:=hid hoq;have HAT:=hid hat;have hst:=zlf (d:=d) (s:=s) (g:=rowD ops lb.data.toList) hoq;rw[HREST.out] at hst;have HST:=hid hst;have q0:(0:Int)≤(q:Int):=by omega
     have q1:(q:Int)<(n:Int):=by omega
     have q2:(q:Int).toNat=q:=by omega
     clear hst hoq hat;have hmore:Hid (∀w9,Below wr.heap.size wr w9→VainAt w9 fm (m+(q+1)*capM f0) ops lb.data.toList∧Past w2 w9∧Below fm w2 w9):=hid (fun w9 h9=>⟨(HVR.out.below h9).mono (by rw[Nat.succ_mul];omega),HPA.out.trans (Past.of_below h9),HBF.out.trans (h9.mono (Nat.le_of_lt HVR.out.lt))⟩);have hbit:=zg8 d q hd9;cases htb:d.testBit q
     ·rw [htb] at hbit;have hbit0 : bits .and .i64 ((d : Int) / 2 ^ q) 1 = 0 := by rw [hbit]; rfl
      have HTB:=hid htb;clear htb hbit;go_wp2_with fail;have h1:=zle p _ n cap fm lb d q ops o wr (HSE.out.past ((Past.of_below HB2.out).trans HPA.out)) ((HO.out.below HB2.out).past HPA.out) HOQ.out hn9 hd9;obtain⟨A9,hA9⟩:∃b,aheadL d o.beg ops 0=b:=⟨_,rfl⟩;rw[hA9] at h1;have HA9:=hid hA9;clear hA9 hbit0;refine h1.mono ?_;clear h1;rintro e w3 ⟨rfl,hb3⟩;have HB3:=hid hb3;cases A9
      case true=>
       clear hb3;go_wp2_with fail;go_roundw
       case rel=>exact⟨q+1,by go_num,hlt,by have h9:=HST.out;rw[HTB.out,HA9.out] at h9;simpa using h9.symm,hmore.out _ HB3.out⟩
       case measure=>simp[intOf];omega
      case false=>
       have u0:=(hb3.cell (p:=⟨p,0,none⟩) hlpr).trans x0;have u1:=(hb3.cell (p:=⟨p,1,none⟩) hlpr).trans x1;have u2:=(hb3.cell (p:=⟨p,2,none⟩) hlpr).trans x2;have v0:=(hb3.cell (p:=⟨w.heap.size,0,none⟩) hltr).trans y0;have v1:=(hb3.cell (p:=⟨w.heap.size,1,none⟩) hltr).trans y1;have v2:=(hb3.cell (p:=⟨w.heap.size,2,none⟩) hltr).trans y2;have hlp3:=Nat.lt_of_lt_of_le hlpr hb3.size;have hlt3:=Nat.lt_of_lt_of_le hltr hb3.size;clear x0 x1 x2 y0 y1 y2 hb3;go_wp2_with fail;obtain⟨NS,NB,hN⟩:∃a b,nextV s o=(a,b):=⟨_,_,rfl⟩;have HN:=hid hN;have hz1:w3.heap.size≠w.heap.size:=Nat.ne_of_gt hlt3;have hz2:w3.heap.size≠p:=Nat.ne_of_gt hlp3;have hz1':=Ne.symm hz1;have hz2':=Ne.symm hz2;have HST3:=hid ((((HS.out.below HB2.out).past HPA.out).below HB3.out));have HAT3:=hid (HAT.out.below HB3.out)
       have hc:∀u:World,Below w3.heap.size w3 u→Calls Tryz.prog 24 #[.agg #[.slice A n' c',.slice E l d',.slice D k e],.pointer (some ⟨g,off+q*16,none⟩)] u fun e w'=>∃A k c E l d D i f,e=.returned (.tuple #[.agg #[.slice A k c,.slice E l d,.slice D i f],.bool NB])∧StAt (some w3.heap.size) w' (.agg #[.slice A k c,.slice E l d,.slice D i f]) NS∧Below u.heap.size u w'∧Below w3.heap.size w3 w':=fun u hu=>by
        have h1:=zld _ s g (off+q*16) o u (HST3.out.below hu) (HAT3.out.below hu);rw[HN.out] at h1;refine h1.mono ?_;rintro e w' ⟨v',rfl,hst,hb⟩;obtain⟨A,k,c,E,l,d,D,i,f,rfl,_⟩:=hst.at_;exact⟨A,k,c,E,l,d,D,i,f,rfl,hst.lower hu.size,hb,hu.trans (hb.mono hu.size)⟩
       have HC:=hid hc;have HB3S:=hid (Below.refl w3.heap.size w3);clear hc hN
       go_cut [9,10] (fun pp pb wx=>∃b A k c E l d D i f,pp=.pointer (some ⟨b,0,.none⟩)∧pb=.bool NB∧OutAt wx b (.slice A k c) (.slice E l d) (.slice D i f)∧StAt (some w3.heap.size) wx (.agg #[.slice A k c,.slice E l d,.slice D i f]) NS∧Below w3.heap.size w3 wx∧w3.heap.size≤b)
       case first=>
        go_region_held3 (fun w'=>w'.cell? ⟨w.heap.size,0,none⟩=some (.slice A n' c')∧w'.cell? ⟨w.heap.size,1,none⟩=some (.slice E l d')∧w'.cell? ⟨w.heap.size,2,none⟩=some (.slice D k e)∧w'.cell? ⟨p,0,none⟩=some (.slice (some ⟨g,off,none⟩) n cap))
         (first|go_keep|(trace_state;fail))
         ((go_at_call 24;refine(HC.out _ (by first|exact Cv.drewN_below (Below.refl _ _) 1|exact(Cv.drewN_below (Below.refl _ _) 1).alloc (by simp) _)).mono ?_;rintro e5 w5 ⟨A5,n5,c5,E5,m5,d5,D5,i5,f5,rfl,hst5,hb5,hbw5⟩;have e0:=(hbw5.cell (p:=⟨w.heap.size,0,none⟩) hlt3).trans v0;have e1:=(hbw5.cell (p:=⟨w.heap.size,1,none⟩) hlt3).trans v1;have e2:=(hbw5.cell (p:=⟨w.heap.size,2,none⟩) hlt3).trans v2;have e3:=(hbw5.cell (p:=⟨p,0,none⟩) hlp3).trans u0;(first|(have am:=z3o hb5 (al1 w3 (.cells #[.slice none 0 0,.slice none 0 0,.slice none 0 0] 27));obtain⟨m0,m1,m2,mf⟩:=OutAt.get am;have lm:=(Array.getElem?_eq_some_iff.1 am).1;have nm:w5.heap.size≠w3.heap.size:=Nat.ne_of_gt lm;have HAM:=hid am;clear am)|skip);have hs5:=hbw5.size;have y1:w5.heap.size≠w.heap.size:=(by omega);have y2:w5.heap.size≠p:=(by omega)))
        all_goals (
         go_wp2_with fail;go_meet
         first
          | exact⟨_,A5,n5,c5,E5,m5,d5,D5,i5,f5,rfl,rfl,zpd hst5 hbw5⟩
          | exact⟨_,A5,n5,c5,E5,m5,d5,D5,i5,f5,rfl,rfl,zpe hst5 hbw5 HAM.out⟩)
       case rest=>
        obtain⟨b,A5,n5,c5,E5,m5,d5,D5,i5,f5,rfl,rfl,ho5,hst5,hb5,hle⟩:=hcut;obtain⟨y0,y1,y2,yf⟩:=OutAt.get ho5;have x0:=(hb5.cell (p:=⟨p,0,none⟩) hlp3).trans u0;have x1:=(hb5.cell (p:=⟨p,1,none⟩) hlp3).trans u1;have HB5:=hid (Cv.next HB3.out hb5);have HST5:=hid hst5;cases NB
        case false=>
         clear ho5 hst5 hb5;go_wp2_with fail;have hX:=@Ext.cell wc;refine wre ?_
         repeat (go_big_quiet_step (fail))
         refine wpQuiet_nil ?_;rintro w9 ⟨X,rfl⟩;have HBX:=hid (Cv.next HB5.out X.bel);clear hX;go_wp2_with fail;go_roundw
         case rel=>exact⟨q+1,by go_num,hlt,by have h9:=HST.out;rw[HTB.out,HA9.out,HN.out] at h9;simpa using h9.symm,hmore.out _ HBX.out⟩
         case measure=>simp[intOf];omega
        case true=>
         have hlb5:=(Array.getElem?_eq_some_iff.1 ho5).1;have hlf:=zet (n:=n) hlt HTB.out;have HM5:=hid ((z1b NS).2 (by have h9:=HG.out.next o;rw[HN.out] at h9;exact h9));obtain⟨RR,hRR⟩:∃r,rowD ops lb.data.toList NS (d|||2^q)=r:=⟨_,rfl⟩;have HRR:=hid hRR;have hcm:(q+1)*capM f0≤10*capM f0:=Nat.mul_le_mul_right _ (by omega);have hcm2:(q+1)*capM f0=q*capM f0+capM f0:=Nat.succ_mul q (capM f0);have hcn:=zhp f0;have hcf:capN (leftN n (d|||2^q))=capM f0:=by rw[←HF.out,←hlf];rfl
         have hcp:=HCAP.out;have HEQ:=hid (show m+q*capM f0+capN (leftN n (d|||2^q))=m+(q+1)*capM f0 by rw[hcf,hcm2];omega);have HLE:=hid (show m+q*capM f0+capN (leftN n (d|||2^q))≤100000000000 by rw[hcf];omega);have HLF:=hid (show leftN n (d|||2^q)+1=f0 by rw[hlf];exact HF.out);have HSL:=hid (zp2 HD.out hlt);have HPW:=hid (Past.of_below HB5.out)
         have hc:∀u:World,Below wc.heap.size wc u→Calls Tryz.prog 16 #[.pointer (some ⟨p,0,none⟩),.agg #[.slice A5 n5 c5,.slice E5 m5 d5,.slice D5 i5 f5],.int .i64 (bits .or .i64 (d:Int) (IntKind.i64.wrap (2^q)))] u fun e w'=>e=.returned (.bool RR)∧VainAt w' fm (m+(q+1)*capM f0) ops lb.data.toList∧Past wc w'∧Past w2 w'∧Below fm w2 w':=fun u hu=>by
          have h1:=HIH.out _ HLF.out p fm _ n cap lb (d|||2^q) (m+q*capM f0) _ NS ops u rfl ((((HSE.out.past (Past.of_below HB2.out)).past HPA.out).past HPW.out).past (Past.of_below hu)) ((((HO.out.below HB2.out).past HPA.out).past HPW.out).below hu) (HST5.out.weak.below hu) HM5.out ((((HT.out.below HB2.out).past HPA.out).past HPW.out).below hu) hn9 HSL.out ((HVR.out.below HB5.out).below hu) HLE.out;rw[HRR.out,HEQ.out,←zpc d q hd9 (by omega)] at h1;refine h1.mono ?_;rintro e w' ⟨rfl,hv,hp,hf⟩;exact⟨rfl,hv,(Past.of_below hu).trans hp,(HPA.out.trans HPW.out).trans ((Past.of_below hu).trans hp),((HBF.out.trans (HB5.out.mono (Nat.le_of_lt HVR.out.lt))).trans (hu.mono (Nat.le_of_lt (HVR.out.below HB5.out).lt))).trans hf⟩
         have HRC:=hid hc;clear ho5 hst5 hb5 hRR hc hcm hcm2 hcn hcf hcp hlf;go_wp2_with fail
         go_region_held3 (fun w'=>w'.cell? ⟨b,0,none⟩=some (.slice A5 n5 c5)∧w'.cell? ⟨b,1,none⟩=some (.slice E5 m5 d5)∧w'.cell? ⟨b,2,none⟩=some (.slice D5 i5 f5))
          (first|go_keep|(trace_state;fail))
          ((go_at_call 16;refine(HRC.out _ (by first|exact Cv.drewN_below (Below.refl _ _) 1)).mono ?_;rintro e6 w6 ⟨rfl,hv6,hq6,hp6,hf6⟩;have e0:=hq6.cell y0;have e1:=hq6.cell y1;have e2:=hq6.cell y2))
         have HV6:=hid hv6;have HP6:=hid hp6;have HF6:=hid hf6;clear hv6 hp6 hf6 hq6;cases RR
         case false=>
          go_wp2_with fail;go_roundw
          case rel=>exact⟨q+1,by go_num,hlt,by have h9:=HST.out;rw[HTB.out,HA9.out,HN.out,HRR.out] at h9;simpa using h9.symm,HV6.out,HP6.out,HF6.out⟩
          case measure=>simp[intOf];omega
         case true=>
          have hr0:R=true:=by rw[HST.out,HTB.out,HA9.out,HN.out,HRR.out];rfl
          subst hr0;go_wp2_with fail;go_ret;refine⟨rfl,HV6.out.mono ?_,(Past.of_below (Cv.next HB0.out HB2.out)).trans HP6.out,((Cv.next HB0.out HB2.out).mono (Nat.le_of_lt HFM.out)).trans HF6.out⟩;have hcm:(q+1)*capM f0≤10*capM f0:=Nat.mul_le_mul_right _ (by omega);rw[zhp];omega
     ·rw[htb] at hbit;have hbit0:bits .and .i64 ((d:Int) / 2^q) 1=1:=by rw[hbit];rfl
      have HTB:=hid htb;clear htb hbit;go_wp2_with fail;go_roundw
      case rel=>exact⟨q+1,by go_num,by omega,by have h9:=HST.out;rw[HTB.out] at h9;simpa using h9.symm,hmore.out _ (Below.refl _ _)⟩
      case measure=>simp[intOf];omega
    ·have hqn:q=n:=by omega
     have hr0:R=false:=by
      have h9:=HREST.out;rw[hqn,←HL.out,List.drop_length] at h9;exact h9.symm
     subst hr0;have hrf:rowD ops lb.data.toList s d=false:=HRD.out;obtain⟨D9,hm9,hown,hvain⟩:=HVR.out
     obtain⟨es9,ck9,hes9⟩:∃es ck,wr.heap[fm]? =some (.map es ck):=by
      obtain⟨es,ck,h,_⟩:=hown;exact⟨es,ck,h⟩
     have HES9:=hid hes9;have HVN:=hid (Vain.put hm9 hvain HG.out (by rw[HL.out];exact HD.out) hrf);have HM9:=hid hm9;clear hes9 hrf hvain hm9;have hcm:q*capM f0≤10*capM f0:=Nat.mul_le_mul_right _ (by omega);have hcn:=zhp f0;have hcp:=HCAP.out;have hml:m+q*capM f0<9223372036854775807:=by omega
     have HCM:=hid hcm;clear hcm hcn hcp;go_wp2_with (at_mapUpdate;refine wpList_mapUpdate_own _ rfl _ _ _ 57 rfl 9 4 (string_keyed Tryz.underlying9) Tryz.underlying57 _ fm _ D9 rfl hown (by unfold maxLen;omega) _ _ _ rfl rfl (WideMaps.keyOf_string_mk Tryz.underlying9 (s:=K) (by have:=HKS.out;unfold maxLen;omega)) _ [] (plainElem_bool Tryz.underlying4 true) ?_);intro w7 hown7 hgrow7;have HO7:=hid hown7;have HG7:=hid hgrow7;clear hown hown7 hgrow7;go_wp2_with fail;go_ret;refine⟨rfl,⟨D9.put (.string K.data.toList) (.lit (.bool true)),HM9.out.put _ _,HO7.out.mono ?_,by rw[HK.out];exact HVN.out⟩,((Past.of_below (Cv.next HB0.out HB2.out)).trans HPA.out).trans (Past.of_map HG7.out HES9.out),(((Cv.next HB0.out HB2.out).mono (Nat.le_of_lt HFM.out)).trans HBF.out).grown HG7.out (Nat.le_of_lt HVR.out.lt) (fun k hk=>by injection hk with hk;omega)⟩
     rw[zhp];have:=HCM.out;have:n*capM f0≤10*capM f0:=Nat.mul_le_mul_right _ hn9;omega
theorem zlg:∀f,RunOk f
 | 0=>zhq 0 (fun f' h=>absurd h (by omega))
 | f+1=>zhq (f+1) (fun f' h=>by
  have:f'=f:=by omega
  subst this;exact zlg f')
end Go.Proofs.YtkflaifopbodfaaGreatDoor
namespace Go.Proofs.YtkflaifopbodfaaGreatDoor
open Lib (hid)
open Go.RowKit
def askV (s:St) (ops:List Op):Int:=if mayV s=false then 2500 else if ops.all opMay=false then 2500 else if 10<ops.length then 2501 else 0
theorem zn6 {ops:List Op} {q:Nat} {o:Op} (h:ops[q]? =some o):(ops.take (q+1)).all opMay=((ops.take q).all opMay&&opMay o):=by
 rw[List.take_add_one,h,List.all_append];simp
theorem zpf {ops:List Op} {q:Nat} {o:Op} (h:ops[q]? =some o) (ho:opMay o=false):ops.all opMay=false:=by
 rw[List.all_eq_false];exact⟨o,List.mem_of_getElem? h,by rw[ho];simp⟩
theorem PtrAt.st {w:World} {p:Nat} {s:St} (h:PtrAt w p s):∃A n c E m d D k e,OutAt w p (.slice A n c) (.slice E m d) (.slice D k e)∧StAt none w (.agg #[.slice A n c,.slice E m d,.slice D k e]) s:=by
 obtain⟨⟨A,n,c,E,m,d,D,k,e,h1,h2,h3,h4,h5,h6,h7⟩,hz⟩:=h;exact⟨A,n,c,E,m,d,D,k,e,h1,⟨⟨A,n,c,E,m,d,D,k,e,rfl,h2,h3,h4,h5,h6,h7⟩,hz⟩⟩
set_option maxRecDepth 100000 in
set_option maxHeartbeats 4000000 in
theorem zf4 (p:Nat) (s:St) (B:Option Addr) (n cap:Nat) (ops:List Op) (w:World) (hp:PtrAt w p s) (ho:OpsAt w B n ops) (hn9:n≤1099511627776):
  Calls Tryz.prog 15 #[.pointer (some ⟨p,0,none⟩),.slice B n cap] w fun e w'=>e=.returned (.int .i64 (askV s ops))∧Below w.heap.size w w':=by
 obtain⟨A,n',c',E,m,d,D,k,e,hr,hs⟩:=hp.st;obtain⟨p0,p1,p2,_⟩:=hr.get;have HS:=hid hs;have HO:=hid ho;have HL:=hid ho.1;clear hr hs hp ho;obtain⟨R,hR⟩:∃R,askV s ops=R:=⟨_,rfl⟩;rw[hR];unfold askV at hR;have HR:=hid hR;clear hR
 go_enter Tryz.func15,Tryz.ntmps15
 go_wp2_with fail;have h1:=zch _ s w HS.out;obtain⟨M,hM⟩:∃M,mayV s=M:=⟨_,rfl⟩;rw[hM] at h1;refine h1.mono ?_;clear h1;rintro e1 w1 ⟨rfl,hb1⟩;have HB1:=hid hb1;clear hb1;cases M
 ·have hr0:R=2500:=by rw[←HR.out,if_pos hM]
  subst hr0;clear hM;go_wp2_with fail;go_ret;exact⟨rfl,HB1.out⟩
 have hR2:(if ops.all opMay=false then(2500:Int) else if 10<ops.length then 2501 else 0)=R:=by have h9:=HR.out;rwa [if_neg (show ¬mayV s=false by rw[hM];simp)] at h9
 have HR2:=hid hR2;clear hR2 hM HR;go_wp2_with fail
 go_loopw [14] (fun j wr=>∃q:Nat,j=.int .i64 q∧q≤n∧(ops.take q).all opMay=true∧Below w.heap.size w wr) (fun j _=>n-(intOf j).toNat)
 case atStart=>exact⟨0,rfl,by omega,by simp,HB1.out⟩
 case round=>
  obtain⟨q,rfl,hq,hall,hb⟩:=hrel;have HB:=hid hb;have HALL:=hid hall;clear hall
  by_cases hlt:q<n
  ·obtain⟨g,off,o,rfl,hg,hoq,hat⟩:=(HO.out.below hb).get q hlt;obtain⟨F,f,f9,hok,hnm,hoo,hg2,c0,c1,c2,c3,c4,c5,c6,c7,c8,c9,c10,c11,c12,c13,c14,c15⟩:=hat.get;obtain⟨W,hW,hal,hz,d0,d1,d2,d3,d4,d5,d6,d7,d8,d9,d10,d11,d12,d13,d14,d15⟩:=zl2 wr o F f f9;have HC:=hid (zhm o F f f9 W hok (hnm.below hal) hoo.rn);have HB2:=hid (Cv.next hb hal);have HOQ:=hid hoq;have q0:(0:Int)≤(q:Int):=by omega
   have q1:(q:Int)<(n:Int):=by omega
   have q2:(q:Int).toNat=q:=by omega
   clear hb hoq hat hok hnm hoo hal;go_wp2_with fail
   try rw[hW]
   obtain⟨M,hM⟩:∃M,opMay o=M:=⟨_,rfl⟩;have h1:=HC.out;rw[hM] at h1;refine h1.mono ?_;clear h1;rintro e2 w2 ⟨rfl,hb2⟩;have HB3:=hid (Cv.next HB2.out hb2);clear hb2;have HM:=hid hM;clear hM;cases M
   ·have hr0:R=2500:=by rw[←HR2.out,if_pos (zpf HOQ.out HM.out)]
    subst hr0;go_wp2_with fail;go_ret;exact⟨rfl,HB3.out⟩
   ·go_wp2_with fail;go_roundw
    case rel=>exact⟨q+1,by go_num,by omega,by rw[zn6 HOQ.out,HALL.out,HM.out];rfl,HB3.out⟩
    case measure=>simp[intOf];omega
  ·have hqn:q=n:=by omega
   have hall2:ops.all opMay=true:=by
    have:=HALL.out
    rwa [hqn,←HL.out,List.take_length] at this
   have hR3:(if 10<n then(2501:Int) else 0)=R:=by have h9:=HR2.out;rwa [if_neg (show ¬ops.all opMay=false by rw[hall2];simp),HL.out] at h9
   have HR3:=hid hR3;clear hR3 hall2 hb
   by_cases h10:10<n
   ·have hr0:R=2501:=by rw[←HR3.out,if_pos h10]
    subst hr0;go_wp2_with fail;go_ret;exact⟨rfl,HB.out⟩
   ·have hr0:R=0:=by rw[←HR3.out,if_neg h10]
    subst hr0;go_wp2_with fail;go_ret;exact⟨rfl,HB.out⟩
end Go.Proofs.YtkflaifopbodfaaGreatDoor
namespace Go.Proofs.YtkflaifopbodfaaGreatDoor
open Lib (hid)
open Go.RowKit Go.Maps
def legV (s:St) (ops:List Op):Bool×Int:=if askV s ops=0 then(rowD ops [] s 0,0) else(false,askV s ops)
def endsV (s:St) (ops:List Op) (last:St):Bool×Int:=
 if askV s ops=2500∨mayV last=false then(false,2500) else if askV s ops=0 then(rowD ops (ofL last) s 0,0) else(false,askV s ops)
theorem zf5 {s:St} {ops:List Op} (h:askV s ops=0):mayV s=true∧ops.length≤10:=by
 unfold askV at h
 split at h
 ·omega
 ·rename_i h1
  split at h
  ·omega
  ·split at h
   ·omega
   ·exact⟨by simpa using h1,by omega⟩
theorem znk (w1:World) (B:Option Addr) (n cap:Nat) (lb:ByteArray) (ops:List Op):∃W,(w1.alloc (.map #[] 0)).alloc (.cells #[.slice B n cap,.map (some w1.heap.size),.string lb] 59)=W∧
  SeAt W (w1.heap.size+1) B n cap w1.heap.size lb∧VainAt W w1.heap.size 0 ops lb.data.toList∧Below w1.heap.size w1 W∧W.heap.size=w1.heap.size+2:=by
 have hz:(w1.alloc (.map #[] 0)).heap.size=w1.heap.size+1:=by simp
 refine⟨_,rfl,?_,(VainAt.made w1 ops _).below ((Below.refl _ _).alloc (Nat.le_refl _) _),((Below.refl _ _).alloc (Nat.le_refl _) _).alloc (by omega) _,by simp⟩;have:=heap_alloc_new (w1.alloc (.map #[] 0)) (.cells #[.slice B n cap,.map (some w1.heap.size),.string lb] 59);rw[hz] at this;exact this
theorem zlh (W:World) (B:Option Addr) (n cap p fm:Nat) (lb:ByteArray) (v:Value) (s:St) (ops:List Op) (hse:SeAt W p B n cap fm lb) (ho:OpsAt W B n ops) (hs:StAt none W v s) (hm:mayV s=true) (hT:Tab W) (hn:n≤10) (hv:VainAt W fm 0 ops lb.data.toList):
  Calls Tryz.prog 16 #[.pointer (some ⟨p,0,none⟩),v,.int .i64 0] W fun e w'=>e=.returned (.bool (rowD ops lb.data.toList s 0))∧Below fm W w':=by
 have h:=zlg (leftN n 0) p fm B n cap lb 0 0 v s ops W rfl hse ho hs hm hT hn (Nat.two_pow_pos n) hv (by have:=zoc (Nat.le_trans (zmy n 0) hn);omega);refine h.mono ?_;rintro e w' ⟨h1,_,_,h4⟩;exact⟨h1,h4⟩
set_option maxRecDepth 100000 in
set_option maxHeartbeats 4000000 in
theorem z3h (v:Value) (s:St) (B:Option Addr) (n cap:Nat) (ops:List Op) (w:World) (hs:StAt none w v s) (ho:OpsAt w B n ops) (hT:Tab w) (hn:n≤1099511627776):
  Calls Tryz.prog 10 #[v,.slice B n cap] w fun e w'=>e=.returned (.tuple #[.bool (legV s ops).1,.int .i64 (legV s ops).2])∧Below w.heap.size w w':=by
 obtain⟨A,n',c',E,l,d',D,k,e,rfl,i1,i2,i3,i4,i5,i6⟩:=hs.at_;obtain⟨W,hW,a0,a1,a2,hal,hlt0⟩:=z0u w A n' c' E l d' D k e;have hpt:PtrAt W w.heap.size s:=⟨⟨A,n',c',E,l,d',D,k,e,by rw[←hW];exact heap_alloc_new w _,i1.below hal,i2.below hal,i3.below hal,i4,i5,i6⟩,hs.sized⟩;have HS:=hid (hs.below hal);have HO:=hid (ho.below hal);have HT:=hid (hT.below hal);have HB0:=hid hal;have HL:=hid ho.1;clear hs ho hT hal i1 i2 i3 i4 i5 i6;obtain⟨R,hR⟩:∃R,askV s ops=R:=⟨_,rfl⟩;have HR:=hid hR
 go_enter Tryz.func10,Tryz.ntmps10
 go_wp2_with fail;have h1:=zf4 w.heap.size s B n cap ops W hpt HO.out hn;rw[hR] at h1;clear hR;refine h1.mono ?_;clear h1;rintro e1 w1 ⟨rfl,hb1⟩;have HB1:=hid hb1;have x0:=(hb1.cell (p:=⟨w.heap.size,0,none⟩) hlt0).trans a0;have x1:=(hb1.cell (p:=⟨w.heap.size,1,none⟩) hlt0).trans a1;have x2:=(hb1.cell (p:=⟨w.heap.size,2,none⟩) hlt0).trans a2;clear hb1
 by_cases h0:R=0
 ·subst h0;obtain⟨hmay,hlen⟩:=zf5 HR.out;have HLV:=hid (show legV s ops=(rowD ops [] s 0,0) by unfold legV;rw[if_pos HR.out]);obtain⟨W2,hW2,hse,hva,hb2,hz2⟩:=znk w1 B n cap ⟨#[]⟩ ops;have HSE:=hid hse;have HVA:=hid hva;have HB2:=hid hb2;have hlt1:=Nat.lt_of_lt_of_le hlt0 HB1.out.size;have y0:=(hb2.cell (p:=⟨w.heap.size,0,none⟩) hlt1).trans x0;have y1:=(hb2.cell (p:=⟨w.heap.size,1,none⟩) hlt1).trans x1;have y2:=(hb2.cell (p:=⟨w.heap.size,2,none⟩) hlt1).trans x2;have HM:=hid hmay;have HLEN:=hid hlen;clear hse hva hb2 hmay hlen hz2;have hmm:=@run_makeMap Tryz.prog;go_wp2_with fail
  try rw[hW2]
  refine(zlh W2 B n cap (w1.heap.size+1) w1.heap.size ⟨#[]⟩ _ s ops HSE.out ((HO.out.below HB1.out).below HB2.out) ((HS.out.below HB1.out).below HB2.out) HM.out ((HT.out.below HB1.out).below HB2.out) (by rw[←HL.out];exact HLEN.out) HVA.out).mono ?_;rintro e2 w3 ⟨rfl,hb3⟩;have HB3:=hid (Cv.next (Cv.next HB0.out HB1.out) (HB2.out.trans hb3));clear hb3;go_wp2_with fail;refine bodyPost_ret (results_tmp2 rfl _ _ _) rfl ?_;exact⟨by rw[HLV.out];rfl,HB3.out⟩
 ·have HLV:=hid (show legV s ops=(false,R) by unfold legV;rw[HR.out,if_neg h0]);have hR0:(R != 0)=true:=by rw[bne_iff_ne];exact h0
  clear h0;go_wp2_with fail;refine bodyPost_ret (results_tmp2 rfl _ _ _) rfl ?_;exact⟨by rw[HLV.out];rfl,Cv.next HB0.out HB1.out⟩
set_option maxRecDepth 100000 in
set_option maxHeartbeats 4000000 in
theorem zhr (v y:Value) (s last:St) (B:Option Addr) (n cap:Nat) (ops:List Op) (w:World) (hs:StAt none w v s) (ho:OpsAt w B n ops) (hl:StAt none w y last) (hT:Tab w) (hn:n≤1099511627776):
  Calls Tryz.prog 13 #[v,.slice B n cap,y] w fun e w'=>e=.returned (.tuple #[.bool (endsV s ops last).1,.int .i64 (endsV s ops last).2])∧Below w.heap.size w w':=by
 obtain⟨A,n',c',E,l,d',D,k,e,rfl,i1,i2,i3,i4,i5,i6⟩:=hs.at_;obtain⟨A1,n1,c1,E1,m1,d1,D1,k1,e1,rfl,_⟩:=hl.at_;obtain⟨W0,hW0,a0,a1,a2,hal,hlt0⟩:=z0u w A n' c' E l d' D k e;have hpt:PtrAt W0 w.heap.size s:=⟨⟨A,n',c',E,l,d',D,k,e,by rw[←hW0];exact heap_alloc_new w _,i1.below hal,i2.below hal,i3.below hal,i4,i5,i6⟩,hs.sized⟩;obtain⟨W,hW,b0,b1,b2,hal2,hlt1⟩:=z0u W0 A1 n1 c1 E1 m1 d1 D1 k1 e1;have hlt2:=Nat.lt_of_lt_of_le hlt0 hal2.size;have c0:=(hal2.cell (p:=⟨w.heap.size,0,none⟩) hlt0).trans a0;have c2:=(hal2.cell (p:=⟨w.heap.size,1,none⟩) hlt0).trans a1;have c3:=(hal2.cell (p:=⟨w.heap.size,2,none⟩) hlt0).trans a2;have HPT:=hid (hpt.below hal2);have HS:=hid ((hs.below hal).below hal2);have HLS:=hid ((hl.below hal).below hal2);have HO:=hid ((ho.below hal).below hal2);have HT:=hid ((hT.below hal).below hal2)
 have HB0:=hid (Cv.next hal hal2);have HL:=hid ho.1;clear hs ho hT hal hal2 i1 i2 i3 i4 i5 i6 hl hpt a0 a1 a2;obtain⟨R,hR⟩:∃R,askV s ops=R:=⟨_,rfl⟩;have HR:=hid hR
 go_enter Tryz.func13,Tryz.ntmps13
 go_wp2_with fail;have h0:=zd3 _ last W HLS.out HT.out;obtain⟨XS,hXS⟩:∃X,txt (ofO last)=X:=⟨_,rfl⟩;obtain⟨CO,hCO⟩:∃X,codeO last=X:=⟨_,rfl⟩;rw[hXS,hCO] at h0;have HXS:=hid hXS;have HCO:=hid hCO;clear hXS hCO;refine h0.mono ?_;clear h0;rintro e0 w0 ⟨rfl,hb0⟩;have HBA:=hid hb0;have x0:=(hb0.cell (p:=⟨w.heap.size,0,none⟩) hlt2).trans c0;have x1:=(hb0.cell (p:=⟨w.heap.size,1,none⟩) hlt2).trans c2;have x2:=(hb0.cell (p:=⟨w.heap.size,2,none⟩) hlt2).trans c3;have hlt3:=Nat.lt_of_lt_of_le hlt2 hb0.size;clear hb0 b0 b1 b2 c0 c2 c3;go_wp2_with fail;have h1:=zf4 w.heap.size s B n cap ops w0 (HPT.out.below HBA.out) (HO.out.below HBA.out) hn;rw[hR] at h1;clear hR;refine h1.mono ?_;clear h1;rintro e1 w1 ⟨rfl,hb1⟩;have HB1:=hid (Cv.next HBA.out hb1);have y0:=(hb1.cell (p:=⟨w.heap.size,0,none⟩) hlt3).trans x0;have y1:=(hb1.cell (p:=⟨w.heap.size,1,none⟩) hlt3).trans x1
 have y2:=(hb1.cell (p:=⟨w.heap.size,2,none⟩) hlt3).trans x2;have hlt4:=Nat.lt_of_lt_of_le hlt3 hb1.size;clear hb1 x0 x1 x2
 by_cases h25:R=2500
 ·have HLV:=hid (show endsV s ops last=(false,2500) by unfold endsV;rw[if_pos (.inl (HR.out.trans h25))]);subst h25;go_wp2_with fail;refine bodyPost_ret (results_tmp2 rfl _ _ _) rfl ?_;exact⟨by rw[HLV.out];rfl,Cv.next HB0.out HB1.out⟩
 ·have h25':(R==2500)=false:=by rw[beq_eq_false_iff_ne];exact h25
  by_cases hmy:mayV last=true
  ·obtain rfl:CO=0:=by rw[←HCO.out];unfold codeO;rw[if_pos hmy]
   by_cases h00:R=0
   ·subst h00;obtain⟨hmay,hlen⟩:=zf5 HR.out;have HLV:=hid (show endsV s ops last=(rowD ops (ofL last) s 0,0) by unfold endsV;rw[if_neg (by rw[hmy,HR.out];decide),if_pos HR.out]);have HXL:=hid (show XS.data.toList=ofL last by rw[←HXS.out,z0s];unfold ofO;rw[if_pos hmy]);obtain⟨W2,hW2,hse,hva,hb2,hz2⟩:=znk w1 B n cap XS ops;have HSE:=hid hse;have HVA:=hid hva;have HB2:=hid hb2;have z0:=(hb2.cell (p:=⟨w.heap.size,0,none⟩) hlt4).trans y0;have z1:=(hb2.cell (p:=⟨w.heap.size,1,none⟩) hlt4).trans y1;have z2:=(hb2.cell (p:=⟨w.heap.size,2,none⟩) hlt4).trans y2;have HM:=hid hmay;have HLEN:=hid hlen;clear hse hva hb2 hmay hlen hz2 hmy h25 y0 y1 y2;have hmm:=@run_makeMap Tryz.prog;go_wp2_with fail
    try rw[hW2]
    refine(zlh W2 B n cap (w1.heap.size+1) w1.heap.size XS _ s ops HSE.out ((HO.out.below HB1.out).below HB2.out) ((HS.out.below HB1.out).below HB2.out) HM.out ((HT.out.below HB1.out).below HB2.out) (by rw[←HL.out];exact HLEN.out) HVA.out).mono ?_;rintro e2 w3 ⟨rfl,hb3⟩;have HB3:=hid (Cv.next (Cv.next HB0.out HB1.out) (HB2.out.trans hb3));clear hb3;go_wp2_with fail;refine bodyPost_ret (results_tmp2 rfl _ _ _) rfl ?_;exact⟨by rw[HLV.out,HXL.out];rfl,HB3.out⟩
   ·have HLV:=hid (show endsV s ops last=(false,R) by unfold endsV;rw[if_neg (by rw[hmy,HR.out];intro h;rcases h with h|h;exact h25 h;cases h),HR.out,if_neg h00]);have hR0:(R != 0)=true:=by rw[bne_iff_ne];exact h00
    clear h00 hmy h25;go_wp2_with fail;refine bodyPost_ret (results_tmp2 rfl _ _ _) rfl ?_;exact⟨by rw[HLV.out];rfl,Cv.next HB0.out HB1.out⟩
  ·have HLV:=hid (show endsV s ops last=(false,2500) by unfold endsV;rw[if_pos (.inr (by simpa using hmy))])
   have hC0:(CO != 0)=true:=by
    rw[←HCO.out];unfold codeO;rw[if_neg hmy]
    rfl
   clear hmy h25;go_wp2_with fail;refine bodyPost_ret (results_tmp2 rfl _ _ _) rfl ?_;exact⟨by rw[HLV.out];rfl,Cv.next HB0.out HB1.out⟩
end Go.Proofs.YtkflaifopbodfaaGreatDoor
namespace Go.Proofs.YtkflaifopbodfaaGreatDoor
open Lib (hid)
open Go.RowKit
theorem zli (N:Nat) (h:N≤65536) (w:World):∃W,(Instr.makeSlice 25 (.int .i64 (N:Int)) (.int .i64 (N:Int))).run Tryz.prog w=.ok (.slice (some ⟨w.heap.size,0,.none⟩) N N) W∧IntsAt (some w.heap.size) W (some ⟨w.heap.size,0,.none⟩) N (List.replicate N 0)∧Below w.heap.size w W:=by
 refine⟨_,run_make_row' (P:=Tryz.prog) 25 3 (.int .i64 0) 8 Tryz.underlying25 z5s rfl .i64 .i64 N (by omega) (by omega) w,⟨by simp,fun hn=>⟨w.heap.size,0,rfl,by simp,fun B hB=>?_,fun j x hx=>?_⟩⟩,(Below.refl _ _).alloc (Nat.le_refl _) _⟩
 ·cases hB;exact⟨Nat.le_refl _,_,heap_alloc_new w _⟩
 ·have hj:j<N:=by have:=(List.getElem?_eq_some_iff.1 hx).1;simpa using this
  have h0:x=0:=by rw[List.getElem?_replicate,if_pos hj] at hx;exact(Option.some.inj hx).symm
  subst h0;rw[Nat.zero_add];refine(cell_of_row _ w.heap.size _ _ _ (0,0) (heap_alloc_new w _)).trans ?_;simp[madeCells,hj,Nat.mod_one]
set_option maxRecDepth 100000 in
set_option maxHeartbeats 4000000 in
theorem zlj (n:Nat) (h1:1≤n) (h8:n≤8) (w:World):
  Calls Tryz.prog 8 #[.int .i64 (n:Int)] w fun e w'=>∃v,e=.returned (.tuple #[v,.int .i64 0])∧StAt (some w.heap.size) w' v (newV n)∧Below w.heap.size w w':=by
 have q1:decide ((n:Int)<1)=false:=by rw[decide_eq_false_iff_not];omega
 have q2:decide ((8:Int)<(n:Int))=false:=by rw[decide_eq_false_iff_not];omega
 obtain⟨W1,hW1⟩:∃W1,w.alloc (.cells #[.slice none 0 0,.slice none 0 0,.slice none 0 0] 27)=W1:=⟨_,rfl⟩;have o1:OutAt W1 w.heap.size (.slice none 0 0) (.slice none 0 0) (.slice none 0 0):=by rw[←hW1];exact heap_alloc_new w _
 have l1:Below w.heap.size w W1:=by rw[←hW1];exact(Below.refl _ _).alloc (Nat.le_refl _) _
 have z1:W1.heap.size=w.heap.size+1:=by rw[←hW1];simp
 obtain⟨W2,hW2⟩:∃W2,W1.alloc (.cells #[.int .i64 1,.bool true,.slice none 0 0,.string ⟨#[]⟩] 53)=W2:=⟨_,rfl⟩;have i2:W2.heap[W1.heap.size]? =some (.cells #[.int .i64 1,.bool true,.slice none 0 0,.string ⟨#[]⟩] 53 (0,0)):=by rw[←hW2];exact heap_alloc_new W1 _
 have l2:Below W1.heap.size W1 W2:=by rw[←hW2];exact(Below.refl _ _).alloc (Nat.le_refl _) _
 have z2:W2.heap.size=W1.heap.size+1:=by rw[←hW2];simp
 obtain⟨W3,hmk,hints,l3⟩:=zli n (by omega) W2;have i3:=(l3.block W1.heap.size (by omega)).trans i2;have o3:OutAt W3 w.heap.size (.slice none 0 0) (.slice none 0 0) (.slice none 0 0):=((l2.trans (l3.mono (by omega))).block w.heap.size (by omega)).trans o1;have hb3:Below w.heap.size w W3:=Cv.next l1 (Cv.next l2 l3);obtain⟨g0,g1,g2,gf⟩:=o3.get;have gf0:=gf 0;have gf1:=gf 1;have gf2:=gf 2;obtain⟨W4,hW4,o4,k4,b4⟩:=o3.three (.slice (some ⟨W1.heap.size,0,none⟩) 1 1) (.slice none 0 0) (.slice (some ⟨W2.heap.size,0,none⟩) n n);have i4:=((k4 53 (by decide)).same _ _ i3).trans i3
 have hi:InosAt (some w.heap.size) W4 (some ⟨W1.heap.size,0,none⟩) 1 [⟨1,true,[],txt []⟩]:=by
  refine⟨rfl,fun _=>⟨W1.heap.size,0,rfl,(Array.getElem?_eq_some_iff.1 i4).1,fun B hB=>?_,fun j x hx=>?_⟩⟩
  ·cases hB;exact⟨by omega,_,i4⟩
  ·have hj:j=0:=by have:=(List.getElem?_eq_some_iff.1 hx).1;simpa using this
   subst hj;have ex:(⟨1,true,[],txt []⟩:Ino)=x:=by simpa using hx
   subst ex;refine⟨?_,?_,⟨none,0,0,?_,⟨Nat.le_refl _,fun _=>rfl⟩,rfl,fun h=>absurd h (by omega)⟩,?_⟩<;>(rw[cell_of_row W4 W1.heap.size _ _ _ (0,0) i4];rfl)
 have hd:DescsAt (some w.heap.size) W4 none 0 []:=⟨rfl,fun h=>absurd h (by omega)⟩;have hm:IntsAt (some w.heap.size) W4 (some ⟨W2.heap.size,0,none⟩) n (List.replicate n 0):=(hints.keep (k4 _ (by decide))).mono (by omega)
 have hst:StAt (some w.heap.size) W4 (.agg #[.slice (some ⟨W1.heap.size,0,none⟩) 1 1,.slice none 0 0,.slice (some ⟨W2.heap.size,0,none⟩) n n]) (newV n):=by
  refine⟨⟨_,1,1,_,0,0,_,n,n,rfl,hi,hd,hm,⟨Nat.le_refl _,fun h=>by cases h⟩,⟨Nat.le_refl _,fun _=>rfl⟩,⟨Nat.le_refl _,fun h=>by cases h⟩⟩,⟨?_,?_,?_,?_⟩⟩
  ·show 1+bulkE [⟨1,true,[],txt []⟩]+0+(List.replicate n (0:Int)).length≤_;rw[List.length_replicate]
   show 1+0+0+n≤_;omega
  ·intro x hx;have ex:x=⟨1,true,[],txt []⟩:=by simpa [newV] using hx
   subst ex;exact⟨Nat.zero_le _,fun e he=>by cases he⟩
  ·intro x hx;have ex:x=⟨1,true,[],txt []⟩:=by simpa [newV] using hx
   subst ex;exact⟨by show(-9223372036854775808:Int)≤1;omega,by show(1:Int)≤9223372036854775807;omega,fun e he=>by cases he⟩
  ·intro x hx
   have ex:x=0:=by
    have:=List.mem_replicate.1 (show x∈List.replicate n (0:Int) from hx);exact this.2
   subst ex;omega
 have HST:=hid hst;have HB4:=hid (b4 _ _ (Nat.le_refl _) hb3);have HO4:=hid o4;obtain⟨t0,t1,t2,_⟩:=o4.get;clear hst hi hd hm i4 i3 i2 o1 o3 o4 k4 b4 l1 l2 l3 hb3 hints z1 z2 gf
 go_enter Tryz.func8,Tryz.ntmps8
 go_wp2_with fail
 (try simp only[Exit.inBlock,Exit.then])
 refine bodyPost_ret (v:=.tuple #[.agg #[.slice (some ⟨W1.heap.size,0,none⟩) 1 1,.slice none 0 0,.slice (some ⟨W2.heap.size,0,none⟩) n n],.int .i64 0]) ?_ rfl ⟨_,rfl,HST.out,HB4.out⟩;rw[results_cell_tmp rfl];have hload:=run_loadVar_row (P:=Tryz.prog) W4 w.heap.size _ 27 _ (0,0) _ HO4.out Tryz.underlying27 rfl (by kernel_rfl);simp[asAddr,hload,Result.andThen]
end Go.Proofs.YtkflaifopbodfaaGreatDoor
