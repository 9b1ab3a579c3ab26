/- Parts of the proof, side by side: ShOf, HistOver. -/
import Derived.Test.YtkflaifopbodfaaGreatDoorM39
import Derived.Test.YtkflaifopbodfaaGreatDoorM24
import Derived.Test.YtkflaifopbodfaaGreatDoorM37
set_option linter.unusedVariables false
set_option linter.unusedSimpArgs false
namespace Go.Proofs.YtkflaifopbodfaaGreatDoor
open Lib (hid)
open Go.RowKit
def ofO (s:St):List UInt8:=if mayV s then ofL s else []
theorem zav {α:Type} (f:α→List UInt8) (c:Nat):∀l:List α,(∀a∈l,(f a).length≤c)→(l.flatMap f).length≤l.length*c
 | [],_=>by simp
 | a::l,h=>by
  have h1:=zav f c l (fun x hx=>h x (by simp[hx]));have h2:=h a (by simp);rw[List.flatMap_cons,List.length_append,List.length_cons,Nat.add_mul];omega
theorem Good.num_mem {s:St} (h:Good s) {x:Ino} (hx:x∈s.inos):1≤x.num∧x.num≤257:=by
 obtain⟨i,hi⟩:=List.getElem?_of_mem hx;exact h.num_at hi
theorem Good.data_mem {s:St} (h:Good s) {x:Ino} (hx:x∈s.inos):x.data.size≤256:=by
 by_cases hd:x.dir=true
 ·have:=(h.dirs x hx hd).1;omega
 ·exact(h.files x hx (by simpa using hd)).2
theorem Good.desc_mem {s:St} (h:Good s) {d:Ds} (hd:d∈s.opn):(0≤d.core∧d.core≤8)∧(0≤d.fd∧d.fd≤4)∧(1≤d.num∧d.num≤257):=by
 obtain⟨a1,a2,a3,a4,i,x,_,a5,a6,a7⟩:=h.opens d hd;have:=h.num_at a5;have:=h.m8;omega
def fU (s:St) (x:Ino):List UInt8:=if !x.dir&&decide (linkI s.inos x.num=0) then lineU x else []
theorem zf0 {x:Ino} (h:x.num≤257) (hd:x.data.size≤256):(lineU x).length≤600:=by
 have h3:(decN x.num).length≤3:=z2t (by omega);have h5:=zh4 x.data.data.toList;have h6:x.data.data.toList.length=x.data.size:=Array.length_toList;unfold lineU;simp only[List.length_cons,List.length_append,List.length_nil];omega
theorem Good.fU_len {s:St} (h:Good s) {x:Ino} (hx:x∈s.inos):(fU s x).length≤600:=by
 unfold fU
 split
 ·exact zf0 (h.num_mem hx).2 (h.data_mem hx)
 ·simp
theorem Good.fO_len {s:St} (h:Good s) {d:Ds} (hd:d∈s.opn):(lineO d).length≤600:=by
 obtain⟨⟨_,h1⟩,⟨_,h2⟩,⟨_,h3⟩⟩:=h.desc_mem hd;have e1:(decN d.core).length≤3:=z2t (by omega);have e2:(decN d.fd).length≤3:=z2t (by omega);have e3:(decN d.num).length≤3:=z2t (by omega);unfold lineO;simp only[List.length_cons,List.length_append,List.length_nil];omega
theorem Good.fM_len {s:St} (h:Good s) {m:Int} (hm:m∈s.made):((32:UInt8)::decN m).length≤600:=by
 have e1:(decN m).length≤3:=z2t (by have:=(h.mr m hm).2;omega);rw[List.length_cons];omega
theorem z8f {α:Type} (f:α→List UInt8) (l:List α) (k:Nat) (n:Nat) (h:∀a∈l,(f a).length≤600) (hn:l.length≤n):((l.take k).flatMap f).length≤n*600:=by
 have h1:=zav f 600 (l.take k) (fun a ha=>h a (List.mem_of_mem_take ha));have h2:(l.take k).length*600≤n*600:=Nat.mul_le_mul_right _ (by rw[List.length_take];omega);exact Nat.le_trans h1 h2
theorem zaw (x:Ino):lineU x=lineW [⟨#[117]⟩,txt (decN x.num),txt (hexT x.data.data.toList)]:=by
 rw[zng,z0s,z0s]
 rfl
theorem zax (d:Ds):lineO d=lineW [⟨#[111]⟩,txt (decN d.core),txt (decN d.fd),txt (decN d.num)]:=by
 rw[znh,z0s,z0s,z0s]
 rfl
set_option maxRecDepth 100000 in
set_option maxHeartbeats 8000000 in
theorem zd3 (v : Value) (s : St) (w : World) (h : StAt none w v s) (hT : Tab w) :
  Calls Tryz.prog 18 #[v] w fun e w'=>e=.returned (.tuple #[.string (txt (ofO s)),.int .i64 (codeO s)])∧Below w.heap.size w w':=by
 obtain⟨A,n,c,B,m,d,D,k,e,rfl⟩:∃A n c B m d D k e,v=.agg #[.slice A n c,.slice B m d,.slice D k e]:=by
  obtain⟨⟨A,n,c,B,m,d,D,k,e,hv,_⟩,_⟩:=h;exact⟨A,n,c,B,m,d,D,k,e,hv⟩
 obtain⟨W,hW,b0,b1,b2,hal,hlt0⟩:=z0u w A n c B m d D k e;have HP:=hid (zl5 h hW).1;have HS:=hid (h.below hal);have HAL:=hid hal;have HT:=hid (hT.below hal);obtain⟨FO,hFO⟩:∃FO,txt (filesO s)=FO:=⟨_,rfl⟩;obtain⟨CO,hCO⟩:∃CO,codeO s=CO:=⟨_,rfl⟩;have hfiles:=zg7 _ s W (h.below hal) (hT.below hal);rw[hFO,hCO] at hfiles;have HF:=hid hfiles;have HFO:=hid hFO;have HCO:=hid hCO;clear h hal hT hfiles hFO hCO
 go_enter Tryz.func18,Tryz.ntmps18
 go_wp2_with fail;refine HF.out.mono ?_;rintro e5 w5 ⟨rfl,hb5⟩;have HB5:=hid hb5;have HB05:=hid (Cv.next HAL.out hb5);have HLT:w.heap.size<w5.heap.size:=Nat.lt_of_lt_of_le hlt0 hb5.size;have d0:=(hb5.cell (p:=⟨w.heap.size,0,none⟩) hlt0).trans b0;have d1:=(hb5.cell (p:=⟨w.heap.size,1,none⟩) hlt0).trans b1;have d2:=(hb5.cell (p:=⟨w.heap.size,2,none⟩) hlt0).trans b2;clear hb5 b0 b1 b2
 by_cases hm:mayV s=true
 rotate_left
 ·have hm':mayV s=false:=by simpa using hm
  have hco:CO=1400:=by rw[←HCO.out];unfold codeO;rw[hm'];rfl
  subst hco;have hof:ofO s=[]:=by unfold ofO;rw[hm'];rfl
  have HOF:=hid hof;clear hm hm' hof;go_wp2_with fail;go_ret2;exact⟨by rw[HOF.out,HCO.out];rfl,HB05.out⟩
 ·have hG := (z1b s).1 hm;have hco : CO = 0 := by rw [← HCO.out]; unfold codeO; rw [hm]; rfl
  subst hco;have hof:ofO s=ofL s:=by unfold ofO;rw[if_pos hm]
  have hfo:filesO s=filesL s:=by unfold filesO;rw[if_pos hm]
  have HOF:=hid hof;have HFL:=hid hfo;have HG:=hid hG;obtain⟨W2,hW2⟩:∃W2,w5.alloc (.cells #[.pointer (some ⟨w.heap.size,0,none⟩),.pointer none,.slice none 0 0] 83)=W2:=⟨_,rfl⟩;obtain⟨hbl2,hal2⟩:=zni _ _ _ hW2;have hS5:=HS.out.below HB5.out
  obtain⟨hI,hD,hM⟩:InosAt none w5 A n s.inos∧DescsAt none w5 B m s.opn∧IntsAt none w5 D k s.made:=by
   obtain⟨⟨A',n',c',B',m',d',D',k',e',hv,h1,h2,h3,_⟩,_⟩:=hS5;cases hv;exact⟨h1,h2,h3⟩
  have hT5:=HT.out.below HB5.out;have hn:n≤1000:=by have:=hI.1;have:=hG.len;omega
  have hmm:m≤1000:=by have:=hD.1;have:=hG.opn_len;omega
  have hk:k≤1000:=by have:=hM.1;have:=hG.m8;omega
  have HI:=hid hI;have HD:=hid hD;have HM:=hid hM;have HS5:=hid hS5;have hit:∀(z:Int) W,0≤z→z≤1000→Below w5.heap.size w5 W→Calls Tryz.prog 36 #[.int .i64 z] W fun e w'=>e=.returned (.string (txt (decN z)))∧Below W.heap.size W w':=fun z W h0 h1 hW=>zd1 z h0 (by omega) W (hT5.below hW)
  have HIT:=hid hit;have x0:=(hal2.cell (p:=⟨w.heap.size,0,none⟩) HLT).trans d0;have HBL2:=hid hbl2;have HAL2:=hid hal2;clear hm hG hof hfo hbl2 hS5 hI hD hM hT5 hit hal2;go_wp2_with fail
  go_loopw [26] (fun v wr=>∃q:Nat,v=.int .i64 q∧q≤n∧BldS w5.heap.size w5.heap.size (.pointer (some ⟨w.heap.size,0,none⟩)) ((s.inos.take q).flatMap (fU s)) wr∧Below w5.heap.size w5 wr) (fun v _=>n-(intOf v).toNat)
  case atStart=>exact⟨0,rfl,by omega,HBL2.out,HAL2.out⟩
  case round =>
   obtain⟨q,rfl,hq,hbl,hbr⟩:=hrel;have HBL:=hid hbl;have HBR:=hid hbr;have hbl0:w5.heap.size<wr.heap.size:=hbl.lt;have y0:=(hbr.cell (p:=⟨w.heap.size,0,none⟩) HLT).trans d0;have y1:=(hbr.cell (p:=⟨w.heap.size,1,none⟩) HLT).trans d1;have y2:=(hbr.cell (p:=⟨w.heap.size,2,none⟩) HLT).trans d2;clear hbl x0
   by_cases hlt:q<n
   ·have hIr:=HI.out.below hbr;obtain⟨g,off,x,E,mx,dx,rfl,hg,hx,hd,hmem,c0,c1,c2,hok,hE,c3⟩:=hIr.get q hlt;obtain⟨V2,hV2,v0,v1,v2,v3,hal4,hlt4⟩:=z2v wr x.num x.dir E mx dx x.data;have hVr:Below w5.heap.size w5 V2:=hbr.trans (hal4.mono hbr.size);have hxm:=HG.out.num_mem hmem;have hxd:=HG.out.data_mem hmem;have htk:=z6e (fU s) s.inos q x hx;have hblV:=HBL.out.keep hal4;have z0:=(hVr.cell (p:=⟨w.heap.size,0,none⟩) HLT).trans d0;have z1:=(hVr.cell (p:=⟨w.heap.size,1,none⟩) HLT).trans d1;have z2:=(hVr.cell (p:=⟨w.heap.size,2,none⟩) HLT).trans d2;have HVR:=hid hVr;have HBLV:=hid hblV;have HTK:=hid htk;have hlenq:=z8f (fU s) s.inos q 1000 (fun a ha=>HG.out.fU_len ha) (by have:=HG.out.len;omega);have HLQ:=hid hlenq;have k0:(0:Int)≤(q:Int):=by omega
    have hH5:w.heap.size<V2.heap.size:=Nat.lt_of_lt_of_le HLT hVr.size;clear hIr hx hd hmem hok hE hal4 hVr htk hblV hlenq hbr;cases hdir:x.dir
    ·rw [hdir] at c1 v1 hV2;obtain ⟨LK, hLK⟩ : ∃ LK : Nat, linkI s.inos x.num = LK := ⟨_, rfl⟩;have hlinks := z8c _ s x.num V2 (HS5.out.below HVR.out);rw [hLK] at hlinks;have HLINKS := hid hlinks;have HLK := hid hLK;have HDIR := hid hdir;clear hlinks hLK hdir
     have hlnU:LK=0→∀w1 W,Below V2.heap.size V2 w1→w1.alloc (.cells #[.string ⟨#[117]⟩,.string (txt (decN x.num)),.string (txt (hexT x.data.data.toList))] 9)=W→Calls Tryz.prog 35 #[.pointer (some ⟨w5.heap.size,0,none⟩),.slice (some ⟨w1.heap.size,0,none⟩) 3 3] W fun e w'=>e=.returned (.tuple #[])∧BldS w5.heap.size w5.heap.size (.pointer (some ⟨w.heap.size,0,none⟩)) ((s.inos.take (q+1)).flatMap (fU s)) w'∧Below w5.heap.size w5 w'∧w'.cell? ⟨wr.heap.size,0,none⟩=some (.int .i64 x.num)∧w'.cell? ⟨wr.heap.size,3,none⟩=some (.string x.data):=fun h0 w1 W h1 hW=>by
      have hfu:fU s x=lineU x:=by
       unfold fU;rw[HDIR.out,HLK.out,h0]
       rfl
      have hb1:w5.heap.size≤w1.heap.size:=Nat.le_trans HVR.out.size h1.size
      refine(z5e w5.heap.size w5.heap.size _ _ [⟨#[117]⟩,txt (decN x.num),txt (hexT x.data.data.toList)] w1 W 3 rfl (HBLV.out.keep h1) hW (by simp) hb1 (by
       have h3:=zf0 hxm.2 hxd;rw[zaw] at h3;have h4:=HLQ.out;omega)).mono ?_
      rintro e w' ⟨rfl,h3,h4⟩;rw[HTK.out,hfu,zaw];have hblk:V2.heap[wr.heap.size]? =some (.cells #[.int .i64 x.num,.bool false,.slice E mx dx,.string x.data] 53 (0,0)):=by rw[←hV2];exact heap_alloc_new wr _
      have hblk2:=h4.keep _ _ ((h1.block wr.heap.size hlt4).trans hblk) (by omega) (fun cs fr he=>by injection he with _ he _;exact absurd he (by decide));exact⟨rfl,h3,(HVR.out.trans (h1.mono HVR.out.size)).trans h4.below,by rw[Lib.cell_of_heap hblk2];rfl,by rw[Lib.cell_of_heap hblk2];rfl⟩
     have HLNU:=hid hlnU;have HDAT:=hid hxd;have HNUM:=hid hxm;have HV0:=hid (And.intro v0 v3);clear hlnU hxd hxm;go_wp2_with fail;refine HLINKS.out.mono ?_;rintro e6 w6 ⟨rfl,hb6⟩;have u0:=(hb6.cell (p:=⟨wr.heap.size,0,none⟩) hlt4).trans HV0.out.1;have u3:=(hb6.cell (p:=⟨wr.heap.size,3,none⟩) hlt4).trans HV0.out.2;have HB6:=hid hb6;clear hb6 v0 v1 v2 v3 z0 z1 z2 y0 y1 y2 c0 c1 c2 c3
     by_cases hz:LK=0
     ·have HZ:=hid hz;subst hz;go_wp2_with fail
      go_region_held3 (fun w'=>w'.cell? ⟨wr.heap.size,0,none⟩=some (.int .i64 x.num)∧w'.cell? ⟨wr.heap.size,3,none⟩=some (.string x.data))
       (first
        | go_keep
        | (go_split_ands;refine⟨?_,?_⟩<;>exact cell_later hb7 (by assumption))
        | (go_split_ands;refine⟨?_,?_⟩<;>exact cell_later hb8 (by assumption))
        | (go_split_ands;refine⟨?_,?_⟩<;>go_keep)
        | exact⟨s9,t9⟩)
       (first
        | (go_at_call 36;refine(HIT.out x.num _ (by have:=HNUM.out;omega) (by have:=HNUM.out;omega) ((HVR.out.trans (HB6.out.mono HVR.out.size)).trans ((Below.drew (Below.refl _ _)).mono (HVR.out.trans (HB6.out.mono HVR.out.size)).size))).mono ?_;rintro e7 w7 ⟨rfl,hb7⟩)
        | (go_at_call 37;refine(zez x.data w7 (by have:=HDAT.out;omega)).mono ?_;rintro e8 w8 ⟨rfl,hb8⟩;have hb9:Below V2.heap.size V2 w8:=(HB6.out.trans (((Below.drew (Below.refl w6.heap.size w6)).trans hb7).mono HB6.out.size)).trans (hb8.mono (Nat.le_trans HB6.out.size hb7.size)))
        | (go_at_call 35;refine(HLNU.out HZ.out w8 _ hb9 rfl).mono ?_;rintro e9 w9 ⟨rfl,hl9,hw9,s9,t9⟩))
      have HL9:=hid hl9;have HW9:=hid hw9;clear hl9 hw9 s9 t9 hb7 hb8 hb9 u0 u3;go_wp2_with fail;go_roundw
      case rel=>exact⟨q+1,by go_num,by omega,HL9.out,HW9.out⟩
      case measure=>simp[intOf];omega
     ·have hq0:((LK:Int)==0)=false:=by rw[beq_eq_false_iff_ne];omega
      have hfu:fU s x=[]:=by
       unfold fU;rw[HDIR.out,HLK.out,decide_eq_false hz]
       rfl
      have hblq:BldS w5.heap.size w5.heap.size (.pointer (some ⟨w.heap.size,0,none⟩)) ((s.inos.take (q+1)).flatMap (fU s)) w6:=by
       rw[HTK.out,hfu,List.append_nil];exact HBLV.out.keep HB6.out
      have HBQ:=hid hblq;have HB7:=hid (HVR.out.trans (HB6.out.mono HVR.out.size));clear hfu hblq hz;go_wp2_with fail;go_roundw
      case rel=>exact⟨q+1,by go_num,by omega,HBQ.out,HB7.out⟩
      case measure=>simp[intOf];omega
    ·rw[hdir] at c1 v1 hV2
     have hfu:fU s x=[]:=by
      unfold fU;rw[hdir]
      rfl
     have hblq:BldS w5.heap.size w5.heap.size (.pointer (some ⟨w.heap.size,0,none⟩)) ((s.inos.take (q+1)).flatMap (fU s)) V2:=by
      rw[HTK.out,hfu,List.append_nil];exact HBLV.out
     have HBQ:=hid hblq;clear hfu hblq;go_wp2_with fail;go_roundw
     case rel=>exact⟨q+1,by go_num,by omega,HBQ.out,HVR.out⟩
     case measure=>simp[intOf];omega
   ·have hall : s.inos.take q = s.inos := List.take_of_length_le (by have := HI.out.1; omega);have hbl := HBL.out;rw [hall] at hbl;have hulen := z8f (fU s) s.inos s.inos.length 257 (fun a ha => HG.out.fU_len ha) HG.out.len;rw [List.take_length] at hulen;obtain ⟨UL, hUL⟩ : ∃ UL, s.inos.flatMap (fU s) = UL := ⟨_, rfl⟩;rw [hUL] at hbl hulen;have HBLA := hid hbl;have HULN := hid hulen;have HUL := hid hUL;clear hall hbl hulen hUL hbr y0;go_wp2_with fail
    go_loopw [53] (fun v wr=>∃q:Nat,v=.int .i64 q∧q≤m∧BldS w5.heap.size w5.heap.size (.pointer (some ⟨w.heap.size,0,none⟩)) (UL++(s.opn.take q).flatMap lineO) wr∧Below w5.heap.size w5 wr) (fun v _=>m-(intOf v).toNat)
    case atStart=>exact⟨0,rfl,by omega,by rw[List.take_zero,List.flatMap_nil,List.append_nil];exact HBLA.out,HBR.out⟩
    case round =>
     obtain⟨j,rfl,hj,hbl,hbr⟩:=hrel;have HBL:=hid hbl;have HBR:=hid hbr;have hbl0:w5.heap.size<wr.heap.size:=hbl.lt;have y2:=(hbr.cell (p:=⟨w.heap.size,2,none⟩) HLT).trans d2;clear hbl
     by_cases hlt2:j<m
     ·have hDr:=HD.out.below hbr;obtain⟨g2,off2,y,rfl,hg2,hy,hd,hmem,c0,c1,c2⟩:=hDr.get j hlt2;obtain⟨V2,hV2,v0,v1,v2,hal4,hlt4⟩:=z5h wr y.core y.fd y.num;have hVr:Below w5.heap.size w5 V2:=hbr.trans (hal4.mono hbr.size);have hdm:=HG.out.desc_mem hmem;have htk:=z6e lineO s.opn j y hy;have hblV:=HBL.out.keep hal4;have hlenq:=z8f lineO s.opn j 32 (fun a ha=>HG.out.fO_len ha) HG.out.opn_len;have hol:=HG.out.fO_len hmem;have HVR:=hid hVr;have HBLV:=hid hblV;have hitC:∀W,Below V2.heap.size V2 W→Calls Tryz.prog 36 #[.int .i64 y.core] W fun e w'=>e=.returned (.string (txt (decN y.core)))∧Below W.heap.size W w':=fun W hW=>HIT.out y.core W (by omega) (by omega) (HVR.out.trans (hW.mono HVR.out.size))
      have hitF:∀W,Below V2.heap.size V2 W→Calls Tryz.prog 36 #[.int .i64 y.fd] W fun e w'=>e=.returned (.string (txt (decN y.fd)))∧Below W.heap.size W w':=fun W hW=>HIT.out y.fd W (by omega) (by omega) (HVR.out.trans (hW.mono HVR.out.size))
      have hitN:∀W,Below V2.heap.size V2 W→Calls Tryz.prog 36 #[.int .i64 y.num] W fun e w'=>e=.returned (.string (txt (decN y.num)))∧Below W.heap.size W w':=fun W hW=>HIT.out y.num W (by omega) (by omega) (HVR.out.trans (hW.mono HVR.out.size))
      have hln:∀w1 W,Below V2.heap.size V2 w1→w1.alloc (.cells #[.string ⟨#[111]⟩,.string (txt (decN y.core)),.string (txt (decN y.fd)),.string (txt (decN y.num))] 9)=W→Calls Tryz.prog 35 #[.pointer (some ⟨w5.heap.size,0,none⟩),.slice (some ⟨w1.heap.size,0,none⟩) 4 4] W fun e w'=>e=.returned (.tuple #[])∧BldS w5.heap.size w5.heap.size (.pointer (some ⟨w.heap.size,0,none⟩)) (UL++(s.opn.take (j+1)).flatMap lineO) w'∧Below w5.heap.size w5 w'∧w'.cell? ⟨wr.heap.size,0,none⟩=some (.int .i64 y.core)∧w'.cell? ⟨wr.heap.size,1,none⟩=some (.int .i64 y.fd)∧w'.cell? ⟨wr.heap.size,2,none⟩=some (.int .i64 y.num):=fun w1 W h1 hW=>by
       have hb1:w5.heap.size≤w1.heap.size:=Nat.le_trans HVR.out.size h1.size;have h4:=HULN.out
       refine(z5e w5.heap.size w5.heap.size _ _ [⟨#[111]⟩,txt (decN y.core),txt (decN y.fd),txt (decN y.num)] w1 W 4 rfl (HBLV.out.keep h1) hW (by simp) hb1 (by
        rw[zax] at hol;rw[List.length_append];omega)).mono ?_
       rintro e w' ⟨rfl,h3,h4⟩;rw[htk,←List.append_assoc,zax];have hblk:V2.heap[wr.heap.size]? =some (.cells #[.int .i64 y.core,.int .i64 y.fd,.int .i64 y.num] 89 (0,0)):=by rw[←hV2];exact heap_alloc_new wr _
       have hblk2:=h4.keep _ _ ((h1.block wr.heap.size hlt4).trans hblk) (by omega) (fun cs fr he=>by injection he with _ he _;exact absurd he (by decide));exact⟨rfl,h3,(HVR.out.trans (h1.mono HVR.out.size)).trans h4.below,by rw[Lib.cell_of_heap hblk2];rfl,by rw[Lib.cell_of_heap hblk2];rfl,by rw[Lib.cell_of_heap hblk2];rfl⟩
      have HITC:=hid hitC;have HITF:=hid hitF;have HITN:=hid hitN;have HLNO:=hid hln;have k0:(0:Int)≤(j:Int):=by omega
      clear hDr hy hd hmem hal4 hVr htk hblV hlenq hbr hitC hitF hitN hln hol hdm y2;go_wp2_with fail
      go_region_held3 (fun w'=>w'.cell? ⟨wr.heap.size,0,none⟩=some (.int .i64 y.core)∧w'.cell? ⟨wr.heap.size,1,none⟩=some (.int .i64 y.fd)∧w'.cell? ⟨wr.heap.size,2,none⟩=some (.int .i64 y.num))
       (first
        | go_keep
        | (go_split_ands;refine⟨?_,?_,?_⟩<;>exact cell_later hb7 (by assumption))
        | (go_split_ands;refine⟨?_,?_,?_⟩<;>exact cell_later hb8 (by assumption))
        | (go_split_ands;refine⟨?_,?_,?_⟩<;>exact cell_later hb9 (by assumption))
        | (go_split_ands;refine⟨?_,?_,?_⟩<;>go_keep)
        | exact⟨s9,t9,r9⟩)
       (first
        | (go_at_call 36;refine(HITC.out _ (Below.drew (Below.refl _ _))).mono ?_;rintro e7 w7 ⟨rfl,hb7⟩;have hb7V:Below V2.heap.size V2 w7:=(Below.drew (Below.refl _ _)).trans hb7)
        | (go_at_call 36;refine(HITF.out w7 hb7V).mono ?_;rintro e8 w8 ⟨rfl,hb8⟩;have hb8V:Below V2.heap.size V2 w8:=hb7V.trans (hb8.mono hb7V.size))
        | (go_at_call 36;refine(HITN.out w8 hb8V).mono ?_;rintro e9 w9 ⟨rfl,hb9⟩;have hb9V:Below V2.heap.size V2 w9:=hb8V.trans (hb9.mono hb8V.size))
        | (go_at_call 35;refine(HLNO.out w9 _ hb9V rfl).mono ?_;rintro e10 w10 ⟨rfl,hl10,hw10,s9,t9,r9⟩))
      have HL9:=hid hl10;have HW9:=hid hw10;clear hl10 hw10 s9 t9 r9 hb7 hb8 hb9 hb7V hb8V hb9V v0 v1 v2;go_wp2_with fail;go_roundw
      case rel=>exact⟨j+1,by go_num,by omega,HL9.out,HW9.out⟩
      case measure=>simp[intOf];omega
     ·have hall:s.opn.take j=s.opn:=List.take_of_length_le (by have:=HD.out.1;omega);have hbl:=HBL.out;rw[hall] at hbl;have holen:=z8f lineO s.opn s.opn.length 32 (fun a ha=>HG.out.fO_len ha) HG.out.opn_len;rw[List.take_length] at holen;obtain⟨OL,hOL⟩:∃OL,s.opn.flatMap lineO=OL:=⟨_,rfl⟩;rw[hOL] at hbl holen;have HOLN:=hid holen;have HOL:=hid hOL
      have hwb:Calls Tryz.prog 38 #[.pointer (some ⟨w5.heap.size,1,none⟩),.int .u8 109] wr fun e w'=>(∃v,e=.returned v)∧BldS w5.heap.size w5.heap.size (.pointer (some ⟨w.heap.size,0,none⟩)) (UL++OL++[109]) w'∧Below w5.heap.size w5 w':=by
       refine(zb2 w5.heap.size w5.heap.size _ (UL++OL) 109 109 wr rfl hbl (by
        have:=HULN.out;rw[List.length_append];omega) hbr.size).mono ?_
       rintro e w' ⟨rfl,h3,h4⟩;exact⟨⟨_,rfl⟩,h3,hbr.trans h4.below⟩
      have HWB:=hid hwb;clear hall hbl holen hOL hwb hbr;go_wp2_with fail;refine HWB.out.mono ?_;rintro e6 w6 ⟨⟨v6,rfl⟩,hl6,hb6⟩;have y2':=(hb6.cell (p:=⟨w.heap.size,2,none⟩) HLT).trans d2;have HL6:=hid hl6;have HB6:=hid hb6;clear hl6 hb6 y2;go_wp2_with fail
      go_loopw [77] (fun v wr=>∃q:Nat,v=.int .i64 q∧q≤k∧BldS w5.heap.size w5.heap.size (.pointer (some ⟨w.heap.size,0,none⟩)) ((UL++OL++[109])++madeSh (s.made.take q)) wr∧Below w5.heap.size w5 wr) (fun v _=>k-(intOf v).toNat)
      case atStart=>exact⟨0,rfl,by omega,by rw[List.take_zero];show BldS _ _ _ ((UL++OL++[109])++[]) _;rw[List.append_nil];exact HL6.out,HB6.out⟩
      case round=>
       obtain⟨j,rfl,hj,hbl,hbr⟩:=hrel;have HBL:=hid hbl;have HBR:=hid hbr;have hbl0:w5.heap.size<wr.heap.size:=hbl.lt;clear hbl y2'
       by_cases hlt3:j<k
       ·have hMr:=HM.out.below hbr;obtain⟨g3,off3,rfl,hg3,hcm⟩:=hMr.2 (by omega);have hjl:j<s.made.length:=by have:=hMr.1;omega
        obtain⟨z,hz⟩:∃z,s.made[j]=z:=⟨_,rfl⟩;have hz2:s.made[j]? =some z:=by rw[List.getElem?_eq_getElem hjl,hz]
        have cz:=hcm.2 j z hz2;have hzr:=HG.out.mr z (List.mem_of_getElem? hz2);have htk:=z6e (fun m:Int=>(32:UInt8)::decN m) s.made j z hz2;obtain⟨DZ,hDZ⟩:∃DZ,txt (decN z)=DZ:=⟨_,rfl⟩;have hdl:DZ.data.toList=decN z:=by rw[←hDZ,z0s]
        have hds:DZ.size≤3:=by
         have h1:DZ.data.toList.length=DZ.size:=Array.length_toList;have h2:(decN z).length≤3:=z2t (by omega);rw[hdl] at h1;omega
        have hlenq:=z8f (fun m:Int=>(32:UInt8)::decN m) s.made j 8 (fun a ha=>HG.out.fM_len ha) HG.out.m8
        have hitz:∀W,Below wr.heap.size wr W→Calls Tryz.prog 36 #[.int .i64 z] W fun e w'=>e=.returned (.string DZ)∧Below W.heap.size W w':=fun W hW=>by
         rw[←hDZ];exact HIT.out z W (by omega) (by omega) (HBR.out.trans (hW.mono HBR.out.size))
        have hws:∀w1,Below wr.heap.size wr w1→Calls Tryz.prog 39 #[.pointer (some ⟨w5.heap.size,1,none⟩),.string ((⟨#[32]⟩:ByteArray)++DZ)] w1 fun e w'=>(∃v,e=.returned v)∧BldS w5.heap.size w5.heap.size (.pointer (some ⟨w.heap.size,0,none⟩)) ((UL++OL++[109])++madeSh (s.made.take (j+1))) w'∧Below w5.heap.size w5 w':=fun w1 h1=>by
         obtain⟨S,hS⟩:∃S:ByteArray,(⟨#[32]⟩:ByteArray)++DZ=S:=⟨_,rfl⟩;have hsd:S.data.toList=32::decN z:=by rw[←hS,←hdl];simp
         have hsl:S.data.toList.length=S.size:=Array.length_toList;have h5:=HULN.out;have h6:=HOLN.out;have h7:(madeSh (s.made.take j)).length≤8*600:=hlenq
         have hs5:((UL++OL++[109])++madeSh (s.made.take j)).length+S.size≤140737488355328:=by
          have h2:(decN z).length≤3:=z2t (by omega);rw[hsd,List.length_cons] at hsl;simp only[List.length_append,List.length_cons,List.length_nil];omega
         rw[hS];refine(z3v w5.heap.size w5.heap.size _ _ S w1 (HBL.out.keep h1) hs5 (Nat.le_trans HBR.out.size h1.size)).mono ?_;rintro e3 w3 ⟨rfl,hbl3,hw3⟩;refine⟨⟨_,rfl⟩,?_,(HBR.out.trans (h1.mono HBR.out.size)).trans hw3.below⟩;have h8:madeSh (s.made.take (j+1))=madeSh (s.made.take j)++S.data.toList:=by rw[hsd];exact htk
         rw[h8,←List.append_assoc];exact hbl3
        have HITZ:=hid hitz;have HWS:=hid hws;have k0:(0:Int)≤(j:Int):=by omega
        clear hMr hcm hz hz2 hzr htk hDZ hdl hlenq hitz hws hbr hjl;go_wp2_with fail
        go_region_with (first
         | (go_at_call 36;refine(HITZ.out _ (Below.drew (Below.refl _ _))).mono ?_;rintro e7 w7 ⟨rfl,hb7⟩;have hb7V:Below wr.heap.size wr w7:=(Below.drew (Below.refl _ _)).trans hb7)
         | (go_at_call 39;refine(HWS.out w7 hb7V).mono ?_;rintro e8 w8 ⟨⟨v8,rfl⟩,hl8,hb8⟩))
        have HL8:=hid hl8;have HB8:=hid hb8;clear hl8 hb8 hb7 hb7V;go_wp2_with fail;go_roundw
        case rel=>exact⟨j+1,by go_num,by omega,HL8.out,HB8.out⟩
        case measure=>simp[intOf];omega
       ·have hall:s.made.take j=s.made:=List.take_of_length_le (by have:=HM.out.1;omega);have hbl:=HBL.out;rw[hall] at hbl;have hmlen:=z8f (fun m:Int=>(32:UInt8)::decN m) s.made s.made.length 8 (fun a ha=>HG.out.fM_len ha) HG.out.m8;rw[List.take_length] at hmlen;have hml2:(madeSh s.made).length≤8*600:=hmlen;obtain⟨RL,hRL⟩:∃RL,(UL++OL++[109])++madeSh s.made=RL:=⟨_,rfl⟩
        have hrlen:RL.length≤1000000:=by
         have h5:=HULN.out;have h6:=HOLN.out;rw[←hRL];simp only[List.length_append,List.length_cons,List.length_nil];omega
        have hrne:RL≠[]:=by rw[←hRL];simp
        have hrest:RL=restL s:=by
         rw[←hRL,←HUL.out,←HOL.out];unfold restL opnL;rw[List.append_assoc,List.append_assoc]
         rfl
        have hfos:FO.size≤17179869184:=by
         have h1:FO.data.toList.length=FO.size:=Array.length_toList;rw[←HFO.out,HFL.out,z0s] at h1;have h2:=HG.out.files_len;rw[←HFO.out,HFL.out];omega
        rw[hRL] at hbl;have HBL2:=hid hbl;have HRNE:=hid hrne;have HREST:=hid hrest;clear hall hbl hmlen hml2 hRL hrne hrest hbr;go_wp2_with fail;refine(zau _ _ _ _ _ HBL2.out HRNE.out).mono ?_;rintro e7 w7 ⟨rfl,hl7,hw7⟩;have hb7:Below w5.heap.size w5 w7:=HBR.out.trans hw7.below;have HB7:=hid hb7;clear hl7 hw7 hb7;go_wp2_with fail;go_ret2;refine⟨?_,HB05.out.trans (HB7.out.mono HB05.out.size)⟩;rw[HCO.out,HOF.out]
        have hfin:((FO++(⟨RL.toArray⟩:ByteArray))++⟨#[10]⟩)=txt (ofL s):=by
         rw[←HFO.out,HFL.out,HREST.out];unfold txt ofL;have e1:=zd2 (filesL s) (restL s);have e2:=zd2 (filesL s++restL s) [10];rw[e1,←List.append_assoc];exact e2
        rw[←hfin]
        rfl
def SeAt (w:World) (p:Nat) (B:Option Addr) (n cap:Nat) (fm:Nat) (lb:ByteArray):Prop:=w.heap[p]? =some (.cells #[.slice B n cap,.map (some fm),.string lb] 59 (0,0))
theorem SeAt.get {w:World} {p:Nat} {B:Option Addr} {n cap fm:Nat} {lb:ByteArray} (h:SeAt w p B n cap fm lb):w.cell? ⟨p,0,none⟩=some (.slice B n cap)∧w.cell? ⟨p,1,none⟩=some (.map (some fm))∧w.cell? ⟨p,2,none⟩=some (.string lb):=by
 refine⟨?_,?_,?_⟩<;>(rw[cell_of_row w p _ _ _ (0,0) h];rfl)
theorem SeAt.lt {w:World} {p:Nat} {B:Option Addr} {n cap fm:Nat} {lb:ByteArray} (h:SeAt w p B n cap fm lb):p<w.heap.size:=(Array.getElem?_eq_some_iff.1 h).1
theorem SeAt.go {w w':World} {p:Nat} {B:Option Addr} {n cap fm:Nat} {lb:ByteArray} (h:SeAt w p B n cap fm lb) (hb:Below w.heap.size w w'):SeAt w' p B n cap fm lb:=(hb.block p h.lt).trans h
theorem zjb {d q:Nat} {ops:List Op} {o:Op} (h:ops[q]? =some o):doneL d (ops.drop q) q=((d.testBit q||decide (o.fin=-1))&&doneL d (ops.drop (q+1)) (q+1)):=by
 rw[List.drop_eq_getElem_cons (List.getElem?_eq_some_iff.1 h).1,doneL,(List.getElem?_eq_some_iff.1 h).2]
theorem zg8 (d q:Nat) (hd:d<1024):bits .and .i64 ((d:Int) / 2^q) 1=if d.testBit q then 1 else 0:=by
 have e:((d:Int) / 2^q)=((d / 2^q:Nat):Int):=by rw[Int.natCast_ediv,Int.natCast_pow];rfl
 rw[e,Nat.testBit_eq_decide_div_mod_eq];have hm:d / 2^q<1024:=Nat.lt_of_le_of_lt (Nat.div_le_self _ _) hd;generalize d / 2^q=m at hm
 have h1:(BitVec.ofInt 64 (m:Int)&&& BitVec.ofInt 64 (1:Int)).toNat=m%2:=by
  rw[BitVec.toNat_and,BitVec.ofInt_natCast,BitVec.toNat_ofNat,Nat.mod_eq_of_lt (by omega),←Nat.and_one_is_mod]
  rfl
 show IntKind.i64.wrap ((BitVec.ofInt 64 (m:Int)&&& BitVec.ofInt 64 (1:Int)).toNat:Int)=_;rw[h1,IntWalk.i64_in _ (by omega)]
 by_cases h:m%2=1
 ·rw[h];simp
 ·have:m%2=0:=by omega
  rw[this];simp
set_option maxRecDepth 100000 in
set_option maxHeartbeats 4000000 in
theorem zn3 (p:Nat) (v:Value) (s:St) (B:Option Addr) (n cap fm:Nat) (lb:ByteArray) (d:Nat) (ops:List Op) (w:World) (hse:SeAt w p B n cap fm lb) (ho:OpsAt w B n ops) (hs:StAt none w v s) (hm:mayV s=true) (hT:Tab w) (hn9:n≤10) (hd:d<1024):
  Calls Tryz.prog 21 #[.pointer (some ⟨p,0,none⟩),v,.int .i64 d] w fun e w'=>e=.returned (.bool (overV ops lb.data.toList s d))∧Below w.heap.size w w':=by
 obtain⟨A,n',c',E,m,d',D,k,e,rfl,_⟩:=hs.at_;obtain⟨W,hW,a0,a1,a2,hal,hlt0⟩:=z0u w A n' c' E m d' D k e;have hse':=hse.go hal;obtain⟨p0,p1,p2⟩:=hse'.get;have HSE:=hid hse';have HS:=hid (hs.below hal);have HO:=hid (ho.below hal);have HT:=hid (hT.below hal);have HB0:=hid hal;have HL:=hid ho.1;have HM:=hid hm;have hlp:=hse'.lt;clear hse hse' ho hs hm hT hal;obtain⟨R,hR⟩:∃R,doneL d ops 0=R:=⟨_,rfl⟩;have hov:overV ops lb.data.toList s d=(R&&(decide (lb.data.toList=[])||decide (ofL s=lb.data.toList))):=by rw[←hR];rfl
 rw[hov];have HR:=hid hR;clear hR hov
 go_enter Tryz.func21,Tryz.ntmps21
 go_wp2_with fail
 go_loopw [16] (fun j wr=>∃q:Nat,j=.int .i64 q∧q≤n∧doneL d (ops.drop q) q=R∧Below W.heap.size W wr) (fun j _=>n-(intOf j).toNat)
 case atStart=>exact⟨0,rfl,by omega,HR.out,Below.refl _ _⟩
 case round=>
  obtain⟨q,rfl,hq,hrest,hb⟩:=hrel;have HREST:=hid hrest;have HB:=hid hb;clear hrest;have x0:=(hb.cell (p:=⟨p,0,none⟩) hlp).trans p0;have x1:=(hb.cell (p:=⟨p,1,none⟩) hlp).trans p1;have x2:=(hb.cell (p:=⟨p,2,none⟩) hlp).trans p2
  by_cases hlt:q<n
  ·obtain⟨g,off,o,rfl,hg,hoq,hat⟩:=(HO.out.below hb).get q hlt;obtain⟨F,f,f9,hok,hnm,hoo,hg2,c0,c1,c2,c3,c4,c5,c6,c7,c8,c9,c10,c11,c12,c13,c14,c15⟩:=hat.get;have HOQ:=hid hoq;have q0:(0:Int)≤(q:Int):=by omega
   have q1:(q:Int)<(n:Int):=by omega
   have q2:(q:Int).toNat=q:=by omega
   have hst:=zjb (d:=d) hoq;rw[HREST.out] at hst;have HST:=hid hst;clear hb hoq hat hok hnm hoo hst;have hbit:=zg8 d q hd;have HB2:=hid (HB.out.alloc (HB.out.size) (.cells #[.int .i64 o.call.kind,.int .i64 o.call.core,.int .i64 o.call.fd,.int .i64 o.call.off,.int .i64 o.call.num,.string o.call.path,.string o.call.path2,.string o.call.data,.int .i64 o.res.code,.int .i64 o.res.fd,.int .i64 o.res.num,.bool o.res.dir,.string o.res.data,.slice F f f9,.int .i64 o.beg,.int .i64 o.fin] 37));cases htb:d.testBit q
   ·rw[htb] at hbit;have hbit0:bits .and .i64 ((d:Int) / 2^q) 1=0:=by rw[hbit];rfl
    have HTB:=hid htb;clear htb hbit
    by_cases h6:o.fin=-1
    ·have h6':(o.fin !=-1)=false:=by rw[bne_eq_false_iff_eq];exact h6
     have H6:=hid h6;clear h6;go_wp2_with fail;go_roundw
     case rel=>exact⟨q+1,by go_num,by omega,by have h9:=HST.out;rw[HTB.out,decide_eq_true H6.out] at h9;simpa using h9.symm,HB2.out⟩
     case measure=>simp[intOf];omega
    ·have h6':(o.fin !=-1)=true:=by rw[bne_iff_ne];exact h6
     have hr0:R=false:=by rw[HST.out,HTB.out,decide_eq_false h6];rfl
     subst hr0;clear h6;go_wp2_with fail;go_ret;exact⟨rfl,Cv.next HB0.out HB2.out⟩
   ·rw[htb] at hbit;have hbit0:¬bits .and .i64 ((d:Int) / 2^q) 1=0:=by rw[hbit];decide
    have HTB:=hid htb;clear htb hbit;go_wp2_with fail;go_roundw
    case rel=>exact⟨q+1,by go_num,by omega,by have h9:=HST.out;rw[HTB.out] at h9;simpa using h9.symm,HB2.out⟩
    case measure=>simp[intOf];omega
  ·have hqn:q=n:=by omega
   have hr0:R=true:=by
    have h9:=HREST.out;rw[hqn,←HL.out,List.drop_length] at h9;exact h9.symm
   subst hr0;clear hb
   by_cases hlb:lb.data.toList=[]
   ·have hlb0:lb=⟨#[]⟩:=ByteArray.ext (Array.toList_inj.1 (by rw[hlb]));subst hlb0;clear hlb;go_wp2_with fail;go_ret;exact⟨rfl,Cv.next HB0.out HB.out⟩
   ·have hlb1:(lb.toList==[])=false:=by rw[ByteArray.toList_eq,beq_eq_false_iff_ne];exact hlb
    have hlb2:lb.toList.isEmpty=false:=by rw[ByteArray.toList_eq,List.isEmpty_eq_false_iff];exact hlb
    have HLB:=hid hlb;clear hlb;have y0:=(HB.out.cell (p:=⟨w.heap.size,0,none⟩) hlt0).trans a0;have y1:=(HB.out.cell (p:=⟨w.heap.size,1,none⟩) hlt0).trans a1;have y2:=(HB.out.cell (p:=⟨w.heap.size,2,none⟩) hlt0).trans a2;have hlpr:=Nat.lt_of_lt_of_le hlp HB.out.size;go_wp2_with fail;have h1:=zd3 _ s wr (HS.out.below HB.out) (HT.out.below HB.out);obtain⟨XS,hXS⟩:∃X,txt (ofO s)=X:=⟨_,rfl⟩;rw[hXS,show codeO s=0 by unfold codeO;rw[if_pos HM.out]] at h1;have HXS:=hid hXS;clear hXS;refine h1.mono ?_;clear h1;rintro e w6 ⟨rfl,hb6⟩;have z2:=(hb6.cell (p:=⟨p,2,none⟩) hlpr).trans x2;have HB6:=hid (Cv.next (Cv.next HB0.out HB.out) hb6);clear hb6 x0 x1 x2 y0 y1 y2;go_wp2_with fail;go_ret;refine⟨?_,HB6.out⟩;have e1:XS.toList=ofL s:=by rw[←HXS.out,ByteArray.toList_eq,z0s];unfold ofO;rw[if_pos HM.out]
    have e2:(true&&(decide (lb.data.toList=[])||decide (ofL s=lb.data.toList)))=(XS.toList==lb.toList):=by
     rw[e1,ByteArray.toList_eq,decide_eq_false HLB.out,Bool.true_and,Bool.false_or]
     by_cases h:ofL s=lb.data.toList<;>simp[h]
    rw[e2]
    rfl
end Go.Proofs.YtkflaifopbodfaaGreatDoor
