/- make1 of the document (Create, Mkdir): by its contract. -/
import Derived.Test.YtkflaifopbodfaaGreatDoorM05
import Derived.Test.YtkflaifopbodfaaGreatDoorM06
import Derived.Deep.RegionHeld3
set_option linter.unusedVariables false
set_option linter.unusedSimpArgs false
namespace Go.Proofs.YtkflaifopbodfaaGreatDoor
open Lib (hid)
open Go.RowKit
theorem z4p (n:Int) (w:World):Calls Tryz.prog 27 #[.int .i64 n] w fun e w'=>e=.returned (.agg #[.int .i64 n,.int .i64 0,.int .i64 0,.bool false,.string ⟨#[]⟩,.slice none 0 0])∧Below w.heap.size w w':=by
 go_enter Tryz.func27,Tryz.ntmps27
 go_wp2_with fail
 go_returns
 exact⟨rfl,(Below.refl _ _).alloc (Nat.le_refl _) _⟩
def caV (c:Ca):Value:=.agg #[.int .i64 c.kind,.int .i64 c.core,.int .i64 c.fd,.int .i64 c.off,.int .i64 c.num,.string c.path,.string c.path2,.string c.data]
theorem z8h (w:World) (c:Ca):∃W,w.alloc (.cells #[.int .i64 c.kind,.int .i64 c.core,.int .i64 c.fd,.int .i64 c.off,.int .i64 c.num,.string c.path,.string c.path2,.string c.data] 32)=W∧
  W.heap[w.heap.size]? =some (.cells #[.int .i64 c.kind,.int .i64 c.core,.int .i64 c.fd,.int .i64 c.off,.int .i64 c.num,.string c.path,.string c.path2,.string c.data] 32 (0,0))∧Below w.heap.size w W∧W.heap.size=w.heap.size+1:=
 ⟨_,rfl,heap_alloc_new w _,(Below.refl _ _).alloc (Nat.le_refl _) _,by simp⟩
def ResAt (w:World) (g:Nat) (a b c d e f:Value):Prop:=w.heap[g]? =some (.cells #[a,b,c,d,e,f] 35 (0,0))
theorem ResAt.lt {w:World} {g:Nat} {a b c d e f:Value} (h:ResAt w g a b c d e f):g<w.heap.size:=(Array.getElem?_eq_some_iff.1 h).1
theorem ResAt.get {w:World} {g:Nat} {a b c d e f:Value} (h:ResAt w g a b c d e f):w.cell? ⟨g,0,none⟩=some a∧w.cell? ⟨g,1,none⟩=some b∧w.cell? ⟨g,2,none⟩=some c∧w.cell? ⟨g,3,none⟩=some d∧w.cell? ⟨g,4,none⟩=some e∧w.cell? ⟨g,5,none⟩=some f∧∀j,w.frozen? ⟨g,j,none⟩=false:=by
 refine⟨?_,?_,?_,?_,?_,?_,fun j=>frozen_of_row w g j _ _ h⟩<;>(rw[cell_of_row w g _ _ _ (0,0) h];rfl)
theorem z7g {fn:Func} {p:Tmp} {R:Ending→World→Prop} {k:Act} {w:World} {g:Nat} {a b c d e f:Value} (hf:fn.results=#[.cell p 35]) (hr:ResAt w g a b c d e f) (hp:k.tmps.getD p undef=.pointer (some ⟨g,0,none⟩)) (hd:k.defers=[]) (hR:R (.returned (.agg #[a,b,c,d,e,f])) w):bodyPost Tryz.prog fn R .ret k w:=
 bodyPost_ret (results_cell_row hf _ _ g _ _ (0,0) _ hp hr Tryz.underlying35 rfl (by kernel_rfl)) hd hR
theorem ResAt.six {w:World} {g:Nat} {a b c d e f:Value} (h:ResAt w g a b c d e f) (a' b' c' d' e' f':Value):
  ∃w',(((((w.setCell ⟨g,0,none⟩ a').setCell ⟨g,1,none⟩ b').setCell ⟨g,2,none⟩ c').setCell ⟨g,3,none⟩ d').setCell ⟨g,4,none⟩ e').setCell ⟨g,5,none⟩ f'=w'∧ResAt w' g a' b' c' d' e' f'∧
   (∀t,35≠t→KeepT t w w')∧(∀(B:Nat) (u:World),B≤g→Below B u w→Below B u w')∧(∀b,b≠g→w'.heap[b]? =w.heap[b]?)∧w.heap.size≤w'.heap.size:=by
 have h0:ResAt (w.setCell ⟨g,0,none⟩ a') g a' b c d e f:=heap_setCell_same _ g 0 _ _ _ h;have h1:ResAt ((w.setCell ⟨g,0,none⟩ a').setCell ⟨g,1,none⟩ b') g a' b' c d e f:=heap_setCell_same _ g 1 _ _ _ h0;have h2:ResAt (((w.setCell ⟨g,0,none⟩ a').setCell ⟨g,1,none⟩ b').setCell ⟨g,2,none⟩ c') g a' b' c' d e f:=heap_setCell_same _ g 2 _ _ _ h1;have h3:ResAt ((((w.setCell ⟨g,0,none⟩ a').setCell ⟨g,1,none⟩ b').setCell ⟨g,2,none⟩ c').setCell ⟨g,3,none⟩ d') g a' b' c' d' e f:=heap_setCell_same _ g 3 _ _ _ h2;have h4:ResAt (((((w.setCell ⟨g,0,none⟩ a').setCell ⟨g,1,none⟩ b').setCell ⟨g,2,none⟩ c').setCell ⟨g,3,none⟩ d').setCell ⟨g,4,none⟩ e') g a' b' c' d' e' f:=heap_setCell_same _ g 4 _ _ _ h3
 exact⟨_,rfl,heap_setCell_same _ g 5 _ _ _ h4,fun t ht=>(((((KeepT.set h ht).trans (KeepT.set h0 ht)).trans (KeepT.set h1 ht)).trans (KeepT.set h2 ht)).trans (KeepT.set h3 ht)).trans (KeepT.set h4 ht),fun B u hB hb=>(((((hb.setCell hB _).setCell hB _).setCell hB _).setCell hB _).setCell hB _).setCell hB _,fun b hb=>by
  rw[Below.heap_setCell _ _ _ _ hb,Below.heap_setCell _ _ _ _ hb,Below.heap_setCell _ _ _ _ hb,Below.heap_setCell _ _ _ _ hb,Below.heap_setCell _ _ _ _ hb,Below.heap_setCell _ _ _ _ hb],by simp[World.setCell]⟩
theorem Own.keep {B:Nat} {w w':World} {p:Nat} {s:St} (h:Own B w p s) (hk:∀t,35≠t→KeepT t w w'):Own B w' p s:=by
 obtain⟨⟨A,n,c,E,m,d,D,k,e,h0,h1,h2,h3,h4,h5,h6,h7⟩,hz⟩:=h;exact⟨⟨A,n,c,E,m,d,D,k,e,h0,((hk _ (by decide)).same p _ h1).trans h1,h2.keep (hk _ (by decide)) (hk _ (by decide)),h3.keep (hk _ (by decide)),h4.keep (hk _ (by decide)),h5,h6,h7⟩,hz⟩
theorem zgd {w:World} {B B':Nat} {e:TypeId} {k n:Nat} {v:Value} {xs:List Value} (h:w.ownsRow B e k v n xs) (hb:B'≤B):w.ownsRow B' e k v n xs:=by
 obtain⟨hl,h⟩:=h;refine⟨hl,?_⟩
 rcases h with h|⟨g,cap,cur,hv,hB,r⟩
 ·exact Or.inl h
 ·exact Or.inr ⟨g,cap,cur,hv,by omega,r⟩
def putIR (is:List Ino) (y:Ino) (done:Bool):List Ino:=if done then is else putI is y
theorem zf6 (is:List Ino) (path:ByteArray) (h:(parentV is path).2.2=0):0≤atV is (parentV is path).1:=by
 unfold parentV at h ⊢
 by_cases h1:(parseL path.data.toList).2≠0
 ·rw[if_pos h1] at h;unfold codeP at h;rw[if_neg h1] at h
  split at h<;>cases h
 rw[if_neg h1] at h ⊢
 by_cases h2:(parseL path.data.toList).1=[]
 ·rw[if_pos h2] at h;cases h
 rw[if_neg h2] at h ⊢
 by_cases h3:(walkG is (parseL path.data.toList).1.dropLast 1).2≠0
 ·rw[if_pos h3] at h;exact absurd h h3
 rw[if_neg h3] at h ⊢
 by_cases h4:dirAt is (walkG is (parseL path.data.toList).1.dropLast 1).1=false
 ·rw[if_pos h4] at h;cases h
 rw[if_neg h4]
 show 0≤atV is (walkG is (parseL path.data.toList).1.dropLast 1).1;unfold dirAt at h4;cases hx:inoAt is (atV is (walkG is (parseL path.data.toList).1.dropLast 1).1) with
 | none=>rw[hx] at h4;exact absurd rfl h4
 | some x=>
  obtain⟨j,hj,_⟩:=z4t hx;omega
set_option maxRecDepth 100000 in
set_option maxHeartbeats 16000000 in
theorem zjf (B p:Nat) (s:St) (c:Ca) (w:World) (h:Own B w p s) (hB:B≤w.heap.size) (hw:Whole s.inos) (hc0:0≤c.core) (hc1:c.core<(s.made.length:Int)) (hc8:s.made.length≤8) (hpz:c.path.size≤140737488355328)
  (hmk:∀x∈s.made,0≤x∧x≤32) (hnz:(parentV s.inos c.path).2.1.size≤140737488355328)
  (hz1:Sized { s with made:=s.made.set c.core.toNat (s.made.getD c.core.toNat 0+1) })
  (hz2:Sized { s with made:=s.made.set c.core.toNat (s.made.getD c.core.toNat 0+1),inos:=setEnts s.inos (parentV s.inos c.path).1 fun es=>putE es (parentV s.inos c.path).2.1 (2+c.core+8*s.made.getD c.core.toNat 0) })
  (hz3:Sized (make1V s c).1):
  Calls Tryz.prog 28 #[.pointer (some ⟨p,0,.none⟩),caV c] w fun e w'=>e=.returned (resV (make1V s c).2)∧Own B w' p (make1V s c).1∧Below B w w'∧Aside p w w':=by
 obtain⟨A,n,cp,E,m,d,D,k,e,hBp,hp,c0,c1,c2,fz,hst,hI,hD,hM⟩:=h.val;obtain⟨RV,hRV⟩:∃RV,make1V s c=RV:=⟨_,rfl⟩;rw[hRV] at hz3 ⊢;unfold make1V at hRV;obtain⟨⟨DR,NM,CD⟩,hPV⟩:∃P,parentV s.inos c.path=P:=⟨_,rfl⟩;have hdr:CD=0→0≤atV s.inos DR:=fun h=>by have:=zf6 s.inos c.path (by rw[hPV];exact h);rwa [hPV] at this
 rw[hPV] at hRV hz2 hnz;dsimp only at hRV hz2 hnz;obtain⟨W,hW,hbc,hal,hsz1⟩:=z8h w c;obtain⟨W2,hW2⟩:∃W2,W.alloc (.cells #[.int .i64 0,.int .i64 0,.int .i64 0,.bool false,.string ⟨#[]⟩,.slice none 0 0] 35)=W2:=⟨_,rfl⟩;have hr2:ResAt W2 W.heap.size (.int .i64 0) (.int .i64 0) (.int .i64 0) (.bool false) (.string ⟨#[]⟩) (.slice none 0 0):=by rw[←hW2];exact heap_alloc_new W _
 have hal2:Below W.heap.size W W2:=by rw[←hW2];exact(Below.refl _ _).alloc (Nat.le_refl _) _
 have hsz2:W2.heap.size=W.heap.size+1:=by rw[←hW2];simp
 have hb2:Below w.heap.size w W2:=Cv.next hal hal2;have hbc2:=(hal2.block w.heap.size (by omega)).trans hbc;obtain⟨G,hG⟩:∃G,W.heap.size=G:=⟨_,rfl⟩;rw[hG] at hr2;obtain⟨cc,hcc⟩:∃cc:Nat,c.core=(cc:Int):=⟨c.core.toNat,by omega⟩;have hccl:cc<k:=by have:=hM.1;omega
 have hk8:k≤8:=by have:=hM.1;omega
 obtain⟨gm,offm,mk,rfl,hgm,hmg,_,hmem,cm⟩:=hM.get cc hccl;obtain⟨hBm,hfm⟩:=hM.free (by omega);have fm:=hfm (offm+cc);obtain⟨curM,hcurM⟩:=hM.tag (by omega);have HTM:=hid hcurM;have hmkb:=hmk mk hmem;have hgd:s.made.getD cc 0=mk:=by rw[List.getD_eq_getElem?_getD,hmg];rfl
 rw[hcc,Int.toNat_natCast,hgd] at hRV hz1 hz2;have hkl:=hM.1;have h2:=h.below hb2;have x0:=(hb2.cell (p:=⟨p,0,.none⟩) hp).trans c0;have x1:=(hb2.cell (p:=⟨p,1,.none⟩) hp).trans c1;have x2:=(hb2.cell (p:=⟨p,2,.none⟩) hp).trans c2;have k5:W2.cell? ⟨w.heap.size,5,.none⟩=some (.string c.path):=by rw[cell_of_row W2 w.heap.size _ _ _ (0,0) hbc2];rfl
 have hX:=@Ext.cell W2;have HST:=hid (hst.below hb2).weak;have HOW:=hid h2;have HRES:=hid hr2;have HBC:=hid hbc2;have HB2:=hid hb2;have HRV:=hid hRV;have HPV:=hid hPV;have HW:=hid hw;have HMK:=hid hmk;have HZ1:=hid hz1;have HZ2:=hid hz2;have HZ3:=hid hz3;have HCC:=hid hcc;have HIK:=hid hM.1;have HCM:=hid cm;have HFM:=hid fm;have HDR:=hid hdr;have hGs:G<W2.heap.size:=by omega
 have hwG:w.heap.size<G:=by omega
 have hps:p<w.heap.size:=hp;clear h h2 hst hI hD hM hRV hPV hw hmk hz1 hz2 hz3 hbc hbc2 hal hal2 hr2 hb2 c0 c1 c2 fz hsz1 hsz2 hcc hmg hmem cm hfm fm hgd hkl hdr hcurM;unfold caV
 go_enter Tryz.func28,Tryz.ntmps28
 go_wp2_with fail;clear hW hW2 hG;refine wre ?_
 repeat (go_big_quiet_step (first|(go_at_call 55;rename_i X;exact Calls.ext_of (by have:=zi5 _ s c.path _ (HST.out.below X.bel) HW.out hpz;rw[HPV.out] at this;dsimp only at this;exact this))))
 refine wpQuiet_nil ?_;rintro w7 ⟨X,rfl⟩;generalize hZe:X.w=Z1;have hZ1:=hZe▸X.bel;have HB3:=hid (Cv.next HB2.out hZ1);have HO1:=hid (HOW.out.below hZ1);have hs1:W2.heap.size≤Z1.heap.size:=hZ1.size;have HR1:Hid (ResAt Z1 G _ _ _ _ _ _):=hid ((hZ1.block G hGs).trans HRES.out);have HC1:=hid ((hZ1.block w.heap.size (by omega)).trans HBC.out);have HS1:=hid (HST.out.below hZ1);have y0:=(hZ1.cell (p:=⟨p,0,.none⟩) (by show p<_;omega)).trans x0;have y1:=(hZ1.cell (p:=⟨p,1,.none⟩) (by show p<_;omega)).trans x1;have y2:=(hZ1.cell (p:=⟨p,2,.none⟩) (by show p<_;omega)).trans x2;clear hZe X hX hZ1 x0 x1 x2 k5
 by_cases hcd:CD=0
 rotate_left
 ·have q0:(CD != 0)=true:=by rw[bne_iff_ne];exact hcd
  have hr:=HRV.out;rw[if_pos hcd] at hr;have HR9:=hid hr;clear hr;go_wp2_with fail;refine(z4p CD _).mono ?_;rintro e5 w5 ⟨rfl,hb5⟩;have hres5:ResAt w5 G _ _ _ _ _ _:=(hb5.block G (by omega)).trans HR1.out;obtain⟨g0,g1,g2,g3,g4,g5,gf⟩:=hres5.get;obtain⟨W9,hW9,hr9,k9,b9,_,_⟩:=hres5.six (.int .i64 CD) (.int .i64 0) (.int .i64 0) (.bool false) (.string ⟨#[]⟩) (.slice none 0 0);have HR5:=hid hr9;have HOF:=hid ((HO1.out.below hb5).keep k9);have HBF:=hid (b9 B w (by omega) ((HB3.out.trans (hb5.mono (by have:=HB3.out.size;omega))).mono hB));have HAS:=hid (Aside.below (p:=p) (b9 w.heap.size w (by omega) (HB3.out.trans (hb5.mono (by have:=HB3.out.size;omega)))));clear hres5 hr9 k9 b9 hb5;go_wp2_with fail
  (try simp only[Exit.inBlock,Exit.then])
  refine z7g rfl HR5.out rfl rfl ?_;refine⟨?_,?_,HBF.out,HAS.out⟩
  ·rw[←HR9.out];rfl
  ·rw[←HR9.out];exact HOF.out
 subst hcd;have hr:=HRV.out;rw[if_neg (by simp)] at hr;have HRV1:=hid hr;have hdr:=HDR.out rfl;obtain⟨EN,hEN⟩:∃EN,entV s.inos DR NM=EN:=⟨_,rfl⟩;have HEN:=hid hEN;have HD:=hid hdr;clear hr HRV hEN hdr;go_wp2_with fail;refine(zdi _ s DR NM _ HS1.out).mono ?_;rintro e2 Z2 ⟨rfl,hbz⟩;rw[HEN.out];have HB4:=hid (Cv.next HB3.out hbz);have HO2:=hid (HO1.out.below hbz);have hs2:W2.heap.size≤Z2.heap.size:=Nat.le_trans hs1 hbz.size;have HR2:Hid (ResAt Z2 G _ _ _ _ _ _):=hid ((hbz.block G (by omega)).trans HR1.out);have HC2:=hid ((hbz.block w.heap.size (by omega)).trans HC1.out);have HS2:=hid (HS1.out.below hbz);have z0:=(hbz.cell (p:=⟨p,0,.none⟩) (by show p<_;omega)).trans y0;have z1:=(hbz.cell (p:=⟨p,1,.none⟩) (by show p<_;omega)).trans y1;have z2:=(hbz.cell (p:=⟨p,2,.none⟩) (by show p<_;omega)).trans y2;have HRV:=HRV1;clear hbz y0 y1 y2
 by_cases hen:EN=0
 rotate_left
 ·have q0:(EN != 0)=true:=by rw[bne_iff_ne];exact hen
  have hr:=HRV.out;rw[HEN.out,if_pos hen] at hr;have HR9:=hid hr;clear hr;go_wp2_with fail;refine(z4p 2 _).mono ?_;rintro e5 w5 ⟨rfl,hb5⟩;have hres5:ResAt w5 G _ _ _ _ _ _:=(hb5.block G (by omega)).trans HR2.out;obtain⟨g0,g1,g2,g3,g4,g5,gf⟩:=hres5.get;obtain⟨W9,hW9,hr9,k9,b9,_,_⟩:=hres5.six (.int .i64 2) (.int .i64 0) (.int .i64 0) (.bool false) (.string ⟨#[]⟩) (.slice none 0 0);have HR5:=hid hr9;have HOF:=hid ((HO2.out.below hb5).keep k9);have HBF:=hid (b9 B w (by omega) ((HB4.out.trans (hb5.mono (by have:=HB4.out.size;omega))).mono hB));have HAS:=hid (Aside.below (p:=p) (b9 w.heap.size w (by omega) (HB4.out.trans (hb5.mono (by have:=HB4.out.size;omega)))));clear hres5 hr9 k9 b9 hb5;go_wp2_with fail
  (try simp only[Exit.inBlock,Exit.then])
  refine z7g rfl HR5.out rfl rfl ?_;refine⟨?_,?_,HBF.out,HAS.out⟩
  ·rw[←HR9.out];rfl
  ·rw[←HR9.out];exact HOF.out
 subst hen;have hr:=HRV.out;rw[HEN.out,if_neg (by simp)] at hr;obtain⟨FU,hFU⟩:∃FU,fullV s.inos DR NM (txt [])=FU:=⟨_,rfl⟩;rw[hFU] at hr;have HFU:=hid hFU;have HRV2:=hid hr;have hX:=@Ext.cell Z2;have m1:=(HB4.out.cell (p:=⟨gm,_,.none⟩) hgm).trans HCM.out;have k1:Z2.cell? ⟨w.heap.size,1,.none⟩=some (.int .i64 cc):=by rw[cell_of_row Z2 w.heap.size _ _ _ (0,0) HC2.out,←HCC.out];rfl
 have j0:(0:Int)≤(cc:Int):=by omega
 have j1:(cc:Int)<(k:Int):=by omega
 obtain⟨MB,hMB⟩:∃MB,decide ((32:Int)≤mk)=MB:=⟨_,rfl⟩;have HMB:=hid hMB;clear hr hFU HRV1;go_wp2_with fail;refine wre ?_
 repeat (go_big_quiet_step (first|(go_at_call 57;rename_i X;exact Calls.ext_of (by have:=zlz _ s DR NM (txt []) _ (HS2.out.below X.bel) HD.out hnz;rw[HFU.out] at this;exact this))))
 cases FU;rotate_left
 ·repeat (go_big_quiet_step (fail))
  refine wpQuiet_nil ?_;rintro w7 ⟨X,rfl⟩;generalize hZe:X.w=Z3;have hZ3:=hZe▸X.bel;have HB5:=hid (Cv.next HB4.out hZ3);have HO3:=hid (HO2.out.below hZ3);have hs3:W2.heap.size≤Z3.heap.size:=Nat.le_trans hs2 hZ3.size;have HR3:Hid (ResAt Z3 G _ _ _ _ _ _):=hid ((hZ3.block G (by omega)).trans HR2.out);have HRV:=HRV2;clear hZe X hX hZ3;have hr:=HRV.out;rw[if_pos (.inl rfl)] at hr;have HR9:=hid hr;clear hr;go_wp2_with fail;refine(z4p 5 _).mono ?_;rintro e5 w5 ⟨rfl,hb5⟩;have hres5:ResAt w5 G _ _ _ _ _ _:=(hb5.block G (by omega)).trans HR3.out;obtain⟨g0,g1,g2,g3,g4,g5,gf⟩:=hres5.get;obtain⟨W9,hW9,hr9,k9,b9,_,_⟩:=hres5.six (.int .i64 5) (.int .i64 0) (.int .i64 0) (.bool false) (.string ⟨#[]⟩) (.slice none 0 0);have HR5:=hid hr9;have HOF:=hid ((HO3.out.below hb5).keep k9);have HBF:=hid (b9 B w (by omega) ((HB5.out.trans (hb5.mono (by have:=HB5.out.size;omega))).mono hB))
  have HAS:=hid (Aside.below (p:=p) (b9 w.heap.size w (by omega) (HB5.out.trans (hb5.mono (by have:=HB5.out.size;omega)))));clear hres5 hr9 k9 b9 hb5;go_wp2_with fail
  (try simp only[Exit.inBlock,Exit.then])
  refine z7g rfl HR5.out rfl rfl ?_;refine⟨?_,?_,HBF.out,HAS.out⟩
  ·rw[←HR9.out];rfl
  ·rw[←HR9.out];exact HOF.out
 repeat (go_big_quiet_step (fail))
 refine wpQuiet_nil ?_;rintro w7 ⟨X,rfl⟩;generalize hZe:X.w=Z3;have hZ3:=hZe▸X.bel;have HB5:=hid (Cv.next HB4.out hZ3);have HO3:=hid (HO2.out.below hZ3);have hs3:W2.heap.size≤Z3.heap.size:=Nat.le_trans hs2 hZ3.size;have HR3:Hid (ResAt Z3 G _ _ _ _ _ _):=hid ((hZ3.block G (by omega)).trans HR2.out);have HC3:=hid ((hZ3.block w.heap.size (by omega)).trans HC2.out);have v0:=(hZ3.cell (p:=⟨p,0,.none⟩) (by show p<_;omega)).trans z0;have v1:=(hZ3.cell (p:=⟨p,1,.none⟩) (by show p<_;omega)).trans z1;have v2:=(hZ3.cell (p:=⟨p,2,.none⟩) (by show p<_;omega)).trans z2;have m2:=(HB5.out.cell (p:=⟨gm,_,.none⟩) hgm).trans HCM.out;have f2:=(HB5.out.frozen (p:=⟨gm,offm+cc,.none⟩) hgm).trans HFM.out;have n1:Z3.cell? ⟨w.heap.size,1,.none⟩=some (.int .i64 cc):=by rw[cell_of_row Z3 w.heap.size _ _ _ (0,0) HC3.out,←HCC.out];rfl
 have HRV:=HRV2;clear hZe X hX hZ3 z0 z1 z2 m1 k1 hMB;cases MB;rotate_left
 ·have hmb:(32:Int)≤mk:=by have:=HMB.out;rw[decide_eq_true_eq] at this;exact this
  have hr:=HRV.out;rw[if_pos (.inr hmb)] at hr;have HR9:=hid hr;clear hr;go_wp2_with fail;refine(z4p 5 _).mono ?_;rintro e5 w5 ⟨rfl,hb5⟩;have hres5:ResAt w5 G _ _ _ _ _ _:=(hb5.block G (by omega)).trans HR3.out;obtain⟨g0,g1,g2,g3,g4,g5,gf⟩:=hres5.get;obtain⟨W9,hW9,hr9,k9,b9,_,_⟩:=hres5.six (.int .i64 5) (.int .i64 0) (.int .i64 0) (.bool false) (.string ⟨#[]⟩) (.slice none 0 0);have HR5:=hid hr9;have HOF:=hid ((HO3.out.below hb5).keep k9);have HBF:=hid (b9 B w (by omega) ((HB5.out.trans (hb5.mono (by have:=HB5.out.size;omega))).mono hB));have HAS:=hid (Aside.below (p:=p) (b9 w.heap.size w (by omega) (HB5.out.trans (hb5.mono (by have:=HB5.out.size;omega)))));clear hres5 hr9 k9 b9 hb5;go_wp2_with fail
  (try simp only[Exit.inBlock,Exit.then])
  refine z7g rfl HR5.out rfl rfl ?_;refine⟨?_,?_,HBF.out,HAS.out⟩
  ·rw[←HR9.out];rfl
  ·rw[←HR9.out];exact HOF.out
 have hmb:¬(32:Int)≤mk:=by have:=HMB.out;rw[decide_eq_false_iff_not] at this;exact this
 have hr:=HRV.out;rw[if_neg (by rintro(h|h);cases h;exact hmb h)] at hr;have HRV3:=hid hr;obtain⟨MK,hMKe⟩:∃MK:Nat,mk=(MK:Int):=⟨mk.toNat,by omega⟩;have hw1:IntKind.i64.wrap ((2:Int)+(cc:Int))=2+(cc:Int):=by rw[IntKind.wrap_i64];omega
 have hw2:IntKind.i64.wrap ((8:Int)*mk)=8*mk:=by rw[IntKind.wrap_i64];omega
 have hw3:IntKind.i64.wrap ((2:Int)+(cc:Int)+8*mk)=2+(cc:Int)+8*mk:=by rw[IntKind.wrap_i64];omega
 have hw4:IntKind.i64.wrap (mk+1)=mk+1:=by rw[IntKind.wrap_i64];omega
 clear hr HRV HRV2 hMKe;go_wp2_with fail;go_quiet (fail);have HCC2:=HCC;go_wp2_with fail;refine z1l 10 (by kernel_rfl) (by kernel_rfl) ?_;simp only[List.take_succ_cons,List.take_zero,List.drop_succ_cons,List.drop_zero]
 repeat (go_big_quiet_step (fail))
 refine wpQuiet_nil ?_;have ho4:=(HO3.out.drewN (nq+1)).setMade cc (mk+1) (by have:=HIK.out;omega) HZ1.out gm offm k e v2;have hb4:=(Cv.drewN_below HB5.out (nq+1)).mono hB|>.setCell (p:=⟨gm,offm+cc,.none⟩) hBm (.int .i64 (mk+1));obtain⟨Z4,hZ4⟩:∃Z4,(Z3.drewN (nq+1)).setCell ⟨gm,offm+cc,.none⟩ (.int .i64 (mk+1))=Z4:=⟨_,rfl⟩;rw[hZ4] at ho4 hb4;have ht3:=(HB5.out.block gm hgm).trans HTM.out;have ha4:Aside p Z3 Z4:=by rw[←hZ4];exact(Aside.below (Cv.drewN_below (Below.refl _ _) (nq+1))).trans (Aside.set (w:=Z3.drewN (nq+1)) ht3 (.inr (.inl rfl)))
 have HO4:=hid ho4;have HBB4:=hid hb4;have HAS4:=hid ((Aside.below HB5.out).trans ha4);have HR4:Hid (ResAt Z4 G _ _ _ _ _ _):=hid ((ha4.same G _ _ HR3.out (by decide) (by decide) (by omega)).trans HR3.out);have HC4:=hid ((ha4.same w.heap.size _ _ HC3.out (by decide) (by decide) (by omega)).trans HC3.out);have hs4:W2.heap.size≤Z4.heap.size:=Nat.le_trans hs3 ha4.size;clear ho4 hb4 ha4 ht3;go_wp2_with fail;refine(znq B p _ DR NM (2+(cc:Int)+8*mk) _ HO4.out (by omega) HD.out hnz HZ2.out).mono ?_;rintro e4 Z5 ⟨rfl,ho5,hb5,ha5⟩;have hkd:(c.kind==1)=decide (c.kind=1):=rfl;obtain⟨KD,hKD⟩:∃KD,decide (c.kind=1)=KD:=⟨_,rfl⟩;rw[hKD] at hkd;have hr3:=HRV3.out;rw[hKD] at hr3;have HRV4:=hid hr3
 have kk0:Z5.cell? ⟨w.heap.size,0,.none⟩=some (.int .i64 c.kind):=by
  have h5:=(ha5.same w.heap.size _ _ HC4.out (by decide) (by decide) (by omega)).trans HC4.out;rw[cell_of_row Z5 w.heap.size _ _ _ (0,0) h5];rfl
 obtain⟨Z6,hZ6,u0,u1,u2,u3,hal6,hlt6⟩:=z2v Z5 (2+(cc:Int)+8*mk) KD none 0 0 ⟨#[]⟩;have ho6:=ho5.below hal6;have hr5:ResAt Z5 G _ _ _ _ _ _:=(ha5.same G _ _ HR4.out (by decide) (by decide) (by omega)).trans HR4.out;have HR6:Hid (ResAt Z6 G _ _ _ _ _ _):=hid ((hal6.block G hr5.lt).trans hr5);have HO6:=hid ho6;have HBB6:=hid ((HBB4.out.trans hb5).trans (hal6.mono (by have:=ha5.size;omega)));have HAS6:=hid ((HAS4.out.trans ha5).trans (Aside.below hal6));have hs6:W2.heap.size≤Z6.heap.size:=by have:=ha5.size;have:=hal6.size;omega
 obtain⟨A6,n6,cp6,E6,m6,d6,D6,k6,e6,_,hp6,c60,c61,c62,fz6,_,hI6,_,_⟩:=ho6.val;have f60:=fz6 0;obtain⟨IS,hIS⟩:∃IS,(setEnts s.inos DR fun es=>putE es NM (2+(cc:Int)+8*mk))=IS:=⟨_,rfl⟩;have HIS:=hid hIS;have hi6:InosAt (some B) Z6 A6 n6 IS:=by rw[←hIS];exact hI6
 obtain⟨RI,hRI⟩:∃RI,putI IS ⟨2+(cc:Int)+8*mk,KD,[],txt []⟩=RI:=⟨_,rfl⟩;have HRI:=hid hRI;have hbg6:=ho6.sized.big;have hn6:n6≤1099511627776:=by have:=hi6.1;rw[←hIS] at this;dsimp only at hbg6;omega
 have HI6:=hid hi6;obtain⟨i1,hi1,hq0,hq1,hq2⟩:=info_parts z5w;clear ho5 hb5 ha5 hKD hr3 ho6 hr5 fz6 hI6 hIS hi6 hRI hbg6 hal6;have HZ6:=hid hZ6;clear hZ6;go_wp2_with fail;rw[HZ6.out];clear kk0
 go_loopw [10,11,12] (fun o b j wr=>∃(q:Nat) (done:Bool) (V:Value) (zs:List (Ino×Value)),V=o∧b=.bool done∧j=.int .i64 q∧q≤n6∧wr.ownsRow Z6.heap.size 53 4 V zs.length (zs.flatMap inoV)∧(∀z∈zs,∃A m c,z.2=.slice A m c∧SlOk A m c∧EntsAt (some B) wr A m z.1.ents)∧Below Z6.heap.size Z6 wr∧zs.map Prod.fst++putIR (IS.drop q) ⟨2+(cc:Int)+8*mk,KD,[],txt []⟩ done=RI∧zs.length≤2*q+1) (fun _ _ j _=>n6-(intOf j).toNat)
 case atStart=>exact⟨0,false,_,[],rfl,rfl,rfl,by omega,World.ownsRow_nil _ _ _ _,by simp,Below.refl _ _,HRI.out,by simp⟩
 case round =>
  obtain⟨q,done,V,zs,hV,rfl,rfl,hq,hrow,hents,hbel,hc,hlen⟩:=hrel;subst hV;have p0:=(hbel.cell (p:=⟨p,0,.none⟩) hp6).trans c60;have x0:=(hbel.cell (p:=⟨Z5.heap.size,0,.none⟩) hlt6).trans u0;have x1:=(hbel.cell (p:=⟨Z5.heap.size,1,.none⟩) hlt6).trans u1;have x2:=(hbel.cell (p:=⟨Z5.heap.size,2,.none⟩) hlt6).trans u2;have x3:=(hbel.cell (p:=⟨Z5.heap.size,3,.none⟩) hlt6).trans u3;have HIr:=hid (HI6.out.below hbel);have HB:=hid hbel;have HENT:=hid hents;obtain⟨L,hL⟩:∃L,zs.length=L:=⟨_,rfl⟩;rw[hL] at hrow;have hll:L≤2199023255553:=by omega
  have hlq:L≤2*q+1:=by omega
  have HL:=hid hL;have HR2:=hid hrow;clear hrow hents hbel hL hlen
  by_cases hlt:q<n6
  ·obtain⟨g2,off2,y,E3,m3,d3,rfl,hg2,hy,hdr,_,e0,e1,e2,hok3,hE3,e3⟩:=HIr.out.get q hlt;rw[hdr] at hc;have k0:(0:Int)≤(q:Int):=by omega
   have k1:(q:Int)<(n6:Int):=by omega
   have HY:=hid hy;have HE3:=hid hE3;have HOK3:=hid hok3;clear hdr hy hE3 hok3;cases done
   ·have hstep:zs.map Prod.fst++(if(2+(cc:Int)+8*mk)<y.num then(⟨2+(cc:Int)+8*mk,KD,[],txt []⟩:Ino)::y::IS.drop (q+1) else y::putI (IS.drop (q+1)) ⟨2+(cc:Int)+8*mk,KD,[],txt []⟩)=RI:=hc
    by_cases hlt2:(2+(cc:Int)+8*mk)<y.num
    ·rw[if_pos hlt2] at hstep;have HC:=hid hstep;have qd:decide ((2+(cc:Int)+8*mk)<y.num)=true:=by rw[decide_eq_true_eq];exact hlt2
     clear hc hstep hlt2;go_wp2_with (at_builtin;refine wpList_append_own _ rfl _ _ 23 rfl Z6.heap.size 53 i1 (.agg #[.int .i64 0,.bool false,.slice none 0 0,.string ⟨#[]⟩]) 4 56 Tryz.underlying23 hi1 hq0 hq1 hq2 rfl (by decide) _ L _ rfl (HR2.out.alloc _) ⟨wr.heap.size,0,.none⟩ 1 1 [.int .i64 (2+(cc:Int)+8*mk),.bool KD,.slice none 0 0,.string ⟨#[]⟩] rfl rfl (z4y wr [.int .i64 (2+(cc:Int)+8*mk),.bool KD,.slice none 0 0,.string ⟨#[]⟩] _) ?ca2 ?ca3 ?ca4 ?ca5 ?_)
     case ca2=>first|(intro u hu;simp at hu;rcases hu with rfl|rfl|rfl|rfl<;>rfl)|(simp;done)|exact⟨rfl,rfl,rfl,rfl⟩
     case ca3=>unfold maxLen;omega
     case ca4=>omega
     case ca5=>have:=HB.out.size;first|omega|(simp;omega)
     intro v7 w7 hown hgrow _;have hbel:Below Z6.heap.size Z6 w7:=(HB.out.alloc (by have:=HB.out.size;simpa using this) _).grown hgrow (by have:=HB.out.size;simp;omega) (fun k hk=>(HR2.out.lt k hk).1);have hkE:KeepT 120 wr w7:=(KeepT.below ((Below.refl _ _).alloc (Nat.le_refl _) (.cells #[.int .i64 (2+(cc:Int)+8*mk),.bool KD,.slice none 0 0,.string ⟨#[]⟩] 53))).trans (KeepT.grown (HR2.out.alloc _) hgrow (by decide));obtain⟨A_v7,c_v7,hv9,_,_,_⟩:=z1z hown (by decide);subst hv9;have HO7:=hid hown;have HB7:=hid hbel;have HK7:=hid hkE;clear hown hgrow hbel hkE;have hdr7:=(HI6.out.below HB7.out).get q hlt;have p7:=(HB7.out.cell (p:=⟨p,0,.none⟩) hp6).trans c60;obtain⟨g8,off8,y8,E8,m8,d8,hA8,_,hy8,_,_,r0,r1,r2,hok8,hE8,r3⟩:=hdr7;injection hA8 with hA8
     injection hA8 with hA1 hA2
     subst hA1 hA2;have ey:y8=y:=by have:=HY.out;rw[hy8] at this;exact Option.some.inj this
     subst ey;have HE8:=hid hE8;have HOK8:=hid hok8;clear hy8 hE8 hok8 e0 e1 e2 e3;go_wp2_with (at_builtin;refine wpList_append_own _ rfl _ _ 23 rfl Z6.heap.size 53 i1 (.agg #[.int .i64 0,.bool false,.slice none 0 0,.string ⟨#[]⟩]) 4 56 Tryz.underlying23 hi1 hq0 hq1 hq2 rfl (by decide) _ (L+1) _ rfl (HO7.out.alloc _) ⟨w7.heap.size,0,.none⟩ 1 1 [.int .i64 y8.num,.bool y8.dir,.slice E8 m8 d8,.string y8.data] rfl rfl (z4y w7 [.int .i64 y8.num,.bool y8.dir,.slice E8 m8 d8,.string y8.data] _) ?ca2 ?ca3 ?ca4 ?ca5 ?_)
     case ca2=>first|(intro u hu;simp at hu;rcases hu with rfl|rfl|rfl|rfl<;>rfl)|(simp;done)|exact⟨rfl,rfl,rfl,rfl⟩
     case ca3=>unfold maxLen;omega
     case ca4=>omega
     case ca5=>have:=HB7.out.size;first|omega|(simp;omega)
     intro v8 w8 hown hgrow _;have hbel:Below Z6.heap.size Z6 w8:=(HB7.out.alloc (by have:=HB7.out.size;simpa using this) _).grown hgrow (by have:=HB7.out.size;simp;omega) (fun k hk=>(HO7.out.lt k hk).1);have hkE:KeepT 120 w7 w8:=(KeepT.below ((Below.refl _ _).alloc (Nat.le_refl _) (.cells #[.int .i64 y8.num,.bool y8.dir,.slice E8 m8 d8,.string y8.data] 53))).trans (KeepT.grown (HO7.out.alloc _) hgrow (by decide));obtain⟨A_v8,c_v8,hv9,_,_,_⟩:=z1z hown (by decide);subst hv9;have HO8:=hid hown;have HB8:=hid hbel;have HK8:=hid hkE;clear hown hgrow hbel hkE
     have EN8:∀z∈zs++[((⟨2+(cc:Int)+8*mk,KD,[],txt []⟩:Ino),Value.slice none 0 0)]++[(y8,Value.slice E8 m8 d8)],∃A m c,z.2=.slice A m c∧SlOk A m c∧EntsAt (some B) w8 A m z.1.ents:=by
      intro z hz;simp only[List.mem_append,List.mem_singleton] at hz
      rcases hz with(hz|hz)|hz
      ·obtain⟨A7,m7,c7,h71,h72,h73⟩:=HENT.out z hz;exact⟨A7,m7,c7,h71,h72,(h73.keep HK7.out).keep HK8.out⟩
      ·subst hz;exact⟨none,0,0,rfl,⟨Nat.le_refl _,fun _=>rfl⟩,rfl,fun h=>absurd h (by omega)⟩
      ·subst hz;exact⟨E8,m8,d8,rfl,HOK8.out,HE8.out.keep HK8.out⟩
     have HEN8:=hid EN8;clear EN8;go_wp2_with fail;go_roundw
     case rel=>exact⟨q+1,true,_,_,rfl,rfl,by go_num,by omega,by
      rw[List.length_append,List.length_append,HL.out,List.flatMap_append,List.flatMap_append,List.append_assoc];exact HO8.out,HEN8.out,HB8.out,by rw[List.map_append,List.map_append,List.append_assoc,List.append_assoc];exact HC.out,by rw[List.length_append,List.length_append,HL.out];simp;omega⟩
     case measure=>simp[intOf];omega
    ·rw[if_neg hlt2] at hstep;have HC:=hid hstep;have qd:decide ((2+(cc:Int)+8*mk)<y.num)=false:=by rw[decide_eq_false_iff_not];exact hlt2
     clear hc hstep hlt2;go_wp2_with (at_builtin;refine wpList_append_own _ rfl _ _ 23 rfl Z6.heap.size 53 i1 (.agg #[.int .i64 0,.bool false,.slice none 0 0,.string ⟨#[]⟩]) 4 56 Tryz.underlying23 hi1 hq0 hq1 hq2 rfl (by decide) _ L _ rfl (HR2.out.alloc _) ⟨wr.heap.size,0,.none⟩ 1 1 [.int .i64 y.num,.bool y.dir,.slice E3 m3 d3,.string y.data] rfl rfl (z4y wr [.int .i64 y.num,.bool y.dir,.slice E3 m3 d3,.string y.data] _) ?ca2 ?ca3 ?ca4 ?ca5 ?_)
     case ca2=>first|(intro u hu;simp at hu;rcases hu with rfl|rfl|rfl|rfl<;>rfl)|(simp;done)|exact⟨rfl,rfl,rfl,rfl⟩
     case ca3=>unfold maxLen;omega
     case ca4=>omega
     case ca5=>have:=HB.out.size;first|omega|(simp;omega)
     intro v7 w7 hown hgrow _;have hbel:Below Z6.heap.size Z6 w7:=(HB.out.alloc (by have:=HB.out.size;simpa using this) _).grown hgrow (by have:=HB.out.size;simp;omega) (fun k hk=>(HR2.out.lt k hk).1);have hkE:KeepT 120 wr w7:=(KeepT.below ((Below.refl _ _).alloc (Nat.le_refl _) (.cells #[.int .i64 y.num,.bool y.dir,.slice E3 m3 d3,.string y.data] 53))).trans (KeepT.grown (HR2.out.alloc _) hgrow (by decide));obtain⟨A_v7,c_v7,hv9,_,_,_⟩:=z1z hown (by decide);subst hv9;have HO7:=hid hown;have HB7:=hid hbel;have HK7:=hid hkE;clear hown hgrow hbel hkE
     have EN7:∀z∈zs++[(y,Value.slice E3 m3 d3)],∃A m c,z.2=.slice A m c∧SlOk A m c∧EntsAt (some B) w7 A m z.1.ents:=by
      intro z hz;simp only[List.mem_append,List.mem_singleton] at hz
      rcases hz with hz|hz
      ·obtain⟨A7,m7,c7,h71,h72,h73⟩:=HENT.out z hz;exact⟨A7,m7,c7,h71,h72,h73.keep HK7.out⟩
      ·subst hz;exact⟨E3,m3,d3,rfl,HOK3.out,HE3.out.keep HK7.out⟩
     have HEN7:=hid EN7;clear EN7;go_wp2_with fail;go_roundw
     case rel=>exact⟨q+1,false,_,_,rfl,rfl,by go_num,by omega,by rw[List.length_append,HL.out,List.flatMap_append];exact HO7.out,HEN7.out,HB7.out,by rw[List.map_append,List.append_assoc];exact HC.out,by rw[List.length_append,HL.out];simp;omega⟩
     case measure=>simp[intOf];omega
   ·have hstep:zs.map Prod.fst++(y::IS.drop (q+1))=RI:=hc;have HC:=hid hstep;clear hc hstep;go_wp2_with (at_builtin;refine wpList_append_own _ rfl _ _ 23 rfl Z6.heap.size 53 i1 (.agg #[.int .i64 0,.bool false,.slice none 0 0,.string ⟨#[]⟩]) 4 56 Tryz.underlying23 hi1 hq0 hq1 hq2 rfl (by decide) _ L _ rfl (HR2.out.alloc _) ⟨wr.heap.size,0,.none⟩ 1 1 [.int .i64 y.num,.bool y.dir,.slice E3 m3 d3,.string y.data] rfl rfl (z4y wr [.int .i64 y.num,.bool y.dir,.slice E3 m3 d3,.string y.data] _) ?ca2 ?ca3 ?ca4 ?ca5 ?_)
    case ca2=>first|(intro u hu;simp at hu;rcases hu with rfl|rfl|rfl|rfl<;>rfl)|(simp;done)|exact⟨rfl,rfl,rfl,rfl⟩
    case ca3=>unfold maxLen;omega
    case ca4=>omega
    case ca5=>have:=HB.out.size;first|omega|(simp;omega)
    intro v7 w7 hown hgrow _;have hbel:Below Z6.heap.size Z6 w7:=(HB.out.alloc (by have:=HB.out.size;simpa using this) _).grown hgrow (by have:=HB.out.size;simp;omega) (fun k hk=>(HR2.out.lt k hk).1);have hkE:KeepT 120 wr w7:=(KeepT.below ((Below.refl _ _).alloc (Nat.le_refl _) (.cells #[.int .i64 y.num,.bool y.dir,.slice E3 m3 d3,.string y.data] 53))).trans (KeepT.grown (HR2.out.alloc _) hgrow (by decide));obtain⟨A_v7,c_v7,hv9,_,_,_⟩:=z1z hown (by decide);subst hv9;have HO7:=hid hown;have HB7:=hid hbel;have HK7:=hid hkE;clear hown hgrow hbel hkE
    have EN7:∀z∈zs++[(y,Value.slice E3 m3 d3)],∃A m c,z.2=.slice A m c∧SlOk A m c∧EntsAt (some B) w7 A m z.1.ents:=by
     intro z hz;simp only[List.mem_append,List.mem_singleton] at hz
     rcases hz with hz|hz
     ·obtain⟨A7,m7,c7,h71,h72,h73⟩:=HENT.out z hz;exact⟨A7,m7,c7,h71,h72,h73.keep HK7.out⟩
     ·subst hz;exact⟨E3,m3,d3,rfl,HOK3.out,HE3.out.keep HK7.out⟩
    have HEN7:=hid EN7;clear EN7;go_wp2_with fail;go_roundw
    case rel=>exact⟨q+1,true,_,_,rfl,rfl,by go_num,by omega,by rw[List.length_append,HL.out,List.flatMap_append];exact HO7.out,HEN7.out,HB7.out,by rw[List.map_append,List.append_assoc];exact HC.out,by rw[List.length_append,HL.out];simp;omega⟩
    case measure=>simp[intOf];omega
  ·have hnil:IS.drop q=[]:=List.drop_eq_nil_of_le (by have:=HI6.out.1;omega);rw[hnil] at hc;cases done
   ·have HC:=hid (show zs.map Prod.fst++[(⟨2+(cc:Int)+8*mk,KD,[],txt []⟩:Ino)]=RI from hc);clear hc hnil;go_wp2_with (at_builtin;refine wpList_append_own _ rfl _ _ 23 rfl Z6.heap.size 53 i1 (.agg #[.int .i64 0,.bool false,.slice none 0 0,.string ⟨#[]⟩]) 4 56 Tryz.underlying23 hi1 hq0 hq1 hq2 rfl (by decide) _ L _ rfl (HR2.out.alloc _) ⟨wr.heap.size,0,.none⟩ 1 1 [.int .i64 (2+(cc:Int)+8*mk),.bool KD,.slice none 0 0,.string ⟨#[]⟩] rfl rfl (z4y wr [.int .i64 (2+(cc:Int)+8*mk),.bool KD,.slice none 0 0,.string ⟨#[]⟩] _) ?ca2 ?ca3 ?ca4 ?ca5 ?_)
    case ca2=>first|(intro u hu;simp at hu;rcases hu with rfl|rfl|rfl|rfl<;>rfl)|(simp;done)|exact⟨rfl,rfl,rfl,rfl⟩
    case ca3=>unfold maxLen;omega
    case ca4=>omega
    case ca5=>have:=HB.out.size;first|omega|(simp;omega)
    intro v7 w7 hown hgrow _;have hbel:Below Z6.heap.size Z6 w7:=(HB.out.alloc (by have:=HB.out.size;simpa using this) _).grown hgrow (by have:=HB.out.size;simp;omega) (fun k hk=>(HR2.out.lt k hk).1);have hkE:KeepT 120 wr w7:=(KeepT.below ((Below.refl _ _).alloc (Nat.le_refl _) (.cells #[.int .i64 (2+(cc:Int)+8*mk),.bool KD,.slice none 0 0,.string ⟨#[]⟩] 53))).trans (KeepT.grown (HR2.out.alloc _) hgrow (by decide));obtain⟨A_v7,c_v7,hv9,_,_,_⟩:=z1z hown (by decide);subst hv9;have HO7:=hid hown;have HB7:=hid hbel;have HK7:=hid hkE;clear hown hgrow hbel hkE
    have EN7:∀z∈zs++[((⟨2+(cc:Int)+8*mk,KD,[],txt []⟩:Ino),Value.slice none 0 0)],∃A m c,z.2=.slice A m c∧SlOk A m c∧EntsAt (some B) w7 A m z.1.ents:=by
     intro z hz;simp only[List.mem_append,List.mem_singleton] at hz
     rcases hz with hz|hz
     ·obtain⟨A7,m7,c7,h71,h72,h73⟩:=HENT.out z hz;exact⟨A7,m7,c7,h71,h72,h73.keep HK7.out⟩
     ·subst hz;exact⟨none,0,0,rfl,⟨Nat.le_refl _,fun _=>rfl⟩,rfl,fun h=>absurd h (by omega)⟩
    have HEN7:=hid EN7;clear EN7;have hino:InoRow B w7 (.slice A_v7 (L+1) c_v7) (L+1) (zs++[((⟨2+(cc:Int)+8*mk,KD,[],txt []⟩:Ino),Value.slice none 0 0)]):=⟨by rw[List.flatMap_append];exact zgd HO7.out (by have:=HAS6.out.size;omega),HEN7.out⟩;obtain⟨AV,cV,hv,hcV,hnV,hIV⟩:=InosAt.of_row hino;injection hv with e1 e2 e3
    subst e1 e3;rw[show(zs++[((⟨2+(cc:Int)+8*mk,KD,[],txt []⟩:Ino),Value.slice none 0 0)]).map Prod.fst=RI by rw[List.map_append];exact HC.out] at hIV;have pf:=(HB7.out.frozen (p:=⟨p,0,.none⟩) hp6).trans f60;have pp:=(HB7.out.cell (p:=⟨p,0,.none⟩) hp6).trans c60
    have hrv:RV.1={ s with made:=s.made.set cc (mk+1),inos:=RI }:=by
     have h:=HRV4.out;rw[←h,←HRI.out,←HIS.out]
    have hsz3:=HZ3.out;rw[hrv] at hsz3;have hown7:=(HO6.out.below HB7.out).setInos (is:=RI) hIV ⟨hcV,fun e=>(hnV e).2⟩ hsz3;have hrw:ResAt w7 G _ _ _ _ _ _:=(HB7.out.block G HR6.out.lt).trans HR6.out;obtain⟨_,_,_,_,_,_,_,_,_,_,hpb,_⟩:=(HO6.out.below HB7.out).at_
    obtain⟨W7,hW7⟩:∃W7,World.setCell w7 ⟨p,0,.none⟩ (.slice A_v7 (L+1) c_v7)=W7:=⟨_,rfl⟩;have hr7:ResAt W7 G (.int .i64 0) (.int .i64 0) (.int .i64 0) (.bool false) (.string ⟨#[]⟩) (.slice none 0 0):=by rw[←hW7];exact(Below.heap_setCell w7 ⟨p,0,.none⟩ _ G (by show G≠p;omega)).trans hrw
    have ha7:Aside p w W7:=by rw[←hW7];exact(HAS6.out.trans (Aside.below HB7.out)).trans (Aside.set hpb (.inr (.inr rfl)))
    have hb7:Below B w W7:=by rw[←hW7];exact(HBB6.out.trans (HB7.out.mono (by have:=HAS6.out.size;omega))).setCell (by exact hBp) _
    rw[hW7] at hown7;have HOWN7:=hid hown7;have HR7:=hid hr7;have HA7:=hid ha7;have HB7':=hid hb7;have HRVE:=hid hrv;have hs7:W2.heap.size≤W7.heap.size:=by rw[←hW7];have:=HB7.out.size;simp[World.setCell];omega
    clear hino hIV hcV hnV hrv hsz3 hown7 hrw hpb hr7 ha7 hb7;go_wp2_with fail;refine(z4p 0 _).mono ?_;rintro e5 w5 ⟨rfl,hb5⟩;have hres5:ResAt w5 G _ _ _ _ _ _:=(hb5.block G HR7.out.lt).trans HR7.out;obtain⟨g0,g1,g2',g3,g4,g5,gf⟩:=hres5.get;obtain⟨W9,hW9,hr9,k9,b9,n9,z9⟩:=hres5.six (.int .i64 0) (.int .i64 0) (.int .i64 0) (.bool false) (.string ⟨#[]⟩) (.slice none 0 0);have HR5:=hid hr9;have HOF:=hid ((HOWN7.out.below hb5).keep k9);have HBF:=hid (b9 B w (by omega) (HB7'.out.trans (hb5.mono (by have:=HA7.out.size;omega))));have ha5:=HA7.out.trans (Aside.below hb5);have HAS:Hid (Aside p w W9):=hid ⟨Nat.le_trans ha5.size z9,fun b cur t hb h1 h2 h3=>(n9 b (by have:=(Array.getElem?_eq_some_iff.1 hb).1;omega)).trans (ha5.same b cur t hb h1 h2 h3)⟩;have HRE:Hid (RV.2={}):=hid (by rw[←HRV4.out]);clear hres5 hr9 k9 b9 hb5 n9 z9 ha5;go_wp2_with fail
    (try simp only[Exit.inBlock,Exit.then])
    refine z7g rfl HR5.out rfl rfl ?_;refine⟨by rw[HRE.out];rfl,?_,HBF.out,HAS.out⟩;rw[HRVE.out];exact HOF.out
   ·have HC:=hid (show zs.map Prod.fst++[]=RI from hc);clear hc hnil;have hino:InoRow B wr V L zs:=⟨by exact zgd HR2.out (by have:=HAS6.out.size;omega),HENT.out⟩;obtain⟨AV,cV,hv,hcV,hnV,hIV⟩:=InosAt.of_row hino;subst hv;rw[show zs.map Prod.fst=RI by rw[←HC.out,List.append_nil]] at hIV;have pf:=(HB.out.frozen (p:=⟨p,0,.none⟩) hp6).trans f60;have pp:=(HB.out.cell (p:=⟨p,0,.none⟩) hp6).trans c60
    have hrv:RV.1={ s with made:=s.made.set cc (mk+1),inos:=RI }:=by
     have h:=HRV4.out;rw[←h,←HRI.out,←HIS.out]
    have hsz3:=HZ3.out;rw[hrv] at hsz3;have hown7:=(HO6.out.below HB.out).setInos (is:=RI) hIV ⟨hcV,fun e=>(hnV e).2⟩ hsz3;have hrw:ResAt wr G _ _ _ _ _ _:=(HB.out.block G HR6.out.lt).trans HR6.out;obtain⟨_,_,_,_,_,_,_,_,_,_,hpb,_⟩:=(HO6.out.below HB.out).at_
    obtain⟨W7,hW7⟩:∃W7,World.setCell wr ⟨p,0,.none⟩ (.slice AV L cV)=W7:=⟨_,rfl⟩;have hr7:ResAt W7 G (.int .i64 0) (.int .i64 0) (.int .i64 0) (.bool false) (.string ⟨#[]⟩) (.slice none 0 0):=by rw[←hW7];exact(Below.heap_setCell wr ⟨p,0,.none⟩ _ G (by show G≠p;omega)).trans hrw
    have ha7:Aside p w W7:=by rw[←hW7];exact(HAS6.out.trans (Aside.below HB.out)).trans (Aside.set hpb (.inr (.inr rfl)))
    have hb7:Below B w W7:=by rw[←hW7];exact(HBB6.out.trans (HB.out.mono (by have:=HAS6.out.size;omega))).setCell (by exact hBp) _
    rw[hW7] at hown7;have HOWN7:=hid hown7;have HR7:=hid hr7;have HA7:=hid ha7;have HB7':=hid hb7;have HRVE:=hid hrv;have hs7:W2.heap.size≤W7.heap.size:=by rw[←hW7];have:=HB.out.size;simp[World.setCell];omega
    clear hino hIV hcV hnV hrv hsz3 hown7 hrw hpb hr7 ha7 hb7;go_wp2_with fail;refine(z4p 0 _).mono ?_;rintro e5 w5 ⟨rfl,hb5⟩;have hres5:ResAt w5 G _ _ _ _ _ _:=(hb5.block G HR7.out.lt).trans HR7.out;obtain⟨g0,g1,g2',g3,g4,g5,gf⟩:=hres5.get;obtain⟨W9,hW9,hr9,k9,b9,n9,z9⟩:=hres5.six (.int .i64 0) (.int .i64 0) (.int .i64 0) (.bool false) (.string ⟨#[]⟩) (.slice none 0 0);have HR5:=hid hr9;have HOF:=hid ((HOWN7.out.below hb5).keep k9);have HBF:=hid (b9 B w (by omega) (HB7'.out.trans (hb5.mono (by have:=HA7.out.size;omega))));have ha5:=HA7.out.trans (Aside.below hb5);have HAS:Hid (Aside p w W9):=hid ⟨Nat.le_trans ha5.size z9,fun b cur t hb h1 h2 h3=>(n9 b (by have:=(Array.getElem?_eq_some_iff.1 hb).1;omega)).trans (ha5.same b cur t hb h1 h2 h3)⟩;have HRE:Hid (RV.2={}):=hid (by rw[←HRV4.out]);clear hres5 hr9 k9 b9 hb5 n9 z9 ha5;go_wp2_with fail
    (try simp only[Exit.inBlock,Exit.then])
    refine z7g rfl HR5.out rfl rfl ?_;refine⟨by rw[HRE.out];rfl,?_,HBF.out,HAS.out⟩;rw[HRVE.out];exact HOF.out
end Go.Proofs.YtkflaifopbodfaaGreatDoor
