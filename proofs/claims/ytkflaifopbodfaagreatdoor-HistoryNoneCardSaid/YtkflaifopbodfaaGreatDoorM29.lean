/- Parts of the proof, side by side: MoLay, MoBytes1, MoWrite, MoLink. -/
import Derived.Test.YtkflaifopbodfaaGreatDoorM28
import Derived.Test.YtkflaifopbodfaaGreatDoorM16
import Derived.Test.YtkflaifopbodfaaGreatDoorM23
import Derived.Test.YtkflaifopbodfaaGreatDoorM13
import Derived.Deep.RegionLaw
set_option linter.unusedVariables false
set_option linter.unusedSimpArgs false
namespace Go.Proofs.YtkflaifopbodfaaGreatDoor
open Lib (hid)
open Go.RowKit
theorem zmq (s:ByteArray) (o:Nat) (d:ByteArray) (w:World) (hd:d.size=0):
  Calls Tryz.prog 146 #[.string s,.int .i64 (o:Int),.string d] w fun e w'=>e=.returned (.string s)∧w=w':=by
 have h0:d=⟨#[]⟩:=by
  cases d with
  | mk a=>
   have:a.size=0:=hd;rw[Array.size_eq_zero_iff.1 this]
 subst h0
 go_enter Tryz.func146,Tryz.ntmps146
 go_wp2_with fail;go_ret;exact⟨rfl,rfl⟩
set_option maxRecDepth 100000 in
set_option maxHeartbeats 4000000 in
theorem zo5 (s:ByteArray) (o:Nat) (d:ByteArray) (w:World) (hd:d.size≠0) (hs:s.size≤10000) (ho:o≤10000) (hd2:d.size≤10000):
  Calls Tryz.prog 146 #[.string s,.int .i64 (o:Int),.string d] w fun e w'=>e=.returned (.string (txt (layL s.data.toList o d.data.toList)))∧Below w.heap.size w w':=by
 have hl:s.data.toList.length=s.size:=Array.length_toList;have hdl:d.data.toList.length=d.size:=Array.length_toList;obtain⟨k,hk⟩:∃k,max s.size (o+d.size)=k:=⟨_,rfl⟩;have hks:s.size≤k:=by omega
 have hko:o+d.size≤k:=by omega
 have hk6:k≤65536:=by omega
 have hmax:max (s.size:Int) ((o:Int)+(d.size:Int))=(k:Int):=by omega
 have hmax2:max (s.size:Int) ((o+d.size:Nat):Int)=(k:Int):=by omega
 have ow:IntKind.i64.wrap ((o:Int)+(d.size:Int))=(o:Int)+(d.size:Int):=by rw[IntKind.wrap_i64];omega
 have hlay:layL s.data.toList o d.data.toList=(sizedL s.data.toList k).take o++d.data.toList++(sizedL s.data.toList k).drop (o+d.data.toList.length):=by
  unfold layL;rw[hl,hdl,hk]
 have hmk:=run_make_row' (P:=Tryz.prog) 79 5 (.int .u8 0) 1 Tryz.underlying79 infoByte rfl .i64 .i64 k (by omega) (by omega) w;have hg0:=heap_alloc_new w (.cells (madeCells #[.int .u8 0] k) 5);have hcs:(madeCells #[Value.int .u8 0] k).size=k:=by simp[madeCells]
 have hcp:=fun ty=>Lib.run_copy_row_string (P:=Tryz.prog) (ty:=ty) (w.alloc (.cells (madeCells #[.int .u8 0] k) 5)) 79 9 5 w.heap.size 0 k k s _ _ Tryz.underlying79 (by kernel_rfl) hg0 hks (by rw[hcs];omega)
 obtain⟨NC,hNC⟩:∃NC:Array Value,(((madeCells #[Value.int .u8 0] k).toList.take 0)++Lib.byteCells s.data.toList++(madeCells #[Value.int .u8 0] k).toList.drop (0+s.size)).toArray=NC:=⟨_,rfl⟩
 have hnc:NC=(Lib.byteCells (sizedL s.data.toList k)).toArray:=by
  rw[←hNC,za1 _ _ (by omega),Lib.byteCells_append]
  congr 1
  have e1:(madeCells #[Value.int .u8 0] k).toList=List.replicate k (Value.int .u8 0):=by
   apply List.ext_getElem
   ·simp[madeCells]
   ·intro i h1 h2;simp[madeCells,Nat.mod_one]
  rw[e1,hl];simp[Lib.byteCells]
 rw[hNC,hnc] at hcp;obtain⟨W2,hW2⟩:∃W2,w.alloc (.cells (Lib.byteCells (sizedL s.data.toList k)).toArray 5)=W2:=⟨_,rfl⟩
 have hcp2:∀ty,(Builtin.copy_ #[79,9] ty #[.slice (some ⟨w.heap.size,0,none⟩) k k,.string s]).run Tryz.prog (w.alloc (.cells (madeCells #[.int .u8 0] k) 5))=.ok (goInt s.size) W2:=by
  intro ty;rw[hcp ty,World.setRow_alloc_new,hW2]
 have hrow:Cv.ByteRow W2 w.heap.size (sizedL s.data.toList k):=by
  have hh:W2.heap[w.heap.size]? =some (.cells (Lib.byteCells (sizedL s.data.toList k)).toArray 5 (0,0)):=by rw[←hW2];exact heap_alloc_new w _
  refine⟨(Array.getElem?_eq_some_iff.1 hh).1,fun j hj=>⟨?_,frozen_of_row W2 w.heap.size j _ _ hh⟩⟩;rw[cell_of_row W2 w.heap.size j _ _ (0,0) hh];simp[Lib.byteCells,hj]
 have hb:Below w.heap.size w W2:=by rw[←hW2];exact(Below.refl _ _).alloc (Nat.le_refl _) _
 have hcp3:∀ty,(Builtin.copy_ #[79,9] ty #[.slice (some ⟨w.heap.size,o,none⟩) (k-o) (k-o),.string d]).run Tryz.prog W2=.ok (goInt d.size) (W2.setCells w.heap.size o (d.data.toList.map fun x=>Value.int .u8 (x.toNat:Int))):=fun ty=>
  run_copy_string W2 79 9 ty 5 w.heap.size o (k-o) (k-o) d Tryz.underlying79 zk2 (by omega)
   (fun jj hjj=>by rw[(hrow.2 (o+jj) (by rw[z2b];omega)).1];rfl) (fun jj hjj=>(hrow.2 (o+jj) (by rw[z2b];omega)).2)
 have hrowB:=zff hrow o d.data.toList (by rw[z2b,hdl];omega);rw[←hlay] at hrowB;obtain⟨W3,hW3⟩:∃W3,W2.setCells w.heap.size o (d.data.toList.map fun x=>Value.int .u8 (x.toNat:Int))=W3:=⟨_,rfl⟩;rw[hW3] at hcp3 hrowB;have hb3:Below w.heap.size w W3:=by rw[←hW3];exact below_setCells (Nat.le_refl _) _ _ _ hb
 obtain⟨NT,hNT⟩:∃NT:ByteArray,txt (layL s.data.toList o d.data.toList)=NT:=⟨_,rfl⟩
 have hconv:(convert 79 9 (.slice (some ⟨w.heap.size,0,none⟩) k k)).run Tryz.prog W3=.ok (.string NT) W3:=by
  rw[←hNT];refine Cv.back_of hrowB k k ?_;rw[zcj,hl,hdl,hk]
 rw[hNT]
 have hne:(d.toList==[])=false:=by
  rw[beq_eq_false_iff_ne];intro h;rw[ByteArray.toList_eq] at h;rw[h] at hdl;simp at hdl;omega
 have ok0:(0:Int)≤(o:Int):=by omega
 have ok1:(o:Int)≤(k:Int):=by omega
 have ok2:o≤k:=by omega
 have ok3:¬(k=o):=by omega
 have HB:=hid hb3;clear hg0 hcs hcp hNC hnc hW2 hrow hb hl hdl hNT hlay hrowB hW3 hb3 hk
 go_enter Tryz.func146,Tryz.ntmps146
 go_wp2_with fail;go_ret;exact⟨rfl,HB.out⟩
set_option maxRecDepth 100000 in
set_option maxHeartbeats 16000000 in
theorem zkr (B q p:Nat) (s:St) (c:Ca) (zs:List (Ino×Value)) (vI vO vM:Value) (w:World) (hN:Now B q p s c zs vI vO vM w w) (hg:Good s) (hk:c.kind=7):
  Calls Tryz.prog 116 #[.pointer (some ⟨q,0,.none⟩)] w (Ran B q p c (byFdV s c) w):=by
 obtain⟨R,hR⟩:∃R,byFdV s c=R:=⟨_,rfl⟩;rw[hR];unfold byFdV at hR;have HR:=hid hR;have HN0:=hid hN;have HG:=hid hg;clear hR hN hg
 go_enter Tryz.func116,Tryz.ntmps116
 go_wp2_with fail;refine(z3e B q p s c 0 0 false ⟨#[]⟩ (.slice none 0 0) zs vI vO vM w HN0.out.doer HN0.out.own HG.out).mono ?_;rintro e1 w1 ⟨hb1,⟨h0,rfl⟩|⟨h0,g,n,d,i,x,k,hvI,hx,hxn,hxd,hfp,rfl⟩⟩
 ·have hr:=HR.out;rw[if_pos h0] at hr
  go_simp
  exact z0b rfl ((HN0.out.step hb1).fail (by rw[←hr];simp) (by rw[←hr]))
 have hr:=HR.out;rw[if_neg h0,if_neg (by omega),if_neg (by omega),if_neg (by omega),if_neg (by omega),if_pos hk] at hr;have HN1:=hid (HN0.out.step hb1);have hat:=HG.out.at_ hx hxn;rw[z4m hat hx] at hr;have HRF:=hid hr;obtain⟨E,m,e,x0,x1,x2,x3,hE,hgl,hm⟩:=HN1.out.ino hvI hx;have d1:=HN1.out.doer.c1;rw[hk] at d1;have r11:=HN1.out.doer.r11;have z11:=HN1.out.doer.fz 11;clear hr HR hb1 hE hm hat hxn h0 hfp;go_wp2_with fail
 go_returns
 exact⟨HN1.out.low.trans (z4l HN1.out.hq),.inr ⟨by rw[←HRF.out],rfl,⟨zs,vI,vO,vM,by rw[←HRF.out];exact HN1.out.doer.set_own HN1.out.own⟩,.slice none 0 0,by rw[←HRF.out];exact HN1.out.doer.setNum _,by rw[←HRF.out];exact⟨rfl,.inl ⟨none,rfl,rfl⟩⟩⟩⟩
set_option maxRecDepth 100000 in
set_option maxHeartbeats 16000000 in
theorem ziv (B q p:Nat) (s:St) (c:Ca) (zs:List (Ino×Value)) (vI vO vM:Value) (w:World) (hN:Now B q p s c zs vI vO vM w w) (hg:Good s) (hk:c.kind=6):
  Calls Tryz.prog 116 #[.pointer (some ⟨q,0,.none⟩)] w (Ran B q p c (byFdV s c) w):=by
 obtain⟨R,hR⟩:∃R,byFdV s c=R:=⟨_,rfl⟩;have hsz:=zck hg c;rw[hR] at hsz ⊢;unfold byFdV at hR;have HR:=hid hR;have HSZ:=hid hsz;have HN0:=hid hN;have HG:=hid hg;clear hR hN hg hsz
 go_enter Tryz.func116,Tryz.ntmps116
 go_wp2_with fail;refine(z3e B q p s c 0 0 false ⟨#[]⟩ (.slice none 0 0) zs vI vO vM w HN0.out.doer HN0.out.own HG.out).mono ?_;rintro e1 w1 ⟨hb1,⟨h0,rfl⟩|⟨h0,g,n,d,i,x,k,hvI,hx,hxn,hxd,hfp,rfl⟩⟩
 ·have hr:=HR.out;rw[if_pos h0] at hr
  go_simp
  exact z0b rfl ((HN0.out.step hb1).fail (by rw[←hr];simp) (by rw[←hr]))
 have hr:=HR.out;rw[if_neg h0,if_neg (by omega),if_neg (by omega),if_neg (by omega),if_pos hk] at hr;have HN1:=hid (HN0.out.step hb1);have hat:=HG.out.at_ hx hxn;rw[z4m hat hx,zbj hat hx] at hr;have HRF:=hid hr;have hdat:=(HG.out.files x (List.mem_of_getElem? hx) hxd).2;obtain⟨g',c',E,m,d2,hv,hz,hgl,_,_,x0,x1,x2,x3,xf,_⟩:=HN1.out.own.at_ hx;have hgg:g'=g:=by rw[hvI] at hv;injection hv with e1 _ _;injection e1 with e1;injection e1 with e1;exact e1.symm
 subst hgg;have d1:=HN1.out.doer.c1;rw[hk] at d1;have d5:=HN1.out.doer.c5;have x3f:=xf (i*4+3)
 have hqg:q≠g':=fun e=>by
  obtain⟨gg,_,cur,hvv,_,_,_,hgc,_⟩:=HN1.out.own.rowI.open_ (by have:=(List.getElem?_eq_some_iff.1 hz).1;omega);rw[hvI] at hvv;injection hvv with e1 _ _
  injection e1 with e1
  injection e1 with e1
  subst e1;exact z0i HN1.out.doer.cell hgc (by decide) e
 have HZ:=hid hz;have HVI:=hid hvI;have hq1:=HN1.out.doer.lt;obtain⟨NU,hNU⟩:∃NU,c.num=NU:=⟨_,rfl⟩;rw[hNU] at d5;have HNU:=hid hNU;clear hr HR hb1 hat hxn h0 hfp hz hvI hv xf hx hNU;go_wp2_with fail;refine(zel NU w1).mono ?_;rintro e2 w2 ⟨rfl,rfl⟩
 by_cases hin:0≤NU∧NU≤256
 rotate_left
 ·have hr:=HRF.out;rw[HNU.out,if_pos (by omega)] at hr;rw[decide_eq_false hin];clear hin;go_wp2_with fail;refine(z0f _ _).mono ?_;rintro e3 w3 ⟨rfl,rfl⟩;go_wp2_with fail;exact z0b rfl (HN1.out.fail (by rw[←hr];simp) (by rw[←hr]))
 have hr:=HRF.out;rw[HNU.out,if_neg (by omega)] at hr;rw[decide_eq_true hin];obtain⟨nn,rfl⟩:∃nn:Nat,NU=(nn:Int):=⟨NU.toNat,by omega⟩;rw[Int.toNat_natCast] at hr;have hnn:nn≤65536:=by omega
 have hs:=HSZ.out;rw[←hr] at hs;have HS:=hid hs;have HR2:=hid hr;have hcut:=fun w=>zo4 x.data nn w hnn
 obtain⟨NT,hNT⟩:∃NT,txt (sizedL x.data.data.toList nn)=NT:=⟨_,rfl⟩;rw[hNT] at hcut;have HCUT:=hid hcut;have HNT:=hid hNT;clear hin hr hs hcut hNT;go_wp2_with fail;refine(z0h _ _).mono ?_;rintro e3 w3 ⟨rfl,rfl⟩;go_wp2_with fail
 go_region_law (go_simp;go_at_call 147;(refine(HCUT.out w1.drew).mono ?_;rintro e5 w5 ⟨rfl,hb5⟩;have hb5':Below w1.heap.size w1 w5:=(Cv.drewN_below (Below.refl w1.heap.size w1) 1).trans hb5;have q5:=(hb5'.cell (p:=⟨q,5,none⟩) hq1).trans d5;have y3:=(hb5'.cell (p:=⟨g',i*4+3,none⟩) hgl).trans x3;have yf:w5.frozen? ⟨g',i*4+3,none⟩=false:=(hb5'.frozen (p:=⟨g',i*4+3,none⟩) hgl).trans x3f))
 all_goals (
  have HN5:=hid (HN1.out.step hb5');have hfin:=HN5.out.own.setB HN5.out.hB' HZ.out (d:=NT) (by rw[←HNT.out];exact HS.out) HVI.out;have HFIN:=hid hfin;clear hb5 hb5' hfin;go_wp2_with fail
  go_returns
  exact HN5.out.done (by rw[←HR2.out]) rfl HFIN.out.2 ⟨_,_,_,_,by rw[←HR2.out,HNT.out];exact HFIN.out.1⟩)
set_option maxRecDepth 100000 in
set_option maxHeartbeats 16000000 in
theorem zks (B q p:Nat) (s:St) (c:Ca) (zs:List (Ino×Value)) (vI vO vM:Value) (w:World) (hN:Now B q p s c zs vI vO vM w w) (hg:Good s) (hk:c.kind=4):
  Calls Tryz.prog 116 #[.pointer (some ⟨q,0,.none⟩)] w (Ran B q p c (byFdV s c) w):=by
 obtain⟨R,hR⟩:∃R,byFdV s c=R:=⟨_,rfl⟩;rw[hR];unfold byFdV at hR;have HR:=hid hR;have HN0:=hid hN;have HG:=hid hg;clear hR hN hg
 go_enter Tryz.func116,Tryz.ntmps116
 go_wp2_with fail;refine(z3e B q p s c 0 0 false ⟨#[]⟩ (.slice none 0 0) zs vI vO vM w HN0.out.doer HN0.out.own HG.out).mono ?_;rintro e1 w1 ⟨hb1,⟨h0,rfl⟩|⟨h0,g,n,d,i,x,k,hvI,hx,hxn,hxd,hfp,rfl⟩⟩
 ·have hr:=HR.out;rw[if_pos h0] at hr
  go_simp
  exact z0b rfl ((HN0.out.step hb1).fail (by rw[←hr];simp) (by rw[←hr]))
 have hr:=HR.out;rw[if_neg h0,if_neg (by omega),if_pos hk] at hr;have HN1:=hid (HN0.out.step hb1);have hat:=HG.out.at_ hx hxn;rw[z4m hat hx] at hr;have HRF:=hid hr;have hdat:=(HG.out.files x (List.mem_of_getElem? hx) hxd).2;obtain⟨E,m,e,x0,x1,x2,x3,hE,hgl,hm⟩:=HN1.out.ino hvI hx;have d1:=HN1.out.doer.c1;rw[hk] at d1;have d4:=HN1.out.doer.c4;have d5:=HN1.out.doer.c5;have hq1:=HN1.out.doer.lt;obtain⟨NU,hNU⟩:∃NU,c.num=NU:=⟨_,rfl⟩;obtain⟨OF,hOF⟩:∃OF,c.off=OF:=⟨_,rfl⟩;rw[hNU] at d5;rw[hOF] at d4;have HNU:=hid hNU;have HOF:=hid hOF
 have hfail:OF<0∨256<OF∨NU<0∨256<NU→Ran B q p c R w (.panicked (faultP 9)) w1:=fun h=>by
  have hr:=HRF.out;rw[HNU.out,HOF.out,if_pos h] at hr;exact HN1.out.fail (by rw[←hr];simp) (by rw[←hr])
 have HFAIL:=hid hfail
 have hqg:q≠g:=fun e=>by
  obtain⟨g2,_,_,_,_,hv2,hz2,_⟩:=HN1.out.own.at_ hx;obtain⟨gg,_,cur,hvv,_,_,_,hgc,_⟩:=HN1.out.own.rowI.open_ (by have:=(List.getElem?_eq_some_iff.1 hz2).1;omega);rw[hvI] at hvv;injection hvv with e1 _ _
  injection e1 with e1
  injection e1 with e1
  subst e1;exact z0i HN1.out.doer.cell hgc (by decide) e
 clear hr HR hb1 hE hm hat hxn h0 hfp hvI hx hNU hOF hfail;go_wp2_with fail;refine(zel OF w1).mono ?_;rintro e2 w2 ⟨rfl,rfl⟩
 by_cases hin:0≤OF∧OF≤256
 rotate_left
 ·rw[decide_eq_false hin];have HIN:=hid hin;clear hin;go_wp2_with fail;refine(z0f _ _).mono ?_;rintro e3 w3 ⟨rfl,rfl⟩;go_wp2_with fail;exact z0b rfl (HFAIL.out (by have:=HIN.out;omega))
 rw[decide_eq_true hin];have HIN:=hid hin;clear hin;go_wp2_with fail;refine(zel NU w1).mono ?_;rintro e2 w2 ⟨rfl,rfl⟩
 by_cases hin2:0≤NU∧NU≤256
 rotate_left
 ·rw[decide_eq_false hin2];have HIN2:=hid hin2;clear hin2;go_wp2_with fail;refine(z0f _ _).mono ?_;rintro e3 w3 ⟨rfl,rfl⟩;go_wp2_with fail;exact z0b rfl (HFAIL.out (by have:=HIN2.out;omega))
 rw[decide_eq_true hin2];have hin:=HIN.out;have hr:=HRF.out;rw[HNU.out,HOF.out,if_neg (by omega)] at hr;obtain⟨nn,rfl⟩:∃nn:Nat,NU=(nn:Int):=⟨NU.toNat,by omega⟩;obtain⟨oo,rfl⟩:∃oo:Nat,OF=(oo:Int):=⟨OF.toNat,by omega⟩;rw[Int.toNat_natCast,Int.toNat_natCast] at hr;have hpc:=fun w=>zkq x.data oo nn w (by omega) (by omega) (by omega)
 obtain⟨NT,hNT⟩:∃NT,txt ((x.data.data.toList.drop oo).take nn)=NT:=⟨_,rfl⟩;rw[hNT] at hpc hr;have HPC:=hid hpc;have HR2:=hid hr;have z13:w1.drew.frozen? ⟨q,13,none⟩=false:=HN1.out.doer.fz 13;have r13:w1.drew.cell? ⟨q,13,none⟩=some (.string ⟨#[]⟩):=HN1.out.doer.r13;have k3:(w1.setCell ⟨q,13,none⟩ (.string NT)).drew.cell? ⟨g,i*4+3,none⟩=some (.string x.data):=(World.cell?_setCell_other w1 ⟨q,13,none⟩ ⟨g,i*4+3,none⟩ _ (by simp[hqg,hqg.symm])).trans x3;have k4:(w1.setCell ⟨q,13,none⟩ (.string NT)).drew.cell? ⟨q,4,none⟩=some (.int .i64 (oo:Int)):=(World.cell?_setCell_other w1 ⟨q,13,none⟩ ⟨q,4,none⟩ _ (by simp)).trans d4;have k5:(w1.setCell ⟨q,13,none⟩ (.string NT)).drew.cell? ⟨q,5,none⟩=some (.int .i64 (nn:Int)):=(World.cell?_setCell_other w1 ⟨q,13,none⟩ ⟨q,5,none⟩ _ (by simp)).trans d5;clear hin hin2 hr hpc hNT HFAIL HIN
 go_wp2_with fail;refine(z0h _ _).mono ?_;rintro e3 w3 ⟨rfl,rfl⟩;go_wp2_with fail
 go_region_held3 (fun w'=>w'.cell? ⟨g,i*4+3,none⟩=some (.string x.data)∧w'.cell? ⟨q,4,none⟩=some (.int .i64 (oo:Int))∧w'.cell? ⟨q,5,none⟩=some (.int .i64 (nn:Int)))
  (first|go_keep|exact⟨x3,d4,d5⟩|exact⟨k3,k4,k5⟩)
  (first
   | (go_at_call 145;(refine(HPC.out w1.drew).mono ?_;rintro e5 w5 ⟨rfl,rfl⟩)))
 all_goals (
  have hdw:Below (w1.setCell ⟨q,13,none⟩ (.string NT)).heap.size (w1.setCell ⟨q,13,none⟩ (.string NT)) (w1.setCell ⟨q,13,none⟩ (.string NT)).drew:=Cv.drewN_below (Below.refl _ _) 1;have ho:=(HN1.out.doer.set_own (j:=13) (u:=.string NT) HN1.out.own).below hdw;have hd:=(HN1.out.doer.setData NT).below hdw;have hl:=(HN1.out.low.trans (z4l (j:=13) (u:=.string NT) HN1.out.hq)).trans (hdw.mono (by have:=HN1.out.hB';simpa [World.setCell] using this));have HOO:=hid ho;have HDD:=hid hd;have HLL:=hid hl;clear ho hd hl hdw k3 k4 k5;go_wp2_with fail
  go_returns
  exact⟨HLL.out,.inr ⟨by rw[←HR2.out],rfl,⟨zs,vI,vO,vM,by rw[←HR2.out];exact HOO.out⟩,.slice none 0 0,by rw[←HR2.out];exact HDD.out,by rw[←HR2.out];exact⟨rfl,.inl ⟨none,rfl,rfl⟩⟩⟩⟩)
set_option maxRecDepth 100000 in
set_option maxHeartbeats 16000000 in
theorem ziw (B q p:Nat) (s:St) (c:Ca) (zs:List (Ino×Value)) (vI vO vM:Value) (w:World) (hN:Now B q p s c zs vI vO vM w w) (hg:Good s) (hk:c.kind=5) (hds:c.data.size≤140737488355328):
  Calls Tryz.prog 116 #[.pointer (some ⟨q,0,.none⟩)] w (Ran B q p c (byFdV s c) w):=by
 obtain⟨R,hR⟩:∃R,byFdV s c=R:=⟨_,rfl⟩;have hsz:=zck hg c;rw[hR] at hsz ⊢;unfold byFdV at hR;have HSZ:=hid hsz;have HR:=hid hR;have HN0:=hid hN;have HG:=hid hg;clear hR hN hg hsz
 go_enter Tryz.func116,Tryz.ntmps116
 go_wp2_with fail;refine(z3e B q p s c 0 0 false ⟨#[]⟩ (.slice none 0 0) zs vI vO vM w HN0.out.doer HN0.out.own HG.out).mono ?_;rintro e1 w1 ⟨hb1,⟨h0,rfl⟩|⟨h0,g,n,d,i,x,k,hvI,hx,hxn,hxd,hfp,rfl⟩⟩
 ·have hr:=HR.out;rw[if_pos h0] at hr
  go_simp
  exact z0b rfl ((HN0.out.step hb1).fail (by rw[←hr];simp) (by rw[←hr]))
 have hr:=HR.out;rw[if_neg h0,if_neg (by omega),if_neg (by omega),if_pos hk] at hr;have HN1:=hid (HN0.out.step hb1);have hat:=HG.out.at_ hx hxn;rw[z4m hat hx,zbj hat hx] at hr;have HRF:=hid hr;have hdat:=(HG.out.files x (List.mem_of_getElem? hx) hxd).2;obtain⟨E,m,e,x0,x1,x2,x3,hE,hgl,hm⟩:=HN1.out.ino hvI hx;have d1:=HN1.out.doer.c1;rw[hk] at d1;have d4:=HN1.out.doer.c4;have d8:=HN1.out.doer.c8;have hq1:=HN1.out.doer.lt;have hHX:=hid hx;have HVI:=hid hvI;obtain⟨DT,hDT⟩:∃DT,c.data=DT:=⟨_,rfl⟩;obtain⟨OF,hOF⟩:∃OF,c.off=OF:=⟨_,rfl⟩;rw[hDT] at d8 hds;rw[hOF] at d4;have HDT:=hid hDT;have HOF:=hid hOF
 have hfail:OF<0∨256<OF∨256<DT.size→Ran B q p c R w (.panicked (faultP 9)) w1:=fun h=>by
  have hr:=HRF.out;rw[HDT.out,HOF.out,if_pos h] at hr;exact HN1.out.fail (by rw[←hr];simp) (by rw[←hr])
 have HFAIL:=hid hfail
 have hqg:q≠g:=fun e=>by
  obtain⟨g2,_,_,_,_,hv2,hz2,_⟩:=HN1.out.own.at_ hx;obtain⟨gg,_,cur,hvv,_,_,_,hgc,_⟩:=HN1.out.own.rowI.open_ (by have:=(List.getElem?_eq_some_iff.1 hz2).1;omega);rw[hvI] at hvv;injection hvv with e1 _ _
  injection e1 with e1
  injection e1 with e1
  subst e1;exact z0i HN1.out.doer.cell hgc (by decide) e
 obtain⟨g2,c2,E2,m2,e2,hv2,hz,_,_,_,_,_,_,_,xf,_⟩:=HN1.out.own.at_ hx
 have x3f:w1.frozen? ⟨g,i*4+3,none⟩=false:=by
  have hgg:g2=g:=by rw[hvI] at hv2;injection hv2 with e1 _ _;injection e1 with e1;injection e1 with e1;exact e1.symm
  rw[←hgg];exact xf _
 have HZ:=hid hz;clear hr HR hb1 hE hm hat hxn h0 hfp hvI hx hDT hOF hfail hv2 hz xf;go_wp2_with fail;refine(zel OF w1).mono ?_;rintro e2 w2 ⟨rfl,rfl⟩
 by_cases hin:0≤OF∧OF≤256
 rotate_left
 ·rw[decide_eq_false hin];have HIN:=hid hin;clear hin;go_wp2_with fail;refine(z0f _ _).mono ?_;rintro e3 w3 ⟨rfl,rfl⟩;go_wp2_with fail;exact z0b rfl (HFAIL.out (by have:=HIN.out;omega))
 rw[decide_eq_true hin];have HIN:=hid hin;clear hin;go_wp2_with fail;refine(zel (DT.size:Int) w1).mono ?_;rintro e2 w2 ⟨rfl,rfl⟩
 by_cases hin2:0≤(DT.size:Int)∧(DT.size:Int)≤256
 rotate_left
 ·rw[decide_eq_false hin2];have HIN2:=hid hin2;clear hin2;go_wp2_with fail;refine(z0f _ _).mono ?_;rintro e3 w3 ⟨rfl,rfl⟩;go_wp2_with fail;exact z0b rfl (HFAIL.out (by have:=HIN2.out;omega))
 rw[decide_eq_true hin2];have hin:=HIN.out;have hr:=HRF.out;rw[HDT.out,HOF.out,if_neg (by omega)] at hr;obtain⟨oo,rfl⟩:∃oo:Nat,OF=(oo:Int):=⟨OF.toNat,by omega⟩;have HR3:=hid hr;obtain⟨DS,hDS⟩:∃DS,DT.size=DS:=⟨_,rfl⟩;have ho256:oo≤256:=by omega
 have hd256:DT.size≤256:=by omega
 have dw:IntKind.i64.wrap ((oo:Int)+(DT.size:Int))=(oo:Int)+(DT.size:Int):=by rw[IntKind.wrap_i64];omega
 clear hin hin2 hr HFAIL HIN hDS;go_wp2_with fail;refine(z0h _ _).mono ?_;rintro e3 w3 ⟨rfl,rfl⟩;go_wp2_with fail
 by_cases hbig:256<(oo:Int)+(DT.size:Int)
 ·have hr:=HR3.out;rw[if_pos hbig] at hr;have q1:decide ((256:Int)<(oo:Int)+(DT.size:Int))=true:=decide_eq_true hbig;have HRB:=hid hr;clear hr hbig;refine z1l 13 (by kernel_rfl) (by kernel_rfl) ?_;simp only[List.take_succ_cons,List.take_zero,List.drop_succ_cons,List.drop_zero]
  repeat (go_big_quiet_step (fail))
  refine wpQuiet_nil ?_;go_wp2_with fail;refine(z0f _ _).mono ?_;rintro e3 w3 ⟨rfl,rfl⟩;go_wp2_with fail;exact z0b rfl ((HN1.out.step (Cv.drewN_below (Below.refl _ _) 1)).fail (by rw[←HRB.out];simp) (by rw[←HRB.out]))
 have hr:=HR3.out;rw[if_neg hbig] at hr;have q1:decide ((256:Int)<(oo:Int)+(DT.size:Int))=false:=decide_eq_false hbig
 obtain⟨NT,hNT,hlay⟩:∃NT,((({ s with inos:=s.inos.set i { x with data:=NT } }:St),({ num:=(DT.size:Int) }:Re))=R)∧∀w,Calls Tryz.prog 146 #[.string x.data,.int .i64 (oo:Int),.string DT] w fun e w'=>e=.returned (.string NT)∧Below w.heap.size w w':=by
  by_cases h0:DT.size=0
  ·refine⟨x.data,?_,fun w=>(zmq x.data oo DT w h0).mono (by rintro e w' ⟨rfl,rfl⟩;exact⟨rfl,Below.refl _ _⟩)⟩;rw[if_pos h0] at hr;rw[←hr,h0]
   have hself:s.inos.set i { x with data:=x.data }=s.inos:=by
    apply List.ext_getElem?;intro j;rw[List.getElem?_set]
    by_cases e:i=j
    ·subst e;rw[if_pos rfl,if_pos (List.getElem?_eq_some_iff.1 hHX.out).1,hHX.out]
    ·rw[if_neg e]
   rw[hself]
   rfl
  ·rw[if_neg h0,Int.toNat_natCast] at hr;exact⟨_,hr,fun w=>zo5 x.data oo DT w h0 (by omega) (by omega) (by omega)⟩
 have hs:=HSZ.out;rw[←hNT] at hs;have HS:=hid hs;have HNT:=hid hNT;have HLAY:=hid hlay;have hdr:Below w1.heap.size w1 w1.drew:=Cv.drewN_below (Below.refl _ _) 1;clear hr hbig HR3 hs hNT hlay;refine z1l 13 (by kernel_rfl) (by kernel_rfl) ?_;simp only[List.take_succ_cons,List.take_zero,List.drop_succ_cons,List.drop_zero]
 repeat (go_big_quiet_step (fail))
 refine wpQuiet_nil ?_;go_wp2_with fail;refine(z0h _ _).mono ?_;rintro e3 w3 ⟨rfl,rfl⟩;generalize hW:w1.drew=w2 at *;have HN2:=hid (HN1.out.step hdr);have f3:=(hdr.cell (p:=⟨g,i*4+3,none⟩) hgl).trans x3;have f3f:w2.frozen? ⟨g,i*4+3,none⟩=false:=(hdr.frozen (p:=⟨g,i*4+3,none⟩) hgl).trans x3f;have e4:=(hdr.cell (p:=⟨q,4,none⟩) hq1).trans d4;have e8:=(hdr.cell (p:=⟨q,8,none⟩) hq1).trans d8;have hq2:q<w2.heap.size:=HN2.out.doer.lt;have hg2:g<w2.heap.size:=Nat.lt_of_lt_of_le hgl hdr.size;clear hW hdr x0 x1 x2 x3 d1 d4 d8 x3f;go_wp2_with fail
 go_region_law (go_simp;go_at_call 146;(refine(HLAY.out w2.drew).mono ?_;rintro e5 w5 ⟨rfl,hb5⟩;have hb5':Below w2.heap.size w2 w5:=(Cv.drewN_below (Below.refl w2.heap.size w2) 1).trans hb5;have q4:=(hb5'.cell (p:=⟨q,4,none⟩) hq2).trans e4;have q8:=(hb5'.cell (p:=⟨q,8,none⟩) hq2).trans e8;have y3:=(hb5'.cell (p:=⟨g,i*4+3,none⟩) hg2).trans f3;have yf:w5.frozen? ⟨g,i*4+3,none⟩=false:=(hb5'.frozen (p:=⟨g,i*4+3,none⟩) hg2).trans f3f;have k4:(w5.setCell ⟨g,i*4+3,none⟩ (.string NT)).cell? ⟨q,4,none⟩=some (.int .i64 (oo:Int)):=(World.cell?_setCell_other w5 ⟨g,i*4+3,none⟩ ⟨q,4,none⟩ _ (by simp[hqg,hqg.symm])).trans q4;have k8:(w5.setCell ⟨g,i*4+3,none⟩ (.string NT)).cell? ⟨q,8,none⟩=some (.string DT):=(World.cell?_setCell_other w5 ⟨g,i*4+3,none⟩ ⟨q,8,none⟩ _ (by simp[hqg,hqg.symm])).trans q8))
 all_goals (
  have HN5:=hid (HN2.out.step hb5');have hfin:=HN5.out.own.setB HN5.out.hB' HZ.out (d:=NT) (by have h:=HS.out;exact h) HVI.out;obtain⟨W,hW⟩:∃W,w5.setCell ⟨g,i*4+3,none⟩ (.string NT)=W:=⟨_,rfl⟩;rw[hW] at hfin k8 ⊢;have hDW:=HN5.out.doer.turns HN5.out.ne hfin.2;have g11:=hDW.r11;have z11:=hDW.fz 11;have HFIN:=hid hfin;have HDW:=hid hDW;clear hb5 hb5' hfin hW hDW k4;go_wp2_with fail
  go_returns
  exact⟨(HN5.out.low.trans HFIN.out.2.below).trans (z4l HN5.out.hq),.inr ⟨by rw[←HNT.out],rfl,⟨_,_,_,_,by rw[←HNT.out];exact HDW.out.set_own HFIN.out.1⟩,.slice none 0 0,by rw[←HNT.out];exact HDW.out.setNum _,by rw[←HNT.out];exact⟨rfl,.inl ⟨none,rfl,rfl⟩⟩⟩⟩)
set_option maxRecDepth 100000 in
set_option maxHeartbeats 8000000 in
theorem zkt (B q p:Nat) (s:St) (c:Ca) (zs:List (Ino×Value)) (vI vO vM:Value) (w:World) (hN:Now B q p s c zs vI vO vM w w) (hg:Good s) (hp1:c.path.size≤140737488355328) (hp2:c.path2.size≤140737488355328):
  Calls Tryz.prog 117 #[.pointer (some ⟨q,0,.none⟩)] w (Ran B q p c (linkV s c) w):=by
 obtain⟨R,hR⟩:∃R,linkV s c=R:=⟨_,rfl⟩;have hsz:=zbl hg c;rw[hR] at hsz ⊢;unfold linkV at hR;have HR:=hid hR;have HSZ:=hid hsz;have HN0:=hid hN;have HG:=hid hg;have d6:=hN.doer.c6;clear hR hN hg hsz
 go_enter Tryz.func117,Tryz.ntmps117
 go_wp2_with fail;refine(zab B q p s c 0 0 false ⟨#[]⟩ (.slice none 0 0) zs vI vO vM c.path w HN0.out.doer HN0.out.own HG.out hp1).mono ?_;rintro e1 w1 ⟨hb1,⟨hc,rfl⟩|⟨hc,g,n,d,i,x,hvI,hx,hxn,rfl⟩⟩
 ·have hr:=HR.out;rw[if_pos hc] at hr
  go_simp
  exact z0b rfl ((HN0.out.step hb1).fail (by rw[←hr];exact hc) (by rw[←hr]))
 have hr:=HR.out;rw[if_neg (by rw[hc];simp)] at hr;have HN1:=hid (HN0.out.step hb1);have hat:=HG.out.at_ hx hxn;rw[z3s hat hx] at hr;have HR1:=hid hr;obtain⟨E,m,e,x0,x1,x2,x3,hE,hgl,hm⟩:=HN1.out.ino hvI hx;have HX:=hid hx;have HXN:=hid hxn;have HVI:=hid hvI;clear hr hb1 d6 hE hx hxn hvI hat HR hm;cases hd:x.dir;rotate_left
 ·have hr:=HR1.out;rw[if_pos hd] at hr;rw[hd] at x1;go_wp2_with fail;refine(z0f _ _).mono ?_;rintro e3 w3 ⟨rfl,rfl⟩;go_wp2_with fail;exact z0b rfl (HN1.out.fail (by rw[←hr];simp) (by rw[←hr]))
 have hr:=HR1.out;rw[if_neg (by rw[hd];simp)] at hr;have HR2:=hid hr;rw[hd] at x1;have d7:=HN1.out.doer.c7;clear hr HR1 hd;go_wp2_with fail;refine(z0h _ _).mono ?_;rintro e3 w3 ⟨rfl,rfl⟩;go_wp2_with fail;refine(z2o B q p s c 0 0 false ⟨#[]⟩ (.slice none 0 0) zs vI vO vM c.path2 w1 HN1.out.doer HN1.out.own HG.out hp2).mono ?_;rintro e4 w4 ⟨hb4,⟨hc4,rfl⟩|⟨hc4,g',n',d',j,y,hvI',hy,hyn,hyd,rfl⟩⟩
 ·have hr:=HR2.out;rw[if_pos hc4] at hr
  go_simp
  exact z0b rfl ((HN1.out.step hb4).fail (by rw[←hr];exact hc4) (by rw[←hr]))
 have hgg:g'=g:=by have h:=HVI.out;rw[hvI'] at h;injection h with e1 _ _;injection e1 with e1;injection e1 with e1
 subst hgg;obtain⟨NM,hNM⟩:∃NM,(parentV s.inos c.path2).2.1=NM:=⟨_,rfl⟩;have hnms:NM.size≤140737488355328:=by rw[←hNM];have:=z1h s.inos c.path2;omega
 have hr:=HR2.out;rw[if_neg (by rw[hc4];simp),hNM] at hr;rw[hNM];have hatj:=HG.out.at_ hy hyn;rw[z4g hatj hy,zd0 hatj hy,z0y hatj hy,←HXN.out] at hr;have HR3:=hid hr;have HN4:=hid (HN1.out.step hb4);have x04:=(hb4.cell (p:=⟨g',i*4,none⟩) hgl).trans x0;obtain⟨E4,m4,e4',y0,y1,y2,y3,hE4,hgl4,hm4⟩:=HN4.out.ino HVI.out hy;have HY:=hid hy;have hmem:=List.mem_of_getElem? hy;have hlen:x.ents.length≤32:=HG.out.ents_len (List.mem_of_getElem? HX.out);have hleny:y.ents.length≤32:=HG.out.ents_len hmem;have hm32:m4≤1000000:=by omega
 have HE4:=hid hE4;have HRE:=hid (HG.out.riseE hmem);have HTX:=hid (HG.out.text hmem);have HMEM:=hid hmem;clear hr HR2 hb4 hNM hE4 hy hyn hatj x0 x1 x2 x3 hmem d7 hm4 hc4 hvI';go_wp2_with fail;refine(z1w y.ents E4 m4 e4' NM _ HE4.out (by omega) HRE.out).mono ?_;rintro e5 w5 ⟨k,b,rfl,hb5,hpos⟩;have HN5:=hid (HN4.out.step hb5);have y25:=(hb5.cell (p:=⟨g',j*4+2,none⟩) hgl4).trans y2;have x05:=(hb5.cell (p:=⟨g',i*4,none⟩) hgl4).trans x04;have HE5:=hid (HE4.out.below hb5);have hgl5:g'<w5.heap.size:=Nat.lt_of_lt_of_le hgl4 hb5.size
 rcases HG.out.entIs HMEM.out hpos with⟨rfl,hz⟩|⟨rfl,hz,en,hen,henn,hennm⟩
 rotate_left
 ·have hr:=HR3.out;rw[if_pos hz] at hr;clear hb5 hpos x04 y0 y1 y2 y3 hz hen henn hennm;go_wp2_with fail;refine(z0f _ _).mono ?_;rintro e3 w3 ⟨rfl,rfl⟩;go_wp2_with fail;exact z0b rfl (HN5.out.fail (by rw[←hr];simp) (by rw[←hr]))
 have hr:=HR3.out;rw[if_neg (by rw[hz];simp)] at hr;have HR4:=hid hr
 have hno : ∀ e ∈ y.ents, e.name ≠ NM := fun e he hn => by
  obtain⟨j',hj'⟩:=List.getElem?_of_mem he
  have hh:∃e,y.ents[k]? =some e∧e.name=NM:=by
   have:k=j':=by
    rcases Nat.lt_trichotomy k j' with h|h|h
    ·cases hk:y.ents[k]? with
     | none=>
      have h2:=(List.getElem?_eq_some_iff.1 hj').1;rw[List.getElem?_eq_none_iff] at hk;omega
     | some z=>
      have h2:=HRE.out k j' z e h hk hj';rw[hn,hpos.hi k z (Nat.le_refl _) hk] at h2;cases h2
    ·exact h
    ·have h1:=hpos.lo j' e h hj';rw[hn,z0w] at h1;cases h1
   subst this;exact⟨e,hj',hn⟩
  have:=hpos.of_ hh;cases this
 have HNO:=hid hno;clear hr HR3 hb5 hpos x04 y0 y1 y2 y3 hz hno;go_wp2_with fail;refine(z0h _ _).mono ?_;rintro e3 w3 ⟨rfl,rfl⟩;go_wp2_with fail;refine(z7a g' (j*4) y.ents E4 m4 e4' NM ⟨#[]⟩ w5 y25 HE5.out (by omega) HTX.out hnms).mono ?_;rintro e6 w6 ⟨rfl,hb6⟩;have HN6:=hid (HN5.out.step hb6);have x06:=(hb6.cell (p:=⟨g',i*4,none⟩) hgl5).trans x05;obtain⟨FB,hFB⟩:∃FB,decide (4≤fullE y.ents NM ⟨#[]⟩)=FB:=⟨_,rfl⟩;have hr:=HR4.out;rw[show txt []=⟨#[]⟩ from rfl,hFB] at hr;rw[hFB];have HR5:=hid hr;clear hr HR4 hb6 hFB x05 y25;cases FB;rotate_left
 ·have hr:=HR5.out;rw[if_pos rfl] at hr;go_wp2_with fail;refine(z0f _ _).mono ?_;rintro e3 w3 ⟨rfl,rfl⟩;go_wp2_with fail;exact z0b rfl (HN6.out.fail (by rw[←hr];simp) (by rw[←hr]))
 have hr:=HR5.out;rw[if_neg (by simp)] at hr;have HR6:=hid hr;have hs:=HSZ.out;rw[←hr] at hs;have HS:=hid hs;clear hr HR5 hs;go_wp2_with fail;refine(z0h _ _).mono ?_;rintro e3 w3 ⟨rfl,rfl⟩;go_wp2_with fail;refine(z9h B p s zs vI vO vM j y NM x.num g' n d w6 HN6.out.own HN6.out.hB' HY.out HVI.out HRE.out HNO.out (by omega) HS.out).mono ?_;rintro e7 w7 ⟨rfl,ht,zs',ho⟩;go_wp2_with fail
 go_returns
 exact HN6.out.done (by rw[←HR6.out]) rfl ht ⟨zs',vI,vO,vM,by rw[←HR6.out];exact ho⟩
end Go.Proofs.YtkflaifopbodfaaGreatDoor
