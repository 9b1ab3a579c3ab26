/- Parts of the proof, side by side: FsEqual, SameRes, FsDoBad. -/
import Derived.Test.YtmmpkfcdfcldlaaGreatM01
import Derived.Test.YtmmpkfcdfcldlaaGreatM06
import Derived.Laws.StructEq
import Derived.Test.YtmmpkfcdfcldlaaGreatM41
import Derived.Test.YtmmpkfcdfcldlaaGreatM24
set_option linter.unusedVariables false
set_option linter.unusedSimpArgs false
namespace Go.Proofs.YtmmpkfcdfcldlaaGreat
open Lib (hid)
open Go.RowKit
deriving instance DecidableEq for En
deriving instance DecidableEq for Ino
deriving instance DecidableEq for Ds
deriving instance DecidableEq for St
def plainV (s t:St):Bool:=decide (s=t)
theorem z3k {s t:St} (h:s≠t):plainV s t=false:=decide_eq_false_iff_not.2 h
theorem zbc {s t:St} (h:s=t):plainV s t=true:=decide_eq_true h
theorem zm9 (w:World) (A:Option Addr) (n c:Nat) (B:Option Addr) (m d:Nat) (D:Option Addr) (k e:Nat) (A':Option Addr) (n' c':Nat) (B':Option Addr) (m' d':Nat) (D':Option Addr) (k' e':Nat):
  ∃W,(w.alloc (.cells #[.slice A n c,.slice B m d,.slice D k e] 26)).alloc (.cells #[.slice A' n' c',.slice B' m' d',.slice D' k' e'] 26)=W∧
   W.cell? ⟨w.heap.size,0,.none⟩=some (.slice A n c)∧W.cell? ⟨w.heap.size,1,.none⟩=some (.slice B m d)∧W.cell? ⟨w.heap.size,2,.none⟩=some (.slice D k e)∧
   W.cell? ⟨w.heap.size+1,0,.none⟩=some (.slice A' n' c')∧W.cell? ⟨w.heap.size+1,1,.none⟩=some (.slice B' m' d')∧W.cell? ⟨w.heap.size+1,2,.none⟩=some (.slice D' k' e')∧Below w.heap.size w W∧W.heap.size=w.heap.size+2:=by
 obtain⟨W1,hW1,a0,a1,a2,hb1,hs1⟩:=z1l w A n c B m d D k e;have hz1:W1.heap.size=w.heap.size+1:=by rw[←hW1];simp
 obtain⟨W2,hW2,b0,b1,b2,hb2,hs2⟩:=z1l W1 A' n' c' B' m' d' D' k' e';rw[hz1] at b0 b1 b2;have hc:∀j,W2.cell? ⟨w.heap.size,j,.none⟩=W1.cell? ⟨w.heap.size,j,.none⟩:=fun j=>hb2.cell (p:=⟨w.heap.size,j,none⟩) (by show w.heap.size<W1.heap.size;omega)
 refine⟨W2,by rw[hW1,hW2],(hc _).trans a0,(hc _).trans a1,(hc _).trans a2,b0,b1,b2,Cv.next hb1 hb2,by rw[←hW2];simp[hz1]⟩
theorem zju (w:World) (a b c d a' b' c' d':Value):
  ∃U,(w.alloc (.cells #[a,b,c,d] 59)).alloc (.cells #[a',b',c',d'] 59)=U∧Below w.heap.size w U∧Below w.heap.size w U.drew∧
   (∀j:Nat,U.cell? ⟨w.heap.size,j,none⟩=#[a,b,c,d][j]?)∧(∀j:Nat,U.cell? ⟨w.heap.size+1,j,none⟩=#[a',b',c',d'][j]?)∧U.heap.size=w.heap.size+2:=by
 obtain⟨V,hV⟩:∃V,w.alloc (.cells #[a,b,c,d] 59)=V:=⟨_,rfl⟩;have h1:V.heap[w.heap.size]? =some (.cells #[a,b,c,d] 59 (0,0)):=by rw[←hV];exact heap_alloc_new w _
 have hs:V.heap.size=w.heap.size+1:=by rw[←hV];simp
 have hb:Below w.heap.size w V:=by rw[←hV];exact(Below.refl _ _).alloc (Nat.le_refl _) _
 have h2:=heap_alloc_new V (.cells #[a',b',c',d'] 59);have hb2:Below w.heap.size w (V.alloc (.cells #[a',b',c',d'] 59)):=hb.alloc (by omega) _;refine⟨_,by rw[hV],hb2,hb2.drew,fun j=>?_,fun j=>?_,by simp[hs]⟩
 ·rw[cell_of_row _ w.heap.size j _ _ (0,0) ((Below.heap_alloc V _ _ (by omega)).trans h1)]
 ·rw[hs] at h2;rw[cell_of_row _ (w.heap.size+1) j _ _ (0,0) h2]
theorem zli (a b:ByteArray) (p q:Int) (w:World):(binOp .neq 73 (.agg #[.string a,.int .i64 p]) (.agg #[.string b,.int .i64 q])).run Tryz.prog w=.ok (.bool (!((a.toList==b.toList)&&(p==q)))) w:=by
 have u3:=Tryz.underlying3;have u4:=Tryz.underlying9;have hS:Tryz.prog.underlying 73=some (.struct (Tryz.prog.fieldsOf 73)):=by kernel_rfl
 have hp:Tryz.prog.stoodInHeld 73=false:=by kernel_rfl
 rw[run_neq_struct,show(10000:Nat)=9999+1 from rfl,run_equalIn_agg w 9999 73 _ _ hS hp];simp only[Program.fieldsOf,Tryz.underlying73]
 go_simp
 by_cases h1:a.toList=b.toList<;>by_cases h2:p=q<;>simp[h1,h2]
theorem zlj (a b c a' b' c':Int) (w:World):(binOp .neq 75 (.agg #[.int .i64 a,.int .i64 b,.int .i64 c]) (.agg #[.int .i64 a',.int .i64 b',.int .i64 c'])).run Tryz.prog w=.ok (.bool (!((a==a')&&(b==b')&&(c==c')))) w:=by
 have u3:=Tryz.underlying3;have hS:Tryz.prog.underlying 75=some (.struct (Tryz.prog.fieldsOf 75)):=by kernel_rfl
 have hp:Tryz.prog.stoodInHeld 75=false:=by kernel_rfl
 rw[run_neq_struct,show(10000:Nat)=9999+1 from rfl,run_equalIn_agg w 9999 75 _ _ hS hp];simp only[Program.fieldsOf,Tryz.underlying75]
 go_simp
 by_cases h1:a=a'<;>by_cases h2:b=b'<;>by_cases h3:c=c'<;>simp[h1,h2,h3]
theorem zg1 (x y:Operand) (a b:Array Value) (w:World):(eqGuard .neq 73 x y (.agg a) (.agg b)).run Tryz.prog w=.ok () w:=run_eqGuard_agg w _ _ _ _ _ _ (by kernel_rfl)
theorem zg2 (x y:Operand) (a b:Array Value) (w:World):(eqGuard .neq 75 x y (.agg a) (.agg b)).run Tryz.prog w=.ok () w:=run_eqGuard_agg w _ _ _ _ _ _ (by kernel_rfl)
theorem zev (a:ByteArray) (p:Int) (w:World):(binOp .neq 73 (.agg #[.string a,.int .i64 p]) (.agg #[.string a,.int .i64 p])).run Tryz.prog w=.ok (.bool false) w:=by
 rw[zli];simp
theorem zew {y y':En} (h:y≠y') (w:World):(binOp .neq 73 (.agg #[.string y.name,.int .i64 y.num]) (.agg #[.string y'.name,.int .i64 y'.num])).run Tryz.prog w=.ok (.bool true) w:=by
 rw[zli]
 by_cases h1:y.name=y'.name
 ·have h2:(y.num==y'.num)=false:=by
   rw[beq_eq_false_iff_ne];intro h2;exact h (by cases y;cases y';simp_all)
  rw[h2];simp
 ·rw[z1q h1];simp
theorem zex (a b c:Int) (w:World):(binOp .neq 75 (.agg #[.int .i64 a,.int .i64 b,.int .i64 c]) (.agg #[.int .i64 a,.int .i64 b,.int .i64 c])).run Tryz.prog w=.ok (.bool false) w:=by
 rw[zlj];simp
theorem zey {y y':Ds} (h:y≠y') (w:World):(binOp .neq 75 (.agg #[.int .i64 y.core,.int .i64 y.fd,.int .i64 y.num]) (.agg #[.int .i64 y'.core,.int .i64 y'.fd,.int .i64 y'.num])).run Tryz.prog w=.ok (.bool true) w:=by
 rw[zlj]
 have h1:((y.core==y'.core)&&(y.fd==y'.fd)&&(y.num==y'.num))=false:=by
  cases y;cases y'
  simp_all
 rw[h1]
 rfl
set_option maxRecDepth 100000 in
set_option maxHeartbeats 4000000 in
theorem zjv (v u : Value) (s t : St) (w : World) (h : StAt none w v s) (h' : StAt none w u t) :
  Calls Tryz.prog 9 #[v,u] w fun e w'=>e=.returned (.bool (plainV s t))∧Below w.heap.size w w':=by
 obtain⟨⟨A,n,c,B,m,d,D,k,e,rfl,hI,hD,hM,h5,h6,h7⟩,hz⟩:=h;obtain⟨⟨A',n',c',B',m',d',D',k',e',rfl,hI',hD',hM',h5',h6',h7'⟩,hz'⟩:=h';obtain⟨R,hR⟩:∃R,plainV s t=R:=⟨_,rfl⟩;rw[hR];have HR:=hid hR;have hbig:=hz.big;have hbig':=hz'.big;have l1:=hI.1;have l2:=hD.1;have l3:=hM.1;have l1':=hI'.1;have l2':=hD'.1;have l3':=hM'.1;have hn2:n≤1099511627776:=by omega
 have hm2:m≤1099511627776:=by omega
 have hk2:k≤1099511627776:=by omega
 obtain⟨W,hW,a0,a1,a2,b0,b1,b2,hal,hsW⟩:=zm9 w A n c B m d D k e A' n' c' B' m' d' D' k' e';have HI:=hid (hI.below hal);have HD:=hid (hD.below hal);have HM:=hid (hM.below hal);have HI':=hid (hI'.below hal);have HD':=hid (hD'.below hal);have HM':=hid (hM'.below hal);have HAL:=hid hal;have HZ:=hid hz
 by_cases e1:n=n'
 ·by_cases e2 : m = m'
  ·by_cases e3 : k = k'
   ·subst e1 e2 e3;clear hI hD hM hI' hD' hM' hz hz' hR hbig hbig' l1 l2 l3 l1' l2' l3' hal
    go_enter Tryz.func9,Tryz.ntmps9
    go_wp2_with fail;clear hW
    go_loopw [5] (fun i wr=>∃q:Nat,i=.int .i64 q∧q≤n∧Below w.heap.size w wr∧Below W.heap.size W wr∧s.inos.take q=t.inos.take q) (fun i _=>n-(intOf i).toNat)
    case atStart=>exact⟨0,rfl,by omega,HAL.out,Below.refl _ _,rfl⟩
    case round =>
     obtain⟨q,rfl,hq,hbr,hbW,htk⟩:=hrel;have HBR:=hid hbr;have HBW:=hid hbW;have HTK:=hid htk;have a0':=(hbW.cell (p:=⟨w.heap.size,0,none⟩) (by show w.heap.size<W.heap.size;omega)).trans a0;have b0':=(hbW.cell (p:=⟨w.heap.size+1,0,none⟩) (by show w.heap.size+1<W.heap.size;omega)).trans b0;clear hbr hbW htk
     by_cases hlt:q<n
     ·obtain ⟨g, off, x, E, m2, d2, hA, hg, hx, hd, hmem, c0, c1, c2, hok, hE, c3⟩ := (HI.out.below HBW.out).get q hlt;obtain ⟨g', off', x', E', m2', d2', hA', hg', hx', hd', hmem', c0', c1', c2', hok', hE', c3'⟩ := (HI'.out.below HBW.out).get q hlt;subst hA hA';have q1 : decide ((q : Int) < (n : Int)) = true := by rw [decide_eq_true_eq]; omega
      have q2:(0:Int)≤(q:Int):=by omega
      have q3:(q:Int)<(n:Int):=by omega
      have hle:=z0y hx;have hbig:=HZ.out.big;have hel:=hE.1;have hm22:m2≤1099511627776:=by omega
      clear hle hbig hel;have HX:=hid hx;have HX':=hid hx';have HE:=hid hE;have HE':=hid hE';clear hx hx' hd hd' hmem hmem' hE hE';go_upto_region 6 with fail
      have hwr:W.heap.size≤wr.heap.size:=HBW.out.size
      go_cut [6,7] (fun p1 p2 wx=>∃b1 b2,p1=.pointer (some ⟨b1,0,.none⟩)∧p2=.pointer (some ⟨b2,0,.none⟩)∧Below wr.heap.size wr wx∧
       wx.cell? ⟨b1,0,none⟩=some (.int .i64 x.num)∧wx.cell? ⟨b1,1,none⟩=some (.bool x.dir)∧wx.cell? ⟨b1,2,none⟩=some (.slice E m2 d2)∧wx.cell? ⟨b1,3,none⟩=some (.string x.data)∧
       wx.cell? ⟨b2,0,none⟩=some (.int .i64 x'.num)∧wx.cell? ⟨b2,1,none⟩=some (.bool x'.dir)∧wx.cell? ⟨b2,2,none⟩=some (.slice E' m2' d2')∧wx.cell? ⟨b2,3,none⟩=some (.string x'.data)∧b1<wx.heap.size∧b2<wx.heap.size)
      case first=>
       have nA:wr.heap.size≠w.heap.size:=by omega
       have nB:wr.heap.size≠w.heap.size+1:=by omega
       have nC:wr.heap.size≠g:=by omega
       have nD:wr.heap.size≠g':=by omega
       have mA:wr.heap.size+1≠w.heap.size:=by omega
       have mB:wr.heap.size+1≠w.heap.size+1:=by omega
       have mC:wr.heap.size+1≠g:=by omega
       have mD:wr.heap.size+1≠g':=by omega
       go_region_held3 (fun w'=>w'.cell? ⟨w.heap.size,0,none⟩=some (.slice (some ⟨g,off,none⟩) n c)∧w'.cell? ⟨w.heap.size+1,0,none⟩=some (.slice (some ⟨g',off',none⟩) n c')∧
        w'.cell? ⟨g,off+q*4,none⟩=some (.int .i64 x.num)∧w'.cell? ⟨g,off+q*4+1,none⟩=some (.bool x.dir)∧w'.cell? ⟨g,off+q*4+2,none⟩=some (.slice E m2 d2)∧w'.cell? ⟨g,off+q*4+3,none⟩=some (.string x.data)∧
        w'.cell? ⟨g',off'+q*4,none⟩=some (.int .i64 x'.num)∧w'.cell? ⟨g',off'+q*4+1,none⟩=some (.bool x'.dir)∧w'.cell? ⟨g',off'+q*4+2,none⟩=some (.slice E' m2' d2')∧w'.cell? ⟨g',off'+q*4+3,none⟩=some (.string x'.data))
        (first|go_keep|trace_state)
        (fail)
       all_goals (
        go_wp2_with fail;go_meet)
       ·obtain⟨U,hU,hbU,hbD,f1,f2,hsU⟩:=zju wr (.int .i64 x.num) (.bool x.dir) (.slice E m2 d2) (.string x.data) (.int .i64 x'.num) (.bool x'.dir) (.slice E' m2' d2') (.string x'.data);rw[hU];exact⟨_,_,rfl,rfl,hbD,f1 0,f1 1,f1 2,f1 3,f2 0,f2 1,f2 2,f2 3,by simp[hsU],by simp[hsU]⟩
       ·obtain⟨U,hU,hbU,hbD,f1,f2,hsU⟩:=zju wr (.int .i64 x'.num) (.bool x'.dir) (.slice E' m2' d2') (.string x'.data) (.int .i64 x.num) (.bool x.dir) (.slice E m2 d2) (.string x.data);rw[hU];exact⟨_,_,rfl,rfl,hbD,f2 0,f2 1,f2 2,f2 3,f1 0,f1 1,f1 2,f1 3,by simp[hsU],by simp[hsU]⟩
      case rest =>
       obtain⟨b1,b2,rfl,rfl,hbx,z0,z1,z2,z3,y0,y1,y2,y3,hl1,hl2⟩:=hcut;have HBX:=hid hbx;have HEw:=hid (HE.out.below hbx);have HEw':=hid (HE'.out.below hbx);have hfin:Below w.heap.size w wc:=HBR.out.trans (hbx.mono HBR.out.size);have HFIN:=hid hfin
       have hno:x≠x'→R=false:=fun hne=>by
        rw[←HR.out];refine z3k (fun h9=>hne ?_);have e8:=HX.out;rw[h9,HX'.out] at e8;exact(Option.some.inj e8).symm
       have HNO:=hid hno;clear hbx hfin hno c0 c1 c2 c3 c0' c1' c2' c3'
       by_cases u1:x.num=x'.num
       ·by_cases u2:x.dir=x'.dir
        ·by_cases u3:x.data=x'.data
         ·have k1 : (x.data.toList == x'.data.toList) = true := z3b u3;rw [← u1] at y0;rw [← u2] at y1
          by_cases u4:m2=m2'
          ·subst u4;have HU:Hid (x.num=x'.num∧x.dir=x'.dir∧x.data=x'.data):=hid ⟨u1,u2,u3⟩;clear u1 u2 u3;go_wp2_with fail
           go_loopw [8] (fun k wr=>∃p:Nat,k=.int .i64 p∧p≤m2∧Below wc.heap.size wc wr∧x.ents.take p=x'.ents.take p) (fun k _=>m2-(intOf k).toNat)
           case atStart=>exact⟨0,rfl,by omega,Below.refl _ _,rfl⟩
           case round =>
            obtain⟨p,rfl,hp,hb2,htp⟩:=hrel;have HB2:=hid hb2;have HTP:=hid htp;have z2':=(hb2.cell (p:=⟨b1,2,none⟩) hl1).trans z2;have y2':=(hb2.cell (p:=⟨b2,2,none⟩) hl2).trans y2;clear hb2 htp
            by_cases hlp:p<m2
            ·obtain⟨g2,o2,y,hA2,hg2,hy,hdy,hmy,f0,f1⟩:=(HEw.out.below HB2.out).get p hlp;obtain⟨g3,o3,y',hA3,hg3,hy',hdy',hmy',f0',f1'⟩:=(HEw'.out.below HB2.out).get p hlp;subst hA2 hA3;have r1:decide ((p:Int)<(m2:Int))=true:=by rw[decide_eq_true_eq];omega
             have r2:(0:Int)≤(p:Int):=by omega
             have r3:(p:Int)<(m2:Int):=by omega
             have HY:=hid hy;have HY':=hid hy';clear hy hy' hdy hdy' hmy hmy'
             by_cases v1:y=y'
             ·have hne:=zev y.name y.num;have hgu:=zg1;subst v1;go_wp2_with fail;go_region;go_wp2_with fail;go_roundw
              case rel=>
               refine⟨p+1,by go_num,by omega,HB2.out.drew,?_⟩;rw[List.take_add_one,List.take_add_one,HTP.out,HY.out,HY'.out]
              case measure=>simp[intOf];omega
             ·have hne:=zew v1;have hgu:=zg1;have:=HNO.out (fun h9=>v1 (by have e8:=HY.out;rw[h9,HY'.out] at e8;exact(Option.some.inj e8).symm));subst this;clear v1;go_wp2_with fail;go_region;go_wp2_with fail;go_ret;exact⟨rfl,(HFIN.out.trans (HB2.out.mono HFIN.out.size)).drew⟩
            ·have r1:decide ((p:Int)<(m2:Int))=false:=by rw[decide_eq_false_iff_not];omega
             have hpm:p=m2:=by omega
             subst hpm;go_wp2_with fail;go_roundw
             case rel=>
              refine⟨q+1,by go_num,by omega,HBR.out.trans (HBX.out.trans (HB2.out.mono HBX.out.size)|>.mono HBR.out.size),?_,?_⟩
              ·exact HBW.out.trans ((HBX.out.trans (HB2.out.mono HBX.out.size)).mono HBW.out.size)
              ·have e5:=HTP.out;have e6:=HEw.out.1;have e7:=HEw'.out.1;rw[List.take_of_length_le (by omega),List.take_of_length_le (by omega)] at e5
               have e8:x=x':=by
                cases x;cases x';obtain⟨i1,i2,i3⟩:=HU.out
                simp_all
               rw[List.take_add_one,List.take_add_one,HTK.out,HX.out,HX'.out,e8]
             case measure=>simp[intOf];omega
          ·have:=HNO.out (fun h9=>u4 (by have e5:=HEw.out.1;have e6:=HEw'.out.1;rw[h9] at e5;omega));subst this;have k4:((m2:Int) != (m2':Int))=true:=by rw[bne_iff_ne];omega
           clear u1 u2 u3;go_wp2_with fail;go_ret;exact⟨rfl,HFIN.out⟩
         ·have:=HNO.out (fun h9=>u3 (by rw[h9]));subst this;rw[←u1] at y0;rw[←u2] at y1;have k1:(x.data.toList==x'.data.toList)=false:=z1q u3;have k2:(x.data.toList != x'.data.toList)=true:=by unfold bne;rw[k1];rfl
          clear u1 u2 u3;go_wp2_with fail;go_ret;exact⟨rfl,HFIN.out⟩
        ·have:=HNO.out (fun h9=>u2 (by rw[h9]));subst this;rw[←u1] at y0;have k1:(x.dir==x'.dir)=false:=by rw[beq_eq_false_iff_ne];exact u2
         have k2:(x.dir != x'.dir)=true:=by unfold bne;rw[k1];rfl
         clear u1 u2;go_wp2_with fail;go_ret;exact⟨rfl,HFIN.out⟩
       ·have:=HNO.out (fun h9=>u1 (by rw[h9]));subst this;have k1:(x.num==x'.num)=false:=by rw[beq_eq_false_iff_ne];exact u1
        have k2:(x.num != x'.num)=true:=by unfold bne;rw[k1];rfl
        clear u1;go_wp2_with fail;go_ret;exact⟨rfl,HFIN.out⟩
     ·have q1 : decide ((q : Int) < (n : Int)) = false := by rw [decide_eq_false_iff_not]; omega
      have hqn:q=n:=by omega
      subst hqn;have hle:R=true∨R=false:=by cases R<;>simp
      have hin:s.inos=t.inos:=by
       have e5:=HTK.out;have e6:=HI.out.1;have e7:=HI'.out.1
       rwa [List.take_of_length_le (by omega),List.take_of_length_le (by omega)] at e5
      have HIN:=hid hin;have a1':=(HBW.out.cell (p:=⟨w.heap.size,1,none⟩) (by show w.heap.size<W.heap.size;omega)).trans a1;have a2':=(HBW.out.cell (p:=⟨w.heap.size,2,none⟩) (by show w.heap.size<W.heap.size;omega)).trans a2;have b1':=(HBW.out.cell (p:=⟨w.heap.size+1,1,none⟩) (by show w.heap.size+1<W.heap.size;omega)).trans b1;have b2':=(HBW.out.cell (p:=⟨w.heap.size+1,2,none⟩) (by show w.heap.size+1<W.heap.size;omega)).trans b2;have ge1:w.heap.size<wr.heap.size:=by have:=HBW.out.size;omega
      have ge2:w.heap.size+1<wr.heap.size:=by have:=HBW.out.size;omega
      have HDw:=hid (HD.out.below HBW.out);have HDw':=hid (HD'.out.below HBW.out);have HMw:=hid (HM.out.below HBW.out);have HMw':=hid (HM'.out.below HBW.out);clear hin a1 a2 b1 b2 a0 b0 hle;go_wp2_with fail;clear a0' b0'
      go_loopw [9] (fun i wz=>∃p:Nat,i=.int .i64 p∧p≤m∧Below wr.heap.size wr wz∧s.opn.take p=t.opn.take p) (fun i _=>m-(intOf i).toNat)
      case atStart=>exact⟨0,rfl,by omega,Below.refl _ _,rfl⟩
      case round =>
       obtain⟨p,rfl,hp,hb2,htp⟩:=hrel;have HB2:=hid hb2;have HTP:=hid htp;have a1:=(hb2.cell (p:=⟨w.heap.size,1,none⟩) ge1).trans a1';have b1:=(hb2.cell (p:=⟨w.heap.size+1,1,none⟩) ge2).trans b1';have a2:=(hb2.cell (p:=⟨w.heap.size,2,none⟩) ge1).trans a2';have b2:=(hb2.cell (p:=⟨w.heap.size+1,2,none⟩) ge2).trans b2';have HFIN:=hid (HBR.out.trans (hb2.mono HBR.out.size));clear hb2 htp
       by_cases hlp:p<m
       ·obtain⟨g2,o2,y,hA2,hg2,hy,hdy,hmy,f0,f1,f2⟩:=(HDw.out.below HB2.out).get p hlp;obtain⟨g3,o3,y',hA3,hg3,hy',hdy',hmy',f0',f1',f2'⟩:=(HDw'.out.below HB2.out).get p hlp;subst hA2 hA3;have r1:decide ((p:Int)<(m:Int))=true:=by rw[decide_eq_true_eq];omega
        have r2:(0:Int)≤(p:Int):=by omega
        have r3:(p:Int)<(m:Int):=by omega
        have HY:=hid hy;have HY':=hid hy';clear hy hy' hdy hdy' hmy hmy'
        by_cases v1:y=y'
        ·have hne:=zex y.core y.fd y.num;have hgu:=zg2;subst v1;go_wp2_with fail;go_region;go_wp2_with fail;go_roundw
         case rel=>
          refine⟨p+1,by go_num,by omega,HB2.out.drew,?_⟩;rw[List.take_add_one,List.take_add_one,HTP.out,HY.out,HY'.out]
         case measure=>simp[intOf];omega
        ·have hne:=zey v1;have hgu:=zg2
         have hst:R=false:=by
          rw[←HR.out];refine z3k (fun h9=>v1 ?_);have e8:=HY.out;rw[h9,HY'.out] at e8;exact(Option.some.inj e8).symm
         subst hst;clear v1;go_wp2_with fail;go_region;go_wp2_with fail;go_ret;exact⟨rfl,HFIN.out.drew⟩
       ·have r1:decide ((p:Int)<(m:Int))=false:=by rw[decide_eq_false_iff_not];omega
        have hpm:p=m:=by omega
        subst hpm
        have hop:s.opn=t.opn:=by
         have e5:=HTP.out;have e6:=HD.out.1;have e7:=HD'.out.1
         rwa [List.take_of_length_le (by omega),List.take_of_length_le (by omega)] at e5
        have HOP:=hid hop;have gf1:w.heap.size<wr.heap.size:=Nat.lt_of_lt_of_le ge1 HB2.out.size;have gf2:w.heap.size+1<wr.heap.size:=Nat.lt_of_lt_of_le ge2 HB2.out.size;have HMz:=hid (HMw.out.below HB2.out);have HMz':=hid (HMw'.out.below HB2.out);clear hop a1' b1' a2' b2';go_wp2_with fail;clear a1 b1
        go_loopw [10] (fun i wy=>∃o:Nat,i=.int .i64 o∧o≤k∧Below wr.heap.size wr wy∧s.made.take o=t.made.take o) (fun i _=>k-(intOf i).toNat)
        case atStart=>exact⟨0,rfl,by omega,Below.refl _ _,rfl⟩
        case round=>
         obtain⟨o,rfl,ho,hb3,hto⟩:=hrel;have HB3:=hid hb3;have HTO:=hid hto;have a2z:=(hb3.cell (p:=⟨w.heap.size,2,none⟩) gf1).trans a2;have b2z:=(hb3.cell (p:=⟨w.heap.size+1,2,none⟩) gf2).trans b2;have HFIN3:=hid (HFIN.out.trans (hb3.mono HFIN.out.size));clear hb3 hto
         by_cases hlo:o<k
         ·obtain⟨g2,o2,y,hA2,hg2,hy,hdy,hmy,f0⟩:=(HMz.out.below HB3.out).get o hlo;obtain⟨g3,o3,y',hA3,hg3,hy',hdy',hmy',f0'⟩:=(HMz'.out.below HB3.out).get o hlo;subst hA2 hA3;have r1:decide ((o:Int)<(k:Int))=true:=by rw[decide_eq_true_eq];omega
          have r2:(0:Int)≤(o:Int):=by omega
          have r3:(o:Int)<(k:Int):=by omega
          have HY:=hid hy;have HY':=hid hy';clear hy hy' hdy hdy' hmy hmy'
          by_cases v1:y=y'
          ·subst v1;go_wp2_with fail
           try go_region
           try go_wp2_with fail
           go_roundw
           case rel=>
            refine⟨o+1,by go_num,by omega,by first|exact HB3.out.drew|exact HB3.out,?_⟩;rw[List.take_add_one,List.take_add_one,HTO.out,HY.out,HY'.out]
           case measure=>simp[intOf];omega
          ·have k1:(y==y')=false:=by rw[beq_eq_false_iff_ne];exact v1
           have k2:(y != y')=true:=by unfold bne;rw[k1];rfl
           have hst:R=false:=by
            rw[←HR.out];refine z3k (fun h9=>v1 ?_);have e8:=HY.out;rw[h9,HY'.out] at e8;exact(Option.some.inj e8).symm
           subst hst;clear v1;go_wp2_with fail
           try go_region
           try go_wp2_with fail
           go_ret;exact⟨rfl,by first|exact HFIN3.out.drew|exact HFIN3.out⟩
         ·have r1:decide ((o:Int)<(k:Int))=false:=by rw[decide_eq_false_iff_not];omega
          have hok:o=k:=by omega
          subst hok
          have hst:R=true:=by
           rw[←HR.out];refine zbc ?_;have e5:=HTO.out;have e6:=HM.out.1;have e7:=HM'.out.1;rw[List.take_of_length_le (by omega),List.take_of_length_le (by omega)] at e5;have e8:=HIN.out;have e9:=HOP.out;cases s;cases t
           simp_all
          subst hst;go_wp2_with fail;go_ret;exact⟨rfl,HFIN3.out⟩
   ·have q0:((k:Int) != (k':Int))=true:=by rw[bne_iff_ne];omega
    obtain rfl:R=false:=by
     rw[←hR];exact z3k (fun h9=>by rw[h9] at l3;omega)
    subst e1 e2;clear hI hD hM hI' hD' hM' hz hz' hR hbig hbig' l1 l2 l3 l1' l2' l3' hal e3
    go_enter Tryz.func9,Tryz.ntmps9
    go_wp2_with fail;go_ret;exact⟨rfl,HAL.out⟩
  ·have q0:((m:Int) != (m':Int))=true:=by rw[bne_iff_ne];omega
   obtain rfl:R=false:=by
    rw[←hR];exact z3k (fun h9=>by rw[h9] at l2;omega)
   subst e1;clear hI hD hM hI' hD' hM' hz hz' hR hbig hbig' l1 l2 l3 l1' l2' l3' hal e2
   go_enter Tryz.func9,Tryz.ntmps9
   go_wp2_with fail;go_ret;exact⟨rfl,HAL.out⟩
 ·have q0:((n:Int) != (n':Int))=true:=by rw[bne_iff_ne];omega
  obtain rfl:R=false:=by
   rw[←hR];exact z3k (fun h9=>by rw[h9] at l1;omega)
  clear hI hD hM hI' hD' hM' hz hz' hR hbig hbig' l1 l2 l3 l1' l2' l3' hal e1
  go_enter Tryz.func9,Tryz.ntmps9
  go_wp2_with fail;go_ret;exact⟨rfl,HAL.out⟩
def sameF (a b:Re):Bool:=decide (a.code=b.code)&&decide (a.fd=b.fd)&&decide (a.num=b.num)&&decide (a.dir=b.dir)&&decide (a.data=b.data)
def sameR (a b:Re):Bool:=decide (a.names=b.names)&&sameF a b
theorem zhk (a:Re):sameR a a=true:=by simp[sameR,sameF]
theorem zlc {a b:Re} (h:sameR a b=true):a=b:=by
 unfold sameR sameF at h;simp only[Bool.and_eq_true,decide_eq_true_eq] at h;obtain⟨h1,⟨⟨⟨h2,h3⟩,h4⟩,h5⟩,h6⟩:=h;cases a;cases b;simp only at h1 h2 h3 h4 h5 h6;subst h1 h2 h3 h4 h5 h6
 rfl
theorem zez {a b:ByteArray} (h:a≠b):(a.toList != b.toList)=true:=by unfold bne;rw[z1q h];rfl
theorem zlk {w:World} {A:Option Addr} {n:Nat} {ts:List ByteArray} (h:NmsAt none w A n ts) (k:Nat) (hk:k<n):∃(g off:Nat) (hl:k<ts.length),A=some ⟨g,off,.none⟩∧g<w.heap.size∧w.cell? ⟨g,off+k,.none⟩=some (Value.string ts[k]):=by
 obtain⟨g,off,h1,h2,_,h3⟩:=h.2 (by omega);have hl:k<ts.length:=by have:=h.1;omega
 exact⟨g,off,hl,h1,h2,h3 k _ (List.getElem?_eq_getElem hl)⟩
theorem zhl {ts us:List ByteArray} {k:Nat} (h1:k<ts.length) (h2:k<us.length) (h:ts.take k=us.take k) (e:ts[k]=us[k]):ts.take (k+1)=us.take (k+1):=by
 rw[List.take_succ_eq_append_getElem h1,List.take_succ_eq_append_getElem h2,h,e]
theorem zjw {ts us:List ByteArray} {n:Nat} (h1:ts.length=n) (h2:us.length=n) (h:ts.take n=us.take n):ts=us:=by
 rw[List.take_of_length_le (by omega),List.take_of_length_le (by omega)] at h;exact h
theorem zhm {ts us:List ByteArray} {k:Nat} (h1:k<ts.length) (h2:k<us.length) (e:ts[k]≠us[k]):ts≠us:=fun h=>by subst h;exact e rfl
theorem zma (w:World) (a b:Re) (A:Option Addr) (n c:Nat) (B:Option Addr) (m d:Nat):∃W,(w.alloc (.cells #[.int .i64 a.code,.int .i64 a.fd,.int .i64 a.num,.bool a.dir,.string a.data,.slice A n c] 32)).alloc (.cells #[.int .i64 b.code,.int .i64 b.fd,.int .i64 b.num,.bool b.dir,.string b.data,.slice B m d] 32)=W∧
  ResAt W w.heap.size (.int .i64 a.code) (.int .i64 a.fd) (.int .i64 a.num) (.bool a.dir) (.string a.data) (.slice A n c)∧ResAt W (w.heap.size+1) (.int .i64 b.code) (.int .i64 b.fd) (.int .i64 b.num) (.bool b.dir) (.string b.data) (.slice B m d)∧Below w.heap.size w W∧W.heap.size=w.heap.size+2:=by
 obtain⟨W1,hW1⟩:∃W1,w.alloc (.cells #[.int .i64 a.code,.int .i64 a.fd,.int .i64 a.num,.bool a.dir,.string a.data,.slice A n c] 32)=W1:=⟨_,rfl⟩;have h1:ResAt W1 w.heap.size (.int .i64 a.code) (.int .i64 a.fd) (.int .i64 a.num) (.bool a.dir) (.string a.data) (.slice A n c):=by rw[←hW1];exact heap_alloc_new w _
 have l1:Below w.heap.size w W1:=by rw[←hW1];exact(Below.refl _ _).alloc (Nat.le_refl _) _
 have z1:W1.heap.size=w.heap.size+1:=by rw[←hW1];simp
 obtain⟨W2,hW2⟩:∃W2,W1.alloc (.cells #[.int .i64 b.code,.int .i64 b.fd,.int .i64 b.num,.bool b.dir,.string b.data,.slice B m d] 32)=W2:=⟨_,rfl⟩;have h2:ResAt W2 W1.heap.size (.int .i64 b.code) (.int .i64 b.fd) (.int .i64 b.num) (.bool b.dir) (.string b.data) (.slice B m d):=by rw[←hW2];exact heap_alloc_new W1 _
 have l2:Below W1.heap.size W1 W2:=by rw[←hW2];exact(Below.refl _ _).alloc (Nat.le_refl _) _
 have z2:W2.heap.size=W1.heap.size+1:=by rw[←hW2];simp
 refine⟨W2,by rw[hW1,hW2],(l2.block w.heap.size (by omega)).trans h1,by rw[←z1];exact h2,Cv.next l1 l2,by omega⟩
set_option maxRecDepth 100000 in
set_option maxHeartbeats 8000000 in
theorem zak (v u:Value) (a b:Re) (w:World) (h1:ResIs none w v a) (h2:ResIs none w u b) (hn1:a.names.length≤1099511627776) (hn2:b.names.length≤1099511627776):
  Calls Tryz.prog 10 #[v,u] w fun e w'=>e=.returned (.bool (sameR a b))∧Below w.heap.size w w':=by
 obtain⟨A,n,c,rfl,_,hA⟩:=h1;obtain⟨B,m,d,rfl,_,hB⟩:=h2;obtain⟨W,hW,r1,r2,hal,hz⟩:=zma w a b A n c B m d;obtain⟨x0,x1,x2,x3,x4,x5,_⟩:=r1.get;obtain⟨y0,y1,y2,y3,y4,y5,_⟩:=r2.get;have hna:n≤1099511627776:=by have:=hA.1;omega
 have hnb:m≤1099511627776:=by have:=hB.1;omega
 have HA:=hid (hA.below hal);have HB:=hid (hB.below hal);have HLA:=hid hA.1;have HLB:=hid hB.1;have HAL:=hid hal;have g1:=r1.lt;have g2:=r2.lt;have h12:w.heap.size≠w.heap.size+1:=by omega
 obtain⟨NQ,hNQ⟩:∃NQ,decide (a.names=b.names)=NQ:=⟨_,rfl⟩;obtain⟨R,hR⟩:∃R,sameR a b=R:=⟨_,rfl⟩;rw[hR];have HS:=hid (show R=(NQ&&sameF a b) by rw[←hNQ,←hR];rfl);have HNQ:=hid hNQ;clear hA hB hal r1 r2 hn1 hn2 hNQ hR
 by_cases hnm:n=m
 ·subst hnm
  go_enter Tryz.func10,Tryz.ntmps10
  go_wp2_with fail;clear hW
  go_loopw [5] (fun i wr=>∃(k q:Nat),k≤n∧i=.int .i64 k∧wr=W.drewN q∧a.names.take k=b.names.take k) (fun i _=>n-(intOf i).toNat)
  case atStart=>exact⟨0,0,by omega,rfl,rfl,rfl⟩
  case round=>
   obtain⟨k,q,hk,rfl,rfl,htk⟩:=hrel;have Htk:=hid htk;clear htk
   by_cases hlt:k<n
   ·obtain⟨g1,o1,hl1,rfl,hg1,c1⟩:=zlk HA.out k hlt;obtain⟨g2,o2,hl2,rfl,hg2,c2⟩:=zlk HB.out k hlt;obtain⟨s,ea⟩:∃s,a.names[k]=s:=⟨_,rfl⟩;obtain⟨t,eb⟩:∃t,b.names[k]=t:=⟨_,rfl⟩;rw[ea] at c1;rw[eb] at c2;have hkn:(k:Int)<(n:Int):=by omega
    have hk0:(0:Int)≤(k:Int):=by omega
    have Ea:=hid ea;have Eb:=hid eb;clear ea eb
    by_cases hab:s=t
    ·subst hab;go_wp2_with fail;go_quiet (fail);go_wp2_with fail;go_roundw
     case rel=>exact⟨k+1,_,by omega,by go_num,rfl,zhl hl1 hl2 Htk.out (by rw[Ea.out,Eb.out])⟩
     case measure=>simp[intOf];omega
    ·have qab:=z1q hab;have qab2:=zez hab;have hf:false=R:=by rw[HS.out,←HNQ.out,decide_eq_false (zhm hl1 hl2 (by rw[Ea.out,Eb.out];exact hab))];rfl
     have HFR:=hid hf;clear hab hf;go_wp2_with fail;go_quiet (fail);go_wp2_with fail;go_ret;exact⟨Cv.ret_bool HFR.out,Cv.next HAL.out (Cv.drewN_below (Cv.drewN_below (Below.refl _ _) _) _)⟩
   ·have hkn:k=n:=by omega
    subst hkn;have q9:decide ((k:Int)<(k:Int))=false:=by rw[decide_eq_false_iff_not];omega
    have hs:sameF a b=R:=by rw[HS.out,←HNQ.out,decide_eq_true (zjw HLA.out HLB.out Htk.out)];rfl
    have HSR:=hid hs;clear hs
    by_cases h_code:a.code=b.code
    rotate_left
    ·have HF:=hid (show sameF a b=false by simp[sameF,h_code]);have q_code:(a.code==b.code)=false:=by rw[beq_eq_false_iff_ne];exact h_code
     clear h_code;go_wp2_with fail;go_ret;exact⟨Cv.ret_bool (by rw[←HSR.out,HF.out]),Cv.next HAL.out (Cv.drewN_below (Below.refl _ _) _)⟩
    have q_code:(a.code==b.code)=true:=by rw[beq_iff_eq];exact h_code
    by_cases h_fd:a.fd=b.fd
    rotate_left
    ·have HF:=hid (show sameF a b=false by simp[sameF,h_fd]);have q_fd:(a.fd==b.fd)=false:=by rw[beq_eq_false_iff_ne];exact h_fd
     clear h_code h_fd;go_wp2_with fail;go_ret;exact⟨Cv.ret_bool (by rw[←HSR.out,HF.out]),Cv.next HAL.out (Cv.drewN_below (Below.refl _ _) _)⟩
    have q_fd:(a.fd==b.fd)=true:=by rw[beq_iff_eq];exact h_fd
    by_cases h_num:a.num=b.num
    rotate_left
    ·have HF:=hid (show sameF a b=false by simp[sameF,h_num]);have q_num:(a.num==b.num)=false:=by rw[beq_eq_false_iff_ne];exact h_num
     clear h_code h_fd h_num;go_wp2_with fail;go_ret;exact⟨Cv.ret_bool (by rw[←HSR.out,HF.out]),Cv.next HAL.out (Cv.drewN_below (Below.refl _ _) _)⟩
    have q_num:(a.num==b.num)=true:=by rw[beq_iff_eq];exact h_num
    by_cases h_dir:a.dir=b.dir
    rotate_left
    ·have HF:=hid (show sameF a b=false by simp[sameF,h_dir]);have q_dir:(a.dir==b.dir)=false:=by rw[beq_eq_false_iff_ne];exact h_dir
     clear h_code h_fd h_num h_dir;go_wp2_with fail;go_ret;exact⟨Cv.ret_bool (by rw[←HSR.out,HF.out]),Cv.next HAL.out (Cv.drewN_below (Below.refl _ _) _)⟩
    have q_dir:(a.dir==b.dir)=true:=by rw[beq_iff_eq];exact h_dir
    by_cases h_data:a.data=b.data
    rotate_left
    ·have HF:=hid (show sameF a b=false by simp[sameF,h_data]);have q_data:=z1q h_data;clear h_code h_fd h_num h_dir h_data;go_wp2_with fail;go_ret;exact⟨Cv.ret_bool (by rw[←HSR.out,HF.out]),Cv.next HAL.out (Cv.drewN_below (Below.refl _ _) _)⟩
    have q_data:=z3b h_data;have HF:=hid (show sameF a b=true by simp[sameF,h_code,h_fd,h_num,h_dir,h_data]);clear h_code h_fd h_num h_dir h_data;go_wp2_with fail;go_ret;exact⟨Cv.ret_bool (by rw[←HSR.out,HF.out]),Cv.next HAL.out (Cv.drewN_below (Below.refl _ _) _)⟩
 ·have qn:((n:Int) != (m:Int))=true:=by rw[bne_iff_ne];omega
  have qn2:(n != m)=true:=by rw[bne_iff_ne];exact hnm
  have hf:false=R:=by rw[HS.out,←HNQ.out,decide_eq_false (fun h=>by have h1:=HLA.out;have h2:=HLB.out;rw[h] at h1;omega)];rfl
  have HFR:=hid hf;clear hf
  go_enter Tryz.func10,Tryz.ntmps10
  go_wp2_with fail;go_ret;exact⟨Cv.ret_bool HFR.out,HAL.out⟩
set_option maxRecDepth 100000 in
set_option maxHeartbeats 16000000 in
theorem zn4 (v:Value) (s:St) (c:Ca) (want:Int) (w:World) (h:StAt none w v s) (hbad:mayV s=false∨c.core<0∨(s.made.length:Int)≤c.core∨c.kind<0∨16<c.kind):
  Calls Tryz.prog 32 #[v,caV c,.int .i64 want] w fun e w'=>∃v' rv,e=.returned (.tuple #[v',rv,.bool true])∧StAt (some w.heap.size) w' v' s∧ResIs (some w.heap.size) w' rv { code:=9 }∧Below w.heap.size w w':=by
 obtain⟨A,n,cp,E,m,d,D,k,e,rfl,_,_,hM,_⟩:=h.at_;have hkl:s.made.length=k:=hM.1;obtain⟨W,W2,W3,W4,hW,hW2,hW3,hW4,hs1,hs2,hs3,hdk⟩:=Dk.start h c;obtain⟨x0,x1,x2,k0,k1,_⟩:=hdk.vals;have HD:=hid hdk;obtain⟨MV,hMV⟩:∃MV,mayV s=MV:=⟨_,rfl⟩;have HM:=hid hMV;rw[hMV,hkl] at hbad
 have hcase:MV=false∨(MV=true∧decide (c.core<0)=true)∨(MV=true∧decide (c.core<0)=false∧decide ((k:Int)≤c.core)=true)∨(MV=true∧decide (c.core<0)=false∧decide ((k:Int)≤c.core)=false∧decide (c.kind<0)=true)∨(MV=true∧decide (c.core<0)=false∧decide ((k:Int)≤c.core)=false∧decide (c.kind<0)=false∧decide ((16:Int)<c.kind)=true):=by
  simp only[decide_eq_true_eq,decide_eq_false_iff_not];cases MV
  ·exact .inl rfl
  ·rcases hbad with h|h|h|h|h
   ·cases h
   all_goals (right;simp only[true_and];omega)
 have hsz:=hdk.size;clear hM hdk hMV h hbad;unfold caV
 rcases hcase with hmv|⟨hmv,g1⟩|⟨hmv,g1,g2⟩|⟨hmv,g1,g2,g3⟩|⟨hmv,g1,g2,g3,g4⟩
 all_goals
  subst hmv
  go_enter Tryz.func32,Tryz.ntmps32
  go_wp2_with fail;clear hW hW2 hW3 hW4;refine(zif _ s W4 HD.out.st).mono ?_;rintro e5 w5 ⟨rfl,hb5⟩;rw[HM.out];have HD5:=hid (HD.out.below hb5);have hsz5:=HD5.out.size;clear hb5 x0 x1 x2 k0 k1;obtain⟨x0,x1,x2,k0,k1,_⟩:=HD5.out.vals;go_wp2_with fail;refine(z8t _ s w5 HD5.out.st).mono ?_;rintro e6 w6 ⟨v6,rfl,hst6,hb6⟩;obtain⟨A6,n6,c6,E6,m6,d6,D6,k6,e6,rfl,_⟩:=hst6.at_;have HD6:=hid (HD5.out.below hb6);have HST6:=hid hst6;clear hst6 hb6 x0 x1 x2 k0 k1;go_wp2_with fail;refine(z0d 9 _).mono ?_;rintro e7 w7 ⟨rfl,hb7⟩;have HD7:=hid (HD6.out.below hb7);have HST7:=hid (HST6.out.below hb7);obtain⟨t0,t1,t2,uf⟩:=HD7.out.outS.get;obtain⟨v0,v1,v2,v3,v4,v5,vf⟩:=HD7.out.outR.get;obtain⟨U5,hU5,ho5,k5,b5⟩:=HD7.out.outS.three (.slice A6 n6 c6) (.slice E6 m6 d6) (.slice D6 k6 e6);have hr5:ResAt U5 (w.heap.size+3) _ _ _ _ _ _:=((k5 _ (by decide)).same (w.heap.size+3) _ HD7.out.outR).trans HD7.out.outR
  obtain⟨z0,z1,z2,z3,z4,z5,zf⟩:=hr5.get;obtain⟨U6,hU6,hr6,k6',b6,a6,s6⟩:=hr5.six (.int .i64 9) (.int .i64 0) (.int .i64 0) (.bool false) (.string ⟨#[]⟩) (.slice none 0 0);have ho6:OutAt U6 (w.heap.size+2) _ _ _:=(a6 (w.heap.size+2) (by omega)).trans ho5;have hst8:=(HST7.out.keep3 (k5 _ (by decide)) (k5 _ (by decide)) (k5 _ (by decide)) (k5 _ (by decide))).keep3 (k6' _ (by decide)) (k6' _ (by decide)) (k6' _ (by decide)) (k6' _ (by decide));have hbf:=b6 w.heap.size w (by omega) (b5 w.heap.size w (by omega) HD7.out.bel);have HO6f:=hid ho6;have HR6f:=hid hr6;have HSTf:=hid (hst8.lower (B':=w.heap.size) (by omega));have HBF:=hid hbf;clear hb7 ho5 k5 b5 hr5 hr6 k6' b6 a6 s6 ho6 hst8 hbf;go_wp2_with fail
  (try simp only[Exit.inBlock,Exit.then])
  refine bodyPost_ret (v:=.tuple #[.agg #[.slice A6 n6 c6,.slice E6 m6 d6,.slice D6 k6 e6],.agg #[.int .i64 9,.int .i64 0,.int .i64 0,.bool false,.string ⟨#[]⟩,.slice none 0 0],.bool true]) ?_ rfl ?_
  ·rw[z1s rfl];have hl1:=run_loadVar_row (P:=Tryz.prog) U6 (w.heap.size+2) _ 26 _ (0,0) _ HO6f.out Tryz.underlying26 rfl (by kernel_rfl);have hl2:=run_loadVar_row (P:=Tryz.prog) U6 (w.heap.size+3) _ 32 _ (0,0) _ HR6f.out Tryz.underlying32 rfl (by kernel_rfl);simp[asAddr,hl1,hl2,Result.andThen]
  ·exact⟨_,_,rfl,HSTf.out,ResIs.of_resV _ _ { code:=9 } rfl,HBF.out⟩
theorem zn5 (v:Value) (s:St) (c:Ca) (want:Int) (w:World) (h:StAt none w v s) (hok:mayV s=true→0≤c.core→c.core<(s.made.length:Int)→0≤c.kind→c.kind≤16→DoOk s c want):
  Calls Tryz.prog 32 #[v,caV c,.int .i64 want] w fun e w'=>∃v' rv,e=.returned (.tuple #[v',rv,.bool (doF s c want).2.2])∧StAt (some w.heap.size) w' v' (doF s c want).1∧ResIs (some w.heap.size) w' rv (doF s c want).2.1∧Below w.heap.size w w':=by
 by_cases hb:mayV s=false∨c.core<0∨(s.made.length:Int)≤c.core∨c.kind<0∨16<c.kind
 ·have e:doF s c want=(s,{ code:=9 },true):=by unfold doF;rw[if_pos hb]
  rw[e];exact zn4 v s c want w h hb
 ·have h1:mayV s=true:=by cases hm:mayV s;exact absurd (.inl hm) hb;rfl
  have h2:0≤c.core:=by omega
  have h3:c.core<(s.made.length:Int):=by omega
  have h4:0≤c.kind:=by omega
  have h5:c.kind≤16:=by omega
  exact zlx v s c want w h h1 h2 h3 h4 h5 (hok h1 h2 h3 h4 h5)
end Go.Proofs.YtmmpkfcdfcldlaaGreat
