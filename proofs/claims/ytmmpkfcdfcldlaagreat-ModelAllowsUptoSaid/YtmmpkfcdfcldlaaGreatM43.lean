/- Parts of the proof, side by side: Allows1, Allows2, FsDoBad, FsDoc, FsNew, MoNews, Conc. -/
import Derived.Test.YtmmpkfcdfcldlaaGreatM42
import Derived.Test.YtmmpkfcdfcldlaaGreatM23
import Derived.Test.YtmmpkfcdfcldlaaGreatM39
import Derived.Test.YtmmpkfcdfcldlaaGreatM24
import Derived.Test.YtmmpkfcdfcldlaaGreatM07
import Derived.Test.YtmmpkfcdfcldlaaGreatM04
import Derived.Laws.ResultCell
import Derived.Test.YtmmpkfcdfcldlaaGreatFsEqual
import Derived.Test.YtmmpkfcdfcldlaaGreatM40
import Derived.Test.YtmmpkfcdfcldlaaGreatM20
import Derived.Test.YtmmpkfcdfcldlaaGreatM29
set_option linter.unusedVariables false
set_option linter.unusedSimpArgs false
namespace Go.Proofs.YtmmpkfcdfcldlaaGreat
open Lib (hid)
open Go.RowKit
theorem z2v (A:Option Addr) (n c':Nat) (E:Option Addr) (m d:Nat) (D:Option Addr) (k e:Nat) (s:St) (c:Ca) (r:Re) (F:Option Addr) (f f':Nat) (w:World) (h:StAt none w (.agg #[.slice A n c',.slice E m d,.slice D k e]) s):
  ∃W W2 W3 W4,w.alloc (.cells #[.slice A n c',.slice E m d,.slice D k e] 26)=W∧W.alloc (.cells #[.int .i64 c.kind,.int .i64 c.core,.int .i64 c.fd,.int .i64 c.off,.int .i64 c.num,.string c.path,.string c.path2,.string c.data] 28)=W2∧
   W2.alloc (.cells #[.int .i64 r.code,.int .i64 r.fd,.int .i64 r.num,.bool r.dir,.string r.data,.slice F f f'] 32)=W3∧W3.alloc (.cells #[.slice none 0 0,.slice none 0 0,.slice none 0 0] 26)=W4∧
   W.heap.size=w.heap.size+1∧W2.heap.size=w.heap.size+2∧W3.heap.size=w.heap.size+3∧W4.heap.size=w.heap.size+4∧
   StAt none W4 (.agg #[.slice A n c',.slice E m d,.slice D k e]) s∧OutAt W4 w.heap.size (.slice A n c') (.slice E m d) (.slice D k e)∧W4.heap[w.heap.size+1]? =some (caRow c)∧
   ResAt W4 (w.heap.size+2) (.int .i64 r.code) (.int .i64 r.fd) (.int .i64 r.num) (.bool r.dir) (.string r.data) (.slice F f f')∧OutAt W4 (w.heap.size+3) (.slice none 0 0) (.slice none 0 0) (.slice none 0 0)∧Below w.heap.size w W4:=by
 obtain⟨W,hW⟩:∃W,w.alloc (.cells #[.slice A n c',.slice E m d,.slice D k e] 26)=W:=⟨_,rfl⟩;have l1:Below w.heap.size w W:=by rw[←hW];exact(Below.refl _ _).alloc (Nat.le_refl _) _
 have o1:OutAt W w.heap.size (.slice A n c') (.slice E m d) (.slice D k e):=by rw[←hW];exact heap_alloc_new w _
 have z1:W.heap.size=w.heap.size+1:=by rw[←hW];simp
 obtain⟨W2,hW2,hbc,l2,z2⟩:=z7a W c;obtain⟨W3,hW3⟩:∃W3,W2.alloc (.cells #[.int .i64 r.code,.int .i64 r.fd,.int .i64 r.num,.bool r.dir,.string r.data,.slice F f f'] 32)=W3:=⟨_,rfl⟩;have l3:Below W2.heap.size W2 W3:=by rw[←hW3];exact(Below.refl _ _).alloc (Nat.le_refl _) _
 have z3:W3.heap.size=W2.heap.size+1:=by rw[←hW3];simp
 have r3:ResAt W3 W2.heap.size (.int .i64 r.code) (.int .i64 r.fd) (.int .i64 r.num) (.bool r.dir) (.string r.data) (.slice F f f'):=by rw[←hW3];exact heap_alloc_new W2 _
 obtain⟨W4,hW4⟩:∃W4,W3.alloc (.cells #[.slice none 0 0,.slice none 0 0,.slice none 0 0] 26)=W4:=⟨_,rfl⟩;have l4:Below W3.heap.size W3 W4:=by rw[←hW4];exact(Below.refl _ _).alloc (Nat.le_refl _) _
 have z4:W4.heap.size=W3.heap.size+1:=by rw[←hW4];simp
 have o4:OutAt W4 W3.heap.size (.slice none 0 0) (.slice none 0 0) (.slice none 0 0):=by rw[←hW4];exact heap_alloc_new W3 _
 have l24:=Cv.next l3 l4;have l14:=Cv.next l2 l24;have l04:=Cv.next l1 l14;refine⟨W,W2,W3,W4,hW,hW2,hW3,hW4,z1,by omega,by omega,by omega,h.below l04,(l14.block w.heap.size (by omega)).trans o1,?_,?_,?_,l04⟩
 ·rw[←z1];exact(l24.block W.heap.size (by omega)).trans hbc
 ·rw[show w.heap.size+2=W2.heap.size by omega];exact(l4.block W2.heap.size (by omega)).trans r3
 ·rw[show w.heap.size+3=W3.heap.size by omega];exact o4
theorem z0h (tmps:Array Value) (g:Nat) (a b d:Value) (B:Bool) (w:World) (h6:tmps.getD 6 undef=.pointer (some ⟨g,0,none⟩)) (h7:tmps.getD 7 undef=.bool B) (hO:OutAt w g a b d):
  (results Tryz.f19 tmps).run Tryz.prog w=.ok (.tuple #[.agg #[a,b,d],.bool B]) w:=by
 rw[results_cell_tmp rfl,h6,h7];have hl1:=run_loadVar_row (P:=Tryz.prog) w g _ 26 _ (0,0) _ hO Tryz.underlying26 rfl (by kernel_rfl);simp[asAddr,hl1,Result.andThen]
def AlOut (w:World) (R:St×Bool) (e:Ending) (w':World):Prop:=∃v',e=.returned (.tuple #[v',.bool R.2])∧StAt (some w.heap.size) w' v' R.1∧Below w.heap.size w w'
structure AlAt (w w':World) (A:Option Addr) (n c':Nat) (E:Option Addr) (m d:Nat) (D:Option Addr) (k e:Nat) (s:St) (c:Ca) (r:Re) (F:Option Addr) (f f':Nat):Prop where
 st:StAt none w' (.agg #[.slice A n c',.slice E m d,.slice D k e]) s
 o0:OutAt w' w.heap.size (.slice A n c') (.slice E m d) (.slice D k e)
 ca:w'.heap[w.heap.size+1]? =some (caRow c)
 re:ResAt w' (w.heap.size+2) (.int .i64 r.code) (.int .i64 r.fd) (.int .i64 r.num) (.bool r.dir) (.string r.data) (.slice F f f')
 out:OutAt w' (w.heap.size+3) (.slice none 0 0) (.slice none 0 0) (.slice none 0 0)
 bel:Below w.heap.size w w'
 sz:w.heap.size+4≤w'.heap.size
theorem AlAt.below {w w' w'':World} {A:Option Addr} {n c':Nat} {E:Option Addr} {m d:Nat} {D:Option Addr} {k e:Nat} {s:St} {c:Ca} {r:Re} {F:Option Addr} {f f':Nat} (h:AlAt w w' A n c' E m d D k e s c r F f f') (hb:Below w'.heap.size w' w''):AlAt w w'' A n c' E m d D k e s c r F f f':=by
 have:=h.sz;exact⟨h.st.below hb,(hb.block _ (by omega)).trans h.o0,(hb.block _ (by omega)).trans h.ca,(hb.block _ (by omega)).trans h.re,(hb.block _ (by omega)).trans h.out,Cv.next h.bel hb,Nat.le_trans h.sz hb.size⟩
theorem zcz (s:St) (c:Ca) (hg:Good s):(looksV s c).names.length≤1099511627776:=by
 unfold looksV
 repeat' (first|exact Nat.zero_le _|split)
 show((entsOf s.inos (findV s.inos c.path).1).map (·.name)).length≤_;rw[List.length_map];unfold entsOf
 split
 ·exact Nat.zero_le _
 ·rename_i x hx;unfold inoAt at hx
  split at hx
  ·cases hx
  ·have:=hg.ents_len (List.mem_of_getElem? hx);omega
theorem z6h (s:St) (c:Ca):(doV s c).2.names.length≤1099511627776:=by
 unfold doV doF
 split
 ·exact Nat.zero_le _
 ·rename_i h
  have hg:Good s:=by
   rw[←z1o];cases hmv:mayV s
   ·exact absurd (.inl hmv) h
   ·rfl
  split
  ·show(make1V s c).2.names.length≤_;rw[z7i];exact Nat.zero_le _
  ·split
   ·show(openedV s c (-1)).2.1.names.length≤_;unfold openedV
    repeat' (first|exact Nat.zero_le _|split)
   ·split
    ·show(byFdV s c).2.names.length≤_;unfold byFdV
     repeat' (first|exact Nat.zero_le _|split)
    ·split
     ·show(namesV s c).2.names.length≤_;unfold namesV linkV renameV
      repeat' (first|exact Nat.zero_le _|split)
     ·split
      ·exact zcz s c hg
      ·exact Nat.zero_le _
set_option maxRecDepth 100000 in
set_option maxHeartbeats 8000000 in
theorem zbk (v rv:Value) (s:St) (c:Ca) (r:Re) (w:World) (h:StAt none w v s) (hr:ResIs none w rv r) (hp1:c.path.size≤140737488355328) (hp2:c.path2.size≤140737488355328) (hds:c.data.size≤140737488355328) (hrn:r.names.length≤1099511627776)
  (hcase:c.kind≠2∨(doV s c).2.code≠0∨r.fd=(doV s c).2.fd):
  Calls Tryz.prog 19 #[v,caV c,rv] w (AlOut w (allowsV s c r)):=by
 obtain⟨AV,hAV⟩:∃AV,allowsV s c r=AV:=⟨_,rfl⟩;have hpl:=zcy hcase;rw[hAV] at hpl;rw[hAV];have hnames:(doV s c).2.names.length≤1099511627776:=z6h s c;obtain⟨R,hR⟩:∃R,doV s c=R:=⟨_,rfl⟩;have hdo:=fun u hu=>z7z v s c u hu hp1 hp2 hds
 simp only[hR] at hdo hpl hcase hnames;obtain⟨A,n,c',E,m,d,D,k,e,rfl,_⟩:=h.at_;obtain⟨F,f,f',rfl,hokF,hnF⟩:=hr;obtain⟨W,W2,W3,W4,hW,hW2,hW3,hW4,z1,z2,z3,z4,hst,ho0,hca,hre,hout,hbel⟩:=z2v A n c' E m d D k e s c r F f f' w h;have hat:AlAt w W4 A n c' E m d D k e s c r F f f':=⟨hst,ho0,hca,hre,hout,hbel,by omega⟩;have hcall:=hdo W4 hst;have HCALL:=hid hcall;have HAT:=hid hat;have HNF:=hid (hnF.below hbel);have HOKF:=hid hokF;have HPL:=hid hpl;have HCASE:=hid hcase;have HNM:=hid hnames;have HRN:=hid hrn;obtain⟨p0,p1,p2,_⟩:=ho0.get;have hca':=hca;unfold caRow at hca';obtain⟨KD,hKD⟩:∃KD,c.kind=KD:=⟨_,rfl⟩;have HKD:=hid hKD;have k0:W4.cell? ⟨w.heap.size+1,0,none⟩=some (.int .i64 c.kind):=by rw[cell_of_row W4 _ _ _ _ (0,0) hca'];rfl
 have k1:W4.cell? ⟨w.heap.size+1,1,none⟩=some (.int .i64 c.core):=by rw[cell_of_row W4 _ _ _ _ (0,0) hca'];rfl
 have k2:W4.cell? ⟨w.heap.size+1,2,none⟩=some (.int .i64 c.fd):=by rw[cell_of_row W4 _ _ _ _ (0,0) hca'];rfl
 have k3:W4.cell? ⟨w.heap.size+1,3,none⟩=some (.int .i64 c.off):=by rw[cell_of_row W4 _ _ _ _ (0,0) hca'];rfl
 have k4:W4.cell? ⟨w.heap.size+1,4,none⟩=some (.int .i64 c.num):=by rw[cell_of_row W4 _ _ _ _ (0,0) hca'];rfl
 have k5:W4.cell? ⟨w.heap.size+1,5,none⟩=some (.string c.path):=by rw[cell_of_row W4 _ _ _ _ (0,0) hca'];rfl
 have k6:W4.cell? ⟨w.heap.size+1,6,none⟩=some (.string c.path2):=by rw[cell_of_row W4 _ _ _ _ (0,0) hca'];rfl
 have k7:W4.cell? ⟨w.heap.size+1,7,none⟩=some (.string c.data):=by rw[cell_of_row W4 _ _ _ _ (0,0) hca'];rfl
 unfold caV at *;clear h hst ho0 hca hca' hre hout hbel hat hcall hdo hp1 hp2 hds hR hnames hrn hokF hnF hAV hKD hpl hcase
 go_enter Tryz.func19,Tryz.ntmps19
 go_wp2_with fail;refine HCALL.out.mono ?_;rintro e5 w5 ⟨zs,vI,vO,vM,gv,rfl,hown5,⟨GA,gn,gc,rfl,hokG,hnG⟩,hb5⟩;obtain⟨A1,c1,rfl,_⟩:=hown5.rowI.slice;obtain⟨A2,c2,rfl,_⟩:=hown5.rowO.slice;obtain⟨A3,c3,rfl,_⟩:=hown5.rowM.slice;obtain⟨V1,hV1⟩:∃V1,w5.alloc (.cells #[.slice A1 zs.length c1,.slice A2 R.1.opn.length c2,.slice A3 R.1.made.length c3] 26)=V1:=⟨_,rfl⟩;have l1:Below w5.heap.size w5 V1:=by rw[←hV1];exact(Below.refl _ _).alloc (Nat.le_refl _) _
 have o1:OutAt V1 w5.heap.size (.slice A1 zs.length c1) (.slice A2 R.1.opn.length c2) (.slice A3 R.1.made.length c3):=by rw[←hV1];exact heap_alloc_new w5 _
 have y1:V1.heap.size=w5.heap.size+1:=by rw[←hV1];simp
 obtain⟨V2,hV2⟩:∃V2,V1.alloc (.cells #[.int .i64 R.2.code,.int .i64 R.2.fd,.int .i64 R.2.num,.bool R.2.dir,.string R.2.data,.slice GA gn gc] 32)=V2:=⟨_,rfl⟩;have l2:Below V1.heap.size V1 V2:=by rw[←hV2];exact(Below.refl _ _).alloc (Nat.le_refl _) _
 have r2:ResAt V2 (w5.heap.size+1) (.int .i64 R.2.code) (.int .i64 R.2.fd) (.int .i64 R.2.num) (.bool R.2.dir) (.string R.2.data) (.slice GA gn gc):=by rw[←y1,←hV2];exact heap_alloc_new V1 _
 have o2:OutAt V2 w5.heap.size (.slice A1 zs.length c1) (.slice A2 R.1.opn.length c2) (.slice A3 R.1.made.length c3):=(l2.block _ (by omega)).trans o1;have l12:=Cv.next l1 l2;have hs5:=HAT.out.sz;have hs45:=hb5.size;have HA2:=hid ((HAT.out.below hb5).below l12);have hown2:=hown5.below l12;have HOW:=hid (hown2.lower (B':=w.heap.size) (by omega));have HOWN:=hid hown2;have HNG:=hid (((hnG.weak).below l12));have HNFV:=hid (HNF.out.below (Cv.next hb5 l12));have HO2:=hid o2;have HR2:=hid r2;have HOKG:=hid hokG;obtain⟨u0,u1,u2,uf⟩:=o2.get;obtain⟨g0,g1,g2,g3,g4,g5,_⟩:=r2.get;obtain⟨i0,i1,i2,i3,i4,i5,_⟩:=HA2.out.re.get;obtain⟨q0,q1,q2,qf⟩:=HA2.out.o0.get;have hca2:=HA2.out.ca;unfold caRow at hca2;have j0:V2.cell? ⟨w.heap.size+1,0,none⟩=some (.int .i64 KD):=by rw[cell_of_row V2 _ _ _ _ (0,0) hca2,←HKD.out];rfl
 have j1:V2.cell? ⟨w.heap.size+1,1,none⟩=some (.int .i64 c.core):=by rw[cell_of_row V2 _ _ _ _ (0,0) hca2];rfl
 obtain⟨RC,hRC⟩:∃RC,R.2.code=RC:=⟨_,rfl⟩;have hs2:=l12.size;have hszV:V2.heap.size=w5.heap.size+2:=by rw[←hV2];simp;omega
 clear hW hW2 hW3 hW4 hown5 hb5 l1 o1 l2 r2 o2 l12 hown2 hokG hnG hca2 p0 p1 p2 k0 k1 k2 k3 k4 k5 k6 k7;obtain⟨SR,hSR⟩:∃SR,sameR R.2 r=SR:=⟨_,rfl⟩;have hpl:=HPL.out;rw[hSR] at hpl;have HPL2:=hid hpl;have hsame:=zix (.agg #[.int .i64 R.2.code,.int .i64 R.2.fd,.int .i64 R.2.num,.bool R.2.dir,.string R.2.data,.slice GA gn gc]) (.agg #[.int .i64 r.code,.int .i64 r.fd,.int .i64 r.num,.bool r.dir,.string r.data,.slice F f f']) R.2 r V2 ⟨GA,gn,gc,rfl,HOKG.out,HNG.out⟩ ⟨F,f,f',rfl,HOKF.out,HNFV.out⟩ HNM.out HRN.out;rw[hSR] at hsame;have HSAME:=hid hsame;clear hpl hsame hSR
 by_cases hc1:KD=2
 rotate_left
 ·have qk:(KD != 2)=true:=by rw[bne_iff_ne];exact hc1
  clear hc1 hRC;go_wp2_with fail;refine HSAME.out.mono ?_;rintro e6 w6 ⟨rfl,hb6⟩;have HA6:=hid (HA2.out.below hb6);have HOW6:=hid (HOW.out.below hb6);obtain⟨q06,q16,q26,_⟩:=HA6.out.o0.get;have HO6:Hid (OutAt w6 w5.heap.size _ _ _):=hid ((hb6.block w5.heap.size (by omega)).trans HO2.out);obtain⟨m0,m1,m2,mf⟩:=HO6.out.get;clear hb6 u0 u1 u2 uf g0 g1 g2 g3 g4 g5 i0 i1 i2 i3 i4 i5 q0 q1 q2 qf j0 j1 hV1 hV2;cases SR
  ·have hfin:=HPL2.out;rw[if_neg (by decide)] at hfin;have HFIN:=hid hfin;clear hfin;go_wp2_with fail;refine(z0t _ s w6 HA6.out.st).mono ?_;rintro e8 w8 ⟨zs8,vI8,vO8,vM8,rfl,hown8,hb8⟩;obtain⟨A8,c8,rfl,_⟩:=hown8.rowI.slice;obtain⟨B8,d8,rfl,_⟩:=hown8.rowO.slice;obtain⟨C8,e8',rfl,_⟩:=hown8.rowM.slice;have hA8:=HA6.out.below hb8;obtain⟨x0,x1,x2,xf⟩:=hA8.out.get;have xf0:=xf 0;have xf1:=xf 1;have xf2:=xf 2;obtain⟨U4,hU4,hr4,hk4,hB4⟩:=hA8.out.three (.slice A8 zs8.length c8) (.slice B8 s.opn.length d8) (.slice C8 s.made.length e8');have hown9:OwnR w.heap.size U4 s zs8 (.slice A8 zs8.length c8) (.slice B8 s.opn.length d8) (.slice C8 s.made.length e8'):=(hown8.lower (B':=w.heap.size) (by have:=HA6.out.sz;omega)).keep (hk4 _ (by decide)) (hk4 _ (by decide)) (hk4 _ (by decide)) (hk4 _ (by decide));have HF:=hid (And.intro hr4 (And.intro hown9 (hB4 w.heap.size w (by omega) hA8.bel)))
   clear hown8 hb8 hA8 hr4 hk4 hB4 hown9 xf;go_wp2_with fail
   (try simp only[Exit.inBlock,Exit.then])
   refine bodyPost_ret (z0h _ (w.heap.size+3) _ _ _ false U4 rfl rfl HF.out.1) rfl ⟨_,by rw[HFIN.out],by rw[HFIN.out];exact HF.out.2.1.st,HF.out.2.2⟩
  ·have hfin:=HPL2.out;rw[if_pos rfl] at hfin;have HFIN:=hid hfin;clear hfin;obtain⟨x0,x1,x2,xf⟩:=HA6.out.out.get;have xf0:=xf 0;have xf1:=xf 1;have xf2:=xf 2;obtain⟨U4,hU4,hr4,hk4,hB4⟩:=HA6.out.out.three (.slice A1 zs.length c1) (.slice A2 R.1.opn.length c2) (.slice A3 R.1.made.length c3);have hown9:=(HOW6.out).keep (hk4 _ (by decide)) (hk4 _ (by decide)) (hk4 _ (by decide)) (hk4 _ (by decide));have HF:=hid (And.intro hr4 (And.intro hown9 (hB4 w.heap.size w (by omega) HA6.out.bel)));clear hr4 hk4 hB4 hown9 xf;go_wp2_with fail
   (try simp only[Exit.inBlock,Exit.then])
   refine bodyPost_ret (z0h _ (w.heap.size+3) _ _ _ true U4 rfl rfl HF.out.1) rfl ⟨_,by rw[HFIN.out],by rw[HFIN.out];exact HF.out.2.1.st,HF.out.2.2⟩
 have qk:(KD != 2)=false:=by rw[hc1];rfl
 by_cases hc2:RC=0
 rotate_left
 ·have qc:(RC != 0)=true:=by rw[bne_iff_ne];exact hc2
  rw[hRC] at g0 hV2;clear hc1 hc2;go_wp2_with fail;rw[←hRC];refine HSAME.out.mono ?_;rintro e6 w6 ⟨rfl,hb6⟩;have HA6:=hid (HA2.out.below hb6);have HOW6:=hid (HOW.out.below hb6);obtain⟨q06,q16,q26,_⟩:=HA6.out.o0.get;have HO6:Hid (OutAt w6 w5.heap.size _ _ _):=hid ((hb6.block w5.heap.size (by omega)).trans HO2.out);obtain⟨m0,m1,m2,mf⟩:=HO6.out.get;clear hb6 u0 u1 u2 uf g0 g1 g2 g3 g4 g5 i0 i1 i2 i3 i4 i5 q0 q1 q2 qf j0 j1 hV1 hV2;cases SR
  ·have hfin:=HPL2.out;rw[if_neg (by decide)] at hfin;have HFIN:=hid hfin;clear hfin;go_wp2_with fail;refine(z0t _ s w6 HA6.out.st).mono ?_;rintro e8 w8 ⟨zs8,vI8,vO8,vM8,rfl,hown8,hb8⟩;obtain⟨A8,c8,rfl,_⟩:=hown8.rowI.slice;obtain⟨B8,d8,rfl,_⟩:=hown8.rowO.slice;obtain⟨C8,e8',rfl,_⟩:=hown8.rowM.slice;have hA8:=HA6.out.below hb8;obtain⟨x0,x1,x2,xf⟩:=hA8.out.get;have xf0:=xf 0;have xf1:=xf 1;have xf2:=xf 2;obtain⟨U4,hU4,hr4,hk4,hB4⟩:=hA8.out.three (.slice A8 zs8.length c8) (.slice B8 s.opn.length d8) (.slice C8 s.made.length e8');have hown9:OwnR w.heap.size U4 s zs8 (.slice A8 zs8.length c8) (.slice B8 s.opn.length d8) (.slice C8 s.made.length e8'):=(hown8.lower (B':=w.heap.size) (by have:=HA6.out.sz;omega)).keep (hk4 _ (by decide)) (hk4 _ (by decide)) (hk4 _ (by decide)) (hk4 _ (by decide));have HF:=hid (And.intro hr4 (And.intro hown9 (hB4 w.heap.size w (by omega) hA8.bel)))
   clear hown8 hb8 hA8 hr4 hk4 hB4 hown9 xf;go_wp2_with fail
   (try simp only[Exit.inBlock,Exit.then])
   refine bodyPost_ret (z0h _ (w.heap.size+3) _ _ _ false U4 rfl rfl HF.out.1) rfl ⟨_,by rw[HFIN.out],by rw[HFIN.out];exact HF.out.2.1.st,HF.out.2.2⟩
  ·have hfin:=HPL2.out;rw[if_pos rfl] at hfin;have HFIN:=hid hfin;clear hfin;obtain⟨x0,x1,x2,xf⟩:=HA6.out.out.get;have xf0:=xf 0;have xf1:=xf 1;have xf2:=xf 2;obtain⟨U4,hU4,hr4,hk4,hB4⟩:=HA6.out.out.three (.slice A1 zs.length c1) (.slice A2 R.1.opn.length c2) (.slice A3 R.1.made.length c3);have hown9:=(HOW6.out).keep (hk4 _ (by decide)) (hk4 _ (by decide)) (hk4 _ (by decide)) (hk4 _ (by decide));have HF:=hid (And.intro hr4 (And.intro hown9 (hB4 w.heap.size w (by omega) HA6.out.bel)));clear hr4 hk4 hB4 hown9 xf;go_wp2_with fail
   (try simp only[Exit.inBlock,Exit.then])
   refine bodyPost_ret (z0h _ (w.heap.size+3) _ _ _ true U4 rfl rfl HF.out.1) rfl ⟨_,by rw[HFIN.out],by rw[HFIN.out];exact HF.out.2.1.st,HF.out.2.2⟩
 have hc3:r.fd=R.2.fd:=by
  have hcase:=HCASE.out;rw[HKD.out,hRC] at hcase
  rcases hcase with h|h|h
  ·exact absurd hc1 h
  ·exact absurd hc2 h
  ·exact h
 have qf:(r.fd==R.2.fd)=true:=by rw[beq_iff_eq];exact hc3
 rw[hRC,hc2] at g0 hV2;clear hc1 hc3;go_wp2_with fail;rw[show(0:Int)=R.2.code by rw[hRC,hc2]];refine HSAME.out.mono ?_;rintro e6 w6 ⟨rfl,hb6⟩;have HA6:=hid (HA2.out.below hb6);have HOW6:=hid (HOW.out.below hb6);obtain⟨q06,q16,q26,_⟩:=HA6.out.o0.get;have HO6:Hid (OutAt w6 w5.heap.size _ _ _):=hid ((hb6.block w5.heap.size (by omega)).trans HO2.out);obtain⟨m0,m1,m2,mf⟩:=HO6.out.get;clear hb6 u0 u1 u2 uf g0 g1 g2 g3 g4 g5 i0 i1 i2 i3 i4 i5 q0 q1 q2 qf j0 j1 hV1 hV2;cases SR
 ·have hfin:=HPL2.out;rw[if_neg (by decide)] at hfin;have HFIN:=hid hfin;clear hfin;go_wp2_with fail;refine(z0t _ s w6 HA6.out.st).mono ?_;rintro e8 w8 ⟨zs8,vI8,vO8,vM8,rfl,hown8,hb8⟩;obtain⟨A8,c8,rfl,_⟩:=hown8.rowI.slice;obtain⟨B8,d8,rfl,_⟩:=hown8.rowO.slice;obtain⟨C8,e8',rfl,_⟩:=hown8.rowM.slice;have hA8:=HA6.out.below hb8;obtain⟨x0,x1,x2,xf⟩:=hA8.out.get;have xf0:=xf 0;have xf1:=xf 1;have xf2:=xf 2;obtain⟨U4,hU4,hr4,hk4,hB4⟩:=hA8.out.three (.slice A8 zs8.length c8) (.slice B8 s.opn.length d8) (.slice C8 s.made.length e8');have hown9:OwnR w.heap.size U4 s zs8 (.slice A8 zs8.length c8) (.slice B8 s.opn.length d8) (.slice C8 s.made.length e8'):=(hown8.lower (B':=w.heap.size) (by have:=HA6.out.sz;omega)).keep (hk4 _ (by decide)) (hk4 _ (by decide)) (hk4 _ (by decide)) (hk4 _ (by decide));have HF:=hid (And.intro hr4 (And.intro hown9 (hB4 w.heap.size w (by omega) hA8.bel)))
  clear hown8 hb8 hA8 hr4 hk4 hB4 hown9 xf;go_wp2_with fail
  (try simp only[Exit.inBlock,Exit.then])
  refine bodyPost_ret (z0h _ (w.heap.size+3) _ _ _ false U4 rfl rfl HF.out.1) rfl ⟨_,by rw[HFIN.out],by rw[HFIN.out];exact HF.out.2.1.st,HF.out.2.2⟩
 ·have hfin:=HPL2.out;rw[if_pos rfl] at hfin;have HFIN:=hid hfin;clear hfin;obtain⟨x0,x1,x2,xf⟩:=HA6.out.out.get;have xf0:=xf 0;have xf1:=xf 1;have xf2:=xf 2;obtain⟨U4,hU4,hr4,hk4,hB4⟩:=HA6.out.out.three (.slice A1 zs.length c1) (.slice A2 R.1.opn.length c2) (.slice A3 R.1.made.length c3);have hown9:=(HOW6.out).keep (hk4 _ (by decide)) (hk4 _ (by decide)) (hk4 _ (by decide)) (hk4 _ (by decide));have HF:=hid (And.intro hr4 (And.intro hown9 (hB4 w.heap.size w (by omega) HA6.out.bel)));clear hr4 hk4 hB4 hown9 xf;go_wp2_with fail
  (try simp only[Exit.inBlock,Exit.then])
  refine bodyPost_ret (z0h _ (w.heap.size+3) _ _ _ true U4 rfl rfl HF.out.1) rfl ⟨_,by rw[HFIN.out],by rw[HFIN.out];exact HF.out.2.1.st,HF.out.2.2⟩
set_option maxRecDepth 100000 in
set_option maxHeartbeats 16000000 in
theorem zlt (v:Value) (s:St) (c:Ca) (want:Int) (w:World) (h:StAt none w v s) (hbad:mayV s=false∨c.core<0∨(s.made.length:Int)≤c.core∨c.kind<0∨16<c.kind):
  Calls Tryz.prog 32 #[v,caV c,.int .i64 want] w fun e w'=>∃v' rv,e=.returned (.tuple #[v',rv,.bool true])∧StAt (some w.heap.size) w' v' s∧ResIs (some w.heap.size) w' rv { code:=9 }∧Below w.heap.size w w':=by
 obtain⟨A,n,cp,E,m,d,D,k,e,rfl,_,_,hM,_⟩:=h.at_;have hkl:s.made.length=k:=hM.1;obtain⟨W,W2,W3,W4,hW,hW2,hW3,hW4,hs1,hs2,hs3,hdk⟩:=Dk.start h c;obtain⟨x0,x1,x2,k0,k1,_⟩:=hdk.vals;have HD:=hid hdk;obtain⟨MV,hMV⟩:∃MV,mayV s=MV:=⟨_,rfl⟩;have HM:=hid hMV;rw[hMV,hkl] at hbad
 have hcase:MV=false∨(MV=true∧decide (c.core<0)=true)∨(MV=true∧decide (c.core<0)=false∧decide ((k:Int)≤c.core)=true)∨(MV=true∧decide (c.core<0)=false∧decide ((k:Int)≤c.core)=false∧decide (c.kind<0)=true)∨(MV=true∧decide (c.core<0)=false∧decide ((k:Int)≤c.core)=false∧decide (c.kind<0)=false∧decide ((16:Int)<c.kind)=true):=by
  simp only[decide_eq_true_eq,decide_eq_false_iff_not];cases MV
  ·exact .inl rfl
  ·rcases hbad with h|h|h|h|h
   ·cases h
   all_goals (right;simp only[true_and];omega)
 have hsz:=hdk.size;clear hM hdk hMV h hbad;unfold caV
 rcases hcase with hmv|⟨hmv,g1⟩|⟨hmv,g1,g2⟩|⟨hmv,g1,g2,g3⟩|⟨hmv,g1,g2,g3,g4⟩
 all_goals
  subst hmv
  go_enter Tryz.func32,Tryz.ntmps32
  go_wp2_with fail;clear hW hW2 hW3 hW4;refine(zds _ s W4 HD.out.st).mono ?_;rintro e5 w5 ⟨rfl,hb5⟩;rw[HM.out];have HD5:=hid (HD.out.below hb5);have hsz5:=HD5.out.size;clear hb5 x0 x1 x2 k0 k1;obtain⟨x0,x1,x2,k0,k1,_⟩:=HD5.out.vals;go_wp2_with fail;refine(z3r _ s w5 HD5.out.st).mono ?_;rintro e6 w6 ⟨v6,rfl,hst6,hb6⟩;obtain⟨A6,n6,c6,E6,m6,d6,D6,k6,e6,rfl,_⟩:=hst6.at_;have HD6:=hid (HD5.out.below hb6);have HST6:=hid hst6;clear hst6 hb6 x0 x1 x2 k0 k1;go_wp2_with fail;refine(z0d 9 _).mono ?_;rintro e7 w7 ⟨rfl,hb7⟩;have HD7:=hid (HD6.out.below hb7);have HST7:=hid (HST6.out.below hb7);obtain⟨t0,t1,t2,uf⟩:=HD7.out.outS.get;obtain⟨v0,v1,v2,v3,v4,v5,vf⟩:=HD7.out.outR.get;obtain⟨U5,hU5,ho5,k5,b5⟩:=HD7.out.outS.three (.slice A6 n6 c6) (.slice E6 m6 d6) (.slice D6 k6 e6);have hr5:ResAt U5 (w.heap.size+3) _ _ _ _ _ _:=((k5 _ (by decide)).same (w.heap.size+3) _ HD7.out.outR).trans HD7.out.outR
  obtain⟨z0,z1,z2,z3,z4,z5,zf⟩:=hr5.get;obtain⟨U6,hU6,hr6,k6',b6,a6,s6⟩:=hr5.six (.int .i64 9) (.int .i64 0) (.int .i64 0) (.bool false) (.string ⟨#[]⟩) (.slice none 0 0);have ho6:OutAt U6 (w.heap.size+2) _ _ _:=(a6 (w.heap.size+2) (by omega)).trans ho5;have hst8:=(HST7.out.keep3 (k5 _ (by decide)) (k5 _ (by decide)) (k5 _ (by decide)) (k5 _ (by decide))).keep3 (k6' _ (by decide)) (k6' _ (by decide)) (k6' _ (by decide)) (k6' _ (by decide));have hbf:=b6 w.heap.size w (by omega) (b5 w.heap.size w (by omega) HD7.out.bel);have HO6f:=hid ho6;have HR6f:=hid hr6;have HSTf:=hid (hst8.lower (B':=w.heap.size) (by omega));have HBF:=hid hbf;clear hb7 ho5 k5 b5 hr5 hr6 k6' b6 a6 s6 ho6 hst8 hbf;go_wp2_with fail
  (try simp only[Exit.inBlock,Exit.then])
  refine bodyPost_ret (v:=.tuple #[.agg #[.slice A6 n6 c6,.slice E6 m6 d6,.slice D6 k6 e6],.agg #[.int .i64 9,.int .i64 0,.int .i64 0,.bool false,.string ⟨#[]⟩,.slice none 0 0],.bool true]) ?_ rfl ?_
  ·rw[z1n rfl];have hl1:=run_loadVar_row (P:=Tryz.prog) U6 (w.heap.size+2) _ 26 _ (0,0) _ HO6f.out Tryz.underlying26 rfl (by kernel_rfl);have hl2:=run_loadVar_row (P:=Tryz.prog) U6 (w.heap.size+3) _ 32 _ (0,0) _ HR6f.out Tryz.underlying32 rfl (by kernel_rfl);simp[asAddr,hl1,hl2,Result.andThen]
  ·exact⟨_,_,rfl,HSTf.out,ResIs.of_resV _ _ { code:=9 } rfl,HBF.out⟩
theorem zlu (v:Value) (s:St) (c:Ca) (want:Int) (w:World) (h:StAt none w v s) (hok:mayV s=true→0≤c.core→c.core<(s.made.length:Int)→0≤c.kind→c.kind≤16→DoOk s c want):
  Calls Tryz.prog 32 #[v,caV c,.int .i64 want] w fun e w'=>∃v' rv,e=.returned (.tuple #[v',rv,.bool (doF s c want).2.2])∧StAt (some w.heap.size) w' v' (doF s c want).1∧ResIs (some w.heap.size) w' rv (doF s c want).2.1∧Below w.heap.size w w':=by
 by_cases hb:mayV s=false∨c.core<0∨(s.made.length:Int)≤c.core∨c.kind<0∨16<c.kind
 ·have e:doF s c want=(s,{ code:=9 },true):=by unfold doF;rw[if_pos hb]
  rw[e];exact zlt v s c want w h hb
 ·have h1:mayV s=true:=by cases hm:mayV s;exact absurd (.inl hm) hb;rfl
  have h2:0≤c.core:=by omega
  have h3:c.core<(s.made.length:Int):=by omega
  have h4:0≤c.kind:=by omega
  have h5:c.kind≤16:=by omega
  exact zky v s c want w h h1 h2 h3 h4 h5 (hok h1 h2 h3 h4 h5)
theorem zlv (v:Value) (s:St) (c:Ca) (want:Int) (w:World) (h:StAt none w v s) (hp:c.path.size≤140737488355328) (hp2:c.path2.size≤140737488355328):
  Calls Tryz.prog 32 #[v,caV c,.int .i64 want] w fun e w'=>∃v' rv,e=.returned (.tuple #[v',rv,.bool (doF s c want).2.2])∧StAt (some w.heap.size) w' v' (doF s c want).1∧ResIs (some w.heap.size) w' rv (doF s c want).2.1∧Below w.heap.size w w':=
 zlu v s c want w h fun hm h0 h1 _ _=>zme hm h0 h1 hp hp2
theorem ziy (N:Nat) (h:N≤65536) (w:World):∃W,(Instr.makeSlice 24 (.int .i64 (N:Int)) (.int .i64 (N:Int))).run Tryz.prog w=.ok (.slice (some ⟨w.heap.size,0,.none⟩) N N) W∧IntsAt (some w.heap.size) W (some ⟨w.heap.size,0,.none⟩) N (List.replicate N 0)∧Below w.heap.size w W:=by
 refine⟨_,run_make_row' (P:=Tryz.prog) 24 3 (.int .i64 0) 8 Tryz.underlying24 z3p rfl .i64 .i64 N (by omega) (by omega) w,⟨by simp,fun hn=>⟨w.heap.size,0,rfl,by simp,fun B hB=>?_,fun j x hx=>?_⟩⟩,(Below.refl _ _).alloc (Nat.le_refl _) _⟩
 ·cases hB;exact⟨Nat.le_refl _,_,heap_alloc_new w _⟩
 ·have hj:j<N:=by have:=(List.getElem?_eq_some_iff.1 hx).1;simpa using this
  have h0:x=0:=by rw[List.getElem?_replicate,if_pos hj] at hx;exact(Option.some.inj hx).symm
  subst h0;rw[Nat.zero_add];refine(cell_of_row _ w.heap.size _ _ _ (0,0) (heap_alloc_new w _)).trans ?_;simp[madeCells,hj,Nat.mod_one]
set_option maxRecDepth 100000 in
set_option maxHeartbeats 4000000 in
theorem zkh (n:Nat) (h1:1≤n) (h8:n≤8) (w:World):
  Calls Tryz.prog 16 #[.int .i64 (n:Int)] w fun e w'=>∃v,e=.returned (.tuple #[v,.int .i64 0])∧StAt (some w.heap.size) w' v (newV n)∧Below w.heap.size w w':=by
 have q1:decide ((n:Int)<1)=false:=by rw[decide_eq_false_iff_not];omega
 have q2:decide ((8:Int)<(n:Int))=false:=by rw[decide_eq_false_iff_not];omega
 obtain⟨W1,hW1⟩:∃W1,w.alloc (.cells #[.slice none 0 0,.slice none 0 0,.slice none 0 0] 26)=W1:=⟨_,rfl⟩;have o1:OutAt W1 w.heap.size (.slice none 0 0) (.slice none 0 0) (.slice none 0 0):=by rw[←hW1];exact heap_alloc_new w _
 have l1:Below w.heap.size w W1:=by rw[←hW1];exact(Below.refl _ _).alloc (Nat.le_refl _) _
 have z1:W1.heap.size=w.heap.size+1:=by rw[←hW1];simp
 obtain⟨W2,hW2⟩:∃W2,W1.alloc (.cells #[.int .i64 1,.bool true,.slice none 0 0,.string ⟨#[]⟩] 59)=W2:=⟨_,rfl⟩;have i2:W2.heap[W1.heap.size]? =some (.cells #[.int .i64 1,.bool true,.slice none 0 0,.string ⟨#[]⟩] 59 (0,0)):=by rw[←hW2];exact heap_alloc_new W1 _
 have l2:Below W1.heap.size W1 W2:=by rw[←hW2];exact(Below.refl _ _).alloc (Nat.le_refl _) _
 have z2:W2.heap.size=W1.heap.size+1:=by rw[←hW2];simp
 obtain⟨W3,hmk,hints,l3⟩:=ziy n (by omega) W2;have i3:=(l3.block W1.heap.size (by omega)).trans i2;have o3:OutAt W3 w.heap.size (.slice none 0 0) (.slice none 0 0) (.slice none 0 0):=((l2.trans (l3.mono (by omega))).block w.heap.size (by omega)).trans o1;have hb3:Below w.heap.size w W3:=Cv.next l1 (Cv.next l2 l3);obtain⟨g0,g1,g2,gf⟩:=o3.get;have gf0:=gf 0;have gf1:=gf 1;have gf2:=gf 2;obtain⟨W4,hW4,o4,k4,b4⟩:=o3.three (.slice (some ⟨W1.heap.size,0,none⟩) 1 1) (.slice none 0 0) (.slice (some ⟨W2.heap.size,0,none⟩) n n);have i4:=((k4 59 (by decide)).same _ _ i3).trans i3
 have hi:InosAt (some w.heap.size) W4 (some ⟨W1.heap.size,0,none⟩) 1 [⟨1,true,[],txt []⟩]:=by
  refine⟨rfl,fun _=>⟨W1.heap.size,0,rfl,(Array.getElem?_eq_some_iff.1 i4).1,fun B hB=>?_,fun j x hx=>?_⟩⟩
  ·cases hB;exact⟨by omega,_,i4⟩
  ·have hj:j=0:=by have:=(List.getElem?_eq_some_iff.1 hx).1;simpa using this
   subst hj;have ex:(⟨1,true,[],txt []⟩:Ino)=x:=by simpa using hx
   subst ex;refine⟨?_,?_,⟨none,0,0,?_,⟨Nat.le_refl _,fun _=>rfl⟩,rfl,fun h=>absurd h (by omega)⟩,?_⟩<;>(rw[cell_of_row W4 W1.heap.size _ _ _ (0,0) i4];rfl)
 have hd:DescsAt (some w.heap.size) W4 none 0 []:=⟨rfl,fun h=>absurd h (by omega)⟩;have hm:IntsAt (some w.heap.size) W4 (some ⟨W2.heap.size,0,none⟩) n (List.replicate n 0):=(hints.keep (k4 _ (by decide))).mono (by omega)
 have hst:StAt (some w.heap.size) W4 (.agg #[.slice (some ⟨W1.heap.size,0,none⟩) 1 1,.slice none 0 0,.slice (some ⟨W2.heap.size,0,none⟩) n n]) (newV n):=by
  refine⟨⟨_,1,1,_,0,0,_,n,n,rfl,hi,hd,hm,⟨Nat.le_refl _,fun h=>by cases h⟩,⟨Nat.le_refl _,fun _=>rfl⟩,⟨Nat.le_refl _,fun h=>by cases h⟩⟩,⟨?_,?_,?_,?_⟩⟩
  ·show 1+bulkE [⟨1,true,[],txt []⟩]+0+(List.replicate n (0:Int)).length≤_;rw[List.length_replicate]
   show 1+0+0+n≤_;omega
  ·intro x hx;have ex:x=⟨1,true,[],txt []⟩:=by simpa [newV] using hx
   subst ex;exact⟨Nat.zero_le _,fun e he=>by cases he⟩
  ·intro x hx;have ex:x=⟨1,true,[],txt []⟩:=by simpa [newV] using hx
   subst ex;exact⟨by show(-9223372036854775808:Int)≤1;omega,by show(1:Int)≤9223372036854775807;omega,fun e he=>by cases he⟩
  ·intro x hx
   have ex:x=0:=by
    have:=List.mem_replicate.1 (show x∈List.replicate n (0:Int) from hx);exact this.2
   subst ex;omega
 have HST:=hid hst;have HB4:=hid (b4 _ _ (Nat.le_refl _) hb3);have HO4:=hid o4;obtain⟨t0,t1,t2,_⟩:=o4.get;clear hst hi hd hm i4 i3 i2 o1 o3 o4 k4 b4 l1 l2 l3 hb3 hints z1 z2 gf
 go_enter Tryz.func16,Tryz.ntmps16
 go_wp2_with fail
 (try simp only[Exit.inBlock,Exit.then])
 refine bodyPost_ret (v:=.tuple #[.agg #[.slice (some ⟨W1.heap.size,0,none⟩) 1 1,.slice none 0 0,.slice (some ⟨W2.heap.size,0,none⟩) n n],.int .i64 0]) ?_ rfl ⟨_,rfl,HST.out,HB4.out⟩;rw[results_cell_tmp rfl];have hload:=run_loadVar_row (P:=Tryz.prog) W4 w.heap.size _ 26 _ (0,0) _ HO4.out Tryz.underlying26 rfl (by kernel_rfl);simp[asAddr,hload,Result.andThen]
set_option maxRecDepth 100000 in
theorem zki (n:Int) (h:n<1∨8<n) (w:World):
  Calls Tryz.prog 16 #[.int .i64 n] w fun e w'=>e=.returned (.tuple #[.agg #[.slice none 0 0,.slice none 0 0,.slice none 0 0],.int .i64 1300])∧Below w.heap.size w w':=by
 obtain⟨W1,hW1⟩:∃W1,w.alloc (.cells #[.slice none 0 0,.slice none 0 0,.slice none 0 0] 26)=W1:=⟨_,rfl⟩;have o1:OutAt W1 w.heap.size (.slice none 0 0) (.slice none 0 0) (.slice none 0 0):=by rw[←hW1];exact heap_alloc_new w _
 have l1:Below w.heap.size w W1:=by rw[←hW1];exact(Below.refl _ _).alloc (Nat.le_refl _) _
 obtain⟨g0,g1,g2,gf⟩:=o1.get;have gf0:=gf 0;have gf1:=gf 1;have gf2:=gf 2;obtain⟨W4,hW4,o4,k4,b4⟩:=o1.three (.slice none 0 0) (.slice none 0 0) (.slice none 0 0);have HB4:=hid (b4 _ _ (Nat.le_refl _) l1);have HO4:=hid o4;clear l1 o1 o4 k4 b4 gf
 by_cases h1:n<1
 ·have q1:decide (n<1)=true:=decide_eq_true h1;clear h h1
  go_enter Tryz.func16,Tryz.ntmps16
  go_wp2_with fail
  (try simp only[Exit.inBlock,Exit.then])
  refine bodyPost_ret (v:=.tuple #[.agg #[.slice none 0 0,.slice none 0 0,.slice none 0 0],.int .i64 1300]) ?_ rfl ⟨rfl,HB4.out⟩;rw[results_cell_tmp rfl];have hload:=run_loadVar_row (P:=Tryz.prog) W4 w.heap.size _ 26 _ (0,0) _ HO4.out Tryz.underlying26 rfl (by kernel_rfl);simp[asAddr,hload,Result.andThen]
 ·have q1:decide (n<1)=false:=decide_eq_false h1;have q2:decide (8<n)=true:=decide_eq_true (h.resolve_left h1);clear h h1
  go_enter Tryz.func16,Tryz.ntmps16
  go_wp2_with fail
  (try simp only[Exit.inBlock,Exit.then])
  refine bodyPost_ret (v:=.tuple #[.agg #[.slice none 0 0,.slice none 0 0,.slice none 0 0],.int .i64 1300]) ?_ rfl ⟨rfl,HB4.out⟩;rw[results_cell_tmp rfl];have hload:=run_loadVar_row (P:=Tryz.prog) W4 w.heap.size _ 26 _ (0,0) _ HO4.out Tryz.underlying26 rfl (by kernel_rfl);simp[asAddr,hload,Result.andThen]
deriving instance DecidableEq for Re
deriving instance DecidableEq for Ca
theorem doC (v:Value) (s:St) (c:Ca) (w:World) (h:StAt none w v s) (T:St) (code fd num:Int) (dir:Bool) (data:ByteArray) (names:List ByteArray) (hd:doV s c=(T,⟨code,fd,num,dir,data,names⟩)) (hp1:c.path.size≤140737488355328) (hp2:c.path2.size≤140737488355328) (hds:c.data.size≤140737488355328):
  Calls Tryz.prog 7 #[v,caV c] w fun e w'=>∃A n c1 E m d D k e1 F f f',e=.returned (.tuple #[.agg #[.slice A n c1,.slice E m d,.slice D k e1],.agg #[.int .i64 code,.int .i64 fd,.int .i64 num,.bool dir,.string data,.slice F f f']])∧
   StAt none w' (.agg #[.slice A n c1,.slice E m d,.slice D k e1]) T∧DescsAt none w' E m T.opn∧(m=T.opn.length∧n=T.inos.length)∧NmsAt none w' F f names∧SlOk F f f'∧Below w.heap.size w w':=by
 refine(zlb v s c w h hp1 hp2 hds).mono ?_;rintro e w' ⟨v',rv,rfl,hs,⟨F,f,f',rfl,hok,hn⟩,hb⟩;rw[hd] at hs hn;rw[hd];obtain⟨A,n,c1,E,m,d,D,k,e1,rfl,hI,hD,_⟩:=hs.weak.at_;exact⟨A,n,c1,E,m,d,D,k,e1,F,f,f',rfl,hs.weak,hD,⟨hD.1.symm,hI.1.symm⟩,hn.weak,hok,hb⟩
theorem zd0 (w:World) (a b c:Value) (code fd num:Int) (dir:Bool) (data:ByteArray) (F:Option Addr) (f f':Nat):∃V1 V,w.alloc (.cells #[a,b,c] 26)=V1∧V1.alloc (.cells #[.int .i64 code,.int .i64 fd,.int .i64 num,.bool dir,.string data,.slice F f f'] 32)=V∧V1.heap.size=w.heap.size+1∧V.heap.size=w.heap.size+2∧
  OutAt V w.heap.size a b c∧ResAt V (w.heap.size+1) (.int .i64 code) (.int .i64 fd) (.int .i64 num) (.bool dir) (.string data) (.slice F f f')∧Below w.heap.size w V:=by
 obtain⟨V1,hV1⟩:∃V1,w.alloc (.cells #[a,b,c] 26)=V1:=⟨_,rfl⟩;have l1:Below w.heap.size w V1:=by rw[←hV1];exact(Below.refl _ _).alloc (Nat.le_refl _) _
 have o1:OutAt V1 w.heap.size a b c:=by rw[←hV1];exact heap_alloc_new w _
 have y1:V1.heap.size=w.heap.size+1:=by rw[←hV1];simp
 obtain⟨V2,hV2⟩:∃V2,V1.alloc (.cells #[.int .i64 code,.int .i64 fd,.int .i64 num,.bool dir,.string data,.slice F f f'] 32)=V2:=⟨_,rfl⟩;have l2:Below V1.heap.size V1 V2:=by rw[←hV2];exact(Below.refl _ _).alloc (Nat.le_refl _) _
 have r2:ResAt V2 (w.heap.size+1) (.int .i64 code) (.int .i64 fd) (.int .i64 num) (.bool dir) (.string data) (.slice F f f'):=by rw[←y1,←hV2];exact heap_alloc_new V1 _
 have o2:OutAt V2 w.heap.size a b c:=(l2.block _ (by omega)).trans o1;exact⟨V1,V2,hV1,hV2,y1,by rw[←hV2];simp;omega,o2,r2,Cv.next l1 l2⟩
theorem zec (w:World) (a b c:Value):∃V,w.alloc (.cells #[a,b,c] 26)=V∧V.heap.size=w.heap.size+1∧OutAt V w.heap.size a b c∧Below w.heap.size w V:=
 ⟨_,rfl,by simp,heap_alloc_new w _,(Below.refl _ _).alloc (Nat.le_refl _) _⟩
theorem OutAt.mv {w w':World} {p:Nat} {a b c:Value} (h:OutAt w p a b c) (hb:Below w.heap.size w w'):OutAt w' p a b c:=(hb.block p (Array.getElem?_eq_some_iff.1 h).1).trans h
theorem ResAt.mv {w w':World} {p:Nat} {a b c d e f:Value} (h:ResAt w p a b c d e f) (hb:Below w.heap.size w w'):ResAt w' p a b c d e f:=(hb.block p (Array.getElem?_eq_some_iff.1 h).1).trans h
theorem zkj (lo:Option Nat) (w:World) (code fd num:Int) (dir:Bool) (data:ByteArray):ResIs lo w (.agg #[.int .i64 code,.int .i64 fd,.int .i64 num,.bool dir,.string data,.slice none 0 0]) ⟨code,fd,num,dir,data,[]⟩:=
 ⟨none,0,0,rfl,⟨Nat.le_refl _,fun _=>rfl⟩,rfl,fun h=>absurd h (by omega)⟩
theorem zmc (n:Int) (w:World):Calls Tryz.prog 18 #[.int .i64 n] w fun e w'=>e=.returned (.int .i64 n)∧w=w':=by
 go_enter Tryz.func18,Tryz.ntmps18
 go_wp2_with fail;go_ret;exact⟨rfl,rfl⟩
def pA:ByteArray:=⟨#[47,97]⟩
def cA:Ca:=⟨0,0,0,0,0,⟨#[47,97]⟩,⟨#[]⟩,⟨#[]⟩⟩
def cO:Ca:=⟨2,1,0,0,0,⟨#[47,97]⟩,⟨#[]⟩,⟨#[]⟩⟩
def cW:Ca:=⟨5,1,0,0,0,⟨#[]⟩,⟨#[]⟩,⟨#[104,105]⟩⟩
def cP:Ca:=⟨2,0,0,0,0,⟨#[47,97]⟩,⟨#[]⟩,⟨#[]⟩⟩
def stT:St:=⟨[⟨1,true,[⟨⟨#[97]⟩,2⟩],⟨#[]⟩⟩,⟨2,false,[],⟨#[]⟩⟩],[],[1,0]⟩
def stU:St:=⟨[⟨1,true,[⟨⟨#[97]⟩,2⟩],⟨#[]⟩⟩,⟨2,false,[],⟨#[]⟩⟩],[⟨1,0,2⟩],[1,0]⟩
def stW:St:=⟨[⟨1,true,[⟨⟨#[97]⟩,2⟩],⟨#[]⟩⟩,⟨2,false,[],⟨#[104,105]⟩⟩],[⟨1,0,2⟩],[1,0]⟩
theorem zm3:doV (newV 2) cA=(stT,⟨0,0,0,false,⟨#[]⟩,[]⟩):=by decide+kernel
theorem zm4:doV stT cO=(stU,⟨0,0,0,false,⟨#[]⟩,[]⟩):=by decide+kernel
theorem zm5:doV stU cW=(stW,⟨0,0,2,false,⟨#[]⟩,[]⟩):=by decide+kernel
theorem zm6:doV stT cA=(stT,⟨2,0,0,false,⟨#[]⟩,[]⟩):=by decide+kernel
theorem zm7:mayV stT=true:=by decide+kernel
theorem zm8:linkI stT.inos 2=1:=by decide+kernel
theorem zm9:mfindV stT pA=(2,0):=by decide+kernel
end Go.Proofs.YtmmpkfcdfcldlaaGreat
