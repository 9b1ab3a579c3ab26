/- Parts of the proof, side by side: OpenCalls, FsNew, MoNews, FsNewBad, MoEntry. -/
import Derived.Test.YtmmpkfcdfcldlaaGreatM18
import Derived.Test.YtmmpkfcdfcldlaaGreatM06
import Derived.Test.YtmmpkfcdfcldlaaGreatM02
import Derived.Laws.ResultCell
import Derived.Test.YtmmpkfcdfcldlaaGreatM12
import Derived.Lib.Bytealg
set_option linter.unusedVariables false
set_option linter.unusedSimpArgs false
namespace Go.Proofs.YtmmpkfcdfcldlaaGreat
open Lib (hid)
open Go.ChangeShapes Go.WideShapes Go.ChangeAt Go.RowKit
def CallsIn (w:World) (A:Option Addr) (n:Nat) (cs:List Ca):Prop:=
 cs.length=n∧(0<n→∃g off,A=some ⟨g,off,none⟩∧g<w.heap.size∧∀j c,cs[j]? =some c→w.cell? ⟨g,off+j*8,none⟩=some (.int .i64 c.kind)∧w.cell? ⟨g,off+j*8+1,none⟩=some (.int .i64 c.core)∧w.cell? ⟨g,off+j*8+2,none⟩=some (.int .i64 c.fd)∧w.cell? ⟨g,off+j*8+3,none⟩=some (.int .i64 c.off)∧w.cell? ⟨g,off+j*8+4,none⟩=some (.int .i64 c.num)∧w.cell? ⟨g,off+j*8+5,none⟩=some (.string c.path)∧w.cell? ⟨g,off+j*8+6,none⟩=some (.string c.path2)∧w.cell? ⟨g,off+j*8+7,none⟩=some (.string c.data))
theorem CallsIn.below {w w':World} {A:Option Addr} {n:Nat} {cs:List Ca} (h:CallsIn w A n cs) (hb:Below w.heap.size w w'):CallsIn w' A n cs:=
 ⟨h.1, fun hn => by
  obtain⟨g,off,hA,hg,hc⟩:=h.2 hn;have t:∀{o v},w.cell? ⟨g,o,none⟩=some v→w'.cell? ⟨g,o,none⟩=some v:=fun h9=>(hb.cell (p:=⟨g,_,none⟩) hg).trans h9
  exact⟨g,off,hA,Nat.lt_of_lt_of_le hg hb.size,fun j c hj=>by
   obtain⟨h0,h1,h2,h3,h4,h5,h6,h7⟩:=hc j c hj;exact⟨t h0,t h1,t h2,t h3,t h4,t h5,t h6,t h7⟩⟩⟩
section
variable {H:Type} {enc:TypeId×Value→H} {W:World} {sp:Nat→Bool} {hd:Bool}
set_option maxRecDepth 100000 in
theorem zgx {f:Nat} {cs:List Value} {D:DataW H} {Pl:List MemPlace} (h:DataW.trod enc Tryz.prog W 0 sp hd f 28 cs=some (D,Pl)) (hl:cs.length=8):
  ∃z:Ca,cs=[.int .i64 z.kind,.int .i64 z.core,.int .i64 z.fd,.int .i64 z.off,.int .i64 z.num,.string z.path,.string z.path2,.string z.data]∧z.path.size≤Rows.uptoBulk D∧z.path2.size≤Rows.uptoBulk D∧z.data.size≤Rows.uptoBulk D:=by
 have C1:Tryz.prog.cellsOf 3=1:=by kernel_rfl
 have C9:Tryz.prog.cellsOf 9=1:=by kernel_rfl
 obtain⟨xs,n,_,hx,_,hlen,hfs⟩:=DataW.trod_struct Tryz.underlying28 h
 match xs,hlen,cs,hl with
 | [y0,y1,y2,y3,y4,y5,y6,y7],_,[v0,v1,v2,v3,v4,v5,v6,v7],_=>
  have g0:=hfs 0 _ rfl;have g1:=hfs 1 _ rfl;have g2:=hfs 2 _ rfl;have g3:=hfs 3 _ rfl;have g4:=hfs 4 _ rfl;have g5:=hfs 5 _ rfl;have g6:=hfs 6 _ rfl;have g7:=hfs 7 _ rfl;simp[C1,C9] at g0 g1 g2 g3 g4 g5 g6 g7;obtain⟨z0,hz0,_⟩:=DataW.trod_int Tryz.underlying3 g0;obtain⟨z1,hz1,_⟩:=DataW.trod_int Tryz.underlying3 g1;obtain⟨z2,hz2,_⟩:=DataW.trod_int Tryz.underlying3 g2;obtain⟨z3,hz3,_⟩:=DataW.trod_int Tryz.underlying3 g3;obtain⟨z4,hz4,_⟩:=DataW.trod_int Tryz.underlying3 g4;obtain⟨s5,hs5,hy5,_⟩:=DataW.trod_string Tryz.underlying9 g5;obtain⟨s6,hs6,hy6,_⟩:=DataW.trod_string Tryz.underlying9 g6;obtain⟨s7,hs7,hy7,_⟩:=DataW.trod_string Tryz.underlying9 g7;simp at hz0 hz1 hz2 hz3 hz4 hs5 hs6 hs7;subst hz0 hz1 hz2 hz3 hz4 hs5 hs6 hs7;simp at hx;rw[hx.1,hy5,hy6,hy7];have b5:=z4k (H:=H) s5
  have b6:=z4k (H:=H) s6;have b7:=z4k (H:=H) s7;simp only[Rows.uptoBulk,Rows.uptoBulkAll] at b5 b6 b7 ⊢;exact⟨⟨z0,z1,z2,z3,z4,s5,s6,s7⟩,rfl,by show s5.size≤_;omega,by show s6.size≤_;omega,by show s7.size≤_;omega⟩
set_option maxRecDepth 100000 in
theorem zgy {A:Option Addr} {n c:Nat} {d:DataW H} {p:List MemPlace} (h:DataW.Trod enc Tryz.prog W 0 sp hd 41 (.slice A n c) d p) (hb0:Rows.uptoBulk d≤1048576):
  ∃cs,CallsIn W A n cs∧n≤1048576∧∀c∈cs,c.path.size≤1048576∧c.path2.size≤1048576∧c.data.size≤1048576:=by
 obtain⟨fuel,hf⟩:=h
 rcases Go.Deep.open_slice Tryz.underlying41 hf with⟨hcs,hx⟩|⟨a,len,cap,m,f',D,Pl,hcs,_,hl,hm,hmm,hx,hcell⟩
 ·simp[Value.cells] at hcs;obtain⟨rfl,rfl,rfl⟩:=hcs;exact⟨[],⟨rfl,fun h=>absurd h (by omega)⟩,by omega,fun e he=>by cases he⟩
 ·simp[Value.cells] at hcs;obtain⟨rfl,rfl,rfl⟩:=hcs;simp at hx;have hnm:n≤m:=by rw[hmm];split<;>omega
  have ce:Tryz.prog.cellsOf 28=8:=by kernel_rfl
  have each:∀j,j<n→∃z:Ca,W.cell? (a.add (j*8))=some (.int .i64 z.kind)∧W.cell? (a.add (j*8+1))=some (.int .i64 z.core)∧W.cell? (a.add (j*8+2))=some (.int .i64 z.fd)∧W.cell? (a.add (j*8+3))=some (.int .i64 z.off)∧W.cell? (a.add (j*8+4))=some (.int .i64 z.num)∧W.cell? (a.add (j*8+5))=some (.string z.path)∧W.cell? (a.add (j*8+6))=some (.string z.path2)∧W.cell? (a.add (j*8+7))=some (.string z.data)∧z.path.size≤Rows.uptoBulk (D j)∧z.path2.size≤Rows.uptoBulk (D j)∧z.data.size≤Rows.uptoBulk (D j):=by
   intro j hj;obtain⟨cs',h1,h2⟩:=hcell j (by omega);rw[ce] at h1;obtain⟨_,hlen,hc⟩:=World.cells?_some h1;obtain⟨z,rfl,hs⟩:=zgx h2 hlen;have e0:=hc 0 (by omega);have e1:=hc 1 (by omega);have e2:=hc 2 (by omega);have e3:=hc 3 (by omega);have e4:=hc 4 (by omega);have e5:=hc 5 (by omega);have e6:=hc 6 (by omega);have e7:=hc 7 (by omega);rw[Go.Deep.add_add] at e0 e1 e2 e3 e4 e5 e6 e7;exact⟨z,by simpa using e0,by simpa using e1,by simpa using e2,by simpa using e3,by simpa using e4,by simpa using e5,by simpa using e6,by simpa using e7,hs⟩
  have hV:∃F:Nat→Ca,∀j,j<n→W.cell? (a.add (j*8))=some (.int .i64 (F j).kind)∧W.cell? (a.add (j*8+1))=some (.int .i64 (F j).core)∧W.cell? (a.add (j*8+2))=some (.int .i64 (F j).fd)∧W.cell? (a.add (j*8+3))=some (.int .i64 (F j).off)∧W.cell? (a.add (j*8+4))=some (.int .i64 (F j).num)∧W.cell? (a.add (j*8+5))=some (.string (F j).path)∧W.cell? (a.add (j*8+6))=some (.string (F j).path2)∧W.cell? (a.add (j*8+7))=some (.string (F j).data)∧(F j).path.size≤Rows.uptoBulk (D j)∧(F j).path2.size≤Rows.uptoBulk (D j)∧(F j).data.size≤Rows.uptoBulk (D j):=by
   refine⟨fun j=>if h:j<n then(each j h).choose else⟨0,0,0,0,0,⟨#[]⟩,⟨#[]⟩,⟨#[]⟩⟩,fun j hj=>?_⟩;simp only[hj,dif_pos];exact(each j hj).choose_spec
  obtain⟨F,hF⟩:=hV;have hb:=zea ((List.range n).map D) ((List.range (m-n)).map fun j=>D (n+j));rw[hx.1] at hb0;refine⟨(List.range n).map F,⟨by simp,fun hn=>?_⟩,?_,fun e he=>?_⟩
  ·obtain⟨g,off,rfl,hg⟩:=znd (hF 0 hn).1;refine⟨g,off,rfl,hg,fun j e he=>?_⟩;have hj:j<n:=by have:=(List.getElem?_eq_some_iff.1 he).1;simpa using this
   have:e=F j:=by simpa [hj] using he.symm
   subst this;obtain⟨h0,h1,h2,h3,h4,h5,h6,h7,_⟩:=hF j hj;rw[znm] at h0 h1 h2 h3 h4 h5 h6 h7;simp only[←Nat.add_assoc] at h0 h1 h2 h3 h4 h5 h6 h7;exact⟨h0,h1,h2,h3,h4,h5,h6,h7⟩
  ·have:=ziz ((List.range n).map D);simp at this;omega
  ·obtain⟨j,hj,rfl⟩:=List.mem_map.1 he;obtain⟨_,_,_,_,_,_,_,_,h3,h4,h5⟩:=hF j (List.mem_range.1 hj);have h6:Rows.uptoBulk (D j)≤Rows.uptoBulkAll ((List.range n).map D):=zgw (List.mem_map.2 ⟨j,hj,rfl⟩);exact⟨by omega,by omega,by omega⟩
end
end Go.Proofs.YtmmpkfcdfcldlaaGreat
namespace Go.Proofs.YtmmpkfcdfcldlaaGreat
open Lib (hid)
open Go.RowKit
theorem zcy (N:Nat) (h:N≤65536) (w:World):∃W,(Instr.makeSlice 24 (.int .i64 (N:Int)) (.int .i64 (N:Int))).run Tryz.prog w=.ok (.slice (some ⟨w.heap.size,0,.none⟩) N N) W∧IntsAt (some w.heap.size) W (some ⟨w.heap.size,0,.none⟩) N (List.replicate N 0)∧Below w.heap.size w W:=by
 refine⟨_,run_make_row' (P:=Tryz.prog) 24 3 (.int .i64 0) 8 Tryz.underlying24 z5p rfl .i64 .i64 N (by omega) (by omega) w,⟨by simp,fun hn=>⟨w.heap.size,0,rfl,by simp,fun B hB=>?_,fun j x hx=>?_⟩⟩,(Below.refl _ _).alloc (Nat.le_refl _) _⟩
 ·cases hB;exact⟨Nat.le_refl _,_,heap_alloc_new w _⟩
 ·have hj:j<N:=by have:=(List.getElem?_eq_some_iff.1 hx).1;simpa using this
  have h0:x=0:=by rw[List.getElem?_replicate,if_pos hj] at hx;exact(Option.some.inj hx).symm
  subst h0;rw[Nat.zero_add];refine(cell_of_row _ w.heap.size _ _ _ (0,0) (heap_alloc_new w _)).trans ?_;simp[madeCells,hj,Nat.mod_one]
set_option maxRecDepth 100000 in
set_option maxHeartbeats 4000000 in
theorem zlv (n:Nat) (h1:1≤n) (h8:n≤8) (w:World):
  Calls Tryz.prog 17 #[.int .i64 (n:Int)] w fun e w'=>∃v,e=.returned (.tuple #[v,.int .i64 0])∧StAt (some w.heap.size) w' v (newV n)∧Below w.heap.size w w':=by
 have q1:decide ((n:Int)<1)=false:=by rw[decide_eq_false_iff_not];omega
 have q2:decide ((8:Int)<(n:Int))=false:=by rw[decide_eq_false_iff_not];omega
 obtain⟨W1,hW1⟩:∃W1,w.alloc (.cells #[.slice none 0 0,.slice none 0 0,.slice none 0 0] 26)=W1:=⟨_,rfl⟩;have o1:OutAt W1 w.heap.size (.slice none 0 0) (.slice none 0 0) (.slice none 0 0):=by rw[←hW1];exact heap_alloc_new w _
 have l1:Below w.heap.size w W1:=by rw[←hW1];exact(Below.refl _ _).alloc (Nat.le_refl _) _
 have z1:W1.heap.size=w.heap.size+1:=by rw[←hW1];simp
 obtain⟨W2,hW2⟩:∃W2,W1.alloc (.cells #[.int .i64 1,.bool true,.slice none 0 0,.string ⟨#[]⟩] 59)=W2:=⟨_,rfl⟩;have i2:W2.heap[W1.heap.size]? =some (.cells #[.int .i64 1,.bool true,.slice none 0 0,.string ⟨#[]⟩] 59 (0,0)):=by rw[←hW2];exact heap_alloc_new W1 _
 have l2:Below W1.heap.size W1 W2:=by rw[←hW2];exact(Below.refl _ _).alloc (Nat.le_refl _) _
 have z2:W2.heap.size=W1.heap.size+1:=by rw[←hW2];simp
 obtain⟨W3,hmk,hints,l3⟩:=zcy n (by omega) W2;have i3:=(l3.block W1.heap.size (by omega)).trans i2;have o3:OutAt W3 w.heap.size (.slice none 0 0) (.slice none 0 0) (.slice none 0 0):=((l2.trans (l3.mono (by omega))).block w.heap.size (by omega)).trans o1;have hb3:Below w.heap.size w W3:=Cv.next l1 (Cv.next l2 l3);obtain⟨g0,g1,g2,gf⟩:=o3.get;have gf0:=gf 0;have gf1:=gf 1;have gf2:=gf 2;obtain⟨W4,hW4,o4,k4,b4⟩:=o3.three (.slice (some ⟨W1.heap.size,0,none⟩) 1 1) (.slice none 0 0) (.slice (some ⟨W2.heap.size,0,none⟩) n n);have i4:=((k4 59 (by decide)).same _ _ i3).trans i3
 have hi:InosAt (some w.heap.size) W4 (some ⟨W1.heap.size,0,none⟩) 1 [⟨1,true,[],txt []⟩]:=by
  refine⟨rfl,fun _=>⟨W1.heap.size,0,rfl,(Array.getElem?_eq_some_iff.1 i4).1,fun B hB=>?_,fun j x hx=>?_⟩⟩
  ·cases hB;exact⟨by omega,_,i4⟩
  ·have hj:j=0:=by have:=(List.getElem?_eq_some_iff.1 hx).1;simpa using this
   subst hj;have ex:(⟨1,true,[],txt []⟩:Ino)=x:=by simpa using hx
   subst ex;refine⟨?_,?_,⟨none,0,0,?_,⟨Nat.le_refl _,fun _=>rfl⟩,rfl,fun h=>absurd h (by omega)⟩,?_⟩<;>(rw[cell_of_row W4 W1.heap.size _ _ _ (0,0) i4];rfl)
 have hd:DescsAt (some w.heap.size) W4 none 0 []:=⟨rfl,fun h=>absurd h (by omega)⟩;have hm:IntsAt (some w.heap.size) W4 (some ⟨W2.heap.size,0,none⟩) n (List.replicate n 0):=(hints.keep (k4 _ (by decide))).mono (by omega)
 have hst:StAt (some w.heap.size) W4 (.agg #[.slice (some ⟨W1.heap.size,0,none⟩) 1 1,.slice none 0 0,.slice (some ⟨W2.heap.size,0,none⟩) n n]) (newV n):=by
  refine⟨⟨_,1,1,_,0,0,_,n,n,rfl,hi,hd,hm,⟨Nat.le_refl _,fun h=>by cases h⟩,⟨Nat.le_refl _,fun _=>rfl⟩,⟨Nat.le_refl _,fun h=>by cases h⟩⟩,⟨?_,?_,?_,?_⟩⟩
  ·show 1+bulkE [⟨1,true,[],txt []⟩]+0+(List.replicate n (0:Int)).length≤_;rw[List.length_replicate]
   show 1+0+0+n≤_;omega
  ·intro x hx;have ex:x=⟨1,true,[],txt []⟩:=by simpa [newV] using hx
   subst ex;exact⟨Nat.zero_le _,fun e he=>by cases he⟩
  ·intro x hx;have ex:x=⟨1,true,[],txt []⟩:=by simpa [newV] using hx
   subst ex;exact⟨by show(-9223372036854775808:Int)≤1;omega,by show(1:Int)≤9223372036854775807;omega,fun e he=>by cases he⟩
  ·intro x hx
   have ex:x=0:=by
    have:=List.mem_replicate.1 (show x∈List.replicate n (0:Int) from hx);exact this.2
   subst ex;omega
 have HST:=hid hst;have HB4:=hid (b4 _ _ (Nat.le_refl _) hb3);have HO4:=hid o4;obtain⟨t0,t1,t2,_⟩:=o4.get;clear hst hi hd hm i4 i3 i2 o1 o3 o4 k4 b4 l1 l2 l3 hb3 hints z1 z2 gf
 go_enter Tryz.func17,Tryz.ntmps17
 go_wp2_with fail
 (try simp only[Exit.inBlock,Exit.then])
 refine bodyPost_ret (v:=.tuple #[.agg #[.slice (some ⟨W1.heap.size,0,none⟩) 1 1,.slice none 0 0,.slice (some ⟨W2.heap.size,0,none⟩) n n],.int .i64 0]) ?_ rfl ⟨_,rfl,HST.out,HB4.out⟩;rw[results_cell_tmp rfl];have hload:=run_loadVar_row (P:=Tryz.prog) W4 w.heap.size _ 26 _ (0,0) _ HO4.out Tryz.underlying26 rfl (by kernel_rfl);simp[asAddr,hload,Result.andThen]
set_option maxRecDepth 100000 in
set_option maxHeartbeats 4000000 in
theorem zfg (n:Nat) (h1:1≤n) (h8:n≤8) (w:World):
  Calls Tryz.prog 16 #[.int .i64 (n:Int)] w fun e w'=>∃v,e=.returned (.tuple #[v,.int .i64 0])∧StAt (some w.heap.size) w' v (newV n)∧Below w.heap.size w w':=by
 have q1:decide ((n:Int)<1)=false:=by rw[decide_eq_false_iff_not];omega
 have q2:decide ((8:Int)<(n:Int))=false:=by rw[decide_eq_false_iff_not];omega
 obtain⟨W1,hW1⟩:∃W1,w.alloc (.cells #[.slice none 0 0,.slice none 0 0,.slice none 0 0] 26)=W1:=⟨_,rfl⟩;have o1:OutAt W1 w.heap.size (.slice none 0 0) (.slice none 0 0) (.slice none 0 0):=by rw[←hW1];exact heap_alloc_new w _
 have l1:Below w.heap.size w W1:=by rw[←hW1];exact(Below.refl _ _).alloc (Nat.le_refl _) _
 have z1:W1.heap.size=w.heap.size+1:=by rw[←hW1];simp
 obtain⟨W2,hW2⟩:∃W2,W1.alloc (.cells #[.int .i64 1,.bool true,.slice none 0 0,.string ⟨#[]⟩] 59)=W2:=⟨_,rfl⟩;have i2:W2.heap[W1.heap.size]? =some (.cells #[.int .i64 1,.bool true,.slice none 0 0,.string ⟨#[]⟩] 59 (0,0)):=by rw[←hW2];exact heap_alloc_new W1 _
 have l2:Below W1.heap.size W1 W2:=by rw[←hW2];exact(Below.refl _ _).alloc (Nat.le_refl _) _
 have z2:W2.heap.size=W1.heap.size+1:=by rw[←hW2];simp
 obtain⟨W3,hmk,hints,l3⟩:=zcy n (by omega) W2;have i3:=(l3.block W1.heap.size (by omega)).trans i2;have o3:OutAt W3 w.heap.size (.slice none 0 0) (.slice none 0 0) (.slice none 0 0):=((l2.trans (l3.mono (by omega))).block w.heap.size (by omega)).trans o1;have hb3:Below w.heap.size w W3:=Cv.next l1 (Cv.next l2 l3);obtain⟨g0,g1,g2,gf⟩:=o3.get;have gf0:=gf 0;have gf1:=gf 1;have gf2:=gf 2;obtain⟨W4,hW4,o4,k4,b4⟩:=o3.three (.slice (some ⟨W1.heap.size,0,none⟩) 1 1) (.slice none 0 0) (.slice (some ⟨W2.heap.size,0,none⟩) n n);have i4:=((k4 59 (by decide)).same _ _ i3).trans i3
 have hi:InosAt (some w.heap.size) W4 (some ⟨W1.heap.size,0,none⟩) 1 [⟨1,true,[],txt []⟩]:=by
  refine⟨rfl,fun _=>⟨W1.heap.size,0,rfl,(Array.getElem?_eq_some_iff.1 i4).1,fun B hB=>?_,fun j x hx=>?_⟩⟩
  ·cases hB;exact⟨by omega,_,i4⟩
  ·have hj:j=0:=by have:=(List.getElem?_eq_some_iff.1 hx).1;simpa using this
   subst hj;have ex:(⟨1,true,[],txt []⟩:Ino)=x:=by simpa using hx
   subst ex;refine⟨?_,?_,⟨none,0,0,?_,⟨Nat.le_refl _,fun _=>rfl⟩,rfl,fun h=>absurd h (by omega)⟩,?_⟩<;>(rw[cell_of_row W4 W1.heap.size _ _ _ (0,0) i4];rfl)
 have hd:DescsAt (some w.heap.size) W4 none 0 []:=⟨rfl,fun h=>absurd h (by omega)⟩;have hm:IntsAt (some w.heap.size) W4 (some ⟨W2.heap.size,0,none⟩) n (List.replicate n 0):=(hints.keep (k4 _ (by decide))).mono (by omega)
 have hst:StAt (some w.heap.size) W4 (.agg #[.slice (some ⟨W1.heap.size,0,none⟩) 1 1,.slice none 0 0,.slice (some ⟨W2.heap.size,0,none⟩) n n]) (newV n):=by
  refine⟨⟨_,1,1,_,0,0,_,n,n,rfl,hi,hd,hm,⟨Nat.le_refl _,fun h=>by cases h⟩,⟨Nat.le_refl _,fun _=>rfl⟩,⟨Nat.le_refl _,fun h=>by cases h⟩⟩,⟨?_,?_,?_,?_⟩⟩
  ·show 1+bulkE [⟨1,true,[],txt []⟩]+0+(List.replicate n (0:Int)).length≤_;rw[List.length_replicate]
   show 1+0+0+n≤_;omega
  ·intro x hx;have ex:x=⟨1,true,[],txt []⟩:=by simpa [newV] using hx
   subst ex;exact⟨Nat.zero_le _,fun e he=>by cases he⟩
  ·intro x hx;have ex:x=⟨1,true,[],txt []⟩:=by simpa [newV] using hx
   subst ex;exact⟨by show(-9223372036854775808:Int)≤1;omega,by show(1:Int)≤9223372036854775807;omega,fun e he=>by cases he⟩
  ·intro x hx
   have ex:x=0:=by
    have:=List.mem_replicate.1 (show x∈List.replicate n (0:Int) from hx);exact this.2
   subst ex;omega
 have HST:=hid hst;have HB4:=hid (b4 _ _ (Nat.le_refl _) hb3);have HO4:=hid o4;obtain⟨t0,t1,t2,_⟩:=o4.get;clear hst hi hd hm i4 i3 i2 o1 o3 o4 k4 b4 l1 l2 l3 hb3 hints z1 z2 gf
 go_enter Tryz.func16,Tryz.ntmps16
 go_wp2_with fail
 (try simp only[Exit.inBlock,Exit.then])
 refine bodyPost_ret (v:=.tuple #[.agg #[.slice (some ⟨W1.heap.size,0,none⟩) 1 1,.slice none 0 0,.slice (some ⟨W2.heap.size,0,none⟩) n n],.int .i64 0]) ?_ rfl ⟨_,rfl,HST.out,HB4.out⟩;rw[results_cell_tmp rfl];have hload:=run_loadVar_row (P:=Tryz.prog) W4 w.heap.size _ 26 _ (0,0) _ HO4.out Tryz.underlying26 rfl (by kernel_rfl);simp[asAddr,hload,Result.andThen]
set_option maxRecDepth 100000 in
theorem zfh (n:Int) (h:n<1∨8<n) (w:World):
  Calls Tryz.prog 16 #[.int .i64 n] w fun e w'=>e=.returned (.tuple #[.agg #[.slice none 0 0,.slice none 0 0,.slice none 0 0],.int .i64 1300])∧Below w.heap.size w w':=by
 obtain⟨W1,hW1⟩:∃W1,w.alloc (.cells #[.slice none 0 0,.slice none 0 0,.slice none 0 0] 26)=W1:=⟨_,rfl⟩;have o1:OutAt W1 w.heap.size (.slice none 0 0) (.slice none 0 0) (.slice none 0 0):=by rw[←hW1];exact heap_alloc_new w _
 have l1:Below w.heap.size w W1:=by rw[←hW1];exact(Below.refl _ _).alloc (Nat.le_refl _) _
 obtain⟨g0,g1,g2,gf⟩:=o1.get;have gf0:=gf 0;have gf1:=gf 1;have gf2:=gf 2;obtain⟨W4,hW4,o4,k4,b4⟩:=o1.three (.slice none 0 0) (.slice none 0 0) (.slice none 0 0);have HB4:=hid (b4 _ _ (Nat.le_refl _) l1);have HO4:=hid o4;clear l1 o1 o4 k4 b4 gf
 by_cases h1:n<1
 ·have q1:decide (n<1)=true:=decide_eq_true h1;clear h h1
  go_enter Tryz.func16,Tryz.ntmps16
  go_wp2_with fail
  (try simp only[Exit.inBlock,Exit.then])
  refine bodyPost_ret (v:=.tuple #[.agg #[.slice none 0 0,.slice none 0 0,.slice none 0 0],.int .i64 1300]) ?_ rfl ⟨rfl,HB4.out⟩;rw[results_cell_tmp rfl];have hload:=run_loadVar_row (P:=Tryz.prog) W4 w.heap.size _ 26 _ (0,0) _ HO4.out Tryz.underlying26 rfl (by kernel_rfl);simp[asAddr,hload,Result.andThen]
 ·have q1:decide (n<1)=false:=decide_eq_false h1;have q2:decide (8<n)=true:=decide_eq_true (h.resolve_left h1);clear h h1
  go_enter Tryz.func16,Tryz.ntmps16
  go_wp2_with fail
  (try simp only[Exit.inBlock,Exit.then])
  refine bodyPost_ret (v:=.tuple #[.agg #[.slice none 0 0,.slice none 0 0,.slice none 0 0],.int .i64 1300]) ?_ rfl ⟨rfl,HB4.out⟩;rw[results_cell_tmp rfl];have hload:=run_loadVar_row (P:=Tryz.prog) W4 w.heap.size _ 26 _ (0,0) _ HO4.out Tryz.underlying26 rfl (by kernel_rfl);simp[asAddr,hload,Result.andThen]
set_option maxRecDepth 100000 in
theorem zlw (n:Int) (h:n<1∨8<n) (w:World):
  Calls Tryz.prog 17 #[.int .i64 n] w fun e w'=>e=.returned (.tuple #[.agg #[.slice none 0 0,.slice none 0 0,.slice none 0 0],.int .i64 1300])∧Below w.heap.size w w':=by
 obtain⟨W1,hW1⟩:∃W1,w.alloc (.cells #[.slice none 0 0,.slice none 0 0,.slice none 0 0] 26)=W1:=⟨_,rfl⟩;have o1:OutAt W1 w.heap.size (.slice none 0 0) (.slice none 0 0) (.slice none 0 0):=by rw[←hW1];exact heap_alloc_new w _
 have l1:Below w.heap.size w W1:=by rw[←hW1];exact(Below.refl _ _).alloc (Nat.le_refl _) _
 obtain⟨g0,g1,g2,gf⟩:=o1.get;have gf0:=gf 0;have gf1:=gf 1;have gf2:=gf 2;obtain⟨W4,hW4,o4,k4,b4⟩:=o1.three (.slice none 0 0) (.slice none 0 0) (.slice none 0 0);have HB4:=hid (b4 _ _ (Nat.le_refl _) l1);have HO4:=hid o4;clear l1 o1 o4 k4 b4 gf
 by_cases h1:n<1
 ·have q1:decide (n<1)=true:=decide_eq_true h1;clear h h1
  go_enter Tryz.func17,Tryz.ntmps17
  go_wp2_with fail
  (try simp only[Exit.inBlock,Exit.then])
  refine bodyPost_ret (v:=.tuple #[.agg #[.slice none 0 0,.slice none 0 0,.slice none 0 0],.int .i64 1300]) ?_ rfl ⟨rfl,HB4.out⟩;rw[results_cell_tmp rfl];have hload:=run_loadVar_row (P:=Tryz.prog) W4 w.heap.size _ 26 _ (0,0) _ HO4.out Tryz.underlying26 rfl (by kernel_rfl);simp[asAddr,hload,Result.andThen]
 ·have q1:decide (n<1)=false:=decide_eq_false h1;have q2:decide (8<n)=true:=decide_eq_true (h.resolve_left h1);clear h h1
  go_enter Tryz.func17,Tryz.ntmps17
  go_wp2_with fail
  (try simp only[Exit.inBlock,Exit.then])
  refine bodyPost_ret (v:=.tuple #[.agg #[.slice none 0 0,.slice none 0 0,.slice none 0 0],.int .i64 1300]) ?_ rfl ⟨rfl,HB4.out⟩;rw[results_cell_tmp rfl];have hload:=run_loadVar_row (P:=Tryz.prog) W4 w.heap.size _ 26 _ (0,0) _ HO4.out Tryz.underlying26 rfl (by kernel_rfl);simp[asAddr,hload,Result.andThen]
def cmpV (a b:ByteArray):Int:=Lib.compareBytes a.data.toList b.data.toList
theorem zj0:∀(a b:List UInt8),Lib.compareBytes a b<0↔ltB a b=true
 | [],[]=>by simp[Lib.compareBytes,ltB]
 | [],_::_=>by simp[Lib.compareBytes,ltB]
 | _::_,[]=>by simp[Lib.compareBytes,ltB]
 | a :: al, b :: bl => by
  unfold Lib.compareBytes ltB
  by_cases h1:a<b
  ·have:a≠b:=fun e=>by subst e;exact absurd h1 (UInt8.lt_irrefl _)
   rw[if_pos h1,if_neg this];simp[h1]
  ·rw[if_neg h1]
   by_cases h2:b<a
   ·have:a≠b:=fun e=>by subst e;exact absurd h2 (UInt8.lt_irrefl _)
    rw[if_pos h2,if_neg this];simp[h1]
   ·have:a=b:=UInt8.le_antisymm (UInt8.not_lt.1 h2) (UInt8.not_lt.1 h1);rw[if_neg h2,if_pos this];exact zj0 al bl
theorem zfi:∀(a b:List UInt8),Lib.compareBytes a b=0↔a=b
 | [],[]=>by simp[Lib.compareBytes]
 | [],_::_=>by simp[Lib.compareBytes]
 | _::_,[]=>by simp[Lib.compareBytes]
 | a :: al, b :: bl => by
  unfold Lib.compareBytes
  by_cases h1:a<b
  ·have:a≠b:=fun e=>by subst e;exact absurd h1 (UInt8.lt_irrefl _)
   rw[if_pos h1];simp[this]
  ·rw[if_neg h1]
   by_cases h2:b<a
   ·have:a≠b:=fun e=>by subst e;exact absurd h2 (UInt8.lt_irrefl _)
    rw[if_pos h2];simp[this]
   ·have:a=b:=UInt8.le_antisymm (UInt8.not_lt.1 h2) (UInt8.not_lt.1 h1);rw[if_neg h2,this,zfi al bl];simp
theorem zj1 (a b:ByteArray):cmpV a b<0↔ltN a b=true:=zj0 _ _
theorem zj2 (a b:ByteArray):cmpV a b=0↔a=b:=by
 unfold cmpV;rw[zfi]
 constructor
 ·intro h;cases a;cases b;exact congrArg ByteArray.mk (Array.toList_inj.1 h)
 ·intro h;rw[h]
theorem zcz:∀(a b c:List UInt8),ltB a b=true→ltB b c=true→ltB a c=true
 | [],[],_,h,_=>by simp[ltB] at h
 | [],_::_,[],_,h=>by simp[ltB] at h
 | [],_::_,_::_,_,_=>rfl
 | _::_,[],_,h,_=>by simp[ltB] at h
 | _::_,_::_,[],_,h=>by simp[ltB] at h
 | a :: al, b :: bl, c :: cl, h1, h2 => by
  unfold ltB at h1 h2 ⊢
  by_cases e1:a=b
  ·subst e1;rw[if_pos rfl] at h1
   by_cases e2:a=c
   ·subst e2;rw[if_pos rfl] at h2 ⊢;exact zcz al bl cl h1 h2
   ·rw[if_neg e2] at h2 ⊢;exact h2
  ·rw[if_neg e1,decide_eq_true_eq] at h1
   by_cases e2:b=c
   ·subst e2;rw[if_neg e1,decide_eq_true_eq];exact h1
   ·rw[if_neg e2,decide_eq_true_eq] at h2;have h3:=UInt8.lt_trans h1 h2;have e3:a≠c:=fun e=>by subst e;exact absurd h3 (UInt8.lt_irrefl _)
    rw[if_neg e3,decide_eq_true_eq];exact h3
theorem z4l {a b c:ByteArray} (h1:ltN a b=true) (h2:ltN b c=true):ltN a c=true:=zcz _ _ _ h1 h2
def RiseE (es:List En):Prop:=∀(i j:Nat) (x y:En),i<j→es[i]? =some x→es[j]? =some y→ltN x.name y.name=true
structure EnPos (es:List En) (nm:ByteArray) (i:Nat) (b:Bool):Prop where
 le:i≤es.length
 lo:∀(k:Nat) (x:En),k<i→es[k]? =some x→ltN x.name nm=true
 hi:∀(k:Nat) (x:En),i≤k→es[k]? =some x→ltN x.name nm=false
 is_:b=true→∃e,es[i]? =some e∧e.name=nm
 of_:(∃e,es[i]? =some e∧e.name=nm)→b=true
theorem zec (a b:ByteArray) (w:World):Calls Tryz.prog 143 #[.string a,.string b] w fun e w'=>e=.returned (.int .i64 (cmpV a b))∧w=w':=by
 have hx:∀w,(callFunc 158 #[.string a,.string b]).run Tryz.prog w=.ok (.value (.int .i64 (cmpV a b))) w:=fun w=>by
  rw[run_callFunc_extern Tryz.func158 (by kernel_rfl) (by kernel_rfl) (by kernel_rfl) (e:=Extern.BytealgCompare.compare) (by kernel_rfl),Lib.run_compareString]
  rfl
 go_enter Tryz.func143,Tryz.ntmps143
 go_wp2
 go_ret;exact⟨rfl,rfl⟩
theorem zfj (name:ByteArray) (num:Int) (nm:ByteArray) (w:World):
  Calls Tryz.prog 142 #[.agg #[.string name,.int .i64 num],.string nm] w fun e w'=>e=.returned (.int .i64 (cmpV name nm))∧Below w.heap.size w w':=by
 go_enter Tryz.func142,Tryz.ntmps142
 go_wp2_with fail;refine(zec name nm _).mono ?_;rintro e w1 ⟨rfl,rfl⟩;go_wp2_with fail;go_ret;exact⟨rfl,(Below.refl _ _).alloc (Nat.le_refl _) _⟩
set_option maxRecDepth 100000 in
set_option maxHeartbeats 4000000 in
theorem zd0 (es:List En) (A:Option Addr) (n c:Nat) (nm:ByteArray) (w:World) (hI:EntsAt none w A n es) (hn:n≤1099511627776) (hr:RiseE es):
  Calls Tryz.prog 141 #[.slice A n c,.string nm,.func (.func 142) #[] #[]] w fun e w'=>∃i b,e=.returned (.tuple #[.int .i64 (i:Nat),.bool b])∧Below w.heap.size w w'∧EnPos es nm i b:=by
 have HI:=hid hI
 go_enter Tryz.func141,Tryz.ntmps141
 clear hI;go_wp2_with fail
 go_loopw [9,10] (fun iv jv wr=>∃i j:Nat,iv=.int .i64 i∧jv=.int .i64 j∧i≤j∧j≤n∧(∀(k:Nat) (x:En),k<i→es[k]? =some x→ltN x.name nm=true)∧(∀(k:Nat) (x:En),j≤k→es[k]? =some x→ltN x.name nm=false)∧Below w.heap.size w wr) (fun iv jv _=>(intOf jv).toNat-(intOf iv).toNat)
 case atStart=>exact⟨0,n,rfl,rfl,by omega,by omega,fun k x hk=>by omega,fun k x hk hx=>by have:=(List.getElem?_eq_some_iff.1 hx).1;have:=HI.out.1;omega,Below.refl _ _⟩
 case round =>
  obtain⟨i,j,rfl,rfl,hij,hjn,hlo,hhi,hbel⟩:=hrel;have HB:=hid hbel;have HIr:=hid (HI.out.below hbel);have HLO:=hid hlo;have HHI:=hid hhi;clear hbel hlo hhi
  by_cases hlt:i<j
  ·obtain⟨h,hh⟩:∃h,(i+j) / 2=h:=⟨_,rfl⟩;have hh1:i≤h:=by omega
   have hh2:h<j:=by omega
   obtain⟨g,off,x,rfl,hg,hx,hd,hmem,c0,c1⟩:=HIr.out.get h (by omega);have HHH:=hid hh;have hx2:es[h]? =some x:=hx;have HX:=hid hx2;have HRR:=hid hr;have HHH2:Hid (h<j):=hid hh2;clear hx2;go_wp2_with fail;refine(zfj x.name x.num nm _).mono ?_;rintro e5 w5 ⟨rfl,hb5⟩;have e2:((i:Int)+(j:Int)) / 2=(h:Int):=by have:=HHH.out;omega
   rw[e2];have HB5:=hid (HB.out.trans (hb5.mono HB.out.size));clear hb5 c0 c1
   by_cases hc:ltN x.name nm=true
   ·have q1:decide (cmpV x.name nm<0)=true:=by rw[decide_eq_true_eq];exact(zj1 _ _).2 hc
    go_wp2_with fail;go_roundw
    case rel=>exact⟨h+1,j,by go_num,rfl,by omega,hjn,fun k y hk hy=>by
     by_cases e:k=h
     ·subst e;have:=HX.out;rw[hy] at this;cases this;exact hc
     ·exact z4l (HRR.out k h y x (by omega) hy HX.out) hc,HHI.out,HB5.out⟩
    case measure=>simp[intOf];omega
   ·have q1:decide (cmpV x.name nm<0)=false:=by rw[decide_eq_false_iff_not];exact fun h=>hc ((zj1 _ _).1 h)
    go_wp2_with fail;go_roundw
    case rel=>exact⟨i,h,rfl,rfl,hh1,by omega,HLO.out,fun k y hk hy=>by
     by_cases e:k=h
     ·subst e;have:=HX.out;rw[hy] at this;have e9:y=x:=Option.some.inj this;rw[e9];exact Bool.eq_false_iff.2 hc
     ·cases hv:ltN y.name nm
      ·rfl
      ·exact absurd (z4l (HRR.out h k x y (by omega) HX.out hy) hv) hc,HB5.out⟩
    case measure=>simp[intOf];omega
  ·have eij:j=i:=by omega
   subst eij
   by_cases hin:j<n
   ·obtain⟨g,off,x,rfl,hg,hx,hd,hmem,c0,c1⟩:=HIr.out.get j hin;have HX:=hid hx;have HRR:=hid hr;go_wp2_with fail;refine(zfj x.name x.num nm _).mono ?_;rintro e5 w5 ⟨rfl,hb5⟩;have HB5:=hid (HB.out.trans (hb5.mono HB.out.size));clear hb5 c0 c1
    by_cases hc:x.name=nm
    ·have q1:cmpV x.name nm=0:=(zj2 _ _).2 hc;rw[q1];clear q1;go_wp2_with fail;go_ret2;exact⟨j,true,rfl,HB5.out,by have:=HIr.out.1;omega,HLO.out,HHI.out,fun _=>⟨x,HX.out,hc⟩,fun _=>rfl⟩
    ·have q1:(cmpV x.name nm==0)=false:=by rw[beq_eq_false_iff_ne];exact fun h=>hc ((zj2 _ _).1 h)
     go_wp2_with fail;go_ret2;refine⟨j,false,rfl,HB5.out,by have:=HIr.out.1;omega,HLO.out,HHI.out,(fun h=>by cases h),fun h=>?_⟩;obtain⟨e,he,hen⟩:=h;rw[HX.out] at he;cases he;exact absurd hen hc
   ·have q1:decide ((j:Int)<(n:Int))=false:=by rw[decide_eq_false_iff_not];omega
    clear hlt;go_wp2_with fail;go_ret2;refine⟨j,false,rfl,HB.out,by have:=HIr.out.1;omega,HLO.out,HHI.out,(fun h=>by cases h),fun h=>?_⟩;obtain⟨e,he,_⟩:=h;have h1:=(List.getElem?_eq_some_iff.1 he).1;have h2:=HIr.out.1;omega
theorem z2f (es:List En) (A:Option Addr) (n c:Nat) (nm:ByteArray) (w:World) (hI:EntsAt none w A n es) (hn:n≤1099511627776) (hr:RiseE es):
  Calls Tryz.prog 102 #[.slice A n c,.string nm] w fun e w'=>∃i b,e=.returned (.tuple #[.int .i64 (i:Nat),.bool b])∧Below w.heap.size w w'∧EnPos es nm i b:=by
 go_enter Tryz.func102,Tryz.ntmps102
 go_wp2_with fail;refine(zd0 es A n c nm _ hI hn hr).mono ?_;rintro e w1 ⟨i,b,rfl,hb,hp⟩;go_wp2_with fail;go_ret2;exact⟨i,b,rfl,hb,hp⟩
end Go.Proofs.YtmmpkfcdfcldlaaGreat
