/- Parts of the proof, side by side: SameRes, GdN, GdDo, AllowsP, AllowsC. -/
import Derived.Test.YtmmpkfcdfcldlaaGreatM40
import Derived.Test.YtmmpkfcdfcldlaaGreatFsEqual
import Derived.Test.YtmmpkfcdfcldlaaGreatM36
import Derived.Test.YtmmpkfcdfcldlaaGreatM30
import Derived.Test.YtmmpkfcdfcldlaaGreatM28
import Derived.Test.YtmmpkfcdfcldlaaGreatM19
set_option linter.unusedVariables false
set_option linter.unusedSimpArgs false
namespace Go.Proofs.YtmmpkfcdfcldlaaGreat
open Lib (hid)
open Go.RowKit
def sameF (a b:Re):Bool:=decide (a.code=b.code)&&decide (a.fd=b.fd)&&decide (a.num=b.num)&&decide (a.dir=b.dir)&&decide (a.data=b.data)
def sameR (a b:Re):Bool:=decide (a.names=b.names)&&sameF a b
theorem z6g {a b:Re} (h:sameR a b=true):a=b:=by
 unfold sameR sameF at h;simp only[Bool.and_eq_true,decide_eq_true_eq] at h;obtain⟨h1,⟨⟨⟨h2,h3⟩,h4⟩,h5⟩,h6⟩:=h;cases a;cases b;simp only at h1 h2 h3 h4 h5 h6;subst h1 h2 h3 h4 h5 h6
 rfl
theorem z9n {a b:ByteArray} (h:a≠b):(a.toList != b.toList)=true:=by unfold bne;rw[z1d h];rfl
theorem zfk {w:World} {A:Option Addr} {n:Nat} {ts:List ByteArray} (h:NmsAt none w A n ts) (k:Nat) (hk:k<n):∃(g off:Nat) (hl:k<ts.length),A=some ⟨g,off,.none⟩∧g<w.heap.size∧w.cell? ⟨g,off+k,.none⟩=some (Value.string ts[k]):=by
 obtain⟨g,off,h1,h2,_,h3⟩:=h.2 (by omega);have hl:k<ts.length:=by have:=h.1;omega
 exact⟨g,off,hl,h1,h2,h3 k _ (List.getElem?_eq_getElem hl)⟩
theorem zai {ts us:List ByteArray} {k:Nat} (h1:k<ts.length) (h2:k<us.length) (h:ts.take k=us.take k) (e:ts[k]=us[k]):ts.take (k+1)=us.take (k+1):=by
 rw[List.take_succ_eq_append_getElem h1,List.take_succ_eq_append_getElem h2,h,e]
theorem zcw {ts us:List ByteArray} {n:Nat} (h1:ts.length=n) (h2:us.length=n) (h:ts.take n=us.take n):ts=us:=by
 rw[List.take_of_length_le (by omega),List.take_of_length_le (by omega)] at h;exact h
theorem zaj {ts us:List ByteArray} {k:Nat} (h1:k<ts.length) (h2:k<us.length) (e:ts[k]≠us[k]):ts≠us:=fun h=>by subst h;exact e rfl
theorem ziv (w:World) (a b:Re) (A:Option Addr) (n c:Nat) (B:Option Addr) (m d:Nat):∃W,(w.alloc (.cells #[.int .i64 a.code,.int .i64 a.fd,.int .i64 a.num,.bool a.dir,.string a.data,.slice A n c] 32)).alloc (.cells #[.int .i64 b.code,.int .i64 b.fd,.int .i64 b.num,.bool b.dir,.string b.data,.slice B m d] 32)=W∧
  ResAt W w.heap.size (.int .i64 a.code) (.int .i64 a.fd) (.int .i64 a.num) (.bool a.dir) (.string a.data) (.slice A n c)∧ResAt W (w.heap.size+1) (.int .i64 b.code) (.int .i64 b.fd) (.int .i64 b.num) (.bool b.dir) (.string b.data) (.slice B m d)∧Below w.heap.size w W∧W.heap.size=w.heap.size+2:=by
 obtain⟨W1,hW1⟩:∃W1,w.alloc (.cells #[.int .i64 a.code,.int .i64 a.fd,.int .i64 a.num,.bool a.dir,.string a.data,.slice A n c] 32)=W1:=⟨_,rfl⟩;have h1:ResAt W1 w.heap.size (.int .i64 a.code) (.int .i64 a.fd) (.int .i64 a.num) (.bool a.dir) (.string a.data) (.slice A n c):=by rw[←hW1];exact heap_alloc_new w _
 have l1:Below w.heap.size w W1:=by rw[←hW1];exact(Below.refl _ _).alloc (Nat.le_refl _) _
 have z1:W1.heap.size=w.heap.size+1:=by rw[←hW1];simp
 obtain⟨W2,hW2⟩:∃W2,W1.alloc (.cells #[.int .i64 b.code,.int .i64 b.fd,.int .i64 b.num,.bool b.dir,.string b.data,.slice B m d] 32)=W2:=⟨_,rfl⟩;have h2:ResAt W2 W1.heap.size (.int .i64 b.code) (.int .i64 b.fd) (.int .i64 b.num) (.bool b.dir) (.string b.data) (.slice B m d):=by rw[←hW2];exact heap_alloc_new W1 _
 have l2:Below W1.heap.size W1 W2:=by rw[←hW2];exact(Below.refl _ _).alloc (Nat.le_refl _) _
 have z2:W2.heap.size=W1.heap.size+1:=by rw[←hW2];simp
 refine⟨W2,by rw[hW1,hW2],(l2.block w.heap.size (by omega)).trans h1,by rw[←z1];exact h2,Cv.next l1 l2,by omega⟩
set_option maxHeartbeats 2000000 in
theorem ziw (A B:Option Addr) (n m c d:Nat) (ts us:List ByteArray) (w:World) (ha:NmsAt none w A n ts) (hb:NmsAt none w B m us) (hn:n≤1099511627776) (hm:m≤1099511627776):
  Calls Tryz.prog 98 #[.slice A n c,.slice B m d] w fun e w'=>e=.returned (.bool (decide (ts=us)))∧Below w.heap.size w w':=by
 obtain⟨R,hR⟩:∃R,decide (ts=us)=R:=⟨_,rfl⟩;rw[hR];have HR:=hid hR;have HA:=hid ha;have HB:=hid hb;have HL1:=hid ha.1;have HL2:=hid hb.1;clear hR ha hb
 by_cases hnm:n=m
 ·subst hnm
  go_enter Tryz.func98,Tryz.ntmps98
  go_wp2_with fail
  go_loopw [13] (fun i wr=>∃(k q:Nat),k≤n∧i=.int .i64 k∧wr=w.drewN q∧ts.take k=us.take k) (fun i _=>n-(intOf i).toNat)
  case atStart=>exact⟨0,0,by omega,rfl,rfl,rfl⟩
  case round=>
   obtain⟨k,q,hk,rfl,rfl,htk⟩:=hrel;have Htk:=hid htk;clear htk
   by_cases hlt:k<n
   ·obtain⟨g1,o1,hl1,rfl,hg1,c1⟩:=zfk HA.out k hlt;obtain⟨g2,o2,hl2,rfl,hg2,c2⟩:=zfk HB.out k hlt;obtain⟨a,ea⟩:∃a,ts[k]=a:=⟨_,rfl⟩;obtain⟨b,eb⟩:∃b,us[k]=b:=⟨_,rfl⟩;rw[ea] at c1;rw[eb] at c2;have hkn:(k:Int)<(n:Int):=by omega
    have hk0:(0:Int)≤(k:Int):=by omega
    have Ea:=hid ea;have Eb:=hid eb;clear ea eb
    by_cases hab:a=b
    ·subst hab;go_wp2_with fail;go_quiet (fail);go_wp2_with fail;go_roundw
     case rel=>exact⟨k+1,_,by omega,by go_num,rfl,zai hl1 hl2 Htk.out (by rw[Ea.out,Eb.out])⟩
     case measure=>simp[intOf];omega
    ·have qab:=z1d hab;have qab2:=z9n hab;have HAB:=hid hab;clear hab;go_wp2_with fail;go_quiet (fail);go_wp2_with fail;go_ret;exact⟨Cv.ret_bool (by rw[←HR.out];symm;rw[decide_eq_false_iff_not];exact zaj hl1 hl2 (by rw[Ea.out,Eb.out];exact HAB.out)),Cv.drewN_below (Cv.drewN_below (Below.refl _ _) _) _⟩
   ·have hkn:k=n:=by omega
    subst hkn;have q9:decide ((k:Int)<(k:Int))=false:=by rw[decide_eq_false_iff_not];omega
    go_wp2_with fail;go_ret;exact⟨Cv.ret_bool (by rw[←HR.out];symm;rw[decide_eq_true_eq];exact zcw HL1.out HL2.out Htk.out),Cv.drewN_below (Below.refl _ _) _⟩
 ·have qn:((n:Int) != (m:Int))=true:=by rw[bne_iff_ne];omega
  have qn2:(n != m)=true:=by rw[bne_iff_ne];exact hnm
  go_enter Tryz.func98,Tryz.ntmps98
  go_wp2_with fail;go_ret;exact⟨Cv.ret_bool (by rw[←HR.out];symm;rw[decide_eq_false_iff_not];intro h;have h1:=HL1.out;have h2:=HL2.out;rw[h] at h1;omega),Below.refl _ _⟩
set_option maxRecDepth 100000 in
set_option maxHeartbeats 8000000 in
theorem z9u (v u:Value) (a b:Re) (w:World) (h1:ResIs none w v a) (h2:ResIs none w u b) (hn1:a.names.length≤1099511627776) (hn2:b.names.length≤1099511627776):
  Calls Tryz.prog 10 #[v,u] w fun e w'=>e=.returned (.bool (sameR a b))∧Below w.heap.size w w':=by
 obtain⟨A,n,c,rfl,_,hA⟩:=h1;obtain⟨B,m,d,rfl,_,hB⟩:=h2;obtain⟨W,hW,r1,r2,hal,hz⟩:=ziv w a b A n c B m d;obtain⟨x0,x1,x2,x3,x4,x5,_⟩:=r1.get;obtain⟨y0,y1,y2,y3,y4,y5,_⟩:=r2.get;have hna:n≤1099511627776:=by have:=hA.1;omega
 have hnb:m≤1099511627776:=by have:=hB.1;omega
 have HA:=hid (hA.below hal);have HB:=hid (hB.below hal);have HLA:=hid hA.1;have HLB:=hid hB.1;have HAL:=hid hal;have g1:=r1.lt;have g2:=r2.lt;have h12:w.heap.size≠w.heap.size+1:=by omega
 obtain⟨NQ,hNQ⟩:∃NQ,decide (a.names=b.names)=NQ:=⟨_,rfl⟩;obtain⟨R,hR⟩:∃R,sameR a b=R:=⟨_,rfl⟩;rw[hR];have HS:=hid (show R=(NQ&&sameF a b) by rw[←hNQ,←hR];rfl);have HNQ:=hid hNQ;clear hA hB hal r1 r2 hn1 hn2 hNQ hR
 by_cases hnm:n=m
 ·subst hnm
  go_enter Tryz.func10,Tryz.ntmps10
  go_wp2_with fail;clear hW
  go_loopw [5] (fun i wr=>∃(k q:Nat),k≤n∧i=.int .i64 k∧wr=W.drewN q∧a.names.take k=b.names.take k) (fun i _=>n-(intOf i).toNat)
  case atStart=>exact⟨0,0,by omega,rfl,rfl,rfl⟩
  case round=>
   obtain⟨k,q,hk,rfl,rfl,htk⟩:=hrel;have Htk:=hid htk;clear htk
   by_cases hlt:k<n
   ·obtain⟨g1,o1,hl1,rfl,hg1,c1⟩:=zfk HA.out k hlt;obtain⟨g2,o2,hl2,rfl,hg2,c2⟩:=zfk HB.out k hlt;obtain⟨s,ea⟩:∃s,a.names[k]=s:=⟨_,rfl⟩;obtain⟨t,eb⟩:∃t,b.names[k]=t:=⟨_,rfl⟩;rw[ea] at c1;rw[eb] at c2;have hkn:(k:Int)<(n:Int):=by omega
    have hk0:(0:Int)≤(k:Int):=by omega
    have Ea:=hid ea;have Eb:=hid eb;clear ea eb
    by_cases hab:s=t
    ·subst hab;go_wp2_with fail;go_quiet (fail);go_wp2_with fail;go_roundw
     case rel=>exact⟨k+1,_,by omega,by go_num,rfl,zai hl1 hl2 Htk.out (by rw[Ea.out,Eb.out])⟩
     case measure=>simp[intOf];omega
    ·have qab:=z1d hab;have qab2:=z9n hab;have hf:false=R:=by rw[HS.out,←HNQ.out,decide_eq_false (zaj hl1 hl2 (by rw[Ea.out,Eb.out];exact hab))];rfl
     have HFR:=hid hf;clear hab hf;go_wp2_with fail;go_quiet (fail);go_wp2_with fail;go_ret;exact⟨Cv.ret_bool HFR.out,Cv.next HAL.out (Cv.drewN_below (Cv.drewN_below (Below.refl _ _) _) _)⟩
   ·have hkn:k=n:=by omega
    subst hkn;have q9:decide ((k:Int)<(k:Int))=false:=by rw[decide_eq_false_iff_not];omega
    have hs:sameF a b=R:=by rw[HS.out,←HNQ.out,decide_eq_true (zcw HLA.out HLB.out Htk.out)];rfl
    have HSR:=hid hs;clear hs
    by_cases h_code:a.code=b.code
    rotate_left
    ·have HF:=hid (show sameF a b=false by simp[sameF,h_code]);have q_code:(a.code==b.code)=false:=by rw[beq_eq_false_iff_ne];exact h_code
     clear h_code;go_wp2_with fail;go_ret;exact⟨Cv.ret_bool (by rw[←HSR.out,HF.out]),Cv.next HAL.out (Cv.drewN_below (Below.refl _ _) _)⟩
    have q_code:(a.code==b.code)=true:=by rw[beq_iff_eq];exact h_code
    by_cases h_fd:a.fd=b.fd
    rotate_left
    ·have HF:=hid (show sameF a b=false by simp[sameF,h_fd]);have q_fd:(a.fd==b.fd)=false:=by rw[beq_eq_false_iff_ne];exact h_fd
     clear h_code h_fd;go_wp2_with fail;go_ret;exact⟨Cv.ret_bool (by rw[←HSR.out,HF.out]),Cv.next HAL.out (Cv.drewN_below (Below.refl _ _) _)⟩
    have q_fd:(a.fd==b.fd)=true:=by rw[beq_iff_eq];exact h_fd
    by_cases h_num:a.num=b.num
    rotate_left
    ·have HF:=hid (show sameF a b=false by simp[sameF,h_num]);have q_num:(a.num==b.num)=false:=by rw[beq_eq_false_iff_ne];exact h_num
     clear h_code h_fd h_num;go_wp2_with fail;go_ret;exact⟨Cv.ret_bool (by rw[←HSR.out,HF.out]),Cv.next HAL.out (Cv.drewN_below (Below.refl _ _) _)⟩
    have q_num:(a.num==b.num)=true:=by rw[beq_iff_eq];exact h_num
    by_cases h_dir:a.dir=b.dir
    rotate_left
    ·have HF:=hid (show sameF a b=false by simp[sameF,h_dir]);have q_dir:(a.dir==b.dir)=false:=by rw[beq_eq_false_iff_ne];exact h_dir
     clear h_code h_fd h_num h_dir;go_wp2_with fail;go_ret;exact⟨Cv.ret_bool (by rw[←HSR.out,HF.out]),Cv.next HAL.out (Cv.drewN_below (Below.refl _ _) _)⟩
    have q_dir:(a.dir==b.dir)=true:=by rw[beq_iff_eq];exact h_dir
    by_cases h_data:a.data=b.data
    rotate_left
    ·have HF:=hid (show sameF a b=false by simp[sameF,h_data]);have q_data:=z1d h_data;clear h_code h_fd h_num h_dir h_data;go_wp2_with fail;go_ret;exact⟨Cv.ret_bool (by rw[←HSR.out,HF.out]),Cv.next HAL.out (Cv.drewN_below (Below.refl _ _) _)⟩
    have q_data:=z2g h_data;have HF:=hid (show sameF a b=true by simp[sameF,h_code,h_fd,h_num,h_dir,h_data]);clear h_code h_fd h_num h_dir h_data;go_wp2_with fail;go_ret;exact⟨Cv.ret_bool (by rw[←HSR.out,HF.out]),Cv.next HAL.out (Cv.drewN_below (Below.refl _ _) _)⟩
 ·have qn:((n:Int) != (m:Int))=true:=by rw[bne_iff_ne];omega
  have qn2:(n != m)=true:=by rw[bne_iff_ne];exact hnm
  have hf:false=R:=by rw[HS.out,←HNQ.out,decide_eq_false (fun h=>by have h1:=HLA.out;have h2:=HLB.out;rw[h] at h1;omega)];rfl
  have HFR:=hid hf;clear hf
  go_enter Tryz.func10,Tryz.ntmps10
  go_wp2_with fail;go_ret;exact⟨Cv.ret_bool HFR.out,HAL.out⟩
set_option maxRecDepth 100000 in
set_option maxHeartbeats 8000000 in
theorem zix (v u:Value) (a b:Re) (w:World) (h1:ResIs none w v a) (h2:ResIs none w u b) (hn1:a.names.length≤1099511627776) (hn2:b.names.length≤1099511627776):
  Calls Tryz.prog 49 #[v,u] w fun e w'=>e=.returned (.bool (sameR a b))∧Below w.heap.size w w':=by
 obtain⟨A,n,c,rfl,_,hA⟩:=h1;obtain⟨B,m,d,rfl,_,hB⟩:=h2;obtain⟨W,hW,r1,r2,hal,hz⟩:=ziv w a b A n c B m d;obtain⟨x0,x1,x2,x3,x4,x5,_⟩:=r1.get;obtain⟨y0,y1,y2,y3,y4,y5,_⟩:=r2.get;have hna:n≤1099511627776:=by have:=hA.1;omega
 have hnb:m≤1099511627776:=by have:=hB.1;omega
 have HA:=hid (hA.below hal);have HB:=hid (hB.below hal);have HLA:=hid hA.1;have HLB:=hid hB.1;have HAL:=hid hal;have g1:=r1.lt;have g2:=r2.lt;have h12:w.heap.size≠w.heap.size+1:=by omega
 obtain⟨NQ,hNQ⟩:∃NQ,decide (a.names=b.names)=NQ:=⟨_,rfl⟩;obtain⟨R,hR⟩:∃R,sameR a b=R:=⟨_,rfl⟩;rw[hR];have HS:=hid (show R=(NQ&&sameF a b) by rw[←hNQ,←hR];rfl);have HNQ:=hid hNQ;clear hA hB hal r1 r2 hn1 hn2 hNQ hR
 have heq:Calls Tryz.prog 98 #[.slice A n c,.slice B m d] W fun e w'=>e=.returned (.bool NQ)∧Below W.heap.size W w':=by
  have h:=ziw A B n m c d a.names b.names W HA.out HB.out hna hnb;rw[HNQ.out] at h;exact h
 have HEQ:=hid heq;clear heq
 by_cases h_code:a.code=b.code
 rotate_left
 ·have HF:=hid (show sameF a b=false by simp[sameF,h_code]);have q_code:(a.code==b.code)=false:=by rw[beq_eq_false_iff_ne];exact h_code
  clear h_code;have hs:R=false:=by rw[HS.out,HF.out];cases NQ<;>rfl
  rw[hs];clear hs
  go_enter Tryz.func49,Tryz.ntmps49
  go_wp2_with fail;go_ret;exact⟨rfl,HAL.out⟩
 have q_code:(a.code==b.code)=true:=by rw[beq_iff_eq];exact h_code
 by_cases h_fd:a.fd=b.fd
 rotate_left
 ·have HF:=hid (show sameF a b=false by simp[sameF,h_fd]);have q_fd:(a.fd==b.fd)=false:=by rw[beq_eq_false_iff_ne];exact h_fd
  clear h_code h_fd;have hs:R=false:=by rw[HS.out,HF.out];cases NQ<;>rfl
  rw[hs];clear hs
  go_enter Tryz.func49,Tryz.ntmps49
  go_wp2_with fail;go_ret;exact⟨rfl,HAL.out⟩
 have q_fd:(a.fd==b.fd)=true:=by rw[beq_iff_eq];exact h_fd
 by_cases h_num:a.num=b.num
 rotate_left
 ·have HF:=hid (show sameF a b=false by simp[sameF,h_num]);have q_num:(a.num==b.num)=false:=by rw[beq_eq_false_iff_ne];exact h_num
  clear h_code h_fd h_num;have hs:R=false:=by rw[HS.out,HF.out];cases NQ<;>rfl
  rw[hs];clear hs
  go_enter Tryz.func49,Tryz.ntmps49
  go_wp2_with fail;go_ret;exact⟨rfl,HAL.out⟩
 have q_num:(a.num==b.num)=true:=by rw[beq_iff_eq];exact h_num
 by_cases h_dir:a.dir=b.dir
 rotate_left
 ·have HF:=hid (show sameF a b=false by simp[sameF,h_dir]);have q_dir:(a.dir==b.dir)=false:=by rw[beq_eq_false_iff_ne];exact h_dir
  clear h_code h_fd h_num h_dir;have hs:R=false:=by rw[HS.out,HF.out];cases NQ<;>rfl
  rw[hs];clear hs
  go_enter Tryz.func49,Tryz.ntmps49
  go_wp2_with fail;go_ret;exact⟨rfl,HAL.out⟩
 have q_dir:(a.dir==b.dir)=true:=by rw[beq_iff_eq];exact h_dir
 by_cases h_data:a.data=b.data
 rotate_left
 ·have HF:=hid (show sameF a b=false by simp[sameF,h_data]);have q_data:=z1d h_data;clear h_code h_fd h_num h_dir h_data;have hs:R=false:=by rw[HS.out,HF.out];cases NQ<;>rfl
  rw[hs];clear hs
  go_enter Tryz.func49,Tryz.ntmps49
  go_wp2_with fail;go_ret;exact⟨rfl,HAL.out⟩
 have q_data:=z2g h_data;have HF:=hid (show sameF a b=true by simp[sameF,h_code,h_fd,h_num,h_dir,h_data]);clear h_code h_fd h_num h_dir h_data;have hs:R=NQ:=by rw[HS.out,HF.out];cases NQ<;>rfl
 rw[hs];clear hs
 go_enter Tryz.func49,Tryz.ntmps49
 go_wp2_with fail;refine HEQ.out.mono ?_;rintro e5 w5 ⟨rfl,hb5⟩;have HB5:=hid (Cv.next HAL.out hb5);clear hb5;go_wp2_with fail;go_ret;exact⟨rfl,HB5.out⟩
end Go.Proofs.YtmmpkfcdfcldlaaGreat
namespace Go.Proofs.YtmmpkfcdfcldlaaGreat
open Lib (hid)
theorem zcx {made:List Int} {n:Int} (h:givenV made n=true):2≤n:=by
 unfold givenV at h
 by_cases h2:n<2
 ·rw[if_pos h2] at h;cases h
 ·omega
theorem z9o (ds:List Ds) (core:Int) (h:freeFd ds core≠4):fdV ds core (freeFd ds core:Int)=0∧freeFd ds core<4:=by
 unfold freeFd at h ⊢
 by_cases h0:fdV ds core 0=0
 ·rw[if_pos h0];exact⟨h0,by omega⟩
 ·rw[if_neg h0] at h ⊢
  by_cases h1:fdV ds core 1=0
  ·rw[if_pos h1];exact⟨h1,by omega⟩
  ·rw[if_neg h1] at h ⊢
   by_cases h2:fdV ds core 2=0
   ·rw[if_pos h2];exact⟨h2,by omega⟩
   ·rw[if_neg h2] at h ⊢
    by_cases h3:fdV ds core 3=0
    ·rw[if_pos h3];exact⟨h3,by omega⟩
    ·rw[if_neg h3] at h;exact absurd rfl h
def wantV (c:Ca) (r:Re):Int:=if c.kind=2∧r.code=0 then r.fd else -1
def allowsV (s:St) (c:Ca) (r:Re):St×Bool:=
 if c.kind=2∧r.code=0∧r.fd<0 then(s,false)
 else if(doF s c (wantV c r)).2.2=false∨sameR (doF s c (wantV c r)).2.1 r=false then(s,false)
 else((doF s c (wantV c r)).1,true)
def refuse (s:St) (c:Ca) (r:Re):Bool:=(fdP s.opn c.core r.fd).isSome||decide (r.fd<0)||decide (4≤r.fd)||decide (r.code≠0)||decide (r.num≠0)||r.dir||decide (r.data≠⟨#[]⟩)||decide (0<r.names.length)
theorem zfl {s:St} (h:Good s) (core fd:Int):fdP s.opn core fd=none↔fdV s.opn core fd=0:=by
 constructor
 ·intro h1;exact(zbe _ _ _ h1).1
 ·intro h1;cases hp:fdP s.opn core fd with
  | none=>rfl
  | some k=>
   exfalso;obtain⟨d,hd,hc,hf,_⟩:=z7y _ _ _ _ hp;refine zbi s.opn core fd (fun x hx=>?_) ⟨d,List.mem_of_getElem? hd,hc,hf⟩ h1;obtain⟨_,_,_,_,i,w,_,hw,hwn,_⟩:=h.opens x hx
   rcases Nat.eq_zero_or_pos i with rfl|hi
   ·obtain⟨y,hy,hyn,_⟩:=h.root;rw[hw] at hy;cases hy;omega
   ·have:=zcx (h.given i w hi hw);omega
theorem zcy {s:St} {c:Ca} {r:Re} (h:c.kind≠2∨(doV s c).2.code≠0∨r.fd=(doV s c).2.fd):allowsV s c r=if sameR (doV s c).2 r then((doV s c).1,true) else(s,false):=by
 unfold allowsV
 by_cases hk:c.kind=2
 rotate_left
 ·have hw:wantV c r=-1:=by unfold wantV;rw[if_neg (fun h=>hk h.1)]
  have hok:∀want,(doF s c want).2.2=true:=fun want=>by
   unfold doF
   repeat' (first|rfl|(exact absurd (by assumption) hk)|split)
  rw[if_neg (fun h=>hk h.1),hw,hok]
  show(if true=false∨sameR (doV s c).2 r=false then _ else _)=_;cases sameR (doV s c).2 r<;>simp[doV]
 by_cases hm:mayV s=false∨c.core<0∨(s.made.length:Int)≤c.core∨c.kind<0∨16<c.kind
 ·have hd:∀want,doF s c want=(s,{ code:=9 },true):=fun want=>by unfold doF;rw[if_pos hm]
  have hv:doV s c=(s,{ code:=9 }):=by unfold doV;rw[hd]
  rw[hv,hd]
  by_cases h3:c.kind=2∧r.code=0∧r.fd<0
  ·rw[if_pos h3]
   have:sameR { code:=9 } r=false:=by
    cases hs:sameR { code:=9 } r
    ·rfl
    ·have:=z6g hs;rw[←this] at h3;exact absurd h3.2.1 (by decide)
   rw[this]
   rfl
  ·rw[if_neg h3];cases sameR { code:=9 } r<;>simp
 have hd:∀want,doF s c want=openedV s c want:=fun want=>by
  unfold doF;rw[if_neg hm,if_neg (by omega),if_pos hk]
 have hv:doV s c=((openedV s c (-1)).1,(openedV s c (-1)).2.1):=by unfold doV;rw[hd]
 rw[hv] at h ⊢;rw[hd]
 by_cases hf1:(findV s.inos c.path).2≠0
 ·have ho:∀want,openedV s c want=(s,{ code:=(findV s.inos c.path).2 },true):=fun want=>by unfold openedV;rw[if_pos hf1]
  rw[ho,ho]
  by_cases h3:c.kind=2∧r.code=0∧r.fd<0
  ·rw[if_pos h3]
   have:sameR { code:=(findV s.inos c.path).2 } r=false:=by
    cases hs:sameR { code:=(findV s.inos c.path).2 } r
    ·rfl
    ·have:=z6g hs;rw[←this] at h3;exact absurd h3.2.1 hf1
   rw[this]
   rfl
  ·rw[if_neg h3];cases sameR { code:=(findV s.inos c.path).2 } r<;>simp
 by_cases hf2:dirAt s.inos (findV s.inos c.path).1=true
 ·have ho:∀want,openedV s c want=(s,{ code:=8 },true):=fun want=>by unfold openedV;rw[if_neg hf1,if_pos hf2]
  rw[ho,ho]
  by_cases h3:c.kind=2∧r.code=0∧r.fd<0
  ·rw[if_pos h3]
   have:sameR { code:=8 } r=false:=by
    cases hs:sameR { code:=8 } r
    ·rfl
    ·have:=z6g hs;rw[←this] at h3;exact absurd h3.2.1 (by decide)
   rw[this]
   rfl
  ·rw[if_neg h3];cases sameR { code:=8 } r<;>simp
 by_cases hf3:freeFd s.opn c.core=4
 ·have ho:∀want,openedV s c want=(s,{ code:=10 },true):=fun want=>by unfold openedV;rw[if_neg hf1,if_neg hf2,if_pos hf3]
  rw[ho,ho]
  by_cases h3:c.kind=2∧r.code=0∧r.fd<0
  ·rw[if_pos h3]
   have:sameR { code:=10 } r=false:=by
    cases hs:sameR { code:=10 } r
    ·rfl
    ·have:=z6g hs;rw[←this] at h3;exact absurd h3.2.1 (by decide)
   rw[this]
   rfl
  ·rw[if_neg h3];cases sameR { code:=10 } r<;>simp
 obtain⟨hfree,hlt⟩:=z9o _ _ hf3
 have ho1:openedV s c (-1)=({ s with opn:=putD s.opn ⟨c.core,freeFd s.opn c.core,(findV s.inos c.path).1⟩ },{ fd:=freeFd s.opn c.core },true):=by
  unfold openedV;rw[if_neg hf1,if_neg hf2,if_neg hf3,if_neg (by omega)]
 rw[ho1] at h ⊢
 have hfd:r.fd=(freeFd s.opn c.core:Int):=by
  rcases h with h|h|h
  ·exact absurd hk h
  ·exact absurd rfl h
  ·exact h
 rw[if_neg (by omega)]
 by_cases hrc:r.code=0
 ·rw[show wantV c r=(freeFd s.opn c.core:Int) by unfold wantV;rw[if_pos ⟨hk,hrc⟩,hfd]]
  have ho2:openedV s c (freeFd s.opn c.core:Int)=({ s with opn:=putD s.opn ⟨c.core,freeFd s.opn c.core,(findV s.inos c.path).1⟩ },{ fd:=freeFd s.opn c.core },true):=by
   unfold openedV;rw[if_neg hf1,if_neg hf2,if_neg hf3,if_pos (by omega),if_neg (by rw[hfree];omega)]
  rw[ho2];simp only;cases hsr:sameR { fd:=(freeFd s.opn c.core:Int) } r<;>simp
 ·rw[show wantV c r=-1 by unfold wantV;rw[if_neg (fun h=>hrc h.2)],ho1];simp only;cases hsr:sameR { fd:=(freeFd s.opn c.core:Int) } r<;>simp
theorem z7l {s:St} {c:Ca} {r:Re} (hk:c.kind=2) (h0:(doV s c).2.code=0) (hne:r.fd≠(doV s c).2.fd):
  Good s∧0≤c.core∧c.core<(s.made.length:Int)∧∃num,(doV s c)=({ s with opn:=putD s.opn ⟨c.core,(doV s c).2.fd,num⟩ },{ fd:=(doV s c).2.fd })∧fdV s.opn c.core (doV s c).2.fd=0∧0≤(doV s c).2.fd∧(doV s c).2.fd<4∧
   allowsV s c r=if refuse s c r=true then(s,false) else({ s with opn:=putD s.opn ⟨c.core,r.fd,num⟩ },true):=by
 by_cases hm:mayV s=false∨c.core<0∨(s.made.length:Int)≤c.core∨c.kind<0∨16<c.kind
 ·have hv:doV s c=(s,{ code:=9 }):=by unfold doV doF;rw[if_pos hm]
  rw[hv] at h0;exact absurd (show(9:Int)=0 from h0) (by decide)
 have hd:∀want,doF s c want=openedV s c want:=fun want=>by
  unfold doF;rw[if_neg hm,if_neg (by omega),if_pos hk]
 have hv:doV s c=((openedV s c (-1)).1,(openedV s c (-1)).2.1):=by unfold doV;rw[hd]
 have hgood:Good s:=by
  rw[←z1o];cases hmv:mayV s
  ·exact absurd (.inl hmv) hm
  ·rfl
 rw[hv] at h0 hne ⊢
 by_cases hf1:(findV s.inos c.path).2≠0
 ·unfold openedV at h0;rw[if_pos hf1] at h0;exact absurd h0 hf1
 by_cases hf2:dirAt s.inos (findV s.inos c.path).1=true
 ·unfold openedV at h0;rw[if_neg hf1,if_pos hf2] at h0;exact absurd (show(8:Int)=0 from h0) (by decide)
 by_cases hf3:freeFd s.opn c.core=4
 ·unfold openedV at h0;rw[if_neg hf1,if_neg hf2,if_pos hf3] at h0;exact absurd (show(10:Int)=0 from h0) (by decide)
 obtain⟨hfree,hlt⟩:=z9o _ _ hf3
 have ho1:openedV s c (-1)=({ s with opn:=putD s.opn ⟨c.core,freeFd s.opn c.core,(findV s.inos c.path).1⟩ },{ fd:=freeFd s.opn c.core },true):=by
  unfold openedV;rw[if_neg hf1,if_neg hf2,if_neg hf3,if_neg (by omega)]
 rw[ho1] at hne ⊢;simp only at hne ⊢;refine⟨hgood,by omega,by omega,(findV s.inos c.path).1,rfl,hfree,by omega,by omega,?_⟩
 have hnone:(fdP s.opn c.core r.fd).isSome=true↔fdV s.opn c.core r.fd≠0:=by
  have hfr:=zfl hgood c.core r.fd;cases hq:fdP s.opn c.core r.fd with
  | none=>exact⟨(fun h1=>absurd h1 (by decide)),(fun h1=>absurd (hfr.1 hq) h1)⟩
  | some k=>exact⟨(fun _ h1=>by have h9:=hfr.2 h1;rw[hq] at h9;cases h9),(fun _=>rfl)⟩
 unfold allowsV;rw[hd]
 by_cases hrc:r.code=0
 ·rw [show wantV c r = r.fd by unfold wantV; rw [if_pos ⟨hk, hrc⟩]]
  by_cases hneg:r.fd<0
  ·have hr:refuse s c r=true:=by unfold refuse;simp[hneg]
   rw[if_pos ⟨hk,hrc,hneg⟩,hr]
   rfl
  ·rw [if_neg (by omega)]
   by_cases hbad:4≤r.fd∨fdV s.opn c.core r.fd≠0
   ·have ho2:openedV s c r.fd=(s,{},false):=by
     unfold openedV;rw[if_neg hf1,if_neg hf2,if_neg hf3,if_pos (by omega),if_pos hbad]
    have hr:refuse s c r=true:=by
     unfold refuse
     rcases hbad with h1|h1
     ·simp[h1]
     ·rw[hnone.2 h1];simp
    rw[ho2,hr];simp
   ·have ho2:openedV s c r.fd=({ s with opn:=putD s.opn ⟨c.core,r.fd,(findV s.inos c.path).1⟩ },{ fd:=r.fd },true):=by
     unfold openedV;rw[if_neg hf1,if_neg hf2,if_neg hf3,if_pos (by omega),if_neg hbad]
    rw[ho2]
    have hsome:(fdP s.opn c.core r.fd).isSome=false:=by
     cases hq:(fdP s.opn c.core r.fd).isSome
     ·rfl
     ·exact absurd (.inr (hnone.1 hq)) hbad
    have hs:sameR { fd:=r.fd } r= !refuse s c r:=by
     have h1:decide (r.fd<0)=false:=decide_eq_false hneg;have h2:decide (4≤r.fd)=false:=decide_eq_false (fun h=>hbad (.inl h));have h3:decide (r.code≠0)=false:=decide_eq_false (fun h=>h hrc);unfold refuse;rw[hsome,h1,h2,h3];unfold sameR sameF;simp only[hrc,Bool.false_or]
     have e1:decide ((([]:List ByteArray))=r.names)= !decide (0<r.names.length):=by
      cases r.names<;>simp
     have e2:decide ((0:Int)=r.num)= !decide (r.num≠0):=by
      by_cases h:r.num=0
      ·simp[h]
      ·simp[h];exact fun e=>h e.symm
     have e3:decide (false=r.dir)= !r.dir:=by cases r.dir<;>rfl
     have e4:decide ((⟨#[]⟩:ByteArray)=r.data)= !decide (r.data≠⟨#[]⟩):=by
      by_cases h:r.data=⟨#[]⟩
      ·simp[h]
      ·simp[h];exact fun e=>h e.symm
     rw[e1,e2,e3,e4];cases decide (0<r.names.length)<;>cases decide (r.num≠0)<;>cases r.dir<;>cases decide (r.data≠⟨#[]⟩)<;>simp
    simp only[hs];cases refuse s c r<;>simp
 ·have hr:refuse s c r=true:=by unfold refuse;simp[hrc]
  rw[if_neg (fun h=>hrc h.2.1),show wantV c r=-1 by unfold wantV;rw[if_neg (fun h=>hrc h.2)],ho1,hr]
  have:sameR { fd:=(freeFd s.opn c.core:Int) } r=false:=by
   cases hs:sameR { fd:=(freeFd s.opn c.core:Int) } r
   ·rfl
   ·have:=z6g hs;exact absurd (by rw[←this]) hrc
  simp[this]
structure Back (ds:List Ds) (core fd:Int) (i:Nat) (at_:Nat):Prop where
 le:at_≤ds.length
 gt:i≤at_
 hi:∀d,ds[at_]? =some d→core<d.core∨(d.core=core∧fd<d.fd)
 lo:∀(k:Nat) (d:Ds),i≤k→k<at_→ds[k]? =some d→¬(core<d.core∨(d.core=core∧fd<d.fd))
theorem Back.start (ds:List Ds) (core fd:Int):Back ds core fd ds.length ds.length:=⟨Nat.le_refl _,Nat.le_refl _,fun d hd=>by simp at hd,fun k d h1 h2=>by omega⟩
theorem Back.step {ds:List Ds} {core fd:Int} {i at_:Nat} (h:Back ds core fd (i+1) at_) {d:Ds} (hd:ds[i]? =some d):
  ((core<d.core∨(d.core=core∧fd<d.fd))→Back ds core fd i i)∧(¬(core<d.core∨(d.core=core∧fd<d.fd))→Back ds core fd i at_):=by
 have hl:=(List.getElem?_eq_some_iff.1 hd).1;refine⟨fun hc=>⟨by omega,Nat.le_refl _,fun e he=>by rw[hd] at he;cases he;exact hc,fun k e h1 h2=>by omega⟩,fun hc=>⟨h.le,by have:=h.gt;omega,h.hi,fun k e h1 h2 he=>?_⟩⟩
 by_cases hk:k=i
 ·subst hk;rw[hd] at he;cases he;exact hc
 ·exact h.lo k e (by omega) h2 he
theorem Back.put {ds:List Ds} {core fd num:Int} {at_:Nat} (h:Back ds core fd 0 at_) (hr:RiseD ds) (hno:∀x∈ds,¬(x.core=core∧x.fd=fd)):putD ds ⟨core,fd,num⟩=ds.take at_++[⟨core,fd,num⟩]++ds.drop at_:=by
 refine zbh _ _ _ h.le (fun k d hk hd=>?_) (fun k d hk hd=>?_)
 ·have h1:=h.lo k d (by omega) hk hd;have h2:=hno d (List.mem_of_getElem? hd);unfold ltD;simp only;omega
 ·have hl:=(List.getElem?_eq_some_iff.1 hd).1;have hat:=List.getElem?_eq_getElem (show at_<ds.length by omega);have h1:=h.hi _ hat
  by_cases e:at_=k
  ·subst e;rw[hd] at hat;cases hat;unfold ltD;simp only;omega
  ·have h2:=hr at_ k _ d (by omega) hat hd
   unfold ltD at h2 ⊢;simp only;omega
end Go.Proofs.YtmmpkfcdfcldlaaGreat
namespace Go.Proofs.YtmmpkfcdfcldlaaGreat
open Lib (hid)
open Go.RowKit
theorem zgy (g1 g2:Nat) (CO FD a b k:Int) (w:World) (h1:w.cell? ⟨g1,1,.none⟩=some (.int .i64 CO)) (h2:w.cell? ⟨g2,1,.none⟩=some (.int .i64 FD)) (l1:g1<w.heap.size) (l2:g2<w.heap.size):
  Calls Tryz.prog 51 #[.agg #[.int .i64 a,.int .i64 b,.int .i64 k],.pointer (some ⟨g1,0,.none⟩),.pointer (some ⟨g2,0,.none⟩)] w fun e w'=>e=.returned (.bool (a==CO&&b==FD))∧Below w.heap.size w w':=by
 obtain⟨V2,hV2,v0,v1,v2,hal4,hlt4⟩:=z4e w a b k;have z1:=(hal4.cell (p:=⟨g1,1,.none⟩) l1).trans h1;have z2:=(hal4.cell (p:=⟨g2,1,.none⟩) l2).trans h2;have HAL:=hid hal4;clear hal4;obtain⟨X,hX⟩:∃X,(a==CO)=X:=⟨_,rfl⟩;obtain⟨Y,hY⟩:∃Y,(b==FD)=Y:=⟨_,rfl⟩;rw[hX,hY]
 go_enter Tryz.func51,Tryz.ntmps51
 cases X
 ·go_wp2_with fail;go_ret;exact⟨by first|rfl|simp,HAL.out⟩
 ·go_wp2_with fail;go_ret;exact⟨by first|rfl|simp,HAL.out⟩
set_option maxRecDepth 100000 in
set_option maxHeartbeats 4000000 in
theorem z9p (g1 g2:Nat) (CO FD:Int) (xs:List Ds) (A:Option Addr) (n cp:Nat) (w:World) (hI:DescsAt none w A n xs) (hn:n≤1099511627776) (h1:w.cell? ⟨g1,1,.none⟩=some (.int .i64 CO)) (h2:w.cell? ⟨g2,1,.none⟩=some (.int .i64 FD)) (l1:g1<w.heap.size) (l2:g2<w.heap.size):
  Calls Tryz.prog 52 #[.slice A n cp,.func (.func 51) #[] #[.pointer (some ⟨g1,0,.none⟩),.pointer (some ⟨g2,0,.none⟩)]] w fun e w'=>e=.returned (.int .i64 (fdI xs CO FD))∧Below w.heap.size w w':=by
 obtain⟨R,hR⟩:∃R,fdP xs CO FD=R:=⟨_,rfl⟩;unfold fdI;rw[hR];have HI:=hid hI;have HR:=hid hR;clear hI hR
 go_enter Tryz.func52,Tryz.ntmps52
 go_wp2_with fail
 go_loopw [8] (fun j wr=>∃r:Nat,j=.int .i64 r∧r≤n∧Below w.heap.size w wr∧(fdP (xs.drop r) CO FD).map (· +r)=R) (fun j _=>n-(intOf j).toNat)
 case atStart=>exact⟨0,rfl,by omega,Below.refl _ _,by rw[List.drop_zero,HR.out];cases R<;>rfl⟩
 case round=>
  obtain⟨r,rfl,hq,hbel,hc⟩:=hrel;have HB:=hid hbel;have HIr:=hid (HI.out.below hbel);have z1:=(hbel.cell (p:=⟨g1,1,.none⟩) l1).trans h1;have z2:=(hbel.cell (p:=⟨g2,1,.none⟩) l2).trans h2;have m1:g1<wr.heap.size:=Nat.lt_of_lt_of_le l1 hbel.size;have m2:g2<wr.heap.size:=Nat.lt_of_lt_of_le l2 hbel.size;clear hbel
  by_cases hlt:r<n
  ·obtain⟨g,off,y,rfl,hg,hy,hd,hmem,e0,e1,e2⟩:=HIr.out.get r hlt;rw[zbf xs _ _ r y hd] at hc;have HC:=hid hc;have k0:(0:Int)≤(r:Int):=by omega
   clear hc hd hmem hy;go_wp2_with fail;refine(zgy g1 g2 CO FD y.core y.fd y.num _ z1 z2 m1 m2).mono ?_;rintro e5 w5 ⟨rfl,hb5⟩;have HB5:=hid (HB.out.trans (hb5.mono HB.out.size));clear hb5 e0 e1 e2;obtain⟨bb,hbb⟩:∃bb,(y.core==CO&&y.fd==FD)=bb:=⟨_,rfl⟩;rw[hbb];have hc:=HC.out;cases bb
   ·have hnx:¬(y.core=CO∧y.fd=FD):=fun h=>by rw[h.1,h.2] at hbb;simp at hbb
    rw[if_neg hnx] at hc;have HC2:=hid hc;clear hc hbb hnx;go_wp2_with fail;go_roundw
    case rel=>exact⟨r+1,by go_num,by omega,HB5.out,by
     rw[←HC2.out];cases fdP (xs.drop (r+1)) CO FD
     ·rfl
     ·simp;omega⟩
    case measure=>simp[intOf];omega
   ·have hnx:y.core=CO∧y.fd=FD:=by simpa using hbb
    rw[if_pos hnx] at hc;have HC2:=hid hc;clear hc hbb hnx;go_wp2_with fail;go_ret;have h:=HC2.out;simp at h;subst h;exact⟨rfl,HB5.out⟩
  ·have hnil:xs.drop r=[]:=List.drop_eq_nil_of_le (by have:=HI.out.1;omega);rw[hnil,fdP] at hc;have HC:=hid hc;clear hc hnil;go_wp2_with fail;go_ret;exact⟨by rw[←HC.out];rfl,HB.out⟩
theorem zgz (g1 g2:Nat) (CO FD a b k:Int) (w:World) (h1:w.cell? ⟨g1,1,.none⟩=some (.int .i64 CO)) (h2:w.cell? ⟨g2,1,.none⟩=some (.int .i64 FD)) (l1:g1<w.heap.size) (l2:g2<w.heap.size):
  Calls Tryz.prog 53 #[.agg #[.int .i64 a,.int .i64 b,.int .i64 k],.pointer (some ⟨g1,0,.none⟩),.pointer (some ⟨g2,0,.none⟩)] w fun e w'=>e=.returned (.bool (a==CO&&b==FD))∧Below w.heap.size w w':=by
 obtain⟨V2,hV2,v0,v1,v2,hal4,hlt4⟩:=z4e w a b k;have z1:=(hal4.cell (p:=⟨g1,1,.none⟩) l1).trans h1;have z2:=(hal4.cell (p:=⟨g2,1,.none⟩) l2).trans h2;have HAL:=hid hal4;clear hal4;obtain⟨X,hX⟩:∃X,(a==CO)=X:=⟨_,rfl⟩;obtain⟨Y,hY⟩:∃Y,(b==FD)=Y:=⟨_,rfl⟩;rw[hX,hY]
 go_enter Tryz.func53,Tryz.ntmps53
 cases X
 ·go_wp2_with fail;go_ret;exact⟨by first|rfl|simp,HAL.out⟩
 ·go_wp2_with fail;go_ret;exact⟨by first|rfl|simp,HAL.out⟩
set_option maxRecDepth 100000 in
set_option maxHeartbeats 4000000 in
theorem z9q (g1 g2:Nat) (CO FD:Int) (xs:List Ds) (A:Option Addr) (n cp:Nat) (w:World) (hI:DescsAt none w A n xs) (hn:n≤1099511627776) (h1:w.cell? ⟨g1,1,.none⟩=some (.int .i64 CO)) (h2:w.cell? ⟨g2,1,.none⟩=some (.int .i64 FD)) (l1:g1<w.heap.size) (l2:g2<w.heap.size):
  Calls Tryz.prog 52 #[.slice A n cp,.func (.func 53) #[] #[.pointer (some ⟨g1,0,.none⟩),.pointer (some ⟨g2,0,.none⟩)]] w fun e w'=>e=.returned (.int .i64 (fdI xs CO FD))∧Below w.heap.size w w':=by
 obtain⟨R,hR⟩:∃R,fdP xs CO FD=R:=⟨_,rfl⟩;unfold fdI;rw[hR];have HI:=hid hI;have HR:=hid hR;clear hI hR
 go_enter Tryz.func52,Tryz.ntmps52
 go_wp2_with fail
 go_loopw [8] (fun j wr=>∃r:Nat,j=.int .i64 r∧r≤n∧Below w.heap.size w wr∧(fdP (xs.drop r) CO FD).map (· +r)=R) (fun j _=>n-(intOf j).toNat)
 case atStart=>exact⟨0,rfl,by omega,Below.refl _ _,by rw[List.drop_zero,HR.out];cases R<;>rfl⟩
 case round=>
  obtain⟨r,rfl,hq,hbel,hc⟩:=hrel;have HB:=hid hbel;have HIr:=hid (HI.out.below hbel);have z1:=(hbel.cell (p:=⟨g1,1,.none⟩) l1).trans h1;have z2:=(hbel.cell (p:=⟨g2,1,.none⟩) l2).trans h2;have m1:g1<wr.heap.size:=Nat.lt_of_lt_of_le l1 hbel.size;have m2:g2<wr.heap.size:=Nat.lt_of_lt_of_le l2 hbel.size;clear hbel
  by_cases hlt:r<n
  ·obtain⟨g,off,y,rfl,hg,hy,hd,hmem,e0,e1,e2⟩:=HIr.out.get r hlt;rw[zbf xs _ _ r y hd] at hc;have HC:=hid hc;have k0:(0:Int)≤(r:Int):=by omega
   clear hc hd hmem hy;go_wp2_with fail;refine(zgz g1 g2 CO FD y.core y.fd y.num _ z1 z2 m1 m2).mono ?_;rintro e5 w5 ⟨rfl,hb5⟩;have HB5:=hid (HB.out.trans (hb5.mono HB.out.size));clear hb5 e0 e1 e2;obtain⟨bb,hbb⟩:∃bb,(y.core==CO&&y.fd==FD)=bb:=⟨_,rfl⟩;rw[hbb];have hc:=HC.out;cases bb
   ·have hnx:¬(y.core=CO∧y.fd=FD):=fun h=>by rw[h.1,h.2] at hbb;simp at hbb
    rw[if_neg hnx] at hc;have HC2:=hid hc;clear hc hbb hnx;go_wp2_with fail;go_roundw
    case rel=>exact⟨r+1,by go_num,by omega,HB5.out,by
     rw[←HC2.out];cases fdP (xs.drop (r+1)) CO FD
     ·rfl
     ·simp;omega⟩
    case measure=>simp[intOf];omega
   ·have hnx:y.core=CO∧y.fd=FD:=by simpa using hbb
    rw[if_pos hnx] at hc;have HC2:=hid hc;clear hc hbb hnx;go_wp2_with fail;go_ret;have h:=HC2.out;simp at h;subst h;exact⟨rfl,HB5.out⟩
  ·have hnil:xs.drop r=[]:=List.drop_eq_nil_of_le (by have:=HI.out.1;omega);rw[hnil,fdP] at hc;have HC:=hid hc;clear hc hnil;go_wp2_with fail;go_ret;exact⟨by rw[←HC.out];rfl,HB.out⟩
theorem z3h (g1 g2:Nat) (CO FD:Int) (xs:List Ds) (A:Option Addr) (n cp:Nat) (w:World) (hI:DescsAt none w A n xs) (hn:n≤1099511627776) (h1:w.cell? ⟨g1,1,.none⟩=some (.int .i64 CO)) (h2:w.cell? ⟨g2,1,.none⟩=some (.int .i64 FD)) (l1:g1<w.heap.size) (l2:g2<w.heap.size):
  Calls Tryz.prog 50 #[.slice A n cp,.func (.func 51) #[] #[.pointer (some ⟨g1,0,.none⟩),.pointer (some ⟨g2,0,.none⟩)]] w fun e w'=>e=.returned (.bool (fdP xs CO FD).isSome)∧Below w.heap.size w w':=by
 obtain⟨R,hR⟩:∃R,(fdP xs CO FD).isSome=R:=⟨_,rfl⟩
 have hd:decide (0≤fdI xs CO FD)=R:=by
  rw[←hR];unfold fdI;cases fdP xs CO FD with
  | none=>rfl
  | some k=>simp
 have hcall:=z9p g1 g2 CO FD xs A n cp w hI hn h1 h2 l1 l2;obtain⟨F,hF⟩:∃F,fdI xs CO FD=F:=⟨_,rfl⟩;rw[hF] at hd hcall;rw[hR];have HC:=hid hcall;clear hcall hF hR hI
 go_enter Tryz.func50,Tryz.ntmps50
 go_wp2_with fail;refine HC.out.mono ?_;rintro e5 w5 ⟨rfl,hb5⟩;have HB5:=hid hb5;clear hb5;go_wp2_with fail;go_ret;exact⟨Cv.ret_bool (by first|exact hd|rfl|simp),HB5.out⟩
end Go.Proofs.YtmmpkfcdfcldlaaGreat
