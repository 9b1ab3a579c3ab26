/- Parts of the proof, side by side: MoFinds, Conc, SameRes, GdN. -/
import Derived.Test.YtndcloohcfhejaaGreatM35
import Derived.Test.YtndcloohcfhejaaGreatFsEqual
import Derived.Test.YtndcloohcfhejaaGreatM16
import Derived.Test.YtndcloohcfhejaaGreatM25
import Derived.Test.YtndcloohcfhejaaGreatM31
set_option linter.unusedVariables false
set_option linter.unusedSimpArgs false
namespace Go.Proofs.YtndcloohcfhejaaGreat
open Go.RowKit
def mfindV (s : St) (path : ByteArray) : Int × Int:=
 if (parseL path.data.toList).2 ≠ 0 then (0,codeP (parseL path.data.toList).2)
 else if mayV s = false then (0,9) else walkG s.inos (parseL path.data.toList).1 1
theorem walkG_zero (is : List Ino) : ∀ (ns : List (List UInt8)) (t : Int),(walkG is ns t).2 ≠ 0 → (walkG is ns t).1 = 0
 | [],t,h => absurd rfl h
 | n :: ns, t, h => by
  unfold walkG at h ⊢
  cases hi : inoAt is (atV is t) with
  | none => rfl
  | some x =>
   rw [hi] at h
   simp only at h ⊢
   split
   ·rfl
   ·rename_i h1
    rw [if_neg h1] at h
    split
    ·rfl
    ·rename_i h2
     rw [if_neg h2] at h
     exact walkG_zero is ns _ h
set_option maxRecDepth 100000 in
set_option maxHeartbeats 4000000 in
theorem mFind_any (v : Value) (s : St) (path : ByteArray) (w : World) (h : StAt none w v s) (hs : path.size ≤ 140737488355328) :
  Calls Tryz.prog 18 #[v,.string path] w fun e w' => e = .returned (.tuple #[.int .i64 (mfindV s path).1,.int .i64 (mfindV s path).2]) ∧ Below w.heap.size w w':=by
 obtain ⟨A,n,c,E,m,d,D,k,e,rfl,_⟩:=h.at_
 obtain ⟨W,hW,b0,b1,b2,hal,hlt0⟩:=box_st w A n c E m d D k e
 have hcell : W.heap[w.heap.size]? = some (.cells #[.slice A n c,.slice E m d,.slice D k e] 27 (0,0)):=by rw [← hW];exact heap_alloc_new w _
 have hst:=h.below hal
 have hptr : PtrAt W w.heap.size s:=by
  obtain ⟨⟨A',n',c',B',m',d',D',k',e',hv,hI,hD,hM,h5,h6,h7⟩,hz⟩:=hst
  injection hv with hv
  have g0:=congrArg (fun a : Array Value => a[0]?) hv
  have g1:=congrArg (fun a : Array Value => a[1]?) hv
  have g2:=congrArg (fun a : Array Value => a[2]?) hv
  simp at g0 g1 g2
  obtain ⟨rfl,rfl,rfl⟩:=g0
  obtain ⟨rfl,rfl,rfl⟩:=g1
  obtain ⟨rfl,rfl,rfl⟩:=g2
  exact ⟨⟨_,_,_,_,_,_,_,_,_,hcell,hI,hD,hM,h5,h6,h7⟩,hz⟩
 have hn : n = s.inos.length:=by
  obtain ⟨A',n',c',B',m',d',D',k',e',hv,hI,_⟩:=hst.at_
  injection hv with hv
  have g0:=congrArg (fun a : Array Value => a[0]?) hv
  simp at g0
  rw [hI.1]
  exact g0.2.1
 have HST:=Lib.hid hst
 have HPT:=Lib.hid hptr
 have HAL:=Lib.hid hal
 have HNL:=Lib.hid hn
 have HCE:=Lib.hid hcell
 obtain ⟨R,hR⟩ : ∃ R,mfindV s path = R:=⟨_,rfl⟩
 rw [hR]
 unfold mfindV at hR
 have HR:=Lib.hid hR
 have hle:=parse_err path.data.toList
 obtain ⟨RP,hRP⟩ : ∃ RP,parseL path.data.toList = RP:=⟨_,rfl⟩
 have hlen:=parse_len path.data.toList
 rw [hRP] at hle hlen
 have HRP:=Lib.hid hRP
 clear h hst hptr hal hn hR hRP hcell
 go_enter Tryz.func18,Tryz.ntmps18
 go_wp2_with fail
 refine (parse_any path _ hs).mono ?_
 rintro e1 w1 ⟨v1,out,C,rfl,hp,hnm,_,hb1⟩
 rw [HRP.out] at hp
 obtain ⟨A1,c1,rfl,hc1,hnm1⟩:=NmAt.of_names hnm
 have HB1:=Lib.hid hb1
 have HNM:=Lib.hid hnm1
 have hlt1 : w.heap.size < w1.heap.size:=Nat.lt_of_lt_of_le hlt0 hb1.size
 have p0:=(hb1.cell (p:=⟨w.heap.size,0,none⟩) hlt0).trans b0
 have p1:=(hb1.cell (p:=⟨w.heap.size,1,none⟩) hlt0).trans b1
 have p2:=(hb1.cell (p:=⟨w.heap.size,2,none⟩) hlt0).trans b2
 subst hp
 simp only at hle hlen
 have hr:=HR.out
 rw [HRP.out] at hr
 simp only at hr
 have HR1:=Lib.hid hr
 clear hnm hb1 hnm1 b0 b1 b2 hW hr HR
 by_cases hC : C = 0
 rotate_left
 ·have hr:=HR1.out
  rw [if_pos (by simpa using hC)] at hr
  have HR2:=Lib.hid hr
  have hne : ((C : Int) != 0) = true:=by rw [bne_iff_ne];omega
  clear hr hC
  go_wp2_with fail
  refine (code_any C (by omega) _).mono ?_
  rintro e2 w2 ⟨rfl,rfl⟩
  rw [codeP_N]
  go_wp2_with fail
  go_ret2
  exact ⟨by rw [← HR2.out];rfl,Cv.next HAL.out HB1.out⟩
 ·subst hC
  have hr:=HR1.out
  rw [if_neg (by simp)] at hr
  have HR2:=Lib.hid hr
  clear hr
  go_wp2_with fail
  refine (mmay_any _ s w1 (HST.out.below HB1.out)).mono ?_
  rintro e2 w2 ⟨rfl,hb2⟩
  obtain ⟨MV,hMV⟩ : ∃ MV,mayV s = MV:=⟨_,rfl⟩
  rw [hMV]
  have hr:=HR2.out
  rw [hMV] at hr
  have HMV:=Lib.hid hMV
  have HR3:=Lib.hid hr
  have HB2:=Lib.hid hb2
  have q0:=(hb2.cell (p:=⟨w.heap.size,0,none⟩) hlt1).trans p0
  have hlt2 : w.heap.size < w2.heap.size:=Nat.lt_of_lt_of_le hlt1 hb2.size
  clear hr hMV hb2 p0 p1 p2
  cases MV
  ·have hr:=HR3.out
   rw [if_pos rfl] at hr
   go_wp2_with fail
   go_ret2
   exact ⟨by rw [← hr];rfl,Cv.next HAL.out (Cv.next HB1.out HB2.out)⟩
  ·have hr:=HR3.out
   rw [if_neg (by decide)] at hr
   have HR4:=Lib.hid hr
   have hg:=(good_iff s).1 HMV.out
   have HG:=Lib.hid hg
   have hwz:=walkG_zero s.inos out 1
   rw [hr] at hwz
   have HWZ:=Lib.hid hwz
   clear hr hg hwz
   go_wp2_with fail
   refine (mwalk_any w.heap.size s A1 out.length c1 out w2 ((HPT.out.below HB1.out).below HB2.out) HG.out (HNM.out.below HB2.out) (by omega)).mono ?_
   rintro e3 w3 ⟨rfl,hb3,hpl⟩
   rw [HR4.out] at hpl ⊢
   obtain ⟨KP,hKP⟩ : ∃ KP,placeG s.inos R = KP:=⟨_,rfl⟩
   rw [hKP] at hpl ⊢
   have r0:=(hb3.cell (p:=⟨w.heap.size,0,none⟩) hlt2).trans q0
   have HPL:=Lib.hid hpl
   have HB3:=Lib.hid hb3
   have hst3:=((HST.out.below HB1.out).below HB2.out).below hb3
   have HST3:=Lib.hid hst3
   obtain ⟨RN,RC⟩:=R
   simp only at HPL HWZ ⊢
   clear hb3 q0 hpl hKP hst3
   by_cases hc : RC = 0
   ·subst hc
    obtain ⟨i,x,rfl,hx,hxn⟩:=HPL.out rfl
    have hil:=(List.getElem?_eq_some_iff.1 hx).1
    have i0 : (0 : Int) ≤ (i : Int):=by omega
    have i1 : (i : Int) < (n : Int):=by have:=HNL.out;omega
    obtain ⟨A',n',c',B',m',d',D',k',e',hv,hI,_⟩:=HST3.out.at_
    have hI2 : InosAt none w3 A n s.inos:=by
     injection hv with hv
     have g0:=congrArg (fun a : Array Value => a[0]?) hv
     simp at g0
     obtain ⟨rfl,rfl,rfl⟩:=g0
     exact hI
    obtain ⟨g,off,x',E9,m9,d9,rfl,hg9,hx',_,_,e0,_⟩:=hI2.get i (by have:=HNL.out;omega)
    have : x = x':=by rw [hx] at hx';exact Option.some.inj hx'
    subst this
    rw [hxn] at e0
    clear hI hI2 hv hx hx' hxn
    go_wp2_with fail
    go_ret2
    exact ⟨rfl,Cv.next HAL.out (Cv.next HB1.out (Cv.next HB2.out HB3.out))⟩
   ·have hz : RN = 0:=HWZ.out hc
    have hne : (RC != 0) = true:=by rw [bne_iff_ne];exact hc
    subst hz
    clear hc
    go_wp2_with fail
    go_ret2
    exact ⟨rfl,Cv.next HAL.out (Cv.next HB1.out (Cv.next HB2.out HB3.out))⟩
deriving instance DecidableEq for Re
deriving instance DecidableEq for Ca
theorem doC (v : Value) (s : St) (c : Ca) (w : World) (h : StAt none w v s) (T : St) (code fd num : Int) (dir : Bool) (data : ByteArray) (names : List ByteArray) (hd : doV s c = (T,⟨code,fd,num,dir,data,names⟩)) (hp1 : c.path.size ≤ 140737488355328) (hp2 : c.path2.size ≤ 140737488355328) (hds : c.data.size ≤ 140737488355328) :
  Calls Tryz.prog 15 #[v,caV c] w fun e w' => ∃ A n c1 E m d D k e1 F f f',e = .returned (.tuple #[.agg #[.slice A n c1,.slice E m d,.slice D k e1],.agg #[.int .i64 code,.int .i64 fd,.int .i64 num,.bool dir,.string data,.slice F f f']]) ∧
   StAt none w' (.agg #[.slice A n c1,.slice E m d,.slice D k e1]) T ∧ DescsAt none w' E m T.opn ∧ (m = T.opn.length ∧ n = T.inos.length) ∧ NmsAt none w' F f names ∧ SlOk F f f' ∧ Below w.heap.size w w':=by
 refine (mDo_any v s c w h hp1 hp2 hds).mono ?_
 rintro e w' ⟨v',rv,rfl,hs,⟨F,f,f',rfl,hok,hn⟩,hb⟩
 rw [hd] at hs hn
 rw [hd]
 obtain ⟨A,n,c1,E,m,d,D,k,e1,rfl,hI,hD,_⟩:=hs.weak.at_
 exact ⟨A,n,c1,E,m,d,D,k,e1,F,f,f',rfl,hs.weak,hD,⟨hD.1.symm,hI.1.symm⟩,hn.weak,hok,hb⟩
theorem box_sr (w : World) (a b c : Value) (code fd num : Int) (dir : Bool) (data : ByteArray) (F : Option Addr) (f f' : Nat) : ∃ V1 V,w.alloc (.cells #[a,b,c] 27) = V1 ∧ V1.alloc (.cells #[.int .i64 code,.int .i64 fd,.int .i64 num,.bool dir,.string data,.slice F f f'] 31) = V ∧ V1.heap.size = w.heap.size + 1 ∧ V.heap.size = w.heap.size + 2 ∧
  OutAt V w.heap.size a b c ∧ ResAt V (w.heap.size + 1) (.int .i64 code) (.int .i64 fd) (.int .i64 num) (.bool dir) (.string data) (.slice F f f') ∧ Below w.heap.size w V:=by
 obtain ⟨V1,hV1⟩ : ∃ V1,w.alloc (.cells #[a,b,c] 27) = V1:=⟨_,rfl⟩
 have l1 : Below w.heap.size w V1:=by rw [← hV1];exact (Below.refl _ _).alloc (Nat.le_refl _) _
 have o1 : OutAt V1 w.heap.size a b c:=by rw [← hV1];exact heap_alloc_new w _
 have y1 : V1.heap.size = w.heap.size + 1:=by rw [← hV1];simp
 obtain ⟨V2,hV2⟩ : ∃ V2,V1.alloc (.cells #[.int .i64 code,.int .i64 fd,.int .i64 num,.bool dir,.string data,.slice F f f'] 31) = V2:=⟨_,rfl⟩
 have l2 : Below V1.heap.size V1 V2:=by rw [← hV2];exact (Below.refl _ _).alloc (Nat.le_refl _) _
 have r2 : ResAt V2 (w.heap.size + 1) (.int .i64 code) (.int .i64 fd) (.int .i64 num) (.bool dir) (.string data) (.slice F f f'):=by rw [← y1,← hV2];exact heap_alloc_new V1 _
 have o2 : OutAt V2 w.heap.size a b c:=(l2.block _ (by omega)).trans o1
 exact ⟨V1,V2,hV1,hV2,y1,by rw [← hV2];simp;omega,o2,r2,Cv.next l1 l2⟩
theorem box_s (w : World) (a b c : Value) : ∃ V,w.alloc (.cells #[a,b,c] 27) = V ∧ V.heap.size = w.heap.size + 1 ∧ OutAt V w.heap.size a b c ∧ Below w.heap.size w V:=
 ⟨_,rfl,by simp,heap_alloc_new w _,(Below.refl _ _).alloc (Nat.le_refl _) _⟩
theorem OutAt.mv {w w' : World} {p : Nat} {a b c : Value} (h : OutAt w p a b c) (hb : Below w.heap.size w w') : OutAt w' p a b c:=(hb.block p (Array.getElem?_eq_some_iff.1 h).1).trans h
theorem ResAt.mv {w w' : World} {p : Nat} {a b c d e f : Value} (h : ResAt w p a b c d e f) (hb : Below w.heap.size w w') : ResAt w' p a b c d e f:=(hb.block p (Array.getElem?_eq_some_iff.1 h).1).trans h
theorem res_none (lo : Option Nat) (w : World) (code fd num : Int) (dir : Bool) (data : ByteArray) : ResIs lo w (.agg #[.int .i64 code,.int .i64 fd,.int .i64 num,.bool dir,.string data,.slice none 0 0]) ⟨code,fd,num,dir,data,[]⟩:=
 ⟨none,0,0,rfl,⟨Nat.le_refl _,fun _ => rfl⟩,rfl,fun h => absurd h (by omega)⟩
theorem numC (n : Int) (w : World) : Calls Tryz.prog 28 #[.int .i64 n] w fun e w' => e = .returned (.int .i64 n) ∧ w = w':=by
 go_enter Tryz.func28,Tryz.ntmps28
 go_wp2_with fail
 go_ret
 exact ⟨rfl,rfl⟩
def pA : ByteArray:=⟨#[47,97]⟩
def cA : Ca:=⟨0,0,0,0,0,⟨#[47,97]⟩,⟨#[]⟩,⟨#[]⟩⟩
def cO : Ca:=⟨2,1,0,0,0,⟨#[47,97]⟩,⟨#[]⟩,⟨#[]⟩⟩
def cW : Ca:=⟨5,1,0,0,0,⟨#[]⟩,⟨#[]⟩,⟨#[104,105]⟩⟩
def cP : Ca:=⟨2,0,0,0,0,⟨#[47,97]⟩,⟨#[]⟩,⟨#[]⟩⟩
def stT : St:=⟨[⟨1,true,[⟨⟨#[97]⟩,2⟩],⟨#[]⟩⟩,⟨2,false,[],⟨#[]⟩⟩],[],[1,0]⟩
def stU : St:=⟨[⟨1,true,[⟨⟨#[97]⟩,2⟩],⟨#[]⟩⟩,⟨2,false,[],⟨#[]⟩⟩],[⟨1,0,2⟩],[1,0]⟩
def stW : St:=⟨[⟨1,true,[⟨⟨#[97]⟩,2⟩],⟨#[]⟩⟩,⟨2,false,[],⟨#[104,105]⟩⟩],[⟨1,0,2⟩],[1,0]⟩
theorem a13_1 : doV (newV 2) cA = (stT,⟨0,0,0,false,⟨#[]⟩,[]⟩):=by decide +kernel
theorem a13_2 : doV stT cO = (stU,⟨0,0,0,false,⟨#[]⟩,[]⟩):=by decide +kernel
theorem a13_3 : doV stU cW = (stW,⟨0,0,2,false,⟨#[]⟩,[]⟩):=by decide +kernel
theorem a13_4 : doV stT cA = (stT,⟨2,0,0,false,⟨#[]⟩,[]⟩):=by decide +kernel
theorem a13_7 : mayV stT = true:=by decide +kernel
theorem a13_8 : linkI stT.inos 2 = 1:=by decide +kernel
theorem a13_6 : mfindV stT pA = (2,0):=by decide +kernel
def sameF (a b : Re) : Bool:=decide (a.code = b.code) && decide (a.fd = b.fd) && decide (a.num = b.num) && decide (a.dir = b.dir) && decide (a.data = b.data)
def sameR (a b : Re) : Bool:=decide (a.names = b.names) && sameF a b
theorem sameR_eq {a b : Re} (h : sameR a b = true) : a = b:=by
 unfold sameR sameF at h
 simp only [Bool.and_eq_true,decide_eq_true_eq] at h
 obtain ⟨h1,⟨⟨⟨h2,h3⟩,h4⟩,h5⟩,h6⟩:=h
 cases a;cases b
 simp only at h1 h2 h3 h4 h5 h6
 subst h1 h2 h3 h4 h5 h6
 rfl
theorem ba_list_neq {a b : ByteArray} (h : a ≠ b) : (a.toList != b.toList) = true:=by unfold bne;rw [ba_list_ne h];rfl
theorem nms_at {w : World} {A : Option Addr} {n : Nat} {ts : List ByteArray} (h : NmsAt none w A n ts) (k : Nat) (hk : k < n) : ∃ (g off : Nat) (hl : k < ts.length),A = some ⟨g,off,.none⟩ ∧ g < w.heap.size ∧ w.cell? ⟨g,off + k,.none⟩ = some (Value.string ts[k]):=by
 obtain ⟨g,off,h1,h2,_,h3⟩:=h.2 (by omega)
 have hl : k < ts.length:=by have:=h.1;omega
 exact ⟨g,off,hl,h1,h2,h3 k _ (List.getElem?_eq_getElem hl)⟩
theorem names_next {ts us : List ByteArray} {k : Nat} (h1 : k < ts.length) (h2 : k < us.length) (h : ts.take k = us.take k) (e : ts[k] = us[k]) : ts.take (k + 1) = us.take (k + 1):=by
 rw [List.take_succ_eq_append_getElem h1,List.take_succ_eq_append_getElem h2,h,e]
theorem names_ext {ts us : List ByteArray} {n : Nat} (h1 : ts.length = n) (h2 : us.length = n) (h : ts.take n = us.take n) : ts = us:=by
 rw [List.take_of_length_le (by omega),List.take_of_length_le (by omega)] at h;exact h
theorem names_diff {ts us : List ByteArray} {k : Nat} (h1 : k < ts.length) (h2 : k < us.length) (e : ts[k] ≠ us[k]) : ts ≠ us:=fun h => by subst h;exact e rfl
theorem box_re2 (w : World) (a b : Re) (A : Option Addr) (n c : Nat) (B : Option Addr) (m d : Nat) : ∃ W,(w.alloc (.cells #[.int .i64 a.code,.int .i64 a.fd,.int .i64 a.num,.bool a.dir,.string a.data,.slice A n c] 31)).alloc (.cells #[.int .i64 b.code,.int .i64 b.fd,.int .i64 b.num,.bool b.dir,.string b.data,.slice B m d] 31) = W ∧
  ResAt W w.heap.size (.int .i64 a.code) (.int .i64 a.fd) (.int .i64 a.num) (.bool a.dir) (.string a.data) (.slice A n c) ∧ ResAt W (w.heap.size + 1) (.int .i64 b.code) (.int .i64 b.fd) (.int .i64 b.num) (.bool b.dir) (.string b.data) (.slice B m d) ∧ Below w.heap.size w W ∧ W.heap.size = w.heap.size + 2:=by
 obtain ⟨W1,hW1⟩ : ∃ W1,w.alloc (.cells #[.int .i64 a.code,.int .i64 a.fd,.int .i64 a.num,.bool a.dir,.string a.data,.slice A n c] 31) = W1:=⟨_,rfl⟩
 have h1 : ResAt W1 w.heap.size (.int .i64 a.code) (.int .i64 a.fd) (.int .i64 a.num) (.bool a.dir) (.string a.data) (.slice A n c):=by rw [← hW1];exact heap_alloc_new w _
 have l1 : Below w.heap.size w W1:=by rw [← hW1];exact (Below.refl _ _).alloc (Nat.le_refl _) _
 have z1 : W1.heap.size = w.heap.size + 1:=by rw [← hW1];simp
 obtain ⟨W2,hW2⟩ : ∃ W2,W1.alloc (.cells #[.int .i64 b.code,.int .i64 b.fd,.int .i64 b.num,.bool b.dir,.string b.data,.slice B m d] 31) = W2:=⟨_,rfl⟩
 have h2 : ResAt W2 W1.heap.size (.int .i64 b.code) (.int .i64 b.fd) (.int .i64 b.num) (.bool b.dir) (.string b.data) (.slice B m d):=by rw [← hW2];exact heap_alloc_new W1 _
 have l2 : Below W1.heap.size W1 W2:=by rw [← hW2];exact (Below.refl _ _).alloc (Nat.le_refl _) _
 have z2 : W2.heap.size = W1.heap.size + 1:=by rw [← hW2];simp
 refine ⟨W2,by rw [hW1,hW2],(l2.block w.heap.size (by omega)).trans h1,by rw [← z1];exact h2,Cv.next l1 l2,by omega⟩
set_option maxHeartbeats 2000000 in
theorem eqstr_any (A B : Option Addr) (n m c d : Nat) (ts us : List ByteArray) (w : World) (ha : NmsAt none w A n ts) (hb : NmsAt none w B m us) (hn : n ≤ 1099511627776) (hm : m ≤ 1099511627776) :
  Calls Tryz.prog 75 #[.slice A n c,.slice B m d] w fun e w' => e = .returned (.bool (decide (ts = us))) ∧ Below w.heap.size w w':=by
 obtain ⟨R,hR⟩ : ∃ R,decide (ts = us) = R:=⟨_,rfl⟩
 rw [hR]
 have HR:=Lib.hid hR
 have HA:=Lib.hid ha
 have HB:=Lib.hid hb
 have HL1:=Lib.hid ha.1
 have HL2:=Lib.hid hb.1
 clear hR ha hb
 by_cases hnm : n = m
 ·subst hnm
  go_enter Tryz.func75,Tryz.ntmps75
  go_wp2_with fail
  go_loopw [13] (fun i wr => ∃ (k q : Nat),k ≤ n ∧ i = .int .i64 k ∧ wr = w.drewN q ∧ ts.take k = us.take k) (fun i _ => n - (intOf i).toNat)
  case atStart => exact ⟨0,0,by omega,rfl,rfl,rfl⟩
  case round =>
   obtain ⟨k,q,hk,rfl,rfl,htk⟩:=hrel
   have Htk:=Lib.hid htk
   clear htk
   by_cases hlt : k < n
   ·obtain ⟨g1,o1,hl1,rfl,hg1,c1⟩:=nms_at HA.out k hlt
    obtain ⟨g2,o2,hl2,rfl,hg2,c2⟩:=nms_at HB.out k hlt
    obtain ⟨a,ea⟩ : ∃ a,ts[k] = a:=⟨_,rfl⟩
    obtain ⟨b,eb⟩ : ∃ b,us[k] = b:=⟨_,rfl⟩
    rw [ea] at c1
    rw [eb] at c2
    have hkn : (k : Int) < (n : Int):=by omega
    have hk0 : (0 : Int) ≤ (k : Int):=by omega
    have Ea:=Lib.hid ea
    have Eb:=Lib.hid eb
    clear ea eb
    by_cases hab : a = b
    ·subst hab
     go_wp2_with fail
     go_quiet (fail)
     go_wp2_with fail
     go_roundw
     case rel => exact ⟨k + 1,_,by omega,by go_num,rfl,names_next hl1 hl2 Htk.out (by rw [Ea.out,Eb.out])⟩
     case measure => simp [intOf];omega
    ·have qab:=ba_list_ne hab
     have qab2:=ba_list_neq hab
     have HAB:=Lib.hid hab
     clear hab
     go_wp2_with fail
     go_quiet (fail)
     go_wp2_with fail
     go_ret
     exact ⟨Cv.ret_bool (by rw [← HR.out];symm;rw [decide_eq_false_iff_not];exact names_diff hl1 hl2 (by rw [Ea.out,Eb.out];exact HAB.out)),Cv.drewN_below (Cv.drewN_below (Below.refl _ _) _) _⟩
   ·have hkn : k = n:=by omega
    subst hkn
    have q9 : decide ((k : Int) < (k : Int)) = false:=by rw [decide_eq_false_iff_not];omega
    go_wp2_with fail
    go_ret
    exact ⟨Cv.ret_bool (by rw [← HR.out];symm;rw [decide_eq_true_eq];exact names_ext HL1.out HL2.out Htk.out),Cv.drewN_below (Below.refl _ _) _⟩
 ·have qn : ((n : Int) != (m : Int)) = true:=by rw [bne_iff_ne];omega
  have qn2 : (n != m) = true:=by rw [bne_iff_ne];exact hnm
  go_enter Tryz.func75,Tryz.ntmps75
  go_wp2_with fail
  go_ret
  exact ⟨Cv.ret_bool (by rw [← HR.out];symm;rw [decide_eq_false_iff_not];intro h;have h1:=HL1.out;have h2:=HL2.out;rw [h] at h1;omega),Below.refl _ _⟩
set_option maxRecDepth 100000 in
set_option maxHeartbeats 8000000 in
theorem msame_any (v u : Value) (a b : Re) (w : World) (h1 : ResIs none w v a) (h2 : ResIs none w u b) (hn1 : a.names.length ≤ 1099511627776) (hn2 : b.names.length ≤ 1099511627776) :
  Calls Tryz.prog 45 #[v,u] w fun e w' => e = .returned (.bool (sameR a b)) ∧ Below w.heap.size w w':=by
 obtain ⟨A,n,c,rfl,_,hA⟩:=h1
 obtain ⟨B,m,d,rfl,_,hB⟩:=h2
 obtain ⟨W,hW,r1,r2,hal,hz⟩:=box_re2 w a b A n c B m d
 obtain ⟨x0,x1,x2,x3,x4,x5,_⟩:=r1.get
 obtain ⟨y0,y1,y2,y3,y4,y5,_⟩:=r2.get
 have hna : n ≤ 1099511627776:=by have:=hA.1;omega
 have hnb : m ≤ 1099511627776:=by have:=hB.1;omega
 have HA:=Lib.hid (hA.below hal)
 have HB:=Lib.hid (hB.below hal)
 have HLA:=Lib.hid hA.1
 have HLB:=Lib.hid hB.1
 have HAL:=Lib.hid hal
 have g1:=r1.lt
 have g2:=r2.lt
 have h12 : w.heap.size ≠ w.heap.size + 1:=by omega
 obtain ⟨NQ,hNQ⟩ : ∃ NQ,decide (a.names = b.names) = NQ:=⟨_,rfl⟩
 obtain ⟨R,hR⟩ : ∃ R,sameR a b = R:=⟨_,rfl⟩
 rw [hR]
 have HS:=Lib.hid (show R = (NQ && sameF a b) by rw [← hNQ,← hR];rfl)
 have HNQ:=Lib.hid hNQ
 clear hA hB hal r1 r2 hn1 hn2 hNQ hR
 have heq : Calls Tryz.prog 75 #[.slice A n c,.slice B m d] W fun e w' => e = .returned (.bool NQ) ∧ Below W.heap.size W w':=by
  have h:=eqstr_any A B n m c d a.names b.names W HA.out HB.out hna hnb
  rw [HNQ.out] at h
  exact h
 have HEQ:=Lib.hid heq
 clear heq
 by_cases h_code : a.code = b.code
 rotate_left
 ·have HF:=Lib.hid (show sameF a b = false by simp [sameF,h_code])
  have q_code : (a.code == b.code) = false:=by rw [beq_eq_false_iff_ne];exact h_code
  clear h_code
  have hs : R = false:=by rw [HS.out,HF.out];cases NQ <;> rfl
  rw [hs]
  clear hs
  go_enter Tryz.func45,Tryz.ntmps45
  go_wp2_with fail
  go_ret
  exact ⟨rfl,HAL.out⟩
 have q_code : (a.code == b.code) = true:=by rw [beq_iff_eq];exact h_code
 by_cases h_fd : a.fd = b.fd
 rotate_left
 ·have HF:=Lib.hid (show sameF a b = false by simp [sameF,h_fd])
  have q_fd : (a.fd == b.fd) = false:=by rw [beq_eq_false_iff_ne];exact h_fd
  clear h_code h_fd
  have hs : R = false:=by rw [HS.out,HF.out];cases NQ <;> rfl
  rw [hs]
  clear hs
  go_enter Tryz.func45,Tryz.ntmps45
  go_wp2_with fail
  go_ret
  exact ⟨rfl,HAL.out⟩
 have q_fd : (a.fd == b.fd) = true:=by rw [beq_iff_eq];exact h_fd
 by_cases h_num : a.num = b.num
 rotate_left
 ·have HF:=Lib.hid (show sameF a b = false by simp [sameF,h_num])
  have q_num : (a.num == b.num) = false:=by rw [beq_eq_false_iff_ne];exact h_num
  clear h_code h_fd h_num
  have hs : R = false:=by rw [HS.out,HF.out];cases NQ <;> rfl
  rw [hs]
  clear hs
  go_enter Tryz.func45,Tryz.ntmps45
  go_wp2_with fail
  go_ret
  exact ⟨rfl,HAL.out⟩
 have q_num : (a.num == b.num) = true:=by rw [beq_iff_eq];exact h_num
 by_cases h_dir : a.dir = b.dir
 rotate_left
 ·have HF:=Lib.hid (show sameF a b = false by simp [sameF,h_dir])
  have q_dir : (a.dir == b.dir) = false:=by rw [beq_eq_false_iff_ne];exact h_dir
  clear h_code h_fd h_num h_dir
  have hs : R = false:=by rw [HS.out,HF.out];cases NQ <;> rfl
  rw [hs]
  clear hs
  go_enter Tryz.func45,Tryz.ntmps45
  go_wp2_with fail
  go_ret
  exact ⟨rfl,HAL.out⟩
 have q_dir : (a.dir == b.dir) = true:=by rw [beq_iff_eq];exact h_dir
 by_cases h_data : a.data = b.data
 rotate_left
 ·have HF:=Lib.hid (show sameF a b = false by simp [sameF,h_data])
  have q_data:=ba_list_ne h_data
  clear h_code h_fd h_num h_dir h_data
  have hs : R = false:=by rw [HS.out,HF.out];cases NQ <;> rfl
  rw [hs]
  clear hs
  go_enter Tryz.func45,Tryz.ntmps45
  go_wp2_with fail
  go_ret
  exact ⟨rfl,HAL.out⟩
 have q_data:=ba_list_eq h_data
 have HF:=Lib.hid (show sameF a b = true by simp [sameF,h_code,h_fd,h_num,h_dir,h_data])
 clear h_code h_fd h_num h_dir h_data
 have hs : R = NQ:=by rw [HS.out,HF.out];cases NQ <;> rfl
 rw [hs]
 clear hs
 go_enter Tryz.func45,Tryz.ntmps45
 go_wp2_with fail
 refine HEQ.out.mono ?_
 rintro e5 w5 ⟨rfl,hb5⟩
 have HB5:=Lib.hid (Cv.next HAL.out hb5)
 clear hb5
 go_wp2_with fail
 go_ret
 exact ⟨rfl,HB5.out⟩
end Go.Proofs.YtndcloohcfhejaaGreat
namespace Go.Proofs.YtndcloohcfhejaaGreat
inductive Rn (is : List Ino) : Int → Prop where
 | root : Rn is 1
 | step {x : Ino} {e : En} : Rn is x.num → x ∈ is → x.dir = true → e ∈ x.ents → Rn is e.num
structure EntsOk (is : List Ino) (es : List En) : Prop where
 each : ∀ e ∈ es,chkB e.name = 0 ∧ e.num ≠ 1 ∧ ∃ y ∈ is,y.num = e.num
 rise : RiseE es
 bkt : ∀ b,bktE es b ≤ 4
theorem atV_ge {is : List Ino} {n : Int} : 0 ≤ atV is n ↔ ∃ y ∈ is,y.num = n:=by
 rcases atV_cases is n with ⟨h1,h2⟩ | ⟨k,x,h1,h2,h3,_⟩
 ·constructor
  ·intro h;omega
  ·rintro ⟨y,hy,hn⟩;exact absurd hn (h2 y hy)
 ·constructor
  ·intro _;exact ⟨x,List.mem_of_getElem? h2,h3⟩
  ·intro _;omega
theorem entsG_each (is : List Ino) : ∀ (es : List En) (p : Option ByteArray) (many : Nat → Nat),entsG is es p many = true → (∀ e ∈ es,chkB e.name = 0 ∧ e.num ≠ 1 ∧ ∃ y ∈ is,y.num = e.num) ∧ ∀ b,many b ≤ 4 → many b + bktE es b ≤ 4
 | [],p,many,h => ⟨by simp,fun b hb => by simpa [bktE] using hb⟩
 | e :: es, p, many, h => by
  unfold entsG at h
  by_cases h1 : entBad is p e = true
  ·rw [if_pos h1] at h;cases h
  ·rw [if_neg h1] at h
   by_cases h2 : 4 < many (bktB e.name) + 1
   ·rw [if_pos h2] at h;cases h
   ·rw [if_neg h2] at h
    obtain ⟨r1,r2⟩:=entsG_each is es _ _ h
    have hb : chkB e.name = 0 ∧ e.num ≠ 1 ∧ 0 ≤ atV is e.num:=by
     unfold entBad at h1
     simp only [Bool.or_eq_true,decide_eq_true_eq,not_or] at h1
     obtain ⟨⟨⟨a1,_⟩,a2⟩,a3⟩:=h1
     exact ⟨by omega,a2,by omega⟩
    refine ⟨fun x hx => ?_,fun b hb4 => ?_⟩
    ·rcases List.mem_cons.1 hx with rfl | hx
     ·exact ⟨hb.1,hb.2.1,atV_ge.1 hb.2.2⟩
     ·exact r1 x hx
    ·have h3:=r2 b
     unfold bktE
     by_cases hbb : b = bktB e.name
     ·rw [if_pos hbb] at h3
      rw [if_pos hbb.symm]
      have:=h3 (by rw [hbb];omega)
      omega
     ·rw [if_neg hbb] at h3
      rw [if_neg (fun e2 => hbb e2.symm)]
      have:=h3 hb4
      omega
theorem entsG_of (is : List Ino) : ∀ (es : List En) (p : Option ByteArray) (many : Nat → Nat),(∀ e ∈ es,chkB e.name = 0 ∧ e.num ≠ 1 ∧ ∃ y ∈ is,y.num = e.num) → RiseE es → (∀ q x,p = some q → es[0]? = some x → ltN q x.name = true) → (∀ b,bktE es b = 0 ∨ many b + bktE es b ≤ 4) → entsG is es p many = true
 | [],p,many,_,_,_,_ => rfl
 | e :: es, p, many, h1, h2, h3, h4 => by
  have he:=h1 e (by simp)
  have hb:=h4 (bktB e.name)
  have hbe : bktE (e :: es) (bktB e.name) = 1 + bktE es (bktB e.name):=by
   show (if bktB e.name = bktB e.name then 1 else 0) + bktE es (bktB e.name) = _
   rw [if_pos rfl]
  have hbad : entBad is p e = false:=by
   have ha:=atV_ge.2 he.2.2
   unfold entBad
   rw [Bool.or_eq_false_iff,Bool.or_eq_false_iff,Bool.or_eq_false_iff]
   refine ⟨⟨⟨?_,?_⟩,?_⟩,?_⟩
   ·rw [decide_eq_false_iff_not];intro h;exact h he.1
   ·cases p with
    | none => rfl
    | some q =>
     have:=h3 q e rfl rfl
     simp [this]
   ·rw [decide_eq_false_iff_not];exact he.2.1
   ·rw [decide_eq_false_iff_not];omega
  unfold entsG
  rw [if_neg (by rw [hbad];decide),if_neg (by omega)]
  refine entsG_of is es _ _ (fun x hx => h1 x (by simp [hx])) h2.tail (fun q x hq hx => ?_) (fun b => ?_)
  ·cases hq
   exact h2 0 1 e x (by omega) rfl (by simpa using hx)
  ·have hbb:=h4 b
   have hbs : bktE (e :: es) b = (if bktB e.name = b then 1 else 0) + bktE es b:=rfl
   by_cases hq : b = bktB e.name
   ·rw [if_pos hq]
    rw [hbs,if_pos hq.symm] at hbb
    omega
   ·rw [if_neg hq]
    rw [hbs,if_neg (fun e2 => hq e2.symm)] at hbb
    omega
theorem entsV_iff {is : List Ino} {es : List En} : entsV is es = true ↔ EntsOk is es:=by
 constructor
 ·intro h
  obtain ⟨h1,h2⟩:=entsG_each is es _ _ h
  exact ⟨h1,(entsG_rise is es _ _ h).1,fun b => by have:=h2 b (by omega);omega⟩
 ·intro h
  exact entsG_of is es _ _ h.each h.rise (fun q x hq => by cases hq) (fun b => .inr (by have:=h.bkt b;omega))
theorem opensG_of (is : List Ino) (n : Nat) : ∀ (ds : List Ds) (p : Option Ds),(∀ d ∈ ds,dsBad is n d = false) → RiseD ds → (∀ q x,p = some q → ds[0]? = some x → ltD q x) → opensG is n ds p = true
 | [],p,_,_,_ => rfl
 | d :: ds, p, h1, h2, h3 => by
  have hp : dsPrev p d = false:=by
   cases p with
   | none => rfl
   | some q =>
    have:=h3 q d rfl rfl
    unfold ltD at this
    simp only [dsPrev,Bool.or_eq_false_iff,Bool.and_eq_false_iff,decide_eq_false_iff_not]
    omega
  unfold opensG
  rw [if_neg (by rw [h1 d (by simp)];decide),if_neg (by rw [hp];decide)]
  refine opensG_of is n ds _ (fun x hx => h1 x (by simp [hx])) (fun i j x y hij hx hy => h2 (i + 1) (j + 1) x y (by omega) (by simpa using hx) (by simpa using hy)) (fun q x hq hx => ?_)
  cases hq
  exact h2 0 1 d x (by omega) rfl (by simpa using hx)
structure Frm (s : St) : Prop where
 m1 : 1 ≤ s.made.length
 m8 : s.made.length ≤ 8
 mr : ∀ m ∈ s.made,0 ≤ m ∧ m ≤ 32
 rise : RiseI s.inos
 root : ∃ x ∈ s.inos,x.num = 1 ∧ x.dir = true
 given : ∀ x ∈ s.inos,x.num ≠ 1 → givenV s.made x.num = true
 dirs : ∀ x ∈ s.inos,x.dir = true → x.data.size = 0 ∧ EntsOk s.inos x.ents
 files : ∀ x ∈ s.inos,x.dir = false → x.ents = [] ∧ x.data.size ≤ 256
 opn : ∀ d ∈ s.opn,0 ≤ d.core ∧ d.core < (s.made.length : Int) ∧ 0 ≤ d.fd ∧ d.fd < 4 ∧ ∃ y ∈ s.inos,y.num = d.num ∧ y.dir = false
 riseD : RiseD s.opn
structure Had (s : St) : Prop where
 one : ∀ x ∈ s.inos,x.num ≠ 1 → x.dir = true → linkI s.inos x.num = 1 ∧ Rn s.inos x.num
 has : ∀ x ∈ s.inos,x.dir = false → Rn s.inos x.num ∨ openB s.opn x.num = true
theorem given_pos {made : List Int} {n : Int} (h : givenV made n = true) : 2 ≤ n:=by
 unfold givenV at h
 by_cases h2 : n < 2
 ·rw [if_pos h2] at h;cases h
 ·omega
theorem RiseI.one {is : List Ino} (h : RiseI is) {x y : Ino} (hx : x ∈ is) (hy : y ∈ is) (hn : x.num = y.num) : x = y:=by
 obtain ⟨i,hi⟩:=List.getElem?_of_mem hx
 obtain ⟨j,hj⟩:=List.getElem?_of_mem hy
 rcases Nat.lt_trichotomy i j with h1 | h1 | h1
 ·have:=h i j x y h1 hi hj;omega
 ·subst h1
  rw [hi] at hj
  exact Option.some.inj hj
 ·have:=h j i y x h1 hj hi;omega
theorem Reach.num {is : List Ino} (hr : RiseI is) {k : Nat} (h : Reach is k) : ∃ x,is[k]? = some x ∧ Rn is x.num:=by
 induction h with
 | root k hk =>
  rcases atV_cases is 1 with ⟨h1,_⟩ | ⟨j,x,h1,h2,h3,_⟩
  ·omega
  ·have : j = k:=by omega
   subst this
   exact ⟨x,h2,by rw [h3];exact .root⟩
 | step k j x e hk hx hd he hat ih =>
  obtain ⟨x',hx',hrn⟩:=ih
  rw [hx] at hx'
  cases hx'
  rcases atV_cases is e.num with ⟨h1,_⟩ | ⟨i,y,h1,h2,h3,_⟩
  ·omega
  ·have : i = j:=by omega
   subst this
   exact ⟨y,h2,by rw [h3];exact .step hrn (List.mem_of_getElem? hx) hd he⟩
theorem Rn.place {is : List Ino} (hr : RiseI is) (h1 : ∃ x ∈ is,x.num = 1 ∧ x.dir = true) (hw : ∀ x ∈ is,x.dir = true → ∀ e ∈ x.ents,∃ y ∈ is,y.num = e.num) {n : Int} (h : Rn is n) : ∃ (k : Nat) (x : Ino),is[k]? = some x ∧ x.num = n ∧ Reach is k:=by
 induction h with
 | root =>
  obtain ⟨x,hx,hn,_⟩:=h1
  obtain ⟨k,hk⟩:=List.getElem?_of_mem hx
  exact ⟨k,x,hk,hn,.root k (atV_of_rise hr hk hn)⟩
 | step hrn hx hd he ih =>
  rename_i x e
  obtain ⟨k,z,hz,hzn,hzr⟩:=ih
  have : z = x:=hr.one (List.mem_of_getElem? hz) hx hzn
  subst this
  obtain ⟨y,hy,hyn⟩:=hw z hx hd e he
  obtain ⟨j,hj⟩:=List.getElem?_of_mem hy
  exact ⟨j,y,hj,hyn,.step k j z e hzr hz hd he (atV_of_rise hr hj hyn)⟩
theorem Good.frm {s : St} (h : Good s) : Frm s ∧ Had s:=by
 obtain ⟨r,hr,hrn,hrd⟩:=h.root
 have hri:=h.riseI
 have hidx : ∀ x ∈ s.inos,x.num ≠ 1 → ∃ i,0 < i ∧ s.inos[i]? = some x:=fun x hx hn => by
  obtain ⟨i,hi⟩:=List.getElem?_of_mem hx
  rcases Nat.eq_zero_or_pos i with rfl | hp
  ·rw [hr] at hi
   cases hi
   exact absurd hrn hn
  ·exact ⟨i,hp,hi⟩
 refine ⟨⟨h.m1,h.m8,h.mr,hri,⟨r,List.mem_of_getElem? hr,hrn,hrd⟩,?_,fun x hx hd => ⟨(h.dirs x hx hd).1,entsV_iff.1 (h.dirs x hx hd).2⟩,h.files,?_,h.riseD⟩,?_,?_⟩
 ·intro x hx hn
  obtain ⟨i,hi,hi2⟩:=hidx x hx hn
  exact h.given i x hi hi2
 ·intro d hd
  obtain ⟨a1,a2,a3,a4,i,x,_,a5,a6,a7⟩:=h.opens d hd
  exact ⟨a1,a2,a3,a4,x,List.mem_of_getElem? a5,a6,a7⟩
 ·intro x hx hn hd
  obtain ⟨i,hi,hi2⟩:=hidx x hx hn
  obtain ⟨h1,h2⟩:=h.one i x hi hi2 hd
  obtain ⟨y,hy,hyr⟩:=h2.num hri
  rw [hi2] at hy
  cases hy
  exact ⟨h1,hyr⟩
 ·intro x hx hd
  obtain ⟨i,hi⟩:=List.getElem?_of_mem hx
  rcases h.has i x hi hd with h2 | h2
  ·obtain ⟨y,hy,hyr⟩:=h2.num hri
   rw [hi] at hy
   cases hy
   exact .inl hyr
  ·exact .inr h2
theorem Frm.good {s : St} (h : Frm s) (g : Had s) : Good s:=by
 have hi0 : ∃ x,s.inos[0]? = some x ∧ x.num = 1 ∧ x.dir = true:=by
  obtain ⟨x,hx,hn,hd⟩:=h.root
  obtain ⟨i,hi⟩:=List.getElem?_of_mem hx
  rcases Nat.eq_zero_or_pos i with rfl | hp
  ·exact ⟨x,hi,hn,hd⟩
  ·exfalso
   have hl : 0 < s.inos.length:=by have:=(List.getElem?_eq_some_iff.1 hi).1;omega
   have h0:=List.getElem?_eq_getElem hl
   have h1:=h.rise 0 i _ x hp h0 hi
   have h2:=given_pos (h.given _ (List.mem_of_getElem? h0) (by omega))
   omega
 have hne : ∀ (i : Nat) (x : Ino),0 < i → s.inos[i]? = some x → x.num ≠ 1:=fun i x hi hx hn => by
  obtain ⟨r,hr,hrn,_⟩:=hi0
  have:=h.rise 0 i r x hi hr hx
  omega
 have hw : ∀ x ∈ s.inos,x.dir = true → ∀ e ∈ x.ents,∃ y ∈ s.inos,y.num = e.num:=fun x hx hd e he => ((h.dirs x hx hd).2.each e he).2.2
 have hpl : ∀ {i : Nat} {x : Ino},s.inos[i]? = some x → Rn s.inos x.num → Reach s.inos i:=fun {i x} hx hrn => by
  obtain ⟨k,y,hy,hyn,hyr⟩:=hrn.place h.rise h.root hw
  have : k = i:=by
   rcases Nat.lt_trichotomy k i with h1 | h1 | h1
   ·have:=h.rise k i y x h1 hy hx;omega
   ·exact h1
   ·have:=h.rise i k x y h1 hx hy;omega
  subst this
  exact hyr
 refine ⟨h.m1,h.m8,h.mr,hi0,?_,fun i x hi hx => h.given x (List.mem_of_getElem? hx) (hne i x hi hx),fun x hx hd => ⟨(h.dirs x hx hd).1,entsV_iff.2 (h.dirs x hx hd).2⟩,h.files,?_,?_,?_⟩
 ·rw [List.pairwise_iff_getElem]
  intro i j hi hj hij
  exact h.rise i j _ _ hij (List.getElem?_eq_getElem hi) (List.getElem?_eq_getElem hj)
 ·refine opensG_of _ _ _ _ (fun d hd => ?_) h.riseD (fun q x hq => by cases hq)
  obtain ⟨a1,a2,a3,a4,y,hy,hyn,hyd⟩:=h.opn d hd
  obtain ⟨j,hj⟩:=List.getElem?_of_mem hy
  have hat:=atV_of_rise h.rise hj hyn
  unfold dsBad
  simp only [Bool.or_eq_false_iff,decide_eq_false_iff_not]
  refine ⟨⟨⟨⟨by omega,by omega⟩,by omega⟩,by omega⟩,?_⟩
  rw [hat,inoAt_nat,hj]
  exact hyd
 ·intro i x hi hx hd
  obtain ⟨h1,h2⟩:=g.one x (List.mem_of_getElem? hx) (hne i x hi hx) hd
  exact ⟨h1,hpl hx h2⟩
 ·intro i x hx hd
  rcases g.has x (List.mem_of_getElem? hx) hd with h2 | h2
  ·exact .inl (hpl hx h2)
  ·exact .inr h2
end Go.Proofs.YtndcloohcfhejaaGreat
