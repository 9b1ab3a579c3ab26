/- Parts of the proof, side by side: ModelListsW, OpenTexts2. -/
import Derived.Test.YtndcloohcfhejaaGreatM43
import Derived.Test.YtndcloohcfhejaaGreatDoRoundR
import Derived.SizedLaws
set_option linter.unusedVariables false
set_option linter.unusedSimpArgs false
namespace Go.Proofs.YtndcloohcfhejaaGreat
open Go.RowKit
theorem Do_roundL (s : St) (P : ByteArray) (hp : P.size ≤ 140737488355328) (v : Value) (w u : World) (h : StAt none w v s) (R : St × Re) (hR : doV s ⟨0,0,0,0,0,P,⟨#[]⟩,⟨#[]⟩⟩ = R) (hu : Below w.heap.size w u) :
  Calls Tryz.prog 15 #[v,caV ⟨0,0,0,0,0,P,⟨#[]⟩,⟨#[]⟩⟩] u fun e w' => ∃ A k c E l d D i f z1 z2 z3 z4 z5 z6 z7,e = .returned (.tuple #[.agg #[.slice A k c,.slice E l d,.slice D i f],.agg #[.int .i64 R.2.code,.int .i64 z1,.int .i64 z2,.bool z3,.string z4,.slice z5 z6 z7]]) ∧ StAt (some w.heap.size) w' (.agg #[.slice A k c,.slice E l d,.slice D i f]) R.1 ∧ Below u.heap.size u w' ∧ Below w.heap.size w w':=by
 have hdo:=mDo_any v s ⟨0,0,0,0,0,P,⟨#[]⟩,⟨#[]⟩⟩ u (h.below hu) hp (by show (0 : Nat) ≤ _;omega) (by show (0 : Nat) ≤ _;omega)
 rw [hR] at hdo
 refine hdo.mono ?_
 rintro e w' ⟨v',rv,rfl,hst,⟨F,f,f',rfl,_⟩,hb'⟩
 obtain ⟨A,k,c,E,l,d,D,i,g,rfl,_⟩:=hst.at_
 exact ⟨A,k,c,E,l,d,D,i,g,_,_,_,_,_,_,_,rfl,hst.lower hu.size,hb',hu.trans (hb'.mono hu.size)⟩
theorem chk_size {b : ByteArray} (h : chkB b = 0) : b.size ≤ 12:=by
 have h1 : checkL b.data.toList = 0:=h
 have h2 : b.data.toList.length = b.size:=by rw [Array.length_toList];rfl
 unfold checkL at h1
 split at h1
 ·omega
 ·omega
set_option maxRecDepth 100000 in
set_option maxHeartbeats 8000000 in
theorem modelLists_walk (w : World) (A : Option Addr) (n c : Nat) (ts : List (List UInt8)) (ht : Texts w A n ts) (hl : ∀ t ∈ ts, t.length ≤ 140737488351232) (hn : n * 16 ≤ 140737488351232) : Calls Tryz.prog 9 #[.slice A n c] w fun e w' => e = .returned (.bool true) ∧ Below w.heap.size w w' := by
 have HT:=Lib.hid ht
 have HL:=Lib.hid hl
 clear ht hl
 go_enter Tryz.func9,Tryz.ntmps9
 go_wp2_with fail
 refine (awake13 _).mono ?_
 rintro ea V1 ⟨rfl,hb1⟩
 have HB:=Lib.hid hb1
 have hw1:=hb1.size
 clear hb1
 go_wp2_with fail
 refine (made_one V1).mono ?_
 rintro eb x0 ⟨v0,rfl,hst,hb1⟩
 obtain ⟨A0,n0,c0,E0,m0,d0,D0,k0,g0,rfl,hI0,-⟩:=hst.at_
 obtain ⟨w0,hV0,hyz0,ho,hb⟩:=box_s x0 (.slice A0 n0 c0) (.slice E0 m0 d0) (.slice D0 k0 g0)
 have HB:=Lib.hid (Cv.next HB.out (Cv.next hb1 hb))
 have HS0:=Lib.hid ((hst.lower (Nat.zero_le _)).below hb)
 have hxz0:=hb1.size
 have HO0:=Lib.hid ho
 have HN0:=Lib.hid hI0.1
 clear hst hb1 ho hb hI0
 obtain ⟨i0,i1,i2,_⟩:=HO0.out.get
 clear i0 i1 i2
 have HI:=Lib.hid inE_start
 go_wp2_with fail
 go_loopw [4,5] (fun mm i wr => ∃ (q m : Nat) (s : St) (A0 : Option Addr) (n0 c0 : Nat) (E0 : Option Addr) (m0 d0 : Nat) (D0 : Option Addr) (k0 g0 : Nat),mm = .int .i64 m ∧ i = .int .i64 q ∧ q ≤ 20 ∧ q ≤ n ∧ m ≤ q ∧ InE s m ∧ OutAt wr x0.heap.size (.slice A0 n0 c0) (.slice E0 m0 d0) (.slice D0 k0 g0) ∧ StAt (some 0) wr (.agg #[.slice A0 n0 c0,.slice E0 m0 d0,.slice D0 k0 g0]) s ∧ Below w.heap.size w wr) (fun mm i _ => 20 - (intOf i).toNat)
 case atStart => exact ⟨0,0,_,A0,n0,c0,E0,m0,d0,D0,k0,g0,rfl,rfl,by omega,by omega,by omega,HI.out,HO0.out,HS0.out,HB.out⟩
 case round =>
  clear HO0 HS0 HB HI HN0
  obtain ⟨q,m,s,A0,n0,c0,E0,m0,d0,D0,k0,g0,rfl,rfl,hq,hqn,hmq,hin,ho,hs,hb⟩:=hrel
  have HO0:=Lib.hid ho
  have HS0:=Lib.hid hs
  have HB:=Lib.hid hb
  have HI:=Lib.hid hin
  have hlt0:=(Array.getElem?_eq_some_iff.1 ho).1
  clear ho hs hb hin
  by_cases hlt : q < n ∧ q < 20
  ·have g1 : (q : Int) < (n : Int):=by omega
   have g2 : (q : Int) < 20:=by omega
   obtain ⟨g,off,rfl,hg,hcell⟩:=(HT.out.below HB.out).2 (by omega)
   have hc0:=hcell q hlt.1
   obtain ⟨NM,hNM⟩ : ∃ NM,ts.getD q [] = NM:=⟨_,rfl⟩
   have hnl : NM.length ≤ 140737488351232:=by
    have h9 : q < ts.length:=by rw [HT.out.1];exact hlt.1
    rw [← hNM,List.getD_eq_getElem?_getD,List.getElem?_eq_getElem h9]
    exact HL.out _ (List.getElem_mem h9)
   have hc1 : wr.cell? ⟨g,off + q,none⟩ = some (.string ⟨NM.toArray⟩):=by rw [hc0,hNM];rfl
   obtain ⟨NB,hNB⟩ : ∃ NB : ByteArray,(⟨NM.toArray⟩ : ByteArray) = NB:=⟨_,rfl⟩
   rw [hNB] at hc1
   have hnb : NB.size ≤ 140737488351232:=by rw [← hNB];show NM.toArray.size ≤ _;rw [List.size_toArray];exact hnl
   obtain ⟨PE,hPE⟩ : ∃ PE,(⟨#[47,101,47]⟩ : ByteArray) ++ NB = PE:=⟨_,rfl⟩
   have hpe : PE.size = 3 + NB.size:=by rw [← hPE,ByteArray.size_append];rfl
   have HPE:=Lib.hid hPE
   have hcc1 : ¬ 9223372036854775807 < (⟨#[47,101,47]⟩ : ByteArray).size + NB.size:=by show ¬ 9223372036854775807 < 3 + NB.size;omega
   have hcc2 : ¬ 9223372036854775807 < 3 + NB.size:=by omega
   have i9 : (0 : Int) ≤ (q : Int):=by omega
   have hqt : (q : Int).toNat = q:=by omega
   clear hcell hc0 hNM hNB
   have hgl : g < wr.heap.size:=hg
   have hl6 : x0.heap.size < wr.heap.size:=hlt0
   obtain ⟨R,hR⟩ : ∃ R,doV s ⟨0,0,0,0,0,PE,⟨#[]⟩,⟨#[]⟩⟩ = R:=⟨_,rfl⟩
   have HC:=Lib.hid (fun u => Do_roundL s PE (by omega) _ wr u HS0.out.weak R hR)
   have HRE:=Lib.hid hR
   have HOUT:=Lib.hid HO0.out
   obtain ⟨s0,s1,s2,sf⟩:=HO0.out.get
   clear hR sf
   go_upto_region 8 with fail
   go_cut [6,7] (fun p p2 wx => ∃ b b2 A k c E l d D i f z1 z2 z3 z4 z5 z6 z7,p = .pointer (some ⟨b,0,.none⟩) ∧ p2 = .pointer (some ⟨b2,0,.none⟩) ∧ OutAt wx b (.slice A k c) (.slice E l d) (.slice D i f) ∧ ResAt wx b2 (.int .i64 R.2.code) (.int .i64 z1) (.int .i64 z2) (.bool z3) (.string z4) (.slice z5 z6 z7) ∧ StAt (some wr.heap.size) wx (.agg #[.slice A k c,.slice E l d,.slice D i f]) R.1 ∧ Below wr.heap.size wr wx ∧ wr.heap.size ≤ b ∧ wr.heap.size ≤ b2)
   case first =>
    have q2 : (q : Int).toNat = q:=by omega
    have z1 : wr.heap.size ≠ x0.heap.size:=by omega
    have z2 : wr.heap.size ≠ g:=by omega
    have z3 : wr.heap.size + 1 ≠ x0.heap.size:=by omega
    have z4 : wr.heap.size + 1 ≠ g:=by omega
    go_region_held3 (fun w' => w'.cell? ⟨x0.heap.size,0,none⟩ = some (.slice A0 n0 c0) ∧ w'.cell? ⟨x0.heap.size,1,none⟩ = some (.slice E0 m0 d0) ∧ w'.cell? ⟨x0.heap.size,2,none⟩ = some (.slice D0 k0 g0) ∧
     w'.cell? ⟨g,off + q,none⟩ = some (.string NB))
     (first | go_keep | (trace_state;fail))
     ((go_at_call 15;refine (HC.out _ (by first | exact Cv.drewN_below (Below.refl _ _) 1 | exact (Cv.drewN_below (Below.refl _ _) 1).alloc (by simp) _ | exact ((Cv.drewN_below (Below.refl _ _) 1).alloc (by simp) _).alloc (by simp) _)).mono ?_;rintro e5 w5 ⟨A5,n5,c5,E5,m5,d5,D5,i5,f5,v1,v2,v3,v4,v5,v6,v7,rfl,hst5,hb5,hbw5⟩;have g0:=(hbw5.cell (p:=⟨x0.heap.size,0,none⟩) hl6).trans s0;have g1:=(hbw5.cell (p:=⟨x0.heap.size,1,none⟩) hl6).trans s1;have g2:=(hbw5.cell (p:=⟨x0.heap.size,2,none⟩) hl6).trans s2;have j0:=(hbw5.cell (p:=⟨g,off + q,none⟩) hgl).trans hc1;(first | (have am:=row_kept hb5 (al2a wr (.cells #[.slice none 0 0,.slice none 0 0,.slice none 0 0] 27) (.cells #[.int .i64 0,.int .i64 0,.int .i64 0,.bool false,.string ⟨#[]⟩,.slice none 0 0] 31));have an:=row_kept hb5 (al2b wr (.cells #[.slice none 0 0,.slice none 0 0,.slice none 0 0] 27) (.cells #[.int .i64 0,.int .i64 0,.int .i64 0,.bool false,.string ⟨#[]⟩,.slice none 0 0] 31));obtain ⟨m0,m1,m2',mf⟩:=OutAt.get am;obtain ⟨n0',n1',n2',n3',n4',n5',nf⟩:=ResAt.get an;have lm:=(Array.getElem?_eq_some_iff.1 am).1;have ln:=(Array.getElem?_eq_some_iff.1 an).1;have nm : w5.heap.size ≠ wr.heap.size:=Nat.ne_of_gt lm;have HAM:=Lib.hid am;have nm':=Ne.symm nm;have y1 : w5.heap.size ≠ x0.heap.size:=(by omega);have y2 : w5.heap.size ≠ g:=(by omega);have nn : w5.heap.size ≠ wr.heap.size + 1:=Nat.ne_of_gt ln;have nn':=Ne.symm nn;have HAN:=Lib.hid an;clear am an) | (have am:=row_kept hb5 (al2a wr (.cells #[.int .i64 0,.int .i64 0,.int .i64 0,.bool false,.string ⟨#[]⟩,.slice none 0 0] 31) (.cells #[.slice none 0 0,.slice none 0 0,.slice none 0 0] 27));have an:=row_kept hb5 (al2b wr (.cells #[.int .i64 0,.int .i64 0,.int .i64 0,.bool false,.string ⟨#[]⟩,.slice none 0 0] 31) (.cells #[.slice none 0 0,.slice none 0 0,.slice none 0 0] 27));obtain ⟨m0,m1,m2',mf⟩:=OutAt.get an;obtain ⟨n0',n1',n2',n3',n4',n5',nf⟩:=ResAt.get am;have lm:=(Array.getElem?_eq_some_iff.1 am).1;have ln:=(Array.getElem?_eq_some_iff.1 an).1;have nm : w5.heap.size ≠ wr.heap.size:=Nat.ne_of_gt lm;have HAM:=Lib.hid am;have nm':=Ne.symm nm;have y1 : w5.heap.size ≠ x0.heap.size:=(by omega);have y2 : w5.heap.size ≠ g:=(by omega);have nn : w5.heap.size ≠ wr.heap.size + 1:=Nat.ne_of_gt ln;have nn':=Ne.symm nn;have HAN:=Lib.hid an;clear am an) | (have am:=row_kept hb5 (al1 wr (.cells #[.slice none 0 0,.slice none 0 0,.slice none 0 0] 27));obtain ⟨m0,m1,m2',mf⟩:=OutAt.get am;have lm:=(Array.getElem?_eq_some_iff.1 am).1;have nm : w5.heap.size ≠ wr.heap.size:=Nat.ne_of_gt lm;have HAM:=Lib.hid am;have nm':=Ne.symm nm;have y1 : w5.heap.size ≠ x0.heap.size:=(by omega);have y2 : w5.heap.size ≠ g:=(by omega);clear am) | (have am:=row_kept hb5 (al1 wr (.cells #[.int .i64 0,.int .i64 0,.int .i64 0,.bool false,.string ⟨#[]⟩,.slice none 0 0] 31));obtain ⟨m0,m1,m2',m3,m4,m5',mf⟩:=ResAt.get am;have lm:=(Array.getElem?_eq_some_iff.1 am).1;have nm : w5.heap.size ≠ wr.heap.size:=Nat.ne_of_gt lm;have HAM:=Lib.hid am;have nm':=Ne.symm nm;have y1 : w5.heap.size ≠ x0.heap.size:=(by omega);have y2 : w5.heap.size ≠ g:=(by omega);clear am) | skip)))
    all_goals (
     go_wp2_with fail
     go_meet
     clear HB HC HOUT HS0 HO0 HT HL
     first
      | with_reducible exact ⟨_,_,A5,n5,c5,E5,m5,d5,D5,i5,f5,v1,v2,v3,v4,v5,v6,v7,rfl,rfl,roundR1 hst5 hbw5⟩
      | with_reducible exact ⟨_,_,A5,n5,c5,E5,m5,d5,D5,i5,f5,v1,v2,v3,v4,v5,v6,v7,rfl,rfl,roundR2 hst5 hbw5⟩
      | with_reducible exact ⟨_,_,A5,n5,c5,E5,m5,d5,D5,i5,f5,v1,v2,v3,v4,v5,v6,v7,rfl,rfl,roundR3 hst5 hbw5 HAM.out⟩
      | with_reducible exact ⟨_,_,A5,n5,c5,E5,m5,d5,D5,i5,f5,v1,v2,v3,v4,v5,v6,v7,rfl,rfl,roundR5 hst5 hbw5 HAM.out⟩
      | with_reducible exact ⟨_,_,A5,n5,c5,E5,m5,d5,D5,i5,f5,v1,v2,v3,v4,v5,v6,v7,rfl,rfl,roundR4 hst5 hbw5 HAM.out HAN.out⟩
      | with_reducible exact ⟨_,_,A5,n5,c5,E5,m5,d5,D5,i5,f5,v1,v2,v3,v4,v5,v6,v7,rfl,rfl,roundR6 hst5 hbw5 HAM.out HAN.out⟩)
   case rest =>
    obtain ⟨b,b2,A5,n5,c5,E5,m5,d5,D5,i5,f5,v1,v2,v3,v4,v5,v6,v7,rfl,rfl,ho5,hr5,hst5,hb5,hle,hle2⟩:=hcut
    obtain ⟨r0,r1,r2,r3,r4,r5,_⟩:=hr5.get
    have hc5 : wc.cell? ⟨g,off + q,none⟩ = some (.string NB):=(hb5.cell (p:=⟨g,off + q,none⟩) hgl).trans hc1
    have hsz:=hb5.size
    replace HO0:=Lib.hid (HO0.out.mv hb5)
    replace HS0:=Lib.hid (HS0.out.below hb5)
    have HBn:=Lib.hid (Cv.next HB.out hb5)
    have HB5:=Lib.hid hb5
    have HST5:=Lib.hid hst5
    have HO5:=Lib.hid ho5
    obtain ⟨CO,hCO⟩ : ∃ CO,R.2.code = CO:=⟨_,rfl⟩
    rw [hCO] at r0
    have HCO:=Lib.hid hCO
    clear hst5 hb5 ho5 hr5 s0 s1 s2 hc1 hCO
    have hqw : IntKind.i64.wrap ((q : Int) + 1) = (q : Int) + 1:=IntWalk.i64_in _ (by omega)
    have hmw : IntKind.i64.wrap ((m : Int) + 1) = (m : Int) + 1:=IntWalk.i64_in _ (by omega)
    by_cases hco : CO = 0
    ·subst hco
     go_wp2_with fail
     refine (refcheck_any NB wc (by omega)).mono ?_
     rintro e9 w9 ⟨rfl,rfl⟩
     obtain ⟨CK,hCK⟩ : ∃ CK,checkL NB.data.toList = CK:=⟨_,rfl⟩
     rw [hCK]
     by_cases hck : CK = 0
     ·subst hck
      have HST:=Lib.hid (HI.out.step (nm:=NB) hCK (by rw [show pathE NB = PE from HPE.out];exact HRE.out) HCO.out)
      clear hCK
      obtain ⟨s0,s1,s2,sf⟩:=HO0.out.get
      have sf0:=sf 0
      have sf1:=sf 1
      have sf2:=sf 2
      obtain ⟨y0,y1,y2,_⟩:=HO5.out.get
      have hne : b ≠ x0.heap.size:=by omega
      have hne2:=Ne.symm hne
      obtain ⟨z1,hz1,hoy,kC,hbC⟩:=HO0.out.three (.slice A5 n5 c5) (.slice E5 m5 d5) (.slice D5 i5 f5)
      have HS2:=Lib.hid ((HST5.out.lower (Nat.zero_le _)).keep3 (kC _ (by decide)) (kC _ (by decide)) (kC _ (by decide)) (kC _ (by decide)))
      have HO2:=Lib.hid hoy
      have HB2:=Lib.hid (hbC w.heap.size w (by omega) HBn.out)
      clear hoy kC hbC sf
      go_wp2_with fail
      go_roundw
      case rel => exact ⟨q + 1,m + 1,R.1,A5,n5,c5,E5,m5,d5,D5,i5,f5,by go_num,by go_num,by omega,by omega,by omega,HST.out,HO2.out,HS2.out,HB2.out⟩
      case measure => simp [intOf];omega
     ·have qk : (((CK : Nat) : Int) == 0) = false:=by rw [beq_eq_false_iff_ne];omega
      clear hck hCK
      go_wp2_with fail
      go_roundw
      case rel => exact ⟨q + 1,m,s,A0,n0,c0,E0,m0,d0,D0,k0,g0,rfl,by go_num,by omega,by omega,by omega,HI.out,HO0.out,HS0.out,HBn.out⟩
      case measure => simp [intOf];omega
    ·have qc : (CO == 0) = false:=by rw [beq_eq_false_iff_ne];exact hco
     clear hco
     go_wp2_with fail
     go_roundw
     case rel => exact ⟨q + 1,m,s,A0,n0,c0,E0,m0,d0,D0,k0,g0,rfl,by go_num,by omega,by omega,by omega,HI.out,HO0.out,HS0.out,HBn.out⟩
     case measure => simp [intOf];omega
  ·clear HT HL
   by_cases hq2 : q < n
   ·have g1 : (q : Int) < (n : Int):=by omega
    have g2 : decide ((q : Int) < 20) = false:=by rw [decide_eq_false_iff_not];omega
    obtain ⟨es,hel,hld,hchk,hpair,hstat⟩:=HI.out.list
    obtain ⟨l1,l2⟩:=HI.out.last
    have HEL:=Lib.hid hel
    have HLD:=Lib.hid hld
    have HCHK:=Lib.hid hchk
    have HPAIR:=Lib.hid hpair
    have HSTAT:=Lib.hid hstat
    have HL1:=Lib.hid l1
    have HL2:=Lib.hid l2
    clear hel hld hchk hpair hstat l1 l2
    obtain ⟨i0,i1,i2,_⟩:=HO0.out.get
    go_wp2_with fail
    have hdo:=mDo_any (.agg #[.slice A0 n0 c0,.slice E0 m0 d0,.slice D0 k0 g0]) (s) ⟨12,0,0,0,0,⟨#[47,101]⟩,⟨#[]⟩,⟨#[]⟩⟩ wr HS0.out.weak (by show (2 : Nat) ≤ _;omega) (by show (0 : Nat) ≤ _;omega) (by show (0 : Nat) ≤ _;omega)
    obtain ⟨R1,hR1⟩ : ∃ R,doV (s) ⟨12,0,0,0,0,⟨#[47,101]⟩,⟨#[]⟩,⟨#[]⟩⟩ = R:=⟨_,rfl⟩
    rw [hR1] at hdo
    have HR1E:=Lib.hid hR1
    refine hdo.mono ?_
    clear hdo hR1
    rintro e1 x1 ⟨v1,rv1,rfl,hst,⟨F1,f1,p1,rfl,hokF,hnF⟩,hb1⟩
    obtain ⟨A1,n1,c1,E1,m1,d1,D1,k1,g1,rfl,hIk,hDk,-⟩:=hst.at_
    obtain ⟨U1,w1,hU1,hV1,hy1,hyz1,ho,hr,hb⟩:=box_sr x1 (.slice A1 n1 c1) (.slice E1 m1 d1) (.slice D1 k1 g1) R1.2.code R1.2.fd R1.2.num R1.2.dir R1.2.data F1 f1 p1
    have hbb : Below wr.heap.size wr w1:=Cv.next hb1 hb
    replace HO0:=Lib.hid (HO0.out.mv hbb)
    replace HS0:=Lib.hid (HS0.out.below hbb)
    replace HB:=Lib.hid (Cv.next HB.out hbb)
    clear i0 i1 i2
    have hxz1:=hb1.size
    have HR1:=Lib.hid hr
    have hsz1:=hbb.size
    have HNF:=Lib.hid (hnF.below hb)
    clear hst hb1 ho hr hb hbb hokF hnF hIk hDk
    have fa : R1.2.code = 0:=by rw [← HR1E.out,HLD.out]
    have fb : R1.2.names = es.map (·.name):=by rw [← HR1E.out,HLD.out]
    rw [fb] at HNF
    obtain rfl : m = f1:=by rw [← HEL.out,← HNF.out.1,List.length_map]
    obtain ⟨r0,r1,r2,r3,r4,r5,_⟩:=HR1.out.get
    rw [fa] at r0
    clear fa fb
    obtain ⟨i0,i1,i2,_⟩:=HO0.out.get
    go_wp2_with fail
    go_loopw [10] (fun i wr2 => ∃ r : Nat,i = .int .i64 r ∧ r ≤ m ∧ OutAt wr2 x0.heap.size (.slice A0 n0 c0) (.slice E0 m0 d0) (.slice D0 k0 g0) ∧ StAt (some 0) wr2 (.agg #[.slice A0 n0 c0,.slice E0 m0 d0,.slice D0 k0 g0]) s ∧ ResAt wr2 (x1.heap.size + 1) (.int .i64 R1.2.code) (.int .i64 R1.2.fd) (.int .i64 R1.2.num) (.bool R1.2.dir) (.string R1.2.data) (.slice F1 m p1) ∧ NmsAt (some wr.heap.size) wr2 F1 m (es.map (·.name)) ∧ Below w.heap.size w wr2) (fun i _ => m - (intOf i).toNat)
    case atStart => exact ⟨0,rfl,by omega,HO0.out,HS0.out,HR1.out,HNF.out,HB.out⟩
    case round =>
     clear HO0 HS0 HR1 HNF HB r0 r1 r2 r3 r4 r5 i0 i1 i2
     obtain ⟨r,rfl,hrm,ho,hs,hr,hnf,hb⟩:=hrel
     have HO0:=Lib.hid ho
     have HS0:=Lib.hid hs
     have HR1:=Lib.hid hr
     have HNF:=Lib.hid hnf
     have HB:=Lib.hid hb
     have hl6:=(Array.getElem?_eq_some_iff.1 ho).1
     have hl7:=hr.lt
     clear ho hs hr hnf hb
     by_cases hrl : r < m
     ·have j1 : (r : Int) < (m : Int):=by omega
      obtain ⟨g,off,rfl,hg,hmine,hc⟩:=HNF.out.2 (by omega)
      have hrw : IntKind.i64.wrap ((r : Int) + 1) = (r : Int) + 1:=IntWalk.i64_in _ (by omega)
      have i9 : (0 : Int) ≤ (r : Int):=by omega
      have hrt : (r : Int).toNat = r:=by omega
      have hre : r < es.length:=by rw [HEL.out];exact hrl
      obtain ⟨NB,hNB⟩ : ∃ NB,es[r].name = NB:=⟨_,rfl⟩
      have hc0 : wr.cell? ⟨g,off + r,none⟩ = some (.string NB):=hc r NB (by rw [List.getElem?_map,List.getElem?_eq_getElem hre,← hNB];rfl)
      have hst:=HSTAT.out _ (List.getElem_mem hre)
      have hsz : NB.size ≤ 12:=by rw [← hNB];exact chk_size (HCHK.out _ (List.getElem_mem hre))
      rw [hNB] at hst
      have HST:=Lib.hid hst
      have hcc1 : ¬ 9223372036854775807 < (⟨#[47,101,47]⟩ : ByteArray).size + NB.size:=by show ¬ 9223372036854775807 < 3 + NB.size;omega
      have hcc2 : ¬ 9223372036854775807 < 3 + NB.size:=by omega
      have hpe : (pathE NB).size ≤ 140737488355328:=by unfold pathE;rw [ByteArray.size_append];show 3 + NB.size ≤ _;omega
      clear hst hmine
      by_cases hr0 : 0 < r
      ·have j2 : (0 : Int) < (r : Int):=by omega
       obtain ⟨q,hq⟩ : ∃ q,r = q + 1:=⟨r - 1,by omega⟩
       have hqe : q < es.length:=by omega
       have hqr : IntKind.i64.wrap ((r : Int) - 1) = (q : Int):=by rw [IntWalk.i64_in _ (by omega)];omega
       have i8 : (0 : Int) ≤ (q : Int):=by omega
       have j3 : (q : Int) < (m : Int):=by omega
       obtain ⟨PB,hPB⟩ : ∃ PB,es[q].name = PB:=⟨_,rfl⟩
       have hc1 : wr.cell? ⟨g,off + q,none⟩ = some (.string PB):=hc q PB (by rw [List.getElem?_map,List.getElem?_eq_getElem hqe,← hPB];rfl)
       have hsp : PB.size ≤ 12:=by rw [← hPB];exact chk_size (HCHK.out _ (List.getElem_mem hqe))
       have hlt9 : ltN PB NB = true:=by rw [← hPB,← hNB];exact (List.pairwise_iff_getElem.1 HPAIR.out) q r hqe hre (by omega)
       have HLT:=Lib.hid hlt9
       have HQ:=Lib.hid hq
       clear hq hlt9 hPB hNB hc hre hqe
       obtain ⟨r0,r1,r2,r3,r4,r5,_⟩:=HR1.out.get
       obtain ⟨i0,i1,i2,_⟩:=HO0.out.get
       go_wp2_with fail
       have HX7 : Hid (∀ X : Ext wr,Calls Tryz.prog 20 #[.string PB,.string NB] X.w fun e w' => e = .returned (.bool true) ∧ Below X.w.heap.size X.w w'):=Lib.hid fun X => (ltn_any PB NB X.w (by omega) (by omega)).mono fun e w' h => ⟨by rw [h.1,HLT.out],by obtain ⟨q7,hq7⟩:=h.2;rw [hq7];exact Cv.drewN_below (Below.refl _ _) q7⟩
       have HX8 : Hid (∀ X : Ext wr,Calls Tryz.prog 17 #[(.agg #[.slice A0 n0 c0,.slice E0 m0 d0,.slice D0 k0 g0]),.agg #[.int .i64 13,.int .i64 0,.int .i64 0,.int .i64 0,.int .i64 0,.string ((⟨#[47,101,47]⟩ : ByteArray) ++ NB),.string ⟨#[]⟩,.string ⟨#[]⟩]] X.w fun e w' => e = .returned (.int .i64 0) ∧ Below X.w.heap.size X.w w'):=Lib.hid fun X => by
        have h:=code13_any (.agg #[.slice A0 n0 c0,.slice E0 m0 d0,.slice D0 k0 g0]) s (⟨13,0,0,0,0,pathE NB,⟨#[]⟩,⟨#[]⟩⟩) X.w (HS0.out.weak.below X.bel) hpe (by show (0 : Nat) ≤ _;omega) (by show (0 : Nat) ≤ _;omega)
        rw [HST.out] at h
        exact h
       have hXc : ∀ (X : Ext wr) (p : Addr),(wr.cell? p).isSome = true → X.w.cell? p = wr.cell? p:=fun X p h => X.cell p h
       refine wp_region_ext (by kernel_rfl) (by kernel_rfl) ?_
       repeat (go_big_quiet_step (first | (go_at_call 20;rename_i X;with_reducible exact Calls.ext_of (HX7.out X)) | (go_at_call 17;rename_i X;with_reducible exact Calls.ext_of (HX8.out X))))
       refine wpQuiet_nil ?_
       rintro z11 ⟨X11z,rfl⟩
       have hbx:=X11z.bel
       clear hXc
       replace HO0:=Lib.hid (HO0.out.mv hbx)
       replace HR1:=Lib.hid (HR1.out.mv hbx)
       replace HS0:=Lib.hid (HS0.out.below hbx)
       replace HNF:=Lib.hid (HNF.out.below hbx)
       replace HB:=Lib.hid (Cv.next HB.out hbx)
       clear r0 r1 r2 r3 r4 r5 i0 i1 i2 hc0 hc1
       clear hbx
       clear HX7 HX8
       go_wp2_with fail
       go_roundw
       case rel => exact ⟨r + 1,by go_num,by omega,HO0.out,HS0.out,HR1.out,HNF.out,HB.out⟩
       case measure => simp [intOf];omega
      ·have j2 : decide ((0 : Int) < (r : Int)) = false:=by rw [decide_eq_false_iff_not];omega
       clear hNB hc hre
       obtain ⟨r0,r1,r2,r3,r4,r5,_⟩:=HR1.out.get
       obtain ⟨i0,i1,i2,_⟩:=HO0.out.get
       go_wp2_with fail
       have HX8 : Hid (∀ X : Ext wr,Calls Tryz.prog 17 #[(.agg #[.slice A0 n0 c0,.slice E0 m0 d0,.slice D0 k0 g0]),.agg #[.int .i64 13,.int .i64 0,.int .i64 0,.int .i64 0,.int .i64 0,.string ((⟨#[47,101,47]⟩ : ByteArray) ++ NB),.string ⟨#[]⟩,.string ⟨#[]⟩]] X.w fun e w' => e = .returned (.int .i64 0) ∧ Below X.w.heap.size X.w w'):=Lib.hid fun X => by
        have h:=code13_any (.agg #[.slice A0 n0 c0,.slice E0 m0 d0,.slice D0 k0 g0]) s (⟨13,0,0,0,0,pathE NB,⟨#[]⟩,⟨#[]⟩⟩) X.w (HS0.out.weak.below X.bel) hpe (by show (0 : Nat) ≤ _;omega) (by show (0 : Nat) ≤ _;omega)
        rw [HST.out] at h
        exact h
       have hXc : ∀ (X : Ext wr) (p : Addr),(wr.cell? p).isSome = true → X.w.cell? p = wr.cell? p:=fun X p h => X.cell p h
       refine wp_region_ext (by kernel_rfl) (by kernel_rfl) ?_
       repeat (go_big_quiet_step (first | (go_at_call 17;rename_i X;with_reducible exact Calls.ext_of (HX8.out X))))
       refine wpQuiet_nil ?_
       rintro z11 ⟨X11z,rfl⟩
       have hbx:=X11z.bel
       clear hXc
       replace HO0:=Lib.hid (HO0.out.mv hbx)
       replace HR1:=Lib.hid (HR1.out.mv hbx)
       replace HS0:=Lib.hid (HS0.out.below hbx)
       replace HNF:=Lib.hid (HNF.out.below hbx)
       replace HB:=Lib.hid (Cv.next HB.out hbx)
       clear r0 r1 r2 r3 r4 r5 i0 i1 i2 hc0
       clear hbx
       clear HX8
       go_wp2_with fail
       go_roundw
       case rel => exact ⟨r + 1,by go_num,by omega,HO0.out,HS0.out,HR1.out,HNF.out,HB.out⟩
       case measure => simp [intOf];omega
     ·have j1 : decide ((r : Int) < (m : Int)) = false:=by rw [decide_eq_false_iff_not];omega
      obtain ⟨i0,i1,i2,_⟩:=HO0.out.get
      go_wp2_with fail
      clear i0 i1 i2
      have h:=code13_any (.agg #[.slice A0 n0 c0,.slice E0 m0 d0,.slice D0 k0 g0]) s (⟨12,0,0,0,0,⟨#[47,102]⟩,⟨#[]⟩,⟨#[]⟩⟩) wr HS0.out.weak (by show (2 : Nat) ≤ _;omega) (by show (0 : Nat) ≤ _;omega) (by show (0 : Nat) ≤ _;omega)
      rw [HL1.out] at h
      refine h.mono ?_
      clear h
      rintro e11 y11 ⟨rfl,hb⟩
      replace HO0:=Lib.hid (HO0.out.mv hb)
      replace HS0:=Lib.hid (HS0.out.below hb)
      replace HB:=Lib.hid (Cv.next HB.out hb)
      have hyz11:=hb.size
      clear hb
      obtain ⟨i0,i1,i2,_⟩:=HO0.out.get
      go_wp2_with fail
      clear i0 i1 i2
      have h:=code13_any (.agg #[.slice A0 n0 c0,.slice E0 m0 d0,.slice D0 k0 g0]) s (⟨12,0,0,0,0,⟨#[47,113]⟩,⟨#[]⟩,⟨#[]⟩⟩) y11 HS0.out.weak (by show (2 : Nat) ≤ _;omega) (by show (0 : Nat) ≤ _;omega) (by show (0 : Nat) ≤ _;omega)
      rw [HL2.out] at h
      refine h.mono ?_
      clear h
      rintro e12 y12 ⟨rfl,hb⟩
      replace HO0:=Lib.hid (HO0.out.mv hb)
      replace HS0:=Lib.hid (HS0.out.below hb)
      replace HB:=Lib.hid (Cv.next HB.out hb)
      have hyz12:=hb.size
      clear hb
      obtain ⟨i0,i1,i2,_⟩:=HO0.out.get
      go_wp2_with fail
      go_ret
      exact ⟨rfl,HB.out⟩
   ·have g1 : decide ((q : Int) < (n : Int)) = false:=by rw [decide_eq_false_iff_not];omega
    obtain ⟨es,hel,hld,hchk,hpair,hstat⟩:=HI.out.list
    obtain ⟨l1,l2⟩:=HI.out.last
    have HEL:=Lib.hid hel
    have HLD:=Lib.hid hld
    have HCHK:=Lib.hid hchk
    have HPAIR:=Lib.hid hpair
    have HSTAT:=Lib.hid hstat
    have HL1:=Lib.hid l1
    have HL2:=Lib.hid l2
    clear hel hld hchk hpair hstat l1 l2
    obtain ⟨i0,i1,i2,_⟩:=HO0.out.get
    go_wp2_with fail
    have hdo:=mDo_any (.agg #[.slice A0 n0 c0,.slice E0 m0 d0,.slice D0 k0 g0]) (s) ⟨12,0,0,0,0,⟨#[47,101]⟩,⟨#[]⟩,⟨#[]⟩⟩ wr HS0.out.weak (by show (2 : Nat) ≤ _;omega) (by show (0 : Nat) ≤ _;omega) (by show (0 : Nat) ≤ _;omega)
    obtain ⟨R1,hR1⟩ : ∃ R,doV (s) ⟨12,0,0,0,0,⟨#[47,101]⟩,⟨#[]⟩,⟨#[]⟩⟩ = R:=⟨_,rfl⟩
    rw [hR1] at hdo
    have HR1E:=Lib.hid hR1
    refine hdo.mono ?_
    clear hdo hR1
    rintro e1 x1 ⟨v1,rv1,rfl,hst,⟨F1,f1,p1,rfl,hokF,hnF⟩,hb1⟩
    obtain ⟨A1,n1,c1,E1,m1,d1,D1,k1,g1,rfl,hIk,hDk,-⟩:=hst.at_
    obtain ⟨U1,w1,hU1,hV1,hy1,hyz1,ho,hr,hb⟩:=box_sr x1 (.slice A1 n1 c1) (.slice E1 m1 d1) (.slice D1 k1 g1) R1.2.code R1.2.fd R1.2.num R1.2.dir R1.2.data F1 f1 p1
    have hbb : Below wr.heap.size wr w1:=Cv.next hb1 hb
    replace HO0:=Lib.hid (HO0.out.mv hbb)
    replace HS0:=Lib.hid (HS0.out.below hbb)
    replace HB:=Lib.hid (Cv.next HB.out hbb)
    clear i0 i1 i2
    have hxz1:=hb1.size
    have HR1:=Lib.hid hr
    have hsz1:=hbb.size
    have HNF:=Lib.hid (hnF.below hb)
    clear hst hb1 ho hr hb hbb hokF hnF hIk hDk
    have fa : R1.2.code = 0:=by rw [← HR1E.out,HLD.out]
    have fb : R1.2.names = es.map (·.name):=by rw [← HR1E.out,HLD.out]
    rw [fb] at HNF
    obtain rfl : m = f1:=by rw [← HEL.out,← HNF.out.1,List.length_map]
    obtain ⟨r0,r1,r2,r3,r4,r5,_⟩:=HR1.out.get
    rw [fa] at r0
    clear fa fb
    obtain ⟨i0,i1,i2,_⟩:=HO0.out.get
    go_wp2_with fail
    go_loopw [10] (fun i wr2 => ∃ r : Nat,i = .int .i64 r ∧ r ≤ m ∧ OutAt wr2 x0.heap.size (.slice A0 n0 c0) (.slice E0 m0 d0) (.slice D0 k0 g0) ∧ StAt (some 0) wr2 (.agg #[.slice A0 n0 c0,.slice E0 m0 d0,.slice D0 k0 g0]) s ∧ ResAt wr2 (x1.heap.size + 1) (.int .i64 R1.2.code) (.int .i64 R1.2.fd) (.int .i64 R1.2.num) (.bool R1.2.dir) (.string R1.2.data) (.slice F1 m p1) ∧ NmsAt (some wr.heap.size) wr2 F1 m (es.map (·.name)) ∧ Below w.heap.size w wr2) (fun i _ => m - (intOf i).toNat)
    case atStart => exact ⟨0,rfl,by omega,HO0.out,HS0.out,HR1.out,HNF.out,HB.out⟩
    case round =>
     clear HO0 HS0 HR1 HNF HB r0 r1 r2 r3 r4 r5 i0 i1 i2
     obtain ⟨r,rfl,hrm,ho,hs,hr,hnf,hb⟩:=hrel
     have HO0:=Lib.hid ho
     have HS0:=Lib.hid hs
     have HR1:=Lib.hid hr
     have HNF:=Lib.hid hnf
     have HB:=Lib.hid hb
     have hl6:=(Array.getElem?_eq_some_iff.1 ho).1
     have hl7:=hr.lt
     clear ho hs hr hnf hb
     by_cases hrl : r < m
     ·have j1 : (r : Int) < (m : Int):=by omega
      obtain ⟨g,off,rfl,hg,hmine,hc⟩:=HNF.out.2 (by omega)
      have hrw : IntKind.i64.wrap ((r : Int) + 1) = (r : Int) + 1:=IntWalk.i64_in _ (by omega)
      have i9 : (0 : Int) ≤ (r : Int):=by omega
      have hrt : (r : Int).toNat = r:=by omega
      have hre : r < es.length:=by rw [HEL.out];exact hrl
      obtain ⟨NB,hNB⟩ : ∃ NB,es[r].name = NB:=⟨_,rfl⟩
      have hc0 : wr.cell? ⟨g,off + r,none⟩ = some (.string NB):=hc r NB (by rw [List.getElem?_map,List.getElem?_eq_getElem hre,← hNB];rfl)
      have hst:=HSTAT.out _ (List.getElem_mem hre)
      have hsz : NB.size ≤ 12:=by rw [← hNB];exact chk_size (HCHK.out _ (List.getElem_mem hre))
      rw [hNB] at hst
      have HST:=Lib.hid hst
      have hcc1 : ¬ 9223372036854775807 < (⟨#[47,101,47]⟩ : ByteArray).size + NB.size:=by show ¬ 9223372036854775807 < 3 + NB.size;omega
      have hcc2 : ¬ 9223372036854775807 < 3 + NB.size:=by omega
      have hpe : (pathE NB).size ≤ 140737488355328:=by unfold pathE;rw [ByteArray.size_append];show 3 + NB.size ≤ _;omega
      clear hst hmine
      by_cases hr0 : 0 < r
      ·have j2 : (0 : Int) < (r : Int):=by omega
       obtain ⟨q,hq⟩ : ∃ q,r = q + 1:=⟨r - 1,by omega⟩
       have hqe : q < es.length:=by omega
       have hqr : IntKind.i64.wrap ((r : Int) - 1) = (q : Int):=by rw [IntWalk.i64_in _ (by omega)];omega
       have i8 : (0 : Int) ≤ (q : Int):=by omega
       have j3 : (q : Int) < (m : Int):=by omega
       obtain ⟨PB,hPB⟩ : ∃ PB,es[q].name = PB:=⟨_,rfl⟩
       have hc1 : wr.cell? ⟨g,off + q,none⟩ = some (.string PB):=hc q PB (by rw [List.getElem?_map,List.getElem?_eq_getElem hqe,← hPB];rfl)
       have hsp : PB.size ≤ 12:=by rw [← hPB];exact chk_size (HCHK.out _ (List.getElem_mem hqe))
       have hlt9 : ltN PB NB = true:=by rw [← hPB,← hNB];exact (List.pairwise_iff_getElem.1 HPAIR.out) q r hqe hre (by omega)
       have HLT:=Lib.hid hlt9
       have HQ:=Lib.hid hq
       clear hq hlt9 hPB hNB hc hre hqe
       obtain ⟨r0,r1,r2,r3,r4,r5,_⟩:=HR1.out.get
       obtain ⟨i0,i1,i2,_⟩:=HO0.out.get
       go_wp2_with fail
       have HX7 : Hid (∀ X : Ext wr,Calls Tryz.prog 20 #[.string PB,.string NB] X.w fun e w' => e = .returned (.bool true) ∧ Below X.w.heap.size X.w w'):=Lib.hid fun X => (ltn_any PB NB X.w (by omega) (by omega)).mono fun e w' h => ⟨by rw [h.1,HLT.out],by obtain ⟨q7,hq7⟩:=h.2;rw [hq7];exact Cv.drewN_below (Below.refl _ _) q7⟩
       have HX8 : Hid (∀ X : Ext wr,Calls Tryz.prog 17 #[(.agg #[.slice A0 n0 c0,.slice E0 m0 d0,.slice D0 k0 g0]),.agg #[.int .i64 13,.int .i64 0,.int .i64 0,.int .i64 0,.int .i64 0,.string ((⟨#[47,101,47]⟩ : ByteArray) ++ NB),.string ⟨#[]⟩,.string ⟨#[]⟩]] X.w fun e w' => e = .returned (.int .i64 0) ∧ Below X.w.heap.size X.w w'):=Lib.hid fun X => by
        have h:=code13_any (.agg #[.slice A0 n0 c0,.slice E0 m0 d0,.slice D0 k0 g0]) s (⟨13,0,0,0,0,pathE NB,⟨#[]⟩,⟨#[]⟩⟩) X.w (HS0.out.weak.below X.bel) hpe (by show (0 : Nat) ≤ _;omega) (by show (0 : Nat) ≤ _;omega)
        rw [HST.out] at h
        exact h
       have hXc : ∀ (X : Ext wr) (p : Addr),(wr.cell? p).isSome = true → X.w.cell? p = wr.cell? p:=fun X p h => X.cell p h
       refine wp_region_ext (by kernel_rfl) (by kernel_rfl) ?_
       repeat (go_big_quiet_step (first | (go_at_call 20;rename_i X;with_reducible exact Calls.ext_of (HX7.out X)) | (go_at_call 17;rename_i X;with_reducible exact Calls.ext_of (HX8.out X))))
       refine wpQuiet_nil ?_
       rintro z11 ⟨X11z,rfl⟩
       have hbx:=X11z.bel
       clear hXc
       replace HO0:=Lib.hid (HO0.out.mv hbx)
       replace HR1:=Lib.hid (HR1.out.mv hbx)
       replace HS0:=Lib.hid (HS0.out.below hbx)
       replace HNF:=Lib.hid (HNF.out.below hbx)
       replace HB:=Lib.hid (Cv.next HB.out hbx)
       clear r0 r1 r2 r3 r4 r5 i0 i1 i2 hc0 hc1
       clear hbx
       clear HX7 HX8
       go_wp2_with fail
       go_roundw
       case rel => exact ⟨r + 1,by go_num,by omega,HO0.out,HS0.out,HR1.out,HNF.out,HB.out⟩
       case measure => simp [intOf];omega
      ·have j2 : decide ((0 : Int) < (r : Int)) = false:=by rw [decide_eq_false_iff_not];omega
       clear hNB hc hre
       obtain ⟨r0,r1,r2,r3,r4,r5,_⟩:=HR1.out.get
       obtain ⟨i0,i1,i2,_⟩:=HO0.out.get
       go_wp2_with fail
       have HX8 : Hid (∀ X : Ext wr,Calls Tryz.prog 17 #[(.agg #[.slice A0 n0 c0,.slice E0 m0 d0,.slice D0 k0 g0]),.agg #[.int .i64 13,.int .i64 0,.int .i64 0,.int .i64 0,.int .i64 0,.string ((⟨#[47,101,47]⟩ : ByteArray) ++ NB),.string ⟨#[]⟩,.string ⟨#[]⟩]] X.w fun e w' => e = .returned (.int .i64 0) ∧ Below X.w.heap.size X.w w'):=Lib.hid fun X => by
        have h:=code13_any (.agg #[.slice A0 n0 c0,.slice E0 m0 d0,.slice D0 k0 g0]) s (⟨13,0,0,0,0,pathE NB,⟨#[]⟩,⟨#[]⟩⟩) X.w (HS0.out.weak.below X.bel) hpe (by show (0 : Nat) ≤ _;omega) (by show (0 : Nat) ≤ _;omega)
        rw [HST.out] at h
        exact h
       have hXc : ∀ (X : Ext wr) (p : Addr),(wr.cell? p).isSome = true → X.w.cell? p = wr.cell? p:=fun X p h => X.cell p h
       refine wp_region_ext (by kernel_rfl) (by kernel_rfl) ?_
       repeat (go_big_quiet_step (first | (go_at_call 17;rename_i X;with_reducible exact Calls.ext_of (HX8.out X))))
       refine wpQuiet_nil ?_
       rintro z11 ⟨X11z,rfl⟩
       have hbx:=X11z.bel
       clear hXc
       replace HO0:=Lib.hid (HO0.out.mv hbx)
       replace HR1:=Lib.hid (HR1.out.mv hbx)
       replace HS0:=Lib.hid (HS0.out.below hbx)
       replace HNF:=Lib.hid (HNF.out.below hbx)
       replace HB:=Lib.hid (Cv.next HB.out hbx)
       clear r0 r1 r2 r3 r4 r5 i0 i1 i2 hc0
       clear hbx
       clear HX8
       go_wp2_with fail
       go_roundw
       case rel => exact ⟨r + 1,by go_num,by omega,HO0.out,HS0.out,HR1.out,HNF.out,HB.out⟩
       case measure => simp [intOf];omega
     ·have j1 : decide ((r : Int) < (m : Int)) = false:=by rw [decide_eq_false_iff_not];omega
      obtain ⟨i0,i1,i2,_⟩:=HO0.out.get
      go_wp2_with fail
      clear i0 i1 i2
      have h:=code13_any (.agg #[.slice A0 n0 c0,.slice E0 m0 d0,.slice D0 k0 g0]) s (⟨12,0,0,0,0,⟨#[47,102]⟩,⟨#[]⟩,⟨#[]⟩⟩) wr HS0.out.weak (by show (2 : Nat) ≤ _;omega) (by show (0 : Nat) ≤ _;omega) (by show (0 : Nat) ≤ _;omega)
      rw [HL1.out] at h
      refine h.mono ?_
      clear h
      rintro e11 y11 ⟨rfl,hb⟩
      replace HO0:=Lib.hid (HO0.out.mv hb)
      replace HS0:=Lib.hid (HS0.out.below hb)
      replace HB:=Lib.hid (Cv.next HB.out hb)
      have hyz11:=hb.size
      clear hb
      obtain ⟨i0,i1,i2,_⟩:=HO0.out.get
      go_wp2_with fail
      clear i0 i1 i2
      have h:=code13_any (.agg #[.slice A0 n0 c0,.slice E0 m0 d0,.slice D0 k0 g0]) s (⟨12,0,0,0,0,⟨#[47,113]⟩,⟨#[]⟩,⟨#[]⟩⟩) y11 HS0.out.weak (by show (2 : Nat) ≤ _;omega) (by show (0 : Nat) ≤ _;omega) (by show (0 : Nat) ≤ _;omega)
      rw [HL2.out] at h
      refine h.mono ?_
      clear h
      rintro e12 y12 ⟨rfl,hb⟩
      replace HO0:=Lib.hid (HO0.out.mv hb)
      replace HS0:=Lib.hid (HS0.out.below hb)
      replace HB:=Lib.hid (Cv.next HB.out hb)
      have hyz12:=hb.size
      clear hb
      obtain ⟨i0,i1,i2,_⟩:=HO0.out.get
      go_wp2_with fail
      go_ret
      exact ⟨rfl,HB.out⟩
end Go.Proofs.YtndcloohcfhejaaGreat
namespace Go.Proofs.YtndcloohcfhejaaGreat
open Go.ChangeShapes Go.WideShapes Go.ChangeAt Go.RowKit
theorem weights_all {H : Type} (P : Program) (e : TypeId) : ∀ (ds : List (DataW H)) (d : DataW H),d ∈ ds → ∀ n ∈ d.weights P e,n ∈ DataW.weightsAll P e ds
 | x :: r,d,hd,n,hn => by
  simp only [DataW.weightsAll,List.mem_append]
  rcases List.mem_cons.1 hd with h | h
  ·subst h;exact Or.inl hn
  ·exact Or.inr (weights_all P e r d h n hn)
theorem isTexts_sized {H : Type} {enc : TypeId × Value → H} {W : World} {sp : Nat → Bool} {hd : Bool} {A : Option Addr} {n c : Nat} {d : DataW H} {p : List MemPlace}
  (h : DataW.Trod enc Tryz.prog W 0 sp hd 29 (.slice A n c) d p) {ts : List TypeId} {ds : List (DataW H)}
  (hz : (DataW.weightsEach Tryz.prog ts ds).all (· ≤ reachBytes) = true) {j : Nat} (ht : ts[j]? = some 29) (hds : ds[j]? = some d) :
  ∃ zs : List (List UInt8),Texts W A n zs ∧ (∀ t ∈ zs,t.length ≤ 140737488351232) ∧ n * 16 ≤ 140737488351232:=by
 obtain ⟨fuel,hf⟩:=h
 rcases open_strings Tryz.underlying29 Tryz.underlying9 (by kernel_rfl) hf with ⟨hcs,hx⟩ | ⟨a,len,cap,ss,hcs,_,hl,hm,hlen,hx,hcell,hws⟩
 ·simp [Value.cells] at hcs
  obtain ⟨rfl,rfl,rfl⟩:=hcs
  exact ⟨[],⟨rfl,fun h => absurd h (by omega)⟩,fun t ht => (by cases ht),by omega⟩
 ·simp [Value.cells] at hcs
  obtain ⟨rfl,rfl,rfl⟩:=hcs
  injection hx with hx1 _
  subst hx1
  have hnl : n ≤ ss.length:=by rw [hlen];split <;> omega
  refine ⟨(ss.take n).map fun s => s.data.toList,⟨by rw [List.length_map,List.length_take];omega,fun hn => ?_⟩,?_,?_⟩
  ·obtain ⟨b,off,spot⟩:=a
   have h0:=hcell 0 (by omega)
   have hspot : spot = none:=by simpa [Addr.add] using World.cell?_spot h0
   subst hspot
   refine ⟨b,off,rfl,lt_of_cell (by simpa [Addr.add] using h0),fun j hj => ?_⟩
   have hj2:=hcell j (by omega)
   have ha : (⟨b,off,none⟩ : Addr).add j = ⟨b,off + j,none⟩:=by unfold Addr.add;split <;> simp_all
   rw [ha] at hj2
   rw [hj2]
   have hg : ss.getD j ByteArray.empty = ss[j]'(by omega):=by simp [show j < ss.length by omega]
   rw [hg]
   simp [strV,hj,show j < ss.length by omega]
  ·intro t ht2
   obtain ⟨s,hs,rfl⟩:=List.mem_map.1 ht2
   have hin : (DataW.lit (.string s.data.toList) : DataW H) ∈ strs (ss.take n):=List.mem_map.2 ⟨s,hs,rfl⟩
   have h1 : s.data.toList.length ∈ (DataW.slice (strs (ss.take n)) (strs (ss.drop n)) : DataW H).weights Tryz.prog 29:=by
    rw [DataW.weights,Tryz.underlying29]
    exact List.mem_cons_of_mem _ (List.mem_append_left _ (weights_all _ _ _ _ hin _ (by simp [DataW.weights])))
   have h2:=List.all_eq_true.1 hz _ (DataW.weights_mem_each ht hds _ h1)
   have h3 : s.data.toList.length ≤ reachBytes:=of_decide_eq_true h2
   exact Nat.le_trans h3 (by unfold reachBytes;omega)
  ·have h3:=sized_slice hz ht hds Tryz.underlying29
   rw [show Tryz.prog.bytesOf 9 = 16 from by kernel_rfl] at h3
   have h4 : (strs (H:=H) (ss.take n)).length = n:=by unfold strs;rw [List.length_map,List.length_take];omega
   rw [h4] at h3
   simp only [reachBytes] at h3
   have:=Nat.le_mul_of_pos_right (n + (strs (H:=H) (ss.drop n)).length) (show 0 < 16 by omega)
   omega
end Go.Proofs.YtndcloohcfhejaaGreat
