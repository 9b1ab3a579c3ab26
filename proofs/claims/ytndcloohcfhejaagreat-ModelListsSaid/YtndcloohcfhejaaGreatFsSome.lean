/- do and Do of the document for Create, Mkdir, Open, Write and Link that succeed: by their contracts (printed by wip/gen_dosome.py). -/
import Derived.Test.YtndcloohcfhejaaGreatM18
import Derived.Test.YtndcloohcfhejaaGreatM34
set_option linter.unusedVariables false
set_option linter.unusedSimpArgs false
namespace Go.Proofs.YtndcloohcfhejaaGreat
open Go.RowKit
structure DoS (s : St) (c : Ca) (want : Int) : Prop where
 whole : Whole s.inos
 pz : c.path.size ≤ 140737488355328
 pz2 : c.path2.size ≤ 140737488355328
 ns2 : (parentV s.inos c.path2).2.1.size ≤ 140737488355328
 sz : Sized (doF s c want).1
 mz : c.kind ≤ 1 → MakeSized s c
 m8 : s.made.length ≤ 8
 mrange : ∀ m ∈ s.made,0 ≤ m ∧ m ≤ 32
set_option maxRecDepth 100000 in
set_option maxHeartbeats 16000000 in
theorem names8_any (B p : Nat) (s : St) (c : Ca) (w : World) (h : Own B w p s) (hB : B ≤ w.heap.size) (hw : Whole s.inos) (hpz : c.path.size ≤ 140737488355328) (hpz2 : c.path2.size ≤ 140737488355328) (hns : (parentV s.inos c.path2).2.1.size ≤ 140737488355328)
  (hz : Sized (namesV s c).1) (hk : c.kind = 8) :
  Calls Tryz.prog 84 #[.pointer (some ⟨p,0,.none⟩),caV c] w fun e w' => e = .returned (resV (namesV s c).2) ∧ Own B w' p (namesV s c).1 ∧ Below B w w' ∧ Aside p w w':=by
 obtain ⟨LV,hLV⟩ : ∃ LV,namesV s c = LV:=⟨_,rfl⟩
 obtain ⟨⟨DR,NM,C2⟩,hPA⟩ : ∃ x,parentV s.inos c.path = x:=⟨_,rfl⟩
 have hdr0:=parentV_dir s.inos c.path
 rw [hLV] at hz ⊢
 unfold namesV at hLV
 rw [hPA] at hLV hdr0
 dsimp only at hLV hdr0
 obtain ⟨W,W2,hW,hW2,hsz1,hfr⟩:=Fr.start h hB c
 have HF:=Lib.hid hfr
 clear h hfr
 obtain ⟨A,n,cp,E,m,d,D,k,e,hp,hcl,p0,p1,p2,pf,hst,hI,hn,c0,c1,c2,c3,c4,c5,c6,c7⟩:=HF.out.vals
 have HST:=Lib.hid hst
 have HI:=Lib.hid hI
 clear hst hI pf
 have HLV:=Lib.hid hLV
 have HPA:=Lib.hid hPA
 have HW:=Lib.hid hw
 have HZ:=Lib.hid hz
 have HDR0:=Lib.hid hdr0
 have hps : p < w.heap.size:=HF.out.hp
 have hwsz : w.heap.size + 2 ≤ W2.heap.size:=HF.out.size
 clear hLV hPA hw hz hdr0
 obtain ⟨KD,hKD⟩ : ∃ KD,c.kind = KD:=⟨_,rfl⟩
 have HKD:=Lib.hid hKD
 rw [hKD] at c0 hk
 unfold caV
 rw [hKD]
 rw [hKD] at hW
 clear hKD
 subst hk
 have hr:=HLV.out
 rw [if_pos HKD.out] at hr
 have HR:=Lib.hid hr
 have hzz:=HZ.out
 rw [← hr] at hzz
 have HZZ:=Lib.hid hzz
 clear hr hzz
 go_enter Tryz.func84,Tryz.ntmps84
 go_wp2_with fail
 clear hW hW2
 have hlk:=link_any B p s c W2 HF.out.own (by have:=HF.out.hB;omega) HW.out hpz hpz2 hns HZZ.out
 unfold caV at hlk
 rw [HKD.out] at hlk
 refine hlk.mono ?_
 clear hlk
 rintro ex Z3 ⟨rfl,hox,hbx,hax⟩
 have HF3:=Lib.hid (HF.out.step hox hbx hax)
 unfold resV
 clear hox hbx hax p0 p1 p2 c0 c1 c2 c3 c4 c5 c6 c7
 have F10:=HF3.out
 obtain ⟨g0,g1',g2',g3,g4,g5,gf⟩:=F10.res.get
 obtain ⟨W9,hW9,hr9,ho9,hB9,hA9⟩:=F10.six (.int .i64 (linkV s c).2.code) (.int .i64 (linkV s c).2.fd) (.int .i64 (linkV s c).2.num) (.bool (linkV s c).2.dir) (.string (linkV s c).2.data) (.slice none 0 0)
 have HR5:=Lib.hid hr9
 have HOF:=Lib.hid ho9
 have HBF:=Lib.hid hB9
 have HAS:=Lib.hid hA9
 clear F10 hr9 ho9 hB9 hA9
 go_wp2_with fail
 (try simp only [Exit.inBlock,Exit.then])
 refine bodyPost_ret (results_cell_row rfl _ _ (w.heap.size + 1) 31 _ (0,0) _ rfl HR5.out Tryz.underlying31 rfl (by kernel_rfl)) rfl ?_
 exact ⟨by rw [← HR.out];rfl,by rw [← HR.out];exact HOF.out,HBF.out,HAS.out⟩
set_option maxRecDepth 100000 in
set_option maxHeartbeats 16000000 in
theorem do_some0 (v : Value) (s : St) (c : Ca) (want : Int) (w : World) (h : StAt none w v s) (hm : mayV s = true) (hc0 : 0 ≤ c.core) (hc1 : c.core < (s.made.length : Int)) (hk0 : 0 ≤ c.kind) (hk1 : c.kind ≤ 16) (hok : DoS s c want) (hkk : c.kind = 0 ∨ c.kind = 1 ∨ c.kind = 2 ∨ c.kind = 5 ∨ c.kind = 8) (hgood : (doF s c want).2.1.code = 0 ∧ (doF s c want).2.2 = true)
  (hfd : c.kind = 5 → ∀ (B p : Nat) (u : World),Own B u p s → B ≤ u.heap.size → Calls Tryz.prog 83 #[.pointer (some ⟨p,0,.none⟩),caV c] u fun e w' => e = .returned (resV (byFdV s c).2) ∧ Own B w' p (byFdV s c).1 ∧ Below B u w' ∧ Aside p u w')
  (hnm : c.kind = 8 → ∀ (B p : Nat) (u : World),Own B u p s → B ≤ u.heap.size → Calls Tryz.prog 84 #[.pointer (some ⟨p,0,.none⟩),caV c] u fun e w' => e = .returned (resV (namesV s c).2) ∧ Own B w' p (namesV s c).1 ∧ Below B u w' ∧ Aside p u w') :
  Calls Tryz.prog 52 #[v,caV c,.int .i64 want] w fun e w' => ∃ v' rv,e = .returned (.tuple #[v',rv,.bool (doF s c want).2.2]) ∧ StAt (some w.heap.size) w' v' (doF s c want).1 ∧ ResIs (some w.heap.size) w' rv (doF s c want).2.1 ∧ Below w.heap.size w w':=by
 obtain ⟨A,n,cp,E,m,d,D,k,e,rfl,_,_,hM,_⟩:=h.at_
 have hkl : s.made.length = k:=hM.1
 obtain ⟨W,W2,W3,W4,hW,hW2,hW3,hW4,hs1,hs2,hs3,hdk⟩:=Dk.start h c
 obtain ⟨x0,x1,x2,k0,k1,_⟩:=hdk.vals
 have HD:=Lib.hid hdk
 have HM:=Lib.hid hm
 have HOK:=Lib.hid hok
 have HGOOD:=Lib.hid hgood
 have HFD:=Lib.hid hfd
 have HNM:=Lib.hid hnm
 clear hok hgood hfd hnm
 have g1 : decide (c.core < 0) = false:=by rw [decide_eq_false_iff_not];omega
 have g2 : decide ((k : Int) ≤ c.core) = false:=by rw [decide_eq_false_iff_not];omega
 obtain ⟨KD,hKD⟩ : ∃ KD,c.kind = KD:=⟨_,rfl⟩
 rw [hKD] at hk0 hk1 k0 hW2 hkk
 have HKD:=Lib.hid hKD
 have g3 : decide (KD < 0) = false:=by rw [decide_eq_false_iff_not];omega
 have g4 : decide ((16 : Int) < KD) = false:=by rw [decide_eq_false_iff_not];omega
 have hsz:=hdk.size
 clear hM hdk hm h
 obtain ⟨RV,hRV⟩ : ∃ RV,doF s c want = RV:=⟨_,rfl⟩
 have HDF:=Lib.hid hRV
 rw [hRV]
 clear hRV
 unfold caV
 rw [hKD]
 clear hKD
 go_enter Tryz.func52,Tryz.ntmps52
 go_wp2_with fail
 clear hW hW2 hW3 hW4
 refine (may_doc _ s W4 HD.out.st).mono ?_
 rintro e5 w5 ⟨rfl,hb5⟩
 rw [HM.out]
 have HD5:=Lib.hid (HD.out.below hb5)
 have hsz5:=HD5.out.size
 clear hb5 x0 x1 x2 k0 k1
 obtain ⟨x0,x1,x2,k0,k1,_⟩:=HD5.out.vals
 rw [HKD.out] at k0
 go_wp2_with fail
 refine (copy_any _ s w5 HD5.out.st).mono ?_
 rintro e6 w6 ⟨v6,rfl,hst6,hb6⟩
 obtain ⟨A6,n6,c6,E6,m6,d6,D6,k6,e6,rfl,hI6,hD6,hM6,p5,p6,p7⟩:=hst6.at_
 have HD6:=Lib.hid (HD5.out.below hb6)
 clear x0 x1 x2 k0 k1
 go_upto_region 5 with fail
 obtain ⟨U1,hU1⟩ : ∃ U1,w6.alloc (.cells #[.slice A6 n6 c6,.slice E6 m6 d6,.slice D6 k6 e6] 27) = U1:=⟨_,rfl⟩
 obtain ⟨U2,hU2⟩ : ∃ U2,U1.alloc (.cells #[.int .i64 0,.int .i64 0,.int .i64 0,.bool false,.string ⟨#[]⟩,.slice none 0 0] 31) = U2:=⟨_,rfl⟩
 have hau1 : Below w6.heap.size w6 U1:=by rw [← hU1];exact (Below.refl _ _).alloc (Nat.le_refl _) _
 have hau2 : Below U1.heap.size U1 U2:=by rw [← hU2];exact (Below.refl _ _).alloc (Nat.le_refl _) _
 have hsu1 : U1.heap.size = w6.heap.size + 1:=by rw [← hU1];simp
 have hau:=Cv.next hau1 hau2
 have hru : ResAt U2 (w6.heap.size + 1) (.int .i64 0) (.int .i64 0) (.int .i64 0) (.bool false) (.string ⟨#[]⟩) (.slice none 0 0):=by rw [← hsu1,← hU2];exact heap_alloc_new U1 _
 have hpu : U1.heap[w6.heap.size]? = some (.cells #[.slice A6 n6 c6,.slice E6 m6 d6,.slice D6 k6 e6] 27 (0,0)):=by rw [← hU1];exact heap_alloc_new w6 _
 have hpu2:=(hau2.block w6.heap.size (by omega)).trans hpu
 have hs6 : w5.heap.size ≤ w6.heap.size:=hb6.size
 have hown : Own w5.heap.size U2 w6.heap.size s:=⟨⟨A6,n6,c6,E6,m6,d6,D6,k6,e6,hs6,hpu2,hI6.below hau,hD6.below hau,hM6.below hau,p5,p6,p7⟩,hst6.sized⟩
 have HDU:=Lib.hid (HD6.out.below hau)
 have HOU:=Lib.hid hown
 have HRU:=Lib.hid hru
 have HB5U:=Lib.hid (Cv.next hb6 hau)
 have hsU : w6.heap.size + 2 ≤ U2.heap.size:=by have:=hau2.size;have:=HRU.out.lt;omega
 obtain ⟨g0,g1',g2',g3,g4,g5,gf⟩:=hru.get
 obtain ⟨x0,x1,x2,k0,k1,k2,k3,k4,k5,k6',k7⟩:=HDU.out.vals
 rw [HKD.out] at k0
 rw [hU1,hU2]
 clear hU1 hU2 hst6 hb6 hI6 hD6 hM6 hau hau1 hau2 hsu1 hru hpu hpu2 hown p5 p6 p7
 go_upto_block 0 with fail
 go_cut [11] from 12 to 85 (fun okv wx => ∃ AN nN cN,okv = .bool RV.2.2 ∧ Own w5.heap.size wx w6.heap.size RV.1 ∧ ResAt wx (w6.heap.size + 1) (.int .i64 RV.2.1.code) (.int .i64 RV.2.1.fd) (.int .i64 RV.2.1.num) (.bool RV.2.1.dir) (.string RV.2.1.data) (.slice AN nN cN) ∧ SlOk AN nN cN ∧ NmsAt (some w5.heap.size) wx AN nN RV.2.1.names ∧ Below w5.heap.size w5 wx)
 case first =>
  clear g1 g2 g3 g4 hk0 hk1
  rcases hkk with hk | hk | hk | hk | hk
  ·subst hk
   have hcl:=make1_any w5.heap.size w6.heap.size s c U2 HOU.out (by omega) HOK.out.whole hc0 hc1 HOK.out.m8 HOK.out.pz HOK.out.mrange (HOK.out.mz (by rw [HKD.out];decide)).2.2.2 (HOK.out.mz (by rw [HKD.out];decide)).1 (HOK.out.mz (by rw [HKD.out];decide)).2.1 (HOK.out.mz (by rw [HKD.out];decide)).2.2.1
   unfold caV at hcl
   rw [HKD.out] at hcl
   have hdf:=HDF.out
   rw [doF_make s c want HM.out hc0 hc1 (by rw [HKD.out];decide) (by rw [HKD.out];decide)] at hdf
   subst hdf
   go_wp2_with fail
   refine hcl.mono ?_
   clear hcl
   rintro e7 w7 ⟨rfl,hown7,hb7,ha7⟩
   have hrr : ResAt w7 (w6.heap.size + 1) (.int .i64 0) (.int .i64 0) (.int .i64 0) (.bool false) (.string ⟨#[]⟩) (.slice none 0 0):=(ha7.same _ _ _ HRU.out (by decide) (by decide) (by omega)).trans HRU.out
   obtain ⟨g0,g1',g2',g3,g4,g5,gf⟩:=hrr.get
   obtain ⟨U4,hU4,hr4,k4,b4,a4,s4⟩:=hrr.six (.int .i64 (make1V s c).2.code) (.int .i64 (make1V s c).2.fd) (.int .i64 (make1V s c).2.num) (.bool (make1V s c).2.dir) (.string (make1V s c).2.data) (.slice none 0 0)
   have HO4:=Lib.hid (hown7.keep k4)
   have HR4:=Lib.hid hr4
   have HB4:=Lib.hid (b4 w5.heap.size w5 (by omega) (HB5U.out.trans hb7))
   unfold resV
   clear hown7 hb7 ha7 hrr hr4 k4 b4 a4
   go_wp2_with fail
   go_meet
   exact ⟨none,0,0,rfl,HO4.out,HR4.out,⟨by omega,fun _ => rfl⟩,by rw [make1V_names s c];exact ⟨rfl,fun h => absurd h (by omega)⟩,HB4.out⟩
  ·subst hk
   have hcl:=make1_any w5.heap.size w6.heap.size s c U2 HOU.out (by omega) HOK.out.whole hc0 hc1 HOK.out.m8 HOK.out.pz HOK.out.mrange (HOK.out.mz (by rw [HKD.out];decide)).2.2.2 (HOK.out.mz (by rw [HKD.out];decide)).1 (HOK.out.mz (by rw [HKD.out];decide)).2.1 (HOK.out.mz (by rw [HKD.out];decide)).2.2.1
   unfold caV at hcl
   rw [HKD.out] at hcl
   have hdf:=HDF.out
   rw [doF_make s c want HM.out hc0 hc1 (by rw [HKD.out];decide) (by rw [HKD.out];decide)] at hdf
   subst hdf
   go_wp2_with fail
   refine hcl.mono ?_
   clear hcl
   rintro e7 w7 ⟨rfl,hown7,hb7,ha7⟩
   have hrr : ResAt w7 (w6.heap.size + 1) (.int .i64 0) (.int .i64 0) (.int .i64 0) (.bool false) (.string ⟨#[]⟩) (.slice none 0 0):=(ha7.same _ _ _ HRU.out (by decide) (by decide) (by omega)).trans HRU.out
   obtain ⟨g0,g1',g2',g3,g4,g5,gf⟩:=hrr.get
   obtain ⟨U4,hU4,hr4,k4,b4,a4,s4⟩:=hrr.six (.int .i64 (make1V s c).2.code) (.int .i64 (make1V s c).2.fd) (.int .i64 (make1V s c).2.num) (.bool (make1V s c).2.dir) (.string (make1V s c).2.data) (.slice none 0 0)
   have HO4:=Lib.hid (hown7.keep k4)
   have HR4:=Lib.hid hr4
   have HB4:=Lib.hid (b4 w5.heap.size w5 (by omega) (HB5U.out.trans hb7))
   unfold resV
   clear hown7 hb7 ha7 hrr hr4 k4 b4 a4
   go_wp2_with fail
   go_meet
   exact ⟨none,0,0,rfl,HO4.out,HR4.out,⟨by omega,fun _ => rfl⟩,by rw [make1V_names s c];exact ⟨rfl,fun h => absurd h (by omega)⟩,HB4.out⟩
  ·subst hk
   have hcl:=opened_any w5.heap.size w6.heap.size s c want U2 HOU.out (by omega) HOK.out.whole HOK.out.pz (by have:=HOK.out.sz;rw [doF_open s c want HM.out hc0 hc1 HKD.out] at this;exact this)
   unfold caV at hcl
   rw [HKD.out] at hcl
   have hdf:=HDF.out
   rw [doF_open s c want HM.out hc0 hc1 HKD.out] at hdf
   subst hdf
   go_wp2_with fail
   refine hcl.mono ?_
   clear hcl
   rintro e7 w70 ⟨rfl,hown70,hb70,ha70⟩
   obtain ⟨w7,hV7⟩ : ∃ w7,w70.alloc (.cells #[.int .i64 (openedV s c want).2.1.code,.int .i64 (openedV s c want).2.1.fd,.int .i64 (openedV s c want).2.1.num,.bool (openedV s c want).2.1.dir,.string (openedV s c want).2.1.data,.slice none 0 0] 31) = w7:=⟨_,rfl⟩
   have hb7x : Below w70.heap.size w70 w7:=by rw [← hV7];exact (Below.refl _ _).alloc (Nat.le_refl _) _
   have hrx : ResAt w7 w70.heap.size (.int .i64 (openedV s c want).2.1.code) (.int .i64 (openedV s c want).2.1.fd) (.int .i64 (openedV s c want).2.1.num) (.bool (openedV s c want).2.1.dir) (.string (openedV s c want).2.1.data) (.slice none 0 0):=by rw [← hV7];exact heap_alloc_new w70 _
   have hown7:=hown70.below hb7x
   have hz70 : U2.heap.size ≤ w70.heap.size:=ha70.size
   have hb7:=hb70.trans (hb7x.mono (by omega))
   have ha7:=ha70.trans (Aside.below hb7x)
   obtain ⟨xx0,xx1,xx2,xx3,xx4,xx5,_⟩:=hrx.get
   have hV7b : w7.setCell ⟨w70.heap.size,5,none⟩ (.slice none 0 0) = w7:=by
    rw [← hV7,World.setCell_alloc_new]
    rfl
   have hrr : ResAt w7 (w6.heap.size + 1) (.int .i64 0) (.int .i64 0) (.int .i64 0) (.bool false) (.string ⟨#[]⟩) (.slice none 0 0):=(ha7.same _ _ _ HRU.out (by decide) (by decide) (by omega)).trans HRU.out
   obtain ⟨g0,g1',g2',g3,g4,g5,gf⟩:=hrr.get
   obtain ⟨U4,hU4,hr4,k4,b4,a4,s4⟩:=hrr.six (.int .i64 (openedV s c want).2.1.code) (.int .i64 (openedV s c want).2.1.fd) (.int .i64 (openedV s c want).2.1.num) (.bool (openedV s c want).2.1.dir) (.string (openedV s c want).2.1.data) (.slice none 0 0)
   have HO4:=Lib.hid (hown7.keep k4)
   have HR4:=Lib.hid hr4
   have HB4:=Lib.hid (b4 w5.heap.size w5 (by omega) (HB5U.out.trans hb7))
   unfold resV
   clear hown7 hb7 ha7 hrr hr4 k4 b4 a4 hown70 hb70 ha70 hb7x hrx
   go_wp2_with fail
   go_meet
   exact ⟨none,0,0,rfl,HO4.out,HR4.out,⟨by omega,fun _ => rfl⟩,by rw [openedV_names s c want];exact ⟨rfl,fun h => absurd h (by omega)⟩,HB4.out⟩
  ·subst hk
   have hcl:=HFD.out HKD.out w5.heap.size w6.heap.size U2 HOU.out (by omega)
   unfold caV at hcl
   rw [HKD.out] at hcl
   have hdf:=HDF.out
   rw [doF_fd s c want HM.out hc0 hc1 (by rw [HKD.out];decide)] at hdf
   subst hdf
   go_wp2_with fail
   refine hcl.mono ?_
   clear hcl
   rintro e7 w7 ⟨rfl,hown7,hb7,ha7⟩
   have hrr : ResAt w7 (w6.heap.size + 1) (.int .i64 0) (.int .i64 0) (.int .i64 0) (.bool false) (.string ⟨#[]⟩) (.slice none 0 0):=(ha7.same _ _ _ HRU.out (by decide) (by decide) (by omega)).trans HRU.out
   obtain ⟨g0,g1',g2',g3,g4,g5,gf⟩:=hrr.get
   obtain ⟨U4,hU4,hr4,k4,b4,a4,s4⟩:=hrr.six (.int .i64 (byFdV s c).2.code) (.int .i64 (byFdV s c).2.fd) (.int .i64 (byFdV s c).2.num) (.bool (byFdV s c).2.dir) (.string (byFdV s c).2.data) (.slice none 0 0)
   have HO4:=Lib.hid (hown7.keep k4)
   have HR4:=Lib.hid hr4
   have HB4:=Lib.hid (b4 w5.heap.size w5 (by omega) (HB5U.out.trans hb7))
   unfold resV
   clear hown7 hb7 ha7 hrr hr4 k4 b4 a4
   go_wp2_with fail
   go_meet
   exact ⟨none,0,0,rfl,HO4.out,HR4.out,⟨by omega,fun _ => rfl⟩,by rw [byFdV_names s c];exact ⟨rfl,fun h => absurd h (by omega)⟩,HB4.out⟩
  ·subst hk
   have hcl:=HNM.out HKD.out w5.heap.size w6.heap.size U2 HOU.out (by omega)
   unfold caV at hcl
   rw [HKD.out] at hcl
   have hdf:=HDF.out
   rw [doF_names s c want HM.out hc0 hc1 (by rw [HKD.out];decide) (by rw [HKD.out];decide)] at hdf
   subst hdf
   go_wp2_with fail
   refine hcl.mono ?_
   clear hcl
   rintro e7 w7 ⟨rfl,hown7,hb7,ha7⟩
   have hrr : ResAt w7 (w6.heap.size + 1) (.int .i64 0) (.int .i64 0) (.int .i64 0) (.bool false) (.string ⟨#[]⟩) (.slice none 0 0):=(ha7.same _ _ _ HRU.out (by decide) (by decide) (by omega)).trans HRU.out
   obtain ⟨g0,g1',g2',g3,g4,g5,gf⟩:=hrr.get
   obtain ⟨U4,hU4,hr4,k4,b4,a4,s4⟩:=hrr.six (.int .i64 (namesV s c).2.code) (.int .i64 (namesV s c).2.fd) (.int .i64 (namesV s c).2.num) (.bool (namesV s c).2.dir) (.string (namesV s c).2.data) (.slice none 0 0)
   have HO4:=Lib.hid (hown7.keep k4)
   have HR4:=Lib.hid hr4
   have HB4:=Lib.hid (b4 w5.heap.size w5 (by omega) (HB5U.out.trans hb7))
   unfold resV
   clear hown7 hb7 ha7 hrr hr4 k4 b4 a4
   go_wp2_with fail
   go_meet
   exact ⟨none,0,0,rfl,HO4.out,HR4.out,⟨by omega,fun _ => rfl⟩,by rw [namesV_names s c];exact ⟨rfl,fun h => absurd h (by omega)⟩,HB4.out⟩
 case rest =>
  obtain ⟨AN,nN,cN,rfl,hown,hres,hokN,hnm,hbl⟩:=hcut
  have HDc:=Lib.hid (HD5.out.below hbl)
  have HOc:=Lib.hid hown
  have HRc:=Lib.hid hres
  have HNc:=Lib.hid hnm
  have HBc:=Lib.hid hbl
  have hszc : w6.heap.size + 1 < wc.heap.size:=hres.lt
  obtain ⟨A8,n8,c8,E8,m8,d8,D8,k8,e8,hB8,hp8,q0,q1,q2,_,hst8,_,_,_⟩:=hown.val
  obtain ⟨j0,j1,j2,j3,j4,j5,jf⟩:=hres.get
  have hs65 : w5.heap.size ≤ w6.heap.size:=hB8
  have hs5w : w.heap.size + 4 ≤ w5.heap.size:=hsz5
  obtain ⟨t0,t1,t2,uf⟩:=HDc.out.outS.get
  obtain ⟨v0,v1,v2,v3,v4,v5,vf⟩:=HDc.out.outR.get
  have uf0:=uf 0
  have uf1:=uf 1
  have uf2:=uf 2
  have HST8:=Lib.hid hst8
  have n1 : w6.heap.size ≠ w.heap.size + 2:=by omega
  have n2 : w6.heap.size ≠ w.heap.size + 3:=by omega
  have n3 : w6.heap.size + 1 ≠ w.heap.size + 2:=by omega
  have n4 : w6.heap.size + 1 ≠ w.heap.size + 3:=by omega
  have n1':=Ne.symm n1
  have n2':=Ne.symm n2
  have n3':=Ne.symm n3
  have n4':=Ne.symm n4
  have n5 : w.heap.size ≠ w6.heap.size:=by omega
  have n6' : w6.heap.size ≠ w.heap.size:=by omega
  obtain ⟨CO,hCO⟩ : ∃ CO,RV.2.1.code = CO:=⟨_,rfl⟩
  obtain ⟨OKB,hOKB⟩ : ∃ OKB,RV.2.2 = OKB:=⟨_,rfl⟩
  have HCO:=Lib.hid hCO
  have HOKB:=Lib.hid hOKB
  rw [hCO] at j0
  rw [hOKB]
  obtain ⟨x0,x1,x2,_⟩:=HDc.out.vals
  clear k0 k1 k2 k3 k4 k5 k6' k7 hown hres hnm hbl hst8 hCO hOKB g0 g1' g2' g3 g4 g5 gf g1 g2
  obtain ⟨hg1,hg2⟩ : CO = 0 ∧ OKB = true:=by
   have h9:=HGOOD.out
   rw [HDF.out,HCO.out,HOKB.out] at h9
   exact h9
  subst hg1 hg2
  go_wp2_with fail
  go_region_held3 (fun w' => w'.cell? ⟨w6.heap.size,0,none⟩ = some (.slice A8 n8 c8) ∧ w'.cell? ⟨w6.heap.size,1,none⟩ = some (.slice E8 m8 d8) ∧ w'.cell? ⟨w6.heap.size,2,none⟩ = some (.slice D8 k8 e8) ∧ w'.cell? ⟨w6.heap.size + 1,0,none⟩ = some (.int .i64 0) ∧ w'.cell? ⟨w6.heap.size + 1,1,none⟩ = some (.int .i64 RV.2.1.fd) ∧ w'.cell? ⟨w6.heap.size + 1,2,none⟩ = some (.int .i64 RV.2.1.num) ∧ w'.cell? ⟨w6.heap.size + 1,3,none⟩ = some (.bool RV.2.1.dir) ∧ w'.cell? ⟨w6.heap.size + 1,4,none⟩ = some (.string RV.2.1.data) ∧ w'.cell? ⟨w6.heap.size + 1,5,none⟩ = some (.slice AN nN cN))
   (go_keep) (fail)
  obtain ⟨U5,hU5,ho5,k5,b5⟩:=HDc.out.outS.three (.slice A8 n8 c8) (.slice E8 m8 d8) (.slice D8 k8 e8)
  have hr5 : ResAt U5 (w.heap.size + 3) _ _ _ _ _ _:=((k5 _ (by decide)).same (w.heap.size + 3) _ HDc.out.outR).trans HDc.out.outR
  obtain ⟨U6,hU6,hr6,k6,b6,a6,s6⟩:=hr5.six (.int .i64 0) (.int .i64 RV.2.1.fd) (.int .i64 RV.2.1.num) (.bool RV.2.1.dir) (.string RV.2.1.data) (.slice AN nN cN)
  have ho6 : OutAt U6 (w.heap.size + 2) _ _ _:=(a6 (w.heap.size + 2) (by omega)).trans ho5
  have hst6:=(HST8.out.keep3 (k5 _ (by decide)) (k5 _ (by decide)) (k5 _ (by decide)) (k5 _ (by decide))).keep3 (k6 _ (by decide)) (k6 _ (by decide)) (k6 _ (by decide)) (k6 _ (by decide))
  have hnm6:=(HNc.out.keep (k5 _ (by decide))).keep (k6 _ (by decide))
  have hbf:=b6 w.heap.size w (by omega) (b5 w.heap.size w (by omega) HDc.out.bel)
  rw [hU5,hU6]
  have HO6f:=Lib.hid ho6
  have HR6f:=Lib.hid hr6
  have HSTf:=Lib.hid ((hst6.lower (B':=w.heap.size) (by omega)).below (Below.drew (Below.refl _ _)))
  have HNf:=Lib.hid ((hnm6.lower (B':=w.heap.size) (by omega)).below (Below.drew (Below.refl _ _)))
  have HBF:=Lib.hid (Below.drew hbf)
  clear hU5 hU6 ho5 k5 b5 hr5 hr6 k6 b6 a6 s6 ho6 hst6 hnm6 hbf t0 t1 t2 v0 v1 v2 v3 v4 v5 uf0 uf1 uf2 uf vf j0 j1 j2 j3 j4 j5 jf q0 q1 q2
  go_wp2_with fail
  (try simp only [Exit.inBlock,Exit.then])
  refine bodyPost_ret (v:=.tuple #[.agg #[.slice A8 n8 c8,.slice E8 m8 d8,.slice D8 k8 e8],.agg #[.int .i64 0,.int .i64 RV.2.1.fd,.int .i64 RV.2.1.num,.bool RV.2.1.dir,.string RV.2.1.data,.slice AN nN cN],.bool true]) ?_ rfl ?_
  ·rw [results_cells_tmp rfl]
   have hl1:=run_loadVar_row (P:=Tryz.prog) U6.drew (w.heap.size + 2) _ 27 _ (0,0) _ HO6f.out Tryz.underlying27 rfl (by kernel_rfl)
   have hl2:=run_loadVar_row (P:=Tryz.prog) U6.drew (w.heap.size + 3) _ 31 _ (0,0) _ HR6f.out Tryz.underlying31 rfl (by kernel_rfl)
   simp [asAddr,hl1,hl2,Result.andThen]
  ·exact ⟨_,_,by rw [HOKB.out],HSTf.out,⟨AN,nN,cN,by rw [HCO.out],hokN,HNf.out⟩,HBF.out⟩
set_option maxRecDepth 100000 in
set_option maxHeartbeats 2000000 in
theorem Do_some (v : Value) (s : St) (c : Ca) (w : World) (h : StAt none w v s) (hd : ∀ u,StAt none u v s → Calls Tryz.prog 52 #[v,caV c,.int .i64 (-1)] u fun e w' => ∃ v' rv,e = .returned (.tuple #[v',rv,.bool (doF s c (-1)).2.2]) ∧ StAt (some u.heap.size) w' v' (doV s c).1 ∧ ResIs (some u.heap.size) w' rv (doV s c).2 ∧ Below u.heap.size u w') :
  Calls Tryz.prog 30 #[v,caV c] w fun e w' => ∃ v' rv,e = .returned (.tuple #[v',rv]) ∧ StAt (some w.heap.size) w' v' (doV s c).1 ∧ ResIs (some w.heap.size) w' rv (doV s c).2 ∧ Below w.heap.size w w':=by
 obtain ⟨s',hs'⟩ : ∃ s',(doV s c).1 = s':=⟨_,rfl⟩
 obtain ⟨r,hr⟩ : ∃ r,(doV s c).2 = r:=⟨_,rfl⟩
 obtain ⟨OKB,hOKB⟩ : ∃ OKB,(doF s c (-1)).2.2 = OKB:=⟨_,rfl⟩
 rw [hs',hr] at hd ⊢
 rw [hOKB] at hd
 clear hs' hr hOKB
 obtain ⟨⟨A,n,cp,Bz,m,d,D,k,e,rfl,hI,hD,hM,h5,h6,h7⟩,hz⟩:=h
 obtain ⟨W,hW,b0,b1,b2,hal,hlt0⟩:=box_st w A n cp Bz m d D k e
 obtain ⟨W2,hW2,hbc,hal2,hsz2⟩:=box_ca W c
 obtain ⟨W3,hW3⟩ : ∃ W3,W2.alloc (.cells #[.slice none 0 0,.slice none 0 0,.slice none 0 0] 27) = W3:=⟨_,rfl⟩
 have hal3 : Below W2.heap.size W2 W3:=by rw [← hW3];exact (Below.refl _ _).alloc (Nat.le_refl _) _
 have hsz3 : W3.heap.size = W2.heap.size + 1:=by rw [← hW3];simp
 have ho3 : OutAt W3 W2.heap.size (.slice none 0 0) (.slice none 0 0) (.slice none 0 0):=by rw [← hW3];exact heap_alloc_new W2 _
 obtain ⟨W4,hW4⟩ : ∃ W4,W3.alloc (.cells #[.int .i64 0,.int .i64 0,.int .i64 0,.bool false,.string ⟨#[]⟩,.slice none 0 0] 31) = W4:=⟨_,rfl⟩
 have hal4 : Below W3.heap.size W3 W4:=by rw [← hW4];exact (Below.refl _ _).alloc (Nat.le_refl _) _
 have hr4 : ResAt W4 W3.heap.size (.int .i64 0) (.int .i64 0) (.int .i64 0) (.bool false) (.string ⟨#[]⟩) (.slice none 0 0):=by rw [← hW4];exact heap_alloc_new W3 _
 have hst0 : StAt none W (.agg #[.slice A n cp,.slice Bz m d,.slice D k e]) s:=⟨⟨A,n,cp,Bz,m,d,D,k,e,rfl,hI.below hal,hD.below hal,hM.below hal,h5,h6,h7⟩,hz⟩
 have hb24 : Below W2.heap.size W2 W4:=Cv.next hal3 hal4
 have hb14 : Below W.heap.size W W4:=Cv.next hal2 hb24
 have hb4 : Below w.heap.size w W4:=Cv.next hal hb14
 have hst:=hst0.below hb14
 have x0:=(hb14.cell (p:=⟨w.heap.size,0,.none⟩) hlt0).trans b0
 have x1:=(hb14.cell (p:=⟨w.heap.size,1,.none⟩) hlt0).trans b1
 have x2:=(hb14.cell (p:=⟨w.heap.size,2,.none⟩) hlt0).trans b2
 have hbc4:=(hb24.block W.heap.size (by omega)).trans hbc
 have k0 : W4.cell? ⟨W.heap.size,0,none⟩ = some (.int .i64 c.kind):=by rw [cell_of_row W4 W.heap.size _ _ _ (0,0) hbc4];rfl
 have k1 : W4.cell? ⟨W.heap.size,1,none⟩ = some (.int .i64 c.core):=by rw [cell_of_row W4 W.heap.size _ _ _ (0,0) hbc4];rfl
 have k2 : W4.cell? ⟨W.heap.size,2,none⟩ = some (.int .i64 c.fd):=by rw [cell_of_row W4 W.heap.size _ _ _ (0,0) hbc4];rfl
 have k3 : W4.cell? ⟨W.heap.size,3,none⟩ = some (.int .i64 c.off):=by rw [cell_of_row W4 W.heap.size _ _ _ (0,0) hbc4];rfl
 have k4 : W4.cell? ⟨W.heap.size,4,none⟩ = some (.int .i64 c.num):=by rw [cell_of_row W4 W.heap.size _ _ _ (0,0) hbc4];rfl
 have k5 : W4.cell? ⟨W.heap.size,5,none⟩ = some (.string c.path):=by rw [cell_of_row W4 W.heap.size _ _ _ (0,0) hbc4];rfl
 have k6 : W4.cell? ⟨W.heap.size,6,none⟩ = some (.string c.path2):=by rw [cell_of_row W4 W.heap.size _ _ _ (0,0) hbc4];rfl
 have k7 : W4.cell? ⟨W.heap.size,7,none⟩ = some (.string c.data):=by rw [cell_of_row W4 W.heap.size _ _ _ (0,0) hbc4];rfl
 have hcall:=hd W4 hst
 have HCALL:=Lib.hid hcall
 have HB4:=Lib.hid hb4
 have hb4s:=hb4.size
 have HO3:=Lib.hid ((hal4.block W2.heap.size (by omega)).trans ho3)
 have HR4:=Lib.hid hr4
 have hs1 : w.heap.size < W.heap.size:=hlt0
 have hs4 : W4.heap.size = W3.heap.size + 1:=by rw [← hW4];simp
 unfold caV
 clear hI hD hM hz hst0 hst hbc hbc4 hb4 hb14 hb24 ho3 hr4 hal hal2 hal3 hal4 b0 b1 b2 h5 h6 h7 hlt0 hd hcall
 go_enter Tryz.func30,Tryz.ntmps30
 go_wp2_with fail
 clear hW hW2 hW3 hW4
 refine HCALL.out.mono ?_
 rintro e5 w5 ⟨v5,rv,rfl,hst5,⟨AN,nN,cN,rfl,hokN,hnN⟩,hb5⟩
 have HN5:=Lib.hid hnN
 obtain ⟨A6,n6,c6,E6,m6,d6,D6,k6',e6,rfl,_⟩:=hst5.at_
 have HST5:=Lib.hid hst5
 have HB5:=Lib.hid (Cv.next HB4.out hb5)
 have HO5 : Hid (OutAt w5 W2.heap.size _ _ _):=Lib.hid ((hb5.block W2.heap.size (by omega)).trans HO3.out)
 have HR5 : Hid (ResAt w5 W3.heap.size _ _ _ _ _ _):=Lib.hid ((hb5.block W3.heap.size (by omega)).trans HR4.out)
 have hs5 : W4.heap.size ≤ w5.heap.size:=hb5.size
 clear hst5 hb5 hnN x0 x1 x2 k0 k1 k2 k3 k4 k5 k6 k7
 go_wp2_with fail
 obtain ⟨U1,hU1⟩ : ∃ U1,w5.alloc (.cells #[.slice A6 n6 c6,.slice E6 m6 d6,.slice D6 k6' e6] 27) = U1:=⟨_,rfl⟩
 obtain ⟨U2,hU2⟩ : ∃ U2,U1.alloc (.cells #[.int .i64 r.code,.int .i64 r.fd,.int .i64 r.num,.bool r.dir,.string r.data,.slice AN nN cN] 31) = U2:=⟨_,rfl⟩
 rw [hU1,hU2]
 have hau1 : Below w5.heap.size w5 U1:=by rw [← hU1];exact (Below.refl _ _).alloc (Nat.le_refl _) _
 have hau2 : Below U1.heap.size U1 U2:=by rw [← hU2];exact (Below.refl _ _).alloc (Nat.le_refl _) _
 have hsu1 : U1.heap.size = w5.heap.size + 1:=by rw [← hU1];simp
 have hau:=Cv.next hau1 hau2
 have hru : ResAt U2 (w5.heap.size + 1) (.int .i64 r.code) (.int .i64 r.fd) (.int .i64 r.num) (.bool r.dir) (.string r.data) (.slice AN nN cN):=by rw [← hsu1,← hU2];exact heap_alloc_new U1 _
 have hou : OutAt U2 w5.heap.size (.slice A6 n6 c6) (.slice E6 m6 d6) (.slice D6 k6' e6):=by
  have h1 : U1.heap[w5.heap.size]? = some (.cells #[.slice A6 n6 c6,.slice E6 m6 d6,.slice D6 k6' e6] 27 (0,0)):=by rw [← hU1];exact heap_alloc_new w5 _
  exact (hau2.block w5.heap.size (by omega)).trans h1
 have hst8:=HST5.out.below hau
 have hO8 : OutAt U2 (W.heap.size + 1) (.slice none 0 0) (.slice none 0 0) (.slice none 0 0):=by rw [← hsz2];exact (hau.block W2.heap.size (by omega)).trans HO5.out
 have hR8 : ResAt U2 (W.heap.size + 1 + 1) (.int .i64 0) (.int .i64 0) (.int .i64 0) (.bool false) (.string ⟨#[]⟩) (.slice none 0 0):=by rw [show W.heap.size + 1 + 1 = W3.heap.size by omega];exact (hau.block W3.heap.size (by omega)).trans HR5.out
 have HB8:=Lib.hid (Cv.next HB5.out hau)
 have HST8:=Lib.hid hst8
 have HN8:=Lib.hid (HN5.out.below hau)
 obtain ⟨q0,q1,q2,_⟩:=hou.get
 obtain ⟨j0,j1,j2,j3,j4,j5,_⟩:=hru.get
 have uf : ∀ j,U2.frozen? ⟨W.heap.size + 1,j,none⟩ = false:=hO8.get.2.2.2
 have vf : ∀ j,U2.frozen? ⟨W.heap.size + 1 + 1,j,none⟩ = false:=hR8.get.2.2.2.2.2.2
 have n1 : w5.heap.size ≠ W.heap.size + 1:=by omega
 have n2 : w5.heap.size ≠ W.heap.size + 1 + 1:=by omega
 have n3 : w5.heap.size + 1 ≠ W.heap.size + 1:=by omega
 have n4 : w5.heap.size + 1 ≠ W.heap.size + 1 + 1:=by omega
 have n1':=Ne.symm n1
 have n2':=Ne.symm n2
 have n3':=Ne.symm n3
 have n4':=Ne.symm n4
 have n5 : W.heap.size ≠ w5.heap.size:=by omega
 have n6' : w5.heap.size ≠ W.heap.size:=by omega
 obtain ⟨t0,t1,t2,_⟩:=hO8.get
 obtain ⟨v0,v1,v2,v3,v4,v5,_⟩:=hR8.get
 have uf0:=uf 0
 have uf1:=uf 1
 have uf2:=uf 2
 clear hU1 hU2 hau1 hau2 hau hru hou hst8
 go_region_held3 (fun w' => w'.cell? ⟨w5.heap.size,0,none⟩ = some (.slice A6 n6 c6) ∧ w'.cell? ⟨w5.heap.size,1,none⟩ = some (.slice E6 m6 d6) ∧ w'.cell? ⟨w5.heap.size,2,none⟩ = some (.slice D6 k6' e6) ∧
   w'.cell? ⟨w5.heap.size + 1,0,none⟩ = some (.int .i64 r.code) ∧ w'.cell? ⟨w5.heap.size + 1,1,none⟩ = some (.int .i64 r.fd) ∧ w'.cell? ⟨w5.heap.size + 1,2,none⟩ = some (.int .i64 r.num) ∧ w'.cell? ⟨w5.heap.size + 1,3,none⟩ = some (.bool r.dir) ∧ w'.cell? ⟨w5.heap.size + 1,4,none⟩ = some (.string r.data) ∧ w'.cell? ⟨w5.heap.size + 1,5,none⟩ = some (.slice AN nN cN))
  (go_keep) (fail)
 obtain ⟨U5,hU5,ho5,k5,b5⟩:=hO8.three (.slice A6 n6 c6) (.slice E6 m6 d6) (.slice D6 k6' e6)
 have hr5 : ResAt U5 (W.heap.size + 1 + 1) _ _ _ _ _ _:=((k5 _ (by decide)).same (W.heap.size + 1 + 1) _ hR8).trans hR8
 obtain ⟨U6,hU6,hr6,k6,b6,a6,s6⟩:=hr5.six (.int .i64 r.code) (.int .i64 r.fd) (.int .i64 r.num) (.bool r.dir) (.string r.data) (.slice AN nN cN)
 have ho6 : OutAt U6 (W.heap.size + 1) _ _ _:=(a6 (W.heap.size + 1) (by omega)).trans ho5
 have hbw : Below w.heap.size w U6:=b6 w.heap.size w (by omega) (b5 w.heap.size w (by omega) HB8.out)
 have hst6:=(HST8.out.keep3 (k5 _ (by decide)) (k5 _ (by decide)) (k5 _ (by decide)) (k5 _ (by decide))).keep3 (k6 _ (by decide)) (k6 _ (by decide)) (k6 _ (by decide)) (k6 _ (by decide))
 rw [hU5,hU6]
 have HO6f:=Lib.hid ho6
 have HR6f:=Lib.hid hr6
 have HSTf:=Lib.hid ((hst6.lower (by have:=hb4s;omega)).below (Below.drew (Below.refl _ _)))
 have HBF:=Lib.hid (Below.drew hbw)
 have HNf:=Lib.hid (((((HN8.out.keep (k5 _ (by decide))).keep (k6 _ (by decide))).lower (B':=w.heap.size) (by have:=hb4s;omega))).below (Below.drew (Below.refl _ _)))
 clear hU5 hU6 ho5 k5 b5 hr5 hr6 k6 b6 a6 s6 ho6 hst6 hbw t0 t1 t2 v0 v1 v2 v3 v4 v5 uf0 uf1 uf2 uf vf j0 j1 j2 j3 j4 j5 q0 q1 q2
 go_wp2_with fail
 (try simp only [Exit.inBlock,Exit.then])
 refine bodyPost_ret (v:=.tuple #[.agg #[.slice A6 n6 c6,.slice E6 m6 d6,.slice D6 k6' e6],.agg #[.int .i64 r.code,.int .i64 r.fd,.int .i64 r.num,.bool r.dir,.string r.data,.slice AN nN cN]]) ?_ rfl ?_
 ·rw [results_cells rfl]
  have hl1:=run_loadVar_row (P:=Tryz.prog) U6.drew (W.heap.size + 1) _ 27 _ (0,0) _ HO6f.out Tryz.underlying27 rfl (by kernel_rfl)
  have hl2:=run_loadVar_row (P:=Tryz.prog) U6.drew (W.heap.size + 1 + 1) _ 31 _ (0,0) _ HR6f.out Tryz.underlying31 rfl (by kernel_rfl)
  simp [asAddr,hl1,hl2,Result.andThen]
 ·exact ⟨_,_,rfl,HSTf.out,⟨AN,nN,cN,rfl,hokN,HNf.out⟩,HBF.out⟩
end Go.Proofs.YtndcloohcfhejaaGreat
