/- The walk of the law PmemActs. -/
import Derived.Test.YtbflennacniacaaPmemActs0
import Derived.Deep.RegionHeld3
namespace Go.Proofs.Ytbflennacniacaa
open Go.RowKit
set_option linter.unusedVariables false
set_option linter.unusedSimpArgs false
theorem wpAnyH_mono {P : Program} {md : Region.Mode} {ops : Array Oper} {Q : Exit → Act → World → Prop} {S S' : World → Prop} (hS : ∀ w, S' w → S w) : ∀ (fuel : Nat) (listed : Array Bool) (a : Act) (w : World), wpAnyH P md ops Q S' fuel listed a w → wpAnyH P md ops Q S fuel listed a w
  | 0, _, _, _, h => h
  | fuel + 1, _, _, _, h => ⟨h.1, fun i hi => wpOp_mono (fun a' w' h' => ⟨hS _ h'.1, wpAnyH_mono hS fuel _ a' w' h'.2⟩) (h.2 i hi)⟩
/-- Where the law's loop stands. -/
def ActsInv (w0 : World) (n a b k : Nat) (o p : Value) (w : World) : Prop :=
  ∃ F G M R, F.a = a ∧ G.a = b ∧ Duo w0 w n k F G M R ∧
    ((k ≤ 40 ∧ o = .pointer (some ⟨a, 0, .none⟩) ∧ p = .pointer (some ⟨b, 0, .none⟩)) ∨
     (40 < k ∧ ∃ F2 G2 M2 R2, o = .pointer (some ⟨F2.a, 0, .none⟩) ∧ p = .pointer (some ⟨G2.a, 0, .none⟩) ∧ Duo w0 w n k F2 G2 M2 R2 ∧ Far F G F2 G2))
set_option maxRecDepth 100000 in
set_option maxHeartbeats 8000000 in
theorem acts_good (n : Nat) (A : Option Addr) (len cap : Nat) (Kf Pf Vf : Nat → Int) (w : World) (h1 : 1 ≤ n) (h2 : n ≤ 100) (hacts : ActsAt w A len Kf Pf Vf) (hlen : len ≤ maxLen) :
    Calls Try.prog 8 #[.int .i64 (n * 8 : Nat), .slice A len cap] w fun e w' => e = .returned (.bool true) ∧ Below w.heap.size w w' := by
  obtain ⟨x, hx⟩ : ∃ x : Nat, n * 8 = x := ⟨_, rfl⟩
  have q1 : decide (800 < (x : Int)) = false := by simp; omega
  rw [hx]
  have HX := Lib.hid hx
  have HA := Lib.hid hacts
  clear hx hacts
  go_enter Try.func8, Try.ntmps8
  go_wp2_with fail
  refine (new_duo h1 (by omega) (x : Int) (by rw [HX.out])).mono ?_
  rintro e w1 ⟨a, rfl, hb, hc⟩
  have HC := Lib.hid hc
  clear hc hb
  go_wp2_with fail
  refine HC.out.mono ?_
  rintro e w2 ⟨b, rfl, hb, F0, G0, M0, R0, hFa, hGb, hduo⟩
  have HB := Lib.hid hb
  have HD := Lib.hid hduo
  have HFA := Lib.hid hFa
  have HGB := Lib.hid hGb
  clear hb hduo hFa hGb HC
  go_wp2_with fail
  refine (num1_any _ _).mono ?_
  rintro e w3 ⟨rfl, rfl⟩
  go_wp2_with fail
  go_loopw [9, 10, 11] (fun o p i wr => ∃ k : Nat, k ≤ 300 ∧ k ≤ len ∧ i = .int .i64 k ∧ ActsInv w n a b k o p wr) (fun _ _ i _ => 300 - (intOf i).toNat)
  case atStart => exact ⟨0, by omega, by omega, rfl, F0, G0, M0, R0, HFA.out, HGB.out, HD.out, .inl ⟨by omega, rfl, rfl⟩⟩
  case round =>
    obtain ⟨k, hk3, hkl, rfl, hinv⟩ := hrel
    have HI := Lib.hid hinv
    clear hinv
    by_cases hlt : k < len ∧ k < 300
    · have r1 : decide (k < len) = true := by simpa using hlt.1
      have r2 : decide ((k : Int) < 300) = true := by simp; omega
      obtain ⟨g, off, rfl, hg, hcs⟩ := HA.out (by omega)
      obtain ⟨c0, c1, c2, hv⟩ := hcs k hlt.1
      obtain ⟨kk, hkk⟩ : ∃ z, Kf k = z := ⟨_, rfl⟩
      obtain ⟨pp, hpp⟩ : ∃ z, Pf k = z := ⟨_, rfl⟩
      obtain ⟨vv, hvv⟩ : ∃ z, Vf k = z := ⟨_, rfl⟩
      rw [hkk] at c0
      rw [hpp] at c1
      rw [hvv] at c2 hv
      clear hkk hpp hvv
      have k0 : (0 : Int) ≤ (k : Int) := by omega
      have k1 : (k : Int) < (len : Int) := by omega
      have i1 : IntKind.i64.wrap ((k : Int) + 1) = ((k + 1 : Nat) : Int) := by rw [IntKind.wrap_i64]; omega
      obtain ⟨Z, hZ⟩ : ∃ Z : Nat, k + 1 = Z := ⟨_, rfl⟩
      rw [hZ] at i1
      have HZ := Lib.hid hZ
      clear hZ
      by_cases hk40 : k = 40
      · have r3 : ((k : Int) == 40) = true := by simp; omega
        have r4 : decide (40 < (k : Int)) = false := by simp; omega
        obtain ⟨F, G, M, R, ha, hb, hd, hor⟩ := HI.out
        have HDU := Lib.hid hd
        have HV := Lib.hid hv
        have HK4 := Lib.hid hk40
        clear hd hor hv hcs hk40
        go_wp2_with fail
        refine (copy_duo HDU.out a ha).mono ?_
        rintro e w4 ⟨F2, rfl, hd1, hm2, hk2, hb2⟩
        have HD1 := Lib.hid hd1
        have HM2 := Lib.hid hm2
        have HK2 := Lib.hid hk2
        clear hd1 hm2 hk2 hb2
        go_wp2_with fail
        refine (rcopy_duo HD1.out HM2.out HK2.out HDU.out.bel.size HDU.out.lt b hb).mono ?_
        rintro e w5 ⟨G2, rfl, hd1, hdu2, hff, _⟩
        have hgn : ¬ (F.has g ∨ G.has g) := fun h => by have := hd1.new g h; omega
        have d0 := (hd1.bel.cell (p := ⟨g, off + k * 3, .none⟩) hg).trans c0
        have d1 := (hd1.bel.cell (p := ⟨g, off + k * 3 + 1, .none⟩) hg).trans c1
        have d2 := (hd1.bel.cell (p := ⟨g, off + k * 3 + 2, .none⟩) hg).trans c2
        have HDU := Lib.hid hd1
        have HDU2 := Lib.hid hdu2
        have HFF := Lib.hid hff
        have HGN := Lib.hid hgn
        clear hd1 hdu2 hff hgn c0 c1 c2
        go_wp2_with fail
        refine wp_region_held_drew (S := (fun w' => w'.cell? ⟨g, off + k * 3, .none⟩ = some (.int .i64 kk) ∧ w'.cell? ⟨g, off + k * 3 + 1, .none⟩ = some (.int .i64 pp) ∧ w'.cell? ⟨g, off + k * 3 + 2, .none⟩ = some (.int .i64 vv))) (by kernel_rfl) ⟨d0, d1, d2⟩ (fun hHeld => ?_)
        refine wpAnyH_take (i := 0) (oi := _) (v := ?tv1) rfl (by kernel_rfl) (by kernel_rfl) (by kernel_rfl) (fun _ _ _ h => h) (Or.inl ⟨by kernel_rfl, ?ty1⟩) (by assumption) ?tr1
        case ty1 => (intro w7 hS7; obtain ⟨s0, s1, s2⟩ := hS7; go_simp; try (with_reducible rfl))
        try simp only [Act.put, List.setIfInBounds_toArray, List.set_cons_zero, List.set_cons_succ]
        refine wpAnyH_take (i := 1) (oi := _) (v := ?tv2) rfl (by kernel_rfl) (by kernel_rfl) (by kernel_rfl) (fun _ _ _ h => h) (Or.inl ⟨by kernel_rfl, ?ty2⟩) (by assumption) ?tr2
        case ty2 => (intro w7 hS7; obtain ⟨s0, s1, s2⟩ := hS7; go_simp; try (with_reducible rfl))
        try simp only [Act.put, List.setIfInBounds_toArray, List.set_cons_zero, List.set_cons_succ]
        refine wpAnyH_take (i := 2) (oi := _) (v := ?tv3) rfl (by kernel_rfl) (by kernel_rfl) (by kernel_rfl) (fun _ _ _ h => h) (Or.inl ⟨by kernel_rfl, ?ty3⟩) (by assumption) ?tr3
        case ty3 => (intro w7 hS7; obtain ⟨s0, s1, s2⟩ := hS7; go_simp; try (with_reducible rfl))
        try simp only [Act.put, List.setIfInBounds_toArray, List.set_cons_zero, List.set_cons_succ]
        refine wpAnyH_take (i := 3) (oi := _) (v := ?tv4) rfl (by kernel_rfl) (by kernel_rfl) (by kernel_rfl) (fun _ _ _ h => h) (Or.inl ⟨by kernel_rfl, ?ty4⟩) (by assumption) ?tr4
        case ty4 => (intro w7 hS7; obtain ⟨s0, s1, s2⟩ := hS7; go_simp; try (with_reducible rfl))
        try simp only [Act.put, List.setIfInBounds_toArray, List.set_cons_zero, List.set_cons_succ]
        refine wpAnyH_take (i := 4) (oi := _) (v := ?tv5) rfl (by kernel_rfl) (by kernel_rfl) (by kernel_rfl) (fun _ _ _ h => h) (Or.inl ⟨by kernel_rfl, ?ty5⟩) (by assumption) ?tr5
        case ty5 => (intro w7 hS7; obtain ⟨s0, s1, s2⟩ := hS7; go_simp; try (with_reducible rfl))
        try simp only [Act.put, List.setIfInBounds_toArray, List.set_cons_zero, List.set_cons_succ]
        refine wpAnyH_take (i := 5) (oi := _) (v := ?tv6) rfl (by kernel_rfl) (by kernel_rfl) (by kernel_rfl) (fun _ _ _ h => h) (Or.inl ⟨by kernel_rfl, ?ty6⟩) (by assumption) ?tr6
        case ty6 => (intro w7 hS7; obtain ⟨s0, s1, s2⟩ := hS7; go_simp; try (with_reducible rfl))
        try simp only [Act.put, List.setIfInBounds_toArray, List.set_cons_zero, List.set_cons_succ]
        refine wpAnyH_ready (rs := [6]) (by kernel_rfl) (by simp) (AllReadyH.cons rfl (fun K hK => ?_) AllReadyH.nil)
        go_simp
        refine (act_duo (HDU.out.drewN 1) (by omega) a b ha hb kk pp vv HV.out).mono ?_
        rintro e5 w5 ⟨rfl, F', G', M', R', ha', hb', hd', htw⟩
        have HTW := Lib.hid htw
        have HD' := Lib.hid hd'
        obtain ⟨S, T, hS, hT, t7, t8⟩ := hd'.counts a b ha' hb'
        have HS := Lib.hid hS
        have HT := Lib.hid hT
        clear hS hT
        clear htw hd'
        try go_wp2_with fail
        refine hK.out _ _ ?_ (fun hHeld => ?_)
        · exact ⟨HTW.out.only.cell d0 HGN.out, HTW.out.only.cell d1 HGN.out, HTW.out.only.cell d2 HGN.out⟩
        clear hK K
        try simp only [Act.put, List.setIfInBounds_toArray, List.set_cons_zero, List.set_cons_succ]
        have hHeld2 : (fun w' => w'.cell? ⟨g, off + k * 3, .none⟩ = some (.int .i64 kk) ∧ w'.cell? ⟨g, off + k * 3 + 1, .none⟩ = some (.int .i64 pp) ∧ w'.cell? ⟨g, off + k * 3 + 2, .none⟩ = some (.int .i64 vv) ∧ w'.cell? ⟨b, 7, .none⟩ = some (.int .i64 S) ∧ w'.cell? ⟨b, 8, .none⟩ = some (.int .i64 T)) w5 := ⟨hHeld.1, hHeld.2.1, hHeld.2.2, t7, t8⟩
        refine wpAnyH_mono (S' := (fun w' => w'.cell? ⟨g, off + k * 3, .none⟩ = some (.int .i64 kk) ∧ w'.cell? ⟨g, off + k * 3 + 1, .none⟩ = some (.int .i64 pp) ∧ w'.cell? ⟨g, off + k * 3 + 2, .none⟩ = some (.int .i64 vv) ∧ w'.cell? ⟨b, 7, .none⟩ = some (.int .i64 S) ∧ w'.cell? ⟨b, 8, .none⟩ = some (.int .i64 T))) (fun _ hS => ⟨hS.1, hS.2.1, hS.2.2.1⟩) _ _ _ _ ?_
        clear hHeld
        refine wpAnyH_take (i := 7) (oi := _) (v := ?tv7) rfl (by kernel_rfl) (by kernel_rfl) (by kernel_rfl) (fun _ _ _ h => h) (Or.inl ⟨by kernel_rfl, ?ty7⟩) (by assumption) ?tr7
        case ty7 => (intro w7 hS7; obtain ⟨s0, s1, s2, s3, s4⟩ := hS7; go_simp; try (with_reducible rfl))
        try simp only [Act.put, List.setIfInBounds_toArray, List.set_cons_zero, List.set_cons_succ]
        refine wpAnyH_take (i := 8) (oi := _) (v := ?tv8) rfl (by kernel_rfl) (by kernel_rfl) (by kernel_rfl) (fun _ _ _ h => h) (Or.inl ⟨by kernel_rfl, ?ty8⟩) (by assumption) ?tr8
        case ty8 => (intro w7 hS7; obtain ⟨s0, s1, s2, s3, s4⟩ := hS7; go_simp; try (with_reducible rfl))
        try simp only [Act.put, List.setIfInBounds_toArray, List.set_cons_zero, List.set_cons_succ]
        refine wpAnyH_take (i := 9) (oi := _) (v := ?tv9) rfl (by kernel_rfl) (by kernel_rfl) (by kernel_rfl) (fun _ _ _ h => h) (Or.inl ⟨by kernel_rfl, ?ty9⟩) (by assumption) ?tr9
        case ty9 => (intro w7 hS7; obtain ⟨s0, s1, s2, s3, s4⟩ := hS7; go_simp; try (with_reducible rfl))
        try simp only [Act.put, List.setIfInBounds_toArray, List.set_cons_zero, List.set_cons_succ]
        refine wpAnyH_take (i := 10) (oi := _) (v := ?tv10) rfl (by kernel_rfl) (by kernel_rfl) (by kernel_rfl) (fun _ _ _ h => h) (Or.inl ⟨by kernel_rfl, ?ty10⟩) (by assumption) ?tr10
        case ty10 => (intro w7 hS7; obtain ⟨s0, s1, s2, s3, s4⟩ := hS7; go_simp; try (with_reducible rfl))
        try simp only [Act.put, List.setIfInBounds_toArray, List.set_cons_zero, List.set_cons_succ]
        refine wpAnyH_take (i := 11) (oi := _) (v := ?tv11) rfl (by kernel_rfl) (by kernel_rfl) (by kernel_rfl) (fun _ _ _ h => h) (Or.inl ⟨by kernel_rfl, ?ty11⟩) (by assumption) ?tr11
        case ty11 => (intro w7 hS7; obtain ⟨s0, s1, s2, s3, s4⟩ := hS7; go_simp; try (with_reducible rfl))
        try simp only [Act.put, List.setIfInBounds_toArray, List.set_cons_zero, List.set_cons_succ]
        refine wpAnyH_take (i := 12) (oi := _) (v := undef) rfl (by kernel_rfl) (by kernel_rfl) (by kernel_rfl) (fun _ _ _ h => h) (Or.inr ⟨by kernel_rfl, rfl⟩) (by assumption) ?tr12
        try simp only [Act.put, List.setIfInBounds_toArray, List.set_cons_zero, List.set_cons_succ]
        refine wpAnyH_take (i := 13) (oi := _) (v := undef) rfl (by kernel_rfl) (by kernel_rfl) (by kernel_rfl) (fun _ _ _ h => h) (Or.inr ⟨by kernel_rfl, rfl⟩) (by assumption) ?tr13
        try simp only [Act.put, List.setIfInBounds_toArray, List.set_cons_zero, List.set_cons_succ]
        refine wpAnyH_take (i := 14) (oi := _) (v := undef) rfl (by kernel_rfl) (by kernel_rfl) (by kernel_rfl) (fun _ _ _ h => h) (Or.inr ⟨by kernel_rfl, rfl⟩) (by assumption) ?tr14
        try simp only [Act.put, List.setIfInBounds_toArray, List.set_cons_zero, List.set_cons_succ]
        refine wpAnyH_take (i := 15) (oi := _) (v := ?tv15) rfl (by kernel_rfl) (by kernel_rfl) (by kernel_rfl) (fun _ _ _ h => h) (Or.inl ⟨by kernel_rfl, ?ty15⟩) (by assumption) ?tr15
        case ty15 => (intro w7 hS7; obtain ⟨s0, s1, s2, s3, s4⟩ := hS7; go_simp; try (with_reducible rfl))
        try simp only [Act.put, List.setIfInBounds_toArray, List.set_cons_zero, List.set_cons_succ]
        refine wpAnyH_take (i := 16) (oi := _) (v := ?tv16) rfl (by kernel_rfl) (by kernel_rfl) (by kernel_rfl) (fun _ _ _ h => h) (Or.inl ⟨by kernel_rfl, ?ty16⟩) (by assumption) ?tr16
        case ty16 => (intro w7 hS7; obtain ⟨s0, s1, s2, s3, s4⟩ := hS7; go_simp; try (with_reducible rfl))
        try simp only [Act.put, List.setIfInBounds_toArray, List.set_cons_zero, List.set_cons_succ]
        refine wpAnyH_take (i := 17) (oi := _) (v := undef) rfl (by kernel_rfl) (by kernel_rfl) (by kernel_rfl) (fun _ _ _ h => h) (Or.inr ⟨by kernel_rfl, rfl⟩) (by assumption) ?tr17
        try simp only [Act.put, List.setIfInBounds_toArray, List.set_cons_zero, List.set_cons_succ]
        refine wpAnyH_take (i := 18) (oi := _) (v := undef) rfl (by kernel_rfl) (by kernel_rfl) (by kernel_rfl) (fun _ _ _ h => h) (Or.inr ⟨by kernel_rfl, rfl⟩) (by assumption) ?tr18
        try simp only [Act.put, List.setIfInBounds_toArray, List.set_cons_zero, List.set_cons_succ]
        refine wpAnyH_take (i := 19) (oi := _) (v := undef) rfl (by kernel_rfl) (by kernel_rfl) (by kernel_rfl) (fun _ _ _ h => h) (Or.inr ⟨by kernel_rfl, rfl⟩) (by assumption) ?tr19
        try simp only [Act.put, List.setIfInBounds_toArray, List.set_cons_zero, List.set_cons_succ]
        refine wpAnyH_take (i := 20) (oi := _) (v := undef) rfl (by kernel_rfl) (by kernel_rfl) (by kernel_rfl) (fun _ _ _ h => h) (Or.inr ⟨by kernel_rfl, rfl⟩) (by assumption) ?tr20
        try simp only [Act.put, List.setIfInBounds_toArray, List.set_cons_zero, List.set_cons_succ]
        refine wpAnyH_take (i := 21) (oi := _) (v := undef) rfl (by kernel_rfl) (by kernel_rfl) (by kernel_rfl) (fun _ _ _ h => h) (Or.inr ⟨by kernel_rfl, rfl⟩) (by assumption) ?tr21
        try simp only [Act.put, List.setIfInBounds_toArray, List.set_cons_zero, List.set_cons_succ]
        refine wpAnyH_take (i := 22) (oi := _) (v := undef) rfl (by kernel_rfl) (by kernel_rfl) (by kernel_rfl) (fun _ _ _ h => h) (Or.inr ⟨by kernel_rfl, rfl⟩) (by assumption) ?tr22
        try simp only [Act.put, List.setIfInBounds_toArray, List.set_cons_zero, List.set_cons_succ]
        refine wpAnyH_take (i := 23) (oi := _) (v := undef) rfl (by kernel_rfl) (by kernel_rfl) (by kernel_rfl) (fun _ _ _ h => h) (Or.inr ⟨by kernel_rfl, rfl⟩) (by assumption) ?tr23
        try simp only [Act.put, List.setIfInBounds_toArray, List.set_cons_zero, List.set_cons_succ]
        refine wpAnyH_take (i := 24) (oi := _) (v := undef) rfl (by kernel_rfl) (by kernel_rfl) (by kernel_rfl) (fun _ _ _ h => h) (Or.inr ⟨by kernel_rfl, rfl⟩) (by assumption) ?tr24
        try simp only [Act.put, List.setIfInBounds_toArray, List.set_cons_zero, List.set_cons_succ]
        refine wpAnyH_take (i := 25) (oi := _) (v := undef) rfl (by kernel_rfl) (by kernel_rfl) (by kernel_rfl) (fun _ _ _ h => h) (Or.inr ⟨by kernel_rfl, rfl⟩) (by assumption) ?tr25
        try simp only [Act.put, List.setIfInBounds_toArray, List.set_cons_zero, List.set_cons_succ]
        refine wpAnyH_take (i := 26) (oi := _) (v := ?tv26) rfl (by kernel_rfl) (by kernel_rfl) (by kernel_rfl) (fun _ _ _ h => h) (Or.inl ⟨by kernel_rfl, ?ty26⟩) (by assumption) ?tr26
        case ty26 => (intro w7 hS7; obtain ⟨s0, s1, s2, s3, s4⟩ := hS7; go_simp; try (with_reducible rfl))
        try simp only [Act.put, List.setIfInBounds_toArray, List.set_cons_zero, List.set_cons_succ]
        refine wpAnyH_take (i := 27) (oi := _) (v := ?tv27) rfl (by kernel_rfl) (by kernel_rfl) (by kernel_rfl) (fun _ _ _ h => h) (Or.inl ⟨by kernel_rfl, ?ty27⟩) (by assumption) ?tr27
        case ty27 => (intro w7 hS7; obtain ⟨s0, s1, s2, s3, s4⟩ := hS7; go_simp; try (with_reducible rfl))
        try simp only [Act.put, List.setIfInBounds_toArray, List.set_cons_zero, List.set_cons_succ]
        refine wpAnyH_take (i := 28) (oi := _) (v := ?tv28) rfl (by kernel_rfl) (by kernel_rfl) (by kernel_rfl) (fun _ _ _ h => h) (Or.inl ⟨by kernel_rfl, ?ty28⟩) (by assumption) ?tr28
        case ty28 => (intro w7 hS7; obtain ⟨s0, s1, s2, s3, s4⟩ := hS7; go_simp; try (with_reducible rfl))
        try simp only [Act.put, List.setIfInBounds_toArray, List.set_cons_zero, List.set_cons_succ]
        refine wpAnyH_take (i := 29) (oi := _) (v := ?tv29) rfl (by kernel_rfl) (by kernel_rfl) (by kernel_rfl) (fun _ _ _ h => h) (Or.inl ⟨by kernel_rfl, ?ty29⟩) (by assumption) ?tr29
        case ty29 => (intro w7 hS7; obtain ⟨s0, s1, s2, s3, s4⟩ := hS7; go_simp; try (with_reducible rfl))
        try simp only [Act.put, List.setIfInBounds_toArray, List.set_cons_zero, List.set_cons_succ]
        refine wpAnyH_take (i := 31) (oi := _) (v := ?tv30) rfl (by kernel_rfl) (by kernel_rfl) (by kernel_rfl) (fun _ _ _ h => h) (Or.inl ⟨by kernel_rfl, ?ty30⟩) (by assumption) ?tr30
        case ty30 => (intro w7 hS7; obtain ⟨s0, s1, s2, s3, s4⟩ := hS7; go_simp; try (with_reducible rfl))
        try simp only [Act.put, List.setIfInBounds_toArray, List.set_cons_zero, List.set_cons_succ]
        refine wpAnyH_take (i := 32) (oi := _) (v := ?tv31) rfl (by kernel_rfl) (by kernel_rfl) (by kernel_rfl) (fun _ _ _ h => h) (Or.inl ⟨by kernel_rfl, ?ty31⟩) (by assumption) ?tr31
        case ty31 => (intro w7 hS7; obtain ⟨s0, s1, s2, s3, s4⟩ := hS7; go_simp; try (with_reducible rfl))
        try simp only [Act.put, List.setIfInBounds_toArray, List.set_cons_zero, List.set_cons_succ]
        refine wpAnyH_take (i := 33) (oi := _) (v := ?tv32) rfl (by kernel_rfl) (by kernel_rfl) (by kernel_rfl) (fun _ _ _ h => h) (Or.inl ⟨by kernel_rfl, ?ty32⟩) (by assumption) ?tr32
        case ty32 => (intro w7 hS7; obtain ⟨s0, s1, s2, s3, s4⟩ := hS7; go_simp; try (with_reducible rfl))
        try simp only [Act.put, List.setIfInBounds_toArray, List.set_cons_zero, List.set_cons_succ]
        refine wpAnyH_take (i := 34) (oi := _) (v := ?tv33) rfl (by kernel_rfl) (by kernel_rfl) (by kernel_rfl) (fun _ _ _ h => h) (Or.inl ⟨by kernel_rfl, ?ty33⟩) (by assumption) ?tr33
        case ty33 => (intro w7 hS7; obtain ⟨s0, s1, s2, s3, s4⟩ := hS7; go_simp; try (with_reducible rfl))
        try simp only [Act.put, List.setIfInBounds_toArray, List.set_cons_zero, List.set_cons_succ]
        refine wpAnyH_ready (rs := [30]) (by kernel_rfl) (by simp) (AllReadyH.cons rfl (fun K hK => ?_) AllReadyH.nil)
        go_simp
        refine (HS.out _ HD'.out.mem).mono ?_
        rintro e8 w8 ⟨rfl, rfl⟩
        try go_wp2_with fail
        refine hK.out _ _ ?_ (fun hHeld => ?_)
        · exact hHeld2
        clear hK K
        try simp only [Act.put, List.setIfInBounds_toArray, List.set_cons_zero, List.set_cons_succ]
        refine wpAnyH_take (i := 35) (oi := _) (v := ?tv34) rfl (by kernel_rfl) (by kernel_rfl) (by kernel_rfl) (fun _ _ _ h => h) (Or.inl ⟨by kernel_rfl, ?ty34⟩) (by assumption) ?tr34
        case ty34 => (intro w7 hS7; obtain ⟨s0, s1, s2, s3, s4⟩ := hS7; go_simp; try (with_reducible rfl))
        try simp only [Act.put, List.setIfInBounds_toArray, List.set_cons_zero, List.set_cons_succ]
        refine wpAnyH_take (i := 36) (oi := _) (v := ?tv35) rfl (by kernel_rfl) (by kernel_rfl) (by kernel_rfl) (fun _ _ _ h => h) (Or.inl ⟨by kernel_rfl, ?ty35⟩) (by assumption) ?tr35
        case ty35 => (intro w7 hS7; obtain ⟨s0, s1, s2, s3, s4⟩ := hS7; go_simp; try (with_reducible rfl))
        try simp only [Act.put, List.setIfInBounds_toArray, List.set_cons_zero, List.set_cons_succ]
        refine wpAnyH_take (i := 37) (oi := _) (v := ?tv36) rfl (by kernel_rfl) (by kernel_rfl) (by kernel_rfl) (fun _ _ _ h => h) (Or.inl ⟨by kernel_rfl, ?ty36⟩) (by assumption) ?tr36
        case ty36 => (intro w7 hS7; obtain ⟨s0, s1, s2, s3, s4⟩ := hS7; go_simp; try (with_reducible rfl))
        try simp only [Act.put, List.setIfInBounds_toArray, List.set_cons_zero, List.set_cons_succ]
        refine wpAnyH_take (i := 38) (oi := _) (v := ?tv37) rfl (by kernel_rfl) (by kernel_rfl) (by kernel_rfl) (fun _ _ _ h => h) (Or.inl ⟨by kernel_rfl, ?ty37⟩) (by assumption) ?tr37
        case ty37 => (intro w7 hS7; obtain ⟨s0, s1, s2, s3, s4⟩ := hS7; go_simp; try (with_reducible rfl))
        try simp only [Act.put, List.setIfInBounds_toArray, List.set_cons_zero, List.set_cons_succ]
        refine wpAnyH_take (i := 40) (oi := _) (v := ?tv38) rfl (by kernel_rfl) (by kernel_rfl) (by kernel_rfl) (fun _ _ _ h => h) (Or.inl ⟨by kernel_rfl, ?ty38⟩) (by assumption) ?tr38
        case ty38 => (intro w7 hS7; obtain ⟨s0, s1, s2, s3, s4⟩ := hS7; go_simp; try (with_reducible rfl))
        try simp only [Act.put, List.setIfInBounds_toArray, List.set_cons_zero, List.set_cons_succ]
        refine wpAnyH_take (i := 41) (oi := _) (v := ?tv39) rfl (by kernel_rfl) (by kernel_rfl) (by kernel_rfl) (fun _ _ _ h => h) (Or.inl ⟨by kernel_rfl, ?ty39⟩) (by assumption) ?tr39
        case ty39 => (intro w7 hS7; obtain ⟨s0, s1, s2, s3, s4⟩ := hS7; go_simp; try (with_reducible rfl))
        try simp only [Act.put, List.setIfInBounds_toArray, List.set_cons_zero, List.set_cons_succ]
        refine wpAnyH_take (i := 42) (oi := _) (v := ?tv40) rfl (by kernel_rfl) (by kernel_rfl) (by kernel_rfl) (fun _ _ _ h => h) (Or.inl ⟨by kernel_rfl, ?ty40⟩) (by assumption) ?tr40
        case ty40 => (intro w7 hS7; obtain ⟨s0, s1, s2, s3, s4⟩ := hS7; go_simp; try (with_reducible rfl))
        try simp only [Act.put, List.setIfInBounds_toArray, List.set_cons_zero, List.set_cons_succ]
        refine wpAnyH_take (i := 43) (oi := _) (v := ?tv41) rfl (by kernel_rfl) (by kernel_rfl) (by kernel_rfl) (fun _ _ _ h => h) (Or.inl ⟨by kernel_rfl, ?ty41⟩) (by assumption) ?tr41
        case ty41 => (intro w7 hS7; obtain ⟨s0, s1, s2, s3, s4⟩ := hS7; go_simp; try (with_reducible rfl))
        try simp only [Act.put, List.setIfInBounds_toArray, List.set_cons_zero, List.set_cons_succ]
        refine wpAnyH_ready (rs := [39]) (by kernel_rfl) (by simp) (AllReadyH.cons rfl (fun K hK => ?_) AllReadyH.nil)
        go_simp
        refine (HT.out _ HD'.out.mem).mono ?_
        rintro e9 w9 ⟨rfl, rfl⟩
        try go_wp2_with fail
        refine hK.out _ _ ?_ (fun hHeld => ?_)
        · exact hHeld2
        clear hK K
        try simp only [Act.put, List.setIfInBounds_toArray, List.set_cons_zero, List.set_cons_succ]
        refine wpAnyH_take (i := 44) (oi := _) (v := ?tv42) rfl (by kernel_rfl) (by kernel_rfl) (by kernel_rfl) (fun _ _ _ h => h) (Or.inl ⟨by kernel_rfl, ?ty42⟩) (by assumption) ?tr42
        case ty42 => (intro w7 hS7; obtain ⟨s0, s1, s2, s3, s4⟩ := hS7; go_simp; try (with_reducible rfl))
        try simp only [Act.put, List.setIfInBounds_toArray, List.set_cons_zero, List.set_cons_succ]
        refine wpAnyH_take (i := 45) (oi := _) (v := ?tv43) rfl (by kernel_rfl) (by kernel_rfl) (by kernel_rfl) (fun _ _ _ h => h) (Or.inl ⟨by kernel_rfl, ?ty43⟩) (by assumption) ?tr43
        case ty43 => (intro w7 hS7; obtain ⟨s0, s1, s2, s3, s4⟩ := hS7; go_simp; try (with_reducible rfl))
        try simp only [Act.put, List.setIfInBounds_toArray, List.set_cons_zero, List.set_cons_succ]
        refine wpAnyH_done (by kernel_rfl) ?_ _
        go_wp2_with fail
        have hk40 := HK4.out
        exact ⟨⟨Z, by have := HZ.out; omega, by have := HZ.out; omega, rfl, F', G', M', R', ha', hb', by rw [← HZ.out]; exact HD'.out, .inr ⟨by have := HZ.out; omega, F2, G2, M, R, rfl, rfl, by rw [← HZ.out]; exact ((HDU2.out.drewN 1).frame HTW.out.only HFF.out.symm HDU.out.new).mono (Nat.le_succ _), HTW.out.far HFF.out HDU2.out.lt⟩⟩, by have := HZ.out; simp [intOf]; omega⟩
      · have r3 : ((k : Int) == 40) = false := by simp; omega
        by_cases h40 : 40 < k
        · have r4 : decide (40 < (k : Int)) = true := by simp; omega
          by_cases hmod : k % 3 = 0
          · obtain ⟨F, G, M, R, ha, hb, hd, hor⟩ := HI.out
            have hgn : ¬ (F.has g ∨ G.has g) := fun h => by have := hd.new g h; omega
            have d0 := (hd.bel.cell (p := ⟨g, off + k * 3, .none⟩) hg).trans c0
            have d1 := (hd.bel.cell (p := ⟨g, off + k * 3 + 1, .none⟩) hg).trans c1
            have d2 := (hd.bel.cell (p := ⟨g, off + k * 3 + 2, .none⟩) hg).trans c2
            have HDU := Lib.hid hd
            have HGN := Lib.hid hgn
            have HOR := Lib.hid hor
            have HV := Lib.hid hv
            obtain ⟨F2, G2, M2, R2, rfl, rfl, hdu2, hff⟩ : ∃ F2 G2 M2 R2, u9 = .pointer (some ⟨F2.a, 0, .none⟩) ∧ u10 = .pointer (some ⟨G2.a, 0, .none⟩) ∧ Duo w wr n k F2 G2 M2 R2 ∧ Far F G F2 G2 := by
              rcases HOR.out with ⟨hh, _⟩ | ⟨_, hh⟩
              · omega
              · exact hh
            have HDU2 := Lib.hid hdu2
            have HFF := Lib.hid hff
            clear hdu2 hff
            obtain ⟨h, hh⟩ : ∃ h : Nat, k / 2 = h := ⟨_, rfl⟩
            have e2 : (k : Int).tdiv 2 = (h : Int) := by rw [← hh]; rfl
            have e4 : IntKind.i64.wrap (h : Int) = (h : Int) := by rw [IntKind.wrap_i64]; omega
            have e3 : (k : Int).tmod 3 = 0 := by
              have : (k : Int).tmod 3 = ((k % 3 : Nat) : Int) := rfl
              rw [this, hmod]; rfl
            have hhl : h < len := by omega
            obtain ⟨b0, b1, b2, hv2⟩ := hcs h hhl
            obtain ⟨kk2, hkk⟩ : ∃ z, Kf h = z := ⟨_, rfl⟩
            obtain ⟨pp2, hpp⟩ : ∃ z, Pf h = z := ⟨_, rfl⟩
            obtain ⟨vv2, hvv⟩ : ∃ z, Vf h = z := ⟨_, rfl⟩
            rw [hkk] at b0
            rw [hpp] at b1
            rw [hvv] at b2 hv2
            clear hkk hpp hvv
            have k2 : (0 : Int) ≤ (h : Int) := by omega
            have k3 : (h : Int) < (len : Int) := by omega
            have d3 := (hd.bel.cell (p := ⟨g, off + h * 3, .none⟩) hg).trans b0
            have d4 := (hd.bel.cell (p := ⟨g, off + h * 3 + 1, .none⟩) hg).trans b1
            have d5 := (hd.bel.cell (p := ⟨g, off + h * 3 + 2, .none⟩) hg).trans b2
            have HV2 := Lib.hid hv2
            have hgn2 : ¬ (F2.has g ∨ G2.has g) := fun h => by have := HDU2.out.new g h; omega
            have HGN2 := Lib.hid hgn2
            clear hgn2 hv2 b0 b1 b2 hh
            clear hd hgn hor hv c0 c1 c2 hcs
            go_wp2_with fail
            refine wp_region_held_drew (S := (fun w' => w'.cell? ⟨g, off + k * 3, .none⟩ = some (.int .i64 kk) ∧ w'.cell? ⟨g, off + k * 3 + 1, .none⟩ = some (.int .i64 pp) ∧ w'.cell? ⟨g, off + k * 3 + 2, .none⟩ = some (.int .i64 vv) ∧ w'.cell? ⟨g, off + h * 3, .none⟩ = some (.int .i64 kk2) ∧ w'.cell? ⟨g, off + h * 3 + 1, .none⟩ = some (.int .i64 pp2) ∧ w'.cell? ⟨g, off + h * 3 + 2, .none⟩ = some (.int .i64 vv2))) (by kernel_rfl) ⟨d0, d1, d2, d3, d4, d5⟩ (fun hHeld => ?_)
            refine wpAnyH_take (i := 0) (oi := _) (v := ?tv44) rfl (by kernel_rfl) (by kernel_rfl) (by kernel_rfl) (fun _ _ _ h => h) (Or.inl ⟨by kernel_rfl, ?ty44⟩) (by assumption) ?tr44
            case ty44 => (intro w7 hS7; obtain ⟨s0, s1, s2, s3, s4, s5⟩ := hS7; go_simp; try (with_reducible rfl))
            try simp only [Act.put, List.setIfInBounds_toArray, List.set_cons_zero, List.set_cons_succ]
            refine wpAnyH_take (i := 1) (oi := _) (v := ?tv45) rfl (by kernel_rfl) (by kernel_rfl) (by kernel_rfl) (fun _ _ _ h => h) (Or.inl ⟨by kernel_rfl, ?ty45⟩) (by assumption) ?tr45
            case ty45 => (intro w7 hS7; obtain ⟨s0, s1, s2, s3, s4, s5⟩ := hS7; go_simp; try (with_reducible rfl))
            try simp only [Act.put, List.setIfInBounds_toArray, List.set_cons_zero, List.set_cons_succ]
            refine wpAnyH_take (i := 2) (oi := _) (v := ?tv46) rfl (by kernel_rfl) (by kernel_rfl) (by kernel_rfl) (fun _ _ _ h => h) (Or.inl ⟨by kernel_rfl, ?ty46⟩) (by assumption) ?tr46
            case ty46 => (intro w7 hS7; obtain ⟨s0, s1, s2, s3, s4, s5⟩ := hS7; go_simp; try (with_reducible rfl))
            try simp only [Act.put, List.setIfInBounds_toArray, List.set_cons_zero, List.set_cons_succ]
            refine wpAnyH_take (i := 3) (oi := _) (v := ?tv47) rfl (by kernel_rfl) (by kernel_rfl) (by kernel_rfl) (fun _ _ _ h => h) (Or.inl ⟨by kernel_rfl, ?ty47⟩) (by assumption) ?tr47
            case ty47 => (intro w7 hS7; obtain ⟨s0, s1, s2, s3, s4, s5⟩ := hS7; go_simp; try (with_reducible rfl))
            try simp only [Act.put, List.setIfInBounds_toArray, List.set_cons_zero, List.set_cons_succ]
            refine wpAnyH_take (i := 4) (oi := _) (v := ?tv48) rfl (by kernel_rfl) (by kernel_rfl) (by kernel_rfl) (fun _ _ _ h => h) (Or.inl ⟨by kernel_rfl, ?ty48⟩) (by assumption) ?tr48
            case ty48 => (intro w7 hS7; obtain ⟨s0, s1, s2, s3, s4, s5⟩ := hS7; go_simp; try (with_reducible rfl))
            try simp only [Act.put, List.setIfInBounds_toArray, List.set_cons_zero, List.set_cons_succ]
            refine wpAnyH_take (i := 5) (oi := _) (v := ?tv49) rfl (by kernel_rfl) (by kernel_rfl) (by kernel_rfl) (fun _ _ _ h => h) (Or.inl ⟨by kernel_rfl, ?ty49⟩) (by assumption) ?tr49
            case ty49 => (intro w7 hS7; obtain ⟨s0, s1, s2, s3, s4, s5⟩ := hS7; go_simp; try (with_reducible rfl))
            try simp only [Act.put, List.setIfInBounds_toArray, List.set_cons_zero, List.set_cons_succ]
            refine wpAnyH_ready (rs := [6]) (by kernel_rfl) (by simp) (AllReadyH.cons rfl (fun K hK => ?_) AllReadyH.nil)
            go_simp
            refine (act_duo (HDU.out.drewN 1) (by omega) a b ha hb kk pp vv HV.out).mono ?_
            rintro e5 w5 ⟨rfl, F', G', M', R', ha', hb', hd', htw⟩
            have HTW := Lib.hid htw
            have HD' := Lib.hid hd'
            have hd2 := (HDU2.out.drewN 1).frame HTW.out.only HFF.out.symm HDU.out.new
            have hff2 := HTW.out.far HFF.out HDU2.out.lt
            have HDU3 := Lib.hid hd2
            have HFF3 := Lib.hid hff2
            clear htw hd' hd2 hff2
            try go_wp2_with fail
            refine hK.out _ _ ?_ (fun hHeld => ?_)
            · exact ⟨HTW.out.only.cell d0 HGN.out, HTW.out.only.cell d1 HGN.out, HTW.out.only.cell d2 HGN.out, HTW.out.only.cell d3 HGN.out, HTW.out.only.cell d4 HGN.out, HTW.out.only.cell d5 HGN.out⟩
            clear hK K
            try simp only [Act.put, List.setIfInBounds_toArray, List.set_cons_zero, List.set_cons_succ]
            refine wpAnyH_take (i := 7) (oi := _) (v := ?tv50) rfl (by kernel_rfl) (by kernel_rfl) (by kernel_rfl) (fun _ _ _ h => h) (Or.inl ⟨by kernel_rfl, ?ty50⟩) (by assumption) ?tr50
            case ty50 => (intro w7 hS7; obtain ⟨s0, s1, s2, s3, s4, s5⟩ := hS7; go_simp; try (with_reducible rfl))
            try simp only [Act.put, List.setIfInBounds_toArray, List.set_cons_zero, List.set_cons_succ]
            refine wpAnyH_take (i := 8) (oi := _) (v := ?tv51) rfl (by kernel_rfl) (by kernel_rfl) (by kernel_rfl) (fun _ _ _ h => h) (Or.inl ⟨by kernel_rfl, ?ty51⟩) (by assumption) ?tr51
            case ty51 => (intro w7 hS7; obtain ⟨s0, s1, s2, s3, s4, s5⟩ := hS7; go_simp; try (with_reducible rfl))
            try simp only [Act.put, List.setIfInBounds_toArray, List.set_cons_zero, List.set_cons_succ]
            refine wpAnyH_take (i := 9) (oi := _) (v := ?tv52) rfl (by kernel_rfl) (by kernel_rfl) (by kernel_rfl) (fun _ _ _ h => h) (Or.inl ⟨by kernel_rfl, ?ty52⟩) (by assumption) ?tr52
            case ty52 => (intro w7 hS7; obtain ⟨s0, s1, s2, s3, s4, s5⟩ := hS7; go_simp; try (with_reducible rfl))
            try simp only [Act.put, List.setIfInBounds_toArray, List.set_cons_zero, List.set_cons_succ]
            refine wpAnyH_take (i := 10) (oi := _) (v := ?tv53) rfl (by kernel_rfl) (by kernel_rfl) (by kernel_rfl) (fun _ _ _ h => h) (Or.inl ⟨by kernel_rfl, ?ty53⟩) (by assumption) ?tr53
            case ty53 => (intro w7 hS7; obtain ⟨s0, s1, s2, s3, s4, s5⟩ := hS7; go_simp; try (with_reducible rfl))
            try simp only [Act.put, List.setIfInBounds_toArray, List.set_cons_zero, List.set_cons_succ]
            refine wpAnyH_take (i := 11) (oi := _) (v := ?tv54) rfl (by kernel_rfl) (by kernel_rfl) (by kernel_rfl) (fun _ _ _ h => h) (Or.inl ⟨by kernel_rfl, ?ty54⟩) (by assumption) ?tr54
            case ty54 => (intro w7 hS7; obtain ⟨s0, s1, s2, s3, s4, s5⟩ := hS7; go_simp; try (with_reducible rfl))
            try simp only [Act.put, List.setIfInBounds_toArray, List.set_cons_zero, List.set_cons_succ]
            refine wpAnyH_take (i := 12) (oi := _) (v := ?tv55) rfl (by kernel_rfl) (by kernel_rfl) (by kernel_rfl) (fun _ _ _ h => h) (Or.inl ⟨by kernel_rfl, ?ty55⟩) (by assumption) ?tr55
            case ty55 => (intro w7 hS7; obtain ⟨s0, s1, s2, s3, s4, s5⟩ := hS7; go_simp; try (with_reducible rfl))
            try simp only [Act.put, List.setIfInBounds_toArray, List.set_cons_zero, List.set_cons_succ]
            refine wpAnyH_take (i := 13) (oi := _) (v := ?tv56) rfl (by kernel_rfl) (by kernel_rfl) (by kernel_rfl) (fun _ _ _ h => h) (Or.inl ⟨by kernel_rfl, ?ty56⟩) (by assumption) ?tr56
            case ty56 => (intro w7 hS7; obtain ⟨s0, s1, s2, s3, s4, s5⟩ := hS7; go_simp; try (with_reducible rfl))
            try simp only [Act.put, List.setIfInBounds_toArray, List.set_cons_zero, List.set_cons_succ]
            refine wpAnyH_take (i := 14) (oi := _) (v := ?tv57) rfl (by kernel_rfl) (by kernel_rfl) (by kernel_rfl) (fun _ _ _ h => h) (Or.inl ⟨by kernel_rfl, ?ty57⟩) (by assumption) ?tr57
            case ty57 => (intro w7 hS7; obtain ⟨s0, s1, s2, s3, s4, s5⟩ := hS7; go_simp; try (with_reducible rfl))
            try simp only [Act.put, List.setIfInBounds_toArray, List.set_cons_zero, List.set_cons_succ]
            refine wpAnyH_take (i := 15) (oi := _) (v := ?tv58) rfl (by kernel_rfl) (by kernel_rfl) (by kernel_rfl) (fun _ _ _ h => h) (Or.inl ⟨by kernel_rfl, ?ty58⟩) (by assumption) ?tr58
            case ty58 => (intro w7 hS7; obtain ⟨s0, s1, s2, s3, s4, s5⟩ := hS7; go_simp; try (with_reducible rfl))
            try simp only [Act.put, List.setIfInBounds_toArray, List.set_cons_zero, List.set_cons_succ]
            refine wpAnyH_take (i := 16) (oi := _) (v := ?tv59) rfl (by kernel_rfl) (by kernel_rfl) (by kernel_rfl) (fun _ _ _ h => h) (Or.inl ⟨by kernel_rfl, ?ty59⟩) (by assumption) ?tr59
            case ty59 => (intro w7 hS7; obtain ⟨s0, s1, s2, s3, s4, s5⟩ := hS7; go_simp; try (with_reducible rfl))
            try simp only [Act.put, List.setIfInBounds_toArray, List.set_cons_zero, List.set_cons_succ]
            refine wpAnyH_take (i := 17) (oi := _) (v := ?tv60) rfl (by kernel_rfl) (by kernel_rfl) (by kernel_rfl) (fun _ _ _ h => h) (Or.inl ⟨by kernel_rfl, ?ty60⟩) (by assumption) ?tr60
            case ty60 => (intro w7 hS7; obtain ⟨s0, s1, s2, s3, s4, s5⟩ := hS7; go_simp; try (with_reducible rfl))
            try simp only [Act.put, List.setIfInBounds_toArray, List.set_cons_zero, List.set_cons_succ]
            refine wpAnyH_take (i := 18) (oi := _) (v := ?tv61) rfl (by kernel_rfl) (by kernel_rfl) (by kernel_rfl) (fun _ _ _ h => h) (Or.inl ⟨by kernel_rfl, ?ty61⟩) (by assumption) ?tr61
            case ty61 => (intro w7 hS7; obtain ⟨s0, s1, s2, s3, s4, s5⟩ := hS7; go_simp; try (with_reducible rfl))
            try simp only [Act.put, List.setIfInBounds_toArray, List.set_cons_zero, List.set_cons_succ]
            refine wpAnyH_take (i := 19) (oi := _) (v := ?tv62) rfl (by kernel_rfl) (by kernel_rfl) (by kernel_rfl) (fun _ _ _ h => h) (Or.inl ⟨by kernel_rfl, ?ty62⟩) (by assumption) ?tr62
            case ty62 => (intro w7 hS7; obtain ⟨s0, s1, s2, s3, s4, s5⟩ := hS7; go_simp; try (with_reducible rfl))
            try simp only [Act.put, List.setIfInBounds_toArray, List.set_cons_zero, List.set_cons_succ]
            refine wpAnyH_take (i := 20) (oi := _) (v := ?tv63) rfl (by kernel_rfl) (by kernel_rfl) (by kernel_rfl) (fun _ _ _ h => h) (Or.inl ⟨by kernel_rfl, ?ty63⟩) (by assumption) ?tr63
            case ty63 => (intro w7 hS7; obtain ⟨s0, s1, s2, s3, s4, s5⟩ := hS7; go_simp; try (with_reducible rfl))
            try simp only [Act.put, List.setIfInBounds_toArray, List.set_cons_zero, List.set_cons_succ]
            refine wpAnyH_take (i := 21) (oi := _) (v := ?tv64) rfl (by kernel_rfl) (by kernel_rfl) (by kernel_rfl) (fun _ _ _ h => h) (Or.inl ⟨by kernel_rfl, ?ty64⟩) (by assumption) ?tr64
            case ty64 => (intro w7 hS7; obtain ⟨s0, s1, s2, s3, s4, s5⟩ := hS7; go_simp; try (with_reducible rfl))
            try simp only [Act.put, List.setIfInBounds_toArray, List.set_cons_zero, List.set_cons_succ]
            refine wpAnyH_take (i := 22) (oi := _) (v := ?tv65) rfl (by kernel_rfl) (by kernel_rfl) (by kernel_rfl) (fun _ _ _ h => h) (Or.inl ⟨by kernel_rfl, ?ty65⟩) (by assumption) ?tr65
            case ty65 => (intro w7 hS7; obtain ⟨s0, s1, s2, s3, s4, s5⟩ := hS7; go_simp; try (with_reducible rfl))
            try simp only [Act.put, List.setIfInBounds_toArray, List.set_cons_zero, List.set_cons_succ]
            refine wpAnyH_take (i := 23) (oi := _) (v := ?tv66) rfl (by kernel_rfl) (by kernel_rfl) (by kernel_rfl) (fun _ _ _ h => h) (Or.inl ⟨by kernel_rfl, ?ty66⟩) (by assumption) ?tr66
            case ty66 => (intro w7 hS7; obtain ⟨s0, s1, s2, s3, s4, s5⟩ := hS7; go_simp; try (with_reducible rfl))
            try simp only [Act.put, List.setIfInBounds_toArray, List.set_cons_zero, List.set_cons_succ]
            refine wpAnyH_ready (rs := [24]) (by kernel_rfl) (by simp) (AllReadyH.cons rfl (fun K hK => ?_) AllReadyH.nil)
            go_simp
            refine (act_duo HDU3.out (by omega) F2.a G2.a rfl rfl kk2 pp2 vv2 HV2.out).mono ?_
            rintro e6 w6 ⟨rfl, F3, G3, M3, R3, ha3, hb3, hd3, htw3⟩
            have HTW3 := Lib.hid htw3
            have hd4 := HD'.out.frame htw3.only HFF3.out HDU3.out.new
            obtain ⟨S, T, hS, hT, t7, t8⟩ := hd4.counts a b ha' hb'
            have HS := Lib.hid hS
            have HT := Lib.hid hT
            have HD4 := Lib.hid hd4
            have HD3 := Lib.hid hd3
            clear hS hT htw3 hd3 hd4
            try go_wp2_with fail
            refine hK.out _ _ ?_ (fun hHeld => ?_)
            · exact ⟨HTW3.out.only.cell (HTW.out.only.cell d0 HGN.out) HGN2.out, HTW3.out.only.cell (HTW.out.only.cell d1 HGN.out) HGN2.out, HTW3.out.only.cell (HTW.out.only.cell d2 HGN.out) HGN2.out, HTW3.out.only.cell (HTW.out.only.cell d3 HGN.out) HGN2.out, HTW3.out.only.cell (HTW.out.only.cell d4 HGN.out) HGN2.out, HTW3.out.only.cell (HTW.out.only.cell d5 HGN.out) HGN2.out⟩
            clear hK K
            try simp only [Act.put, List.setIfInBounds_toArray, List.set_cons_zero, List.set_cons_succ]
            have hHeld2 : (fun w' => w'.cell? ⟨g, off + k * 3, .none⟩ = some (.int .i64 kk) ∧ w'.cell? ⟨g, off + k * 3 + 1, .none⟩ = some (.int .i64 pp) ∧ w'.cell? ⟨g, off + k * 3 + 2, .none⟩ = some (.int .i64 vv) ∧ w'.cell? ⟨g, off + h * 3, .none⟩ = some (.int .i64 kk2) ∧ w'.cell? ⟨g, off + h * 3 + 1, .none⟩ = some (.int .i64 pp2) ∧ w'.cell? ⟨g, off + h * 3 + 2, .none⟩ = some (.int .i64 vv2) ∧ w'.cell? ⟨b, 7, .none⟩ = some (.int .i64 S) ∧ w'.cell? ⟨b, 8, .none⟩ = some (.int .i64 T)) w6 := ⟨hHeld.1, hHeld.2.1, hHeld.2.2.1, hHeld.2.2.2.1, hHeld.2.2.2.2.1, hHeld.2.2.2.2.2, t7, t8⟩
            refine wpAnyH_mono (S' := (fun w' => w'.cell? ⟨g, off + k * 3, .none⟩ = some (.int .i64 kk) ∧ w'.cell? ⟨g, off + k * 3 + 1, .none⟩ = some (.int .i64 pp) ∧ w'.cell? ⟨g, off + k * 3 + 2, .none⟩ = some (.int .i64 vv) ∧ w'.cell? ⟨g, off + h * 3, .none⟩ = some (.int .i64 kk2) ∧ w'.cell? ⟨g, off + h * 3 + 1, .none⟩ = some (.int .i64 pp2) ∧ w'.cell? ⟨g, off + h * 3 + 2, .none⟩ = some (.int .i64 vv2) ∧ w'.cell? ⟨b, 7, .none⟩ = some (.int .i64 S) ∧ w'.cell? ⟨b, 8, .none⟩ = some (.int .i64 T))) (fun _ hS => ⟨hS.1, hS.2.1, hS.2.2.1, hS.2.2.2.1, hS.2.2.2.2.1, hS.2.2.2.2.2.1⟩) _ _ _ _ ?_
            clear hHeld
            refine wpAnyH_take (i := 25) (oi := _) (v := ?tv67) rfl (by kernel_rfl) (by kernel_rfl) (by kernel_rfl) (fun _ _ _ h => h) (Or.inl ⟨by kernel_rfl, ?ty67⟩) (by assumption) ?tr67
            case ty67 => (intro w7 hS7; obtain ⟨s0, s1, s2, s3, s4, s5, s6, s7⟩ := hS7; go_simp; try (with_reducible rfl))
            try simp only [Act.put, List.setIfInBounds_toArray, List.set_cons_zero, List.set_cons_succ]
            refine wpAnyH_take (i := 26) (oi := _) (v := ?tv68) rfl (by kernel_rfl) (by kernel_rfl) (by kernel_rfl) (fun _ _ _ h => h) (Or.inl ⟨by kernel_rfl, ?ty68⟩) (by assumption) ?tr68
            case ty68 => (intro w7 hS7; obtain ⟨s0, s1, s2, s3, s4, s5, s6, s7⟩ := hS7; go_simp; try (with_reducible rfl))
            try simp only [Act.put, List.setIfInBounds_toArray, List.set_cons_zero, List.set_cons_succ]
            refine wpAnyH_take (i := 27) (oi := _) (v := ?tv69) rfl (by kernel_rfl) (by kernel_rfl) (by kernel_rfl) (fun _ _ _ h => h) (Or.inl ⟨by kernel_rfl, ?ty69⟩) (by assumption) ?tr69
            case ty69 => (intro w7 hS7; obtain ⟨s0, s1, s2, s3, s4, s5, s6, s7⟩ := hS7; go_simp; try (with_reducible rfl))
            try simp only [Act.put, List.setIfInBounds_toArray, List.set_cons_zero, List.set_cons_succ]
            refine wpAnyH_take (i := 28) (oi := _) (v := ?tv70) rfl (by kernel_rfl) (by kernel_rfl) (by kernel_rfl) (fun _ _ _ h => h) (Or.inl ⟨by kernel_rfl, ?ty70⟩) (by assumption) ?tr70
            case ty70 => (intro w7 hS7; obtain ⟨s0, s1, s2, s3, s4, s5, s6, s7⟩ := hS7; go_simp; try (with_reducible rfl))
            try simp only [Act.put, List.setIfInBounds_toArray, List.set_cons_zero, List.set_cons_succ]
            refine wpAnyH_take (i := 29) (oi := _) (v := ?tv71) rfl (by kernel_rfl) (by kernel_rfl) (by kernel_rfl) (fun _ _ _ h => h) (Or.inl ⟨by kernel_rfl, ?ty71⟩) (by assumption) ?tr71
            case ty71 => (intro w7 hS7; obtain ⟨s0, s1, s2, s3, s4, s5, s6, s7⟩ := hS7; go_simp; try (with_reducible rfl))
            try simp only [Act.put, List.setIfInBounds_toArray, List.set_cons_zero, List.set_cons_succ]
            refine wpAnyH_take (i := 31) (oi := _) (v := ?tv72) rfl (by kernel_rfl) (by kernel_rfl) (by kernel_rfl) (fun _ _ _ h => h) (Or.inl ⟨by kernel_rfl, ?ty72⟩) (by assumption) ?tr72
            case ty72 => (intro w7 hS7; obtain ⟨s0, s1, s2, s3, s4, s5, s6, s7⟩ := hS7; go_simp; try (with_reducible rfl))
            try simp only [Act.put, List.setIfInBounds_toArray, List.set_cons_zero, List.set_cons_succ]
            refine wpAnyH_take (i := 32) (oi := _) (v := ?tv73) rfl (by kernel_rfl) (by kernel_rfl) (by kernel_rfl) (fun _ _ _ h => h) (Or.inl ⟨by kernel_rfl, ?ty73⟩) (by assumption) ?tr73
            case ty73 => (intro w7 hS7; obtain ⟨s0, s1, s2, s3, s4, s5, s6, s7⟩ := hS7; go_simp; try (with_reducible rfl))
            try simp only [Act.put, List.setIfInBounds_toArray, List.set_cons_zero, List.set_cons_succ]
            refine wpAnyH_take (i := 33) (oi := _) (v := ?tv74) rfl (by kernel_rfl) (by kernel_rfl) (by kernel_rfl) (fun _ _ _ h => h) (Or.inl ⟨by kernel_rfl, ?ty74⟩) (by assumption) ?tr74
            case ty74 => (intro w7 hS7; obtain ⟨s0, s1, s2, s3, s4, s5, s6, s7⟩ := hS7; go_simp; try (with_reducible rfl))
            try simp only [Act.put, List.setIfInBounds_toArray, List.set_cons_zero, List.set_cons_succ]
            refine wpAnyH_take (i := 34) (oi := _) (v := ?tv75) rfl (by kernel_rfl) (by kernel_rfl) (by kernel_rfl) (fun _ _ _ h => h) (Or.inl ⟨by kernel_rfl, ?ty75⟩) (by assumption) ?tr75
            case ty75 => (intro w7 hS7; obtain ⟨s0, s1, s2, s3, s4, s5, s6, s7⟩ := hS7; go_simp; try (with_reducible rfl))
            try simp only [Act.put, List.setIfInBounds_toArray, List.set_cons_zero, List.set_cons_succ]
            refine wpAnyH_ready (rs := [30]) (by kernel_rfl) (by simp) (AllReadyH.cons rfl (fun K hK => ?_) AllReadyH.nil)
            go_simp
            refine (HS.out _ HD4.out.mem).mono ?_
            rintro e8 w8 ⟨rfl, rfl⟩
            try go_wp2_with fail
            refine hK.out _ _ ?_ (fun hHeld => ?_)
            · exact hHeld2
            clear hK K
            try simp only [Act.put, List.setIfInBounds_toArray, List.set_cons_zero, List.set_cons_succ]
            refine wpAnyH_take (i := 35) (oi := _) (v := ?tv76) rfl (by kernel_rfl) (by kernel_rfl) (by kernel_rfl) (fun _ _ _ h => h) (Or.inl ⟨by kernel_rfl, ?ty76⟩) (by assumption) ?tr76
            case ty76 => (intro w7 hS7; obtain ⟨s0, s1, s2, s3, s4, s5, s6, s7⟩ := hS7; go_simp; try (with_reducible rfl))
            try simp only [Act.put, List.setIfInBounds_toArray, List.set_cons_zero, List.set_cons_succ]
            refine wpAnyH_take (i := 36) (oi := _) (v := ?tv77) rfl (by kernel_rfl) (by kernel_rfl) (by kernel_rfl) (fun _ _ _ h => h) (Or.inl ⟨by kernel_rfl, ?ty77⟩) (by assumption) ?tr77
            case ty77 => (intro w7 hS7; obtain ⟨s0, s1, s2, s3, s4, s5, s6, s7⟩ := hS7; go_simp; try (with_reducible rfl))
            try simp only [Act.put, List.setIfInBounds_toArray, List.set_cons_zero, List.set_cons_succ]
            refine wpAnyH_take (i := 37) (oi := _) (v := ?tv78) rfl (by kernel_rfl) (by kernel_rfl) (by kernel_rfl) (fun _ _ _ h => h) (Or.inl ⟨by kernel_rfl, ?ty78⟩) (by assumption) ?tr78
            case ty78 => (intro w7 hS7; obtain ⟨s0, s1, s2, s3, s4, s5, s6, s7⟩ := hS7; go_simp; try (with_reducible rfl))
            try simp only [Act.put, List.setIfInBounds_toArray, List.set_cons_zero, List.set_cons_succ]
            refine wpAnyH_take (i := 38) (oi := _) (v := ?tv79) rfl (by kernel_rfl) (by kernel_rfl) (by kernel_rfl) (fun _ _ _ h => h) (Or.inl ⟨by kernel_rfl, ?ty79⟩) (by assumption) ?tr79
            case ty79 => (intro w7 hS7; obtain ⟨s0, s1, s2, s3, s4, s5, s6, s7⟩ := hS7; go_simp; try (with_reducible rfl))
            try simp only [Act.put, List.setIfInBounds_toArray, List.set_cons_zero, List.set_cons_succ]
            refine wpAnyH_take (i := 40) (oi := _) (v := ?tv80) rfl (by kernel_rfl) (by kernel_rfl) (by kernel_rfl) (fun _ _ _ h => h) (Or.inl ⟨by kernel_rfl, ?ty80⟩) (by assumption) ?tr80
            case ty80 => (intro w7 hS7; obtain ⟨s0, s1, s2, s3, s4, s5, s6, s7⟩ := hS7; go_simp; try (with_reducible rfl))
            try simp only [Act.put, List.setIfInBounds_toArray, List.set_cons_zero, List.set_cons_succ]
            refine wpAnyH_take (i := 41) (oi := _) (v := ?tv81) rfl (by kernel_rfl) (by kernel_rfl) (by kernel_rfl) (fun _ _ _ h => h) (Or.inl ⟨by kernel_rfl, ?ty81⟩) (by assumption) ?tr81
            case ty81 => (intro w7 hS7; obtain ⟨s0, s1, s2, s3, s4, s5, s6, s7⟩ := hS7; go_simp; try (with_reducible rfl))
            try simp only [Act.put, List.setIfInBounds_toArray, List.set_cons_zero, List.set_cons_succ]
            refine wpAnyH_take (i := 42) (oi := _) (v := ?tv82) rfl (by kernel_rfl) (by kernel_rfl) (by kernel_rfl) (fun _ _ _ h => h) (Or.inl ⟨by kernel_rfl, ?ty82⟩) (by assumption) ?tr82
            case ty82 => (intro w7 hS7; obtain ⟨s0, s1, s2, s3, s4, s5, s6, s7⟩ := hS7; go_simp; try (with_reducible rfl))
            try simp only [Act.put, List.setIfInBounds_toArray, List.set_cons_zero, List.set_cons_succ]
            refine wpAnyH_take (i := 43) (oi := _) (v := ?tv83) rfl (by kernel_rfl) (by kernel_rfl) (by kernel_rfl) (fun _ _ _ h => h) (Or.inl ⟨by kernel_rfl, ?ty83⟩) (by assumption) ?tr83
            case ty83 => (intro w7 hS7; obtain ⟨s0, s1, s2, s3, s4, s5, s6, s7⟩ := hS7; go_simp; try (with_reducible rfl))
            try simp only [Act.put, List.setIfInBounds_toArray, List.set_cons_zero, List.set_cons_succ]
            refine wpAnyH_ready (rs := [39]) (by kernel_rfl) (by simp) (AllReadyH.cons rfl (fun K hK => ?_) AllReadyH.nil)
            go_simp
            refine (HT.out _ HD4.out.mem).mono ?_
            rintro e9 w9 ⟨rfl, rfl⟩
            try go_wp2_with fail
            refine hK.out _ _ ?_ (fun hHeld => ?_)
            · exact hHeld2
            clear hK K
            try simp only [Act.put, List.setIfInBounds_toArray, List.set_cons_zero, List.set_cons_succ]
            refine wpAnyH_take (i := 44) (oi := _) (v := ?tv84) rfl (by kernel_rfl) (by kernel_rfl) (by kernel_rfl) (fun _ _ _ h => h) (Or.inl ⟨by kernel_rfl, ?ty84⟩) (by assumption) ?tr84
            case ty84 => (intro w7 hS7; obtain ⟨s0, s1, s2, s3, s4, s5, s6, s7⟩ := hS7; go_simp; try (with_reducible rfl))
            try simp only [Act.put, List.setIfInBounds_toArray, List.set_cons_zero, List.set_cons_succ]
            refine wpAnyH_take (i := 45) (oi := _) (v := ?tv85) rfl (by kernel_rfl) (by kernel_rfl) (by kernel_rfl) (fun _ _ _ h => h) (Or.inl ⟨by kernel_rfl, ?ty85⟩) (by assumption) ?tr85
            case ty85 => (intro w7 hS7; obtain ⟨s0, s1, s2, s3, s4, s5, s6, s7⟩ := hS7; go_simp; try (with_reducible rfl))
            try simp only [Act.put, List.setIfInBounds_toArray, List.set_cons_zero, List.set_cons_succ]
            refine wpAnyH_done (by kernel_rfl) ?_ _
            go_wp2_with fail
            exact ⟨⟨Z, by have := HZ.out; omega, by have := HZ.out; omega, rfl, F', G', M', R', ha', hb', by rw [← HZ.out]; exact HD4.out, .inr ⟨by have := HZ.out; omega, F3, G3, M3, R3, by rw [ha3], by rw [hb3], by rw [← HZ.out]; exact HD3.out, (HTW3.out.far HFF3.out.symm HD'.out.lt).symm⟩⟩, by have := HZ.out; simp [intOf]; omega⟩
          · obtain ⟨rm, e3, r5⟩ : ∃ rm : Int, (k : Int).tmod 3 = rm ∧ (rm == 0) = false := ⟨_, rfl, by
                have : (k : Int).tmod 3 = ((k % 3 : Nat) : Int) := rfl
                rw [this, beq_eq_false_iff_ne]; omega⟩
            obtain ⟨F, G, M, R, ha, hb, hd, hor⟩ := HI.out
            have hgn : ¬ (F.has g ∨ G.has g) := fun h => by have := hd.new g h; omega
            have d0 := (hd.bel.cell (p := ⟨g, off + k * 3, .none⟩) hg).trans c0
            have d1 := (hd.bel.cell (p := ⟨g, off + k * 3 + 1, .none⟩) hg).trans c1
            have d2 := (hd.bel.cell (p := ⟨g, off + k * 3 + 2, .none⟩) hg).trans c2
            have HDU := Lib.hid hd
            have HGN := Lib.hid hgn
            have HOR := Lib.hid hor
            have HV := Lib.hid hv
            obtain ⟨F2, G2, M2, R2, rfl, rfl, hdu2, hff⟩ : ∃ F2 G2 M2 R2, u9 = .pointer (some ⟨F2.a, 0, .none⟩) ∧ u10 = .pointer (some ⟨G2.a, 0, .none⟩) ∧ Duo w wr n k F2 G2 M2 R2 ∧ Far F G F2 G2 := by
              rcases HOR.out with ⟨hh, _⟩ | ⟨_, hh⟩
              · omega
              · exact hh
            have HDU2 := Lib.hid hdu2
            have HFF := Lib.hid hff
            clear hdu2 hff
            clear hd hgn hor hv c0 c1 c2 hcs
            go_wp2_with fail
            refine wp_region_held_drew (S := (fun w' => w'.cell? ⟨g, off + k * 3, .none⟩ = some (.int .i64 kk) ∧ w'.cell? ⟨g, off + k * 3 + 1, .none⟩ = some (.int .i64 pp) ∧ w'.cell? ⟨g, off + k * 3 + 2, .none⟩ = some (.int .i64 vv))) (by kernel_rfl) ⟨d0, d1, d2⟩ (fun hHeld => ?_)
            refine wpAnyH_take (i := 0) (oi := _) (v := ?tv86) rfl (by kernel_rfl) (by kernel_rfl) (by kernel_rfl) (fun _ _ _ h => h) (Or.inl ⟨by kernel_rfl, ?ty86⟩) (by assumption) ?tr86
            case ty86 => (intro w7 hS7; obtain ⟨s0, s1, s2⟩ := hS7; go_simp; try (with_reducible rfl))
            try simp only [Act.put, List.setIfInBounds_toArray, List.set_cons_zero, List.set_cons_succ]
            refine wpAnyH_take (i := 1) (oi := _) (v := ?tv87) rfl (by kernel_rfl) (by kernel_rfl) (by kernel_rfl) (fun _ _ _ h => h) (Or.inl ⟨by kernel_rfl, ?ty87⟩) (by assumption) ?tr87
            case ty87 => (intro w7 hS7; obtain ⟨s0, s1, s2⟩ := hS7; go_simp; try (with_reducible rfl))
            try simp only [Act.put, List.setIfInBounds_toArray, List.set_cons_zero, List.set_cons_succ]
            refine wpAnyH_take (i := 2) (oi := _) (v := ?tv88) rfl (by kernel_rfl) (by kernel_rfl) (by kernel_rfl) (fun _ _ _ h => h) (Or.inl ⟨by kernel_rfl, ?ty88⟩) (by assumption) ?tr88
            case ty88 => (intro w7 hS7; obtain ⟨s0, s1, s2⟩ := hS7; go_simp; try (with_reducible rfl))
            try simp only [Act.put, List.setIfInBounds_toArray, List.set_cons_zero, List.set_cons_succ]
            refine wpAnyH_take (i := 3) (oi := _) (v := ?tv89) rfl (by kernel_rfl) (by kernel_rfl) (by kernel_rfl) (fun _ _ _ h => h) (Or.inl ⟨by kernel_rfl, ?ty89⟩) (by assumption) ?tr89
            case ty89 => (intro w7 hS7; obtain ⟨s0, s1, s2⟩ := hS7; go_simp; try (with_reducible rfl))
            try simp only [Act.put, List.setIfInBounds_toArray, List.set_cons_zero, List.set_cons_succ]
            refine wpAnyH_take (i := 4) (oi := _) (v := ?tv90) rfl (by kernel_rfl) (by kernel_rfl) (by kernel_rfl) (fun _ _ _ h => h) (Or.inl ⟨by kernel_rfl, ?ty90⟩) (by assumption) ?tr90
            case ty90 => (intro w7 hS7; obtain ⟨s0, s1, s2⟩ := hS7; go_simp; try (with_reducible rfl))
            try simp only [Act.put, List.setIfInBounds_toArray, List.set_cons_zero, List.set_cons_succ]
            refine wpAnyH_take (i := 5) (oi := _) (v := ?tv91) rfl (by kernel_rfl) (by kernel_rfl) (by kernel_rfl) (fun _ _ _ h => h) (Or.inl ⟨by kernel_rfl, ?ty91⟩) (by assumption) ?tr91
            case ty91 => (intro w7 hS7; obtain ⟨s0, s1, s2⟩ := hS7; go_simp; try (with_reducible rfl))
            try simp only [Act.put, List.setIfInBounds_toArray, List.set_cons_zero, List.set_cons_succ]
            refine wpAnyH_ready (rs := [6]) (by kernel_rfl) (by simp) (AllReadyH.cons rfl (fun K hK => ?_) AllReadyH.nil)
            go_simp
            refine (act_duo (HDU.out.drewN 1) (by omega) a b ha hb kk pp vv HV.out).mono ?_
            rintro e5 w5 ⟨rfl, F', G', M', R', ha', hb', hd', htw⟩
            have HTW := Lib.hid htw
            have HD' := Lib.hid hd'
            obtain ⟨S, T, hS, hT, t7, t8⟩ := hd'.counts a b ha' hb'
            have HS := Lib.hid hS
            have HT := Lib.hid hT
            clear hS hT
            clear htw hd'
            try go_wp2_with fail
            refine hK.out _ _ ?_ (fun hHeld => ?_)
            · exact ⟨HTW.out.only.cell d0 HGN.out, HTW.out.only.cell d1 HGN.out, HTW.out.only.cell d2 HGN.out⟩
            clear hK K
            try simp only [Act.put, List.setIfInBounds_toArray, List.set_cons_zero, List.set_cons_succ]
            have hHeld2 : (fun w' => w'.cell? ⟨g, off + k * 3, .none⟩ = some (.int .i64 kk) ∧ w'.cell? ⟨g, off + k * 3 + 1, .none⟩ = some (.int .i64 pp) ∧ w'.cell? ⟨g, off + k * 3 + 2, .none⟩ = some (.int .i64 vv) ∧ w'.cell? ⟨b, 7, .none⟩ = some (.int .i64 S) ∧ w'.cell? ⟨b, 8, .none⟩ = some (.int .i64 T)) w5 := ⟨hHeld.1, hHeld.2.1, hHeld.2.2, t7, t8⟩
            refine wpAnyH_mono (S' := (fun w' => w'.cell? ⟨g, off + k * 3, .none⟩ = some (.int .i64 kk) ∧ w'.cell? ⟨g, off + k * 3 + 1, .none⟩ = some (.int .i64 pp) ∧ w'.cell? ⟨g, off + k * 3 + 2, .none⟩ = some (.int .i64 vv) ∧ w'.cell? ⟨b, 7, .none⟩ = some (.int .i64 S) ∧ w'.cell? ⟨b, 8, .none⟩ = some (.int .i64 T))) (fun _ hS => ⟨hS.1, hS.2.1, hS.2.2.1⟩) _ _ _ _ ?_
            clear hHeld
            refine wpAnyH_take (i := 7) (oi := _) (v := ?tv92) rfl (by kernel_rfl) (by kernel_rfl) (by kernel_rfl) (fun _ _ _ h => h) (Or.inl ⟨by kernel_rfl, ?ty92⟩) (by assumption) ?tr92
            case ty92 => (intro w7 hS7; obtain ⟨s0, s1, s2, s3, s4⟩ := hS7; go_simp; try (with_reducible rfl))
            try simp only [Act.put, List.setIfInBounds_toArray, List.set_cons_zero, List.set_cons_succ]
            refine wpAnyH_take (i := 8) (oi := _) (v := ?tv93) rfl (by kernel_rfl) (by kernel_rfl) (by kernel_rfl) (fun _ _ _ h => h) (Or.inl ⟨by kernel_rfl, ?ty93⟩) (by assumption) ?tr93
            case ty93 => (intro w7 hS7; obtain ⟨s0, s1, s2, s3, s4⟩ := hS7; go_simp; try (with_reducible rfl))
            try simp only [Act.put, List.setIfInBounds_toArray, List.set_cons_zero, List.set_cons_succ]
            refine wpAnyH_take (i := 9) (oi := _) (v := ?tv94) rfl (by kernel_rfl) (by kernel_rfl) (by kernel_rfl) (fun _ _ _ h => h) (Or.inl ⟨by kernel_rfl, ?ty94⟩) (by assumption) ?tr94
            case ty94 => (intro w7 hS7; obtain ⟨s0, s1, s2, s3, s4⟩ := hS7; go_simp; try (with_reducible rfl))
            try simp only [Act.put, List.setIfInBounds_toArray, List.set_cons_zero, List.set_cons_succ]
            refine wpAnyH_take (i := 10) (oi := _) (v := ?tv95) rfl (by kernel_rfl) (by kernel_rfl) (by kernel_rfl) (fun _ _ _ h => h) (Or.inl ⟨by kernel_rfl, ?ty95⟩) (by assumption) ?tr95
            case ty95 => (intro w7 hS7; obtain ⟨s0, s1, s2, s3, s4⟩ := hS7; go_simp; try (with_reducible rfl))
            try simp only [Act.put, List.setIfInBounds_toArray, List.set_cons_zero, List.set_cons_succ]
            refine wpAnyH_take (i := 11) (oi := _) (v := ?tv96) rfl (by kernel_rfl) (by kernel_rfl) (by kernel_rfl) (fun _ _ _ h => h) (Or.inl ⟨by kernel_rfl, ?ty96⟩) (by assumption) ?tr96
            case ty96 => (intro w7 hS7; obtain ⟨s0, s1, s2, s3, s4⟩ := hS7; go_simp; try (with_reducible rfl))
            try simp only [Act.put, List.setIfInBounds_toArray, List.set_cons_zero, List.set_cons_succ]
            refine wpAnyH_take (i := 12) (oi := _) (v := ?tv97) rfl (by kernel_rfl) (by kernel_rfl) (by kernel_rfl) (fun _ _ _ h => h) (Or.inl ⟨by kernel_rfl, ?ty97⟩) (by assumption) ?tr97
            case ty97 => (intro w7 hS7; obtain ⟨s0, s1, s2, s3, s4⟩ := hS7; go_simp; try (with_reducible rfl))
            try simp only [Act.put, List.setIfInBounds_toArray, List.set_cons_zero, List.set_cons_succ]
            refine wpAnyH_take (i := 13) (oi := _) (v := ?tv98) rfl (by kernel_rfl) (by kernel_rfl) (by kernel_rfl) (fun _ _ _ h => h) (Or.inl ⟨by kernel_rfl, ?ty98⟩) (by assumption) ?tr98
            case ty98 => (intro w7 hS7; obtain ⟨s0, s1, s2, s3, s4⟩ := hS7; go_simp; try (with_reducible rfl))
            try simp only [Act.put, List.setIfInBounds_toArray, List.set_cons_zero, List.set_cons_succ]
            refine wpAnyH_take (i := 14) (oi := _) (v := ?tv99) rfl (by kernel_rfl) (by kernel_rfl) (by kernel_rfl) (fun _ _ _ h => h) (Or.inl ⟨by kernel_rfl, ?ty99⟩) (by assumption) ?tr99
            case ty99 => (intro w7 hS7; obtain ⟨s0, s1, s2, s3, s4⟩ := hS7; go_simp; try (with_reducible rfl))
            try simp only [Act.put, List.setIfInBounds_toArray, List.set_cons_zero, List.set_cons_succ]
            refine wpAnyH_take (i := 15) (oi := _) (v := ?tv100) rfl (by kernel_rfl) (by kernel_rfl) (by kernel_rfl) (fun _ _ _ h => h) (Or.inl ⟨by kernel_rfl, ?ty100⟩) (by assumption) ?tr100
            case ty100 => (intro w7 hS7; obtain ⟨s0, s1, s2, s3, s4⟩ := hS7; go_simp; try (with_reducible rfl))
            try simp only [Act.put, List.setIfInBounds_toArray, List.set_cons_zero, List.set_cons_succ]
            refine wpAnyH_take (i := 16) (oi := _) (v := ?tv101) rfl (by kernel_rfl) (by kernel_rfl) (by kernel_rfl) (fun _ _ _ h => h) (Or.inl ⟨by kernel_rfl, ?ty101⟩) (by assumption) ?tr101
            case ty101 => (intro w7 hS7; obtain ⟨s0, s1, s2, s3, s4⟩ := hS7; go_simp; try (with_reducible rfl))
            try simp only [Act.put, List.setIfInBounds_toArray, List.set_cons_zero, List.set_cons_succ]
            refine wpAnyH_take (i := 17) (oi := _) (v := undef) rfl (by kernel_rfl) (by kernel_rfl) (by kernel_rfl) (fun _ _ _ h => h) (Or.inr ⟨by kernel_rfl, rfl⟩) (by assumption) ?tr102
            try simp only [Act.put, List.setIfInBounds_toArray, List.set_cons_zero, List.set_cons_succ]
            refine wpAnyH_take (i := 18) (oi := _) (v := undef) rfl (by kernel_rfl) (by kernel_rfl) (by kernel_rfl) (fun _ _ _ h => h) (Or.inr ⟨by kernel_rfl, rfl⟩) (by assumption) ?tr103
            try simp only [Act.put, List.setIfInBounds_toArray, List.set_cons_zero, List.set_cons_succ]
            refine wpAnyH_take (i := 19) (oi := _) (v := undef) rfl (by kernel_rfl) (by kernel_rfl) (by kernel_rfl) (fun _ _ _ h => h) (Or.inr ⟨by kernel_rfl, rfl⟩) (by assumption) ?tr104
            try simp only [Act.put, List.setIfInBounds_toArray, List.set_cons_zero, List.set_cons_succ]
            refine wpAnyH_take (i := 20) (oi := _) (v := undef) rfl (by kernel_rfl) (by kernel_rfl) (by kernel_rfl) (fun _ _ _ h => h) (Or.inr ⟨by kernel_rfl, rfl⟩) (by assumption) ?tr105
            try simp only [Act.put, List.setIfInBounds_toArray, List.set_cons_zero, List.set_cons_succ]
            refine wpAnyH_take (i := 21) (oi := _) (v := undef) rfl (by kernel_rfl) (by kernel_rfl) (by kernel_rfl) (fun _ _ _ h => h) (Or.inr ⟨by kernel_rfl, rfl⟩) (by assumption) ?tr106
            try simp only [Act.put, List.setIfInBounds_toArray, List.set_cons_zero, List.set_cons_succ]
            refine wpAnyH_take (i := 22) (oi := _) (v := undef) rfl (by kernel_rfl) (by kernel_rfl) (by kernel_rfl) (fun _ _ _ h => h) (Or.inr ⟨by kernel_rfl, rfl⟩) (by assumption) ?tr107
            try simp only [Act.put, List.setIfInBounds_toArray, List.set_cons_zero, List.set_cons_succ]
            refine wpAnyH_take (i := 23) (oi := _) (v := undef) rfl (by kernel_rfl) (by kernel_rfl) (by kernel_rfl) (fun _ _ _ h => h) (Or.inr ⟨by kernel_rfl, rfl⟩) (by assumption) ?tr108
            try simp only [Act.put, List.setIfInBounds_toArray, List.set_cons_zero, List.set_cons_succ]
            refine wpAnyH_take (i := 24) (oi := _) (v := undef) rfl (by kernel_rfl) (by kernel_rfl) (by kernel_rfl) (fun _ _ _ h => h) (Or.inr ⟨by kernel_rfl, rfl⟩) (by assumption) ?tr109
            try simp only [Act.put, List.setIfInBounds_toArray, List.set_cons_zero, List.set_cons_succ]
            refine wpAnyH_take (i := 25) (oi := _) (v := undef) rfl (by kernel_rfl) (by kernel_rfl) (by kernel_rfl) (fun _ _ _ h => h) (Or.inr ⟨by kernel_rfl, rfl⟩) (by assumption) ?tr110
            try simp only [Act.put, List.setIfInBounds_toArray, List.set_cons_zero, List.set_cons_succ]
            refine wpAnyH_take (i := 26) (oi := _) (v := ?tv111) rfl (by kernel_rfl) (by kernel_rfl) (by kernel_rfl) (fun _ _ _ h => h) (Or.inl ⟨by kernel_rfl, ?ty111⟩) (by assumption) ?tr111
            case ty111 => (intro w7 hS7; obtain ⟨s0, s1, s2, s3, s4⟩ := hS7; go_simp; try (with_reducible rfl))
            try simp only [Act.put, List.setIfInBounds_toArray, List.set_cons_zero, List.set_cons_succ]
            refine wpAnyH_take (i := 27) (oi := _) (v := ?tv112) rfl (by kernel_rfl) (by kernel_rfl) (by kernel_rfl) (fun _ _ _ h => h) (Or.inl ⟨by kernel_rfl, ?ty112⟩) (by assumption) ?tr112
            case ty112 => (intro w7 hS7; obtain ⟨s0, s1, s2, s3, s4⟩ := hS7; go_simp; try (with_reducible rfl))
            try simp only [Act.put, List.setIfInBounds_toArray, List.set_cons_zero, List.set_cons_succ]
            refine wpAnyH_take (i := 28) (oi := _) (v := ?tv113) rfl (by kernel_rfl) (by kernel_rfl) (by kernel_rfl) (fun _ _ _ h => h) (Or.inl ⟨by kernel_rfl, ?ty113⟩) (by assumption) ?tr113
            case ty113 => (intro w7 hS7; obtain ⟨s0, s1, s2, s3, s4⟩ := hS7; go_simp; try (with_reducible rfl))
            try simp only [Act.put, List.setIfInBounds_toArray, List.set_cons_zero, List.set_cons_succ]
            refine wpAnyH_take (i := 29) (oi := _) (v := ?tv114) rfl (by kernel_rfl) (by kernel_rfl) (by kernel_rfl) (fun _ _ _ h => h) (Or.inl ⟨by kernel_rfl, ?ty114⟩) (by assumption) ?tr114
            case ty114 => (intro w7 hS7; obtain ⟨s0, s1, s2, s3, s4⟩ := hS7; go_simp; try (with_reducible rfl))
            try simp only [Act.put, List.setIfInBounds_toArray, List.set_cons_zero, List.set_cons_succ]
            refine wpAnyH_take (i := 31) (oi := _) (v := ?tv115) rfl (by kernel_rfl) (by kernel_rfl) (by kernel_rfl) (fun _ _ _ h => h) (Or.inl ⟨by kernel_rfl, ?ty115⟩) (by assumption) ?tr115
            case ty115 => (intro w7 hS7; obtain ⟨s0, s1, s2, s3, s4⟩ := hS7; go_simp; try (with_reducible rfl))
            try simp only [Act.put, List.setIfInBounds_toArray, List.set_cons_zero, List.set_cons_succ]
            refine wpAnyH_take (i := 32) (oi := _) (v := ?tv116) rfl (by kernel_rfl) (by kernel_rfl) (by kernel_rfl) (fun _ _ _ h => h) (Or.inl ⟨by kernel_rfl, ?ty116⟩) (by assumption) ?tr116
            case ty116 => (intro w7 hS7; obtain ⟨s0, s1, s2, s3, s4⟩ := hS7; go_simp; try (with_reducible rfl))
            try simp only [Act.put, List.setIfInBounds_toArray, List.set_cons_zero, List.set_cons_succ]
            refine wpAnyH_take (i := 33) (oi := _) (v := ?tv117) rfl (by kernel_rfl) (by kernel_rfl) (by kernel_rfl) (fun _ _ _ h => h) (Or.inl ⟨by kernel_rfl, ?ty117⟩) (by assumption) ?tr117
            case ty117 => (intro w7 hS7; obtain ⟨s0, s1, s2, s3, s4⟩ := hS7; go_simp; try (with_reducible rfl))
            try simp only [Act.put, List.setIfInBounds_toArray, List.set_cons_zero, List.set_cons_succ]
            refine wpAnyH_take (i := 34) (oi := _) (v := ?tv118) rfl (by kernel_rfl) (by kernel_rfl) (by kernel_rfl) (fun _ _ _ h => h) (Or.inl ⟨by kernel_rfl, ?ty118⟩) (by assumption) ?tr118
            case ty118 => (intro w7 hS7; obtain ⟨s0, s1, s2, s3, s4⟩ := hS7; go_simp; try (with_reducible rfl))
            try simp only [Act.put, List.setIfInBounds_toArray, List.set_cons_zero, List.set_cons_succ]
            refine wpAnyH_ready (rs := [30]) (by kernel_rfl) (by simp) (AllReadyH.cons rfl (fun K hK => ?_) AllReadyH.nil)
            go_simp
            refine (HS.out _ HD'.out.mem).mono ?_
            rintro e8 w8 ⟨rfl, rfl⟩
            try go_wp2_with fail
            refine hK.out _ _ ?_ (fun hHeld => ?_)
            · exact hHeld2
            clear hK K
            try simp only [Act.put, List.setIfInBounds_toArray, List.set_cons_zero, List.set_cons_succ]
            refine wpAnyH_take (i := 35) (oi := _) (v := ?tv119) rfl (by kernel_rfl) (by kernel_rfl) (by kernel_rfl) (fun _ _ _ h => h) (Or.inl ⟨by kernel_rfl, ?ty119⟩) (by assumption) ?tr119
            case ty119 => (intro w7 hS7; obtain ⟨s0, s1, s2, s3, s4⟩ := hS7; go_simp; try (with_reducible rfl))
            try simp only [Act.put, List.setIfInBounds_toArray, List.set_cons_zero, List.set_cons_succ]
            refine wpAnyH_take (i := 36) (oi := _) (v := ?tv120) rfl (by kernel_rfl) (by kernel_rfl) (by kernel_rfl) (fun _ _ _ h => h) (Or.inl ⟨by kernel_rfl, ?ty120⟩) (by assumption) ?tr120
            case ty120 => (intro w7 hS7; obtain ⟨s0, s1, s2, s3, s4⟩ := hS7; go_simp; try (with_reducible rfl))
            try simp only [Act.put, List.setIfInBounds_toArray, List.set_cons_zero, List.set_cons_succ]
            refine wpAnyH_take (i := 37) (oi := _) (v := ?tv121) rfl (by kernel_rfl) (by kernel_rfl) (by kernel_rfl) (fun _ _ _ h => h) (Or.inl ⟨by kernel_rfl, ?ty121⟩) (by assumption) ?tr121
            case ty121 => (intro w7 hS7; obtain ⟨s0, s1, s2, s3, s4⟩ := hS7; go_simp; try (with_reducible rfl))
            try simp only [Act.put, List.setIfInBounds_toArray, List.set_cons_zero, List.set_cons_succ]
            refine wpAnyH_take (i := 38) (oi := _) (v := ?tv122) rfl (by kernel_rfl) (by kernel_rfl) (by kernel_rfl) (fun _ _ _ h => h) (Or.inl ⟨by kernel_rfl, ?ty122⟩) (by assumption) ?tr122
            case ty122 => (intro w7 hS7; obtain ⟨s0, s1, s2, s3, s4⟩ := hS7; go_simp; try (with_reducible rfl))
            try simp only [Act.put, List.setIfInBounds_toArray, List.set_cons_zero, List.set_cons_succ]
            refine wpAnyH_take (i := 40) (oi := _) (v := ?tv123) rfl (by kernel_rfl) (by kernel_rfl) (by kernel_rfl) (fun _ _ _ h => h) (Or.inl ⟨by kernel_rfl, ?ty123⟩) (by assumption) ?tr123
            case ty123 => (intro w7 hS7; obtain ⟨s0, s1, s2, s3, s4⟩ := hS7; go_simp; try (with_reducible rfl))
            try simp only [Act.put, List.setIfInBounds_toArray, List.set_cons_zero, List.set_cons_succ]
            refine wpAnyH_take (i := 41) (oi := _) (v := ?tv124) rfl (by kernel_rfl) (by kernel_rfl) (by kernel_rfl) (fun _ _ _ h => h) (Or.inl ⟨by kernel_rfl, ?ty124⟩) (by assumption) ?tr124
            case ty124 => (intro w7 hS7; obtain ⟨s0, s1, s2, s3, s4⟩ := hS7; go_simp; try (with_reducible rfl))
            try simp only [Act.put, List.setIfInBounds_toArray, List.set_cons_zero, List.set_cons_succ]
            refine wpAnyH_take (i := 42) (oi := _) (v := ?tv125) rfl (by kernel_rfl) (by kernel_rfl) (by kernel_rfl) (fun _ _ _ h => h) (Or.inl ⟨by kernel_rfl, ?ty125⟩) (by assumption) ?tr125
            case ty125 => (intro w7 hS7; obtain ⟨s0, s1, s2, s3, s4⟩ := hS7; go_simp; try (with_reducible rfl))
            try simp only [Act.put, List.setIfInBounds_toArray, List.set_cons_zero, List.set_cons_succ]
            refine wpAnyH_take (i := 43) (oi := _) (v := ?tv126) rfl (by kernel_rfl) (by kernel_rfl) (by kernel_rfl) (fun _ _ _ h => h) (Or.inl ⟨by kernel_rfl, ?ty126⟩) (by assumption) ?tr126
            case ty126 => (intro w7 hS7; obtain ⟨s0, s1, s2, s3, s4⟩ := hS7; go_simp; try (with_reducible rfl))
            try simp only [Act.put, List.setIfInBounds_toArray, List.set_cons_zero, List.set_cons_succ]
            refine wpAnyH_ready (rs := [39]) (by kernel_rfl) (by simp) (AllReadyH.cons rfl (fun K hK => ?_) AllReadyH.nil)
            go_simp
            refine (HT.out _ HD'.out.mem).mono ?_
            rintro e9 w9 ⟨rfl, rfl⟩
            try go_wp2_with fail
            refine hK.out _ _ ?_ (fun hHeld => ?_)
            · exact hHeld2
            clear hK K
            try simp only [Act.put, List.setIfInBounds_toArray, List.set_cons_zero, List.set_cons_succ]
            refine wpAnyH_take (i := 44) (oi := _) (v := ?tv127) rfl (by kernel_rfl) (by kernel_rfl) (by kernel_rfl) (fun _ _ _ h => h) (Or.inl ⟨by kernel_rfl, ?ty127⟩) (by assumption) ?tr127
            case ty127 => (intro w7 hS7; obtain ⟨s0, s1, s2, s3, s4⟩ := hS7; go_simp; try (with_reducible rfl))
            try simp only [Act.put, List.setIfInBounds_toArray, List.set_cons_zero, List.set_cons_succ]
            refine wpAnyH_take (i := 45) (oi := _) (v := ?tv128) rfl (by kernel_rfl) (by kernel_rfl) (by kernel_rfl) (fun _ _ _ h => h) (Or.inl ⟨by kernel_rfl, ?ty128⟩) (by assumption) ?tr128
            case ty128 => (intro w7 hS7; obtain ⟨s0, s1, s2, s3, s4⟩ := hS7; go_simp; try (with_reducible rfl))
            try simp only [Act.put, List.setIfInBounds_toArray, List.set_cons_zero, List.set_cons_succ]
            refine wpAnyH_done (by kernel_rfl) ?_ _
            go_wp2_with fail
            exact ⟨⟨Z, by have := HZ.out; omega, by have := HZ.out; omega, rfl, F', G', M', R', ha', hb', by rw [← HZ.out]; exact HD'.out, .inr ⟨by have := HZ.out; omega, F2, G2, M2, R2, rfl, rfl, by rw [← HZ.out]; exact ((HDU2.out.drewN 1).frame HTW.out.only HFF.out.symm HDU.out.new).mono (Nat.le_succ _), HTW.out.far HFF.out HDU2.out.lt⟩⟩, by have := HZ.out; simp [intOf]; omega⟩
        · have r4 : decide (40 < (k : Int)) = false := by simp; omega
          obtain ⟨F, G, M, R, ha, hb, hd, hor⟩ := HI.out
          have hgn : ¬ (F.has g ∨ G.has g) := fun h => by have := hd.new g h; omega
          have d0 := (hd.bel.cell (p := ⟨g, off + k * 3, .none⟩) hg).trans c0
          have d1 := (hd.bel.cell (p := ⟨g, off + k * 3 + 1, .none⟩) hg).trans c1
          have d2 := (hd.bel.cell (p := ⟨g, off + k * 3 + 2, .none⟩) hg).trans c2
          have HDU := Lib.hid hd
          have HGN := Lib.hid hgn
          have HOR := Lib.hid hor
          have HV := Lib.hid hv
          clear hd hgn hor hv c0 c1 c2 hcs
          go_wp2_with fail
          refine wp_region_held_drew (S := (fun w' => w'.cell? ⟨g, off + k * 3, .none⟩ = some (.int .i64 kk) ∧ w'.cell? ⟨g, off + k * 3 + 1, .none⟩ = some (.int .i64 pp) ∧ w'.cell? ⟨g, off + k * 3 + 2, .none⟩ = some (.int .i64 vv))) (by kernel_rfl) ⟨d0, d1, d2⟩ (fun hHeld => ?_)
          refine wpAnyH_take (i := 0) (oi := _) (v := ?tv129) rfl (by kernel_rfl) (by kernel_rfl) (by kernel_rfl) (fun _ _ _ h => h) (Or.inl ⟨by kernel_rfl, ?ty129⟩) (by assumption) ?tr129
          case ty129 => (intro w7 hS7; obtain ⟨s0, s1, s2⟩ := hS7; go_simp; try (with_reducible rfl))
          try simp only [Act.put, List.setIfInBounds_toArray, List.set_cons_zero, List.set_cons_succ]
          refine wpAnyH_take (i := 1) (oi := _) (v := ?tv130) rfl (by kernel_rfl) (by kernel_rfl) (by kernel_rfl) (fun _ _ _ h => h) (Or.inl ⟨by kernel_rfl, ?ty130⟩) (by assumption) ?tr130
          case ty130 => (intro w7 hS7; obtain ⟨s0, s1, s2⟩ := hS7; go_simp; try (with_reducible rfl))
          try simp only [Act.put, List.setIfInBounds_toArray, List.set_cons_zero, List.set_cons_succ]
          refine wpAnyH_take (i := 2) (oi := _) (v := ?tv131) rfl (by kernel_rfl) (by kernel_rfl) (by kernel_rfl) (fun _ _ _ h => h) (Or.inl ⟨by kernel_rfl, ?ty131⟩) (by assumption) ?tr131
          case ty131 => (intro w7 hS7; obtain ⟨s0, s1, s2⟩ := hS7; go_simp; try (with_reducible rfl))
          try simp only [Act.put, List.setIfInBounds_toArray, List.set_cons_zero, List.set_cons_succ]
          refine wpAnyH_take (i := 3) (oi := _) (v := ?tv132) rfl (by kernel_rfl) (by kernel_rfl) (by kernel_rfl) (fun _ _ _ h => h) (Or.inl ⟨by kernel_rfl, ?ty132⟩) (by assumption) ?tr132
          case ty132 => (intro w7 hS7; obtain ⟨s0, s1, s2⟩ := hS7; go_simp; try (with_reducible rfl))
          try simp only [Act.put, List.setIfInBounds_toArray, List.set_cons_zero, List.set_cons_succ]
          refine wpAnyH_take (i := 4) (oi := _) (v := ?tv133) rfl (by kernel_rfl) (by kernel_rfl) (by kernel_rfl) (fun _ _ _ h => h) (Or.inl ⟨by kernel_rfl, ?ty133⟩) (by assumption) ?tr133
          case ty133 => (intro w7 hS7; obtain ⟨s0, s1, s2⟩ := hS7; go_simp; try (with_reducible rfl))
          try simp only [Act.put, List.setIfInBounds_toArray, List.set_cons_zero, List.set_cons_succ]
          refine wpAnyH_take (i := 5) (oi := _) (v := ?tv134) rfl (by kernel_rfl) (by kernel_rfl) (by kernel_rfl) (fun _ _ _ h => h) (Or.inl ⟨by kernel_rfl, ?ty134⟩) (by assumption) ?tr134
          case ty134 => (intro w7 hS7; obtain ⟨s0, s1, s2⟩ := hS7; go_simp; try (with_reducible rfl))
          try simp only [Act.put, List.setIfInBounds_toArray, List.set_cons_zero, List.set_cons_succ]
          refine wpAnyH_ready (rs := [6]) (by kernel_rfl) (by simp) (AllReadyH.cons rfl (fun K hK => ?_) AllReadyH.nil)
          go_simp
          refine (act_duo (HDU.out.drewN 1) (by omega) a b ha hb kk pp vv HV.out).mono ?_
          rintro e5 w5 ⟨rfl, F', G', M', R', ha', hb', hd', htw⟩
          have HTW := Lib.hid htw
          have HD' := Lib.hid hd'
          obtain ⟨S, T, hS, hT, t7, t8⟩ := hd'.counts a b ha' hb'
          have HS := Lib.hid hS
          have HT := Lib.hid hT
          clear hS hT
          clear htw hd'
          try go_wp2_with fail
          refine hK.out _ _ ?_ (fun hHeld => ?_)
          · exact ⟨HTW.out.only.cell d0 HGN.out, HTW.out.only.cell d1 HGN.out, HTW.out.only.cell d2 HGN.out⟩
          clear hK K
          try simp only [Act.put, List.setIfInBounds_toArray, List.set_cons_zero, List.set_cons_succ]
          have hHeld2 : (fun w' => w'.cell? ⟨g, off + k * 3, .none⟩ = some (.int .i64 kk) ∧ w'.cell? ⟨g, off + k * 3 + 1, .none⟩ = some (.int .i64 pp) ∧ w'.cell? ⟨g, off + k * 3 + 2, .none⟩ = some (.int .i64 vv) ∧ w'.cell? ⟨b, 7, .none⟩ = some (.int .i64 S) ∧ w'.cell? ⟨b, 8, .none⟩ = some (.int .i64 T)) w5 := ⟨hHeld.1, hHeld.2.1, hHeld.2.2, t7, t8⟩
          refine wpAnyH_mono (S' := (fun w' => w'.cell? ⟨g, off + k * 3, .none⟩ = some (.int .i64 kk) ∧ w'.cell? ⟨g, off + k * 3 + 1, .none⟩ = some (.int .i64 pp) ∧ w'.cell? ⟨g, off + k * 3 + 2, .none⟩ = some (.int .i64 vv) ∧ w'.cell? ⟨b, 7, .none⟩ = some (.int .i64 S) ∧ w'.cell? ⟨b, 8, .none⟩ = some (.int .i64 T))) (fun _ hS => ⟨hS.1, hS.2.1, hS.2.2.1⟩) _ _ _ _ ?_
          clear hHeld
          refine wpAnyH_take (i := 7) (oi := _) (v := ?tv135) rfl (by kernel_rfl) (by kernel_rfl) (by kernel_rfl) (fun _ _ _ h => h) (Or.inl ⟨by kernel_rfl, ?ty135⟩) (by assumption) ?tr135
          case ty135 => (intro w7 hS7; obtain ⟨s0, s1, s2, s3, s4⟩ := hS7; go_simp; try (with_reducible rfl))
          try simp only [Act.put, List.setIfInBounds_toArray, List.set_cons_zero, List.set_cons_succ]
          refine wpAnyH_take (i := 8) (oi := _) (v := ?tv136) rfl (by kernel_rfl) (by kernel_rfl) (by kernel_rfl) (fun _ _ _ h => h) (Or.inl ⟨by kernel_rfl, ?ty136⟩) (by assumption) ?tr136
          case ty136 => (intro w7 hS7; obtain ⟨s0, s1, s2, s3, s4⟩ := hS7; go_simp; try (with_reducible rfl))
          try simp only [Act.put, List.setIfInBounds_toArray, List.set_cons_zero, List.set_cons_succ]
          refine wpAnyH_take (i := 9) (oi := _) (v := ?tv137) rfl (by kernel_rfl) (by kernel_rfl) (by kernel_rfl) (fun _ _ _ h => h) (Or.inl ⟨by kernel_rfl, ?ty137⟩) (by assumption) ?tr137
          case ty137 => (intro w7 hS7; obtain ⟨s0, s1, s2, s3, s4⟩ := hS7; go_simp; try (with_reducible rfl))
          try simp only [Act.put, List.setIfInBounds_toArray, List.set_cons_zero, List.set_cons_succ]
          refine wpAnyH_take (i := 10) (oi := _) (v := ?tv138) rfl (by kernel_rfl) (by kernel_rfl) (by kernel_rfl) (fun _ _ _ h => h) (Or.inl ⟨by kernel_rfl, ?ty138⟩) (by assumption) ?tr138
          case ty138 => (intro w7 hS7; obtain ⟨s0, s1, s2, s3, s4⟩ := hS7; go_simp; try (with_reducible rfl))
          try simp only [Act.put, List.setIfInBounds_toArray, List.set_cons_zero, List.set_cons_succ]
          refine wpAnyH_take (i := 11) (oi := _) (v := ?tv139) rfl (by kernel_rfl) (by kernel_rfl) (by kernel_rfl) (fun _ _ _ h => h) (Or.inl ⟨by kernel_rfl, ?ty139⟩) (by assumption) ?tr139
          case ty139 => (intro w7 hS7; obtain ⟨s0, s1, s2, s3, s4⟩ := hS7; go_simp; try (with_reducible rfl))
          try simp only [Act.put, List.setIfInBounds_toArray, List.set_cons_zero, List.set_cons_succ]
          refine wpAnyH_take (i := 12) (oi := _) (v := undef) rfl (by kernel_rfl) (by kernel_rfl) (by kernel_rfl) (fun _ _ _ h => h) (Or.inr ⟨by kernel_rfl, rfl⟩) (by assumption) ?tr140
          try simp only [Act.put, List.setIfInBounds_toArray, List.set_cons_zero, List.set_cons_succ]
          refine wpAnyH_take (i := 13) (oi := _) (v := undef) rfl (by kernel_rfl) (by kernel_rfl) (by kernel_rfl) (fun _ _ _ h => h) (Or.inr ⟨by kernel_rfl, rfl⟩) (by assumption) ?tr141
          try simp only [Act.put, List.setIfInBounds_toArray, List.set_cons_zero, List.set_cons_succ]
          refine wpAnyH_take (i := 14) (oi := _) (v := undef) rfl (by kernel_rfl) (by kernel_rfl) (by kernel_rfl) (fun _ _ _ h => h) (Or.inr ⟨by kernel_rfl, rfl⟩) (by assumption) ?tr142
          try simp only [Act.put, List.setIfInBounds_toArray, List.set_cons_zero, List.set_cons_succ]
          refine wpAnyH_take (i := 15) (oi := _) (v := ?tv143) rfl (by kernel_rfl) (by kernel_rfl) (by kernel_rfl) (fun _ _ _ h => h) (Or.inl ⟨by kernel_rfl, ?ty143⟩) (by assumption) ?tr143
          case ty143 => (intro w7 hS7; obtain ⟨s0, s1, s2, s3, s4⟩ := hS7; go_simp; try (with_reducible rfl))
          try simp only [Act.put, List.setIfInBounds_toArray, List.set_cons_zero, List.set_cons_succ]
          refine wpAnyH_take (i := 16) (oi := _) (v := ?tv144) rfl (by kernel_rfl) (by kernel_rfl) (by kernel_rfl) (fun _ _ _ h => h) (Or.inl ⟨by kernel_rfl, ?ty144⟩) (by assumption) ?tr144
          case ty144 => (intro w7 hS7; obtain ⟨s0, s1, s2, s3, s4⟩ := hS7; go_simp; try (with_reducible rfl))
          try simp only [Act.put, List.setIfInBounds_toArray, List.set_cons_zero, List.set_cons_succ]
          refine wpAnyH_take (i := 17) (oi := _) (v := undef) rfl (by kernel_rfl) (by kernel_rfl) (by kernel_rfl) (fun _ _ _ h => h) (Or.inr ⟨by kernel_rfl, rfl⟩) (by assumption) ?tr145
          try simp only [Act.put, List.setIfInBounds_toArray, List.set_cons_zero, List.set_cons_succ]
          refine wpAnyH_take (i := 18) (oi := _) (v := undef) rfl (by kernel_rfl) (by kernel_rfl) (by kernel_rfl) (fun _ _ _ h => h) (Or.inr ⟨by kernel_rfl, rfl⟩) (by assumption) ?tr146
          try simp only [Act.put, List.setIfInBounds_toArray, List.set_cons_zero, List.set_cons_succ]
          refine wpAnyH_take (i := 19) (oi := _) (v := undef) rfl (by kernel_rfl) (by kernel_rfl) (by kernel_rfl) (fun _ _ _ h => h) (Or.inr ⟨by kernel_rfl, rfl⟩) (by assumption) ?tr147
          try simp only [Act.put, List.setIfInBounds_toArray, List.set_cons_zero, List.set_cons_succ]
          refine wpAnyH_take (i := 20) (oi := _) (v := undef) rfl (by kernel_rfl) (by kernel_rfl) (by kernel_rfl) (fun _ _ _ h => h) (Or.inr ⟨by kernel_rfl, rfl⟩) (by assumption) ?tr148
          try simp only [Act.put, List.setIfInBounds_toArray, List.set_cons_zero, List.set_cons_succ]
          refine wpAnyH_take (i := 21) (oi := _) (v := undef) rfl (by kernel_rfl) (by kernel_rfl) (by kernel_rfl) (fun _ _ _ h => h) (Or.inr ⟨by kernel_rfl, rfl⟩) (by assumption) ?tr149
          try simp only [Act.put, List.setIfInBounds_toArray, List.set_cons_zero, List.set_cons_succ]
          refine wpAnyH_take (i := 22) (oi := _) (v := undef) rfl (by kernel_rfl) (by kernel_rfl) (by kernel_rfl) (fun _ _ _ h => h) (Or.inr ⟨by kernel_rfl, rfl⟩) (by assumption) ?tr150
          try simp only [Act.put, List.setIfInBounds_toArray, List.set_cons_zero, List.set_cons_succ]
          refine wpAnyH_take (i := 23) (oi := _) (v := undef) rfl (by kernel_rfl) (by kernel_rfl) (by kernel_rfl) (fun _ _ _ h => h) (Or.inr ⟨by kernel_rfl, rfl⟩) (by assumption) ?tr151
          try simp only [Act.put, List.setIfInBounds_toArray, List.set_cons_zero, List.set_cons_succ]
          refine wpAnyH_take (i := 24) (oi := _) (v := undef) rfl (by kernel_rfl) (by kernel_rfl) (by kernel_rfl) (fun _ _ _ h => h) (Or.inr ⟨by kernel_rfl, rfl⟩) (by assumption) ?tr152
          try simp only [Act.put, List.setIfInBounds_toArray, List.set_cons_zero, List.set_cons_succ]
          refine wpAnyH_take (i := 25) (oi := _) (v := undef) rfl (by kernel_rfl) (by kernel_rfl) (by kernel_rfl) (fun _ _ _ h => h) (Or.inr ⟨by kernel_rfl, rfl⟩) (by assumption) ?tr153
          try simp only [Act.put, List.setIfInBounds_toArray, List.set_cons_zero, List.set_cons_succ]
          refine wpAnyH_take (i := 26) (oi := _) (v := ?tv154) rfl (by kernel_rfl) (by kernel_rfl) (by kernel_rfl) (fun _ _ _ h => h) (Or.inl ⟨by kernel_rfl, ?ty154⟩) (by assumption) ?tr154
          case ty154 => (intro w7 hS7; obtain ⟨s0, s1, s2, s3, s4⟩ := hS7; go_simp; try (with_reducible rfl))
          try simp only [Act.put, List.setIfInBounds_toArray, List.set_cons_zero, List.set_cons_succ]
          refine wpAnyH_take (i := 27) (oi := _) (v := ?tv155) rfl (by kernel_rfl) (by kernel_rfl) (by kernel_rfl) (fun _ _ _ h => h) (Or.inl ⟨by kernel_rfl, ?ty155⟩) (by assumption) ?tr155
          case ty155 => (intro w7 hS7; obtain ⟨s0, s1, s2, s3, s4⟩ := hS7; go_simp; try (with_reducible rfl))
          try simp only [Act.put, List.setIfInBounds_toArray, List.set_cons_zero, List.set_cons_succ]
          refine wpAnyH_take (i := 28) (oi := _) (v := ?tv156) rfl (by kernel_rfl) (by kernel_rfl) (by kernel_rfl) (fun _ _ _ h => h) (Or.inl ⟨by kernel_rfl, ?ty156⟩) (by assumption) ?tr156
          case ty156 => (intro w7 hS7; obtain ⟨s0, s1, s2, s3, s4⟩ := hS7; go_simp; try (with_reducible rfl))
          try simp only [Act.put, List.setIfInBounds_toArray, List.set_cons_zero, List.set_cons_succ]
          refine wpAnyH_take (i := 29) (oi := _) (v := ?tv157) rfl (by kernel_rfl) (by kernel_rfl) (by kernel_rfl) (fun _ _ _ h => h) (Or.inl ⟨by kernel_rfl, ?ty157⟩) (by assumption) ?tr157
          case ty157 => (intro w7 hS7; obtain ⟨s0, s1, s2, s3, s4⟩ := hS7; go_simp; try (with_reducible rfl))
          try simp only [Act.put, List.setIfInBounds_toArray, List.set_cons_zero, List.set_cons_succ]
          refine wpAnyH_take (i := 31) (oi := _) (v := ?tv158) rfl (by kernel_rfl) (by kernel_rfl) (by kernel_rfl) (fun _ _ _ h => h) (Or.inl ⟨by kernel_rfl, ?ty158⟩) (by assumption) ?tr158
          case ty158 => (intro w7 hS7; obtain ⟨s0, s1, s2, s3, s4⟩ := hS7; go_simp; try (with_reducible rfl))
          try simp only [Act.put, List.setIfInBounds_toArray, List.set_cons_zero, List.set_cons_succ]
          refine wpAnyH_take (i := 32) (oi := _) (v := ?tv159) rfl (by kernel_rfl) (by kernel_rfl) (by kernel_rfl) (fun _ _ _ h => h) (Or.inl ⟨by kernel_rfl, ?ty159⟩) (by assumption) ?tr159
          case ty159 => (intro w7 hS7; obtain ⟨s0, s1, s2, s3, s4⟩ := hS7; go_simp; try (with_reducible rfl))
          try simp only [Act.put, List.setIfInBounds_toArray, List.set_cons_zero, List.set_cons_succ]
          refine wpAnyH_take (i := 33) (oi := _) (v := ?tv160) rfl (by kernel_rfl) (by kernel_rfl) (by kernel_rfl) (fun _ _ _ h => h) (Or.inl ⟨by kernel_rfl, ?ty160⟩) (by assumption) ?tr160
          case ty160 => (intro w7 hS7; obtain ⟨s0, s1, s2, s3, s4⟩ := hS7; go_simp; try (with_reducible rfl))
          try simp only [Act.put, List.setIfInBounds_toArray, List.set_cons_zero, List.set_cons_succ]
          refine wpAnyH_take (i := 34) (oi := _) (v := ?tv161) rfl (by kernel_rfl) (by kernel_rfl) (by kernel_rfl) (fun _ _ _ h => h) (Or.inl ⟨by kernel_rfl, ?ty161⟩) (by assumption) ?tr161
          case ty161 => (intro w7 hS7; obtain ⟨s0, s1, s2, s3, s4⟩ := hS7; go_simp; try (with_reducible rfl))
          try simp only [Act.put, List.setIfInBounds_toArray, List.set_cons_zero, List.set_cons_succ]
          refine wpAnyH_ready (rs := [30]) (by kernel_rfl) (by simp) (AllReadyH.cons rfl (fun K hK => ?_) AllReadyH.nil)
          go_simp
          refine (HS.out _ HD'.out.mem).mono ?_
          rintro e8 w8 ⟨rfl, rfl⟩
          try go_wp2_with fail
          refine hK.out _ _ ?_ (fun hHeld => ?_)
          · exact hHeld2
          clear hK K
          try simp only [Act.put, List.setIfInBounds_toArray, List.set_cons_zero, List.set_cons_succ]
          refine wpAnyH_take (i := 35) (oi := _) (v := ?tv162) rfl (by kernel_rfl) (by kernel_rfl) (by kernel_rfl) (fun _ _ _ h => h) (Or.inl ⟨by kernel_rfl, ?ty162⟩) (by assumption) ?tr162
          case ty162 => (intro w7 hS7; obtain ⟨s0, s1, s2, s3, s4⟩ := hS7; go_simp; try (with_reducible rfl))
          try simp only [Act.put, List.setIfInBounds_toArray, List.set_cons_zero, List.set_cons_succ]
          refine wpAnyH_take (i := 36) (oi := _) (v := ?tv163) rfl (by kernel_rfl) (by kernel_rfl) (by kernel_rfl) (fun _ _ _ h => h) (Or.inl ⟨by kernel_rfl, ?ty163⟩) (by assumption) ?tr163
          case ty163 => (intro w7 hS7; obtain ⟨s0, s1, s2, s3, s4⟩ := hS7; go_simp; try (with_reducible rfl))
          try simp only [Act.put, List.setIfInBounds_toArray, List.set_cons_zero, List.set_cons_succ]
          refine wpAnyH_take (i := 37) (oi := _) (v := ?tv164) rfl (by kernel_rfl) (by kernel_rfl) (by kernel_rfl) (fun _ _ _ h => h) (Or.inl ⟨by kernel_rfl, ?ty164⟩) (by assumption) ?tr164
          case ty164 => (intro w7 hS7; obtain ⟨s0, s1, s2, s3, s4⟩ := hS7; go_simp; try (with_reducible rfl))
          try simp only [Act.put, List.setIfInBounds_toArray, List.set_cons_zero, List.set_cons_succ]
          refine wpAnyH_take (i := 38) (oi := _) (v := ?tv165) rfl (by kernel_rfl) (by kernel_rfl) (by kernel_rfl) (fun _ _ _ h => h) (Or.inl ⟨by kernel_rfl, ?ty165⟩) (by assumption) ?tr165
          case ty165 => (intro w7 hS7; obtain ⟨s0, s1, s2, s3, s4⟩ := hS7; go_simp; try (with_reducible rfl))
          try simp only [Act.put, List.setIfInBounds_toArray, List.set_cons_zero, List.set_cons_succ]
          refine wpAnyH_take (i := 40) (oi := _) (v := ?tv166) rfl (by kernel_rfl) (by kernel_rfl) (by kernel_rfl) (fun _ _ _ h => h) (Or.inl ⟨by kernel_rfl, ?ty166⟩) (by assumption) ?tr166
          case ty166 => (intro w7 hS7; obtain ⟨s0, s1, s2, s3, s4⟩ := hS7; go_simp; try (with_reducible rfl))
          try simp only [Act.put, List.setIfInBounds_toArray, List.set_cons_zero, List.set_cons_succ]
          refine wpAnyH_take (i := 41) (oi := _) (v := ?tv167) rfl (by kernel_rfl) (by kernel_rfl) (by kernel_rfl) (fun _ _ _ h => h) (Or.inl ⟨by kernel_rfl, ?ty167⟩) (by assumption) ?tr167
          case ty167 => (intro w7 hS7; obtain ⟨s0, s1, s2, s3, s4⟩ := hS7; go_simp; try (with_reducible rfl))
          try simp only [Act.put, List.setIfInBounds_toArray, List.set_cons_zero, List.set_cons_succ]
          refine wpAnyH_take (i := 42) (oi := _) (v := ?tv168) rfl (by kernel_rfl) (by kernel_rfl) (by kernel_rfl) (fun _ _ _ h => h) (Or.inl ⟨by kernel_rfl, ?ty168⟩) (by assumption) ?tr168
          case ty168 => (intro w7 hS7; obtain ⟨s0, s1, s2, s3, s4⟩ := hS7; go_simp; try (with_reducible rfl))
          try simp only [Act.put, List.setIfInBounds_toArray, List.set_cons_zero, List.set_cons_succ]
          refine wpAnyH_take (i := 43) (oi := _) (v := ?tv169) rfl (by kernel_rfl) (by kernel_rfl) (by kernel_rfl) (fun _ _ _ h => h) (Or.inl ⟨by kernel_rfl, ?ty169⟩) (by assumption) ?tr169
          case ty169 => (intro w7 hS7; obtain ⟨s0, s1, s2, s3, s4⟩ := hS7; go_simp; try (with_reducible rfl))
          try simp only [Act.put, List.setIfInBounds_toArray, List.set_cons_zero, List.set_cons_succ]
          refine wpAnyH_ready (rs := [39]) (by kernel_rfl) (by simp) (AllReadyH.cons rfl (fun K hK => ?_) AllReadyH.nil)
          go_simp
          refine (HT.out _ HD'.out.mem).mono ?_
          rintro e9 w9 ⟨rfl, rfl⟩
          try go_wp2_with fail
          refine hK.out _ _ ?_ (fun hHeld => ?_)
          · exact hHeld2
          clear hK K
          try simp only [Act.put, List.setIfInBounds_toArray, List.set_cons_zero, List.set_cons_succ]
          refine wpAnyH_take (i := 44) (oi := _) (v := ?tv170) rfl (by kernel_rfl) (by kernel_rfl) (by kernel_rfl) (fun _ _ _ h => h) (Or.inl ⟨by kernel_rfl, ?ty170⟩) (by assumption) ?tr170
          case ty170 => (intro w7 hS7; obtain ⟨s0, s1, s2, s3, s4⟩ := hS7; go_simp; try (with_reducible rfl))
          try simp only [Act.put, List.setIfInBounds_toArray, List.set_cons_zero, List.set_cons_succ]
          refine wpAnyH_take (i := 45) (oi := _) (v := ?tv171) rfl (by kernel_rfl) (by kernel_rfl) (by kernel_rfl) (fun _ _ _ h => h) (Or.inl ⟨by kernel_rfl, ?ty171⟩) (by assumption) ?tr171
          case ty171 => (intro w7 hS7; obtain ⟨s0, s1, s2, s3, s4⟩ := hS7; go_simp; try (with_reducible rfl))
          try simp only [Act.put, List.setIfInBounds_toArray, List.set_cons_zero, List.set_cons_succ]
          refine wpAnyH_done (by kernel_rfl) ?_ _
          go_wp2_with fail
          rcases HOR.out with ⟨_, rfl, rfl⟩ | ⟨hh, _⟩
          · exact ⟨⟨Z, by have := HZ.out; omega, by have := HZ.out; omega, rfl, F', G', M', R', ha', hb', by rw [← HZ.out]; exact HD'.out, .inl ⟨by have := HZ.out; omega, rfl, rfl⟩⟩, by have := HZ.out; simp [intOf]; omega⟩
          · exact absurd hh h40
    · by_cases hl : k < len
      · have r1 : decide (k < len) = true := by simpa using hl
        have r2 : decide ((k : Int) < 300) = false := by simp; omega
        obtain ⟨F, G, M, R, ha, hb, hd, _⟩ := HI.out
        have HDU := Lib.hid hd
        clear hd
        have hx1 : (0 : Int) ≤ (x : Int) := by omega
        go_wp2_with fail
        refine (words_duo HDU.out a ha (x : Int) (by rw [HX.out])).mono ?_
        rintro e w4 ⟨rfl, rfl⟩
        go_wp2_with fail
        refine (crash_duo HDU.out (-1) a ha).mono ?_
        rintro e w5 ⟨rfl, F', ha', hc⟩
        rw [hb] at hc
        have HC := Lib.hid hc
        clear hc
        go_wp2_with fail
        refine HC.out.mono ?_
        rintro e w6 ⟨rfl, G', M', R', hb', hd'⟩
        have HD' := Lib.hid hd'
        obtain ⟨s, cs, hcs, y0, hw⟩ := hd'.word a b ha' hb'
        rw [HX.out] at hcs y0 hw
        have HW := Lib.hid hw
        clear hd' hw HC
        go_wp2_with fail
        go_loopw [12] (fun i wr => wr = w6 ∧ ∃ j : Nat, j ≤ x ∧ i = .int .i64 j) (fun i _ => x - (intOf i).toNat)
        case atStart => exact ⟨rfl, 0, by omega, rfl⟩
        case round =>
          obtain ⟨rfl, j, hj, rfl⟩ := hrel
          by_cases hjx : j < x
          · obtain ⟨z0, z1⟩ := HW.out j hjx
            obtain ⟨X, hX⟩ : ∃ X, R'.seen j = X := ⟨_, rfl⟩
            rw [hX] at z0 z1
            have HZ1 := Lib.hid z1
            clear z1 hX
            have u1 : decide (j < x) = true := by simpa using hjx
            have u2 : (0 : Int) ≤ (j : Int) := by omega
            have u3 : (j : Int) < (x : Int) := by omega
            have u4 : IntKind.i64.wrap ((j : Int) + 1) = ((j + 1 : Nat) : Int) := by have := HX.out; rw [IntKind.wrap_i64]; omega
            go_wp2_with fail
            refine HZ1.out.mono ?_
            rintro e w7 ⟨rfl, rfl⟩
            go_wp2_with fail
            refine (num1_any _ _).mono ?_
            rintro e w8 ⟨rfl, rfl⟩
            go_wp2_with fail
            exact ⟨⟨by trivial, j + 1, by omega, by go_num⟩, by simp [intOf]; omega⟩
          · obtain rfl : j = x := by omega
            have u1 : decide (j < j) = false := by simp
            go_wp2_with fail
            refine (awake1 _).mono ?_
            rintro e w7 ⟨rfl, hbe⟩
            go_wp2_with fail
            go_ret
            exact ⟨rfl, Cv.next HD'.out.bel hbe⟩
      · have r1 : decide (k < len) = false := by simpa using hl
        obtain ⟨F, G, M, R, ha, hb, hd, _⟩ := HI.out
        have HDU := Lib.hid hd
        clear hd
        have hx1 : (0 : Int) ≤ (x : Int) := by omega
        go_wp2_with fail
        refine (words_duo HDU.out a ha (x : Int) (by rw [HX.out])).mono ?_
        rintro e w4 ⟨rfl, rfl⟩
        go_wp2_with fail
        refine (crash_duo HDU.out (-1) a ha).mono ?_
        rintro e w5 ⟨rfl, F', ha', hc⟩
        rw [hb] at hc
        have HC := Lib.hid hc
        clear hc
        go_wp2_with fail
        refine HC.out.mono ?_
        rintro e w6 ⟨rfl, G', M', R', hb', hd'⟩
        have HD' := Lib.hid hd'
        obtain ⟨s, cs, hcs, y0, hw⟩ := hd'.word a b ha' hb'
        rw [HX.out] at hcs y0 hw
        have HW := Lib.hid hw
        clear hd' hw HC
        go_wp2_with fail
        go_loopw [12] (fun i wr => wr = w6 ∧ ∃ j : Nat, j ≤ x ∧ i = .int .i64 j) (fun i _ => x - (intOf i).toNat)
        case atStart => exact ⟨rfl, 0, by omega, rfl⟩
        case round =>
          obtain ⟨rfl, j, hj, rfl⟩ := hrel
          by_cases hjx : j < x
          · obtain ⟨z0, z1⟩ := HW.out j hjx
            obtain ⟨X, hX⟩ : ∃ X, R'.seen j = X := ⟨_, rfl⟩
            rw [hX] at z0 z1
            have HZ1 := Lib.hid z1
            clear z1 hX
            have u1 : decide (j < x) = true := by simpa using hjx
            have u2 : (0 : Int) ≤ (j : Int) := by omega
            have u3 : (j : Int) < (x : Int) := by omega
            have u4 : IntKind.i64.wrap ((j : Int) + 1) = ((j + 1 : Nat) : Int) := by have := HX.out; rw [IntKind.wrap_i64]; omega
            go_wp2_with fail
            refine HZ1.out.mono ?_
            rintro e w7 ⟨rfl, rfl⟩
            go_wp2_with fail
            refine (num1_any _ _).mono ?_
            rintro e w8 ⟨rfl, rfl⟩
            go_wp2_with fail
            exact ⟨⟨by trivial, j + 1, by omega, by go_num⟩, by simp [intOf]; omega⟩
          · obtain rfl : j = x := by omega
            have u1 : decide (j < j) = false := by simp
            go_wp2_with fail
            refine (awake1 _).mono ?_
            rintro e w7 ⟨rfl, hbe⟩
            go_wp2_with fail
            go_ret
            exact ⟨rfl, Cv.next HD'.out.bel hbe⟩
end Go.Proofs.Ytbflennacniacaa
