/- The walk of the law NameHashes. -/
import Derived.Test.YtihkjpfibogpdaaNameRunesW
import Derived.Test.YtihkjpfibogpdaaConv
namespace Go.Proofs.Ytihkjpfibogpdaa
open Go.RowKit
set_option linter.unusedVariables false
theorem hashB_lt (t : ByteArray) : hashB t < 4294967296 := hashL_lt _
set_option maxRecDepth 100000 in
set_option maxHeartbeats 1000000 in
theorem nameHashes_walk (s : ByteArray) (hs : s.size ≤ 140737488351232) (r : Int) (hr : (Lit.int .i64 r).wf = true) (w : World) :
    Calls Try.prog 10 #[.string s, .int .i64 r] w fun e w' => e = .returned (.bool true) ∧ Below w.heap.size w w' := by
  obtain ⟨v, hv, hvr⟩ := Cv.tmod_u64 r 90 (by omega)
  rw [show ((90 : Nat) : Int) = 90 from rfl] at hvr
  obtain ⟨c, hc⟩ : ∃ c : UInt8, c.toNat = 32 + v := ⟨UInt8.ofNat (32 + v), by rw [UInt8.toNat_ofNat']; omega⟩
  have hc' : (32 : Int) + (v : Int) = (c.toNat : Int) := by omega
  have hcl : c.toNat < 128 := by omega
  have hcv := fun (W : World) (g n : Nat) => Cv.conv_one W g n c
  have h0 := hashB_lt (s ++ ByteArray.mk #[120])
  have h1 : hashB ((s ++ ByteArray.mk #[120]) ++ ByteArray.mk #[c]) = (31 * hashB (s ++ ByteArray.mk #[120]) + c.toNat) % 4294967296 := by
    have e : ((s ++ ByteArray.mk #[120]) ++ ByteArray.mk #[c]).data.toList = (s ++ ByteArray.mk #[120]).data.toList ++ [c] := by simp
    unfold hashB
    rw [e, hashL_append _ _ (shut_x s)]
    unfold hashFrom
    rw [runes_ascii1 c hcl]
    rfl
  obtain ⟨h, hh⟩ : ∃ h, hashB (s ++ ByteArray.mk #[120]) = h := ⟨_, rfl⟩
  rw [hh] at h0 h1
  have hbk : bucketB (s ++ ByteArray.mk #[120]) = h % 8 := by unfold bucketB; rw [hh]
  obtain ⟨g, hg⟩ : ∃ g, hashB ((s ++ ByteArray.mk #[120]) ++ ByteArray.mk #[c]) = g := ⟨_, rfl⟩
  rw [hg] at h1
  have h2 : ((g : Int) == (31 * (h : Int) + (c.toNat : Int)) % 4294967296) = true := by rw [beq_iff_eq]; omega
  have hg4 : g < 4294967296 := by omega
  have hsA : (s ++ ByteArray.mk #[120]).size ≤ maxLen := by rw [size_x]; unfold maxLen; omega
  have hsT : ((s ++ ByteArray.mk #[120]) ++ ByteArray.mk #[c]).size ≤ maxLen := by rw [ByteArray.size_append, size_x, show (ByteArray.mk #[c]).size = 1 from rfl]; unfold maxLen; omega
  have HH := Lib.hid hh
  have HG := Lib.hid hg
  have HB := Lib.hid hbk
  clear h1 hc hh hg hbk
  go_enter Try.func10, Try.ntmps10
  go_wp2_with fail
  refine (awake8 _).mono ?_
  rintro e w1 ⟨rfl, hb1⟩
  go_wp2_with fail
  refine (hash_lit _ h hsA HH.out _).mono ?_
  rintro e w2 ⟨rfl, hb2⟩
  have q1 : decide ((h : Int) < 4294967296) = true := by simp; omega
  go_wp2_with fail
  refine (hash_lit _ g hsT HG.out _).mono ?_
  rintro e w3 ⟨rfl, hb3⟩
  go_wp2_with fail
  refine (bucket_lit _ (h % 8) hsA HB.out _).mono ?_
  rintro e w4 ⟨rfl, hb4⟩
  go_wp2_with fail
  refine (hash_lit _ 7 (by decide +kernel) (by decide +kernel) _).mono ?_
  rintro e w5 ⟨rfl, hb5⟩
  go_wp2_with fail
  go_ret
  exact ⟨rfl, Cv.next (Cv.next (Cv.next (Cv.next hb1 hb2) (Cv.next ((Below.refl _ _).alloc (Nat.le_refl _) _) hb3)) hb4) hb5⟩
end Go.Proofs.Ytihkjpfibogpdaa
