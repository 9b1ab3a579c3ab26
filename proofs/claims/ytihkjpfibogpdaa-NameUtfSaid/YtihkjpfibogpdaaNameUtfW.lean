/- The walk of the law NameUtf. -/
import Derived.Test.YtihkjpfibogpdaaUtfFacts
import Derived.Test.YtihkjpfibogpdaaConv
import Derived.Deep.QuietTactic
import Derived.BigQuiet
namespace Go.Proofs.Ytihkjpfibogpdaa
open Go.RowKit
set_option linter.unusedVariables false
theorem conv_at (W : World) (g o C : Nat) (x : UInt8) (h : W.cell? ⟨g, o, none⟩ = some (.int .u8 (x.toNat : Int))) :
    (convert 28 9 (.slice (some ⟨g, o, none⟩) 1 C)).run Try.prog W = .ok (.string ⟨#[x]⟩) W :=
  run_convert_bytes_back (P := Try.prog) W 28 9 5 ⟨g, o, none⟩ C [x] Try.underlying28 Try.underlying5 Try.underlying9 (by
    intro j hj
    have hj' : j = 0 := by simpa using hj
    subst hj'
    simpa [Addr.add] using h)
theorem conv_two (W : World) (g C : Nat) (x y : UInt8) (h : W.cell? ⟨g, 0, none⟩ = some (.int .u8 (x.toNat : Int))) (k : W.cell? ⟨g, 1, none⟩ = some (.int .u8 (y.toNat : Int))) :
    (convert 28 9 (.slice (some ⟨g, 0, none⟩) 2 C)).run Try.prog W = .ok (.string ⟨#[x, y]⟩) W :=
  run_convert_bytes_back (P := Try.prog) W 28 9 5 ⟨g, 0, none⟩ C [x, y] Try.underlying28 Try.underlying5 Try.underlying9 (by
    intro j hj
    match j, hj with
    | 0, _ => simpa [Addr.add] using h
    | 1, _ => simpa [Addr.add] using k)
set_option maxHeartbeats 1000000 in
theorem nameUtf_walk (r : Int) (hr : (Lit.int .i64 r).wf = true) (w : World) :
    Calls Try.prog 12 #[.int .i64 r] w fun e w' => e = .returned (.bool true) ∧ Below w.heap.size w w' := by
  obtain ⟨v, hv, hvr⟩ := Cv.tmod_u64 r 1900 (by omega)
  rw [show ((1900 : Nat) : Int) = 1900 from rfl] at hvr
  obtain ⟨f1, f2, f3, f4, f5, f6, f7, f8, f9⟩ := utf_facts v hv
  have hx : (192 : Int) + (128 + (v : Int)) / 64 = ((utfX v).toNat : Int) := by unfold utfX; rw [UInt8.toNat_ofNat']; omega
  have hy : (128 : Int) + (128 + (v : Int)) % 64 = ((utfY v).toNat : Int) := by unfold utfY; rw [UInt8.toNat_ofNat']; omega
  generalize utfX v = x at *
  generalize utfY v = y at *
  have hcx := fun (W : World) (g o n : Nat) => conv_at W g o n x
  have hcy := fun (W : World) (g o n : Nat) => conv_at W g o n y
  have hc2 := fun (W : World) (g n : Nat) => conv_two W g n x y
  go_enter Try.func12, Try.ntmps12
  go_wp2_with fail
  refine (awake8 _).mono ?_
  rintro e w1 ⟨rfl, hb1⟩
  go_wp2_with fail
  have hb2 : Below w1.heap.size w1 (w1.alloc (Obj.cells #[Value.int IntKind.u8 (x.toNat : Int), Value.int IntKind.u8 (y.toNat : Int)] 5)) := (Below.refl _ _).alloc (Nat.le_refl _) _
  go_quiet (fail)
  have F1 := Lib.hid f1
  have F2 := Lib.hid f2
  have F3 := Lib.hid f3
  have F4 := Lib.hid f4
  have F5 := Lib.hid f5
  have F6 := Lib.hid f6
  have F7 := Lib.hid f7
  have F8 := Lib.hid f8
  have F9 := Lib.hid f9
  clear f1 f2 f3 f4 f5 f6 f7 f8 f9 hcx hcy hc2 hx hy
  go_wp2_with fail
  refine (may_lit _ true (by simp [ByteArray.size]) (by simpa using F1.out) _).mono ?_
  rintro e w3 ⟨rfl, hb3⟩
  go_wp2_with fail
  refine (runes_lit _ 1 (by simp [ByteArray.size, maxLen]) (by simpa using F2.out) _).mono ?_
  rintro e w4 ⟨rfl, hb4⟩
  go_wp2_with fail
  refine (hash_lit _ (345 + v) (by simp [ByteArray.size, maxLen]) (by simpa using F3.out) _).mono ?_
  rintro e w5 ⟨rfl, hb5⟩
  have q5 : (((345 + v : Nat) : Int) == (217 + (128 + (v : Int))) % 4294967296) = true := by rw [beq_iff_eq]; omega
  have q6 : (217 + (128 + (v : Int))) % 4294967296 = 345 + (v : Int) := by omega
  go_wp2_with fail
  refine (may_lit _ false (by simp [ByteArray.size]) (by simpa using F4.out) _).mono ?_
  rintro e w6 ⟨rfl, hb6⟩
  go_wp2_with fail
  refine (may_lit _ false (by simp [ByteArray.size]) (by simpa using F5.out) _).mono ?_
  rintro e w7 ⟨rfl, hb7⟩
  go_wp2_with fail
  refine (hash_lit _ 65750 (by simp [ByteArray.size, maxLen]) (by simpa using F6.out) _).mono ?_
  rintro e w8 ⟨rfl, hb8⟩
  go_wp2_with fail
  refine (may_lit _ true (by simp [ByteArray.size_append, ByteArray.size]) (by simpa using F7.out) _).mono ?_
  rintro e w9 ⟨rfl, hb9⟩
  go_wp2_with fail
  refine (may_lit _ false (by simp [ByteArray.size_append, ByteArray.size]) (by simpa using F8.out) _).mono ?_
  rintro e w10 ⟨rfl, hb10⟩
  go_wp2_with fail
  refine (runes_lit _ 3 (by simp [ByteArray.size_append, ByteArray.size, maxLen]) (by simpa using F9.out) _).mono ?_
  rintro e w11 ⟨rfl, hb11⟩
  go_wp2_with fail
  go_ret
  exact ⟨rfl, Cv.next (Cv.next (Cv.next (Cv.next (Cv.next (Cv.next (Cv.next (Cv.next (Cv.next hb1 (Cv.next (Cv.drewN_below hb2 _) hb3)) hb4) hb5) hb6) hb7) hb8) hb9) hb10) hb11⟩
end Go.Proofs.Ytihkjpfibogpdaa
