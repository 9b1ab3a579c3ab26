/- The law PmemActs: its walk at any input. -/
import Derived.Test.YtbflennacniacaaPmemActsW
namespace Go.Proofs.Ytbflennacniacaa
open Go.RowKit
set_option linter.unusedVariables false
theorem pmemActs_walk (w : World) (words : Int) (h0 : (Lit.int .i64 words).wf = true) (A : Option Addr) (len cap : Nat) (Kf Pf Vf : Nat → Int) (hacts : ActsAt w A len Kf Pf Vf) (hlen : len ≤ maxLen) :
    Calls Try.prog 8 #[.int .i64 words, .slice A len cap] w fun e w' => e = .returned (.bool true) ∧ Below w.heap.size w w' := by
  by_cases c1 : words < 8
  · exact acts_bad words A len cap w (fun w => new_low words w c1) (fun w => rnew_low words w c1)
  · by_cases c2 : 65536 < words
    · exact acts_bad words A len cap w (fun w => new_high words w c2) (fun w => rnew_high words w c2)
    · obtain ⟨y, rfl⟩ : ∃ y : Nat, words = (y : Int) := ⟨words.toNat, by omega⟩
      by_cases c3 : y % 8 = 0
      · obtain ⟨n, rfl⟩ : ∃ n, y = n * 8 := ⟨y / 8, by omega⟩
        by_cases c4 : n ≤ 100
        · exact acts_good n A len cap Kf Pf Vf w (by omega) c4 hacts hlen
        · exact acts_wide n A len cap w (by omega) (by omega)
      · exact acts_bad y A len cap w (fun w => new_odd y w (by omega) (by omega) c3) (fun w => rnew_odd y w (by omega) (by omega) c3)
end Go.Proofs.Ytbflennacniacaa
