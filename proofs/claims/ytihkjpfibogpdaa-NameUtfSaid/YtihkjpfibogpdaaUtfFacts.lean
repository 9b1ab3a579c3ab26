/- Facts on the texts of one rune of two bytes, each reckoned by the kernel. -/
import Derived.Test.YtihkjpfibogpdaaAwake8
namespace Go.Proofs.Ytihkjpfibogpdaa
open Go.RowKit
set_option linter.unusedVariables false
def utfX (v : Nat) : UInt8 := UInt8.ofNat (192 + (128 + v) / 64)
def utfY (v : Nat) : UInt8 := UInt8.ofNat (128 + (128 + v) % 64)
set_option maxRecDepth 100000 in
theorem utf_facts : ∀ v, v < 1900 → mayL [utfX v, utfY v] = true ∧ countL [utfX v, utfY v] = 1 ∧ hashL [utfX v, utfY v] = 345 + v ∧ mayL [utfX v] = false ∧ mayL [utfY v] = false ∧
    hashL [utfX v] = 65750 ∧ mayL [97, utfX v, utfY v] = true ∧ mayL [utfX v, utfY v, utfX v] = false ∧ countL [utfX v, utfY v, utfY v, utfX v, utfY v] = 3 := by decide +kernel
end Go.Proofs.Ytihkjpfibogpdaa
