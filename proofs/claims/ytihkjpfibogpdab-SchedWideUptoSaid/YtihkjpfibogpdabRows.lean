/-
  No cell of these rows narrows 'for every input' (looked for: loops, veiled, ifaces, maps, wideKeys, modest, calm, conditions, laid).
  DERIVED. THE GIVEN ROWS OF THIS SEAT. 10 by the template 'for every input the law returns true; each argument reads behind the call as it read before'; 0 by the template 'total and deterministic' (their statements: YtihkjpfibogpdabTotals.lean).
  GIVEN WITH THE SEED: the statements are not yours to turn. If you find one false, say at which input.
  Laid BY PROGRAM, IN A SANDBOX (cutbox-rows.mjs): the forced cells as the released guide's own fill.sh prints them over the translation b599bc0236ceabfe… (all of the seat's roots in one cut). By AI agents, Wed Nov 11 2026. No macro, syntax, notation, axiom, sorry.
-/
import Derived.Test.YtihkjpfibogpdabChecked
import GoSem.Claim
import GoSem.ClaimJoined
import GoSem.ClaimMapViews
import Derived.JoinedTies
import Derived.KernelRfl
namespace Go.Proofs.Ytihkjpfibogpdab
/- THE CELL 'sum', in the pinned program and in every row, IS THE sha256 OF THE DUMP (.gsa) THAT YtihkjpfibogpdabProg.lean LOADS. Nothing in Lean hashes anything: it is a label: what it is worth is what the hold of that sum in a sandbox is worth. -/
noncomputable def Try.pinned : Pinned := { name := "ytihkjpfibogpdab", sum := "b599bc0236ceabfe9d2862a23acb29b0fd5fbd571cb055dbbcc5968d451c27d8", checked := Try.checked }
namespace Rows
def none {H : Type} : Left H := { results := [], args := [] }

/-- 'concourselaw3.SchedFairs': WHATEVER THE INPUT: true; the input reads as it did. -/
def schedFairsSpec : ChangeSpec := { name := "schedFairs", fn := fun _ => fun
  | [d1, d2, d3] => { results := [.lit (.bool true)], args := [d1, d2, d3] }
  | _ => none }
def schedFairsRow : OpenClaim := { program := "ytihkjpfibogpdab", sum := "b599bc0236ceabfe9d2862a23acb29b0fd5fbd571cb055dbbcc5968d451c27d8", func := "concourse/concourselaw3.SchedFairs", spec := "schedFairs", apart := false }
def SchedFairsSaid : Prop := schedFairsRow.holds Try.pinned (OpenSpec.ofChange schedFairsSpec)

/-- ITS FALSE NEIGHBOUR: 'it returns false'. Refute it at one input. -/
def schedFairsWrong : ChangeSpec := { name := "schedFairs", fn := fun _ => fun
  | [d1, d2, d3] => { results := [.lit (.bool false)], args := [d1, d2, d3] }
  | _ => none }
def SchedFairsWrongFalsely : Prop := schedFairsRow.holds Try.pinned (OpenSpec.ofChange schedFairsWrong)

/-- 'concourselaw3.SchedRound': WHATEVER THE INPUT: true; the input reads as it did. -/
def schedRoundSpec : ChangeSpec := { name := "schedRound", fn := fun _ => fun
  | [d1, d2] => { results := [.lit (.bool true)], args := [d1, d2] }
  | _ => none }
def schedRoundRow : OpenClaim := { program := "ytihkjpfibogpdab", sum := "b599bc0236ceabfe9d2862a23acb29b0fd5fbd571cb055dbbcc5968d451c27d8", func := "concourse/concourselaw3.SchedRound", spec := "schedRound", apart := false }
def SchedRoundSaid : Prop := schedRoundRow.holds Try.pinned (OpenSpec.ofChange schedRoundSpec)

/-- ITS FALSE NEIGHBOUR: 'it returns false'. Refute it at one input. -/
def schedRoundWrong : ChangeSpec := { name := "schedRound", fn := fun _ => fun
  | [d1, d2] => { results := [.lit (.bool false)], args := [d1, d2] }
  | _ => none }
def SchedRoundWrongFalsely : Prop := schedRoundRow.holds Try.pinned (OpenSpec.ofChange schedRoundWrong)

/-- 'concourselaw3.SchedReady': WHATEVER THE INPUT: true; the input reads as it did. -/
def schedReadySpec : ChangeSpec := { name := "schedReady", fn := fun _ => fun
  | [d1, d2] => { results := [.lit (.bool true)], args := [d1, d2] }
  | _ => none }
def schedReadyRow : OpenClaim := { program := "ytihkjpfibogpdab", sum := "b599bc0236ceabfe9d2862a23acb29b0fd5fbd571cb055dbbcc5968d451c27d8", func := "concourse/concourselaw3.SchedReady", spec := "schedReady", apart := false }
def SchedReadySaid : Prop := schedReadyRow.holds Try.pinned (OpenSpec.ofChange schedReadySpec)

/-- ITS FALSE NEIGHBOUR: 'it returns false'. Refute it at one input. -/
def schedReadyWrong : ChangeSpec := { name := "schedReady", fn := fun _ => fun
  | [d1, d2] => { results := [.lit (.bool false)], args := [d1, d2] }
  | _ => none }
def SchedReadyWrongFalsely : Prop := schedReadyRow.holds Try.pinned (OpenSpec.ofChange schedReadyWrong)

/-- 'concourselaw3.SchedWide': WHATEVER THE INPUT: true; the input reads as it did. -/
def schedWideSpec : ChangeSpec := { name := "schedWide", fn := fun _ => fun
  | [d1, d2, d3, d4] => { results := [.lit (.bool true)], args := [d1, d2, d3, d4] }
  | _ => none }
def schedWideRow : OpenClaim := { program := "ytihkjpfibogpdab", sum := "b599bc0236ceabfe9d2862a23acb29b0fd5fbd571cb055dbbcc5968d451c27d8", func := "concourse/concourselaw3.SchedWide", spec := "schedWide", apart := false }
def SchedWideSaid : Prop := schedWideRow.holds Try.pinned (OpenSpec.ofChange schedWideSpec)

/-- ITS FALSE NEIGHBOUR: 'it returns false'. Refute it at one input. -/
def schedWideWrong : ChangeSpec := { name := "schedWide", fn := fun _ => fun
  | [d1, d2, d3, d4] => { results := [.lit (.bool false)], args := [d1, d2, d3, d4] }
  | _ => none }
def SchedWideWrongFalsely : Prop := schedWideRow.holds Try.pinned (OpenSpec.ofChange schedWideWrong)

/-- 'concourselaw11.PathParses': WHATEVER THE INPUT: true; the input reads as it did. -/
def pathParsesSpec : ChangeSpec := { name := "pathParses", fn := fun _ => fun
  | [d] => { results := [.lit (.bool true)], args := [d] }
  | _ => none }
def pathParsesRow : OpenClaim := { program := "ytihkjpfibogpdab", sum := "b599bc0236ceabfe9d2862a23acb29b0fd5fbd571cb055dbbcc5968d451c27d8", func := "concourse/concourselaw11.PathParses", spec := "pathParses", apart := false }
def PathParsesSaid : Prop := pathParsesRow.holds Try.pinned (OpenSpec.ofChange pathParsesSpec)

/-- ITS FALSE NEIGHBOUR: 'it returns false'. Refute it at one input. -/
def pathParsesWrong : ChangeSpec := { name := "pathParses", fn := fun _ => fun
  | [d] => { results := [.lit (.bool false)], args := [d] }
  | _ => none }
def PathParsesWrongFalsely : Prop := pathParsesRow.holds Try.pinned (OpenSpec.ofChange pathParsesWrong)

/-- 'concourselaw11.PathPrints': WHATEVER THE INPUT: true; the input reads as it did. -/
def pathPrintsSpec : ChangeSpec := { name := "pathPrints", fn := fun _ => fun
  | [d1, d2, d3] => { results := [.lit (.bool true)], args := [d1, d2, d3] }
  | _ => none }
def pathPrintsRow : OpenClaim := { program := "ytihkjpfibogpdab", sum := "b599bc0236ceabfe9d2862a23acb29b0fd5fbd571cb055dbbcc5968d451c27d8", func := "concourse/concourselaw11.PathPrints", spec := "pathPrints", apart := false }
def PathPrintsSaid : Prop := pathPrintsRow.holds Try.pinned (OpenSpec.ofChange pathPrintsSpec)

/-- ITS FALSE NEIGHBOUR: 'it returns false'. Refute it at one input. -/
def pathPrintsWrong : ChangeSpec := { name := "pathPrints", fn := fun _ => fun
  | [d1, d2, d3] => { results := [.lit (.bool false)], args := [d1, d2, d3] }
  | _ => none }
def PathPrintsWrongFalsely : Prop := pathPrintsRow.holds Try.pinned (OpenSpec.ofChange pathPrintsWrong)

/-- 'concourselaw11.PathBack': WHATEVER THE INPUT: true; the input reads as it did. -/
def pathBackSpec : ChangeSpec := { name := "pathBack", fn := fun _ => fun
  | [d1, d2] => { results := [.lit (.bool true)], args := [d1, d2] }
  | _ => none }
def pathBackRow : OpenClaim := { program := "ytihkjpfibogpdab", sum := "b599bc0236ceabfe9d2862a23acb29b0fd5fbd571cb055dbbcc5968d451c27d8", func := "concourse/concourselaw11.PathBack", spec := "pathBack", apart := false }
def PathBackSaid : Prop := pathBackRow.holds Try.pinned (OpenSpec.ofChange pathBackSpec)

/-- ITS FALSE NEIGHBOUR: 'it returns false'. Refute it at one input. -/
def pathBackWrong : ChangeSpec := { name := "pathBack", fn := fun _ => fun
  | [d1, d2] => { results := [.lit (.bool false)], args := [d1, d2] }
  | _ => none }
def PathBackWrongFalsely : Prop := pathBackRow.holds Try.pinned (OpenSpec.ofChange pathBackWrong)

/-- 'concourselaw11.PathDepths': WHATEVER THE INPUT: true; the input reads as it did. -/
def pathDepthsSpec : ChangeSpec := { name := "pathDepths", fn := fun _ => fun
  | [d1, d2] => { results := [.lit (.bool true)], args := [d1, d2] }
  | _ => none }
def pathDepthsRow : OpenClaim := { program := "ytihkjpfibogpdab", sum := "b599bc0236ceabfe9d2862a23acb29b0fd5fbd571cb055dbbcc5968d451c27d8", func := "concourse/concourselaw11.PathDepths", spec := "pathDepths", apart := false }
def PathDepthsSaid : Prop := pathDepthsRow.holds Try.pinned (OpenSpec.ofChange pathDepthsSpec)

/-- ITS FALSE NEIGHBOUR: 'it returns false'. Refute it at one input. -/
def pathDepthsWrong : ChangeSpec := { name := "pathDepths", fn := fun _ => fun
  | [d1, d2] => { results := [.lit (.bool false)], args := [d1, d2] }
  | _ => none }
def PathDepthsWrongFalsely : Prop := pathDepthsRow.holds Try.pinned (OpenSpec.ofChange pathDepthsWrong)

/-- 'concourselaw11.PathCodes': WHATEVER THE INPUT: true; the input reads as it did. -/
def pathCodesSpec : ChangeSpec := { name := "pathCodes", fn := fun _ => fun
  | [d] => { results := [.lit (.bool true)], args := [d] }
  | _ => none }
def pathCodesRow : OpenClaim := { program := "ytihkjpfibogpdab", sum := "b599bc0236ceabfe9d2862a23acb29b0fd5fbd571cb055dbbcc5968d451c27d8", func := "concourse/concourselaw11.PathCodes", spec := "pathCodes", apart := false }
def PathCodesSaid : Prop := pathCodesRow.holds Try.pinned (OpenSpec.ofChange pathCodesSpec)

/-- ITS FALSE NEIGHBOUR: 'it returns false'. Refute it at one input. -/
def pathCodesWrong : ChangeSpec := { name := "pathCodes", fn := fun _ => fun
  | [d] => { results := [.lit (.bool false)], args := [d] }
  | _ => none }
def PathCodesWrongFalsely : Prop := pathCodesRow.holds Try.pinned (OpenSpec.ofChange pathCodesWrong)

/-- 'concourselaw11.PathBelows': WHATEVER THE INPUT: true; the input reads as it did. -/
def pathBelowsSpec : ChangeSpec := { name := "pathBelows", fn := fun _ => fun
  | [d1, d2] => { results := [.lit (.bool true)], args := [d1, d2] }
  | _ => none }
def pathBelowsRow : OpenClaim := { program := "ytihkjpfibogpdab", sum := "b599bc0236ceabfe9d2862a23acb29b0fd5fbd571cb055dbbcc5968d451c27d8", func := "concourse/concourselaw11.PathBelows", spec := "pathBelows", apart := false }
def PathBelowsSaid : Prop := pathBelowsRow.holds Try.pinned (OpenSpec.ofChange pathBelowsSpec)

/-- ITS FALSE NEIGHBOUR: 'it returns false'. Refute it at one input. -/
def pathBelowsWrong : ChangeSpec := { name := "pathBelows", fn := fun _ => fun
  | [d1, d2] => { results := [.lit (.bool false)], args := [d1, d2] }
  | _ => none }
def PathBelowsWrongFalsely : Prop := pathBelowsRow.holds Try.pinned (OpenSpec.ofChange pathBelowsWrong)

/- THE SECOND FORM. 'bulk': how many values and letters a reading holds, each counted each time it is reached (what is shared counts as often as it is met; a slice's spare places count too). A statement '..UptoSaid' is the law's where the arguments, and the package variables that the reading takes, are together of bulk at most 1048576: NARROWER than '..Said'. Prove '..Said' where nothing that the law and all that it calls make is longer than what came in: it says more and counts as full. Else prove '..UptoSaid'. A law counts once. -/
mutual
def uptoBulk {H : Type} : DataW H → Nat
  | .lit (.string bytes) => bytes.length + 1
  | .lit _ => 1
  | .nil => 1
  | .ptr d => uptoBulk d + 1
  | .slice elems spare => uptoBulkAll elems + uptoBulkAll spare + 1
  | .agg parts => uptoBulkAll parts + 1
  | .iface _ d => uptoBulk d + 1
  | .map entries => uptoBulkEntries entries + 1
  | .held _ => 1
def uptoBulkAll {H : Type} : List (DataW H) → Nat
  | [] => 0
  | d :: r => uptoBulk d + uptoBulkAll r
def uptoBulkEntries {H : Type} : List (Lit × DataW H) → Nat
  | [] => 0
  | x :: r => uptoBulkEntry x + uptoBulkEntries r
def uptoBulkEntry {H : Type} : Lit × DataW H → Nat
  | (.string bytes, d) => bytes.length + uptoBulk d + 1
  | (_, d) => uptoBulk d + 1
 end
def uptoSmall : (H : Type) → List (DataW H) → Bool := fun _ ds => decide (uptoBulkAll ds ≤ 1048576)
def OpenSpec.upto (s : _root_.Go.ChangeSpec) : _root_.Go.OpenSpec := { _root_.Go.OpenSpec.ofChange s with cond := some uptoSmall }

/-- 'concourselaw3.SchedFairs', WHERE WHAT IT READS IS OF BULK AT MOST 1048576: true; the input reads as it did. -/
def schedFairsUptoRow : OpenClaim := { program := "ytihkjpfibogpdab", sum := "b599bc0236ceabfe9d2862a23acb29b0fd5fbd571cb055dbbcc5968d451c27d8", func := "concourse/concourselaw3.SchedFairs", spec := "schedFairs", apart := false, narrowed := true }
def SchedFairsUptoSaid : Prop := schedFairsUptoRow.holds Try.pinned (OpenSpec.upto schedFairsSpec)

/-- 'concourselaw3.SchedRound', WHERE WHAT IT READS IS OF BULK AT MOST 1048576: true; the input reads as it did. -/
def schedRoundUptoRow : OpenClaim := { program := "ytihkjpfibogpdab", sum := "b599bc0236ceabfe9d2862a23acb29b0fd5fbd571cb055dbbcc5968d451c27d8", func := "concourse/concourselaw3.SchedRound", spec := "schedRound", apart := false, narrowed := true }
def SchedRoundUptoSaid : Prop := schedRoundUptoRow.holds Try.pinned (OpenSpec.upto schedRoundSpec)

/-- 'concourselaw3.SchedReady', WHERE WHAT IT READS IS OF BULK AT MOST 1048576: true; the input reads as it did. -/
def schedReadyUptoRow : OpenClaim := { program := "ytihkjpfibogpdab", sum := "b599bc0236ceabfe9d2862a23acb29b0fd5fbd571cb055dbbcc5968d451c27d8", func := "concourse/concourselaw3.SchedReady", spec := "schedReady", apart := false, narrowed := true }
def SchedReadyUptoSaid : Prop := schedReadyUptoRow.holds Try.pinned (OpenSpec.upto schedReadySpec)

/-- 'concourselaw3.SchedWide', WHERE WHAT IT READS IS OF BULK AT MOST 1048576: true; the input reads as it did. -/
def schedWideUptoRow : OpenClaim := { program := "ytihkjpfibogpdab", sum := "b599bc0236ceabfe9d2862a23acb29b0fd5fbd571cb055dbbcc5968d451c27d8", func := "concourse/concourselaw3.SchedWide", spec := "schedWide", apart := false, narrowed := true }
def SchedWideUptoSaid : Prop := schedWideUptoRow.holds Try.pinned (OpenSpec.upto schedWideSpec)

/-- 'concourselaw11.PathParses', WHERE WHAT IT READS IS OF BULK AT MOST 1048576: true; the input reads as it did. -/
def pathParsesUptoRow : OpenClaim := { program := "ytihkjpfibogpdab", sum := "b599bc0236ceabfe9d2862a23acb29b0fd5fbd571cb055dbbcc5968d451c27d8", func := "concourse/concourselaw11.PathParses", spec := "pathParses", apart := false, narrowed := true }
def PathParsesUptoSaid : Prop := pathParsesUptoRow.holds Try.pinned (OpenSpec.upto pathParsesSpec)

/-- 'concourselaw11.PathPrints', WHERE WHAT IT READS IS OF BULK AT MOST 1048576: true; the input reads as it did. -/
def pathPrintsUptoRow : OpenClaim := { program := "ytihkjpfibogpdab", sum := "b599bc0236ceabfe9d2862a23acb29b0fd5fbd571cb055dbbcc5968d451c27d8", func := "concourse/concourselaw11.PathPrints", spec := "pathPrints", apart := false, narrowed := true }
def PathPrintsUptoSaid : Prop := pathPrintsUptoRow.holds Try.pinned (OpenSpec.upto pathPrintsSpec)

/-- 'concourselaw11.PathBack', WHERE WHAT IT READS IS OF BULK AT MOST 1048576: true; the input reads as it did. -/
def pathBackUptoRow : OpenClaim := { program := "ytihkjpfibogpdab", sum := "b599bc0236ceabfe9d2862a23acb29b0fd5fbd571cb055dbbcc5968d451c27d8", func := "concourse/concourselaw11.PathBack", spec := "pathBack", apart := false, narrowed := true }
def PathBackUptoSaid : Prop := pathBackUptoRow.holds Try.pinned (OpenSpec.upto pathBackSpec)

/-- 'concourselaw11.PathDepths', WHERE WHAT IT READS IS OF BULK AT MOST 1048576: true; the input reads as it did. -/
def pathDepthsUptoRow : OpenClaim := { program := "ytihkjpfibogpdab", sum := "b599bc0236ceabfe9d2862a23acb29b0fd5fbd571cb055dbbcc5968d451c27d8", func := "concourse/concourselaw11.PathDepths", spec := "pathDepths", apart := false, narrowed := true }
def PathDepthsUptoSaid : Prop := pathDepthsUptoRow.holds Try.pinned (OpenSpec.upto pathDepthsSpec)

/-- 'concourselaw11.PathCodes', WHERE WHAT IT READS IS OF BULK AT MOST 1048576: true; the input reads as it did. -/
def pathCodesUptoRow : OpenClaim := { program := "ytihkjpfibogpdab", sum := "b599bc0236ceabfe9d2862a23acb29b0fd5fbd571cb055dbbcc5968d451c27d8", func := "concourse/concourselaw11.PathCodes", spec := "pathCodes", apart := false, narrowed := true }
def PathCodesUptoSaid : Prop := pathCodesUptoRow.holds Try.pinned (OpenSpec.upto pathCodesSpec)

/-- 'concourselaw11.PathBelows', WHERE WHAT IT READS IS OF BULK AT MOST 1048576: true; the input reads as it did. -/
def pathBelowsUptoRow : OpenClaim := { program := "ytihkjpfibogpdab", sum := "b599bc0236ceabfe9d2862a23acb29b0fd5fbd571cb055dbbcc5968d451c27d8", func := "concourse/concourselaw11.PathBelows", spec := "pathBelows", apart := false, narrowed := true }
def PathBelowsUptoSaid : Prop := pathBelowsUptoRow.holds Try.pinned (OpenSpec.upto pathBelowsSpec)

end Rows
end Go.Proofs.Ytihkjpfibogpdab
