/-
  No cell of these rows narrows 'for every input' (looked for: loops, veiled, ifaces, maps, wideKeys, modest, calm, conditions, laid).
  DERIVED. THE GIVEN ROWS OF THIS SEAT. 12 by the template 'for every input the law returns true; each argument reads behind the call as it read before'; 0 by the template 'total and deterministic' (their statements: YtbflennacniacaaTotals.lean).
  GIVEN WITH THE SEED: the statements are not yours to turn. If you find one false, say at which input.
  Laid BY PROGRAM, IN A SANDBOX (cutbox-rows.mjs): the forced cells as the released guide's own fill.sh prints them over the translation 850adc0f40b91cff… (all of the seat's roots in one cut). By AI agents, Wed Nov 11 2026. No macro, syntax, notation, axiom, sorry.
-/
import Derived.Test.YtbflennacniacaaChecked
import GoSem.Claim
import GoSem.ClaimJoined
import GoSem.ClaimMapViews
import Derived.JoinedTies
import Derived.KernelRfl
namespace Go.Proofs.Ytbflennacniacaa
/- THE CELL 'sum', in the pinned program and in every row, IS THE sha256 OF THE DUMP (.gsa) THAT YtbflennacniacaaProg.lean LOADS. Nothing in Lean hashes anything: it is a label: what it is worth is what the hold of that sum in a sandbox is worth. -/
noncomputable def Try.pinned : Pinned := { name := "ytbflennacniacaa", sum := "850adc0f40b91cff46e1ed5a3c6a63ed50f9faa20bb3eb43b1faf270480523ee", checked := Try.checked }
namespace Rows
def none {H : Type} : Left H := { results := [], args := [] }

/-- 'concourselaw1.PmemFenced': WHATEVER THE INPUT: true; the input reads as it did. -/
def pmemFencedSpec : ChangeSpec := { name := "pmemFenced", fn := fun _ => fun
  | [d1, d2, d3] => { results := [.lit (.bool true)], args := [d1, d2, d3] }
  | _ => none }
def pmemFencedRow : OpenClaim := { program := "ytbflennacniacaa", sum := "850adc0f40b91cff46e1ed5a3c6a63ed50f9faa20bb3eb43b1faf270480523ee", func := "concourse/concourselaw1.PmemFenced", spec := "pmemFenced", unfollowed := true, recurses := true, apart := false }
def PmemFencedSaid : Prop := pmemFencedRow.holds Try.pinned (OpenSpec.ofChange pmemFencedSpec)

/-- ITS FALSE NEIGHBOUR: 'it returns false'. Refute it at one input. -/
def pmemFencedWrong : ChangeSpec := { name := "pmemFenced", fn := fun _ => fun
  | [d1, d2, d3] => { results := [.lit (.bool false)], args := [d1, d2, d3] }
  | _ => none }
def PmemFencedWrongFalsely : Prop := pmemFencedRow.holds Try.pinned (OpenSpec.ofChange pmemFencedWrong)

/-- 'concourselaw1.PmemUnfenced': WHATEVER THE INPUT: true; the input reads as it did. -/
def pmemUnfencedSpec : ChangeSpec := { name := "pmemUnfenced", fn := fun _ => fun
  | [d1, d2, d3] => { results := [.lit (.bool true)], args := [d1, d2, d3] }
  | _ => none }
def pmemUnfencedRow : OpenClaim := { program := "ytbflennacniacaa", sum := "850adc0f40b91cff46e1ed5a3c6a63ed50f9faa20bb3eb43b1faf270480523ee", func := "concourse/concourselaw1.PmemUnfenced", spec := "pmemUnfenced", unfollowed := true, recurses := true, apart := false }
def PmemUnfencedSaid : Prop := pmemUnfencedRow.holds Try.pinned (OpenSpec.ofChange pmemUnfencedSpec)

/-- ITS FALSE NEIGHBOUR: 'it returns false'. Refute it at one input. -/
def pmemUnfencedWrong : ChangeSpec := { name := "pmemUnfenced", fn := fun _ => fun
  | [d1, d2, d3] => { results := [.lit (.bool false)], args := [d1, d2, d3] }
  | _ => none }
def PmemUnfencedWrongFalsely : Prop := pmemUnfencedRow.holds Try.pinned (OpenSpec.ofChange pmemUnfencedWrong)

/-- 'concourselaw1.PmemSizes': WHATEVER THE INPUT: true; the input reads as it did. -/
def pmemSizesSpec : ChangeSpec := { name := "pmemSizes", fn := fun _ => fun
  | [d1, d2] => { results := [.lit (.bool true)], args := [d1, d2] }
  | _ => none }
def pmemSizesRow : OpenClaim := { program := "ytbflennacniacaa", sum := "850adc0f40b91cff46e1ed5a3c6a63ed50f9faa20bb3eb43b1faf270480523ee", func := "concourse/concourselaw1.PmemSizes", spec := "pmemSizes", unfollowed := true, recurses := true, apart := false }
def PmemSizesSaid : Prop := pmemSizesRow.holds Try.pinned (OpenSpec.ofChange pmemSizesSpec)

/-- ITS FALSE NEIGHBOUR: 'it returns false'. Refute it at one input. -/
def pmemSizesWrong : ChangeSpec := { name := "pmemSizes", fn := fun _ => fun
  | [d1, d2] => { results := [.lit (.bool false)], args := [d1, d2] }
  | _ => none }
def PmemSizesWrongFalsely : Prop := pmemSizesRow.holds Try.pinned (OpenSpec.ofChange pmemSizesWrong)

/-- 'concourselaw1.PmemLast': WHATEVER THE INPUT: true; the input reads as it did. -/
def pmemLastSpec : ChangeSpec := { name := "pmemLast", fn := fun _ => fun
  | [d1, d2, d3] => { results := [.lit (.bool true)], args := [d1, d2, d3] }
  | _ => none }
def pmemLastRow : OpenClaim := { program := "ytbflennacniacaa", sum := "850adc0f40b91cff46e1ed5a3c6a63ed50f9faa20bb3eb43b1faf270480523ee", func := "concourse/concourselaw1.PmemLast", spec := "pmemLast", unfollowed := true, recurses := true, apart := false }
def PmemLastSaid : Prop := pmemLastRow.holds Try.pinned (OpenSpec.ofChange pmemLastSpec)

/-- ITS FALSE NEIGHBOUR: 'it returns false'. Refute it at one input. -/
def pmemLastWrong : ChangeSpec := { name := "pmemLast", fn := fun _ => fun
  | [d1, d2, d3] => { results := [.lit (.bool false)], args := [d1, d2, d3] }
  | _ => none }
def PmemLastWrongFalsely : Prop := pmemLastRow.holds Try.pinned (OpenSpec.ofChange pmemLastWrong)

/-- 'concourselaw1.PmemFuses': WHATEVER THE INPUT: true; the input reads as it did. -/
def pmemFusesSpec : ChangeSpec := { name := "pmemFuses", fn := fun _ => fun
  | [d1, d2] => { results := [.lit (.bool true)], args := [d1, d2] }
  | _ => none }
def pmemFusesRow : OpenClaim := { program := "ytbflennacniacaa", sum := "850adc0f40b91cff46e1ed5a3c6a63ed50f9faa20bb3eb43b1faf270480523ee", func := "concourse/concourselaw1.PmemFuses", spec := "pmemFuses", unfollowed := true, recurses := true, apart := false }
def PmemFusesSaid : Prop := pmemFusesRow.holds Try.pinned (OpenSpec.ofChange pmemFusesSpec)

/-- ITS FALSE NEIGHBOUR: 'it returns false'. Refute it at one input. -/
def pmemFusesWrong : ChangeSpec := { name := "pmemFuses", fn := fun _ => fun
  | [d1, d2] => { results := [.lit (.bool false)], args := [d1, d2] }
  | _ => none }
def PmemFusesWrongFalsely : Prop := pmemFusesRow.holds Try.pinned (OpenSpec.ofChange pmemFusesWrong)

/-- 'concourselaw1.PmemActs': WHATEVER THE INPUT: true; the input reads as it did. -/
def pmemActsSpec : ChangeSpec := { name := "pmemActs", fn := fun _ => fun
  | [d1, d2] => { results := [.lit (.bool true)], args := [d1, d2] }
  | _ => none }
def pmemActsRow : OpenClaim := { program := "ytbflennacniacaa", sum := "850adc0f40b91cff46e1ed5a3c6a63ed50f9faa20bb3eb43b1faf270480523ee", func := "concourse/concourselaw1.PmemActs", spec := "pmemActs", inPlace := ["maps.clone"], unfollowed := true, recurses := true, apart := false }
def PmemActsSaid : Prop := pmemActsRow.holds Try.pinned (OpenSpec.ofChange pmemActsSpec)

/-- ITS FALSE NEIGHBOUR: 'it returns false'. Refute it at one input. -/
def pmemActsWrong : ChangeSpec := { name := "pmemActs", fn := fun _ => fun
  | [d1, d2] => { results := [.lit (.bool false)], args := [d1, d2] }
  | _ => none }
def PmemActsWrongFalsely : Prop := pmemActsRow.holds Try.pinned (OpenSpec.ofChange pmemActsWrong)

/-- 'concourselaw21.JournalSizes': WHATEVER THE INPUT: true; the input reads as it did. -/
def journalSizesSpec : ChangeSpec := { name := "journalSizes", fn := fun _ => fun
  | [d1, d2, d3] => { results := [.lit (.bool true)], args := [d1, d2, d3] }
  | _ => none }
def journalSizesRow : OpenClaim := { program := "ytbflennacniacaa", sum := "850adc0f40b91cff46e1ed5a3c6a63ed50f9faa20bb3eb43b1faf270480523ee", func := "concourse/concourselaw21.JournalSizes", spec := "journalSizes", unfollowed := true, recurses := true, apart := false }
def JournalSizesSaid : Prop := journalSizesRow.holds Try.pinned (OpenSpec.ofChange journalSizesSpec)

/-- ITS FALSE NEIGHBOUR: 'it returns false'. Refute it at one input. -/
def journalSizesWrong : ChangeSpec := { name := "journalSizes", fn := fun _ => fun
  | [d1, d2, d3] => { results := [.lit (.bool false)], args := [d1, d2, d3] }
  | _ => none }
def JournalSizesWrongFalsely : Prop := journalSizesRow.holds Try.pinned (OpenSpec.ofChange journalSizesWrong)

/-- 'concourselaw21.JournalTwo': WHATEVER THE INPUT: true; the input reads as it did. -/
def journalTwoSpec : ChangeSpec := { name := "journalTwo", fn := fun _ => fun
  | [d1, d2] => { results := [.lit (.bool true)], args := [d1, d2] }
  | _ => none }
def journalTwoRow : OpenClaim := { program := "ytbflennacniacaa", sum := "850adc0f40b91cff46e1ed5a3c6a63ed50f9faa20bb3eb43b1faf270480523ee", func := "concourse/concourselaw21.JournalTwo", spec := "journalTwo", unfollowed := true, recurses := true, apart := false }
def JournalTwoSaid : Prop := journalTwoRow.holds Try.pinned (OpenSpec.ofChange journalTwoSpec)

/-- ITS FALSE NEIGHBOUR: 'it returns false'. Refute it at one input. -/
def journalTwoWrong : ChangeSpec := { name := "journalTwo", fn := fun _ => fun
  | [d1, d2] => { results := [.lit (.bool false)], args := [d1, d2] }
  | _ => none }
def JournalTwoWrongFalsely : Prop := journalTwoRow.holds Try.pinned (OpenSpec.ofChange journalTwoWrong)

/-- 'concourselaw21.JournalAny': WHATEVER THE INPUT: true; the input reads as it did. -/
def journalAnySpec : ChangeSpec := { name := "journalAny", fn := fun _ => fun
  | [d1, d2] => { results := [.lit (.bool true)], args := [d1, d2] }
  | _ => none }
def journalAnyRow : OpenClaim := { program := "ytbflennacniacaa", sum := "850adc0f40b91cff46e1ed5a3c6a63ed50f9faa20bb3eb43b1faf270480523ee", func := "concourse/concourselaw21.JournalAny", spec := "journalAny", unfollowed := true, recurses := true, apart := false }
def JournalAnySaid : Prop := journalAnyRow.holds Try.pinned (OpenSpec.ofChange journalAnySpec)

/-- ITS FALSE NEIGHBOUR: 'it returns false'. Refute it at one input. -/
def journalAnyWrong : ChangeSpec := { name := "journalAny", fn := fun _ => fun
  | [d1, d2] => { results := [.lit (.bool false)], args := [d1, d2] }
  | _ => none }
def JournalAnyWrongFalsely : Prop := journalAnyRow.holds Try.pinned (OpenSpec.ofChange journalAnyWrong)

/-- 'concourselaw21.JournalKeeps': WHATEVER THE INPUT: true; the input reads as it did. -/
def journalKeepsSpec : ChangeSpec := { name := "journalKeeps", fn := fun _ => fun
  | [d1, d2] => { results := [.lit (.bool true)], args := [d1, d2] }
  | _ => none }
def journalKeepsRow : OpenClaim := { program := "ytbflennacniacaa", sum := "850adc0f40b91cff46e1ed5a3c6a63ed50f9faa20bb3eb43b1faf270480523ee", func := "concourse/concourselaw21.JournalKeeps", spec := "journalKeeps", inPlace := ["maps.clone"], unfollowed := true, recurses := true, apart := false }
def JournalKeepsSaid : Prop := journalKeepsRow.holds Try.pinned (OpenSpec.ofChange journalKeepsSpec)

/-- ITS FALSE NEIGHBOUR: 'it returns false'. Refute it at one input. -/
def journalKeepsWrong : ChangeSpec := { name := "journalKeeps", fn := fun _ => fun
  | [d1, d2] => { results := [.lit (.bool false)], args := [d1, d2] }
  | _ => none }
def JournalKeepsWrongFalsely : Prop := journalKeepsRow.holds Try.pinned (OpenSpec.ofChange journalKeepsWrong)

/-- 'concourselaw21.JournalActs': WHATEVER THE INPUT: true; the input reads as it did. -/
def journalActsSpec : ChangeSpec := { name := "journalActs", fn := fun _ => fun
  | [d1, d2] => { results := [.lit (.bool true)], args := [d1, d2] }
  | _ => none }
def journalActsRow : OpenClaim := { program := "ytbflennacniacaa", sum := "850adc0f40b91cff46e1ed5a3c6a63ed50f9faa20bb3eb43b1faf270480523ee", func := "concourse/concourselaw21.JournalActs", spec := "journalActs", inPlace := ["maps.clone"], unfollowed := true, recurses := true, apart := false }
def JournalActsSaid : Prop := journalActsRow.holds Try.pinned (OpenSpec.ofChange journalActsSpec)

/-- ITS FALSE NEIGHBOUR: 'it returns false'. Refute it at one input. -/
def journalActsWrong : ChangeSpec := { name := "journalActs", fn := fun _ => fun
  | [d1, d2] => { results := [.lit (.bool false)], args := [d1, d2] }
  | _ => none }
def JournalActsWrongFalsely : Prop := journalActsRow.holds Try.pinned (OpenSpec.ofChange journalActsWrong)

/-- 'concourselaw21.JournalNew': WHATEVER THE INPUT: true; the input reads as it did. -/
def journalNewSpec : ChangeSpec := { name := "journalNew", fn := fun _ => fun
  | [d1, d2, d3] => { results := [.lit (.bool true)], args := [d1, d2, d3] }
  | _ => none }
def journalNewRow : OpenClaim := { program := "ytbflennacniacaa", sum := "850adc0f40b91cff46e1ed5a3c6a63ed50f9faa20bb3eb43b1faf270480523ee", func := "concourse/concourselaw21.JournalNew", spec := "journalNew", inPlace := ["maps.clone"], unfollowed := true, recurses := true, apart := false }
def JournalNewSaid : Prop := journalNewRow.holds Try.pinned (OpenSpec.ofChange journalNewSpec)

/-- ITS FALSE NEIGHBOUR: 'it returns false'. Refute it at one input. -/
def journalNewWrong : ChangeSpec := { name := "journalNew", fn := fun _ => fun
  | [d1, d2, d3] => { results := [.lit (.bool false)], args := [d1, d2, d3] }
  | _ => none }
def JournalNewWrongFalsely : Prop := journalNewRow.holds Try.pinned (OpenSpec.ofChange journalNewWrong)

/- THE SECOND FORM. 'bulk': how many values and letters a reading holds, each counted each time it is reached (what is shared counts as often as it is met; a slice's spare places count too). A statement '..UptoSaid' is the law's where the arguments, and the package variables that the reading takes, are together of bulk at most 1048576: NARROWER than '..Said'. Prove '..Said' where nothing that the law and all that it calls make is longer than what came in: it says more and counts as full. Else prove '..UptoSaid'. A law counts once. -/
mutual
def uptoBulk {H : Type} : DataW H → Nat
  | .lit (.string bytes) => bytes.length + 1
  | .lit _ => 1
  | .nil => 1
  | .ptr d => uptoBulk d + 1
  | .slice elems spare => uptoBulkAll elems + uptoBulkAll spare + 1
  | .agg parts => uptoBulkAll parts + 1
  | .iface _ d => uptoBulk d + 1
  | .map entries => uptoBulkEntries entries + 1
  | .held _ => 1
def uptoBulkAll {H : Type} : List (DataW H) → Nat
  | [] => 0
  | d :: r => uptoBulk d + uptoBulkAll r
def uptoBulkEntries {H : Type} : List (Lit × DataW H) → Nat
  | [] => 0
  | x :: r => uptoBulkEntry x + uptoBulkEntries r
def uptoBulkEntry {H : Type} : Lit × DataW H → Nat
  | (.string bytes, d) => bytes.length + uptoBulk d + 1
  | (_, d) => uptoBulk d + 1
 end
def uptoSmall : (H : Type) → List (DataW H) → Bool := fun _ ds => decide (uptoBulkAll ds ≤ 1048576)
def OpenSpec.upto (s : _root_.Go.ChangeSpec) : _root_.Go.OpenSpec := { _root_.Go.OpenSpec.ofChange s with cond := some uptoSmall }

/-- 'concourselaw1.PmemFenced', WHERE WHAT IT READS IS OF BULK AT MOST 1048576: true; the input reads as it did. -/
def pmemFencedUptoRow : OpenClaim := { program := "ytbflennacniacaa", sum := "850adc0f40b91cff46e1ed5a3c6a63ed50f9faa20bb3eb43b1faf270480523ee", func := "concourse/concourselaw1.PmemFenced", spec := "pmemFenced", unfollowed := true, recurses := true, apart := false, narrowed := true }
def PmemFencedUptoSaid : Prop := pmemFencedUptoRow.holds Try.pinned (OpenSpec.upto pmemFencedSpec)

/-- 'concourselaw1.PmemUnfenced', WHERE WHAT IT READS IS OF BULK AT MOST 1048576: true; the input reads as it did. -/
def pmemUnfencedUptoRow : OpenClaim := { program := "ytbflennacniacaa", sum := "850adc0f40b91cff46e1ed5a3c6a63ed50f9faa20bb3eb43b1faf270480523ee", func := "concourse/concourselaw1.PmemUnfenced", spec := "pmemUnfenced", unfollowed := true, recurses := true, apart := false, narrowed := true }
def PmemUnfencedUptoSaid : Prop := pmemUnfencedUptoRow.holds Try.pinned (OpenSpec.upto pmemUnfencedSpec)

/-- 'concourselaw1.PmemSizes', WHERE WHAT IT READS IS OF BULK AT MOST 1048576: true; the input reads as it did. -/
def pmemSizesUptoRow : OpenClaim := { program := "ytbflennacniacaa", sum := "850adc0f40b91cff46e1ed5a3c6a63ed50f9faa20bb3eb43b1faf270480523ee", func := "concourse/concourselaw1.PmemSizes", spec := "pmemSizes", unfollowed := true, recurses := true, apart := false, narrowed := true }
def PmemSizesUptoSaid : Prop := pmemSizesUptoRow.holds Try.pinned (OpenSpec.upto pmemSizesSpec)

/-- 'concourselaw1.PmemLast', WHERE WHAT IT READS IS OF BULK AT MOST 1048576: true; the input reads as it did. -/
def pmemLastUptoRow : OpenClaim := { program := "ytbflennacniacaa", sum := "850adc0f40b91cff46e1ed5a3c6a63ed50f9faa20bb3eb43b1faf270480523ee", func := "concourse/concourselaw1.PmemLast", spec := "pmemLast", unfollowed := true, recurses := true, apart := false, narrowed := true }
def PmemLastUptoSaid : Prop := pmemLastUptoRow.holds Try.pinned (OpenSpec.upto pmemLastSpec)

/-- 'concourselaw1.PmemFuses', WHERE WHAT IT READS IS OF BULK AT MOST 1048576: true; the input reads as it did. -/
def pmemFusesUptoRow : OpenClaim := { program := "ytbflennacniacaa", sum := "850adc0f40b91cff46e1ed5a3c6a63ed50f9faa20bb3eb43b1faf270480523ee", func := "concourse/concourselaw1.PmemFuses", spec := "pmemFuses", unfollowed := true, recurses := true, apart := false, narrowed := true }
def PmemFusesUptoSaid : Prop := pmemFusesUptoRow.holds Try.pinned (OpenSpec.upto pmemFusesSpec)

/-- 'concourselaw1.PmemActs', WHERE WHAT IT READS IS OF BULK AT MOST 1048576: true; the input reads as it did. -/
def pmemActsUptoRow : OpenClaim := { program := "ytbflennacniacaa", sum := "850adc0f40b91cff46e1ed5a3c6a63ed50f9faa20bb3eb43b1faf270480523ee", func := "concourse/concourselaw1.PmemActs", spec := "pmemActs", inPlace := ["maps.clone"], unfollowed := true, recurses := true, apart := false, narrowed := true }
def PmemActsUptoSaid : Prop := pmemActsUptoRow.holds Try.pinned (OpenSpec.upto pmemActsSpec)

/-- 'concourselaw21.JournalSizes', WHERE WHAT IT READS IS OF BULK AT MOST 1048576: true; the input reads as it did. -/
def journalSizesUptoRow : OpenClaim := { program := "ytbflennacniacaa", sum := "850adc0f40b91cff46e1ed5a3c6a63ed50f9faa20bb3eb43b1faf270480523ee", func := "concourse/concourselaw21.JournalSizes", spec := "journalSizes", unfollowed := true, recurses := true, apart := false, narrowed := true }
def JournalSizesUptoSaid : Prop := journalSizesUptoRow.holds Try.pinned (OpenSpec.upto journalSizesSpec)

/-- 'concourselaw21.JournalTwo', WHERE WHAT IT READS IS OF BULK AT MOST 1048576: true; the input reads as it did. -/
def journalTwoUptoRow : OpenClaim := { program := "ytbflennacniacaa", sum := "850adc0f40b91cff46e1ed5a3c6a63ed50f9faa20bb3eb43b1faf270480523ee", func := "concourse/concourselaw21.JournalTwo", spec := "journalTwo", unfollowed := true, recurses := true, apart := false, narrowed := true }
def JournalTwoUptoSaid : Prop := journalTwoUptoRow.holds Try.pinned (OpenSpec.upto journalTwoSpec)

/-- 'concourselaw21.JournalAny', WHERE WHAT IT READS IS OF BULK AT MOST 1048576: true; the input reads as it did. -/
def journalAnyUptoRow : OpenClaim := { program := "ytbflennacniacaa", sum := "850adc0f40b91cff46e1ed5a3c6a63ed50f9faa20bb3eb43b1faf270480523ee", func := "concourse/concourselaw21.JournalAny", spec := "journalAny", unfollowed := true, recurses := true, apart := false, narrowed := true }
def JournalAnyUptoSaid : Prop := journalAnyUptoRow.holds Try.pinned (OpenSpec.upto journalAnySpec)

/-- 'concourselaw21.JournalKeeps', WHERE WHAT IT READS IS OF BULK AT MOST 1048576: true; the input reads as it did. -/
def journalKeepsUptoRow : OpenClaim := { program := "ytbflennacniacaa", sum := "850adc0f40b91cff46e1ed5a3c6a63ed50f9faa20bb3eb43b1faf270480523ee", func := "concourse/concourselaw21.JournalKeeps", spec := "journalKeeps", inPlace := ["maps.clone"], unfollowed := true, recurses := true, apart := false, narrowed := true }
def JournalKeepsUptoSaid : Prop := journalKeepsUptoRow.holds Try.pinned (OpenSpec.upto journalKeepsSpec)

/-- 'concourselaw21.JournalActs', WHERE WHAT IT READS IS OF BULK AT MOST 1048576: true; the input reads as it did. -/
def journalActsUptoRow : OpenClaim := { program := "ytbflennacniacaa", sum := "850adc0f40b91cff46e1ed5a3c6a63ed50f9faa20bb3eb43b1faf270480523ee", func := "concourse/concourselaw21.JournalActs", spec := "journalActs", inPlace := ["maps.clone"], unfollowed := true, recurses := true, apart := false, narrowed := true }
def JournalActsUptoSaid : Prop := journalActsUptoRow.holds Try.pinned (OpenSpec.upto journalActsSpec)

/-- 'concourselaw21.JournalNew', WHERE WHAT IT READS IS OF BULK AT MOST 1048576: true; the input reads as it did. -/
def journalNewUptoRow : OpenClaim := { program := "ytbflennacniacaa", sum := "850adc0f40b91cff46e1ed5a3c6a63ed50f9faa20bb3eb43b1faf270480523ee", func := "concourse/concourselaw21.JournalNew", spec := "journalNew", inPlace := ["maps.clone"], unfollowed := true, recurses := true, apart := false, narrowed := true }
def JournalNewUptoSaid : Prop := journalNewUptoRow.holds Try.pinned (OpenSpec.upto journalNewSpec)

end Rows
end Go.Proofs.Ytbflennacniacaa
