/-
  No cell of these rows narrows 'for every input' (looked for: loops, veiled, ifaces, maps, wideKeys, modest, calm, conditions, laid).
  DERIVED. THE GIVEN ROWS OF THIS SEAT. 12 by the template 'for every input the law returns true; each argument reads behind the call as it read before'; 0 by the template 'total and deterministic' (their statements: YtihkjpfibogpdaaTotals.lean).
  GIVEN WITH THE SEED: the statements are not yours to turn. If you find one false, say at which input.
  Laid BY PROGRAM, IN A SANDBOX (cutbox-rows.mjs): the forced cells as the released guide's own fill.sh prints them over the translation 25145d81c700d35f… (all of the seat's roots in one cut). By AI agents, Wed Nov 11 2026. No macro, syntax, notation, axiom, sorry.
-/
import Derived.Test.YtihkjpfibogpdaaChecked
import GoSem.Claim
import GoSem.ClaimJoined
import GoSem.ClaimMapViews
import Derived.JoinedTies
import Derived.KernelRfl
namespace Go.Proofs.Ytihkjpfibogpdaa
/- THE CELL 'sum', in the pinned program and in every row, IS THE sha256 OF THE DUMP (.gsa) THAT YtihkjpfibogpdaaProg.lean LOADS. Nothing in Lean hashes anything: it is a label: what it is worth is what the hold of that sum in a sandbox is worth. -/
noncomputable def Try.pinned : Pinned := { name := "ytihkjpfibogpdaa", sum := "25145d81c700d35f0411063a8cffddc74b6c636ef81b8b8e4ef5b45287ab1a0f", checked := Try.checked }
namespace Rows
def none {H : Type} : Left H := { results := [], args := [] }

/-- 'concourselaw0.ConcourseNames': WHATEVER THE INPUT: true; the input reads as it did. -/
def concourseNamesSpec : ChangeSpec := { name := "concourseNames", fn := fun _ => fun
  | [] => { results := [.lit (.bool true)], args := [] }
  | _ => none }
def concourseNamesRow : OpenClaim := { program := "ytihkjpfibogpdaa", sum := "25145d81c700d35f0411063a8cffddc74b6c636ef81b8b8e4ef5b45287ab1a0f", func := "concourse/concourselaw0.ConcourseNames", spec := "concourseNames", apart := false }
def ConcourseNamesSaid : Prop := concourseNamesRow.holds Try.pinned (OpenSpec.ofChange concourseNamesSpec)

/-- ITS FALSE NEIGHBOUR: 'it returns false'. Refute it at one input. -/
def concourseNamesWrong : ChangeSpec := { name := "concourseNames", fn := fun _ => fun
  | [] => { results := [.lit (.bool false)], args := [] }
  | _ => none }
def ConcourseNamesWrongFalsely : Prop := concourseNamesRow.holds Try.pinned (OpenSpec.ofChange concourseNamesWrong)

/-- 'concourselaw18.Sums': WHATEVER THE INPUT: true; the input reads as it did. -/
def sumsSpec : ChangeSpec := { name := "sums", fn := fun _ => fun
  | [d1, d2] => { results := [.lit (.bool true)], args := [d1, d2] }
  | _ => none }
def sumsRow : OpenClaim := { program := "ytihkjpfibogpdaa", sum := "25145d81c700d35f0411063a8cffddc74b6c636ef81b8b8e4ef5b45287ab1a0f", func := "concourse/concourselaw18.Sums", spec := "sums", apart := false }
def SumsSaid : Prop := sumsRow.holds Try.pinned (OpenSpec.ofChange sumsSpec)

/-- ITS FALSE NEIGHBOUR: 'it returns false'. Refute it at one input. -/
def sumsWrong : ChangeSpec := { name := "sums", fn := fun _ => fun
  | [d1, d2] => { results := [.lit (.bool false)], args := [d1, d2] }
  | _ => none }
def SumsWrongFalsely : Prop := sumsRow.holds Try.pinned (OpenSpec.ofChange sumsWrong)

/-- 'concourselaw18.SumOne': WHATEVER THE INPUT: true; the input reads as it did. -/
def sumOneSpec : ChangeSpec := { name := "sumOne", fn := fun _ => fun
  | [d1, d2, d3] => { results := [.lit (.bool true)], args := [d1, d2, d3] }
  | _ => none }
def sumOneRow : OpenClaim := { program := "ytihkjpfibogpdaa", sum := "25145d81c700d35f0411063a8cffddc74b6c636ef81b8b8e4ef5b45287ab1a0f", func := "concourse/concourselaw18.SumOne", spec := "sumOne", apart := false }
def SumOneSaid : Prop := sumOneRow.holds Try.pinned (OpenSpec.ofChange sumOneSpec)

/-- ITS FALSE NEIGHBOUR: 'it returns false'. Refute it at one input. -/
def sumOneWrong : ChangeSpec := { name := "sumOne", fn := fun _ => fun
  | [d1, d2, d3] => { results := [.lit (.bool false)], args := [d1, d2, d3] }
  | _ => none }
def SumOneWrongFalsely : Prop := sumOneRow.holds Try.pinned (OpenSpec.ofChange sumOneWrong)

/-- 'concourselaw18.SumSteps': WHATEVER THE INPUT: true; the input reads as it did. -/
def sumStepsSpec : ChangeSpec := { name := "sumSteps", fn := fun _ => fun
  | [d1, d2, d3] => { results := [.lit (.bool true)], args := [d1, d2, d3] }
  | _ => none }
def sumStepsRow : OpenClaim := { program := "ytihkjpfibogpdaa", sum := "25145d81c700d35f0411063a8cffddc74b6c636ef81b8b8e4ef5b45287ab1a0f", func := "concourse/concourselaw18.SumSteps", spec := "sumSteps", apart := false }
def SumStepsSaid : Prop := sumStepsRow.holds Try.pinned (OpenSpec.ofChange sumStepsSpec)

/-- ITS FALSE NEIGHBOUR: 'it returns false'. Refute it at one input. -/
def sumStepsWrong : ChangeSpec := { name := "sumSteps", fn := fun _ => fun
  | [d1, d2, d3] => { results := [.lit (.bool false)], args := [d1, d2, d3] }
  | _ => none }
def SumStepsWrongFalsely : Prop := sumStepsRow.holds Try.pinned (OpenSpec.ofChange sumStepsWrong)

/-- 'concourselaw18.SumTurned': WHATEVER THE INPUT: true; the input reads as it did. -/
def sumTurnedSpec : ChangeSpec := { name := "sumTurned", fn := fun _ => fun
  | [d1, d2, d3] => { results := [.lit (.bool true)], args := [d1, d2, d3] }
  | _ => none }
def sumTurnedRow : OpenClaim := { program := "ytihkjpfibogpdaa", sum := "25145d81c700d35f0411063a8cffddc74b6c636ef81b8b8e4ef5b45287ab1a0f", func := "concourse/concourselaw18.SumTurned", spec := "sumTurned", apart := false }
def SumTurnedSaid : Prop := sumTurnedRow.holds Try.pinned (OpenSpec.ofChange sumTurnedSpec)

/-- ITS FALSE NEIGHBOUR: 'it returns false'. Refute it at one input. -/
def sumTurnedWrong : ChangeSpec := { name := "sumTurned", fn := fun _ => fun
  | [d1, d2, d3] => { results := [.lit (.bool false)], args := [d1, d2, d3] }
  | _ => none }
def SumTurnedWrongFalsely : Prop := sumTurnedRow.holds Try.pinned (OpenSpec.ofChange sumTurnedWrong)

/-- 'concourselaw8.Names': WHATEVER THE INPUT: true; the input reads as it did. -/
def namesSpec : ChangeSpec := { name := "names", fn := fun _ => fun
  | [d] => { results := [.lit (.bool true)], args := [d] }
  | _ => none }
def namesRow : OpenClaim := { program := "ytihkjpfibogpdaa", sum := "25145d81c700d35f0411063a8cffddc74b6c636ef81b8b8e4ef5b45287ab1a0f", func := "concourse/concourselaw8.Names", spec := "names", apart := false }
def NamesSaid : Prop := namesRow.holds Try.pinned (OpenSpec.ofChange namesSpec)

/-- ITS FALSE NEIGHBOUR: 'it returns false'. Refute it at one input. -/
def namesWrong : ChangeSpec := { name := "names", fn := fun _ => fun
  | [d] => { results := [.lit (.bool false)], args := [d] }
  | _ => none }
def NamesWrongFalsely : Prop := namesRow.holds Try.pinned (OpenSpec.ofChange namesWrong)

/-- 'concourselaw8.NameRunes': WHATEVER THE INPUT: true; the input reads as it did. -/
def nameRunesSpec : ChangeSpec := { name := "nameRunes", fn := fun _ => fun
  | [d1, d2] => { results := [.lit (.bool true)], args := [d1, d2] }
  | _ => none }
def nameRunesRow : OpenClaim := { program := "ytihkjpfibogpdaa", sum := "25145d81c700d35f0411063a8cffddc74b6c636ef81b8b8e4ef5b45287ab1a0f", func := "concourse/concourselaw8.NameRunes", spec := "nameRunes", apart := false }
def NameRunesSaid : Prop := nameRunesRow.holds Try.pinned (OpenSpec.ofChange nameRunesSpec)

/-- ITS FALSE NEIGHBOUR: 'it returns false'. Refute it at one input. -/
def nameRunesWrong : ChangeSpec := { name := "nameRunes", fn := fun _ => fun
  | [d1, d2] => { results := [.lit (.bool false)], args := [d1, d2] }
  | _ => none }
def NameRunesWrongFalsely : Prop := nameRunesRow.holds Try.pinned (OpenSpec.ofChange nameRunesWrong)

/-- 'concourselaw8.NameHashes': WHATEVER THE INPUT: true; the input reads as it did. -/
def nameHashesSpec : ChangeSpec := { name := "nameHashes", fn := fun _ => fun
  | [d1, d2] => { results := [.lit (.bool true)], args := [d1, d2] }
  | _ => none }
def nameHashesRow : OpenClaim := { program := "ytihkjpfibogpdaa", sum := "25145d81c700d35f0411063a8cffddc74b6c636ef81b8b8e4ef5b45287ab1a0f", func := "concourse/concourselaw8.NameHashes", spec := "nameHashes", apart := false }
def NameHashesSaid : Prop := nameHashesRow.holds Try.pinned (OpenSpec.ofChange nameHashesSpec)

/-- ITS FALSE NEIGHBOUR: 'it returns false'. Refute it at one input. -/
def nameHashesWrong : ChangeSpec := { name := "nameHashes", fn := fun _ => fun
  | [d1, d2] => { results := [.lit (.bool false)], args := [d1, d2] }
  | _ => none }
def NameHashesWrongFalsely : Prop := nameHashesRow.holds Try.pinned (OpenSpec.ofChange nameHashesWrong)

/-- 'concourselaw8.NameMays': WHATEVER THE INPUT: true; the input reads as it did. -/
def nameMaysSpec : ChangeSpec := { name := "nameMays", fn := fun _ => fun
  | [d1, d2, d3] => { results := [.lit (.bool true)], args := [d1, d2, d3] }
  | _ => none }
def nameMaysRow : OpenClaim := { program := "ytihkjpfibogpdaa", sum := "25145d81c700d35f0411063a8cffddc74b6c636ef81b8b8e4ef5b45287ab1a0f", func := "concourse/concourselaw8.NameMays", spec := "nameMays", apart := false }
def NameMaysSaid : Prop := nameMaysRow.holds Try.pinned (OpenSpec.ofChange nameMaysSpec)

/-- ITS FALSE NEIGHBOUR: 'it returns false'. Refute it at one input. -/
def nameMaysWrong : ChangeSpec := { name := "nameMays", fn := fun _ => fun
  | [d1, d2, d3] => { results := [.lit (.bool false)], args := [d1, d2, d3] }
  | _ => none }
def NameMaysWrongFalsely : Prop := nameMaysRow.holds Try.pinned (OpenSpec.ofChange nameMaysWrong)

/-- 'concourselaw8.NameUtf': WHATEVER THE INPUT: true; the input reads as it did. -/
def nameUtfSpec : ChangeSpec := { name := "nameUtf", fn := fun _ => fun
  | [d] => { results := [.lit (.bool true)], args := [d] }
  | _ => none }
def nameUtfRow : OpenClaim := { program := "ytihkjpfibogpdaa", sum := "25145d81c700d35f0411063a8cffddc74b6c636ef81b8b8e4ef5b45287ab1a0f", func := "concourse/concourselaw8.NameUtf", spec := "nameUtf", apart := false }
def NameUtfSaid : Prop := nameUtfRow.holds Try.pinned (OpenSpec.ofChange nameUtfSpec)

/-- ITS FALSE NEIGHBOUR: 'it returns false'. Refute it at one input. -/
def nameUtfWrong : ChangeSpec := { name := "nameUtf", fn := fun _ => fun
  | [d] => { results := [.lit (.bool false)], args := [d] }
  | _ => none }
def NameUtfWrongFalsely : Prop := nameUtfRow.holds Try.pinned (OpenSpec.ofChange nameUtfWrong)

/-- 'concourselaw8.NameLongs': WHATEVER THE INPUT: true; the input reads as it did. -/
def nameLongsSpec : ChangeSpec := { name := "nameLongs", fn := fun _ => fun
  | [d] => { results := [.lit (.bool true)], args := [d] }
  | _ => none }
def nameLongsRow : OpenClaim := { program := "ytihkjpfibogpdaa", sum := "25145d81c700d35f0411063a8cffddc74b6c636ef81b8b8e4ef5b45287ab1a0f", func := "concourse/concourselaw8.NameLongs", spec := "nameLongs", apart := false }
def NameLongsSaid : Prop := nameLongsRow.holds Try.pinned (OpenSpec.ofChange nameLongsSpec)

/-- ITS FALSE NEIGHBOUR: 'it returns false'. Refute it at one input. -/
def nameLongsWrong : ChangeSpec := { name := "nameLongs", fn := fun _ => fun
  | [d] => { results := [.lit (.bool false)], args := [d] }
  | _ => none }
def NameLongsWrongFalsely : Prop := nameLongsRow.holds Try.pinned (OpenSpec.ofChange nameLongsWrong)

/-- 'concourselaw3.SchedPicks': WHATEVER THE INPUT: true; the input reads as it did. -/
def schedPicksSpec : ChangeSpec := { name := "schedPicks", fn := fun _ => fun
  | [d1, d2, d3, d4] => { results := [.lit (.bool true)], args := [d1, d2, d3, d4] }
  | _ => none }
def schedPicksRow : OpenClaim := { program := "ytihkjpfibogpdaa", sum := "25145d81c700d35f0411063a8cffddc74b6c636ef81b8b8e4ef5b45287ab1a0f", func := "concourse/concourselaw3.SchedPicks", spec := "schedPicks", apart := false }
def SchedPicksSaid : Prop := schedPicksRow.holds Try.pinned (OpenSpec.ofChange schedPicksSpec)

/-- ITS FALSE NEIGHBOUR: 'it returns false'. Refute it at one input. -/
def schedPicksWrong : ChangeSpec := { name := "schedPicks", fn := fun _ => fun
  | [d1, d2, d3, d4] => { results := [.lit (.bool false)], args := [d1, d2, d3, d4] }
  | _ => none }
def SchedPicksWrongFalsely : Prop := schedPicksRow.holds Try.pinned (OpenSpec.ofChange schedPicksWrong)

/- THE SECOND FORM. 'bulk': how many values and letters a reading holds, each counted each time it is reached (what is shared counts as often as it is met; a slice's spare places count too). A statement '..UptoSaid' is the law's where the arguments, and the package variables that the reading takes, are together of bulk at most 1048576: NARROWER than '..Said'. Prove '..Said' where nothing that the law and all that it calls make is longer than what came in: it says more and counts as full. Else prove '..UptoSaid'. A law counts once. -/
mutual
def uptoBulk {H : Type} : DataW H → Nat
  | .lit (.string bytes) => bytes.length + 1
  | .lit _ => 1
  | .nil => 1
  | .ptr d => uptoBulk d + 1
  | .slice elems spare => uptoBulkAll elems + uptoBulkAll spare + 1
  | .agg parts => uptoBulkAll parts + 1
  | .iface _ d => uptoBulk d + 1
  | .map entries => uptoBulkEntries entries + 1
  | .held _ => 1
def uptoBulkAll {H : Type} : List (DataW H) → Nat
  | [] => 0
  | d :: r => uptoBulk d + uptoBulkAll r
def uptoBulkEntries {H : Type} : List (Lit × DataW H) → Nat
  | [] => 0
  | x :: r => uptoBulkEntry x + uptoBulkEntries r
def uptoBulkEntry {H : Type} : Lit × DataW H → Nat
  | (.string bytes, d) => bytes.length + uptoBulk d + 1
  | (_, d) => uptoBulk d + 1
 end
def uptoSmall : (H : Type) → List (DataW H) → Bool := fun _ ds => decide (uptoBulkAll ds ≤ 1048576)
def OpenSpec.upto (s : _root_.Go.ChangeSpec) : _root_.Go.OpenSpec := { _root_.Go.OpenSpec.ofChange s with cond := some uptoSmall }

/-- 'concourselaw0.ConcourseNames', WHERE WHAT IT READS IS OF BULK AT MOST 1048576: true; the input reads as it did. -/
def concourseNamesUptoRow : OpenClaim := { program := "ytihkjpfibogpdaa", sum := "25145d81c700d35f0411063a8cffddc74b6c636ef81b8b8e4ef5b45287ab1a0f", func := "concourse/concourselaw0.ConcourseNames", spec := "concourseNames", apart := false, narrowed := true }
def ConcourseNamesUptoSaid : Prop := concourseNamesUptoRow.holds Try.pinned (OpenSpec.upto concourseNamesSpec)

/-- 'concourselaw18.Sums', WHERE WHAT IT READS IS OF BULK AT MOST 1048576: true; the input reads as it did. -/
def sumsUptoRow : OpenClaim := { program := "ytihkjpfibogpdaa", sum := "25145d81c700d35f0411063a8cffddc74b6c636ef81b8b8e4ef5b45287ab1a0f", func := "concourse/concourselaw18.Sums", spec := "sums", apart := false, narrowed := true }
def SumsUptoSaid : Prop := sumsUptoRow.holds Try.pinned (OpenSpec.upto sumsSpec)

/-- 'concourselaw18.SumOne', WHERE WHAT IT READS IS OF BULK AT MOST 1048576: true; the input reads as it did. -/
def sumOneUptoRow : OpenClaim := { program := "ytihkjpfibogpdaa", sum := "25145d81c700d35f0411063a8cffddc74b6c636ef81b8b8e4ef5b45287ab1a0f", func := "concourse/concourselaw18.SumOne", spec := "sumOne", apart := false, narrowed := true }
def SumOneUptoSaid : Prop := sumOneUptoRow.holds Try.pinned (OpenSpec.upto sumOneSpec)

/-- 'concourselaw18.SumSteps', WHERE WHAT IT READS IS OF BULK AT MOST 1048576: true; the input reads as it did. -/
def sumStepsUptoRow : OpenClaim := { program := "ytihkjpfibogpdaa", sum := "25145d81c700d35f0411063a8cffddc74b6c636ef81b8b8e4ef5b45287ab1a0f", func := "concourse/concourselaw18.SumSteps", spec := "sumSteps", apart := false, narrowed := true }
def SumStepsUptoSaid : Prop := sumStepsUptoRow.holds Try.pinned (OpenSpec.upto sumStepsSpec)

/-- 'concourselaw18.SumTurned', WHERE WHAT IT READS IS OF BULK AT MOST 1048576: true; the input reads as it did. -/
def sumTurnedUptoRow : OpenClaim := { program := "ytihkjpfibogpdaa", sum := "25145d81c700d35f0411063a8cffddc74b6c636ef81b8b8e4ef5b45287ab1a0f", func := "concourse/concourselaw18.SumTurned", spec := "sumTurned", apart := false, narrowed := true }
def SumTurnedUptoSaid : Prop := sumTurnedUptoRow.holds Try.pinned (OpenSpec.upto sumTurnedSpec)

/-- 'concourselaw8.Names', WHERE WHAT IT READS IS OF BULK AT MOST 1048576: true; the input reads as it did. -/
def namesUptoRow : OpenClaim := { program := "ytihkjpfibogpdaa", sum := "25145d81c700d35f0411063a8cffddc74b6c636ef81b8b8e4ef5b45287ab1a0f", func := "concourse/concourselaw8.Names", spec := "names", apart := false, narrowed := true }
def NamesUptoSaid : Prop := namesUptoRow.holds Try.pinned (OpenSpec.upto namesSpec)

/-- 'concourselaw8.NameRunes', WHERE WHAT IT READS IS OF BULK AT MOST 1048576: true; the input reads as it did. -/
def nameRunesUptoRow : OpenClaim := { program := "ytihkjpfibogpdaa", sum := "25145d81c700d35f0411063a8cffddc74b6c636ef81b8b8e4ef5b45287ab1a0f", func := "concourse/concourselaw8.NameRunes", spec := "nameRunes", apart := false, narrowed := true }
def NameRunesUptoSaid : Prop := nameRunesUptoRow.holds Try.pinned (OpenSpec.upto nameRunesSpec)

/-- 'concourselaw8.NameHashes', WHERE WHAT IT READS IS OF BULK AT MOST 1048576: true; the input reads as it did. -/
def nameHashesUptoRow : OpenClaim := { program := "ytihkjpfibogpdaa", sum := "25145d81c700d35f0411063a8cffddc74b6c636ef81b8b8e4ef5b45287ab1a0f", func := "concourse/concourselaw8.NameHashes", spec := "nameHashes", apart := false, narrowed := true }
def NameHashesUptoSaid : Prop := nameHashesUptoRow.holds Try.pinned (OpenSpec.upto nameHashesSpec)

/-- 'concourselaw8.NameMays', WHERE WHAT IT READS IS OF BULK AT MOST 1048576: true; the input reads as it did. -/
def nameMaysUptoRow : OpenClaim := { program := "ytihkjpfibogpdaa", sum := "25145d81c700d35f0411063a8cffddc74b6c636ef81b8b8e4ef5b45287ab1a0f", func := "concourse/concourselaw8.NameMays", spec := "nameMays", apart := false, narrowed := true }
def NameMaysUptoSaid : Prop := nameMaysUptoRow.holds Try.pinned (OpenSpec.upto nameMaysSpec)

/-- 'concourselaw8.NameUtf', WHERE WHAT IT READS IS OF BULK AT MOST 1048576: true; the input reads as it did. -/
def nameUtfUptoRow : OpenClaim := { program := "ytihkjpfibogpdaa", sum := "25145d81c700d35f0411063a8cffddc74b6c636ef81b8b8e4ef5b45287ab1a0f", func := "concourse/concourselaw8.NameUtf", spec := "nameUtf", apart := false, narrowed := true }
def NameUtfUptoSaid : Prop := nameUtfUptoRow.holds Try.pinned (OpenSpec.upto nameUtfSpec)

/-- 'concourselaw8.NameLongs', WHERE WHAT IT READS IS OF BULK AT MOST 1048576: true; the input reads as it did. -/
def nameLongsUptoRow : OpenClaim := { program := "ytihkjpfibogpdaa", sum := "25145d81c700d35f0411063a8cffddc74b6c636ef81b8b8e4ef5b45287ab1a0f", func := "concourse/concourselaw8.NameLongs", spec := "nameLongs", apart := false, narrowed := true }
def NameLongsUptoSaid : Prop := nameLongsUptoRow.holds Try.pinned (OpenSpec.upto nameLongsSpec)

/-- 'concourselaw3.SchedPicks', WHERE WHAT IT READS IS OF BULK AT MOST 1048576: true; the input reads as it did. -/
def schedPicksUptoRow : OpenClaim := { program := "ytihkjpfibogpdaa", sum := "25145d81c700d35f0411063a8cffddc74b6c636ef81b8b8e4ef5b45287ab1a0f", func := "concourse/concourselaw3.SchedPicks", spec := "schedPicks", apart := false, narrowed := true }
def SchedPicksUptoSaid : Prop := schedPicksUptoRow.holds Try.pinned (OpenSpec.upto schedPicksSpec)

end Rows
end Go.Proofs.Ytihkjpfibogpdaa
