/-
  No cell of these rows narrows 'for every input' (looked for: loops, veiled, ifaces, maps, wideKeys, modest, calm, conditions, laid).
  DERIVED. THE GIVEN ROWS OF THIS SEAT. 13 by the template 'for every input the law returns true; each argument reads behind the call as it read before'; 0 by the template 'total and deterministic' (their statements: YtobndcjmjhehjaaTotals.lean).
  GIVEN WITH THE SEED: the statements are not yours to turn. If you find one false, say at which input.
  Laid BY PROGRAM, IN A SANDBOX (cutbox-rows.mjs): the forced cells as the released guide's own fill.sh prints them over the translation ea53ee8c224d9cb7… (all of the seat's roots in one cut). By AI agents, Wed Nov 11 2026. No macro, syntax, notation, axiom, sorry.
-/
import Derived.Test.YtobndcjmjhehjaaChecked
import GoSem.Claim
import GoSem.ClaimJoined
import GoSem.ClaimMapViews
import Derived.JoinedTies
import Derived.KernelRfl
namespace Go.Proofs.Ytobndcjmjhehjaa
/- THE CELL 'sum', in the pinned program and in every row, IS THE sha256 OF THE DUMP (.gsa) THAT YtobndcjmjhehjaaProg.lean LOADS. Nothing in Lean hashes anything: it is a label: what it is worth is what the hold of that sum in a sandbox is worth. -/
noncomputable def Try.pinned : Pinned := { name := "ytobndcjmjhehjaa", sum := "ea53ee8c224d9cb7aa69384afcffa23667dc36f00709fd8146e92ed6664aca1a", checked := Try.checked }
namespace Rows
def none {H : Type} : Left H := { results := [], args := [] }

/-- 'laws.FnBlockNestedLoop': WHATEVER THE INPUT: true; the input reads as it did. -/
def fnBlockNestedLoopSpec : ChangeSpec := { name := "fnBlockNestedLoop", fn := fun _ => fun
  | [d] => { results := [.lit (.bool true)], args := [d] }
  | _ => none }
def fnBlockNestedLoopRow : OpenClaim := { program := "ytobndcjmjhehjaa", sum := "ea53ee8c224d9cb7aa69384afcffa23667dc36f00709fd8146e92ed6664aca1a", func := "loop.example/g01920/laws.FnBlockNestedLoop", spec := "fnBlockNestedLoop", apart := false }
def FnBlockNestedLoopSaid : Prop := fnBlockNestedLoopRow.holds Try.pinned (OpenSpec.ofChange fnBlockNestedLoopSpec)

/-- ITS FALSE NEIGHBOUR: 'it returns false'. Refute it at one input. -/
def fnBlockNestedLoopWrong : ChangeSpec := { name := "fnBlockNestedLoop", fn := fun _ => fun
  | [d] => { results := [.lit (.bool false)], args := [d] }
  | _ => none }
def FnBlockNestedLoopWrongFalsely : Prop := fnBlockNestedLoopRow.holds Try.pinned (OpenSpec.ofChange fnBlockNestedLoopWrong)

/-- 'laws.FnPartitioning': WHATEVER THE INPUT: true; the input reads as it did. -/
def fnPartitioningSpec : ChangeSpec := { name := "fnPartitioning", fn := fun _ => fun
  | [d] => { results := [.lit (.bool true)], args := [d] }
  | _ => none }
def fnPartitioningRow : OpenClaim := { program := "ytobndcjmjhehjaa", sum := "ea53ee8c224d9cb7aa69384afcffa23667dc36f00709fd8146e92ed6664aca1a", func := "loop.example/g01920/laws.FnPartitioning", spec := "fnPartitioning", recurses := true, apart := false }
def FnPartitioningSaid : Prop := fnPartitioningRow.holds Try.pinned (OpenSpec.ofChange fnPartitioningSpec)

/-- ITS FALSE NEIGHBOUR: 'it returns false'. Refute it at one input. -/
def fnPartitioningWrong : ChangeSpec := { name := "fnPartitioning", fn := fun _ => fun
  | [d] => { results := [.lit (.bool false)], args := [d] }
  | _ => none }
def FnPartitioningWrongFalsely : Prop := fnPartitioningRow.holds Try.pinned (OpenSpec.ofChange fnPartitioningWrong)

/-- 'laws.FnExactParseTask': WHATEVER THE INPUT: true; the input reads as it did. -/
def fnExactParseTaskSpec : ChangeSpec := { name := "fnExactParseTask", fn := fun _ => fun
  | [d] => { results := [.lit (.bool true)], args := [d] }
  | _ => none }
def fnExactParseTaskRow : OpenClaim := { program := "ytobndcjmjhehjaa", sum := "ea53ee8c224d9cb7aa69384afcffa23667dc36f00709fd8146e92ed6664aca1a", func := "loop.example/g01920/laws.FnExactParseTask", spec := "fnExactParseTask", recurses := true, apart := false }
def FnExactParseTaskSaid : Prop := fnExactParseTaskRow.holds Try.pinned (OpenSpec.ofChange fnExactParseTaskSpec)

/-- ITS FALSE NEIGHBOUR: 'it returns false'. Refute it at one input. -/
def fnExactParseTaskWrong : ChangeSpec := { name := "fnExactParseTask", fn := fun _ => fun
  | [d] => { results := [.lit (.bool false)], args := [d] }
  | _ => none }
def FnExactParseTaskWrongFalsely : Prop := fnExactParseTaskRow.holds Try.pinned (OpenSpec.ofChange fnExactParseTaskWrong)

/-- 'laws.FnSkewedJoin': WHATEVER THE INPUT: true; the input reads as it did. -/
def fnSkewedJoinSpec : ChangeSpec := { name := "fnSkewedJoin", fn := fun _ => fun
  | [d] => { results := [.lit (.bool true)], args := [d] }
  | _ => none }
def fnSkewedJoinRow : OpenClaim := { program := "ytobndcjmjhehjaa", sum := "ea53ee8c224d9cb7aa69384afcffa23667dc36f00709fd8146e92ed6664aca1a", func := "loop.example/g01920/laws.FnSkewedJoin", spec := "fnSkewedJoin", apart := false }
def FnSkewedJoinSaid : Prop := fnSkewedJoinRow.holds Try.pinned (OpenSpec.ofChange fnSkewedJoinSpec)

/-- ITS FALSE NEIGHBOUR: 'it returns false'. Refute it at one input. -/
def fnSkewedJoinWrong : ChangeSpec := { name := "fnSkewedJoin", fn := fun _ => fun
  | [d] => { results := [.lit (.bool false)], args := [d] }
  | _ => none }
def FnSkewedJoinWrongFalsely : Prop := fnSkewedJoinRow.holds Try.pinned (OpenSpec.ofChange fnSkewedJoinWrong)

/-- 'laws.FnExactParseJoiner': WHATEVER THE INPUT: true; the input reads as it did. -/
def fnExactParseJoinerSpec : ChangeSpec := { name := "fnExactParseJoiner", fn := fun _ => fun
  | [d] => { results := [.lit (.bool true)], args := [d] }
  | _ => none }
def fnExactParseJoinerRow : OpenClaim := { program := "ytobndcjmjhehjaa", sum := "ea53ee8c224d9cb7aa69384afcffa23667dc36f00709fd8146e92ed6664aca1a", func := "loop.example/g01920/laws.FnExactParseJoiner", spec := "fnExactParseJoiner", recurses := true, apart := false }
def FnExactParseJoinerSaid : Prop := fnExactParseJoinerRow.holds Try.pinned (OpenSpec.ofChange fnExactParseJoinerSpec)

/-- ITS FALSE NEIGHBOUR: 'it returns false'. Refute it at one input. -/
def fnExactParseJoinerWrong : ChangeSpec := { name := "fnExactParseJoiner", fn := fun _ => fun
  | [d] => { results := [.lit (.bool false)], args := [d] }
  | _ => none }
def FnExactParseJoinerWrongFalsely : Prop := fnExactParseJoinerRow.holds Try.pinned (OpenSpec.ofChange fnExactParseJoinerWrong)

/-- 'laws.FnTaskRoundTrip': WHATEVER THE INPUT: true; the input reads as it did. -/
def fnTaskRoundTripSpec : ChangeSpec := { name := "fnTaskRoundTrip", fn := fun _ => fun
  | [d] => { results := [.lit (.bool true)], args := [d] }
  | _ => none }
def fnTaskRoundTripRow : OpenClaim := { program := "ytobndcjmjhehjaa", sum := "ea53ee8c224d9cb7aa69384afcffa23667dc36f00709fd8146e92ed6664aca1a", func := "loop.example/g01920/laws.FnTaskRoundTrip", spec := "fnTaskRoundTrip", recurses := true, apart := false }
def FnTaskRoundTripSaid : Prop := fnTaskRoundTripRow.holds Try.pinned (OpenSpec.ofChange fnTaskRoundTripSpec)

/-- ITS FALSE NEIGHBOUR: 'it returns false'. Refute it at one input. -/
def fnTaskRoundTripWrong : ChangeSpec := { name := "fnTaskRoundTrip", fn := fun _ => fun
  | [d] => { results := [.lit (.bool false)], args := [d] }
  | _ => none }
def FnTaskRoundTripWrongFalsely : Prop := fnTaskRoundTripRow.holds Try.pinned (OpenSpec.ofChange fnTaskRoundTripWrong)

/-- 'laws.FnJoinerMemory': WHATEVER THE INPUT: true; the input reads as it did. -/
def fnJoinerMemorySpec : ChangeSpec := { name := "fnJoinerMemory", fn := fun _ => fun
  | [d] => { results := [.lit (.bool true)], args := [d] }
  | _ => none }
def fnJoinerMemoryRow : OpenClaim := { program := "ytobndcjmjhehjaa", sum := "ea53ee8c224d9cb7aa69384afcffa23667dc36f00709fd8146e92ed6664aca1a", func := "loop.example/g01920/laws.FnJoinerMemory", spec := "fnJoinerMemory", apart := false }
def FnJoinerMemorySaid : Prop := fnJoinerMemoryRow.holds Try.pinned (OpenSpec.ofChange fnJoinerMemorySpec)

/-- ITS FALSE NEIGHBOUR: 'it returns false'. Refute it at one input. -/
def fnJoinerMemoryWrong : ChangeSpec := { name := "fnJoinerMemory", fn := fun _ => fun
  | [d] => { results := [.lit (.bool false)], args := [d] }
  | _ => none }
def FnJoinerMemoryWrongFalsely : Prop := fnJoinerMemoryRow.holds Try.pinned (OpenSpec.ofChange fnJoinerMemoryWrong)

/-- 'laws.FnExactStepsToFinish': WHATEVER THE INPUT: true; the input reads as it did. -/
def fnExactStepsToFinishSpec : ChangeSpec := { name := "fnExactStepsToFinish", fn := fun _ => fun
  | [d1, d2] => { results := [.lit (.bool true)], args := [d1, d2] }
  | _ => none }
def fnExactStepsToFinishRow : OpenClaim := { program := "ytobndcjmjhehjaa", sum := "ea53ee8c224d9cb7aa69384afcffa23667dc36f00709fd8146e92ed6664aca1a", func := "loop.example/g01920/laws.FnExactStepsToFinish", spec := "fnExactStepsToFinish", apart := false }
def FnExactStepsToFinishSaid : Prop := fnExactStepsToFinishRow.holds Try.pinned (OpenSpec.ofChange fnExactStepsToFinishSpec)

/-- ITS FALSE NEIGHBOUR: 'it returns false'. Refute it at one input. -/
def fnExactStepsToFinishWrong : ChangeSpec := { name := "fnExactStepsToFinish", fn := fun _ => fun
  | [d1, d2] => { results := [.lit (.bool false)], args := [d1, d2] }
  | _ => none }
def FnExactStepsToFinishWrongFalsely : Prop := fnExactStepsToFinishRow.holds Try.pinned (OpenSpec.ofChange fnExactStepsToFinishWrong)

/-- 'laws.FnJoinUnderGrants': WHATEVER THE INPUT: true; the input reads as it did. -/
def fnJoinUnderGrantsSpec : ChangeSpec := { name := "fnJoinUnderGrants", fn := fun _ => fun
  | [d] => { results := [.lit (.bool true)], args := [d] }
  | _ => none }
def fnJoinUnderGrantsRow : OpenClaim := { program := "ytobndcjmjhehjaa", sum := "ea53ee8c224d9cb7aa69384afcffa23667dc36f00709fd8146e92ed6664aca1a", func := "loop.example/g01920/laws.FnJoinUnderGrants", spec := "fnJoinUnderGrants", apart := false }
def FnJoinUnderGrantsSaid : Prop := fnJoinUnderGrantsRow.holds Try.pinned (OpenSpec.ofChange fnJoinUnderGrantsSpec)

/-- ITS FALSE NEIGHBOUR: 'it returns false'. Refute it at one input. -/
def fnJoinUnderGrantsWrong : ChangeSpec := { name := "fnJoinUnderGrants", fn := fun _ => fun
  | [d] => { results := [.lit (.bool false)], args := [d] }
  | _ => none }
def FnJoinUnderGrantsWrongFalsely : Prop := fnJoinUnderGrantsRow.holds Try.pinned (OpenSpec.ofChange fnJoinUnderGrantsWrong)

/-- 'laws.FnExactRunJoin': WHATEVER THE INPUT: true; the input reads as it did. -/
def fnExactRunJoinSpec : ChangeSpec := { name := "fnExactRunJoin", fn := fun _ => fun
  | [d1, d2, d3, d4] => { results := [.lit (.bool true)], args := [d1, d2, d3, d4] }
  | _ => none }
def fnExactRunJoinRow : OpenClaim := { program := "ytobndcjmjhehjaa", sum := "ea53ee8c224d9cb7aa69384afcffa23667dc36f00709fd8146e92ed6664aca1a", func := "loop.example/g01920/laws.FnExactRunJoin", spec := "fnExactRunJoin", apart := false }
def FnExactRunJoinSaid : Prop := fnExactRunJoinRow.holds Try.pinned (OpenSpec.ofChange fnExactRunJoinSpec)

/-- ITS FALSE NEIGHBOUR: 'it returns false'. Refute it at one input. -/
def fnExactRunJoinWrong : ChangeSpec := { name := "fnExactRunJoin", fn := fun _ => fun
  | [d1, d2, d3, d4] => { results := [.lit (.bool false)], args := [d1, d2, d3, d4] }
  | _ => none }
def FnExactRunJoinWrongFalsely : Prop := fnExactRunJoinRow.holds Try.pinned (OpenSpec.ofChange fnExactRunJoinWrong)

/-- 'laws.FnExactStepJoiner': WHATEVER THE INPUT: true; the input reads as it did. -/
def fnExactStepJoinerSpec : ChangeSpec := { name := "fnExactStepJoiner", fn := fun _ => fun
  | [d1, d2] => { results := [.lit (.bool true)], args := [d1, d2] }
  | _ => none }
def fnExactStepJoinerRow : OpenClaim := { program := "ytobndcjmjhehjaa", sum := "ea53ee8c224d9cb7aa69384afcffa23667dc36f00709fd8146e92ed6664aca1a", func := "loop.example/g01920/laws.FnExactStepJoiner", spec := "fnExactStepJoiner", apart := false }
def FnExactStepJoinerSaid : Prop := fnExactStepJoinerRow.holds Try.pinned (OpenSpec.ofChange fnExactStepJoinerSpec)

/-- ITS FALSE NEIGHBOUR: 'it returns false'. Refute it at one input. -/
def fnExactStepJoinerWrong : ChangeSpec := { name := "fnExactStepJoiner", fn := fun _ => fun
  | [d1, d2] => { results := [.lit (.bool false)], args := [d1, d2] }
  | _ => none }
def FnExactStepJoinerWrongFalsely : Prop := fnExactStepJoinerRow.holds Try.pinned (OpenSpec.ofChange fnExactStepJoinerWrong)

/-- 'laws.FnJoinerTermination': WHATEVER THE INPUT: true; the input reads as it did. -/
def fnJoinerTerminationSpec : ChangeSpec := { name := "fnJoinerTermination", fn := fun _ => fun
  | [d] => { results := [.lit (.bool true)], args := [d] }
  | _ => none }
def fnJoinerTerminationRow : OpenClaim := { program := "ytobndcjmjhehjaa", sum := "ea53ee8c224d9cb7aa69384afcffa23667dc36f00709fd8146e92ed6664aca1a", func := "loop.example/g01920/laws.FnJoinerTermination", spec := "fnJoinerTermination", recurses := true, apart := false }
def FnJoinerTerminationSaid : Prop := fnJoinerTerminationRow.holds Try.pinned (OpenSpec.ofChange fnJoinerTerminationSpec)

/-- ITS FALSE NEIGHBOUR: 'it returns false'. Refute it at one input. -/
def fnJoinerTerminationWrong : ChangeSpec := { name := "fnJoinerTermination", fn := fun _ => fun
  | [d] => { results := [.lit (.bool false)], args := [d] }
  | _ => none }
def FnJoinerTerminationWrongFalsely : Prop := fnJoinerTerminationRow.holds Try.pinned (OpenSpec.ofChange fnJoinerTerminationWrong)

/-- 'laws.FnJoinerRoundTrip': WHATEVER THE INPUT: true; the input reads as it did. -/
def fnJoinerRoundTripSpec : ChangeSpec := { name := "fnJoinerRoundTrip", fn := fun _ => fun
  | [d] => { results := [.lit (.bool true)], args := [d] }
  | _ => none }
def fnJoinerRoundTripRow : OpenClaim := { program := "ytobndcjmjhehjaa", sum := "ea53ee8c224d9cb7aa69384afcffa23667dc36f00709fd8146e92ed6664aca1a", func := "loop.example/g01920/laws.FnJoinerRoundTrip", spec := "fnJoinerRoundTrip", recurses := true, apart := false }
def FnJoinerRoundTripSaid : Prop := fnJoinerRoundTripRow.holds Try.pinned (OpenSpec.ofChange fnJoinerRoundTripSpec)

/-- ITS FALSE NEIGHBOUR: 'it returns false'. Refute it at one input. -/
def fnJoinerRoundTripWrong : ChangeSpec := { name := "fnJoinerRoundTrip", fn := fun _ => fun
  | [d] => { results := [.lit (.bool false)], args := [d] }
  | _ => none }
def FnJoinerRoundTripWrongFalsely : Prop := fnJoinerRoundTripRow.holds Try.pinned (OpenSpec.ofChange fnJoinerRoundTripWrong)

/- THE SECOND FORM. 'bulk': how many values and letters a reading holds, each counted each time it is reached (what is shared counts as often as it is met; a slice's spare places count too). A statement '..UptoSaid' is the law's where the arguments, and the package variables that the reading takes, are together of bulk at most 1048576: NARROWER than '..Said'. Prove '..Said' where nothing that the law and all that it calls make is longer than what came in: it says more and counts as full. Else prove '..UptoSaid'. A law counts once. -/
mutual
def uptoBulk {H : Type} : DataW H → Nat
  | .lit (.string bytes) => bytes.length + 1
  | .lit _ => 1
  | .nil => 1
  | .ptr d => uptoBulk d + 1
  | .slice elems spare => uptoBulkAll elems + uptoBulkAll spare + 1
  | .agg parts => uptoBulkAll parts + 1
  | .iface _ d => uptoBulk d + 1
  | .map entries => uptoBulkEntries entries + 1
  | .held _ => 1
def uptoBulkAll {H : Type} : List (DataW H) → Nat
  | [] => 0
  | d :: r => uptoBulk d + uptoBulkAll r
def uptoBulkEntries {H : Type} : List (Lit × DataW H) → Nat
  | [] => 0
  | x :: r => uptoBulkEntry x + uptoBulkEntries r
def uptoBulkEntry {H : Type} : Lit × DataW H → Nat
  | (.string bytes, d) => bytes.length + uptoBulk d + 1
  | (_, d) => uptoBulk d + 1
 end
def uptoSmall : (H : Type) → List (DataW H) → Bool := fun _ ds => decide (uptoBulkAll ds ≤ 1048576)
def OpenSpec.upto (s : _root_.Go.ChangeSpec) : _root_.Go.OpenSpec := { _root_.Go.OpenSpec.ofChange s with cond := some uptoSmall }

/-- 'laws.FnBlockNestedLoop', WHERE WHAT IT READS IS OF BULK AT MOST 1048576: true; the input reads as it did. -/
def fnBlockNestedLoopUptoRow : OpenClaim := { program := "ytobndcjmjhehjaa", sum := "ea53ee8c224d9cb7aa69384afcffa23667dc36f00709fd8146e92ed6664aca1a", func := "loop.example/g01920/laws.FnBlockNestedLoop", spec := "fnBlockNestedLoop", apart := false, narrowed := true }
def FnBlockNestedLoopUptoSaid : Prop := fnBlockNestedLoopUptoRow.holds Try.pinned (OpenSpec.upto fnBlockNestedLoopSpec)

/-- 'laws.FnPartitioning', WHERE WHAT IT READS IS OF BULK AT MOST 1048576: true; the input reads as it did. -/
def fnPartitioningUptoRow : OpenClaim := { program := "ytobndcjmjhehjaa", sum := "ea53ee8c224d9cb7aa69384afcffa23667dc36f00709fd8146e92ed6664aca1a", func := "loop.example/g01920/laws.FnPartitioning", spec := "fnPartitioning", recurses := true, apart := false, narrowed := true }
def FnPartitioningUptoSaid : Prop := fnPartitioningUptoRow.holds Try.pinned (OpenSpec.upto fnPartitioningSpec)

/-- 'laws.FnExactParseTask', WHERE WHAT IT READS IS OF BULK AT MOST 1048576: true; the input reads as it did. -/
def fnExactParseTaskUptoRow : OpenClaim := { program := "ytobndcjmjhehjaa", sum := "ea53ee8c224d9cb7aa69384afcffa23667dc36f00709fd8146e92ed6664aca1a", func := "loop.example/g01920/laws.FnExactParseTask", spec := "fnExactParseTask", recurses := true, apart := false, narrowed := true }
def FnExactParseTaskUptoSaid : Prop := fnExactParseTaskUptoRow.holds Try.pinned (OpenSpec.upto fnExactParseTaskSpec)

/-- 'laws.FnSkewedJoin', WHERE WHAT IT READS IS OF BULK AT MOST 1048576: true; the input reads as it did. -/
def fnSkewedJoinUptoRow : OpenClaim := { program := "ytobndcjmjhehjaa", sum := "ea53ee8c224d9cb7aa69384afcffa23667dc36f00709fd8146e92ed6664aca1a", func := "loop.example/g01920/laws.FnSkewedJoin", spec := "fnSkewedJoin", apart := false, narrowed := true }
def FnSkewedJoinUptoSaid : Prop := fnSkewedJoinUptoRow.holds Try.pinned (OpenSpec.upto fnSkewedJoinSpec)

/-- 'laws.FnExactParseJoiner', WHERE WHAT IT READS IS OF BULK AT MOST 1048576: true; the input reads as it did. -/
def fnExactParseJoinerUptoRow : OpenClaim := { program := "ytobndcjmjhehjaa", sum := "ea53ee8c224d9cb7aa69384afcffa23667dc36f00709fd8146e92ed6664aca1a", func := "loop.example/g01920/laws.FnExactParseJoiner", spec := "fnExactParseJoiner", recurses := true, apart := false, narrowed := true }
def FnExactParseJoinerUptoSaid : Prop := fnExactParseJoinerUptoRow.holds Try.pinned (OpenSpec.upto fnExactParseJoinerSpec)

/-- 'laws.FnTaskRoundTrip', WHERE WHAT IT READS IS OF BULK AT MOST 1048576: true; the input reads as it did. -/
def fnTaskRoundTripUptoRow : OpenClaim := { program := "ytobndcjmjhehjaa", sum := "ea53ee8c224d9cb7aa69384afcffa23667dc36f00709fd8146e92ed6664aca1a", func := "loop.example/g01920/laws.FnTaskRoundTrip", spec := "fnTaskRoundTrip", recurses := true, apart := false, narrowed := true }
def FnTaskRoundTripUptoSaid : Prop := fnTaskRoundTripUptoRow.holds Try.pinned (OpenSpec.upto fnTaskRoundTripSpec)

/-- 'laws.FnJoinerMemory', WHERE WHAT IT READS IS OF BULK AT MOST 1048576: true; the input reads as it did. -/
def fnJoinerMemoryUptoRow : OpenClaim := { program := "ytobndcjmjhehjaa", sum := "ea53ee8c224d9cb7aa69384afcffa23667dc36f00709fd8146e92ed6664aca1a", func := "loop.example/g01920/laws.FnJoinerMemory", spec := "fnJoinerMemory", apart := false, narrowed := true }
def FnJoinerMemoryUptoSaid : Prop := fnJoinerMemoryUptoRow.holds Try.pinned (OpenSpec.upto fnJoinerMemorySpec)

/-- 'laws.FnExactStepsToFinish', WHERE WHAT IT READS IS OF BULK AT MOST 1048576: true; the input reads as it did. -/
def fnExactStepsToFinishUptoRow : OpenClaim := { program := "ytobndcjmjhehjaa", sum := "ea53ee8c224d9cb7aa69384afcffa23667dc36f00709fd8146e92ed6664aca1a", func := "loop.example/g01920/laws.FnExactStepsToFinish", spec := "fnExactStepsToFinish", apart := false, narrowed := true }
def FnExactStepsToFinishUptoSaid : Prop := fnExactStepsToFinishUptoRow.holds Try.pinned (OpenSpec.upto fnExactStepsToFinishSpec)

/-- 'laws.FnJoinUnderGrants', WHERE WHAT IT READS IS OF BULK AT MOST 1048576: true; the input reads as it did. -/
def fnJoinUnderGrantsUptoRow : OpenClaim := { program := "ytobndcjmjhehjaa", sum := "ea53ee8c224d9cb7aa69384afcffa23667dc36f00709fd8146e92ed6664aca1a", func := "loop.example/g01920/laws.FnJoinUnderGrants", spec := "fnJoinUnderGrants", apart := false, narrowed := true }
def FnJoinUnderGrantsUptoSaid : Prop := fnJoinUnderGrantsUptoRow.holds Try.pinned (OpenSpec.upto fnJoinUnderGrantsSpec)

/-- 'laws.FnExactRunJoin', WHERE WHAT IT READS IS OF BULK AT MOST 1048576: true; the input reads as it did. -/
def fnExactRunJoinUptoRow : OpenClaim := { program := "ytobndcjmjhehjaa", sum := "ea53ee8c224d9cb7aa69384afcffa23667dc36f00709fd8146e92ed6664aca1a", func := "loop.example/g01920/laws.FnExactRunJoin", spec := "fnExactRunJoin", apart := false, narrowed := true }
def FnExactRunJoinUptoSaid : Prop := fnExactRunJoinUptoRow.holds Try.pinned (OpenSpec.upto fnExactRunJoinSpec)

/-- 'laws.FnExactStepJoiner', WHERE WHAT IT READS IS OF BULK AT MOST 1048576: true; the input reads as it did. -/
def fnExactStepJoinerUptoRow : OpenClaim := { program := "ytobndcjmjhehjaa", sum := "ea53ee8c224d9cb7aa69384afcffa23667dc36f00709fd8146e92ed6664aca1a", func := "loop.example/g01920/laws.FnExactStepJoiner", spec := "fnExactStepJoiner", apart := false, narrowed := true }
def FnExactStepJoinerUptoSaid : Prop := fnExactStepJoinerUptoRow.holds Try.pinned (OpenSpec.upto fnExactStepJoinerSpec)

/-- 'laws.FnJoinerTermination', WHERE WHAT IT READS IS OF BULK AT MOST 1048576: true; the input reads as it did. -/
def fnJoinerTerminationUptoRow : OpenClaim := { program := "ytobndcjmjhehjaa", sum := "ea53ee8c224d9cb7aa69384afcffa23667dc36f00709fd8146e92ed6664aca1a", func := "loop.example/g01920/laws.FnJoinerTermination", spec := "fnJoinerTermination", recurses := true, apart := false, narrowed := true }
def FnJoinerTerminationUptoSaid : Prop := fnJoinerTerminationUptoRow.holds Try.pinned (OpenSpec.upto fnJoinerTerminationSpec)

/-- 'laws.FnJoinerRoundTrip', WHERE WHAT IT READS IS OF BULK AT MOST 1048576: true; the input reads as it did. -/
def fnJoinerRoundTripUptoRow : OpenClaim := { program := "ytobndcjmjhehjaa", sum := "ea53ee8c224d9cb7aa69384afcffa23667dc36f00709fd8146e92ed6664aca1a", func := "loop.example/g01920/laws.FnJoinerRoundTrip", spec := "fnJoinerRoundTrip", recurses := true, apart := false, narrowed := true }
def FnJoinerRoundTripUptoSaid : Prop := fnJoinerRoundTripUptoRow.holds Try.pinned (OpenSpec.upto fnJoinerRoundTripSpec)

end Rows
end Go.Proofs.Ytobndcjmjhehjaa
