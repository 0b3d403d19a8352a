/-
  No cell of these rows narrows 'for every input' (looked for: loops, veiled, ifaces, maps, wideKeys, modest, calm, conditions, laid).
  DERIVED. THE GIVEN ROWS OF THIS SEAT. 9 by the template 'for every input the law returns true; each argument reads behind the call as it read before'; 0 by the template 'total and deterministic' (their statements: YtphkghnppcfdpaaTotals.lean).
  GIVEN WITH THE SEED: the statements are not yours to turn. If you find one false, say at which input.
  Laid BY PROGRAM, IN A SANDBOX (cutbox-rows.mjs): the forced cells as the released guide's own fill.sh prints them over the translation 4bbe40deded58c62… (all of the seat's roots in one cut). By AI agents, Wed Nov 11 2026. No macro, syntax, notation, axiom, sorry.
-/
import Derived.Test.YtphkghnppcfdpaaChecked
import GoSem.Claim
import GoSem.ClaimJoined
import GoSem.ClaimMapViews
import Derived.JoinedTies
import Derived.KernelRfl
namespace Go.Proofs.Ytphkghnppcfdpaa
/- THE CELL 'sum', in the pinned program and in every row, IS THE sha256 OF THE DUMP (.gsa) THAT YtphkghnppcfdpaaProg.lean LOADS. Nothing in Lean hashes anything: it is a label: what it is worth is what the hold of that sum in a sandbox is worth. -/
noncomputable def Try.pinned : Pinned := { name := "ytphkghnppcfdpaa", sum := "4bbe40deded58c62d9298f6ddfa987091ff33720baf0a1c15c1f627eff3fa27a", checked := Try.checked }
namespace Rows
def none {H : Type} : Left H := { results := [], args := [] }

/-- 'laws.FnExactParseAggregator': WHATEVER THE INPUT: true; the input reads as it did. -/
def fnExactParseAggregatorSpec : ChangeSpec := { name := "fnExactParseAggregator", fn := fun _ => fun
  | [d] => { results := [.lit (.bool true)], args := [d] }
  | _ => none }
def fnExactParseAggregatorRow : OpenClaim := { program := "ytphkghnppcfdpaa", sum := "4bbe40deded58c62d9298f6ddfa987091ff33720baf0a1c15c1f627eff3fa27a", func := "loop.example/g01920/laws.FnExactParseAggregator", spec := "fnExactParseAggregator", recurses := true, apart := false }
def FnExactParseAggregatorSaid : Prop := fnExactParseAggregatorRow.holds Try.pinned (OpenSpec.ofChange fnExactParseAggregatorSpec)

/-- ITS FALSE NEIGHBOUR: 'it returns false'. Refute it at one input. -/
def fnExactParseAggregatorWrong : ChangeSpec := { name := "fnExactParseAggregator", fn := fun _ => fun
  | [d] => { results := [.lit (.bool false)], args := [d] }
  | _ => none }
def FnExactParseAggregatorWrongFalsely : Prop := fnExactParseAggregatorRow.holds Try.pinned (OpenSpec.ofChange fnExactParseAggregatorWrong)

/-- 'laws.FnExactRollupGroups': WHATEVER THE INPUT: true; the input reads as it did. -/
def fnExactRollupGroupsSpec : ChangeSpec := { name := "fnExactRollupGroups", fn := fun _ => fun
  | [d] => { results := [.lit (.bool true)], args := [d] }
  | _ => none }
def fnExactRollupGroupsRow : OpenClaim := { program := "ytphkghnppcfdpaa", sum := "4bbe40deded58c62d9298f6ddfa987091ff33720baf0a1c15c1f627eff3fa27a", func := "loop.example/g01920/laws.FnExactRollupGroups", spec := "fnExactRollupGroups", unfollowed := true, recurses := true, apart := false }
def FnExactRollupGroupsSaid : Prop := fnExactRollupGroupsRow.holds Try.pinned (OpenSpec.ofChange fnExactRollupGroupsSpec)

/-- ITS FALSE NEIGHBOUR: 'it returns false'. Refute it at one input. -/
def fnExactRollupGroupsWrong : ChangeSpec := { name := "fnExactRollupGroups", fn := fun _ => fun
  | [d] => { results := [.lit (.bool false)], args := [d] }
  | _ => none }
def FnExactRollupGroupsWrongFalsely : Prop := fnExactRollupGroupsRow.holds Try.pinned (OpenSpec.ofChange fnExactRollupGroupsWrong)

/-- 'laws.FnExactRollupRows': WHATEVER THE INPUT: true; the input reads as it did. -/
def fnExactRollupRowsSpec : ChangeSpec := { name := "fnExactRollupRows", fn := fun _ => fun
  | [d] => { results := [.lit (.bool true)], args := [d] }
  | _ => none }
def fnExactRollupRowsRow : OpenClaim := { program := "ytphkghnppcfdpaa", sum := "4bbe40deded58c62d9298f6ddfa987091ff33720baf0a1c15c1f627eff3fa27a", func := "loop.example/g01920/laws.FnExactRollupRows", spec := "fnExactRollupRows", unfollowed := true, recurses := true, apart := false }
def FnExactRollupRowsSaid : Prop := fnExactRollupRowsRow.holds Try.pinned (OpenSpec.ofChange fnExactRollupRowsSpec)

/-- ITS FALSE NEIGHBOUR: 'it returns false'. Refute it at one input. -/
def fnExactRollupRowsWrong : ChangeSpec := { name := "fnExactRollupRows", fn := fun _ => fun
  | [d] => { results := [.lit (.bool false)], args := [d] }
  | _ => none }
def FnExactRollupRowsWrongFalsely : Prop := fnExactRollupRowsRow.holds Try.pinned (OpenSpec.ofChange fnExactRollupRowsWrong)

/-- 'laws.FnRollup': WHATEVER THE INPUT: true; the input reads as it did. -/
def fnRollupSpec : ChangeSpec := { name := "fnRollup", fn := fun _ => fun
  | [d] => { results := [.lit (.bool true)], args := [d] }
  | _ => none }
def fnRollupRow : OpenClaim := { program := "ytphkghnppcfdpaa", sum := "4bbe40deded58c62d9298f6ddfa987091ff33720baf0a1c15c1f627eff3fa27a", func := "loop.example/g01920/laws.FnRollup", spec := "fnRollup", unfollowed := true, recurses := true, apart := false }
def FnRollupSaid : Prop := fnRollupRow.holds Try.pinned (OpenSpec.ofChange fnRollupSpec)

/-- ITS FALSE NEIGHBOUR: 'it returns false'. Refute it at one input. -/
def fnRollupWrong : ChangeSpec := { name := "fnRollup", fn := fun _ => fun
  | [d] => { results := [.lit (.bool false)], args := [d] }
  | _ => none }
def FnRollupWrongFalsely : Prop := fnRollupRow.holds Try.pinned (OpenSpec.ofChange fnRollupWrong)

/-- 'laws.FnAggregatorRoundTrip': WHATEVER THE INPUT: true; the input reads as it did. -/
def fnAggregatorRoundTripSpec : ChangeSpec := { name := "fnAggregatorRoundTrip", fn := fun _ => fun
  | [d] => { results := [.lit (.bool true)], args := [d] }
  | _ => none }
def fnAggregatorRoundTripRow : OpenClaim := { program := "ytphkghnppcfdpaa", sum := "4bbe40deded58c62d9298f6ddfa987091ff33720baf0a1c15c1f627eff3fa27a", func := "loop.example/g01920/laws.FnAggregatorRoundTrip", spec := "fnAggregatorRoundTrip", recurses := true, apart := false }
def FnAggregatorRoundTripSaid : Prop := fnAggregatorRoundTripRow.holds Try.pinned (OpenSpec.ofChange fnAggregatorRoundTripSpec)

/-- ITS FALSE NEIGHBOUR: 'it returns false'. Refute it at one input. -/
def fnAggregatorRoundTripWrong : ChangeSpec := { name := "fnAggregatorRoundTrip", fn := fun _ => fun
  | [d] => { results := [.lit (.bool false)], args := [d] }
  | _ => none }
def FnAggregatorRoundTripWrongFalsely : Prop := fnAggregatorRoundTripRow.holds Try.pinned (OpenSpec.ofChange fnAggregatorRoundTripWrong)

/-- 'laws.FnAggregatorMemory': WHATEVER THE INPUT: true; the input reads as it did. -/
def fnAggregatorMemorySpec : ChangeSpec := { name := "fnAggregatorMemory", fn := fun _ => fun
  | [d] => { results := [.lit (.bool true)], args := [d] }
  | _ => none }
def fnAggregatorMemoryRow : OpenClaim := { program := "ytphkghnppcfdpaa", sum := "4bbe40deded58c62d9298f6ddfa987091ff33720baf0a1c15c1f627eff3fa27a", func := "loop.example/g01920/laws.FnAggregatorMemory", spec := "fnAggregatorMemory", unfollowed := true, recurses := true, apart := false }
def FnAggregatorMemorySaid : Prop := fnAggregatorMemoryRow.holds Try.pinned (OpenSpec.ofChange fnAggregatorMemorySpec)

/-- ITS FALSE NEIGHBOUR: 'it returns false'. Refute it at one input. -/
def fnAggregatorMemoryWrong : ChangeSpec := { name := "fnAggregatorMemory", fn := fun _ => fun
  | [d] => { results := [.lit (.bool false)], args := [d] }
  | _ => none }
def FnAggregatorMemoryWrongFalsely : Prop := fnAggregatorMemoryRow.holds Try.pinned (OpenSpec.ofChange fnAggregatorMemoryWrong)

/-- 'laws.FnGroupUnderGrants': WHATEVER THE INPUT: true; the input reads as it did. -/
def fnGroupUnderGrantsSpec : ChangeSpec := { name := "fnGroupUnderGrants", fn := fun _ => fun
  | [d] => { results := [.lit (.bool true)], args := [d] }
  | _ => none }
def fnGroupUnderGrantsRow : OpenClaim := { program := "ytphkghnppcfdpaa", sum := "4bbe40deded58c62d9298f6ddfa987091ff33720baf0a1c15c1f627eff3fa27a", func := "loop.example/g01920/laws.FnGroupUnderGrants", spec := "fnGroupUnderGrants", unfollowed := true, recurses := true, apart := false }
def FnGroupUnderGrantsSaid : Prop := fnGroupUnderGrantsRow.holds Try.pinned (OpenSpec.ofChange fnGroupUnderGrantsSpec)

/-- ITS FALSE NEIGHBOUR: 'it returns false'. Refute it at one input. -/
def fnGroupUnderGrantsWrong : ChangeSpec := { name := "fnGroupUnderGrants", fn := fun _ => fun
  | [d] => { results := [.lit (.bool false)], args := [d] }
  | _ => none }
def FnGroupUnderGrantsWrongFalsely : Prop := fnGroupUnderGrantsRow.holds Try.pinned (OpenSpec.ofChange fnGroupUnderGrantsWrong)

/-- 'laws.FnExactRunGroup': WHATEVER THE INPUT: true; the input reads as it did. -/
def fnExactRunGroupSpec : ChangeSpec := { name := "fnExactRunGroup", fn := fun _ => fun
  | [d1, d2, d3] => { results := [.lit (.bool true)], args := [d1, d2, d3] }
  | _ => none }
def fnExactRunGroupRow : OpenClaim := { program := "ytphkghnppcfdpaa", sum := "4bbe40deded58c62d9298f6ddfa987091ff33720baf0a1c15c1f627eff3fa27a", func := "loop.example/g01920/laws.FnExactRunGroup", spec := "fnExactRunGroup", unfollowed := true, recurses := true, apart := false }
def FnExactRunGroupSaid : Prop := fnExactRunGroupRow.holds Try.pinned (OpenSpec.ofChange fnExactRunGroupSpec)

/-- ITS FALSE NEIGHBOUR: 'it returns false'. Refute it at one input. -/
def fnExactRunGroupWrong : ChangeSpec := { name := "fnExactRunGroup", fn := fun _ => fun
  | [d1, d2, d3] => { results := [.lit (.bool false)], args := [d1, d2, d3] }
  | _ => none }
def FnExactRunGroupWrongFalsely : Prop := fnExactRunGroupRow.holds Try.pinned (OpenSpec.ofChange fnExactRunGroupWrong)

/-- 'laws.FnExactStepAggregator': WHATEVER THE INPUT: true; the input reads as it did. -/
def fnExactStepAggregatorSpec : ChangeSpec := { name := "fnExactStepAggregator", fn := fun _ => fun
  | [d1, d2] => { results := [.lit (.bool true)], args := [d1, d2] }
  | _ => none }
def fnExactStepAggregatorRow : OpenClaim := { program := "ytphkghnppcfdpaa", sum := "4bbe40deded58c62d9298f6ddfa987091ff33720baf0a1c15c1f627eff3fa27a", func := "loop.example/g01920/laws.FnExactStepAggregator", spec := "fnExactStepAggregator", unfollowed := true, recurses := true, apart := false }
def FnExactStepAggregatorSaid : Prop := fnExactStepAggregatorRow.holds Try.pinned (OpenSpec.ofChange fnExactStepAggregatorSpec)

/-- ITS FALSE NEIGHBOUR: 'it returns false'. Refute it at one input. -/
def fnExactStepAggregatorWrong : ChangeSpec := { name := "fnExactStepAggregator", fn := fun _ => fun
  | [d1, d2] => { results := [.lit (.bool false)], args := [d1, d2] }
  | _ => none }
def FnExactStepAggregatorWrongFalsely : Prop := fnExactStepAggregatorRow.holds Try.pinned (OpenSpec.ofChange fnExactStepAggregatorWrong)

/- THE SECOND FORM. 'bulk': how many values and letters a reading holds, each counted each time it is reached (what is shared counts as often as it is met; a slice's spare places count too). A statement '..UptoSaid' is the law's where the arguments, and the package variables that the reading takes, are together of bulk at most 1048576: NARROWER than '..Said'. Prove '..Said' where nothing that the law and all that it calls make is longer than what came in: it says more and counts as full. Else prove '..UptoSaid'. A law counts once. -/
mutual
def uptoBulk {H : Type} : DataW H → Nat
  | .lit (.string bytes) => bytes.length + 1
  | .lit _ => 1
  | .nil => 1
  | .ptr d => uptoBulk d + 1
  | .slice elems spare => uptoBulkAll elems + uptoBulkAll spare + 1
  | .agg parts => uptoBulkAll parts + 1
  | .iface _ d => uptoBulk d + 1
  | .map entries => uptoBulkEntries entries + 1
  | .held _ => 1
def uptoBulkAll {H : Type} : List (DataW H) → Nat
  | [] => 0
  | d :: r => uptoBulk d + uptoBulkAll r
def uptoBulkEntries {H : Type} : List (Lit × DataW H) → Nat
  | [] => 0
  | x :: r => uptoBulkEntry x + uptoBulkEntries r
def uptoBulkEntry {H : Type} : Lit × DataW H → Nat
  | (.string bytes, d) => bytes.length + uptoBulk d + 1
  | (_, d) => uptoBulk d + 1
 end
def uptoSmall : (H : Type) → List (DataW H) → Bool := fun _ ds => decide (uptoBulkAll ds ≤ 1048576)
def OpenSpec.upto (s : _root_.Go.ChangeSpec) : _root_.Go.OpenSpec := { _root_.Go.OpenSpec.ofChange s with cond := some uptoSmall }

/-- 'laws.FnExactParseAggregator', WHERE WHAT IT READS IS OF BULK AT MOST 1048576: true; the input reads as it did. -/
def fnExactParseAggregatorUptoRow : OpenClaim := { program := "ytphkghnppcfdpaa", sum := "4bbe40deded58c62d9298f6ddfa987091ff33720baf0a1c15c1f627eff3fa27a", func := "loop.example/g01920/laws.FnExactParseAggregator", spec := "fnExactParseAggregator", recurses := true, apart := false, narrowed := true }
def FnExactParseAggregatorUptoSaid : Prop := fnExactParseAggregatorUptoRow.holds Try.pinned (OpenSpec.upto fnExactParseAggregatorSpec)

/-- 'laws.FnExactRollupGroups', WHERE WHAT IT READS IS OF BULK AT MOST 1048576: true; the input reads as it did. -/
def fnExactRollupGroupsUptoRow : OpenClaim := { program := "ytphkghnppcfdpaa", sum := "4bbe40deded58c62d9298f6ddfa987091ff33720baf0a1c15c1f627eff3fa27a", func := "loop.example/g01920/laws.FnExactRollupGroups", spec := "fnExactRollupGroups", unfollowed := true, recurses := true, apart := false, narrowed := true }
def FnExactRollupGroupsUptoSaid : Prop := fnExactRollupGroupsUptoRow.holds Try.pinned (OpenSpec.upto fnExactRollupGroupsSpec)

/-- 'laws.FnExactRollupRows', WHERE WHAT IT READS IS OF BULK AT MOST 1048576: true; the input reads as it did. -/
def fnExactRollupRowsUptoRow : OpenClaim := { program := "ytphkghnppcfdpaa", sum := "4bbe40deded58c62d9298f6ddfa987091ff33720baf0a1c15c1f627eff3fa27a", func := "loop.example/g01920/laws.FnExactRollupRows", spec := "fnExactRollupRows", unfollowed := true, recurses := true, apart := false, narrowed := true }
def FnExactRollupRowsUptoSaid : Prop := fnExactRollupRowsUptoRow.holds Try.pinned (OpenSpec.upto fnExactRollupRowsSpec)

/-- 'laws.FnRollup', WHERE WHAT IT READS IS OF BULK AT MOST 1048576: true; the input reads as it did. -/
def fnRollupUptoRow : OpenClaim := { program := "ytphkghnppcfdpaa", sum := "4bbe40deded58c62d9298f6ddfa987091ff33720baf0a1c15c1f627eff3fa27a", func := "loop.example/g01920/laws.FnRollup", spec := "fnRollup", unfollowed := true, recurses := true, apart := false, narrowed := true }
def FnRollupUptoSaid : Prop := fnRollupUptoRow.holds Try.pinned (OpenSpec.upto fnRollupSpec)

/-- 'laws.FnAggregatorRoundTrip', WHERE WHAT IT READS IS OF BULK AT MOST 1048576: true; the input reads as it did. -/
def fnAggregatorRoundTripUptoRow : OpenClaim := { program := "ytphkghnppcfdpaa", sum := "4bbe40deded58c62d9298f6ddfa987091ff33720baf0a1c15c1f627eff3fa27a", func := "loop.example/g01920/laws.FnAggregatorRoundTrip", spec := "fnAggregatorRoundTrip", recurses := true, apart := false, narrowed := true }
def FnAggregatorRoundTripUptoSaid : Prop := fnAggregatorRoundTripUptoRow.holds Try.pinned (OpenSpec.upto fnAggregatorRoundTripSpec)

/-- 'laws.FnAggregatorMemory', WHERE WHAT IT READS IS OF BULK AT MOST 1048576: true; the input reads as it did. -/
def fnAggregatorMemoryUptoRow : OpenClaim := { program := "ytphkghnppcfdpaa", sum := "4bbe40deded58c62d9298f6ddfa987091ff33720baf0a1c15c1f627eff3fa27a", func := "loop.example/g01920/laws.FnAggregatorMemory", spec := "fnAggregatorMemory", unfollowed := true, recurses := true, apart := false, narrowed := true }
def FnAggregatorMemoryUptoSaid : Prop := fnAggregatorMemoryUptoRow.holds Try.pinned (OpenSpec.upto fnAggregatorMemorySpec)

/-- 'laws.FnGroupUnderGrants', WHERE WHAT IT READS IS OF BULK AT MOST 1048576: true; the input reads as it did. -/
def fnGroupUnderGrantsUptoRow : OpenClaim := { program := "ytphkghnppcfdpaa", sum := "4bbe40deded58c62d9298f6ddfa987091ff33720baf0a1c15c1f627eff3fa27a", func := "loop.example/g01920/laws.FnGroupUnderGrants", spec := "fnGroupUnderGrants", unfollowed := true, recurses := true, apart := false, narrowed := true }
def FnGroupUnderGrantsUptoSaid : Prop := fnGroupUnderGrantsUptoRow.holds Try.pinned (OpenSpec.upto fnGroupUnderGrantsSpec)

/-- 'laws.FnExactRunGroup', WHERE WHAT IT READS IS OF BULK AT MOST 1048576: true; the input reads as it did. -/
def fnExactRunGroupUptoRow : OpenClaim := { program := "ytphkghnppcfdpaa", sum := "4bbe40deded58c62d9298f6ddfa987091ff33720baf0a1c15c1f627eff3fa27a", func := "loop.example/g01920/laws.FnExactRunGroup", spec := "fnExactRunGroup", unfollowed := true, recurses := true, apart := false, narrowed := true }
def FnExactRunGroupUptoSaid : Prop := fnExactRunGroupUptoRow.holds Try.pinned (OpenSpec.upto fnExactRunGroupSpec)

/-- 'laws.FnExactStepAggregator', WHERE WHAT IT READS IS OF BULK AT MOST 1048576: true; the input reads as it did. -/
def fnExactStepAggregatorUptoRow : OpenClaim := { program := "ytphkghnppcfdpaa", sum := "4bbe40deded58c62d9298f6ddfa987091ff33720baf0a1c15c1f627eff3fa27a", func := "loop.example/g01920/laws.FnExactStepAggregator", spec := "fnExactStepAggregator", unfollowed := true, recurses := true, apart := false, narrowed := true }
def FnExactStepAggregatorUptoSaid : Prop := fnExactStepAggregatorUptoRow.holds Try.pinned (OpenSpec.upto fnExactStepAggregatorSpec)

end Rows
end Go.Proofs.Ytphkghnppcfdpaa
