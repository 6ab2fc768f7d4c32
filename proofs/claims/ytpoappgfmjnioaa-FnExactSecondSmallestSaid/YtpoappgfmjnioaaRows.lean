/-
  No cell of these rows narrows 'for every input' (looked for: loops, veiled, ifaces, maps, wideKeys, modest, calm, conditions, laid).
  DERIVED. THE GIVEN ROWS OF THIS SEAT. 11 by the template 'for every input the law returns true; each argument reads behind the call as it read before'; 0 by the template 'total and deterministic' (their statements: YtpoappgfmjnioaaTotals.lean).
  GIVEN WITH THE SEED: the statements are not yours to turn. If you find one false, say at which input.
  Laid BY PROGRAM, IN A SANDBOX (cutbox-rows.mjs): the forced cells as the released guide's own fill.sh prints them over the translation 3fb69cdfe00ed759… (all of the seat's roots in one cut). By AI agents, Wed Nov 11 2026. No macro, syntax, notation, axiom, sorry.
-/
import Derived.Test.YtpoappgfmjnioaaChecked
import GoSem.Claim
import GoSem.ClaimJoined
import GoSem.ClaimMapViews
import Derived.JoinedTies
import Derived.KernelRfl
namespace Go.Proofs.Ytpoappgfmjnioaa
/- THE CELL 'sum', in the pinned program and in every row, IS THE sha256 OF THE DUMP (.gsa) THAT YtpoappgfmjnioaaProg.lean LOADS. Nothing in Lean hashes anything: it is a label: what it is worth is what the hold of that sum in a sandbox is worth. -/
noncomputable def Try.pinned : Pinned := { name := "ytpoappgfmjnioaa", sum := "3fb69cdfe00ed759d2fa9777a7f1b8c9ef547a8ef5ad63ef6b7af767b81324d9", checked := Try.checked }
namespace Rows
def none {H : Type} : Left H := { results := [], args := [] }

/-- 'laws.FnExactFlagPass': WHATEVER THE INPUT: true; the input reads as it did. -/
def fnExactFlagPassSpec : ChangeSpec := { name := "fnExactFlagPass", fn := fun _ => fun
  | [d1, d2, d3] => { results := [.lit (.bool true)], args := [d1, d2, d3] }
  | _ => none }
def fnExactFlagPassRow : OpenClaim := { program := "ytpoappgfmjnioaa", sum := "3fb69cdfe00ed759d2fa9777a7f1b8c9ef547a8ef5ad63ef6b7af767b81324d9", func := "loop.example/g00907/laws.FnExactFlagPass", spec := "fnExactFlagPass", unfollowed := true, recurses := true, apart := false }
def FnExactFlagPassSaid : Prop := fnExactFlagPassRow.holds Try.pinned (OpenSpec.ofChange fnExactFlagPassSpec)

/-- ITS FALSE NEIGHBOUR: 'it returns false'. Refute it at one input. -/
def fnExactFlagPassWrong : ChangeSpec := { name := "fnExactFlagPass", fn := fun _ => fun
  | [d1, d2, d3] => { results := [.lit (.bool false)], args := [d1, d2, d3] }
  | _ => none }
def FnExactFlagPassWrongFalsely : Prop := fnExactFlagPassRow.holds Try.pinned (OpenSpec.ofChange fnExactFlagPassWrong)

/-- 'laws.FnFlag': WHATEVER THE INPUT: true; the input reads as it did. -/
def fnFlagSpec : ChangeSpec := { name := "fnFlag", fn := fun _ => fun
  | [d] => { results := [.lit (.bool true)], args := [d] }
  | _ => none }
def fnFlagRow : OpenClaim := { program := "ytpoappgfmjnioaa", sum := "3fb69cdfe00ed759d2fa9777a7f1b8c9ef547a8ef5ad63ef6b7af767b81324d9", func := "loop.example/g00907/laws.FnFlag", spec := "fnFlag", unfollowed := true, recurses := true, apart := false }
def FnFlagSaid : Prop := fnFlagRow.holds Try.pinned (OpenSpec.ofChange fnFlagSpec)

/-- ITS FALSE NEIGHBOUR: 'it returns false'. Refute it at one input. -/
def fnFlagWrong : ChangeSpec := { name := "fnFlag", fn := fun _ => fun
  | [d] => { results := [.lit (.bool false)], args := [d] }
  | _ => none }
def FnFlagWrongFalsely : Prop := fnFlagRow.holds Try.pinned (OpenSpec.ofChange fnFlagWrong)

/-- 'laws.FnDistances': WHATEVER THE INPUT: true; the input reads as it did. -/
def fnDistancesSpec : ChangeSpec := { name := "fnDistances", fn := fun _ => fun
  | [d] => { results := [.lit (.bool true)], args := [d] }
  | _ => none }
def fnDistancesRow : OpenClaim := { program := "ytpoappgfmjnioaa", sum := "3fb69cdfe00ed759d2fa9777a7f1b8c9ef547a8ef5ad63ef6b7af767b81324d9", func := "loop.example/g00907/laws.FnDistances", spec := "fnDistances", apart := false }
def FnDistancesSaid : Prop := fnDistancesRow.holds Try.pinned (OpenSpec.ofChange fnDistancesSpec)

/-- ITS FALSE NEIGHBOUR: 'it returns false'. Refute it at one input. -/
def fnDistancesWrong : ChangeSpec := { name := "fnDistances", fn := fun _ => fun
  | [d] => { results := [.lit (.bool false)], args := [d] }
  | _ => none }
def FnDistancesWrongFalsely : Prop := fnDistancesRow.holds Try.pinned (OpenSpec.ofChange fnDistancesWrong)

/-- 'laws.FnExactFromInversionTable': WHATEVER THE INPUT: true; the input reads as it did. -/
def fnExactFromInversionTableSpec : ChangeSpec := { name := "fnExactFromInversionTable", fn := fun _ => fun
  | [d] => { results := [.lit (.bool true)], args := [d] }
  | _ => none }
def fnExactFromInversionTableRow : OpenClaim := { program := "ytpoappgfmjnioaa", sum := "3fb69cdfe00ed759d2fa9777a7f1b8c9ef547a8ef5ad63ef6b7af767b81324d9", func := "loop.example/g00907/laws.FnExactFromInversionTable", spec := "fnExactFromInversionTable", apart := false }
def FnExactFromInversionTableSaid : Prop := fnExactFromInversionTableRow.holds Try.pinned (OpenSpec.ofChange fnExactFromInversionTableSpec)

/-- ITS FALSE NEIGHBOUR: 'it returns false'. Refute it at one input. -/
def fnExactFromInversionTableWrong : ChangeSpec := { name := "fnExactFromInversionTable", fn := fun _ => fun
  | [d] => { results := [.lit (.bool false)], args := [d] }
  | _ => none }
def FnExactFromInversionTableWrongFalsely : Prop := fnExactFromInversionTableRow.holds Try.pinned (OpenSpec.ofChange fnExactFromInversionTableWrong)

/-- 'laws.FnExactPatiencePiles': WHATEVER THE INPUT: true; the input reads as it did. -/
def fnExactPatiencePilesSpec : ChangeSpec := { name := "fnExactPatiencePiles", fn := fun _ => fun
  | [d] => { results := [.lit (.bool true)], args := [d] }
  | _ => none }
def fnExactPatiencePilesRow : OpenClaim := { program := "ytpoappgfmjnioaa", sum := "3fb69cdfe00ed759d2fa9777a7f1b8c9ef547a8ef5ad63ef6b7af767b81324d9", func := "loop.example/g00907/laws.FnExactPatiencePiles", spec := "fnExactPatiencePiles", unfollowed := true, recurses := true, apart := false }
def FnExactPatiencePilesSaid : Prop := fnExactPatiencePilesRow.holds Try.pinned (OpenSpec.ofChange fnExactPatiencePilesSpec)

/-- ITS FALSE NEIGHBOUR: 'it returns false'. Refute it at one input. -/
def fnExactPatiencePilesWrong : ChangeSpec := { name := "fnExactPatiencePiles", fn := fun _ => fun
  | [d] => { results := [.lit (.bool false)], args := [d] }
  | _ => none }
def FnExactPatiencePilesWrongFalsely : Prop := fnExactPatiencePilesRow.holds Try.pinned (OpenSpec.ofChange fnExactPatiencePilesWrong)

/-- 'laws.FnExactSecondSmallest': WHATEVER THE INPUT: true; the input reads as it did. -/
def fnExactSecondSmallestSpec : ChangeSpec := { name := "fnExactSecondSmallest", fn := fun _ => fun
  | [d] => { results := [.lit (.bool true)], args := [d] }
  | _ => none }
def fnExactSecondSmallestRow : OpenClaim := { program := "ytpoappgfmjnioaa", sum := "3fb69cdfe00ed759d2fa9777a7f1b8c9ef547a8ef5ad63ef6b7af767b81324d9", func := "loop.example/g00907/laws.FnExactSecondSmallest", spec := "fnExactSecondSmallest", unfollowed := true, recurses := true, apart := false }
def FnExactSecondSmallestSaid : Prop := fnExactSecondSmallestRow.holds Try.pinned (OpenSpec.ofChange fnExactSecondSmallestSpec)

/-- ITS FALSE NEIGHBOUR: 'it returns false'. Refute it at one input. -/
def fnExactSecondSmallestWrong : ChangeSpec := { name := "fnExactSecondSmallest", fn := fun _ => fun
  | [d] => { results := [.lit (.bool false)], args := [d] }
  | _ => none }
def FnExactSecondSmallestWrongFalsely : Prop := fnExactSecondSmallestRow.holds Try.pinned (OpenSpec.ofChange fnExactSecondSmallestWrong)

/-- 'laws.FnExactBuildMergeTree': WHATEVER THE INPUT: true; the input reads as it did. -/
def fnExactBuildMergeTreeSpec : ChangeSpec := { name := "fnExactBuildMergeTree", fn := fun _ => fun
  | [d] => { results := [.lit (.bool true)], args := [d] }
  | _ => none }
def fnExactBuildMergeTreeRow : OpenClaim := { program := "ytpoappgfmjnioaa", sum := "3fb69cdfe00ed759d2fa9777a7f1b8c9ef547a8ef5ad63ef6b7af767b81324d9", func := "loop.example/g00907/laws.FnExactBuildMergeTree", spec := "fnExactBuildMergeTree", unfollowed := true, recurses := true, apart := false }
def FnExactBuildMergeTreeSaid : Prop := fnExactBuildMergeTreeRow.holds Try.pinned (OpenSpec.ofChange fnExactBuildMergeTreeSpec)

/-- ITS FALSE NEIGHBOUR: 'it returns false'. Refute it at one input. -/
def fnExactBuildMergeTreeWrong : ChangeSpec := { name := "fnExactBuildMergeTree", fn := fun _ => fun
  | [d] => { results := [.lit (.bool false)], args := [d] }
  | _ => none }
def FnExactBuildMergeTreeWrongFalsely : Prop := fnExactBuildMergeTreeRow.holds Try.pinned (OpenSpec.ofChange fnExactBuildMergeTreeWrong)

/-- 'laws.FnExactIsValidMergeTree': WHATEVER THE INPUT: true; the input reads as it did. -/
def fnExactIsValidMergeTreeSpec : ChangeSpec := { name := "fnExactIsValidMergeTree", fn := fun _ => fun
  | [d] => { results := [.lit (.bool true)], args := [d] }
  | _ => none }
def fnExactIsValidMergeTreeRow : OpenClaim := { program := "ytpoappgfmjnioaa", sum := "3fb69cdfe00ed759d2fa9777a7f1b8c9ef547a8ef5ad63ef6b7af767b81324d9", func := "loop.example/g00907/laws.FnExactIsValidMergeTree", spec := "fnExactIsValidMergeTree", unfollowed := true, recurses := true, apart := false }
def FnExactIsValidMergeTreeSaid : Prop := fnExactIsValidMergeTreeRow.holds Try.pinned (OpenSpec.ofChange fnExactIsValidMergeTreeSpec)

/-- ITS FALSE NEIGHBOUR: 'it returns false'. Refute it at one input. -/
def fnExactIsValidMergeTreeWrong : ChangeSpec := { name := "fnExactIsValidMergeTree", fn := fun _ => fun
  | [d] => { results := [.lit (.bool false)], args := [d] }
  | _ => none }
def FnExactIsValidMergeTreeWrongFalsely : Prop := fnExactIsValidMergeTreeRow.holds Try.pinned (OpenSpec.ofChange fnExactIsValidMergeTreeWrong)

/-- 'laws.FnMergeTree': WHATEVER THE INPUT: true; the input reads as it did. -/
def fnMergeTreeSpec : ChangeSpec := { name := "fnMergeTree", fn := fun _ => fun
  | [d] => { results := [.lit (.bool true)], args := [d] }
  | _ => none }
def fnMergeTreeRow : OpenClaim := { program := "ytpoappgfmjnioaa", sum := "3fb69cdfe00ed759d2fa9777a7f1b8c9ef547a8ef5ad63ef6b7af767b81324d9", func := "loop.example/g00907/laws.FnMergeTree", spec := "fnMergeTree", unfollowed := true, recurses := true, apart := false }
def FnMergeTreeSaid : Prop := fnMergeTreeRow.holds Try.pinned (OpenSpec.ofChange fnMergeTreeSpec)

/-- ITS FALSE NEIGHBOUR: 'it returns false'. Refute it at one input. -/
def fnMergeTreeWrong : ChangeSpec := { name := "fnMergeTree", fn := fun _ => fun
  | [d] => { results := [.lit (.bool false)], args := [d] }
  | _ => none }
def FnMergeTreeWrongFalsely : Prop := fnMergeTreeRow.holds Try.pinned (OpenSpec.ofChange fnMergeTreeWrong)

/-- 'laws.FnExactRangeKth': WHATEVER THE INPUT: true; the input reads as it did. -/
def fnExactRangeKthSpec : ChangeSpec := { name := "fnExactRangeKth", fn := fun _ => fun
  | [d1, d2, d3, d4] => { results := [.lit (.bool true)], args := [d1, d2, d3, d4] }
  | _ => none }
def fnExactRangeKthRow : OpenClaim := { program := "ytpoappgfmjnioaa", sum := "3fb69cdfe00ed759d2fa9777a7f1b8c9ef547a8ef5ad63ef6b7af767b81324d9", func := "loop.example/g00907/laws.FnExactRangeKth", spec := "fnExactRangeKth", unfollowed := true, recurses := true, apart := false }
def FnExactRangeKthSaid : Prop := fnExactRangeKthRow.holds Try.pinned (OpenSpec.ofChange fnExactRangeKthSpec)

/-- ITS FALSE NEIGHBOUR: 'it returns false'. Refute it at one input. -/
def fnExactRangeKthWrong : ChangeSpec := { name := "fnExactRangeKth", fn := fun _ => fun
  | [d1, d2, d3, d4] => { results := [.lit (.bool false)], args := [d1, d2, d3, d4] }
  | _ => none }
def FnExactRangeKthWrongFalsely : Prop := fnExactRangeKthRow.holds Try.pinned (OpenSpec.ofChange fnExactRangeKthWrong)

/-- 'laws.FnExactCountBelow': WHATEVER THE INPUT: true; the input reads as it did. -/
def fnExactCountBelowSpec : ChangeSpec := { name := "fnExactCountBelow", fn := fun _ => fun
  | [d1, d2, d3, d4] => { results := [.lit (.bool true)], args := [d1, d2, d3, d4] }
  | _ => none }
def fnExactCountBelowRow : OpenClaim := { program := "ytpoappgfmjnioaa", sum := "3fb69cdfe00ed759d2fa9777a7f1b8c9ef547a8ef5ad63ef6b7af767b81324d9", func := "loop.example/g00907/laws.FnExactCountBelow", spec := "fnExactCountBelow", unfollowed := true, recurses := true, apart := false }
def FnExactCountBelowSaid : Prop := fnExactCountBelowRow.holds Try.pinned (OpenSpec.ofChange fnExactCountBelowSpec)

/-- ITS FALSE NEIGHBOUR: 'it returns false'. Refute it at one input. -/
def fnExactCountBelowWrong : ChangeSpec := { name := "fnExactCountBelow", fn := fun _ => fun
  | [d1, d2, d3, d4] => { results := [.lit (.bool false)], args := [d1, d2, d3, d4] }
  | _ => none }
def FnExactCountBelowWrongFalsely : Prop := fnExactCountBelowRow.holds Try.pinned (OpenSpec.ofChange fnExactCountBelowWrong)

/- THE SECOND FORM. 'bulk': how many values and letters a reading holds, each counted each time it is reached (what is shared counts as often as it is met; a slice's spare places count too). A statement '..UptoSaid' is the law's where the arguments, and the package variables that the reading takes, are together of bulk at most 1048576: NARROWER than '..Said'. Prove '..Said' where nothing that the law and all that it calls make is longer than what came in: it says more and counts as full. Else prove '..UptoSaid'. A law counts once. -/
mutual
def uptoBulk {H : Type} : DataW H → Nat
  | .lit (.string bytes) => bytes.length + 1
  | .lit _ => 1
  | .nil => 1
  | .ptr d => uptoBulk d + 1
  | .slice elems spare => uptoBulkAll elems + uptoBulkAll spare + 1
  | .agg parts => uptoBulkAll parts + 1
  | .iface _ d => uptoBulk d + 1
  | .map entries => uptoBulkEntries entries + 1
  | .held _ => 1
def uptoBulkAll {H : Type} : List (DataW H) → Nat
  | [] => 0
  | d :: r => uptoBulk d + uptoBulkAll r
def uptoBulkEntries {H : Type} : List (Lit × DataW H) → Nat
  | [] => 0
  | x :: r => uptoBulkEntry x + uptoBulkEntries r
def uptoBulkEntry {H : Type} : Lit × DataW H → Nat
  | (.string bytes, d) => bytes.length + uptoBulk d + 1
  | (_, d) => uptoBulk d + 1
 end
def uptoSmall : (H : Type) → List (DataW H) → Bool := fun _ ds => decide (uptoBulkAll ds ≤ 1048576)
def OpenSpec.upto (s : _root_.Go.ChangeSpec) : _root_.Go.OpenSpec := { _root_.Go.OpenSpec.ofChange s with cond := some uptoSmall }

/-- 'laws.FnExactFlagPass', WHERE WHAT IT READS IS OF BULK AT MOST 1048576: true; the input reads as it did. -/
def fnExactFlagPassUptoRow : OpenClaim := { program := "ytpoappgfmjnioaa", sum := "3fb69cdfe00ed759d2fa9777a7f1b8c9ef547a8ef5ad63ef6b7af767b81324d9", func := "loop.example/g00907/laws.FnExactFlagPass", spec := "fnExactFlagPass", unfollowed := true, recurses := true, apart := false, narrowed := true }
def FnExactFlagPassUptoSaid : Prop := fnExactFlagPassUptoRow.holds Try.pinned (OpenSpec.upto fnExactFlagPassSpec)

/-- 'laws.FnFlag', WHERE WHAT IT READS IS OF BULK AT MOST 1048576: true; the input reads as it did. -/
def fnFlagUptoRow : OpenClaim := { program := "ytpoappgfmjnioaa", sum := "3fb69cdfe00ed759d2fa9777a7f1b8c9ef547a8ef5ad63ef6b7af767b81324d9", func := "loop.example/g00907/laws.FnFlag", spec := "fnFlag", unfollowed := true, recurses := true, apart := false, narrowed := true }
def FnFlagUptoSaid : Prop := fnFlagUptoRow.holds Try.pinned (OpenSpec.upto fnFlagSpec)

/-- 'laws.FnDistances', WHERE WHAT IT READS IS OF BULK AT MOST 1048576: true; the input reads as it did. -/
def fnDistancesUptoRow : OpenClaim := { program := "ytpoappgfmjnioaa", sum := "3fb69cdfe00ed759d2fa9777a7f1b8c9ef547a8ef5ad63ef6b7af767b81324d9", func := "loop.example/g00907/laws.FnDistances", spec := "fnDistances", apart := false, narrowed := true }
def FnDistancesUptoSaid : Prop := fnDistancesUptoRow.holds Try.pinned (OpenSpec.upto fnDistancesSpec)

/-- 'laws.FnExactFromInversionTable', WHERE WHAT IT READS IS OF BULK AT MOST 1048576: true; the input reads as it did. -/
def fnExactFromInversionTableUptoRow : OpenClaim := { program := "ytpoappgfmjnioaa", sum := "3fb69cdfe00ed759d2fa9777a7f1b8c9ef547a8ef5ad63ef6b7af767b81324d9", func := "loop.example/g00907/laws.FnExactFromInversionTable", spec := "fnExactFromInversionTable", apart := false, narrowed := true }
def FnExactFromInversionTableUptoSaid : Prop := fnExactFromInversionTableUptoRow.holds Try.pinned (OpenSpec.upto fnExactFromInversionTableSpec)

/-- 'laws.FnExactPatiencePiles', WHERE WHAT IT READS IS OF BULK AT MOST 1048576: true; the input reads as it did. -/
def fnExactPatiencePilesUptoRow : OpenClaim := { program := "ytpoappgfmjnioaa", sum := "3fb69cdfe00ed759d2fa9777a7f1b8c9ef547a8ef5ad63ef6b7af767b81324d9", func := "loop.example/g00907/laws.FnExactPatiencePiles", spec := "fnExactPatiencePiles", unfollowed := true, recurses := true, apart := false, narrowed := true }
def FnExactPatiencePilesUptoSaid : Prop := fnExactPatiencePilesUptoRow.holds Try.pinned (OpenSpec.upto fnExactPatiencePilesSpec)

/-- 'laws.FnExactSecondSmallest', WHERE WHAT IT READS IS OF BULK AT MOST 1048576: true; the input reads as it did. -/
def fnExactSecondSmallestUptoRow : OpenClaim := { program := "ytpoappgfmjnioaa", sum := "3fb69cdfe00ed759d2fa9777a7f1b8c9ef547a8ef5ad63ef6b7af767b81324d9", func := "loop.example/g00907/laws.FnExactSecondSmallest", spec := "fnExactSecondSmallest", unfollowed := true, recurses := true, apart := false, narrowed := true }
def FnExactSecondSmallestUptoSaid : Prop := fnExactSecondSmallestUptoRow.holds Try.pinned (OpenSpec.upto fnExactSecondSmallestSpec)

/-- 'laws.FnExactBuildMergeTree', WHERE WHAT IT READS IS OF BULK AT MOST 1048576: true; the input reads as it did. -/
def fnExactBuildMergeTreeUptoRow : OpenClaim := { program := "ytpoappgfmjnioaa", sum := "3fb69cdfe00ed759d2fa9777a7f1b8c9ef547a8ef5ad63ef6b7af767b81324d9", func := "loop.example/g00907/laws.FnExactBuildMergeTree", spec := "fnExactBuildMergeTree", unfollowed := true, recurses := true, apart := false, narrowed := true }
def FnExactBuildMergeTreeUptoSaid : Prop := fnExactBuildMergeTreeUptoRow.holds Try.pinned (OpenSpec.upto fnExactBuildMergeTreeSpec)

/-- 'laws.FnExactIsValidMergeTree', WHERE WHAT IT READS IS OF BULK AT MOST 1048576: true; the input reads as it did. -/
def fnExactIsValidMergeTreeUptoRow : OpenClaim := { program := "ytpoappgfmjnioaa", sum := "3fb69cdfe00ed759d2fa9777a7f1b8c9ef547a8ef5ad63ef6b7af767b81324d9", func := "loop.example/g00907/laws.FnExactIsValidMergeTree", spec := "fnExactIsValidMergeTree", unfollowed := true, recurses := true, apart := false, narrowed := true }
def FnExactIsValidMergeTreeUptoSaid : Prop := fnExactIsValidMergeTreeUptoRow.holds Try.pinned (OpenSpec.upto fnExactIsValidMergeTreeSpec)

/-- 'laws.FnMergeTree', WHERE WHAT IT READS IS OF BULK AT MOST 1048576: true; the input reads as it did. -/
def fnMergeTreeUptoRow : OpenClaim := { program := "ytpoappgfmjnioaa", sum := "3fb69cdfe00ed759d2fa9777a7f1b8c9ef547a8ef5ad63ef6b7af767b81324d9", func := "loop.example/g00907/laws.FnMergeTree", spec := "fnMergeTree", unfollowed := true, recurses := true, apart := false, narrowed := true }
def FnMergeTreeUptoSaid : Prop := fnMergeTreeUptoRow.holds Try.pinned (OpenSpec.upto fnMergeTreeSpec)

/-- 'laws.FnExactRangeKth', WHERE WHAT IT READS IS OF BULK AT MOST 1048576: true; the input reads as it did. -/
def fnExactRangeKthUptoRow : OpenClaim := { program := "ytpoappgfmjnioaa", sum := "3fb69cdfe00ed759d2fa9777a7f1b8c9ef547a8ef5ad63ef6b7af767b81324d9", func := "loop.example/g00907/laws.FnExactRangeKth", spec := "fnExactRangeKth", unfollowed := true, recurses := true, apart := false, narrowed := true }
def FnExactRangeKthUptoSaid : Prop := fnExactRangeKthUptoRow.holds Try.pinned (OpenSpec.upto fnExactRangeKthSpec)

/-- 'laws.FnExactCountBelow', WHERE WHAT IT READS IS OF BULK AT MOST 1048576: true; the input reads as it did. -/
def fnExactCountBelowUptoRow : OpenClaim := { program := "ytpoappgfmjnioaa", sum := "3fb69cdfe00ed759d2fa9777a7f1b8c9ef547a8ef5ad63ef6b7af767b81324d9", func := "loop.example/g00907/laws.FnExactCountBelow", spec := "fnExactCountBelow", unfollowed := true, recurses := true, apart := false, narrowed := true }
def FnExactCountBelowUptoSaid : Prop := fnExactCountBelowUptoRow.holds Try.pinned (OpenSpec.upto fnExactCountBelowSpec)

end Rows
end Go.Proofs.Ytpoappgfmjnioaa
