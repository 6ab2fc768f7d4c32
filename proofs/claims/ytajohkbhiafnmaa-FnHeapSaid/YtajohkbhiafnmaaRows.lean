/-
  No cell of these rows narrows 'for every input' (looked for: loops, veiled, ifaces, maps, wideKeys, modest, calm, conditions, laid).
  DERIVED. THE GIVEN ROWS OF THIS SEAT. 12 by the template 'for every input the law returns true; each argument reads behind the call as it read before'; 0 by the template 'total and deterministic' (their statements: YtajohkbhiafnmaaTotals.lean).
  GIVEN WITH THE SEED: the statements are not yours to turn. If you find one false, say at which input.
  Laid BY PROGRAM, IN A SANDBOX (cutbox-rows.mjs): the forced cells as the released guide's own fill.sh prints them over the translation 39d1f66292789ec3… (all of the seat's roots in one cut). By AI agents, Wed Nov 11 2026. No macro, syntax, notation, axiom, sorry.
-/
import Derived.Test.YtajohkbhiafnmaaChecked
import GoSem.Claim
import GoSem.ClaimJoined
import GoSem.ClaimMapViews
import Derived.JoinedTies
import Derived.KernelRfl
namespace Go.Proofs.Ytajohkbhiafnmaa
/- THE CELL 'sum', in the pinned program and in every row, IS THE sha256 OF THE DUMP (.gsa) THAT YtajohkbhiafnmaaProg.lean LOADS. Nothing in Lean hashes anything: it is a label: what it is worth is what the hold of that sum in a sandbox is worth. -/
noncomputable def Try.pinned : Pinned := { name := "ytajohkbhiafnmaa", sum := "39d1f66292789ec32aae8db1e339b38b3e963c1d3d8257a3a14674492199564d", checked := Try.checked }
namespace Rows
def none {H : Type} : Left H := { results := [], args := [] }

/-- 'laws.FnPartition': WHATEVER THE INPUT: true; the input reads as it did. -/
def fnPartitionSpec : ChangeSpec := { name := "fnPartition", fn := fun _ => fun
  | [d] => { results := [.lit (.bool true)], args := [d] }
  | _ => none }
def fnPartitionRow : OpenClaim := { program := "ytajohkbhiafnmaa", sum := "39d1f66292789ec32aae8db1e339b38b3e963c1d3d8257a3a14674492199564d", func := "loop.example/g00907/laws.FnPartition", spec := "fnPartition", unfollowed := true, recurses := true, apart := false }
def FnPartitionSaid : Prop := fnPartitionRow.holds Try.pinned (OpenSpec.ofChange fnPartitionSpec)

/-- ITS FALSE NEIGHBOUR: 'it returns false'. Refute it at one input. -/
def fnPartitionWrong : ChangeSpec := { name := "fnPartition", fn := fun _ => fun
  | [d] => { results := [.lit (.bool false)], args := [d] }
  | _ => none }
def FnPartitionWrongFalsely : Prop := fnPartitionRow.holds Try.pinned (OpenSpec.ofChange fnPartitionWrong)

/-- 'laws.FnQuick': WHATEVER THE INPUT: true; the input reads as it did. -/
def fnQuickSpec : ChangeSpec := { name := "fnQuick", fn := fun _ => fun
  | [d] => { results := [.lit (.bool true)], args := [d] }
  | _ => none }
def fnQuickRow : OpenClaim := { program := "ytajohkbhiafnmaa", sum := "39d1f66292789ec32aae8db1e339b38b3e963c1d3d8257a3a14674492199564d", func := "loop.example/g00907/laws.FnQuick", spec := "fnQuick", unfollowed := true, recurses := true, apart := false }
def FnQuickSaid : Prop := fnQuickRow.holds Try.pinned (OpenSpec.ofChange fnQuickSpec)

/-- ITS FALSE NEIGHBOUR: 'it returns false'. Refute it at one input. -/
def fnQuickWrong : ChangeSpec := { name := "fnQuick", fn := fun _ => fun
  | [d] => { results := [.lit (.bool false)], args := [d] }
  | _ => none }
def FnQuickWrongFalsely : Prop := fnQuickRow.holds Try.pinned (OpenSpec.ofChange fnQuickWrong)

/-- 'laws.FnHeap': WHATEVER THE INPUT: true; the input reads as it did. -/
def fnHeapSpec : ChangeSpec := { name := "fnHeap", fn := fun _ => fun
  | [d] => { results := [.lit (.bool true)], args := [d] }
  | _ => none }
def fnHeapRow : OpenClaim := { program := "ytajohkbhiafnmaa", sum := "39d1f66292789ec32aae8db1e339b38b3e963c1d3d8257a3a14674492199564d", func := "loop.example/g00907/laws.FnHeap", spec := "fnHeap", unfollowed := true, recurses := true, apart := false }
def FnHeapSaid : Prop := fnHeapRow.holds Try.pinned (OpenSpec.ofChange fnHeapSpec)

/-- ITS FALSE NEIGHBOUR: 'it returns false'. Refute it at one input. -/
def fnHeapWrong : ChangeSpec := { name := "fnHeap", fn := fun _ => fun
  | [d] => { results := [.lit (.bool false)], args := [d] }
  | _ => none }
def FnHeapWrongFalsely : Prop := fnHeapRow.holds Try.pinned (OpenSpec.ofChange fnHeapWrong)

/-- 'laws.FnHeapSteps': WHATEVER THE INPUT: true; the input reads as it did. -/
def fnHeapStepsSpec : ChangeSpec := { name := "fnHeapSteps", fn := fun _ => fun
  | [d] => { results := [.lit (.bool true)], args := [d] }
  | _ => none }
def fnHeapStepsRow : OpenClaim := { program := "ytajohkbhiafnmaa", sum := "39d1f66292789ec32aae8db1e339b38b3e963c1d3d8257a3a14674492199564d", func := "loop.example/g00907/laws.FnHeapSteps", spec := "fnHeapSteps", unfollowed := true, recurses := true, apart := false }
def FnHeapStepsSaid : Prop := fnHeapStepsRow.holds Try.pinned (OpenSpec.ofChange fnHeapStepsSpec)

/-- ITS FALSE NEIGHBOUR: 'it returns false'. Refute it at one input. -/
def fnHeapStepsWrong : ChangeSpec := { name := "fnHeapSteps", fn := fun _ => fun
  | [d] => { results := [.lit (.bool false)], args := [d] }
  | _ => none }
def FnHeapStepsWrongFalsely : Prop := fnHeapStepsRow.holds Try.pinned (OpenSpec.ofChange fnHeapStepsWrong)

/-- 'laws.FnHeapSort': WHATEVER THE INPUT: true; the input reads as it did. -/
def fnHeapSortSpec : ChangeSpec := { name := "fnHeapSort", fn := fun _ => fun
  | [d] => { results := [.lit (.bool true)], args := [d] }
  | _ => none }
def fnHeapSortRow : OpenClaim := { program := "ytajohkbhiafnmaa", sum := "39d1f66292789ec32aae8db1e339b38b3e963c1d3d8257a3a14674492199564d", func := "loop.example/g00907/laws.FnHeapSort", spec := "fnHeapSort", unfollowed := true, recurses := true, apart := false }
def FnHeapSortSaid : Prop := fnHeapSortRow.holds Try.pinned (OpenSpec.ofChange fnHeapSortSpec)

/-- ITS FALSE NEIGHBOUR: 'it returns false'. Refute it at one input. -/
def fnHeapSortWrong : ChangeSpec := { name := "fnHeapSort", fn := fun _ => fun
  | [d] => { results := [.lit (.bool false)], args := [d] }
  | _ => none }
def FnHeapSortWrongFalsely : Prop := fnHeapSortRow.holds Try.pinned (OpenSpec.ofChange fnHeapSortWrong)

/-- 'laws.FnExactKthSmallest': WHATEVER THE INPUT: true; the input reads as it did. -/
def fnExactKthSmallestSpec : ChangeSpec := { name := "fnExactKthSmallest", fn := fun _ => fun
  | [d1, d2] => { results := [.lit (.bool true)], args := [d1, d2] }
  | _ => none }
def fnExactKthSmallestRow : OpenClaim := { program := "ytajohkbhiafnmaa", sum := "39d1f66292789ec32aae8db1e339b38b3e963c1d3d8257a3a14674492199564d", func := "loop.example/g00907/laws.FnExactKthSmallest", spec := "fnExactKthSmallest", unfollowed := true, recurses := true, apart := false }
def FnExactKthSmallestSaid : Prop := fnExactKthSmallestRow.holds Try.pinned (OpenSpec.ofChange fnExactKthSmallestSpec)

/-- ITS FALSE NEIGHBOUR: 'it returns false'. Refute it at one input. -/
def fnExactKthSmallestWrong : ChangeSpec := { name := "fnExactKthSmallest", fn := fun _ => fun
  | [d1, d2] => { results := [.lit (.bool false)], args := [d1, d2] }
  | _ => none }
def FnExactKthSmallestWrongFalsely : Prop := fnExactKthSmallestRow.holds Try.pinned (OpenSpec.ofChange fnExactKthSmallestWrong)

/-- 'laws.FnExactMinMax': WHATEVER THE INPUT: true; the input reads as it did. -/
def fnExactMinMaxSpec : ChangeSpec := { name := "fnExactMinMax", fn := fun _ => fun
  | [d] => { results := [.lit (.bool true)], args := [d] }
  | _ => none }
def fnExactMinMaxRow : OpenClaim := { program := "ytajohkbhiafnmaa", sum := "39d1f66292789ec32aae8db1e339b38b3e963c1d3d8257a3a14674492199564d", func := "loop.example/g00907/laws.FnExactMinMax", spec := "fnExactMinMax", unfollowed := true, recurses := true, apart := false }
def FnExactMinMaxSaid : Prop := fnExactMinMaxRow.holds Try.pinned (OpenSpec.ofChange fnExactMinMaxSpec)

/-- ITS FALSE NEIGHBOUR: 'it returns false'. Refute it at one input. -/
def fnExactMinMaxWrong : ChangeSpec := { name := "fnExactMinMax", fn := fun _ => fun
  | [d] => { results := [.lit (.bool false)], args := [d] }
  | _ => none }
def FnExactMinMaxWrongFalsely : Prop := fnExactMinMaxRow.holds Try.pinned (OpenSpec.ofChange fnExactMinMaxWrong)

/-- 'laws.FnExactMedianOfMedians': WHATEVER THE INPUT: true; the input reads as it did. -/
def fnExactMedianOfMediansSpec : ChangeSpec := { name := "fnExactMedianOfMedians", fn := fun _ => fun
  | [d] => { results := [.lit (.bool true)], args := [d] }
  | _ => none }
def fnExactMedianOfMediansRow : OpenClaim := { program := "ytajohkbhiafnmaa", sum := "39d1f66292789ec32aae8db1e339b38b3e963c1d3d8257a3a14674492199564d", func := "loop.example/g00907/laws.FnExactMedianOfMedians", spec := "fnExactMedianOfMedians", unfollowed := true, recurses := true, apart := false }
def FnExactMedianOfMediansSaid : Prop := fnExactMedianOfMediansRow.holds Try.pinned (OpenSpec.ofChange fnExactMedianOfMediansSpec)

/-- ITS FALSE NEIGHBOUR: 'it returns false'. Refute it at one input. -/
def fnExactMedianOfMediansWrong : ChangeSpec := { name := "fnExactMedianOfMedians", fn := fun _ => fun
  | [d] => { results := [.lit (.bool false)], args := [d] }
  | _ => none }
def FnExactMedianOfMediansWrongFalsely : Prop := fnExactMedianOfMediansRow.holds Try.pinned (OpenSpec.ofChange fnExactMedianOfMediansWrong)

/-- 'laws.FnExactSecondSmallest': WHATEVER THE INPUT: true; the input reads as it did. -/
def fnExactSecondSmallestSpec : ChangeSpec := { name := "fnExactSecondSmallest", fn := fun _ => fun
  | [d] => { results := [.lit (.bool true)], args := [d] }
  | _ => none }
def fnExactSecondSmallestRow : OpenClaim := { program := "ytajohkbhiafnmaa", sum := "39d1f66292789ec32aae8db1e339b38b3e963c1d3d8257a3a14674492199564d", func := "loop.example/g00907/laws.FnExactSecondSmallest", spec := "fnExactSecondSmallest", unfollowed := true, recurses := true, apart := false }
def FnExactSecondSmallestSaid : Prop := fnExactSecondSmallestRow.holds Try.pinned (OpenSpec.ofChange fnExactSecondSmallestSpec)

/-- ITS FALSE NEIGHBOUR: 'it returns false'. Refute it at one input. -/
def fnExactSecondSmallestWrong : ChangeSpec := { name := "fnExactSecondSmallest", fn := fun _ => fun
  | [d] => { results := [.lit (.bool false)], args := [d] }
  | _ => none }
def FnExactSecondSmallestWrongFalsely : Prop := fnExactSecondSmallestRow.holds Try.pinned (OpenSpec.ofChange fnExactSecondSmallestWrong)

/-- 'laws.FnExactNthElement': WHATEVER THE INPUT: true; the input reads as it did. -/
def fnExactNthElementSpec : ChangeSpec := { name := "fnExactNthElement", fn := fun _ => fun
  | [d1, d2] => { results := [.lit (.bool true)], args := [d1, d2] }
  | _ => none }
def fnExactNthElementRow : OpenClaim := { program := "ytajohkbhiafnmaa", sum := "39d1f66292789ec32aae8db1e339b38b3e963c1d3d8257a3a14674492199564d", func := "loop.example/g00907/laws.FnExactNthElement", spec := "fnExactNthElement", unfollowed := true, recurses := true, apart := false }
def FnExactNthElementSaid : Prop := fnExactNthElementRow.holds Try.pinned (OpenSpec.ofChange fnExactNthElementSpec)

/-- ITS FALSE NEIGHBOUR: 'it returns false'. Refute it at one input. -/
def fnExactNthElementWrong : ChangeSpec := { name := "fnExactNthElement", fn := fun _ => fun
  | [d1, d2] => { results := [.lit (.bool false)], args := [d1, d2] }
  | _ => none }
def FnExactNthElementWrongFalsely : Prop := fnExactNthElementRow.holds Try.pinned (OpenSpec.ofChange fnExactNthElementWrong)

/-- 'laws.FnExactSelectByMedians': WHATEVER THE INPUT: true; the input reads as it did. -/
def fnExactSelectByMediansSpec : ChangeSpec := { name := "fnExactSelectByMedians", fn := fun _ => fun
  | [d1, d2] => { results := [.lit (.bool true)], args := [d1, d2] }
  | _ => none }
def fnExactSelectByMediansRow : OpenClaim := { program := "ytajohkbhiafnmaa", sum := "39d1f66292789ec32aae8db1e339b38b3e963c1d3d8257a3a14674492199564d", func := "loop.example/g00907/laws.FnExactSelectByMedians", spec := "fnExactSelectByMedians", unfollowed := true, recurses := true, apart := false }
def FnExactSelectByMediansSaid : Prop := fnExactSelectByMediansRow.holds Try.pinned (OpenSpec.ofChange fnExactSelectByMediansSpec)

/-- ITS FALSE NEIGHBOUR: 'it returns false'. Refute it at one input. -/
def fnExactSelectByMediansWrong : ChangeSpec := { name := "fnExactSelectByMedians", fn := fun _ => fun
  | [d1, d2] => { results := [.lit (.bool false)], args := [d1, d2] }
  | _ => none }
def FnExactSelectByMediansWrongFalsely : Prop := fnExactSelectByMediansRow.holds Try.pinned (OpenSpec.ofChange fnExactSelectByMediansWrong)

/-- 'laws.FnExactBuildMergeTree': WHATEVER THE INPUT: true; the input reads as it did. -/
def fnExactBuildMergeTreeSpec : ChangeSpec := { name := "fnExactBuildMergeTree", fn := fun _ => fun
  | [d] => { results := [.lit (.bool true)], args := [d] }
  | _ => none }
def fnExactBuildMergeTreeRow : OpenClaim := { program := "ytajohkbhiafnmaa", sum := "39d1f66292789ec32aae8db1e339b38b3e963c1d3d8257a3a14674492199564d", func := "loop.example/g00907/laws.FnExactBuildMergeTree", spec := "fnExactBuildMergeTree", unfollowed := true, recurses := true, apart := false }
def FnExactBuildMergeTreeSaid : Prop := fnExactBuildMergeTreeRow.holds Try.pinned (OpenSpec.ofChange fnExactBuildMergeTreeSpec)

/-- ITS FALSE NEIGHBOUR: 'it returns false'. Refute it at one input. -/
def fnExactBuildMergeTreeWrong : ChangeSpec := { name := "fnExactBuildMergeTree", fn := fun _ => fun
  | [d] => { results := [.lit (.bool false)], args := [d] }
  | _ => none }
def FnExactBuildMergeTreeWrongFalsely : Prop := fnExactBuildMergeTreeRow.holds Try.pinned (OpenSpec.ofChange fnExactBuildMergeTreeWrong)

/- THE SECOND FORM. 'bulk': how many values and letters a reading holds, each counted each time it is reached (what is shared counts as often as it is met; a slice's spare places count too). A statement '..UptoSaid' is the law's where the arguments, and the package variables that the reading takes, are together of bulk at most 1048576: NARROWER than '..Said'. Prove '..Said' where nothing that the law and all that it calls make is longer than what came in: it says more and counts as full. Else prove '..UptoSaid'. A law counts once. -/
mutual
def uptoBulk {H : Type} : DataW H → Nat
  | .lit (.string bytes) => bytes.length + 1
  | .lit _ => 1
  | .nil => 1
  | .ptr d => uptoBulk d + 1
  | .slice elems spare => uptoBulkAll elems + uptoBulkAll spare + 1
  | .agg parts => uptoBulkAll parts + 1
  | .iface _ d => uptoBulk d + 1
  | .map entries => uptoBulkEntries entries + 1
  | .held _ => 1
def uptoBulkAll {H : Type} : List (DataW H) → Nat
  | [] => 0
  | d :: r => uptoBulk d + uptoBulkAll r
def uptoBulkEntries {H : Type} : List (Lit × DataW H) → Nat
  | [] => 0
  | x :: r => uptoBulkEntry x + uptoBulkEntries r
def uptoBulkEntry {H : Type} : Lit × DataW H → Nat
  | (.string bytes, d) => bytes.length + uptoBulk d + 1
  | (_, d) => uptoBulk d + 1
 end
def uptoSmall : (H : Type) → List (DataW H) → Bool := fun _ ds => decide (uptoBulkAll ds ≤ 1048576)
def OpenSpec.upto (s : _root_.Go.ChangeSpec) : _root_.Go.OpenSpec := { _root_.Go.OpenSpec.ofChange s with cond := some uptoSmall }

/-- 'laws.FnPartition', WHERE WHAT IT READS IS OF BULK AT MOST 1048576: true; the input reads as it did. -/
def fnPartitionUptoRow : OpenClaim := { program := "ytajohkbhiafnmaa", sum := "39d1f66292789ec32aae8db1e339b38b3e963c1d3d8257a3a14674492199564d", func := "loop.example/g00907/laws.FnPartition", spec := "fnPartition", unfollowed := true, recurses := true, apart := false, narrowed := true }
def FnPartitionUptoSaid : Prop := fnPartitionUptoRow.holds Try.pinned (OpenSpec.upto fnPartitionSpec)

/-- 'laws.FnQuick', WHERE WHAT IT READS IS OF BULK AT MOST 1048576: true; the input reads as it did. -/
def fnQuickUptoRow : OpenClaim := { program := "ytajohkbhiafnmaa", sum := "39d1f66292789ec32aae8db1e339b38b3e963c1d3d8257a3a14674492199564d", func := "loop.example/g00907/laws.FnQuick", spec := "fnQuick", unfollowed := true, recurses := true, apart := false, narrowed := true }
def FnQuickUptoSaid : Prop := fnQuickUptoRow.holds Try.pinned (OpenSpec.upto fnQuickSpec)

/-- 'laws.FnHeap', WHERE WHAT IT READS IS OF BULK AT MOST 1048576: true; the input reads as it did. -/
def fnHeapUptoRow : OpenClaim := { program := "ytajohkbhiafnmaa", sum := "39d1f66292789ec32aae8db1e339b38b3e963c1d3d8257a3a14674492199564d", func := "loop.example/g00907/laws.FnHeap", spec := "fnHeap", unfollowed := true, recurses := true, apart := false, narrowed := true }
def FnHeapUptoSaid : Prop := fnHeapUptoRow.holds Try.pinned (OpenSpec.upto fnHeapSpec)

/-- 'laws.FnHeapSteps', WHERE WHAT IT READS IS OF BULK AT MOST 1048576: true; the input reads as it did. -/
def fnHeapStepsUptoRow : OpenClaim := { program := "ytajohkbhiafnmaa", sum := "39d1f66292789ec32aae8db1e339b38b3e963c1d3d8257a3a14674492199564d", func := "loop.example/g00907/laws.FnHeapSteps", spec := "fnHeapSteps", unfollowed := true, recurses := true, apart := false, narrowed := true }
def FnHeapStepsUptoSaid : Prop := fnHeapStepsUptoRow.holds Try.pinned (OpenSpec.upto fnHeapStepsSpec)

/-- 'laws.FnHeapSort', WHERE WHAT IT READS IS OF BULK AT MOST 1048576: true; the input reads as it did. -/
def fnHeapSortUptoRow : OpenClaim := { program := "ytajohkbhiafnmaa", sum := "39d1f66292789ec32aae8db1e339b38b3e963c1d3d8257a3a14674492199564d", func := "loop.example/g00907/laws.FnHeapSort", spec := "fnHeapSort", unfollowed := true, recurses := true, apart := false, narrowed := true }
def FnHeapSortUptoSaid : Prop := fnHeapSortUptoRow.holds Try.pinned (OpenSpec.upto fnHeapSortSpec)

/-- 'laws.FnExactKthSmallest', WHERE WHAT IT READS IS OF BULK AT MOST 1048576: true; the input reads as it did. -/
def fnExactKthSmallestUptoRow : OpenClaim := { program := "ytajohkbhiafnmaa", sum := "39d1f66292789ec32aae8db1e339b38b3e963c1d3d8257a3a14674492199564d", func := "loop.example/g00907/laws.FnExactKthSmallest", spec := "fnExactKthSmallest", unfollowed := true, recurses := true, apart := false, narrowed := true }
def FnExactKthSmallestUptoSaid : Prop := fnExactKthSmallestUptoRow.holds Try.pinned (OpenSpec.upto fnExactKthSmallestSpec)

/-- 'laws.FnExactMinMax', WHERE WHAT IT READS IS OF BULK AT MOST 1048576: true; the input reads as it did. -/
def fnExactMinMaxUptoRow : OpenClaim := { program := "ytajohkbhiafnmaa", sum := "39d1f66292789ec32aae8db1e339b38b3e963c1d3d8257a3a14674492199564d", func := "loop.example/g00907/laws.FnExactMinMax", spec := "fnExactMinMax", unfollowed := true, recurses := true, apart := false, narrowed := true }
def FnExactMinMaxUptoSaid : Prop := fnExactMinMaxUptoRow.holds Try.pinned (OpenSpec.upto fnExactMinMaxSpec)

/-- 'laws.FnExactMedianOfMedians', WHERE WHAT IT READS IS OF BULK AT MOST 1048576: true; the input reads as it did. -/
def fnExactMedianOfMediansUptoRow : OpenClaim := { program := "ytajohkbhiafnmaa", sum := "39d1f66292789ec32aae8db1e339b38b3e963c1d3d8257a3a14674492199564d", func := "loop.example/g00907/laws.FnExactMedianOfMedians", spec := "fnExactMedianOfMedians", unfollowed := true, recurses := true, apart := false, narrowed := true }
def FnExactMedianOfMediansUptoSaid : Prop := fnExactMedianOfMediansUptoRow.holds Try.pinned (OpenSpec.upto fnExactMedianOfMediansSpec)

/-- 'laws.FnExactSecondSmallest', WHERE WHAT IT READS IS OF BULK AT MOST 1048576: true; the input reads as it did. -/
def fnExactSecondSmallestUptoRow : OpenClaim := { program := "ytajohkbhiafnmaa", sum := "39d1f66292789ec32aae8db1e339b38b3e963c1d3d8257a3a14674492199564d", func := "loop.example/g00907/laws.FnExactSecondSmallest", spec := "fnExactSecondSmallest", unfollowed := true, recurses := true, apart := false, narrowed := true }
def FnExactSecondSmallestUptoSaid : Prop := fnExactSecondSmallestUptoRow.holds Try.pinned (OpenSpec.upto fnExactSecondSmallestSpec)

/-- 'laws.FnExactNthElement', WHERE WHAT IT READS IS OF BULK AT MOST 1048576: true; the input reads as it did. -/
def fnExactNthElementUptoRow : OpenClaim := { program := "ytajohkbhiafnmaa", sum := "39d1f66292789ec32aae8db1e339b38b3e963c1d3d8257a3a14674492199564d", func := "loop.example/g00907/laws.FnExactNthElement", spec := "fnExactNthElement", unfollowed := true, recurses := true, apart := false, narrowed := true }
def FnExactNthElementUptoSaid : Prop := fnExactNthElementUptoRow.holds Try.pinned (OpenSpec.upto fnExactNthElementSpec)

/-- 'laws.FnExactSelectByMedians', WHERE WHAT IT READS IS OF BULK AT MOST 1048576: true; the input reads as it did. -/
def fnExactSelectByMediansUptoRow : OpenClaim := { program := "ytajohkbhiafnmaa", sum := "39d1f66292789ec32aae8db1e339b38b3e963c1d3d8257a3a14674492199564d", func := "loop.example/g00907/laws.FnExactSelectByMedians", spec := "fnExactSelectByMedians", unfollowed := true, recurses := true, apart := false, narrowed := true }
def FnExactSelectByMediansUptoSaid : Prop := fnExactSelectByMediansUptoRow.holds Try.pinned (OpenSpec.upto fnExactSelectByMediansSpec)

/-- 'laws.FnExactBuildMergeTree', WHERE WHAT IT READS IS OF BULK AT MOST 1048576: true; the input reads as it did. -/
def fnExactBuildMergeTreeUptoRow : OpenClaim := { program := "ytajohkbhiafnmaa", sum := "39d1f66292789ec32aae8db1e339b38b3e963c1d3d8257a3a14674492199564d", func := "loop.example/g00907/laws.FnExactBuildMergeTree", spec := "fnExactBuildMergeTree", unfollowed := true, recurses := true, apart := false, narrowed := true }
def FnExactBuildMergeTreeUptoSaid : Prop := fnExactBuildMergeTreeUptoRow.holds Try.pinned (OpenSpec.upto fnExactBuildMergeTreeSpec)

end Rows
end Go.Proofs.Ytajohkbhiafnmaa
