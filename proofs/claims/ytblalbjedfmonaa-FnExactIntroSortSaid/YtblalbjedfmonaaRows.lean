/-
  No cell of these rows narrows 'for every input' (looked for: loops, veiled, ifaces, maps, wideKeys, modest, calm, conditions, laid).
  DERIVED. THE GIVEN ROWS OF THIS SEAT. 12 by the template 'for every input the law returns true; each argument reads behind the call as it read before'; 0 by the template 'total and deterministic' (their statements: YtblalbjedfmonaaTotals.lean).
  GIVEN WITH THE SEED: the statements are not yours to turn. If you find one false, say at which input.
  Laid BY PROGRAM, IN A SANDBOX (cutbox-rows.mjs): the forced cells as the released guide's own fill.sh prints them over the translation d0b93ffc0ec9b92c… (all of the seat's roots in one cut). By AI agents, Wed Nov 11 2026. No macro, syntax, notation, axiom, sorry.
-/
import Derived.Test.YtblalbjedfmonaaChecked
import GoSem.Claim
import GoSem.ClaimJoined
import GoSem.ClaimMapViews
import Derived.JoinedTies
import Derived.KernelRfl
namespace Go.Proofs.Ytblalbjedfmonaa
/- THE CELL 'sum', in the pinned program and in every row, IS THE sha256 OF THE DUMP (.gsa) THAT YtblalbjedfmonaaProg.lean LOADS. Nothing in Lean hashes anything: it is a label: what it is worth is what the hold of that sum in a sandbox is worth. -/
noncomputable def Try.pinned : Pinned := { name := "ytblalbjedfmonaa", sum := "d0b93ffc0ec9b92c6fca1f32c99d37882a46aeffdfdd87f8a7a5f78cd17867c8", checked := Try.checked }
namespace Rows
def none {H : Type} : Left H := { results := [], args := [] }

/-- 'laws.FnExactDualPartition': WHATEVER THE INPUT: true; the input reads as it did. -/
def fnExactDualPartitionSpec : ChangeSpec := { name := "fnExactDualPartition", fn := fun _ => fun
  | [d1, d2, d3] => { results := [.lit (.bool true)], args := [d1, d2, d3] }
  | _ => none }
def fnExactDualPartitionRow : OpenClaim := { program := "ytblalbjedfmonaa", sum := "d0b93ffc0ec9b92c6fca1f32c99d37882a46aeffdfdd87f8a7a5f78cd17867c8", func := "loop.example/g00907/laws.FnExactDualPartition", spec := "fnExactDualPartition", unfollowed := true, recurses := true, apart := false }
def FnExactDualPartitionSaid : Prop := fnExactDualPartitionRow.holds Try.pinned (OpenSpec.ofChange fnExactDualPartitionSpec)

/-- ITS FALSE NEIGHBOUR: 'it returns false'. Refute it at one input. -/
def fnExactDualPartitionWrong : ChangeSpec := { name := "fnExactDualPartition", fn := fun _ => fun
  | [d1, d2, d3] => { results := [.lit (.bool false)], args := [d1, d2, d3] }
  | _ => none }
def FnExactDualPartitionWrongFalsely : Prop := fnExactDualPartitionRow.holds Try.pinned (OpenSpec.ofChange fnExactDualPartitionWrong)

/-- 'laws.FnExactPartitionLomuto': WHATEVER THE INPUT: true; the input reads as it did. -/
def fnExactPartitionLomutoSpec : ChangeSpec := { name := "fnExactPartitionLomuto", fn := fun _ => fun
  | [d1, d2] => { results := [.lit (.bool true)], args := [d1, d2] }
  | _ => none }
def fnExactPartitionLomutoRow : OpenClaim := { program := "ytblalbjedfmonaa", sum := "d0b93ffc0ec9b92c6fca1f32c99d37882a46aeffdfdd87f8a7a5f78cd17867c8", func := "loop.example/g00907/laws.FnExactPartitionLomuto", spec := "fnExactPartitionLomuto", unfollowed := true, recurses := true, apart := false }
def FnExactPartitionLomutoSaid : Prop := fnExactPartitionLomutoRow.holds Try.pinned (OpenSpec.ofChange fnExactPartitionLomutoSpec)

/-- ITS FALSE NEIGHBOUR: 'it returns false'. Refute it at one input. -/
def fnExactPartitionLomutoWrong : ChangeSpec := { name := "fnExactPartitionLomuto", fn := fun _ => fun
  | [d1, d2] => { results := [.lit (.bool false)], args := [d1, d2] }
  | _ => none }
def FnExactPartitionLomutoWrongFalsely : Prop := fnExactPartitionLomutoRow.holds Try.pinned (OpenSpec.ofChange fnExactPartitionLomutoWrong)

/-- 'laws.FnExactPartitionHoare': WHATEVER THE INPUT: true; the input reads as it did. -/
def fnExactPartitionHoareSpec : ChangeSpec := { name := "fnExactPartitionHoare", fn := fun _ => fun
  | [d] => { results := [.lit (.bool true)], args := [d] }
  | _ => none }
def fnExactPartitionHoareRow : OpenClaim := { program := "ytblalbjedfmonaa", sum := "d0b93ffc0ec9b92c6fca1f32c99d37882a46aeffdfdd87f8a7a5f78cd17867c8", func := "loop.example/g00907/laws.FnExactPartitionHoare", spec := "fnExactPartitionHoare", unfollowed := true, recurses := true, apart := false }
def FnExactPartitionHoareSaid : Prop := fnExactPartitionHoareRow.holds Try.pinned (OpenSpec.ofChange fnExactPartitionHoareSpec)

/-- ITS FALSE NEIGHBOUR: 'it returns false'. Refute it at one input. -/
def fnExactPartitionHoareWrong : ChangeSpec := { name := "fnExactPartitionHoare", fn := fun _ => fun
  | [d] => { results := [.lit (.bool false)], args := [d] }
  | _ => none }
def FnExactPartitionHoareWrongFalsely : Prop := fnExactPartitionHoareRow.holds Try.pinned (OpenSpec.ofChange fnExactPartitionHoareWrong)

/-- 'laws.FnExactPartitionThreeWay': WHATEVER THE INPUT: true; the input reads as it did. -/
def fnExactPartitionThreeWaySpec : ChangeSpec := { name := "fnExactPartitionThreeWay", fn := fun _ => fun
  | [d1, d2] => { results := [.lit (.bool true)], args := [d1, d2] }
  | _ => none }
def fnExactPartitionThreeWayRow : OpenClaim := { program := "ytblalbjedfmonaa", sum := "d0b93ffc0ec9b92c6fca1f32c99d37882a46aeffdfdd87f8a7a5f78cd17867c8", func := "loop.example/g00907/laws.FnExactPartitionThreeWay", spec := "fnExactPartitionThreeWay", unfollowed := true, recurses := true, apart := false }
def FnExactPartitionThreeWaySaid : Prop := fnExactPartitionThreeWayRow.holds Try.pinned (OpenSpec.ofChange fnExactPartitionThreeWaySpec)

/-- ITS FALSE NEIGHBOUR: 'it returns false'. Refute it at one input. -/
def fnExactPartitionThreeWayWrong : ChangeSpec := { name := "fnExactPartitionThreeWay", fn := fun _ => fun
  | [d1, d2] => { results := [.lit (.bool false)], args := [d1, d2] }
  | _ => none }
def FnExactPartitionThreeWayWrongFalsely : Prop := fnExactPartitionThreeWayRow.holds Try.pinned (OpenSpec.ofChange fnExactPartitionThreeWayWrong)

/-- 'laws.FnExactQuickSort': WHATEVER THE INPUT: true; the input reads as it did. -/
def fnExactQuickSortSpec : ChangeSpec := { name := "fnExactQuickSort", fn := fun _ => fun
  | [d] => { results := [.lit (.bool true)], args := [d] }
  | _ => none }
def fnExactQuickSortRow : OpenClaim := { program := "ytblalbjedfmonaa", sum := "d0b93ffc0ec9b92c6fca1f32c99d37882a46aeffdfdd87f8a7a5f78cd17867c8", func := "loop.example/g00907/laws.FnExactQuickSort", spec := "fnExactQuickSort", unfollowed := true, recurses := true, apart := false }
def FnExactQuickSortSaid : Prop := fnExactQuickSortRow.holds Try.pinned (OpenSpec.ofChange fnExactQuickSortSpec)

/-- ITS FALSE NEIGHBOUR: 'it returns false'. Refute it at one input. -/
def fnExactQuickSortWrong : ChangeSpec := { name := "fnExactQuickSort", fn := fun _ => fun
  | [d] => { results := [.lit (.bool false)], args := [d] }
  | _ => none }
def FnExactQuickSortWrongFalsely : Prop := fnExactQuickSortRow.holds Try.pinned (OpenSpec.ofChange fnExactQuickSortWrong)

/-- 'laws.FnExactIntroSort': WHATEVER THE INPUT: true; the input reads as it did. -/
def fnExactIntroSortSpec : ChangeSpec := { name := "fnExactIntroSort", fn := fun _ => fun
  | [d1, d2] => { results := [.lit (.bool true)], args := [d1, d2] }
  | _ => none }
def fnExactIntroSortRow : OpenClaim := { program := "ytblalbjedfmonaa", sum := "d0b93ffc0ec9b92c6fca1f32c99d37882a46aeffdfdd87f8a7a5f78cd17867c8", func := "loop.example/g00907/laws.FnExactIntroSort", spec := "fnExactIntroSort", unfollowed := true, recurses := true, apart := false }
def FnExactIntroSortSaid : Prop := fnExactIntroSortRow.holds Try.pinned (OpenSpec.ofChange fnExactIntroSortSpec)

/-- ITS FALSE NEIGHBOUR: 'it returns false'. Refute it at one input. -/
def fnExactIntroSortWrong : ChangeSpec := { name := "fnExactIntroSort", fn := fun _ => fun
  | [d1, d2] => { results := [.lit (.bool false)], args := [d1, d2] }
  | _ => none }
def FnExactIntroSortWrongFalsely : Prop := fnExactIntroSortRow.holds Try.pinned (OpenSpec.ofChange fnExactIntroSortWrong)

/-- 'laws.FnExactReplaceTop': WHATEVER THE INPUT: true; the input reads as it did. -/
def fnExactReplaceTopSpec : ChangeSpec := { name := "fnExactReplaceTop", fn := fun _ => fun
  | [d1, d2, d3] => { results := [.lit (.bool true)], args := [d1, d2, d3] }
  | _ => none }
def fnExactReplaceTopRow : OpenClaim := { program := "ytblalbjedfmonaa", sum := "d0b93ffc0ec9b92c6fca1f32c99d37882a46aeffdfdd87f8a7a5f78cd17867c8", func := "loop.example/g00907/laws.FnExactReplaceTop", spec := "fnExactReplaceTop", unfollowed := true, recurses := true, apart := false }
def FnExactReplaceTopSaid : Prop := fnExactReplaceTopRow.holds Try.pinned (OpenSpec.ofChange fnExactReplaceTopSpec)

/-- ITS FALSE NEIGHBOUR: 'it returns false'. Refute it at one input. -/
def fnExactReplaceTopWrong : ChangeSpec := { name := "fnExactReplaceTop", fn := fun _ => fun
  | [d1, d2, d3] => { results := [.lit (.bool false)], args := [d1, d2, d3] }
  | _ => none }
def FnExactReplaceTopWrongFalsely : Prop := fnExactReplaceTopRow.holds Try.pinned (OpenSpec.ofChange fnExactReplaceTopWrong)

/-- 'laws.FnExactPopHeap': WHATEVER THE INPUT: true; the input reads as it did. -/
def fnExactPopHeapSpec : ChangeSpec := { name := "fnExactPopHeap", fn := fun _ => fun
  | [d1, d2] => { results := [.lit (.bool true)], args := [d1, d2] }
  | _ => none }
def fnExactPopHeapRow : OpenClaim := { program := "ytblalbjedfmonaa", sum := "d0b93ffc0ec9b92c6fca1f32c99d37882a46aeffdfdd87f8a7a5f78cd17867c8", func := "loop.example/g00907/laws.FnExactPopHeap", spec := "fnExactPopHeap", unfollowed := true, recurses := true, apart := false }
def FnExactPopHeapSaid : Prop := fnExactPopHeapRow.holds Try.pinned (OpenSpec.ofChange fnExactPopHeapSpec)

/-- ITS FALSE NEIGHBOUR: 'it returns false'. Refute it at one input. -/
def fnExactPopHeapWrong : ChangeSpec := { name := "fnExactPopHeap", fn := fun _ => fun
  | [d1, d2] => { results := [.lit (.bool false)], args := [d1, d2] }
  | _ => none }
def FnExactPopHeapWrongFalsely : Prop := fnExactPopHeapRow.holds Try.pinned (OpenSpec.ofChange fnExactPopHeapWrong)

/-- 'laws.FnExactHeapSort': WHATEVER THE INPUT: true; the input reads as it did. -/
def fnExactHeapSortSpec : ChangeSpec := { name := "fnExactHeapSort", fn := fun _ => fun
  | [d1, d2] => { results := [.lit (.bool true)], args := [d1, d2] }
  | _ => none }
def fnExactHeapSortRow : OpenClaim := { program := "ytblalbjedfmonaa", sum := "d0b93ffc0ec9b92c6fca1f32c99d37882a46aeffdfdd87f8a7a5f78cd17867c8", func := "loop.example/g00907/laws.FnExactHeapSort", spec := "fnExactHeapSort", unfollowed := true, recurses := true, apart := false }
def FnExactHeapSortSaid : Prop := fnExactHeapSortRow.holds Try.pinned (OpenSpec.ofChange fnExactHeapSortSpec)

/-- ITS FALSE NEIGHBOUR: 'it returns false'. Refute it at one input. -/
def fnExactHeapSortWrong : ChangeSpec := { name := "fnExactHeapSort", fn := fun _ => fun
  | [d1, d2] => { results := [.lit (.bool false)], args := [d1, d2] }
  | _ => none }
def FnExactHeapSortWrongFalsely : Prop := fnExactHeapSortRow.holds Try.pinned (OpenSpec.ofChange fnExactHeapSortWrong)

/-- 'laws.FnExactMergeHeaps': WHATEVER THE INPUT: true; the input reads as it did. -/
def fnExactMergeHeapsSpec : ChangeSpec := { name := "fnExactMergeHeaps", fn := fun _ => fun
  | [d1, d2, d3] => { results := [.lit (.bool true)], args := [d1, d2, d3] }
  | _ => none }
def fnExactMergeHeapsRow : OpenClaim := { program := "ytblalbjedfmonaa", sum := "d0b93ffc0ec9b92c6fca1f32c99d37882a46aeffdfdd87f8a7a5f78cd17867c8", func := "loop.example/g00907/laws.FnExactMergeHeaps", spec := "fnExactMergeHeaps", unfollowed := true, recurses := true, apart := false }
def FnExactMergeHeapsSaid : Prop := fnExactMergeHeapsRow.holds Try.pinned (OpenSpec.ofChange fnExactMergeHeapsSpec)

/-- ITS FALSE NEIGHBOUR: 'it returns false'. Refute it at one input. -/
def fnExactMergeHeapsWrong : ChangeSpec := { name := "fnExactMergeHeaps", fn := fun _ => fun
  | [d1, d2, d3] => { results := [.lit (.bool false)], args := [d1, d2, d3] }
  | _ => none }
def FnExactMergeHeapsWrongFalsely : Prop := fnExactMergeHeapsRow.holds Try.pinned (OpenSpec.ofChange fnExactMergeHeapsWrong)

/-- 'laws.FnExactQuickSelect': WHATEVER THE INPUT: true; the input reads as it did. -/
def fnExactQuickSelectSpec : ChangeSpec := { name := "fnExactQuickSelect", fn := fun _ => fun
  | [d1, d2] => { results := [.lit (.bool true)], args := [d1, d2] }
  | _ => none }
def fnExactQuickSelectRow : OpenClaim := { program := "ytblalbjedfmonaa", sum := "d0b93ffc0ec9b92c6fca1f32c99d37882a46aeffdfdd87f8a7a5f78cd17867c8", func := "loop.example/g00907/laws.FnExactQuickSelect", spec := "fnExactQuickSelect", unfollowed := true, recurses := true, apart := false }
def FnExactQuickSelectSaid : Prop := fnExactQuickSelectRow.holds Try.pinned (OpenSpec.ofChange fnExactQuickSelectSpec)

/-- ITS FALSE NEIGHBOUR: 'it returns false'. Refute it at one input. -/
def fnExactQuickSelectWrong : ChangeSpec := { name := "fnExactQuickSelect", fn := fun _ => fun
  | [d1, d2] => { results := [.lit (.bool false)], args := [d1, d2] }
  | _ => none }
def FnExactQuickSelectWrongFalsely : Prop := fnExactQuickSelectRow.holds Try.pinned (OpenSpec.ofChange fnExactQuickSelectWrong)

/-- 'laws.FnExactFlagPass': WHATEVER THE INPUT: true; the input reads as it did. -/
def fnExactFlagPassSpec : ChangeSpec := { name := "fnExactFlagPass", fn := fun _ => fun
  | [d1, d2, d3] => { results := [.lit (.bool true)], args := [d1, d2, d3] }
  | _ => none }
def fnExactFlagPassRow : OpenClaim := { program := "ytblalbjedfmonaa", sum := "d0b93ffc0ec9b92c6fca1f32c99d37882a46aeffdfdd87f8a7a5f78cd17867c8", func := "loop.example/g00907/laws.FnExactFlagPass", spec := "fnExactFlagPass", unfollowed := true, recurses := true, apart := false }
def FnExactFlagPassSaid : Prop := fnExactFlagPassRow.holds Try.pinned (OpenSpec.ofChange fnExactFlagPassSpec)

/-- ITS FALSE NEIGHBOUR: 'it returns false'. Refute it at one input. -/
def fnExactFlagPassWrong : ChangeSpec := { name := "fnExactFlagPass", fn := fun _ => fun
  | [d1, d2, d3] => { results := [.lit (.bool false)], args := [d1, d2, d3] }
  | _ => none }
def FnExactFlagPassWrongFalsely : Prop := fnExactFlagPassRow.holds Try.pinned (OpenSpec.ofChange fnExactFlagPassWrong)

/- THE SECOND FORM. 'bulk': how many values and letters a reading holds, each counted each time it is reached (what is shared counts as often as it is met; a slice's spare places count too). A statement '..UptoSaid' is the law's where the arguments, and the package variables that the reading takes, are together of bulk at most 1048576: NARROWER than '..Said'. Prove '..Said' where nothing that the law and all that it calls make is longer than what came in: it says more and counts as full. Else prove '..UptoSaid'. A law counts once. -/
mutual
def uptoBulk {H : Type} : DataW H → Nat
  | .lit (.string bytes) => bytes.length + 1
  | .lit _ => 1
  | .nil => 1
  | .ptr d => uptoBulk d + 1
  | .slice elems spare => uptoBulkAll elems + uptoBulkAll spare + 1
  | .agg parts => uptoBulkAll parts + 1
  | .iface _ d => uptoBulk d + 1
  | .map entries => uptoBulkEntries entries + 1
  | .held _ => 1
def uptoBulkAll {H : Type} : List (DataW H) → Nat
  | [] => 0
  | d :: r => uptoBulk d + uptoBulkAll r
def uptoBulkEntries {H : Type} : List (Lit × DataW H) → Nat
  | [] => 0
  | x :: r => uptoBulkEntry x + uptoBulkEntries r
def uptoBulkEntry {H : Type} : Lit × DataW H → Nat
  | (.string bytes, d) => bytes.length + uptoBulk d + 1
  | (_, d) => uptoBulk d + 1
 end
def uptoSmall : (H : Type) → List (DataW H) → Bool := fun _ ds => decide (uptoBulkAll ds ≤ 1048576)
def OpenSpec.upto (s : _root_.Go.ChangeSpec) : _root_.Go.OpenSpec := { _root_.Go.OpenSpec.ofChange s with cond := some uptoSmall }

/-- 'laws.FnExactDualPartition', WHERE WHAT IT READS IS OF BULK AT MOST 1048576: true; the input reads as it did. -/
def fnExactDualPartitionUptoRow : OpenClaim := { program := "ytblalbjedfmonaa", sum := "d0b93ffc0ec9b92c6fca1f32c99d37882a46aeffdfdd87f8a7a5f78cd17867c8", func := "loop.example/g00907/laws.FnExactDualPartition", spec := "fnExactDualPartition", unfollowed := true, recurses := true, apart := false, narrowed := true }
def FnExactDualPartitionUptoSaid : Prop := fnExactDualPartitionUptoRow.holds Try.pinned (OpenSpec.upto fnExactDualPartitionSpec)

/-- 'laws.FnExactPartitionLomuto', WHERE WHAT IT READS IS OF BULK AT MOST 1048576: true; the input reads as it did. -/
def fnExactPartitionLomutoUptoRow : OpenClaim := { program := "ytblalbjedfmonaa", sum := "d0b93ffc0ec9b92c6fca1f32c99d37882a46aeffdfdd87f8a7a5f78cd17867c8", func := "loop.example/g00907/laws.FnExactPartitionLomuto", spec := "fnExactPartitionLomuto", unfollowed := true, recurses := true, apart := false, narrowed := true }
def FnExactPartitionLomutoUptoSaid : Prop := fnExactPartitionLomutoUptoRow.holds Try.pinned (OpenSpec.upto fnExactPartitionLomutoSpec)

/-- 'laws.FnExactPartitionHoare', WHERE WHAT IT READS IS OF BULK AT MOST 1048576: true; the input reads as it did. -/
def fnExactPartitionHoareUptoRow : OpenClaim := { program := "ytblalbjedfmonaa", sum := "d0b93ffc0ec9b92c6fca1f32c99d37882a46aeffdfdd87f8a7a5f78cd17867c8", func := "loop.example/g00907/laws.FnExactPartitionHoare", spec := "fnExactPartitionHoare", unfollowed := true, recurses := true, apart := false, narrowed := true }
def FnExactPartitionHoareUptoSaid : Prop := fnExactPartitionHoareUptoRow.holds Try.pinned (OpenSpec.upto fnExactPartitionHoareSpec)

/-- 'laws.FnExactPartitionThreeWay', WHERE WHAT IT READS IS OF BULK AT MOST 1048576: true; the input reads as it did. -/
def fnExactPartitionThreeWayUptoRow : OpenClaim := { program := "ytblalbjedfmonaa", sum := "d0b93ffc0ec9b92c6fca1f32c99d37882a46aeffdfdd87f8a7a5f78cd17867c8", func := "loop.example/g00907/laws.FnExactPartitionThreeWay", spec := "fnExactPartitionThreeWay", unfollowed := true, recurses := true, apart := false, narrowed := true }
def FnExactPartitionThreeWayUptoSaid : Prop := fnExactPartitionThreeWayUptoRow.holds Try.pinned (OpenSpec.upto fnExactPartitionThreeWaySpec)

/-- 'laws.FnExactQuickSort', WHERE WHAT IT READS IS OF BULK AT MOST 1048576: true; the input reads as it did. -/
def fnExactQuickSortUptoRow : OpenClaim := { program := "ytblalbjedfmonaa", sum := "d0b93ffc0ec9b92c6fca1f32c99d37882a46aeffdfdd87f8a7a5f78cd17867c8", func := "loop.example/g00907/laws.FnExactQuickSort", spec := "fnExactQuickSort", unfollowed := true, recurses := true, apart := false, narrowed := true }
def FnExactQuickSortUptoSaid : Prop := fnExactQuickSortUptoRow.holds Try.pinned (OpenSpec.upto fnExactQuickSortSpec)

/-- 'laws.FnExactIntroSort', WHERE WHAT IT READS IS OF BULK AT MOST 1048576: true; the input reads as it did. -/
def fnExactIntroSortUptoRow : OpenClaim := { program := "ytblalbjedfmonaa", sum := "d0b93ffc0ec9b92c6fca1f32c99d37882a46aeffdfdd87f8a7a5f78cd17867c8", func := "loop.example/g00907/laws.FnExactIntroSort", spec := "fnExactIntroSort", unfollowed := true, recurses := true, apart := false, narrowed := true }
def FnExactIntroSortUptoSaid : Prop := fnExactIntroSortUptoRow.holds Try.pinned (OpenSpec.upto fnExactIntroSortSpec)

/-- 'laws.FnExactReplaceTop', WHERE WHAT IT READS IS OF BULK AT MOST 1048576: true; the input reads as it did. -/
def fnExactReplaceTopUptoRow : OpenClaim := { program := "ytblalbjedfmonaa", sum := "d0b93ffc0ec9b92c6fca1f32c99d37882a46aeffdfdd87f8a7a5f78cd17867c8", func := "loop.example/g00907/laws.FnExactReplaceTop", spec := "fnExactReplaceTop", unfollowed := true, recurses := true, apart := false, narrowed := true }
def FnExactReplaceTopUptoSaid : Prop := fnExactReplaceTopUptoRow.holds Try.pinned (OpenSpec.upto fnExactReplaceTopSpec)

/-- 'laws.FnExactPopHeap', WHERE WHAT IT READS IS OF BULK AT MOST 1048576: true; the input reads as it did. -/
def fnExactPopHeapUptoRow : OpenClaim := { program := "ytblalbjedfmonaa", sum := "d0b93ffc0ec9b92c6fca1f32c99d37882a46aeffdfdd87f8a7a5f78cd17867c8", func := "loop.example/g00907/laws.FnExactPopHeap", spec := "fnExactPopHeap", unfollowed := true, recurses := true, apart := false, narrowed := true }
def FnExactPopHeapUptoSaid : Prop := fnExactPopHeapUptoRow.holds Try.pinned (OpenSpec.upto fnExactPopHeapSpec)

/-- 'laws.FnExactHeapSort', WHERE WHAT IT READS IS OF BULK AT MOST 1048576: true; the input reads as it did. -/
def fnExactHeapSortUptoRow : OpenClaim := { program := "ytblalbjedfmonaa", sum := "d0b93ffc0ec9b92c6fca1f32c99d37882a46aeffdfdd87f8a7a5f78cd17867c8", func := "loop.example/g00907/laws.FnExactHeapSort", spec := "fnExactHeapSort", unfollowed := true, recurses := true, apart := false, narrowed := true }
def FnExactHeapSortUptoSaid : Prop := fnExactHeapSortUptoRow.holds Try.pinned (OpenSpec.upto fnExactHeapSortSpec)

/-- 'laws.FnExactMergeHeaps', WHERE WHAT IT READS IS OF BULK AT MOST 1048576: true; the input reads as it did. -/
def fnExactMergeHeapsUptoRow : OpenClaim := { program := "ytblalbjedfmonaa", sum := "d0b93ffc0ec9b92c6fca1f32c99d37882a46aeffdfdd87f8a7a5f78cd17867c8", func := "loop.example/g00907/laws.FnExactMergeHeaps", spec := "fnExactMergeHeaps", unfollowed := true, recurses := true, apart := false, narrowed := true }
def FnExactMergeHeapsUptoSaid : Prop := fnExactMergeHeapsUptoRow.holds Try.pinned (OpenSpec.upto fnExactMergeHeapsSpec)

/-- 'laws.FnExactQuickSelect', WHERE WHAT IT READS IS OF BULK AT MOST 1048576: true; the input reads as it did. -/
def fnExactQuickSelectUptoRow : OpenClaim := { program := "ytblalbjedfmonaa", sum := "d0b93ffc0ec9b92c6fca1f32c99d37882a46aeffdfdd87f8a7a5f78cd17867c8", func := "loop.example/g00907/laws.FnExactQuickSelect", spec := "fnExactQuickSelect", unfollowed := true, recurses := true, apart := false, narrowed := true }
def FnExactQuickSelectUptoSaid : Prop := fnExactQuickSelectUptoRow.holds Try.pinned (OpenSpec.upto fnExactQuickSelectSpec)

/-- 'laws.FnExactFlagPass', WHERE WHAT IT READS IS OF BULK AT MOST 1048576: true; the input reads as it did. -/
def fnExactFlagPassUptoRow : OpenClaim := { program := "ytblalbjedfmonaa", sum := "d0b93ffc0ec9b92c6fca1f32c99d37882a46aeffdfdd87f8a7a5f78cd17867c8", func := "loop.example/g00907/laws.FnExactFlagPass", spec := "fnExactFlagPass", unfollowed := true, recurses := true, apart := false, narrowed := true }
def FnExactFlagPassUptoSaid : Prop := fnExactFlagPassUptoRow.holds Try.pinned (OpenSpec.upto fnExactFlagPassSpec)

end Rows
end Go.Proofs.Ytblalbjedfmonaa
