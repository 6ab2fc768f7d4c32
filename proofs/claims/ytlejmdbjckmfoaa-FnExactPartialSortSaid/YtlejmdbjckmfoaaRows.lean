/-
  No cell of these rows narrows 'for every input' (looked for: loops, veiled, ifaces, maps, wideKeys, modest, calm, conditions, laid).
  DERIVED. THE GIVEN ROWS OF THIS SEAT. 9 by the template 'for every input the law returns true; each argument reads behind the call as it read before'; 0 by the template 'total and deterministic' (their statements: YtlejmdbjckmfoaaTotals.lean).
  GIVEN WITH THE SEED: the statements are not yours to turn. If you find one false, say at which input.
  Laid BY PROGRAM, IN A SANDBOX (cutbox-rows.mjs): the forced cells as the released guide's own fill.sh prints them over the translation 33cdb060308f01df… (all of the seat's roots in one cut). By AI agents, Wed Nov 11 2026. No macro, syntax, notation, axiom, sorry.
-/
import Derived.Test.YtlejmdbjckmfoaaChecked
import GoSem.Claim
import GoSem.ClaimJoined
import GoSem.ClaimMapViews
import Derived.JoinedTies
import Derived.KernelRfl
namespace Go.Proofs.Ytlejmdbjckmfoaa
/- THE CELL 'sum', in the pinned program and in every row, IS THE sha256 OF THE DUMP (.gsa) THAT YtlejmdbjckmfoaaProg.lean LOADS. Nothing in Lean hashes anything: it is a label: what it is worth is what the hold of that sum in a sandbox is worth. -/
noncomputable def Try.pinned : Pinned := { name := "ytlejmdbjckmfoaa", sum := "33cdb060308f01df9a570e737d55f960e12c2192b230725bd9f72234a5eceaeb", checked := Try.checked }
namespace Rows
def none {H : Type} : Left H := { results := [], args := [] }

/-- 'laws.FnExactWeightedMedian': WHATEVER THE INPUT: true; the input reads as it did. -/
def fnExactWeightedMedianSpec : ChangeSpec := { name := "fnExactWeightedMedian", fn := fun _ => fun
  | [d1, d2] => { results := [.lit (.bool true)], args := [d1, d2] }
  | _ => none }
def fnExactWeightedMedianRow : OpenClaim := { program := "ytlejmdbjckmfoaa", sum := "33cdb060308f01df9a570e737d55f960e12c2192b230725bd9f72234a5eceaeb", func := "loop.example/g00907/laws.FnExactWeightedMedian", spec := "fnExactWeightedMedian", unfollowed := true, recurses := true, apart := false }
def FnExactWeightedMedianSaid : Prop := fnExactWeightedMedianRow.holds Try.pinned (OpenSpec.ofChange fnExactWeightedMedianSpec)

/-- ITS FALSE NEIGHBOUR: 'it returns false'. Refute it at one input. -/
def fnExactWeightedMedianWrong : ChangeSpec := { name := "fnExactWeightedMedian", fn := fun _ => fun
  | [d1, d2] => { results := [.lit (.bool false)], args := [d1, d2] }
  | _ => none }
def FnExactWeightedMedianWrongFalsely : Prop := fnExactWeightedMedianRow.holds Try.pinned (OpenSpec.ofChange fnExactWeightedMedianWrong)

/-- 'laws.FnExactPartialSort': WHATEVER THE INPUT: true; the input reads as it did. -/
def fnExactPartialSortSpec : ChangeSpec := { name := "fnExactPartialSort", fn := fun _ => fun
  | [d1, d2] => { results := [.lit (.bool true)], args := [d1, d2] }
  | _ => none }
def fnExactPartialSortRow : OpenClaim := { program := "ytlejmdbjckmfoaa", sum := "33cdb060308f01df9a570e737d55f960e12c2192b230725bd9f72234a5eceaeb", func := "loop.example/g00907/laws.FnExactPartialSort", spec := "fnExactPartialSort", unfollowed := true, recurses := true, apart := false }
def FnExactPartialSortSaid : Prop := fnExactPartialSortRow.holds Try.pinned (OpenSpec.ofChange fnExactPartialSortSpec)

/-- ITS FALSE NEIGHBOUR: 'it returns false'. Refute it at one input. -/
def fnExactPartialSortWrong : ChangeSpec := { name := "fnExactPartialSort", fn := fun _ => fun
  | [d1, d2] => { results := [.lit (.bool false)], args := [d1, d2] }
  | _ => none }
def FnExactPartialSortWrongFalsely : Prop := fnExactPartialSortRow.holds Try.pinned (OpenSpec.ofChange fnExactPartialSortWrong)

/-- 'laws.FnExactCountingSort': WHATEVER THE INPUT: true; the input reads as it did. -/
def fnExactCountingSortSpec : ChangeSpec := { name := "fnExactCountingSort", fn := fun _ => fun
  | [d1, d2, d3] => { results := [.lit (.bool true)], args := [d1, d2, d3] }
  | _ => none }
def fnExactCountingSortRow : OpenClaim := { program := "ytlejmdbjckmfoaa", sum := "33cdb060308f01df9a570e737d55f960e12c2192b230725bd9f72234a5eceaeb", func := "loop.example/g00907/laws.FnExactCountingSort", spec := "fnExactCountingSort", unfollowed := true, recurses := true, apart := false }
def FnExactCountingSortSaid : Prop := fnExactCountingSortRow.holds Try.pinned (OpenSpec.ofChange fnExactCountingSortSpec)

/-- ITS FALSE NEIGHBOUR: 'it returns false'. Refute it at one input. -/
def fnExactCountingSortWrong : ChangeSpec := { name := "fnExactCountingSort", fn := fun _ => fun
  | [d1, d2, d3] => { results := [.lit (.bool false)], args := [d1, d2, d3] }
  | _ => none }
def FnExactCountingSortWrongFalsely : Prop := fnExactCountingSortRow.holds Try.pinned (OpenSpec.ofChange fnExactCountingSortWrong)

/-- 'laws.FnExactRadixPass': WHATEVER THE INPUT: true; the input reads as it did. -/
def fnExactRadixPassSpec : ChangeSpec := { name := "fnExactRadixPass", fn := fun _ => fun
  | [d1, d2, d3] => { results := [.lit (.bool true)], args := [d1, d2, d3] }
  | _ => none }
def fnExactRadixPassRow : OpenClaim := { program := "ytlejmdbjckmfoaa", sum := "33cdb060308f01df9a570e737d55f960e12c2192b230725bd9f72234a5eceaeb", func := "loop.example/g00907/laws.FnExactRadixPass", spec := "fnExactRadixPass", unfollowed := true, recurses := true, apart := false }
def FnExactRadixPassSaid : Prop := fnExactRadixPassRow.holds Try.pinned (OpenSpec.ofChange fnExactRadixPassSpec)

/-- ITS FALSE NEIGHBOUR: 'it returns false'. Refute it at one input. -/
def fnExactRadixPassWrong : ChangeSpec := { name := "fnExactRadixPass", fn := fun _ => fun
  | [d1, d2, d3] => { results := [.lit (.bool false)], args := [d1, d2, d3] }
  | _ => none }
def FnExactRadixPassWrongFalsely : Prop := fnExactRadixPassRow.holds Try.pinned (OpenSpec.ofChange fnExactRadixPassWrong)

/-- 'laws.FnExactSortedPositions': WHATEVER THE INPUT: true; the input reads as it did. -/
def fnExactSortedPositionsSpec : ChangeSpec := { name := "fnExactSortedPositions", fn := fun _ => fun
  | [d] => { results := [.lit (.bool true)], args := [d] }
  | _ => none }
def fnExactSortedPositionsRow : OpenClaim := { program := "ytlejmdbjckmfoaa", sum := "33cdb060308f01df9a570e737d55f960e12c2192b230725bd9f72234a5eceaeb", func := "loop.example/g00907/laws.FnExactSortedPositions", spec := "fnExactSortedPositions", unfollowed := true, recurses := true, apart := false }
def FnExactSortedPositionsSaid : Prop := fnExactSortedPositionsRow.holds Try.pinned (OpenSpec.ofChange fnExactSortedPositionsSpec)

/-- ITS FALSE NEIGHBOUR: 'it returns false'. Refute it at one input. -/
def fnExactSortedPositionsWrong : ChangeSpec := { name := "fnExactSortedPositions", fn := fun _ => fun
  | [d] => { results := [.lit (.bool false)], args := [d] }
  | _ => none }
def FnExactSortedPositionsWrongFalsely : Prop := fnExactSortedPositionsRow.holds Try.pinned (OpenSpec.ofChange fnExactSortedPositionsWrong)

/-- 'laws.FnExactRadixSort': WHATEVER THE INPUT: true; the input reads as it did. -/
def fnExactRadixSortSpec : ChangeSpec := { name := "fnExactRadixSort", fn := fun _ => fun
  | [d1, d2] => { results := [.lit (.bool true)], args := [d1, d2] }
  | _ => none }
def fnExactRadixSortRow : OpenClaim := { program := "ytlejmdbjckmfoaa", sum := "33cdb060308f01df9a570e737d55f960e12c2192b230725bd9f72234a5eceaeb", func := "loop.example/g00907/laws.FnExactRadixSort", spec := "fnExactRadixSort", unfollowed := true, recurses := true, apart := false }
def FnExactRadixSortSaid : Prop := fnExactRadixSortRow.holds Try.pinned (OpenSpec.ofChange fnExactRadixSortSpec)

/-- ITS FALSE NEIGHBOUR: 'it returns false'. Refute it at one input. -/
def fnExactRadixSortWrong : ChangeSpec := { name := "fnExactRadixSort", fn := fun _ => fun
  | [d1, d2] => { results := [.lit (.bool false)], args := [d1, d2] }
  | _ => none }
def FnExactRadixSortWrongFalsely : Prop := fnExactRadixSortRow.holds Try.pinned (OpenSpec.ofChange fnExactRadixSortWrong)

/-- 'laws.FnPartial': WHATEVER THE INPUT: true; the input reads as it did. -/
def fnPartialSpec : ChangeSpec := { name := "fnPartial", fn := fun _ => fun
  | [d] => { results := [.lit (.bool true)], args := [d] }
  | _ => none }
def fnPartialRow : OpenClaim := { program := "ytlejmdbjckmfoaa", sum := "33cdb060308f01df9a570e737d55f960e12c2192b230725bd9f72234a5eceaeb", func := "loop.example/g00907/laws.FnPartial", spec := "fnPartial", unfollowed := true, recurses := true, apart := false }
def FnPartialSaid : Prop := fnPartialRow.holds Try.pinned (OpenSpec.ofChange fnPartialSpec)

/-- ITS FALSE NEIGHBOUR: 'it returns false'. Refute it at one input. -/
def fnPartialWrong : ChangeSpec := { name := "fnPartial", fn := fun _ => fun
  | [d] => { results := [.lit (.bool false)], args := [d] }
  | _ => none }
def FnPartialWrongFalsely : Prop := fnPartialRow.holds Try.pinned (OpenSpec.ofChange fnPartialWrong)

/-- 'laws.FnSelect': WHATEVER THE INPUT: true; the input reads as it did. -/
def fnSelectSpec : ChangeSpec := { name := "fnSelect", fn := fun _ => fun
  | [d] => { results := [.lit (.bool true)], args := [d] }
  | _ => none }
def fnSelectRow : OpenClaim := { program := "ytlejmdbjckmfoaa", sum := "33cdb060308f01df9a570e737d55f960e12c2192b230725bd9f72234a5eceaeb", func := "loop.example/g00907/laws.FnSelect", spec := "fnSelect", unfollowed := true, recurses := true, apart := false }
def FnSelectSaid : Prop := fnSelectRow.holds Try.pinned (OpenSpec.ofChange fnSelectSpec)

/-- ITS FALSE NEIGHBOUR: 'it returns false'. Refute it at one input. -/
def fnSelectWrong : ChangeSpec := { name := "fnSelect", fn := fun _ => fun
  | [d] => { results := [.lit (.bool false)], args := [d] }
  | _ => none }
def FnSelectWrongFalsely : Prop := fnSelectRow.holds Try.pinned (OpenSpec.ofChange fnSelectWrong)

/-- 'laws.FnExtremes': WHATEVER THE INPUT: true; the input reads as it did. -/
def fnExtremesSpec : ChangeSpec := { name := "fnExtremes", fn := fun _ => fun
  | [d] => { results := [.lit (.bool true)], args := [d] }
  | _ => none }
def fnExtremesRow : OpenClaim := { program := "ytlejmdbjckmfoaa", sum := "33cdb060308f01df9a570e737d55f960e12c2192b230725bd9f72234a5eceaeb", func := "loop.example/g00907/laws.FnExtremes", spec := "fnExtremes", unfollowed := true, recurses := true, apart := false }
def FnExtremesSaid : Prop := fnExtremesRow.holds Try.pinned (OpenSpec.ofChange fnExtremesSpec)

/-- ITS FALSE NEIGHBOUR: 'it returns false'. Refute it at one input. -/
def fnExtremesWrong : ChangeSpec := { name := "fnExtremes", fn := fun _ => fun
  | [d] => { results := [.lit (.bool false)], args := [d] }
  | _ => none }
def FnExtremesWrongFalsely : Prop := fnExtremesRow.holds Try.pinned (OpenSpec.ofChange fnExtremesWrong)

/- THE SECOND FORM. 'bulk': how many values and letters a reading holds, each counted each time it is reached (what is shared counts as often as it is met; a slice's spare places count too). A statement '..UptoSaid' is the law's where the arguments, and the package variables that the reading takes, are together of bulk at most 1048576: NARROWER than '..Said'. Prove '..Said' where nothing that the law and all that it calls make is longer than what came in: it says more and counts as full. Else prove '..UptoSaid'. A law counts once. -/
mutual
def uptoBulk {H : Type} : DataW H → Nat
  | .lit (.string bytes) => bytes.length + 1
  | .lit _ => 1
  | .nil => 1
  | .ptr d => uptoBulk d + 1
  | .slice elems spare => uptoBulkAll elems + uptoBulkAll spare + 1
  | .agg parts => uptoBulkAll parts + 1
  | .iface _ d => uptoBulk d + 1
  | .map entries => uptoBulkEntries entries + 1
  | .held _ => 1
def uptoBulkAll {H : Type} : List (DataW H) → Nat
  | [] => 0
  | d :: r => uptoBulk d + uptoBulkAll r
def uptoBulkEntries {H : Type} : List (Lit × DataW H) → Nat
  | [] => 0
  | x :: r => uptoBulkEntry x + uptoBulkEntries r
def uptoBulkEntry {H : Type} : Lit × DataW H → Nat
  | (.string bytes, d) => bytes.length + uptoBulk d + 1
  | (_, d) => uptoBulk d + 1
 end
def uptoSmall : (H : Type) → List (DataW H) → Bool := fun _ ds => decide (uptoBulkAll ds ≤ 1048576)
def OpenSpec.upto (s : _root_.Go.ChangeSpec) : _root_.Go.OpenSpec := { _root_.Go.OpenSpec.ofChange s with cond := some uptoSmall }

/-- 'laws.FnExactWeightedMedian', WHERE WHAT IT READS IS OF BULK AT MOST 1048576: true; the input reads as it did. -/
def fnExactWeightedMedianUptoRow : OpenClaim := { program := "ytlejmdbjckmfoaa", sum := "33cdb060308f01df9a570e737d55f960e12c2192b230725bd9f72234a5eceaeb", func := "loop.example/g00907/laws.FnExactWeightedMedian", spec := "fnExactWeightedMedian", unfollowed := true, recurses := true, apart := false, narrowed := true }
def FnExactWeightedMedianUptoSaid : Prop := fnExactWeightedMedianUptoRow.holds Try.pinned (OpenSpec.upto fnExactWeightedMedianSpec)

/-- 'laws.FnExactPartialSort', WHERE WHAT IT READS IS OF BULK AT MOST 1048576: true; the input reads as it did. -/
def fnExactPartialSortUptoRow : OpenClaim := { program := "ytlejmdbjckmfoaa", sum := "33cdb060308f01df9a570e737d55f960e12c2192b230725bd9f72234a5eceaeb", func := "loop.example/g00907/laws.FnExactPartialSort", spec := "fnExactPartialSort", unfollowed := true, recurses := true, apart := false, narrowed := true }
def FnExactPartialSortUptoSaid : Prop := fnExactPartialSortUptoRow.holds Try.pinned (OpenSpec.upto fnExactPartialSortSpec)

/-- 'laws.FnExactCountingSort', WHERE WHAT IT READS IS OF BULK AT MOST 1048576: true; the input reads as it did. -/
def fnExactCountingSortUptoRow : OpenClaim := { program := "ytlejmdbjckmfoaa", sum := "33cdb060308f01df9a570e737d55f960e12c2192b230725bd9f72234a5eceaeb", func := "loop.example/g00907/laws.FnExactCountingSort", spec := "fnExactCountingSort", unfollowed := true, recurses := true, apart := false, narrowed := true }
def FnExactCountingSortUptoSaid : Prop := fnExactCountingSortUptoRow.holds Try.pinned (OpenSpec.upto fnExactCountingSortSpec)

/-- 'laws.FnExactRadixPass', WHERE WHAT IT READS IS OF BULK AT MOST 1048576: true; the input reads as it did. -/
def fnExactRadixPassUptoRow : OpenClaim := { program := "ytlejmdbjckmfoaa", sum := "33cdb060308f01df9a570e737d55f960e12c2192b230725bd9f72234a5eceaeb", func := "loop.example/g00907/laws.FnExactRadixPass", spec := "fnExactRadixPass", unfollowed := true, recurses := true, apart := false, narrowed := true }
def FnExactRadixPassUptoSaid : Prop := fnExactRadixPassUptoRow.holds Try.pinned (OpenSpec.upto fnExactRadixPassSpec)

/-- 'laws.FnExactSortedPositions', WHERE WHAT IT READS IS OF BULK AT MOST 1048576: true; the input reads as it did. -/
def fnExactSortedPositionsUptoRow : OpenClaim := { program := "ytlejmdbjckmfoaa", sum := "33cdb060308f01df9a570e737d55f960e12c2192b230725bd9f72234a5eceaeb", func := "loop.example/g00907/laws.FnExactSortedPositions", spec := "fnExactSortedPositions", unfollowed := true, recurses := true, apart := false, narrowed := true }
def FnExactSortedPositionsUptoSaid : Prop := fnExactSortedPositionsUptoRow.holds Try.pinned (OpenSpec.upto fnExactSortedPositionsSpec)

/-- 'laws.FnExactRadixSort', WHERE WHAT IT READS IS OF BULK AT MOST 1048576: true; the input reads as it did. -/
def fnExactRadixSortUptoRow : OpenClaim := { program := "ytlejmdbjckmfoaa", sum := "33cdb060308f01df9a570e737d55f960e12c2192b230725bd9f72234a5eceaeb", func := "loop.example/g00907/laws.FnExactRadixSort", spec := "fnExactRadixSort", unfollowed := true, recurses := true, apart := false, narrowed := true }
def FnExactRadixSortUptoSaid : Prop := fnExactRadixSortUptoRow.holds Try.pinned (OpenSpec.upto fnExactRadixSortSpec)

/-- 'laws.FnPartial', WHERE WHAT IT READS IS OF BULK AT MOST 1048576: true; the input reads as it did. -/
def fnPartialUptoRow : OpenClaim := { program := "ytlejmdbjckmfoaa", sum := "33cdb060308f01df9a570e737d55f960e12c2192b230725bd9f72234a5eceaeb", func := "loop.example/g00907/laws.FnPartial", spec := "fnPartial", unfollowed := true, recurses := true, apart := false, narrowed := true }
def FnPartialUptoSaid : Prop := fnPartialUptoRow.holds Try.pinned (OpenSpec.upto fnPartialSpec)

/-- 'laws.FnSelect', WHERE WHAT IT READS IS OF BULK AT MOST 1048576: true; the input reads as it did. -/
def fnSelectUptoRow : OpenClaim := { program := "ytlejmdbjckmfoaa", sum := "33cdb060308f01df9a570e737d55f960e12c2192b230725bd9f72234a5eceaeb", func := "loop.example/g00907/laws.FnSelect", spec := "fnSelect", unfollowed := true, recurses := true, apart := false, narrowed := true }
def FnSelectUptoSaid : Prop := fnSelectUptoRow.holds Try.pinned (OpenSpec.upto fnSelectSpec)

/-- 'laws.FnExtremes', WHERE WHAT IT READS IS OF BULK AT MOST 1048576: true; the input reads as it did. -/
def fnExtremesUptoRow : OpenClaim := { program := "ytlejmdbjckmfoaa", sum := "33cdb060308f01df9a570e737d55f960e12c2192b230725bd9f72234a5eceaeb", func := "loop.example/g00907/laws.FnExtremes", spec := "fnExtremes", unfollowed := true, recurses := true, apart := false, narrowed := true }
def FnExtremesUptoSaid : Prop := fnExtremesUptoRow.holds Try.pinned (OpenSpec.upto fnExtremesSpec)

end Rows
end Go.Proofs.Ytlejmdbjckmfoaa
