/-
  No cell of these rows narrows 'for every input' (looked for: loops, veiled, ifaces, maps, wideKeys, modest, calm, conditions, laid).
  DERIVED. THE GIVEN ROWS OF THIS SEAT. 12 by the template 'for every input the law returns true; each argument reads behind the call as it read before'; 0 by the template 'total and deterministic' (their statements: YtgbmbkhljmkkjaaTotals.lean).
  GIVEN WITH THE SEED: the statements are not yours to turn. If you find one false, say at which input.
  Laid BY PROGRAM, IN A SANDBOX (cutbox-rows.mjs): the forced cells as the released guide's own fill.sh prints them over the translation ecf30057f4ad572d… (all of the seat's roots in one cut). By AI agents, Wed Nov 11 2026. No macro, syntax, notation, axiom, sorry.
-/
import Derived.Test.YtgbmbkhljmkkjaaChecked
import GoSem.Claim
import GoSem.ClaimJoined
import GoSem.ClaimMapViews
import Derived.JoinedTies
import Derived.KernelRfl
namespace Go.Proofs.Ytgbmbkhljmkkjaa
/- THE CELL 'sum', in the pinned program and in every row, IS THE sha256 OF THE DUMP (.gsa) THAT YtgbmbkhljmkkjaaProg.lean LOADS. Nothing in Lean hashes anything: it is a label: what it is worth is what the hold of that sum in a sandbox is worth. -/
noncomputable def Try.pinned : Pinned := { name := "ytgbmbkhljmkkjaa", sum := "ecf30057f4ad572d6b3c0b8fb15bdf9bbdfd82982d22e27a32068f08c216ab39", checked := Try.checked }
namespace Rows
def none {H : Type} : Left H := { results := [], args := [] }

/-- 'laws.FnExactDigitOf': WHATEVER THE INPUT: true; the input reads as it did. -/
def fnExactDigitOfSpec : ChangeSpec := { name := "fnExactDigitOf", fn := fun _ => fun
  | [d1, d2, d3] => { results := [.lit (.bool true)], args := [d1, d2, d3] }
  | _ => none }
def fnExactDigitOfRow : OpenClaim := { program := "ytgbmbkhljmkkjaa", sum := "ecf30057f4ad572d6b3c0b8fb15bdf9bbdfd82982d22e27a32068f08c216ab39", func := "loop.example/g00907/laws.FnExactDigitOf", spec := "fnExactDigitOf", apart := false }
def FnExactDigitOfSaid : Prop := fnExactDigitOfRow.holds Try.pinned (OpenSpec.ofChange fnExactDigitOfSpec)

/-- ITS FALSE NEIGHBOUR: 'it returns false'. Refute it at one input. -/
def fnExactDigitOfWrong : ChangeSpec := { name := "fnExactDigitOf", fn := fun _ => fun
  | [d1, d2, d3] => { results := [.lit (.bool false)], args := [d1, d2, d3] }
  | _ => none }
def FnExactDigitOfWrongFalsely : Prop := fnExactDigitOfRow.holds Try.pinned (OpenSpec.ofChange fnExactDigitOfWrong)

/-- 'laws.FnDistances': WHATEVER THE INPUT: true; the input reads as it did. -/
def fnDistancesSpec : ChangeSpec := { name := "fnDistances", fn := fun _ => fun
  | [d] => { results := [.lit (.bool true)], args := [d] }
  | _ => none }
def fnDistancesRow : OpenClaim := { program := "ytgbmbkhljmkkjaa", sum := "ecf30057f4ad572d6b3c0b8fb15bdf9bbdfd82982d22e27a32068f08c216ab39", func := "loop.example/g00907/laws.FnDistances", spec := "fnDistances", apart := false }
def FnDistancesSaid : Prop := fnDistancesRow.holds Try.pinned (OpenSpec.ofChange fnDistancesSpec)

/-- ITS FALSE NEIGHBOUR: 'it returns false'. Refute it at one input. -/
def fnDistancesWrong : ChangeSpec := { name := "fnDistances", fn := fun _ => fun
  | [d] => { results := [.lit (.bool false)], args := [d] }
  | _ => none }
def FnDistancesWrongFalsely : Prop := fnDistancesRow.holds Try.pinned (OpenSpec.ofChange fnDistancesWrong)

/-- 'laws.FnExactSpearmanFootrule': WHATEVER THE INPUT: true; the input reads as it did. -/
def fnExactSpearmanFootruleSpec : ChangeSpec := { name := "fnExactSpearmanFootrule", fn := fun _ => fun
  | [d1, d2] => { results := [.lit (.bool true)], args := [d1, d2] }
  | _ => none }
def fnExactSpearmanFootruleRow : OpenClaim := { program := "ytgbmbkhljmkkjaa", sum := "ecf30057f4ad572d6b3c0b8fb15bdf9bbdfd82982d22e27a32068f08c216ab39", func := "loop.example/g00907/laws.FnExactSpearmanFootrule", spec := "fnExactSpearmanFootrule", apart := false }
def FnExactSpearmanFootruleSaid : Prop := fnExactSpearmanFootruleRow.holds Try.pinned (OpenSpec.ofChange fnExactSpearmanFootruleSpec)

/-- ITS FALSE NEIGHBOUR: 'it returns false'. Refute it at one input. -/
def fnExactSpearmanFootruleWrong : ChangeSpec := { name := "fnExactSpearmanFootrule", fn := fun _ => fun
  | [d1, d2] => { results := [.lit (.bool false)], args := [d1, d2] }
  | _ => none }
def FnExactSpearmanFootruleWrongFalsely : Prop := fnExactSpearmanFootruleRow.holds Try.pinned (OpenSpec.ofChange fnExactSpearmanFootruleWrong)

/-- 'laws.FnExactKendallDistance': WHATEVER THE INPUT: true; the input reads as it did. -/
def fnExactKendallDistanceSpec : ChangeSpec := { name := "fnExactKendallDistance", fn := fun _ => fun
  | [d1, d2] => { results := [.lit (.bool true)], args := [d1, d2] }
  | _ => none }
def fnExactKendallDistanceRow : OpenClaim := { program := "ytgbmbkhljmkkjaa", sum := "ecf30057f4ad572d6b3c0b8fb15bdf9bbdfd82982d22e27a32068f08c216ab39", func := "loop.example/g00907/laws.FnExactKendallDistance", spec := "fnExactKendallDistance", apart := false }
def FnExactKendallDistanceSaid : Prop := fnExactKendallDistanceRow.holds Try.pinned (OpenSpec.ofChange fnExactKendallDistanceSpec)

/-- ITS FALSE NEIGHBOUR: 'it returns false'. Refute it at one input. -/
def fnExactKendallDistanceWrong : ChangeSpec := { name := "fnExactKendallDistance", fn := fun _ => fun
  | [d1, d2] => { results := [.lit (.bool false)], args := [d1, d2] }
  | _ => none }
def FnExactKendallDistanceWrongFalsely : Prop := fnExactKendallDistanceRow.holds Try.pinned (OpenSpec.ofChange fnExactKendallDistanceWrong)

/-- 'laws.FnExactFromInversionTable': WHATEVER THE INPUT: true; the input reads as it did. -/
def fnExactFromInversionTableSpec : ChangeSpec := { name := "fnExactFromInversionTable", fn := fun _ => fun
  | [d] => { results := [.lit (.bool true)], args := [d] }
  | _ => none }
def fnExactFromInversionTableRow : OpenClaim := { program := "ytgbmbkhljmkkjaa", sum := "ecf30057f4ad572d6b3c0b8fb15bdf9bbdfd82982d22e27a32068f08c216ab39", func := "loop.example/g00907/laws.FnExactFromInversionTable", spec := "fnExactFromInversionTable", apart := false }
def FnExactFromInversionTableSaid : Prop := fnExactFromInversionTableRow.holds Try.pinned (OpenSpec.ofChange fnExactFromInversionTableSpec)

/-- ITS FALSE NEIGHBOUR: 'it returns false'. Refute it at one input. -/
def fnExactFromInversionTableWrong : ChangeSpec := { name := "fnExactFromInversionTable", fn := fun _ => fun
  | [d] => { results := [.lit (.bool false)], args := [d] }
  | _ => none }
def FnExactFromInversionTableWrongFalsely : Prop := fnExactFromInversionTableRow.holds Try.pinned (OpenSpec.ofChange fnExactFromInversionTableWrong)

/-- 'laws.FnExactCountInversions': WHATEVER THE INPUT: true; the input reads as it did. -/
def fnExactCountInversionsSpec : ChangeSpec := { name := "fnExactCountInversions", fn := fun _ => fun
  | [d] => { results := [.lit (.bool true)], args := [d] }
  | _ => none }
def fnExactCountInversionsRow : OpenClaim := { program := "ytgbmbkhljmkkjaa", sum := "ecf30057f4ad572d6b3c0b8fb15bdf9bbdfd82982d22e27a32068f08c216ab39", func := "loop.example/g00907/laws.FnExactCountInversions", spec := "fnExactCountInversions", unfollowed := true, recurses := true, apart := false }
def FnExactCountInversionsSaid : Prop := fnExactCountInversionsRow.holds Try.pinned (OpenSpec.ofChange fnExactCountInversionsSpec)

/-- ITS FALSE NEIGHBOUR: 'it returns false'. Refute it at one input. -/
def fnExactCountInversionsWrong : ChangeSpec := { name := "fnExactCountInversions", fn := fun _ => fun
  | [d] => { results := [.lit (.bool false)], args := [d] }
  | _ => none }
def FnExactCountInversionsWrongFalsely : Prop := fnExactCountInversionsRow.holds Try.pinned (OpenSpec.ofChange fnExactCountInversionsWrong)

/-- 'laws.FnExactMajorIndex': WHATEVER THE INPUT: true; the input reads as it did. -/
def fnExactMajorIndexSpec : ChangeSpec := { name := "fnExactMajorIndex", fn := fun _ => fun
  | [d] => { results := [.lit (.bool true)], args := [d] }
  | _ => none }
def fnExactMajorIndexRow : OpenClaim := { program := "ytgbmbkhljmkkjaa", sum := "ecf30057f4ad572d6b3c0b8fb15bdf9bbdfd82982d22e27a32068f08c216ab39", func := "loop.example/g00907/laws.FnExactMajorIndex", spec := "fnExactMajorIndex", unfollowed := true, recurses := true, apart := false }
def FnExactMajorIndexSaid : Prop := fnExactMajorIndexRow.holds Try.pinned (OpenSpec.ofChange fnExactMajorIndexSpec)

/-- ITS FALSE NEIGHBOUR: 'it returns false'. Refute it at one input. -/
def fnExactMajorIndexWrong : ChangeSpec := { name := "fnExactMajorIndex", fn := fun _ => fun
  | [d] => { results := [.lit (.bool false)], args := [d] }
  | _ => none }
def FnExactMajorIndexWrongFalsely : Prop := fnExactMajorIndexRow.holds Try.pinned (OpenSpec.ofChange fnExactMajorIndexWrong)

/-- 'laws.FnExactMedianIndex': WHATEVER THE INPUT: true; the input reads as it did. -/
def fnExactMedianIndexSpec : ChangeSpec := { name := "fnExactMedianIndex", fn := fun _ => fun
  | [d] => { results := [.lit (.bool true)], args := [d] }
  | _ => none }
def fnExactMedianIndexRow : OpenClaim := { program := "ytgbmbkhljmkkjaa", sum := "ecf30057f4ad572d6b3c0b8fb15bdf9bbdfd82982d22e27a32068f08c216ab39", func := "loop.example/g00907/laws.FnExactMedianIndex", spec := "fnExactMedianIndex", unfollowed := true, recurses := true, apart := false }
def FnExactMedianIndexSaid : Prop := fnExactMedianIndexRow.holds Try.pinned (OpenSpec.ofChange fnExactMedianIndexSpec)

/-- ITS FALSE NEIGHBOUR: 'it returns false'. Refute it at one input. -/
def fnExactMedianIndexWrong : ChangeSpec := { name := "fnExactMedianIndex", fn := fun _ => fun
  | [d] => { results := [.lit (.bool false)], args := [d] }
  | _ => none }
def FnExactMedianIndexWrongFalsely : Prop := fnExactMedianIndexRow.holds Try.pinned (OpenSpec.ofChange fnExactMedianIndexWrong)

/-- 'laws.FnExactDescents': WHATEVER THE INPUT: true; the input reads as it did. -/
def fnExactDescentsSpec : ChangeSpec := { name := "fnExactDescents", fn := fun _ => fun
  | [d] => { results := [.lit (.bool true)], args := [d] }
  | _ => none }
def fnExactDescentsRow : OpenClaim := { program := "ytgbmbkhljmkkjaa", sum := "ecf30057f4ad572d6b3c0b8fb15bdf9bbdfd82982d22e27a32068f08c216ab39", func := "loop.example/g00907/laws.FnExactDescents", spec := "fnExactDescents", unfollowed := true, recurses := true, apart := false }
def FnExactDescentsSaid : Prop := fnExactDescentsRow.holds Try.pinned (OpenSpec.ofChange fnExactDescentsSpec)

/-- ITS FALSE NEIGHBOUR: 'it returns false'. Refute it at one input. -/
def fnExactDescentsWrong : ChangeSpec := { name := "fnExactDescents", fn := fun _ => fun
  | [d] => { results := [.lit (.bool false)], args := [d] }
  | _ => none }
def FnExactDescentsWrongFalsely : Prop := fnExactDescentsRow.holds Try.pinned (OpenSpec.ofChange fnExactDescentsWrong)

/-- 'laws.FnExactInversionTable': WHATEVER THE INPUT: true; the input reads as it did. -/
def fnExactInversionTableSpec : ChangeSpec := { name := "fnExactInversionTable", fn := fun _ => fun
  | [d] => { results := [.lit (.bool true)], args := [d] }
  | _ => none }
def fnExactInversionTableRow : OpenClaim := { program := "ytgbmbkhljmkkjaa", sum := "ecf30057f4ad572d6b3c0b8fb15bdf9bbdfd82982d22e27a32068f08c216ab39", func := "loop.example/g00907/laws.FnExactInversionTable", spec := "fnExactInversionTable", apart := false }
def FnExactInversionTableSaid : Prop := fnExactInversionTableRow.holds Try.pinned (OpenSpec.ofChange fnExactInversionTableSpec)

/-- ITS FALSE NEIGHBOUR: 'it returns false'. Refute it at one input. -/
def fnExactInversionTableWrong : ChangeSpec := { name := "fnExactInversionTable", fn := fun _ => fun
  | [d] => { results := [.lit (.bool false)], args := [d] }
  | _ => none }
def FnExactInversionTableWrongFalsely : Prop := fnExactInversionTableRow.holds Try.pinned (OpenSpec.ofChange fnExactInversionTableWrong)

/-- 'laws.FnExactLongestIncreasing': WHATEVER THE INPUT: true; the input reads as it did. -/
def fnExactLongestIncreasingSpec : ChangeSpec := { name := "fnExactLongestIncreasing", fn := fun _ => fun
  | [d] => { results := [.lit (.bool true)], args := [d] }
  | _ => none }
def fnExactLongestIncreasingRow : OpenClaim := { program := "ytgbmbkhljmkkjaa", sum := "ecf30057f4ad572d6b3c0b8fb15bdf9bbdfd82982d22e27a32068f08c216ab39", func := "loop.example/g00907/laws.FnExactLongestIncreasing", spec := "fnExactLongestIncreasing", unfollowed := true, recurses := true, apart := false }
def FnExactLongestIncreasingSaid : Prop := fnExactLongestIncreasingRow.holds Try.pinned (OpenSpec.ofChange fnExactLongestIncreasingSpec)

/-- ITS FALSE NEIGHBOUR: 'it returns false'. Refute it at one input. -/
def fnExactLongestIncreasingWrong : ChangeSpec := { name := "fnExactLongestIncreasing", fn := fun _ => fun
  | [d] => { results := [.lit (.bool false)], args := [d] }
  | _ => none }
def FnExactLongestIncreasingWrongFalsely : Prop := fnExactLongestIncreasingRow.holds Try.pinned (OpenSpec.ofChange fnExactLongestIncreasingWrong)

/-- 'laws.FnExactPatiencePiles': WHATEVER THE INPUT: true; the input reads as it did. -/
def fnExactPatiencePilesSpec : ChangeSpec := { name := "fnExactPatiencePiles", fn := fun _ => fun
  | [d] => { results := [.lit (.bool true)], args := [d] }
  | _ => none }
def fnExactPatiencePilesRow : OpenClaim := { program := "ytgbmbkhljmkkjaa", sum := "ecf30057f4ad572d6b3c0b8fb15bdf9bbdfd82982d22e27a32068f08c216ab39", func := "loop.example/g00907/laws.FnExactPatiencePiles", spec := "fnExactPatiencePiles", unfollowed := true, recurses := true, apart := false }
def FnExactPatiencePilesSaid : Prop := fnExactPatiencePilesRow.holds Try.pinned (OpenSpec.ofChange fnExactPatiencePilesSpec)

/-- ITS FALSE NEIGHBOUR: 'it returns false'. Refute it at one input. -/
def fnExactPatiencePilesWrong : ChangeSpec := { name := "fnExactPatiencePiles", fn := fun _ => fun
  | [d] => { results := [.lit (.bool false)], args := [d] }
  | _ => none }
def FnExactPatiencePilesWrongFalsely : Prop := fnExactPatiencePilesRow.holds Try.pinned (OpenSpec.ofChange fnExactPatiencePilesWrong)

/- THE SECOND FORM. 'bulk': how many values and letters a reading holds, each counted each time it is reached (what is shared counts as often as it is met; a slice's spare places count too). A statement '..UptoSaid' is the law's where the arguments, and the package variables that the reading takes, are together of bulk at most 1048576: NARROWER than '..Said'. Prove '..Said' where nothing that the law and all that it calls make is longer than what came in: it says more and counts as full. Else prove '..UptoSaid'. A law counts once. -/
mutual
def uptoBulk {H : Type} : DataW H → Nat
  | .lit (.string bytes) => bytes.length + 1
  | .lit _ => 1
  | .nil => 1
  | .ptr d => uptoBulk d + 1
  | .slice elems spare => uptoBulkAll elems + uptoBulkAll spare + 1
  | .agg parts => uptoBulkAll parts + 1
  | .iface _ d => uptoBulk d + 1
  | .map entries => uptoBulkEntries entries + 1
  | .held _ => 1
def uptoBulkAll {H : Type} : List (DataW H) → Nat
  | [] => 0
  | d :: r => uptoBulk d + uptoBulkAll r
def uptoBulkEntries {H : Type} : List (Lit × DataW H) → Nat
  | [] => 0
  | x :: r => uptoBulkEntry x + uptoBulkEntries r
def uptoBulkEntry {H : Type} : Lit × DataW H → Nat
  | (.string bytes, d) => bytes.length + uptoBulk d + 1
  | (_, d) => uptoBulk d + 1
 end
def uptoSmall : (H : Type) → List (DataW H) → Bool := fun _ ds => decide (uptoBulkAll ds ≤ 1048576)
def OpenSpec.upto (s : _root_.Go.ChangeSpec) : _root_.Go.OpenSpec := { _root_.Go.OpenSpec.ofChange s with cond := some uptoSmall }

/-- 'laws.FnExactDigitOf', WHERE WHAT IT READS IS OF BULK AT MOST 1048576: true; the input reads as it did. -/
def fnExactDigitOfUptoRow : OpenClaim := { program := "ytgbmbkhljmkkjaa", sum := "ecf30057f4ad572d6b3c0b8fb15bdf9bbdfd82982d22e27a32068f08c216ab39", func := "loop.example/g00907/laws.FnExactDigitOf", spec := "fnExactDigitOf", apart := false, narrowed := true }
def FnExactDigitOfUptoSaid : Prop := fnExactDigitOfUptoRow.holds Try.pinned (OpenSpec.upto fnExactDigitOfSpec)

/-- 'laws.FnDistances', WHERE WHAT IT READS IS OF BULK AT MOST 1048576: true; the input reads as it did. -/
def fnDistancesUptoRow : OpenClaim := { program := "ytgbmbkhljmkkjaa", sum := "ecf30057f4ad572d6b3c0b8fb15bdf9bbdfd82982d22e27a32068f08c216ab39", func := "loop.example/g00907/laws.FnDistances", spec := "fnDistances", apart := false, narrowed := true }
def FnDistancesUptoSaid : Prop := fnDistancesUptoRow.holds Try.pinned (OpenSpec.upto fnDistancesSpec)

/-- 'laws.FnExactSpearmanFootrule', WHERE WHAT IT READS IS OF BULK AT MOST 1048576: true; the input reads as it did. -/
def fnExactSpearmanFootruleUptoRow : OpenClaim := { program := "ytgbmbkhljmkkjaa", sum := "ecf30057f4ad572d6b3c0b8fb15bdf9bbdfd82982d22e27a32068f08c216ab39", func := "loop.example/g00907/laws.FnExactSpearmanFootrule", spec := "fnExactSpearmanFootrule", apart := false, narrowed := true }
def FnExactSpearmanFootruleUptoSaid : Prop := fnExactSpearmanFootruleUptoRow.holds Try.pinned (OpenSpec.upto fnExactSpearmanFootruleSpec)

/-- 'laws.FnExactKendallDistance', WHERE WHAT IT READS IS OF BULK AT MOST 1048576: true; the input reads as it did. -/
def fnExactKendallDistanceUptoRow : OpenClaim := { program := "ytgbmbkhljmkkjaa", sum := "ecf30057f4ad572d6b3c0b8fb15bdf9bbdfd82982d22e27a32068f08c216ab39", func := "loop.example/g00907/laws.FnExactKendallDistance", spec := "fnExactKendallDistance", apart := false, narrowed := true }
def FnExactKendallDistanceUptoSaid : Prop := fnExactKendallDistanceUptoRow.holds Try.pinned (OpenSpec.upto fnExactKendallDistanceSpec)

/-- 'laws.FnExactFromInversionTable', WHERE WHAT IT READS IS OF BULK AT MOST 1048576: true; the input reads as it did. -/
def fnExactFromInversionTableUptoRow : OpenClaim := { program := "ytgbmbkhljmkkjaa", sum := "ecf30057f4ad572d6b3c0b8fb15bdf9bbdfd82982d22e27a32068f08c216ab39", func := "loop.example/g00907/laws.FnExactFromInversionTable", spec := "fnExactFromInversionTable", apart := false, narrowed := true }
def FnExactFromInversionTableUptoSaid : Prop := fnExactFromInversionTableUptoRow.holds Try.pinned (OpenSpec.upto fnExactFromInversionTableSpec)

/-- 'laws.FnExactCountInversions', WHERE WHAT IT READS IS OF BULK AT MOST 1048576: true; the input reads as it did. -/
def fnExactCountInversionsUptoRow : OpenClaim := { program := "ytgbmbkhljmkkjaa", sum := "ecf30057f4ad572d6b3c0b8fb15bdf9bbdfd82982d22e27a32068f08c216ab39", func := "loop.example/g00907/laws.FnExactCountInversions", spec := "fnExactCountInversions", unfollowed := true, recurses := true, apart := false, narrowed := true }
def FnExactCountInversionsUptoSaid : Prop := fnExactCountInversionsUptoRow.holds Try.pinned (OpenSpec.upto fnExactCountInversionsSpec)

/-- 'laws.FnExactMajorIndex', WHERE WHAT IT READS IS OF BULK AT MOST 1048576: true; the input reads as it did. -/
def fnExactMajorIndexUptoRow : OpenClaim := { program := "ytgbmbkhljmkkjaa", sum := "ecf30057f4ad572d6b3c0b8fb15bdf9bbdfd82982d22e27a32068f08c216ab39", func := "loop.example/g00907/laws.FnExactMajorIndex", spec := "fnExactMajorIndex", unfollowed := true, recurses := true, apart := false, narrowed := true }
def FnExactMajorIndexUptoSaid : Prop := fnExactMajorIndexUptoRow.holds Try.pinned (OpenSpec.upto fnExactMajorIndexSpec)

/-- 'laws.FnExactMedianIndex', WHERE WHAT IT READS IS OF BULK AT MOST 1048576: true; the input reads as it did. -/
def fnExactMedianIndexUptoRow : OpenClaim := { program := "ytgbmbkhljmkkjaa", sum := "ecf30057f4ad572d6b3c0b8fb15bdf9bbdfd82982d22e27a32068f08c216ab39", func := "loop.example/g00907/laws.FnExactMedianIndex", spec := "fnExactMedianIndex", unfollowed := true, recurses := true, apart := false, narrowed := true }
def FnExactMedianIndexUptoSaid : Prop := fnExactMedianIndexUptoRow.holds Try.pinned (OpenSpec.upto fnExactMedianIndexSpec)

/-- 'laws.FnExactDescents', WHERE WHAT IT READS IS OF BULK AT MOST 1048576: true; the input reads as it did. -/
def fnExactDescentsUptoRow : OpenClaim := { program := "ytgbmbkhljmkkjaa", sum := "ecf30057f4ad572d6b3c0b8fb15bdf9bbdfd82982d22e27a32068f08c216ab39", func := "loop.example/g00907/laws.FnExactDescents", spec := "fnExactDescents", unfollowed := true, recurses := true, apart := false, narrowed := true }
def FnExactDescentsUptoSaid : Prop := fnExactDescentsUptoRow.holds Try.pinned (OpenSpec.upto fnExactDescentsSpec)

/-- 'laws.FnExactInversionTable', WHERE WHAT IT READS IS OF BULK AT MOST 1048576: true; the input reads as it did. -/
def fnExactInversionTableUptoRow : OpenClaim := { program := "ytgbmbkhljmkkjaa", sum := "ecf30057f4ad572d6b3c0b8fb15bdf9bbdfd82982d22e27a32068f08c216ab39", func := "loop.example/g00907/laws.FnExactInversionTable", spec := "fnExactInversionTable", apart := false, narrowed := true }
def FnExactInversionTableUptoSaid : Prop := fnExactInversionTableUptoRow.holds Try.pinned (OpenSpec.upto fnExactInversionTableSpec)

/-- 'laws.FnExactLongestIncreasing', WHERE WHAT IT READS IS OF BULK AT MOST 1048576: true; the input reads as it did. -/
def fnExactLongestIncreasingUptoRow : OpenClaim := { program := "ytgbmbkhljmkkjaa", sum := "ecf30057f4ad572d6b3c0b8fb15bdf9bbdfd82982d22e27a32068f08c216ab39", func := "loop.example/g00907/laws.FnExactLongestIncreasing", spec := "fnExactLongestIncreasing", unfollowed := true, recurses := true, apart := false, narrowed := true }
def FnExactLongestIncreasingUptoSaid : Prop := fnExactLongestIncreasingUptoRow.holds Try.pinned (OpenSpec.upto fnExactLongestIncreasingSpec)

/-- 'laws.FnExactPatiencePiles', WHERE WHAT IT READS IS OF BULK AT MOST 1048576: true; the input reads as it did. -/
def fnExactPatiencePilesUptoRow : OpenClaim := { program := "ytgbmbkhljmkkjaa", sum := "ecf30057f4ad572d6b3c0b8fb15bdf9bbdfd82982d22e27a32068f08c216ab39", func := "loop.example/g00907/laws.FnExactPatiencePiles", spec := "fnExactPatiencePiles", unfollowed := true, recurses := true, apart := false, narrowed := true }
def FnExactPatiencePilesUptoSaid : Prop := fnExactPatiencePilesUptoRow.holds Try.pinned (OpenSpec.upto fnExactPatiencePilesSpec)

end Rows
end Go.Proofs.Ytgbmbkhljmkkjaa
