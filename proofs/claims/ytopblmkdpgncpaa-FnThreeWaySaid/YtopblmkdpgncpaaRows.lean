/-
  No cell of these rows narrows 'for every input' (looked for: loops, veiled, ifaces, maps, wideKeys, modest, calm, conditions, laid).
  DERIVED. THE GIVEN ROWS OF THIS SEAT. 12 by the template 'for every input the law returns true; each argument reads behind the call as it read before'; 0 by the template 'total and deterministic' (their statements: YtopblmkdpgncpaaTotals.lean).
  GIVEN WITH THE SEED: the statements are not yours to turn. If you find one false, say at which input.
  Laid BY PROGRAM, IN A SANDBOX (cutbox-rows.mjs): the forced cells as the released guide's own fill.sh prints them over the translation 2b0c8baad082b29e… (all of the seat's roots in one cut). By AI agents, Wed Nov 11 2026. No macro, syntax, notation, axiom, sorry.
-/
import Derived.Test.YtopblmkdpgncpaaChecked
import GoSem.Claim
import GoSem.ClaimJoined
import GoSem.ClaimMapViews
import Derived.JoinedTies
import Derived.KernelRfl
namespace Go.Proofs.Ytopblmkdpgncpaa
/- THE CELL 'sum', in the pinned program and in every row, IS THE sha256 OF THE DUMP (.gsa) THAT YtopblmkdpgncpaaProg.lean LOADS. Nothing in Lean hashes anything: it is a label: what it is worth is what the hold of that sum in a sandbox is worth. -/
noncomputable def Try.pinned : Pinned := { name := "ytopblmkdpgncpaa", sum := "2b0c8baad082b29eccfd4557708fbfc90c04d17657d2c958e8ba2a346ad277ca", checked := Try.checked }
namespace Rows
def none {H : Type} : Left H := { results := [], args := [] }

/-- 'laws.FnExactIsValidFenwick': WHATEVER THE INPUT: true; the input reads as it did. -/
def fnExactIsValidFenwickSpec : ChangeSpec := { name := "fnExactIsValidFenwick", fn := fun _ => fun
  | [d] => { results := [.lit (.bool true)], args := [d] }
  | _ => none }
def fnExactIsValidFenwickRow : OpenClaim := { program := "ytopblmkdpgncpaa", sum := "2b0c8baad082b29eccfd4557708fbfc90c04d17657d2c958e8ba2a346ad277ca", func := "loop.example/g00907/laws.FnExactIsValidFenwick", spec := "fnExactIsValidFenwick", unfollowed := true, recurses := true, apart := false }
def FnExactIsValidFenwickSaid : Prop := fnExactIsValidFenwickRow.holds Try.pinned (OpenSpec.ofChange fnExactIsValidFenwickSpec)

/-- ITS FALSE NEIGHBOUR: 'it returns false'. Refute it at one input. -/
def fnExactIsValidFenwickWrong : ChangeSpec := { name := "fnExactIsValidFenwick", fn := fun _ => fun
  | [d] => { results := [.lit (.bool false)], args := [d] }
  | _ => none }
def FnExactIsValidFenwickWrongFalsely : Prop := fnExactIsValidFenwickRow.holds Try.pinned (OpenSpec.ofChange fnExactIsValidFenwickWrong)

/-- 'laws.FnExactBuildFenwick': WHATEVER THE INPUT: true; the input reads as it did. -/
def fnExactBuildFenwickSpec : ChangeSpec := { name := "fnExactBuildFenwick", fn := fun _ => fun
  | [d] => { results := [.lit (.bool true)], args := [d] }
  | _ => none }
def fnExactBuildFenwickRow : OpenClaim := { program := "ytopblmkdpgncpaa", sum := "2b0c8baad082b29eccfd4557708fbfc90c04d17657d2c958e8ba2a346ad277ca", func := "loop.example/g00907/laws.FnExactBuildFenwick", spec := "fnExactBuildFenwick", unfollowed := true, recurses := true, apart := false }
def FnExactBuildFenwickSaid : Prop := fnExactBuildFenwickRow.holds Try.pinned (OpenSpec.ofChange fnExactBuildFenwickSpec)

/-- ITS FALSE NEIGHBOUR: 'it returns false'. Refute it at one input. -/
def fnExactBuildFenwickWrong : ChangeSpec := { name := "fnExactBuildFenwick", fn := fun _ => fun
  | [d] => { results := [.lit (.bool false)], args := [d] }
  | _ => none }
def FnExactBuildFenwickWrongFalsely : Prop := fnExactBuildFenwickRow.holds Try.pinned (OpenSpec.ofChange fnExactBuildFenwickWrong)

/-- 'laws.FnExactFenwickPrefix': WHATEVER THE INPUT: true; the input reads as it did. -/
def fnExactFenwickPrefixSpec : ChangeSpec := { name := "fnExactFenwickPrefix", fn := fun _ => fun
  | [d1, d2] => { results := [.lit (.bool true)], args := [d1, d2] }
  | _ => none }
def fnExactFenwickPrefixRow : OpenClaim := { program := "ytopblmkdpgncpaa", sum := "2b0c8baad082b29eccfd4557708fbfc90c04d17657d2c958e8ba2a346ad277ca", func := "loop.example/g00907/laws.FnExactFenwickPrefix", spec := "fnExactFenwickPrefix", unfollowed := true, recurses := true, apart := false }
def FnExactFenwickPrefixSaid : Prop := fnExactFenwickPrefixRow.holds Try.pinned (OpenSpec.ofChange fnExactFenwickPrefixSpec)

/-- ITS FALSE NEIGHBOUR: 'it returns false'. Refute it at one input. -/
def fnExactFenwickPrefixWrong : ChangeSpec := { name := "fnExactFenwickPrefix", fn := fun _ => fun
  | [d1, d2] => { results := [.lit (.bool false)], args := [d1, d2] }
  | _ => none }
def FnExactFenwickPrefixWrongFalsely : Prop := fnExactFenwickPrefixRow.holds Try.pinned (OpenSpec.ofChange fnExactFenwickPrefixWrong)

/-- 'laws.FnExactDigitCounts': WHATEVER THE INPUT: true; the input reads as it did. -/
def fnExactDigitCountsSpec : ChangeSpec := { name := "fnExactDigitCounts", fn := fun _ => fun
  | [d1, d2, d3] => { results := [.lit (.bool true)], args := [d1, d2, d3] }
  | _ => none }
def fnExactDigitCountsRow : OpenClaim := { program := "ytopblmkdpgncpaa", sum := "2b0c8baad082b29eccfd4557708fbfc90c04d17657d2c958e8ba2a346ad277ca", func := "loop.example/g00907/laws.FnExactDigitCounts", spec := "fnExactDigitCounts", unfollowed := true, recurses := true, apart := false }
def FnExactDigitCountsSaid : Prop := fnExactDigitCountsRow.holds Try.pinned (OpenSpec.ofChange fnExactDigitCountsSpec)

/-- ITS FALSE NEIGHBOUR: 'it returns false'. Refute it at one input. -/
def fnExactDigitCountsWrong : ChangeSpec := { name := "fnExactDigitCounts", fn := fun _ => fun
  | [d1, d2, d3] => { results := [.lit (.bool false)], args := [d1, d2, d3] }
  | _ => none }
def FnExactDigitCountsWrongFalsely : Prop := fnExactDigitCountsRow.holds Try.pinned (OpenSpec.ofChange fnExactDigitCountsWrong)

/-- 'laws.FnExactFenwickSelect': WHATEVER THE INPUT: true; the input reads as it did. -/
def fnExactFenwickSelectSpec : ChangeSpec := { name := "fnExactFenwickSelect", fn := fun _ => fun
  | [d1, d2] => { results := [.lit (.bool true)], args := [d1, d2] }
  | _ => none }
def fnExactFenwickSelectRow : OpenClaim := { program := "ytopblmkdpgncpaa", sum := "2b0c8baad082b29eccfd4557708fbfc90c04d17657d2c958e8ba2a346ad277ca", func := "loop.example/g00907/laws.FnExactFenwickSelect", spec := "fnExactFenwickSelect", unfollowed := true, recurses := true, apart := false }
def FnExactFenwickSelectSaid : Prop := fnExactFenwickSelectRow.holds Try.pinned (OpenSpec.ofChange fnExactFenwickSelectSpec)

/-- ITS FALSE NEIGHBOUR: 'it returns false'. Refute it at one input. -/
def fnExactFenwickSelectWrong : ChangeSpec := { name := "fnExactFenwickSelect", fn := fun _ => fun
  | [d1, d2] => { results := [.lit (.bool false)], args := [d1, d2] }
  | _ => none }
def FnExactFenwickSelectWrongFalsely : Prop := fnExactFenwickSelectRow.holds Try.pinned (OpenSpec.ofChange fnExactFenwickSelectWrong)

/-- 'laws.FnExactFenwickValues': WHATEVER THE INPUT: true; the input reads as it did. -/
def fnExactFenwickValuesSpec : ChangeSpec := { name := "fnExactFenwickValues", fn := fun _ => fun
  | [d] => { results := [.lit (.bool true)], args := [d] }
  | _ => none }
def fnExactFenwickValuesRow : OpenClaim := { program := "ytopblmkdpgncpaa", sum := "2b0c8baad082b29eccfd4557708fbfc90c04d17657d2c958e8ba2a346ad277ca", func := "loop.example/g00907/laws.FnExactFenwickValues", spec := "fnExactFenwickValues", unfollowed := true, recurses := true, apart := false }
def FnExactFenwickValuesSaid : Prop := fnExactFenwickValuesRow.holds Try.pinned (OpenSpec.ofChange fnExactFenwickValuesSpec)

/-- ITS FALSE NEIGHBOUR: 'it returns false'. Refute it at one input. -/
def fnExactFenwickValuesWrong : ChangeSpec := { name := "fnExactFenwickValues", fn := fun _ => fun
  | [d] => { results := [.lit (.bool false)], args := [d] }
  | _ => none }
def FnExactFenwickValuesWrongFalsely : Prop := fnExactFenwickValuesRow.holds Try.pinned (OpenSpec.ofChange fnExactFenwickValuesWrong)

/-- 'laws.FnExactPassesNeeded': WHATEVER THE INPUT: true; the input reads as it did. -/
def fnExactPassesNeededSpec : ChangeSpec := { name := "fnExactPassesNeeded", fn := fun _ => fun
  | [d1, d2] => { results := [.lit (.bool true)], args := [d1, d2] }
  | _ => none }
def fnExactPassesNeededRow : OpenClaim := { program := "ytopblmkdpgncpaa", sum := "2b0c8baad082b29eccfd4557708fbfc90c04d17657d2c958e8ba2a346ad277ca", func := "loop.example/g00907/laws.FnExactPassesNeeded", spec := "fnExactPassesNeeded", unfollowed := true, recurses := true, apart := false }
def FnExactPassesNeededSaid : Prop := fnExactPassesNeededRow.holds Try.pinned (OpenSpec.ofChange fnExactPassesNeededSpec)

/-- ITS FALSE NEIGHBOUR: 'it returns false'. Refute it at one input. -/
def fnExactPassesNeededWrong : ChangeSpec := { name := "fnExactPassesNeeded", fn := fun _ => fun
  | [d1, d2] => { results := [.lit (.bool false)], args := [d1, d2] }
  | _ => none }
def FnExactPassesNeededWrongFalsely : Prop := fnExactPassesNeededRow.holds Try.pinned (OpenSpec.ofChange fnExactPassesNeededWrong)

/-- 'laws.FnExactFenwickAdd': WHATEVER THE INPUT: true; the input reads as it did. -/
def fnExactFenwickAddSpec : ChangeSpec := { name := "fnExactFenwickAdd", fn := fun _ => fun
  | [d1, d2, d3] => { results := [.lit (.bool true)], args := [d1, d2, d3] }
  | _ => none }
def fnExactFenwickAddRow : OpenClaim := { program := "ytopblmkdpgncpaa", sum := "2b0c8baad082b29eccfd4557708fbfc90c04d17657d2c958e8ba2a346ad277ca", func := "loop.example/g00907/laws.FnExactFenwickAdd", spec := "fnExactFenwickAdd", unfollowed := true, recurses := true, apart := false }
def FnExactFenwickAddSaid : Prop := fnExactFenwickAddRow.holds Try.pinned (OpenSpec.ofChange fnExactFenwickAddSpec)

/-- ITS FALSE NEIGHBOUR: 'it returns false'. Refute it at one input. -/
def fnExactFenwickAddWrong : ChangeSpec := { name := "fnExactFenwickAdd", fn := fun _ => fun
  | [d1, d2, d3] => { results := [.lit (.bool false)], args := [d1, d2, d3] }
  | _ => none }
def FnExactFenwickAddWrongFalsely : Prop := fnExactFenwickAddRow.holds Try.pinned (OpenSpec.ofChange fnExactFenwickAddWrong)

/-- 'laws.FnFenwick': WHATEVER THE INPUT: true; the input reads as it did. -/
def fnFenwickSpec : ChangeSpec := { name := "fnFenwick", fn := fun _ => fun
  | [d] => { results := [.lit (.bool true)], args := [d] }
  | _ => none }
def fnFenwickRow : OpenClaim := { program := "ytopblmkdpgncpaa", sum := "2b0c8baad082b29eccfd4557708fbfc90c04d17657d2c958e8ba2a346ad277ca", func := "loop.example/g00907/laws.FnFenwick", spec := "fnFenwick", unfollowed := true, recurses := true, apart := false }
def FnFenwickSaid : Prop := fnFenwickRow.holds Try.pinned (OpenSpec.ofChange fnFenwickSpec)

/-- ITS FALSE NEIGHBOUR: 'it returns false'. Refute it at one input. -/
def fnFenwickWrong : ChangeSpec := { name := "fnFenwick", fn := fun _ => fun
  | [d] => { results := [.lit (.bool false)], args := [d] }
  | _ => none }
def FnFenwickWrongFalsely : Prop := fnFenwickRow.holds Try.pinned (OpenSpec.ofChange fnFenwickWrong)

/-- 'laws.FnFenwickRank': WHATEVER THE INPUT: true; the input reads as it did. -/
def fnFenwickRankSpec : ChangeSpec := { name := "fnFenwickRank", fn := fun _ => fun
  | [d] => { results := [.lit (.bool true)], args := [d] }
  | _ => none }
def fnFenwickRankRow : OpenClaim := { program := "ytopblmkdpgncpaa", sum := "2b0c8baad082b29eccfd4557708fbfc90c04d17657d2c958e8ba2a346ad277ca", func := "loop.example/g00907/laws.FnFenwickRank", spec := "fnFenwickRank", unfollowed := true, recurses := true, apart := false }
def FnFenwickRankSaid : Prop := fnFenwickRankRow.holds Try.pinned (OpenSpec.ofChange fnFenwickRankSpec)

/-- ITS FALSE NEIGHBOUR: 'it returns false'. Refute it at one input. -/
def fnFenwickRankWrong : ChangeSpec := { name := "fnFenwickRank", fn := fun _ => fun
  | [d] => { results := [.lit (.bool false)], args := [d] }
  | _ => none }
def FnFenwickRankWrongFalsely : Prop := fnFenwickRankRow.holds Try.pinned (OpenSpec.ofChange fnFenwickRankWrong)

/-- 'laws.FnFlag': WHATEVER THE INPUT: true; the input reads as it did. -/
def fnFlagSpec : ChangeSpec := { name := "fnFlag", fn := fun _ => fun
  | [d] => { results := [.lit (.bool true)], args := [d] }
  | _ => none }
def fnFlagRow : OpenClaim := { program := "ytopblmkdpgncpaa", sum := "2b0c8baad082b29eccfd4557708fbfc90c04d17657d2c958e8ba2a346ad277ca", func := "loop.example/g00907/laws.FnFlag", spec := "fnFlag", unfollowed := true, recurses := true, apart := false }
def FnFlagSaid : Prop := fnFlagRow.holds Try.pinned (OpenSpec.ofChange fnFlagSpec)

/-- ITS FALSE NEIGHBOUR: 'it returns false'. Refute it at one input. -/
def fnFlagWrong : ChangeSpec := { name := "fnFlag", fn := fun _ => fun
  | [d] => { results := [.lit (.bool false)], args := [d] }
  | _ => none }
def FnFlagWrongFalsely : Prop := fnFlagRow.holds Try.pinned (OpenSpec.ofChange fnFlagWrong)

/-- 'laws.FnThreeWay': WHATEVER THE INPUT: true; the input reads as it did. -/
def fnThreeWaySpec : ChangeSpec := { name := "fnThreeWay", fn := fun _ => fun
  | [d] => { results := [.lit (.bool true)], args := [d] }
  | _ => none }
def fnThreeWayRow : OpenClaim := { program := "ytopblmkdpgncpaa", sum := "2b0c8baad082b29eccfd4557708fbfc90c04d17657d2c958e8ba2a346ad277ca", func := "loop.example/g00907/laws.FnThreeWay", spec := "fnThreeWay", unfollowed := true, recurses := true, apart := false }
def FnThreeWaySaid : Prop := fnThreeWayRow.holds Try.pinned (OpenSpec.ofChange fnThreeWaySpec)

/-- ITS FALSE NEIGHBOUR: 'it returns false'. Refute it at one input. -/
def fnThreeWayWrong : ChangeSpec := { name := "fnThreeWay", fn := fun _ => fun
  | [d] => { results := [.lit (.bool false)], args := [d] }
  | _ => none }
def FnThreeWayWrongFalsely : Prop := fnThreeWayRow.holds Try.pinned (OpenSpec.ofChange fnThreeWayWrong)

/- THE SECOND FORM. 'bulk': how many values and letters a reading holds, each counted each time it is reached (what is shared counts as often as it is met; a slice's spare places count too). A statement '..UptoSaid' is the law's where the arguments, and the package variables that the reading takes, are together of bulk at most 1048576: NARROWER than '..Said'. Prove '..Said' where nothing that the law and all that it calls make is longer than what came in: it says more and counts as full. Else prove '..UptoSaid'. A law counts once. -/
mutual
def uptoBulk {H : Type} : DataW H → Nat
  | .lit (.string bytes) => bytes.length + 1
  | .lit _ => 1
  | .nil => 1
  | .ptr d => uptoBulk d + 1
  | .slice elems spare => uptoBulkAll elems + uptoBulkAll spare + 1
  | .agg parts => uptoBulkAll parts + 1
  | .iface _ d => uptoBulk d + 1
  | .map entries => uptoBulkEntries entries + 1
  | .held _ => 1
def uptoBulkAll {H : Type} : List (DataW H) → Nat
  | [] => 0
  | d :: r => uptoBulk d + uptoBulkAll r
def uptoBulkEntries {H : Type} : List (Lit × DataW H) → Nat
  | [] => 0
  | x :: r => uptoBulkEntry x + uptoBulkEntries r
def uptoBulkEntry {H : Type} : Lit × DataW H → Nat
  | (.string bytes, d) => bytes.length + uptoBulk d + 1
  | (_, d) => uptoBulk d + 1
 end
def uptoSmall : (H : Type) → List (DataW H) → Bool := fun _ ds => decide (uptoBulkAll ds ≤ 1048576)
def OpenSpec.upto (s : _root_.Go.ChangeSpec) : _root_.Go.OpenSpec := { _root_.Go.OpenSpec.ofChange s with cond := some uptoSmall }

/-- 'laws.FnExactIsValidFenwick', WHERE WHAT IT READS IS OF BULK AT MOST 1048576: true; the input reads as it did. -/
def fnExactIsValidFenwickUptoRow : OpenClaim := { program := "ytopblmkdpgncpaa", sum := "2b0c8baad082b29eccfd4557708fbfc90c04d17657d2c958e8ba2a346ad277ca", func := "loop.example/g00907/laws.FnExactIsValidFenwick", spec := "fnExactIsValidFenwick", unfollowed := true, recurses := true, apart := false, narrowed := true }
def FnExactIsValidFenwickUptoSaid : Prop := fnExactIsValidFenwickUptoRow.holds Try.pinned (OpenSpec.upto fnExactIsValidFenwickSpec)

/-- 'laws.FnExactBuildFenwick', WHERE WHAT IT READS IS OF BULK AT MOST 1048576: true; the input reads as it did. -/
def fnExactBuildFenwickUptoRow : OpenClaim := { program := "ytopblmkdpgncpaa", sum := "2b0c8baad082b29eccfd4557708fbfc90c04d17657d2c958e8ba2a346ad277ca", func := "loop.example/g00907/laws.FnExactBuildFenwick", spec := "fnExactBuildFenwick", unfollowed := true, recurses := true, apart := false, narrowed := true }
def FnExactBuildFenwickUptoSaid : Prop := fnExactBuildFenwickUptoRow.holds Try.pinned (OpenSpec.upto fnExactBuildFenwickSpec)

/-- 'laws.FnExactFenwickPrefix', WHERE WHAT IT READS IS OF BULK AT MOST 1048576: true; the input reads as it did. -/
def fnExactFenwickPrefixUptoRow : OpenClaim := { program := "ytopblmkdpgncpaa", sum := "2b0c8baad082b29eccfd4557708fbfc90c04d17657d2c958e8ba2a346ad277ca", func := "loop.example/g00907/laws.FnExactFenwickPrefix", spec := "fnExactFenwickPrefix", unfollowed := true, recurses := true, apart := false, narrowed := true }
def FnExactFenwickPrefixUptoSaid : Prop := fnExactFenwickPrefixUptoRow.holds Try.pinned (OpenSpec.upto fnExactFenwickPrefixSpec)

/-- 'laws.FnExactDigitCounts', WHERE WHAT IT READS IS OF BULK AT MOST 1048576: true; the input reads as it did. -/
def fnExactDigitCountsUptoRow : OpenClaim := { program := "ytopblmkdpgncpaa", sum := "2b0c8baad082b29eccfd4557708fbfc90c04d17657d2c958e8ba2a346ad277ca", func := "loop.example/g00907/laws.FnExactDigitCounts", spec := "fnExactDigitCounts", unfollowed := true, recurses := true, apart := false, narrowed := true }
def FnExactDigitCountsUptoSaid : Prop := fnExactDigitCountsUptoRow.holds Try.pinned (OpenSpec.upto fnExactDigitCountsSpec)

/-- 'laws.FnExactFenwickSelect', WHERE WHAT IT READS IS OF BULK AT MOST 1048576: true; the input reads as it did. -/
def fnExactFenwickSelectUptoRow : OpenClaim := { program := "ytopblmkdpgncpaa", sum := "2b0c8baad082b29eccfd4557708fbfc90c04d17657d2c958e8ba2a346ad277ca", func := "loop.example/g00907/laws.FnExactFenwickSelect", spec := "fnExactFenwickSelect", unfollowed := true, recurses := true, apart := false, narrowed := true }
def FnExactFenwickSelectUptoSaid : Prop := fnExactFenwickSelectUptoRow.holds Try.pinned (OpenSpec.upto fnExactFenwickSelectSpec)

/-- 'laws.FnExactFenwickValues', WHERE WHAT IT READS IS OF BULK AT MOST 1048576: true; the input reads as it did. -/
def fnExactFenwickValuesUptoRow : OpenClaim := { program := "ytopblmkdpgncpaa", sum := "2b0c8baad082b29eccfd4557708fbfc90c04d17657d2c958e8ba2a346ad277ca", func := "loop.example/g00907/laws.FnExactFenwickValues", spec := "fnExactFenwickValues", unfollowed := true, recurses := true, apart := false, narrowed := true }
def FnExactFenwickValuesUptoSaid : Prop := fnExactFenwickValuesUptoRow.holds Try.pinned (OpenSpec.upto fnExactFenwickValuesSpec)

/-- 'laws.FnExactPassesNeeded', WHERE WHAT IT READS IS OF BULK AT MOST 1048576: true; the input reads as it did. -/
def fnExactPassesNeededUptoRow : OpenClaim := { program := "ytopblmkdpgncpaa", sum := "2b0c8baad082b29eccfd4557708fbfc90c04d17657d2c958e8ba2a346ad277ca", func := "loop.example/g00907/laws.FnExactPassesNeeded", spec := "fnExactPassesNeeded", unfollowed := true, recurses := true, apart := false, narrowed := true }
def FnExactPassesNeededUptoSaid : Prop := fnExactPassesNeededUptoRow.holds Try.pinned (OpenSpec.upto fnExactPassesNeededSpec)

/-- 'laws.FnExactFenwickAdd', WHERE WHAT IT READS IS OF BULK AT MOST 1048576: true; the input reads as it did. -/
def fnExactFenwickAddUptoRow : OpenClaim := { program := "ytopblmkdpgncpaa", sum := "2b0c8baad082b29eccfd4557708fbfc90c04d17657d2c958e8ba2a346ad277ca", func := "loop.example/g00907/laws.FnExactFenwickAdd", spec := "fnExactFenwickAdd", unfollowed := true, recurses := true, apart := false, narrowed := true }
def FnExactFenwickAddUptoSaid : Prop := fnExactFenwickAddUptoRow.holds Try.pinned (OpenSpec.upto fnExactFenwickAddSpec)

/-- 'laws.FnFenwick', WHERE WHAT IT READS IS OF BULK AT MOST 1048576: true; the input reads as it did. -/
def fnFenwickUptoRow : OpenClaim := { program := "ytopblmkdpgncpaa", sum := "2b0c8baad082b29eccfd4557708fbfc90c04d17657d2c958e8ba2a346ad277ca", func := "loop.example/g00907/laws.FnFenwick", spec := "fnFenwick", unfollowed := true, recurses := true, apart := false, narrowed := true }
def FnFenwickUptoSaid : Prop := fnFenwickUptoRow.holds Try.pinned (OpenSpec.upto fnFenwickSpec)

/-- 'laws.FnFenwickRank', WHERE WHAT IT READS IS OF BULK AT MOST 1048576: true; the input reads as it did. -/
def fnFenwickRankUptoRow : OpenClaim := { program := "ytopblmkdpgncpaa", sum := "2b0c8baad082b29eccfd4557708fbfc90c04d17657d2c958e8ba2a346ad277ca", func := "loop.example/g00907/laws.FnFenwickRank", spec := "fnFenwickRank", unfollowed := true, recurses := true, apart := false, narrowed := true }
def FnFenwickRankUptoSaid : Prop := fnFenwickRankUptoRow.holds Try.pinned (OpenSpec.upto fnFenwickRankSpec)

/-- 'laws.FnFlag', WHERE WHAT IT READS IS OF BULK AT MOST 1048576: true; the input reads as it did. -/
def fnFlagUptoRow : OpenClaim := { program := "ytopblmkdpgncpaa", sum := "2b0c8baad082b29eccfd4557708fbfc90c04d17657d2c958e8ba2a346ad277ca", func := "loop.example/g00907/laws.FnFlag", spec := "fnFlag", unfollowed := true, recurses := true, apart := false, narrowed := true }
def FnFlagUptoSaid : Prop := fnFlagUptoRow.holds Try.pinned (OpenSpec.upto fnFlagSpec)

/-- 'laws.FnThreeWay', WHERE WHAT IT READS IS OF BULK AT MOST 1048576: true; the input reads as it did. -/
def fnThreeWayUptoRow : OpenClaim := { program := "ytopblmkdpgncpaa", sum := "2b0c8baad082b29eccfd4557708fbfc90c04d17657d2c958e8ba2a346ad277ca", func := "loop.example/g00907/laws.FnThreeWay", spec := "fnThreeWay", unfollowed := true, recurses := true, apart := false, narrowed := true }
def FnThreeWayUptoSaid : Prop := fnThreeWayUptoRow.holds Try.pinned (OpenSpec.upto fnThreeWaySpec)

end Rows
end Go.Proofs.Ytopblmkdpgncpaa
