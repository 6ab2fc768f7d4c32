/- The closed facts on the Fenwick tree's types. -/
import Derived.Test.YtfkokcmnmmfcbaaAxTy
set_option linter.unusedSimpArgs false
set_option linter.unusedVariables false
set_option linter.unusedSectionVars false
namespace Go.Proofs.Ytfkokcmnmmfcbaa
open Go Go.Ax
abbrev tFen (h n : Nat) : TV := .a (.agg [.sl 1 h 0 n])
abbrev aFen (h n : Nat) : AV := .agg [.sl 1 h 0 n]
abbrev aFN : AV := .agg [.v (.slice none 0 0)]
abbrev tFN : TV := .a (.agg [.v (.slice none 0 0)])
abbrev bF (h n : Nat) : Row := .r true (.cells 1 [.sl 1 h 0 n])
end Go.Proofs.Ytfkokcmnmmfcbaa
