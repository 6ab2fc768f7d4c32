/- Contract: the lesser of two numbers. -/
import Derived.Test.YtlejmdbjckmfoaaAxTy
set_option linter.unusedSimpArgs false
set_option linter.unusedVariables false
set_option linter.unusedSectionVars false
namespace Go.Proofs.Ytlejmdbjckmfoaa
open Go Go.Ax
set_option maxRecDepth 10000

end Go.Proofs.Ytlejmdbjckmfoaa
