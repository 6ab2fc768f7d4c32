/- What is left of a function's code behind its first regions: by it a long walk is cut into several. -/
import Derived.Test.YtlejmdbjckmfoaaAxTy
set_option linter.unusedSimpArgs false
set_option linter.unusedVariables false
set_option linter.unusedSectionVars false
namespace Go.Ax
open Go
def tlc : List Unit → Code → Code
  | _ :: l, .seq _ b => tlc l b
  | _, c => c
def bodyOf (f : Func) : Code := f.body.getD .skip
end Go.Ax
