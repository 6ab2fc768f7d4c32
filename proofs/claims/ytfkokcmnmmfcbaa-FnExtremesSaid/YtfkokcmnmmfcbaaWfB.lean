/- Bytes that came in are bytes. -/
import Derived.Test.YtfkokcmnmmfcbaaBridge
import Derived.Test.YtfkokcmnmmfcbaaCur
import Derived.OpenShut
set_option linter.unusedSimpArgs false
set_option linter.unusedVariables false
set_option linter.unusedSectionVars false
namespace Go.Proofs.Ytfkokcmnmmfcbaa
open Go Go.Ax

theorem u8s_wf {xs : List Int} (h : ∀ n ∈ xs, (Lit.int .u8 n).wf = true) : U8s xs := by
  intro i hi
  exact bounds_u8 (h (xs.getD i 0) (by rw [List.getD_eq_getElem?_getD, List.getElem?_eq_getElem hi]; exact List.getElem_mem hi))
end Go.Proofs.Ytfkokcmnmmfcbaa
