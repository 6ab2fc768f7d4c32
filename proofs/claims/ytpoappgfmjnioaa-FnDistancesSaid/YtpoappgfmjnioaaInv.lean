/- Contracts: inversions. -/
import Derived.Test.YtpoappgfmjnioaaVal
set_option linter.unusedSimpArgs false
set_option linter.unusedVariables false
set_option linter.unusedSectionVars false
namespace Go.Proofs.Ytpoappgfmjnioaa
open Go Go.Ax
set_option maxRecDepth 10000

def countInv (xs : List Int) : List AV := cond (validB xs) [aI (sumL (invTab xs)), aB true] [aI 0, aB false]

theorem invTab_bd (xs : List Int) (hx : xs.length ≤ 64) (i : Nat) (hi : i < (invTab xs).length) : 0 ≤ (invTab xs).getD i 0 ∧ (invTab xs).getD i 0 ≤ 64 := by
  have hl : (invTab xs).length = xs.length := tabR_length _ _
  rw [hl] at hi
  have e : (invTab xs).getD i 0 = (invAt xs i : Int) := tabR_get _ hi
  rw [e]
  have := invAt_le xs i
  omega

end Go.Proofs.Ytpoappgfmjnioaa
