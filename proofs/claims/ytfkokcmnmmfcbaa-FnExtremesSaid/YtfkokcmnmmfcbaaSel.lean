/- Contracts: selection by splitting. -/
import Derived.Test.YtfkokcmnmmfcbaaPlSel
set_option linter.unusedSimpArgs false
set_option linter.unusedVariables false
set_option linter.unusedSectionVars false
namespace Go.Proofs.Ytfkokcmnmmfcbaa
open Go Go.Ax
set_option maxRecDepth 10000
set_option maxHeartbeats 1000000

def rankOk (xs : List Int) (k : Int) : Bool := validB xs && inB k 0 ((xs.length : Int) - 1)
theorem rankOk_t {xs : List Int} {k : Int} (h : rankOk xs k = true) : validB xs = true ∧ ∃ K : Nat, k = (K : Int) ∧ K < xs.length := by
  simp only [rankOk, Bool.and_eq_true] at h
  have h2 := h.2
  simp only [inB, Bool.and_eq_true, decide_eq_true_eq] at h2
  exact ⟨h.1, k.toNat, by omega, by omega⟩

theorem three_step {xs : List Int} {x : Int} {k : Nat} : (qL x (xs.getD k 0) = true ∧ qM x x (xs.getD k 0) = false ∧ qG x x (xs.getD k 0) = false ∧ decide (xs.getD k 0 < x) = true) ∨
    (qL x (xs.getD k 0) = false ∧ qM x x (xs.getD k 0) = false ∧ qG x x (xs.getD k 0) = true ∧ decide (xs.getD k 0 < x) = false ∧ decide (x < xs.getD k 0) = true) ∨
    (qL x (xs.getD k 0) = false ∧ qM x x (xs.getD k 0) = true ∧ qG x x (xs.getD k 0) = false ∧ decide (xs.getD k 0 < x) = false ∧ decide (x < xs.getD k 0) = false) := by
  unfold qL qM qG
  cases decide (xs.getD k 0 < x) <;> cases decide (x < xs.getD k 0) <;> simp

/-- The list at hand: the one that came in, or one's own. -/
def curV (xs : List Int) : Option (List Int) → TV
  | none => tS 0 xs.length
  | some ys => tS 1 ys.length
def curH (xs : List Int) : Option (List Int) → Hp
  | none => [rI xs]
  | some ys => [rI xs, oI ys]

/-! ### QuickSelect -/
def fst0 (ys : List Int) : Int := ys.getD 0 0
theorem fst0_mem (ys : List Int) (h : 1 ≤ ys.length) : fst0 ys ∈ ys := getD_mem h
def qselV (xs : List Int) (k : Int) : List AV := cond (rankOk xs k) [aI (selB fst0 xs.length xs k.toNat).1, aI (selB fst0 xs.length xs k.toNat).2.2, aB true] [aI 0, aI 0, aB false]

end Go.Proofs.Ytfkokcmnmmfcbaa
