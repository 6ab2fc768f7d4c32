/- Plain facts on lists and numbers: no program in sight. -/
import Derived.Test.YtgbmbkhljmkkjaaAxEval
set_option linter.unusedSimpArgs false
set_option linter.unusedVariables false
set_option linter.unusedSectionVars false
namespace Go.Proofs.Ytgbmbkhljmkkjaa
open Go Go.Ax

theorem nt {b : Bool} (h : (!b) = true) : b = false := by simpa using h
theorem nf {b : Bool} (h : (!b) = false) : b = true := by simpa using h

theorem set_copy {α : Type} (xs : List α) (z : α) (k : Nat) (h : k < xs.length) : (xs.take k ++ List.replicate (xs.length - k) z).set k (xs[k]?.getD z) = xs.take (k + 1) ++ List.replicate (xs.length - (k + 1)) z := by
  apply List.ext_getElem?
  intro j
  by_cases hj : j = k
  · subst hj
    rw [List.getElem?_set_self (by simp; omega), List.getElem?_append_left (by simp; omega), List.getElem?_take, if_pos (by omega)]
    simp [h]
  · rw [List.getElem?_set_ne (Ne.symm hj)]
    rcases Nat.lt_or_ge j k with h1 | h1
    · rw [List.getElem?_append_left (by simp; omega), List.getElem?_append_left (by simp; omega), List.getElem?_take, List.getElem?_take, if_pos h1, if_pos (by omega)]
    · rw [List.getElem?_append_right (by simp; omega), List.getElem?_append_right (by simp; omega)]
      simp only [List.length_take, List.getElem?_replicate]
      rw [Nat.min_eq_left (by omega), Nat.min_eq_left (by omega)]
      by_cases h2 : j < xs.length
      · rw [if_pos (by omega), if_pos (by omega)]
      · rw [if_neg (by omega), if_neg (by omega)]

end Go.Proofs.Ytgbmbkhljmkkjaa
