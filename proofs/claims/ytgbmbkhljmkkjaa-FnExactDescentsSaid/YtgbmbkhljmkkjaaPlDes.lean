/- Plain facts on descents: no program in sight. -/
import Derived.Test.YtgbmbkhljmkkjaaPl
set_option linter.unusedSimpArgs false
set_option linter.unusedVariables false
set_option linter.unusedSectionVars false
namespace Go.Proofs.Ytgbmbkhljmkkjaa
open Go Go.Ax

theorem getD_app_l {xs ys : List Int} {i : Nat} (h : i < xs.length) : (xs ++ ys).getD i 0 = xs.getD i 0 := by simp [List.getD_eq_getElem?_getD, List.getElem?_append, h]
/-- Descents. -/
def desL (xs : List Int) : Nat → List Int
  | 0 => []
  | k + 1 => desL xs k ++ if xs.getD (k + 1) 0 < xs.getD k 0 then [(k : Int)] else []
theorem desL_len (xs : List Int) : ∀ k, (desL xs k).length ≤ k
  | 0 => by simp [desL]
  | k + 1 => by
    have := desL_len xs k
    simp only [desL, List.length_append]
    split <;> simp <;> omega
theorem desL_t {xs : List Int} {k : Nat} (h : xs.getD (k + 1) 0 < xs.getD k 0) : desL xs (k + 1) = desL xs k ++ [(k : Int)] := by simp only [desL, h, if_true]
theorem desL_f {xs : List Int} {k : Nat} (h : ¬ xs.getD (k + 1) 0 < xs.getD k 0) : desL xs (k + 1) = desL xs k := by simp only [desL, h, if_false, List.append_nil]
theorem desL_bd (xs : List Int) : ∀ k i, i < (desL xs k).length → 0 ≤ (desL xs k).getD i 0 ∧ (desL xs k).getD i 0 ≤ k
  | 0, i, h => by simp [desL] at h
  | k + 1, i, h => by
    have ih := desL_bd xs k i
    by_cases hd : xs.getD (k + 1) 0 < xs.getD k 0
    · rw [desL_t hd] at h ⊢
      by_cases hi : i < (desL xs k).length
      · have := ih hi
        rw [getD_app_l hi]; omega
      · have : i = (desL xs k).length := by simp at h; omega
        subst this
        simp
        omega
    · rw [desL_f hd] at h ⊢
      have := ih h
      omega
def desOf (xs : List Int) : List Int := desL xs (xs.length - 1)
theorem desOf_len (xs : List Int) : (desOf xs).length ≤ xs.length := Nat.le_trans (desL_len _ _) (by omega)
theorem desOf_bd (xs : List Int) (hx : xs.length ≤ 64) (i : Nat) (hi : i < (desOf xs).length) : 0 ≤ (desOf xs).getD i 0 ∧ (desOf xs).getD i 0 ≤ 64 := by
  have := desL_bd xs _ i hi
  unfold desOf
  omega
theorem sumR_one (f : Nat → Int) : ∀ n : Nat, sumR (fun i => f i + 1) n = sumR f n + n
  | 0 => rfl
  | n + 1 => by simp only [sumR, sumR_one f n]; omega
end Go.Proofs.Ytgbmbkhljmkkjaa
