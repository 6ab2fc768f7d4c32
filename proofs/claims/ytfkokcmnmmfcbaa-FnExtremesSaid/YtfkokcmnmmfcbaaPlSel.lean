/- Plain facts on selection: no program in sight. -/
import Derived.Test.YtfkokcmnmmfcbaaPlPart
set_option linter.unusedSimpArgs false
set_option linter.unusedVariables false
set_option linter.unusedSectionVars false
namespace Go.Proofs.Ytfkokcmnmmfcbaa
open Go Go.Ax

theorem selF_all (q : Int → Bool) (xs : List Int) : selF q xs xs.length = xs.filter q := by rw [selF_filter q xs _ (Nat.le_refl _), List.take_length]
def lessL (x : Int) (ys : List Int) : List Int := ys.filter (qL x)
def sameL (x : Int) (ys : List Int) : List Int := ys.filter (qM x x)
def moreL (x : Int) (ys : List Int) : List Int := ys.filter (qG x x)
theorem three_len (x : Int) : ∀ ys : List Int, (lessL x ys).length + (sameL x ys).length + (moreL x ys).length = ys.length
  | [] => rfl
  | y :: ys => by
    have ih := three_len x ys
    unfold lessL sameL moreL at *
    simp only [List.filter_cons, qL, qM, qG] at *
    by_cases h1 : y < x
    · simp only [h1, decide_true, Bool.not_true, Bool.false_and, if_true, List.length_cons, Bool.false_eq_true, if_false]; omega
    · by_cases h2 : x < y
      · simp only [h1, h2, decide_true, decide_false, Bool.not_true, Bool.not_false, Bool.true_and, Bool.and_true, Bool.and_false, if_true, List.length_cons, Bool.false_eq_true, if_false]; omega
      · simp only [h1, h2, decide_true, decide_false, Bool.not_true, Bool.not_false, Bool.true_and, Bool.and_true, Bool.and_false, if_true, List.length_cons, Bool.false_eq_true, if_false]; omega
theorem same_pos {x : Int} {ys : List Int} (h : x ∈ ys) : 1 ≤ (sameL x ys).length := by
  have : x ∈ sameL x ys := by simp [sameL, qM, h]
  exact List.length_pos_of_mem this
theorem same_get {x : Int} {ys : List Int} (h : 1 ≤ (sameL x ys).length) : (sameL x ys).getD 0 0 = x := by
  have hm : (sameL x ys).getD 0 0 ∈ sameL x ys := getD_mem h
  obtain ⟨y, hy⟩ : ∃ y, y = (sameL x ys).getD 0 0 := ⟨_, rfl⟩
  rw [← hy] at hm ⊢
  simp [sameL, qM] at hm
  omega
/-- Selection by a pivot: the element, the rounds, the comparisons. -/
def selB (ch : List Int → Int) : Nat → List Int → Nat → Int × Nat × Nat
  | 0, _, _ => (0, 0, 0)
  | f + 1, ys, k =>
    if k < (lessL (ch ys) ys).length then ((selB ch f (lessL (ch ys) ys) k).1, (selB ch f (lessL (ch ys) ys) k).2.1 + 1, (selB ch f (lessL (ch ys) ys) k).2.2 + (ys.length - 1))
    else if k < (lessL (ch ys) ys).length + (sameL (ch ys) ys).length then (ch ys, 1, ys.length - 1)
    else ((selB ch f (moreL (ch ys) ys) (k - (lessL (ch ys) ys).length - (sameL (ch ys) ys).length)).1, (selB ch f (moreL (ch ys) ys) (k - (lessL (ch ys) ys).length - (sameL (ch ys) ys).length)).2.1 + 1,
      (selB ch f (moreL (ch ys) ys) (k - (lessL (ch ys) ys).length - (sameL (ch ys) ys).length)).2.2 + (ys.length - 1))
theorem selB_lt {ch : List Int → Int} {f k : Nat} {ys : List Int} (h : k < (lessL (ch ys) ys).length) : selB ch (f + 1) ys k = ((selB ch f (lessL (ch ys) ys) k).1, (selB ch f (lessL (ch ys) ys) k).2.1 + 1, (selB ch f (lessL (ch ys) ys) k).2.2 + (ys.length - 1)) := by rw [selB, if_pos h]
theorem selB_eq {ch : List Int → Int} {f k : Nat} {ys : List Int} (h : ¬ k < (lessL (ch ys) ys).length) (h2 : k < (lessL (ch ys) ys).length + (sameL (ch ys) ys).length) : selB ch (f + 1) ys k = (ch ys, 1, ys.length - 1) := by rw [selB, if_neg h, if_pos h2]
theorem selB_gt {ch : List Int → Int} {f k : Nat} {ys : List Int} (h : ¬ k < (lessL (ch ys) ys).length) (h2 : ¬ k < (lessL (ch ys) ys).length + (sameL (ch ys) ys).length) : selB ch (f + 1) ys k =
    ((selB ch f (moreL (ch ys) ys) (k - (lessL (ch ys) ys).length - (sameL (ch ys) ys).length)).1, (selB ch f (moreL (ch ys) ys) (k - (lessL (ch ys) ys).length - (sameL (ch ys) ys).length)).2.1 + 1,
      (selB ch f (moreL (ch ys) ys) (k - (lessL (ch ys) ys).length - (sameL (ch ys) ys).length)).2.2 + (ys.length - 1)) := by rw [selB, if_neg h, if_neg h2]
theorem selB_bd (ch : List Int → Int) : ∀ (f : Nat) (ys : List Int) (k : Nat), ys.length ≤ 64 → (selB ch f ys k).2.1 ≤ f ∧ (selB ch f ys k).2.2 ≤ f * 64
  | 0, _, _, _ => by simp [selB]
  | f + 1, ys, k, h => by
    have e := three_len (ch ys) ys
    by_cases h1 : k < (lessL (ch ys) ys).length
    · have := selB_bd ch f (lessL (ch ys) ys) k (by omega)
      rw [selB_lt h1]; simp only; omega
    · by_cases h2 : k < (lessL (ch ys) ys).length + (sameL (ch ys) ys).length
      · rw [selB_eq h1 h2]; simp only; omega
      · have := selB_bd ch f (moreL (ch ys) ys) (k - (lessL (ch ys) ys).length - (sameL (ch ys) ys).length) (by omega)
        rw [selB_gt h1 h2]; simp only; omega
end Go.Proofs.Ytfkokcmnmmfcbaa
