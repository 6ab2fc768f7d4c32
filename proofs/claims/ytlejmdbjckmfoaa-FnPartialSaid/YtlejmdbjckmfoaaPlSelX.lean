/- Plain facts: selection by splitting finds the element of the sorted list, within bounds: no program in sight. -/
import Derived.Test.YtlejmdbjckmfoaaPlSel
import Derived.Test.YtlejmdbjckmfoaaPlSort
set_option linter.unusedSimpArgs false
set_option linter.unusedVariables false
set_option linter.unusedSectionVars false
namespace Go.Proofs.Ytlejmdbjckmfoaa
open Go Go.Ax

theorem three_count (x a : Int) : ∀ ys : List Int, (lessL x ys).count a + (sameL x ys).count a + (moreL x ys).count a = ys.count a
  | [] => rfl
  | y :: ys => by
    have ih := three_count x a ys
    unfold lessL sameL moreL at *
    simp only [List.filter_cons, qL, qM, qG] at *
    by_cases h1 : y < x
    · simp only [h1, decide_true, Bool.not_true, Bool.false_and, if_true, List.count_cons, Bool.false_eq_true, if_false]; omega
    · by_cases h2 : x < y
      · simp only [h1, h2, decide_true, decide_false, Bool.not_true, Bool.not_false, Bool.true_and, Bool.and_true, Bool.and_false, if_true, List.count_cons, Bool.false_eq_true, if_false]; omega
      · simp only [h1, h2, decide_true, decide_false, Bool.not_true, Bool.not_false, Bool.true_and, Bool.and_true, Bool.and_false, if_true, List.count_cons, Bool.false_eq_true, if_false]; omega
theorem srtL_pw (xs : List Int) : (srtL xs).Pairwise (fun a b => a ≤ b) := by
  rw [List.pairwise_iff_getElem]
  intro i j hi hj hij
  have := srtL_sorted xs i j hij (by rw [← srtL_len xs]; exact hj)
  simpa [List.getD_eq_getElem?_getD, hi, hj] using this
theorem mem_less {x y : Int} {ys : List Int} : y ∈ lessL x ys ↔ y ∈ ys ∧ y < x := by simp [lessL, qL]
theorem mem_same {x y : Int} {ys : List Int} : y ∈ sameL x ys ↔ y ∈ ys ∧ y = x := by
  simp only [sameL, List.mem_filter, qM, Bool.and_eq_true, Bool.not_eq_true', decide_eq_false_iff_not]
  constructor
  · rintro ⟨h, h1, h2⟩; exact ⟨h, by omega⟩
  · rintro ⟨h, h1⟩; exact ⟨h, by omega, by omega⟩
theorem mem_more {x y : Int} {ys : List Int} : y ∈ moreL x ys ↔ y ∈ ys ∧ x < y := by
  simp only [moreL, List.mem_filter, qG, Bool.and_eq_true, Bool.not_eq_true', decide_eq_false_iff_not, decide_eq_true_eq]
  constructor
  · intro h; refine ⟨h.1, ?_⟩; have := h.2; omega
  · intro h; refine ⟨h.1, ?_⟩; have := h.2; omega
theorem srtL_three (x : Int) (ys : List Int) : srtL ys = srtL (lessL x ys) ++ (sameL x ys ++ srtL (moreL x ys)) := by
  symm
  apply srtL_unique
  · rw [List.perm_iff_count]
    intro a
    rw [List.count_append, List.count_append, (srtL_perm (lessL x ys)).count_eq, (srtL_perm (moreL x ys)).count_eq]
    have := three_count x a ys
    omega
  · intro i j hij hj
    have hp : (srtL (lessL x ys) ++ (sameL x ys ++ srtL (moreL x ys))).Pairwise (fun a b => a ≤ b) := by
      rw [List.pairwise_append, List.pairwise_append]
      refine ⟨srtL_pw _, ⟨?_, srtL_pw _, fun a ha b hb => ?_⟩, fun a ha b hb => ?_⟩
      · rw [List.pairwise_iff_forall_sublist]
        intro a b hs
        have h1 := mem_same.mp (hs.subset (by simp : a ∈ [a, b]))
        have h2 := mem_same.mp (hs.subset (by simp : b ∈ [a, b]))
        omega
      · have h1 := mem_same.mp ha
        have h2 := mem_more.mp ((srtL_perm _).mem_iff.mp hb)
        omega
      · have h1 := mem_less.mp ((srtL_perm _).mem_iff.mp ha)
        rcases List.mem_append.mp hb with hb | hb
        · have h2 := mem_same.mp hb; omega
        · have h2 := mem_more.mp ((srtL_perm _).mem_iff.mp hb); omega
    have hi : i < (srtL (lessL x ys) ++ (sameL x ys ++ srtL (moreL x ys))).length := by omega
    have := List.pairwise_iff_getElem.mp hp i j hi hj hij
    simp only [Nat.zero_add, List.getD_eq_getElem?_getD, List.getElem?_eq_getElem hi, List.getElem?_eq_getElem hj, Option.getD_some]
    exact this
theorem getD_app_l {xs ys : List Int} {i : Nat} (h : i < xs.length) : (xs ++ ys).getD i 0 = xs.getD i 0 := by
  simp [List.getD_eq_getElem?_getD, List.getElem?_append_left h]
theorem getD_app_r {xs ys : List Int} {i : Nat} (h : xs.length ≤ i) : (xs ++ ys).getD i 0 = ys.getD (i - xs.length) 0 := by
  simp [List.getD_eq_getElem?_getD, List.getElem?_append_right h]
theorem selB_ok {ch : List Int → Int} (hch : ∀ ys : List Int, 1 ≤ ys.length → ch ys ∈ ys) : ∀ (f : Nat) (ys : List Int) (k : Nat), ys.length ≤ f → k < ys.length →
    (selB ch f ys k).1 = (srtL ys).getD k 0 ∧ 1 ≤ (selB ch f ys k).2.1 ∧ (selB ch f ys k).2.1 ≤ ys.length ∧ ys.length - 1 ≤ (selB ch f ys k).2.2 ∧ 2 * (selB ch f ys k).2.2 ≤ ys.length * (ys.length - 1)
  | 0, ys, k, h, hk => by omega
  | f + 1, ys, k, h, hk => by
    have e := three_len (ch ys) ys
    have hs := same_pos (hch ys (by omega))
    have hl := srtL_len (lessL (ch ys) ys)
    have hst : ∀ m c : Nat, m < ys.length → 2 * c ≤ m * (m - 1) → 2 * (c + (ys.length - 1)) ≤ ys.length * (ys.length - 1) := fun m c hm hc => by
      obtain ⟨n, hn⟩ : ∃ n, ys.length = n + 1 := ⟨ys.length - 1, by omega⟩
      rw [hn] at hm ⊢
      have h1 : m * (m - 1) ≤ n * (n - 1) := Nat.mul_le_mul (by omega) (by omega)
      cases n with
      | zero =>
        have : m = 0 := by omega
        subst this
        simp at hc ⊢; omega
      | succ n =>
        simp only [Nat.add_sub_cancel] at h1 ⊢
        have h2 : (n + 1 + 1) * (n + 1) = (n + 1) * n + 2 * (n + 1) := by rw [← Nat.mul_comm (n + 1) 2, ← Nat.mul_add, Nat.mul_comm]
        omega
    rw [srtL_three (ch ys) ys]
    by_cases h1 : k < (lessL (ch ys) ys).length
    · obtain ⟨i1, i2, i3, i4, i5⟩ := selB_ok hch f (lessL (ch ys) ys) k (by omega) h1
      rw [selB_lt h1, getD_app_l (by omega)]
      simp only
      exact ⟨i1, by omega, by omega, by omega, hst _ _ (by omega) i5⟩
    · by_cases h2 : k < (lessL (ch ys) ys).length + (sameL (ch ys) ys).length
      · rw [selB_eq h1 h2, getD_app_r (by omega), getD_app_l (by omega)]
        simp only
        refine ⟨?_, Nat.le_refl _, by omega, Nat.le_refl _, ?_⟩
        · have := mem_same.mp (getD_mem (xs := sameL (ch ys) ys) (i := k - (srtL (lessL (ch ys) ys)).length) (by omega))
          exact this.2.symm
        · have := hst 0 0 (by omega) (Nat.le_refl _); omega
      · obtain ⟨i1, i2, i3, i4, i5⟩ := selB_ok hch f (moreL (ch ys) ys) (k - (lessL (ch ys) ys).length - (sameL (ch ys) ys).length) (by omega) (by omega)
        rw [selB_gt h1 h2, getD_app_r (by omega), getD_app_r (by omega), hl]
        simp only
        exact ⟨i1, by omega, by omega, by omega, hst _ _ (by omega) i5⟩
end Go.Proofs.Ytlejmdbjckmfoaa
