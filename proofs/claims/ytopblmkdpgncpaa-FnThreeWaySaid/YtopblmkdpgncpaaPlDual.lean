/- Plain facts: the parts of a dual partition, one after the other. -/
import Derived.Test.YtopblmkdpgncpaaPart
import Derived.Test.YtopblmkdpgncpaaPlSeg
set_option linter.unusedSimpArgs false
set_option linter.unusedVariables false
set_option linter.unusedSectionVars false
namespace Go.Proofs.Ytopblmkdpgncpaa
open Go Go.Ax

/-- Is an element in part p? -/
def qP (a b : Int) (p : Nat) (y : Int) : Bool := (((p : Int) == 0) == decide (y < a)) && (((p : Int) == 2) == decide (b < y))
theorem qP0 {a b : Int} (h : ¬ b < a) : qP a b 0 = qL a := by
  funext y
  unfold qP qL
  by_cases h1 : y < a
  · have : decide (b < y) = false := decide_eq_false (by omega)
    simp [h1, this]
  · simp [h1]
theorem qP1 (a b : Int) : qP a b 1 = qM a b := by
  funext y
  unfold qP qM
  cases decide (y < a) <;> cases decide (b < y) <;> rfl
theorem qP2 (a b : Int) : qP a b 2 = qG a b := by
  funext y
  unfold qP qG
  cases decide (y < a) <;> cases decide (b < y) <;> rfl

def cbP (ys : List Int) (a b : Int) : Nat → Nat
  | 0 => 0
  | p + 1 => cbP ys a b p + (selF (qP a b p) ys ys.length).length
theorem selF_pre (q : Int → Bool) (xs : List Int) : ∀ (n k : Nat), k ≤ n → ∃ t, selF q xs n = selF q xs k ++ t
  | 0, k, h => ⟨[], by rw [show k = 0 by omega]; simp⟩
  | n + 1, k, h => by
    by_cases e : k = n + 1
    · exact ⟨[], by rw [e]; simp⟩
    · obtain ⟨t, ht⟩ := selF_pre q xs n k (by omega)
      cases hq : q (xs.getD n 0)
      · exact ⟨t, by rw [selF_f hq, ht]⟩
      · exact ⟨t ++ [xs.getD n 0], by rw [selF_t hq, ht, List.append_assoc]⟩
theorem selF_at {q : Int → Bool} {xs : List Int} {n k : Nat} (h : k < n) (hq : q (xs.getD k 0) = true) : (selF q xs k).length < (selF q xs n).length ∧ (selF q xs n).getD (selF q xs k).length 0 = xs.getD k 0 := by
  obtain ⟨t, ht⟩ := selF_pre q xs n (k + 1) (by omega)
  rw [ht, selF_t hq]
  refine ⟨by simp, ?_⟩
  rw [getD_appL (by simp), getD_appR (Nat.le_refl _)]
  simp
theorem dual_at {ys : List Int} {a b : Int} (h : ¬ b < a) {p k : Nat} (hp : p < 3) (hk : k < ys.length) (hq : qP a b p (ys.getD k 0) = true) :
    cbP ys a b p + (selF (qP a b p) ys k).length < (dualL ys a b).length ∧ (dualL ys a b).getD (cbP ys a b p + (selF (qP a b p) ys k).length) 0 = ys.getD k 0 := by
  obtain ⟨h1, h2⟩ := selF_at hk hq
  have e0 := qP0 (a := a) (b := b) h
  have e1 := qP1 a b
  have e2 := qP2 a b
  unfold dualL
  match p, hp with
  | 0, _ =>
    simp only [cbP, Nat.zero_add]
    rw [e0] at h1 h2 ⊢
    rw [List.append_assoc, List.length_append, getD_appL h1]
    exact ⟨by omega, h2⟩
  | 1, _ =>
    simp only [cbP, Nat.zero_add]
    rw [e1] at h1 h2 ⊢
    rw [e0]
    have hl : (selF (qL a) ys ys.length).length + (selF (qM a b) ys k).length < (selF (qL a) ys ys.length ++ selF (qM a b) ys ys.length).length := by rw [List.length_append]; omega
    rw [getD_appL hl, getD_appR (by omega), Nat.add_sub_cancel_left]
    simp only [List.length_append]
    exact ⟨by omega, h2⟩
  | 2, _ =>
    simp only [cbP, Nat.zero_add]
    rw [e2] at h1 h2 ⊢
    rw [e0, e1]
    rw [getD_appR (by rw [List.length_append]; omega)]
    simp only [List.length_append, Nat.add_sub_cancel_left]
    exact ⟨by omega, h2⟩
theorem three_sel {a b : Int} (h : ¬ b < a) (ys : List Int) : ∀ k, (selF (qP a b 0) ys k).length + (selF (qP a b 1) ys k).length + (selF (qP a b 2) ys k).length = k
  | 0 => rfl
  | k + 1 => by
    have ih := three_sel h ys k
    have key : ∀ y, (qP a b 0 y = true ∧ qP a b 1 y = false ∧ qP a b 2 y = false) ∨ (qP a b 0 y = false ∧ qP a b 1 y = true ∧ qP a b 2 y = false) ∨ (qP a b 0 y = false ∧ qP a b 1 y = false ∧ qP a b 2 y = true) := fun y => by
      rw [qP0 h, qP1, qP2]
      unfold qL qM qG
      cases decide (y < a) <;> cases decide (b < y) <;> simp
    rcases key (ys.getD k 0) with ⟨h0, h1, h2⟩ | ⟨h0, h1, h2⟩ | ⟨h0, h1, h2⟩
    · rw [selF_t h0, selF_f h1, selF_f h2, List.length_append, List.length_singleton]; omega
    · rw [selF_f h0, selF_t h1, selF_f h2, List.length_append, List.length_singleton]; omega
    · rw [selF_f h0, selF_f h1, selF_t h2, List.length_append, List.length_singleton]; omega
theorem cbP_all {a b : Int} (h : ¬ b < a) (ys : List Int) : cbP ys a b 3 = ys.length := by
  have := three_sel h ys ys.length
  simp only [cbP]; omega
theorem dualN_cb {a b : Int} (h : ¬ b < a) (ys : List Int) : dualN ys a = cbP ys a b 1 ∧ dualM ys a b = cbP ys a b 2 := by
  simp only [dualN, dualM, cbP, qP0 h, qP1]; omega
theorem dualL_len2 {a b : Int} (h : ¬ b < a) (ys : List Int) : (dualL ys a b).length = ys.length := by
  have := cbP_all h ys
  simp only [cbP, qP0 h, qP1, qP2] at this
  simp only [dualL, List.length_append]; omega
end Go.Proofs.Ytopblmkdpgncpaa
