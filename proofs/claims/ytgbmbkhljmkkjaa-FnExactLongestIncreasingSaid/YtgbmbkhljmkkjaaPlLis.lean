/- Plain facts on longest increasing subsequences: no program in sight. -/
import Derived.Test.YtgbmbkhljmkkjaaPlPerm
set_option linter.unusedSimpArgs false
set_option linter.unusedVariables false
set_option linter.unusedSectionVars false
namespace Go.Proofs.Ytgbmbkhljmkkjaa
open Go Go.Ax

theorem getD_set_eq {L : List Int} {i : Nat} {v : Int} (h : i < L.length) : (L.set i v).getD i 0 = v := by
  rw [List.getD_eq_getElem?_getD, List.getElem?_set_self h]; rfl
theorem getD_set_ne {L : List Int} {i q : Nat} {v : Int} (h : i ≠ q) : (L.set i v).getD q 0 = L.getD q 0 := by
  rw [List.getD_eq_getElem?_getD, List.getElem?_set_ne h, ← List.getD_eq_getElem?_getD]

/-- The lengths of the longest increasing subsequences that start at i, over the first j elements behind i. -/
def incIn (xs : List Int) (i : Nat) (L : List Int) : Nat → List Int
  | 0 => L.set i 1
  | j + 1 => if xs.getD i 0 < xs.getD (i + 1 + j) 0 then (incIn xs i L j).set i (max ((incIn xs i L j).getD i 0) ((incIn xs i L j).getD (i + 1 + j) 0 + 1)) else incIn xs i L j
def incAll (xs : List Int) : Nat → List Int
  | 0 => List.replicate xs.length 0
  | m + 1 => incIn xs (xs.length - (m + 1)) (incAll xs m) m
theorem incIn_len (xs : List Int) (i : Nat) (L : List Int) : ∀ j, (incIn xs i L j).length = L.length
  | 0 => by simp [incIn]
  | j + 1 => by unfold incIn; split <;> simp [incIn_len xs i L j]
theorem incAll_len (xs : List Int) : ∀ m, (incAll xs m).length = xs.length
  | 0 => by simp [incAll]
  | m + 1 => by rw [incAll, incIn_len, incAll_len xs m]
theorem incIn_ne (xs : List Int) (i : Nat) (L : List Int) {q : Nat} (hq : i ≠ q) : ∀ j, (incIn xs i L j).getD q 0 = L.getD q 0
  | 0 => getD_set_ne hq
  | j + 1 => by
    unfold incIn; split
    · rw [getD_set_ne hq]; exact incIn_ne xs i L hq j
    · exact incIn_ne xs i L hq j
theorem incIn_at (xs : List Int) (i : Nat) (L : List Int) (m : Int) (hi : i < L.length) (hm : 0 ≤ m) (hL : ∀ q, 0 ≤ L.getD q 0 ∧ L.getD q 0 ≤ m) : ∀ j, 1 ≤ (incIn xs i L j).getD i 0 ∧ (incIn xs i L j).getD i 0 ≤ m + 1
  | 0 => by rw [incIn, getD_set_eq hi]; omega
  | j + 1 => by
    have ih := incIn_at xs i L m hi hm hL j
    unfold incIn; split
    · have h1 := hL (i + 1 + j)
      rw [getD_set_eq (by rw [incIn_len]; exact hi), incIn_ne xs i L (q := i + 1 + j) (by omega) j]
      omega
    · exact ih
theorem incAll_bd (xs : List Int) : ∀ m, m ≤ xs.length → ∀ q, 0 ≤ (incAll xs m).getD q 0 ∧ (incAll xs m).getD q 0 ≤ m
  | 0, _, q => by
    simp only [incAll, List.getD_eq_getElem?_getD, List.getElem?_replicate]; split <;> simp
  | m + 1, h, q => by
    have ih := incAll_bd xs m (by omega)
    rw [incAll]
    by_cases hq : xs.length - (m + 1) = q
    · subst hq
      have := incIn_at xs (xs.length - (m + 1)) (incAll xs m) m (by rw [incAll_len]; omega) (by omega) ih m
      omega
    · rw [incIn_ne xs _ _ hq]
      have := ih q
      omega
theorem incAll_pos (xs : List Int) : ∀ m, m ≤ xs.length → ∀ q, xs.length - m ≤ q → q < xs.length → 1 ≤ (incAll xs m).getD q 0
  | 0, _, q, h1, h2 => by omega
  | m + 1, h, q, h1, h2 => by
    rw [incAll]
    by_cases hq : xs.length - (m + 1) = q
    · subst hq
      exact (incIn_at xs (xs.length - (m + 1)) (incAll xs m) m (by rw [incAll_len]; omega) (by omega) (incAll_bd xs m (by omega)) m).1
    · rw [incIn_ne xs _ _ hq]
      exact incAll_pos xs m (by omega) q (by omega) h2
def lisM (xs : List Int) : Nat → Int
  | 0 => 0
  | m + 1 => max (lisM xs m) ((incAll xs (m + 1)).getD (xs.length - (m + 1)) 0)
theorem lisM_bd (xs : List Int) : ∀ m, m ≤ xs.length → 0 ≤ lisM xs m ∧ lisM xs m ≤ m
  | 0, _ => by simp [lisM]
  | m + 1, h => by
    have h1 := lisM_bd xs m (by omega)
    have h2 := incAll_bd xs (m + 1) h (xs.length - (m + 1))
    simp only [lisM]; omega
def lastI (o : List Int) : Int := o.getD ((o.length : Int) - 1).toNat 0
def lisO (xs L : List Int) (M : Int) : Nat → List Int × Int
  | 0 => ([], M)
  | i + 1 => if (L.getD i 0 == (lisO xs L M i).2 && (((lisO xs L M i).1.length : Int) == 0 || decide (xs.getD (lastI (lisO xs L M i).1).toNat 0 < xs.getD i 0))) = true then ((lisO xs L M i).1 ++ [(i : Int)], (lisO xs L M i).2 - 1) else lisO xs L M i
theorem lisO_bd (xs L : List Int) (M : Int) : ∀ i, (lisO xs L M i).1.length ≤ i ∧ M - i ≤ (lisO xs L M i).2 ∧ (lisO xs L M i).2 ≤ M ∧ ∀ q, q < (lisO xs L M i).1.length → 0 ≤ (lisO xs L M i).1.getD q 0 ∧ (lisO xs L M i).1.getD q 0 < i
  | 0 => by simp [lisO]
  | i + 1 => by
    obtain ⟨h1, h2, h3, h4⟩ := lisO_bd xs L M i
    unfold lisO; split
    · refine ⟨by simp; omega, by simp; omega, by simp; omega, fun q hq => ?_⟩
      simp only [List.length_append, List.length_singleton] at hq
      simp only [List.getD_eq_getElem?_getD, List.getElem?_append]
      split
      · rename_i hq'
        have := h4 q hq'
        rw [List.getD_eq_getElem?_getD] at this
        omega
      · have : q - (lisO xs L M i).1.length = 0 := by omega
        rw [this]; simp; omega
    · refine ⟨by omega, by omega, by omega, fun q hq => ?_⟩
      have := h4 q hq
      omega
theorem lisO_stop (xs L : List Int) (M : Int) (n i : Nat) (hL : ∀ q, q < n → 1 ≤ L.getD q 0) (h0 : (lisO xs L M i).2 ≤ 0) : ∀ d, i + d ≤ n → lisO xs L M (i + d) = lisO xs L M i
  | 0, _ => rfl
  | d + 1, h => by
    have ih := lisO_stop xs L M n i hL h0 d (by omega)
    have h1 := hL (i + d) (by omega)
    rw [← Nat.add_assoc, lisO, ih]
    have : (L.getD (i + d) 0 == (lisO xs L M i).2) = false := by simp only [beq_eq_false_iff_ne]; omega
    rw [this]; simp
def lis (xs : List Int) : List Int := (lisO xs (incAll xs xs.length) (lisM xs xs.length) xs.length).1
theorem lis_len (xs : List Int) : (lis xs).length ≤ xs.length := (lisO_bd _ _ _ _).1
end Go.Proofs.Ytgbmbkhljmkkjaa
