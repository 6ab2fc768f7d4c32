/- Plain facts on permutations, distances and increasing subsequences: no program in sight. -/
import Derived.Test.YtpoappgfmjnioaaPl
set_option linter.unusedSimpArgs false
set_option linter.unusedVariables false
set_option linter.unusedSectionVars false
namespace Go.Proofs.Ytpoappgfmjnioaa
open Go Go.Ax

def allR (p : Nat → Bool) : Nat → Bool
  | 0 => true
  | k + 1 => allR p k && p k
theorem allR_f {p : Nat → Bool} {i : Nat} : ∀ {n : Nat}, i < n → p i = false → allR p n = false
  | n + 1, h, hp => by
    rcases Nat.lt_succ_iff_lt_or_eq.mp h with h1 | h1
    · simp [allR, allR_f h1 hp]
    · subst h1; simp [allR, hp]
theorem allR_get {p : Nat → Bool} : ∀ {n : Nat}, allR p n = true → ∀ i, i < n → p i = true
  | n + 1, h, i, hi => by
    simp only [allR, Bool.and_eq_true] at h
    rcases Nat.lt_succ_iff_lt_or_eq.mp hi with h1 | h1
    · exact allR_get h.1 i h1
    · subst h1; exact h.2

def seenR (xs : List Int) : Nat → List Bool
  | 0 => List.replicate xs.length false
  | k + 1 => (seenR xs k).set (xs.getD k 0).toNat true
theorem seenR_len (xs : List Int) : ∀ k, (seenR xs k).length = xs.length
  | 0 => by simp [seenR]
  | k + 1 => by simp [seenR, seenR_len xs k]
def stepOK (xs : List Int) (k : Nat) : Bool := (decide (0 ≤ xs.getD k 0) && decide (xs.getD k 0 ≤ (xs.length : Int) - 1)) && !((seenR xs k).getD (xs.getD k 0).toNat false)
/-- A permutation. -/
def permB (xs : List Int) : Bool := decide (xs.length ≤ 64) && allR (stepOK xs) xs.length
theorem permB_len {xs : List Int} (h : permB xs = true) : xs.length ≤ 64 := by simp [permB] at h; exact h.1
theorem permB_bd {xs : List Int} (h : permB xs = true) {i : Nat} (hi : i < xs.length) : 0 ≤ xs.getD i 0 ∧ xs.getD i 0 < xs.length := by
  simp only [permB, Bool.and_eq_true] at h
  have := allR_get h.2 i hi
  simp only [stepOK, Bool.and_eq_true, decide_eq_true_eq] at this
  omega
theorem seenR_mono {xs : List Int} {j : Nat} : ∀ {k m : Nat}, k ≤ m → (seenR xs k).getD j false = true → (seenR xs m).getD j false = true
  | k, 0, h, hk => by have : k = 0 := by omega
                      subst this; exact hk
  | k, m + 1, h, hk => by
    rcases Nat.lt_or_ge m k with h1 | h1
    · have : k = m + 1 := by omega
      subst this; exact hk
    · have := seenR_mono h1 hk
      simp only [seenR, List.getD_eq_getElem?_getD, List.getElem?_set] at this ⊢
      split
      · rename_i e
        subst e
        split
        · rfl
        · rename_i h2
          rw [List.getElem?_eq_none (by omega)] at this; exact this
      · exact this
theorem permB_ne {xs : List Int} (h : permB xs = true) {i j : Nat} (hij : i < j) (hj : j < xs.length) : xs.getD i 0 ≠ xs.getD j 0 := by
  intro e
  have hb := permB_bd h (i := i) (by omega)
  simp only [permB, Bool.and_eq_true] at h
  have h1 := allR_get h.2 j hj
  simp only [stepOK, Bool.and_eq_true, Bool.not_eq_true'] at h1
  have h2 : (seenR xs (i + 1)).getD (xs.getD i 0).toNat false = true := by
    have hl := seenR_len xs i
    simp only [seenR]
    rw [List.getD_eq_getElem?_getD, List.getElem?_set_self (by omega)]; rfl
  have h3 := seenR_mono (m := j) hij h2
  rw [e, h1.2] at h3
  cases h3

/-- Sums over the pairs of a triangle, by rows and by columns. -/
def triL (g : Nat → Nat → Bool) (n : Nat) : Int := sumR (fun i => (cntR (fun k => g i k) 0 i : Nat)) n
def triU (g : Nat → Nat → Bool) (n : Nat) : Int := sumR (fun i => (cntR (fun k => g k i) (i + 1) (n - (i + 1)) : Nat)) n
theorem sumR_add (f h : Nat → Int) : ∀ n, sumR (fun i => f i + h i) n = sumR f n + sumR h n
  | 0 => rfl
  | n + 1 => by simp only [sumR, sumR_add f h n]; omega
theorem cntR_sum (p : Nat → Bool) (lo : Nat) : ∀ n, ((cntR p lo n : Nat) : Int) = sumR (fun i => ((p (lo + i)).toNat : Int)) n
  | 0 => rfl
  | n + 1 => by simp only [cntR, sumR, ← cntR_sum p lo n]; omega
theorem tri_eq (g : Nat → Nat → Bool) : ∀ n, triL g n = triU g n
  | 0 => rfl
  | n + 1 => by
    have h1 : triL g (n + 1) = triL g n + (cntR (fun k => g n k) 0 n : Nat) := rfl
    have h2 : triU g (n + 1) = sumR (fun i => (cntR (fun k => g k i) (i + 1) (n + 1 - (i + 1)) : Nat)) n + 0 := by
      unfold triU; simp only [sumR]; congr 1; simp [cntR]
    have h3 : sumR (fun i => ((cntR (fun k => g k i) (i + 1) (n + 1 - (i + 1)) : Nat) : Int)) n = sumR (fun i => ((cntR (fun k => g k i) (i + 1) (n - (i + 1)) : Nat) : Int) + ((g n i).toNat : Int)) n := by
      apply sumR_congr
      intro i hi
      have e : n + 1 - (i + 1) = (n - (i + 1)) + 1 := by omega
      have e2 : i + 1 + (n - (i + 1)) = n := by omega
      simp only [e, cntR, e2]; omega
    rw [h1, h2, h3, sumR_add, tri_eq g n, cntR_sum]
    simp [triU]
theorem sumR_nat_le {f : Nat → Nat} {b : Nat} : ∀ n, (∀ i, i < n → f i ≤ b) → 0 ≤ sumR (fun i => (f i : Int)) n ∧ sumR (fun i => (f i : Int)) n ≤ n * b := fun n h => by
  have := sumR_bd (f := fun i => (f i : Int)) (b := b) n (fun i hi => ⟨by omega, by have := h i hi; omega⟩)
  exact this
/-- How two lists order a pair differently. -/
def dif (ps qs : List Int) (i k : Nat) : Bool := decide (ps.getD i 0 < ps.getD k 0) != decide (qs.getD i 0 < qs.getD k 0)
theorem dif_symm {ps qs : List Int} {i k : Nat} (h1 : ps.getD i 0 ≠ ps.getD k 0) (h2 : qs.getD i 0 ≠ qs.getD k 0) : dif ps qs i k = dif ps qs k i := by
  unfold dif
  have e1 : decide (ps.getD i 0 < ps.getD k 0) = !decide (ps.getD k 0 < ps.getD i 0) := by simp only [← decide_not, decide_eq_decide]; omega
  have e2 : decide (qs.getD i 0 < qs.getD k 0) = !decide (qs.getD k 0 < qs.getD i 0) := by simp only [← decide_not, decide_eq_decide]; omega
  rw [e1, e2]; simp
def kend (ps qs : List Int) : Int := triL (dif ps qs) ps.length
theorem cntR_congr {p q : Nat → Bool} {lo : Nat} : ∀ {n : Nat}, (∀ i, i < n → p (lo + i) = q (lo + i)) → cntR p lo n = cntR q lo n
  | 0, _ => rfl
  | n + 1, h => by simp only [cntR, cntR_congr (n := n) (fun i hi => h i (by omega)), h n (by omega)]
theorem kend_U {ps qs : List Int} (hp : permB ps = true) (hq : permB qs = true) (hl : ps.length = qs.length) : sumR (fun i => ((cntR (fun k => dif ps qs i k) (i + 1) (ps.length - (i + 1)) : Nat) : Int)) ps.length = kend ps qs := by
  unfold kend
  rw [tri_eq]
  unfold triU
  apply sumR_congr
  intro i hi
  congr 1
  apply cntR_congr
  intro k hk
  exact dif_symm (permB_ne hp (by omega) (by omega)) (permB_ne hq (by omega) (by omega))
def footF (ps qs : List Int) (i : Nat) : Int := max (ps.getD i 0 - qs.getD i 0) (qs.getD i 0 - ps.getD i 0)
def foot (ps qs : List Int) : Int := sumR (footF ps qs) ps.length
theorem footF_bd {ps qs : List Int} (hp : permB ps = true) (hq : permB qs = true) (hl : ps.length = qs.length) {i : Nat} (hi : i < ps.length) : 0 ≤ footF ps qs i ∧ footF ps qs i ≤ 64 := by
  have h1 := permB_bd hp hi
  have h2 := permB_bd hq (i := i) (by omega)
  have h3 := permB_len hp
  unfold footF
  omega
end Go.Proofs.Ytpoappgfmjnioaa
