/- Plain facts on lists and numbers: no program in sight. -/
import Derived.Test.YtfkokcmnmmfcbaaAxEval
set_option linter.unusedSimpArgs false
set_option linter.unusedVariables false
set_option linter.unusedSectionVars false
namespace Go.Proofs.Ytfkokcmnmmfcbaa
open Go Go.Ax

theorem nt {b : Bool} (h : (!b) = true) : b = false := by simpa using h
theorem nf {b : Bool} (h : (!b) = false) : b = true := by simpa using h

theorem set_copy {α : Type} (xs : List α) (z : α) (k : Nat) (h : k < xs.length) : (xs.take k ++ List.replicate (xs.length - k) z).set k (xs[k]?.getD z) = xs.take (k + 1) ++ List.replicate (xs.length - (k + 1)) z := by
  apply List.ext_getElem?
  intro j
  by_cases hj : j = k
  · subst hj
    rw [List.getElem?_set_self (by simp; omega), List.getElem?_append_left (by simp; omega), List.getElem?_take, if_pos (by omega)]
    simp [h]
  · rw [List.getElem?_set_ne (Ne.symm hj)]
    rcases Nat.lt_or_ge j k with h1 | h1
    · rw [List.getElem?_append_left (by simp; omega), List.getElem?_append_left (by simp; omega), List.getElem?_take, List.getElem?_take, if_pos h1, if_pos (by omega)]
    · rw [List.getElem?_append_right (by simp; omega), List.getElem?_append_right (by simp; omega)]
      simp only [List.length_take, List.getElem?_replicate]
      rw [Nat.min_eq_left (by omega), Nat.min_eq_left (by omega)]
      by_cases h2 : j < xs.length
      · rw [if_pos (by omega), if_pos (by omega)]
      · rw [if_neg (by omega), if_neg (by omega)]

theorem take_succ_eq {xs ys : List Int} {k : Nat} (h1 : k < xs.length) (h2 : k < ys.length) (h : xs.take k = ys.take k) (e : xs.getD k 0 = ys.getD k 0) : xs.take (k + 1) = ys.take (k + 1) := by
  rw [List.take_add_one, List.take_add_one, h]
  simp only [List.getD_eq_getElem?_getD, List.getElem?_eq_getElem h1, List.getElem?_eq_getElem h2, Option.getD_some] at e ⊢
  rw [e]

theorem ne_take {xs ys : List Int} {k n : Nat} (hk : k < n) (h1 : n ≤ xs.length) (h2 : n ≤ ys.length) (e : ¬ xs.getD k 0 = ys.getD k 0) : ¬ xs.take n = ys.take n := by
  intro h
  refine e ?_
  have := congrArg (fun l => l.getD k 0) h
  simpa [List.getD_eq_getElem?_getD, List.getElem?_take, hk] using this
/-- The marks that the laws lay into a list, and the list with its first elements marked. -/
def marks (k : Int) (n : Nat) : List Int := (List.range n).map (fun (i : Nat) => k + (i : Int))
theorem marks_length (k : Int) (n : Nat) : (marks k n).length = n := by simp [marks]
def marked (xs : List Int) (k : Int) (n : Nat) : List Int := marks k n ++ xs.drop n
theorem marked_length {xs : List Int} {k : Int} {n : Nat} (h : n ≤ xs.length) : (marked xs k n).length = xs.length := by simp [marked, marks]; omega
theorem marked_set {xs : List Int} {k : Int} {n : Nat} (h : n < xs.length) : (marked xs k n).set n (k + n) = marked xs k (n + 1) := by
  unfold marked marks
  have e : (xs.drop n).set 0 (k + n) = (k + n) :: xs.drop (n + 1) := by rw [List.drop_eq_getElem_cons h]; rfl
  rw [List.set_append_right _ _ (by simp), List.range_succ, List.map_append]
  simp [e]
theorem marked_get {xs : List Int} {k : Int} {n i : Nat} (h : i < n) : (marked xs k n).getD i 0 = k + i := by
  unfold marked marks
  simp [List.getD_eq_getElem?_getD, List.getElem?_append, h]
theorem marked_all (xs : List Int) (k : Int) : marked xs k xs.length = marks k xs.length := by simp [marked]
theorem marked_zero (xs : List Int) (k : Int) : marked xs k 0 = xs := by simp [marked, marks]
/-- The index of the first element that a predicate holds for, or -1. -/
def idxF (q : Int → Bool) (xs : List Int) : Int := (xs.findIdx? q).elim (-1) (fun i => (i : Int))
theorem getD_lt {xs : List Int} {i : Nat} (h : i < xs.length) : xs.getD i 0 = xs[i] := by simp [List.getD_eq_getElem?_getD, List.getElem?_eq_getElem h]
theorem getD_mem {xs : List Int} {i : Nat} (h : i < xs.length) : xs.getD i 0 ∈ xs := by rw [getD_lt h]; exact List.getElem_mem h
theorem idxF_hit {q : Int → Bool} {xs : List Int} {k : Nat} (h : k < xs.length) (hq : q (xs.getD k 0) = true) (hb : ∀ i, i < k → q (xs.getD i 0) = false) : idxF q xs = k := by
  have : xs.findIdx? q = some k := by
    rw [List.findIdx?_eq_some_iff_getElem]
    refine ⟨h, by rw [← getD_lt h]; exact hq, fun j hj => ?_⟩
    have := hb j hj
    rw [getD_lt (by omega)] at this
    simp [this]
  simp [idxF, this]
theorem idxF_none {q : Int → Bool} {xs : List Int} (hb : ∀ i, i < xs.length → q (xs.getD i 0) = false) : idxF q xs = -1 := by
  have : xs.findIdx? q = none := by
    rw [List.findIdx?_eq_none_iff]
    intro x hx
    obtain ⟨i, hi, rfl⟩ := List.mem_iff_getElem.mp hx
    rw [← getD_lt hi]; exact hb i hi
  simp [idxF, this]
theorem idxF_any (q : Int → Bool) (xs : List Int) : decide (idxF q xs ≥ 0) = xs.any q := by
  unfold idxF
  cases h : xs.findIdx? q with
  | none =>
    rw [List.findIdx?_eq_none_iff] at h
    have : xs.any q = false := by simpa using h
    rw [this]; decide
  | some i =>
    rw [List.findIdx?_eq_some_iff_getElem] at h
    obtain ⟨h1, h2, _⟩ := h
    have : xs.any q = true := List.any_eq_true.mpr ⟨_, List.getElem_mem h1, h2⟩
    rw [this]; simp
theorem all_getD {q : Int → Bool} {xs : List Int} (hb : ∀ i, i < xs.length → q (xs.getD i 0) = true) : xs.all q = true := by
  rw [List.all_eq_true]
  intro x hx
  obtain ⟨i, hi, rfl⟩ := List.mem_iff_getElem.mp hx
  rw [← getD_lt hi]; exact hb i hi
theorem not_all_getD {q : Int → Bool} {xs : List Int} {i : Nat} (hi : i < xs.length) (hb : q (xs.getD i 0) = false) : xs.all q = false := by
  cases h : xs.all q
  · rfl
  · rw [List.all_eq_true] at h
    have := h _ (getD_mem hi)
    rw [this] at hb; cases hb
/-- How many numbers among the n from lo on a predicate holds for. -/
def cntR (p : Nat → Bool) (lo : Nat) : Nat → Nat
  | 0 => 0
  | n + 1 => cntR p lo n + (p (lo + n)).toNat
theorem cntR_le (p : Nat → Bool) (lo : Nat) : ∀ n, cntR p lo n ≤ n
  | 0 => Nat.le_refl 0
  | n + 1 => by have := cntR_le p lo n; have : (p (lo + n)).toNat ≤ 1 := Bool.toNat_le _; simp only [cntR]; omega
theorem cntR_t {p : Nat → Bool} {lo n : Nat} (h : p (lo + n) = true) : cntR p lo (n + 1) = cntR p lo n + 1 := by simp [cntR, h]
theorem cntR_f {p : Nat → Bool} {lo n : Nat} (h : p (lo + n) = false) : cntR p lo (n + 1) = cntR p lo n := by simp [cntR, h]

/-- A list of the values of a function. -/
def tabR (f : Nat → Int) (n : Nat) : List Int := (List.range n).map f
theorem tabR_succ (f : Nat → Int) (n : Nat) : tabR f (n + 1) = tabR f n ++ [f n] := by simp [tabR, List.range_succ]
theorem tabR_length (f : Nat → Int) (n : Nat) : (tabR f n).length = n := by simp [tabR]
theorem tabR_get (f : Nat → Int) {n i : Nat} (h : i < n) : (tabR f n).getD i 0 = f i := by simp [tabR, List.getD_eq_getElem?_getD, h]
def sumR (f : Nat → Int) : Nat → Int
  | 0 => 0
  | n + 1 => sumR f n + f n
theorem sumR_bd {f : Nat → Int} {b : Int} : ∀ n : Nat, (∀ i, i < n → 0 ≤ f i ∧ f i ≤ b) → 0 ≤ sumR f n ∧ sumR f n ≤ n * b
  | 0, _ => by simp [sumR]
  | n + 1, h => by
    have h1 := sumR_bd n (fun i hi => h i (by omega))
    have h2 := h n (by omega)
    simp only [sumR]
    have e : ((n + 1 : Nat) : Int) * b = n * b + b := by rw [Int.natCast_add, Int.add_mul]; simp
    rw [e]
    constructor <;> omega
theorem sumR_congr {f g : Nat → Int} : ∀ n : Nat, (∀ i, i < n → f i = g i) → sumR f n = sumR g n
  | 0, _ => rfl
  | n + 1, h => by simp only [sumR, sumR_congr n (fun i hi => h i (by omega)), h n (by omega)]

/-- Inversions. -/
def invAt (xs : List Int) (i : Nat) : Nat := cntR (fun j => decide (xs.getD j 0 < xs.getD i 0)) (i + 1) (xs.length - (i + 1))
def invTab (xs : List Int) : List Int := tabR (fun i => (invAt xs i : Int)) xs.length
theorem invAt_le (xs : List Int) (i : Nat) : invAt xs i ≤ xs.length := Nat.le_trans (cntR_le _ _ _) (by omega)
def sumL (xs : List Int) : Int := sumR (fun i => xs.getD i 0) xs.length
theorem sum_invTab (xs : List Int) : sumL (invTab xs) = sumR (fun i => (invAt xs i : Int)) xs.length := by
  unfold sumL
  rw [show (invTab xs).length = xs.length from tabR_length _ _]
  exact sumR_congr _ (fun i hi => tabR_get _ hi)
end Go.Proofs.Ytfkokcmnmmfcbaa
