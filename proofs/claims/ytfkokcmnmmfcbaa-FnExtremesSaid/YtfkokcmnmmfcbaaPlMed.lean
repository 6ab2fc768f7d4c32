/- Plain facts on the median of three elements: no program in sight. -/
import Derived.Test.YtfkokcmnmmfcbaaPl
set_option linter.unusedSimpArgs false
set_option linter.unusedVariables false
set_option linter.unusedSectionVars false
namespace Go.Proofs.Ytfkokcmnmmfcbaa
open Go Go.Ax

def anyR (p : Nat → Bool) : Nat → Bool
  | 0 => false
  | k + 1 => anyR p k || p k

def firstR (p : Nat → Bool) (v : Nat → Int) (n : Nat) : Int := ((List.range n).find? p).elim 0 v
theorem firstR_hit {p : Nat → Bool} {v : Nat → Int} {n i : Nat} (hi : i < n) (hb : ∀ j, j < i → p j = false) (h : p i = true) : firstR p v n = v i := by
  have : (List.range n).find? p = some i := by
    rw [List.find?_range_eq_some]
    exact ⟨h, by simpa using hi, fun j hj => by simp [hb j hj]⟩
  simp [firstR, this]
theorem firstR_none {p : Nat → Bool} {v : Nat → Int} {n : Nat} (hb : ∀ j, j < n → p j = false) : firstR p v n = 0 := by
  have : (List.range n).find? p = none := by
    rw [List.find?_eq_none]
    intro j hj
    simp [hb j (by simpa using hj)]
  simp [firstR, this]

def medA (n : Nat) : List Int := [0, ((n / 2 : Nat) : Int), (n : Int) - 1]
def medX (x : Nat → Int) (n k : Nat) : Int := x ((medA n).getD k 0).toNat
def medL (x : Nat → Int) (n i k : Nat) : Bool := decide (k ≠ i) && decide (medX x n k ≤ medX x n i)
def medM (x : Nat → Int) (n i k : Nat) : Bool := decide (k ≠ i) && decide (medX x n k ≥ medX x n i)
def medI (x : Nat → Int) (n : Nat) : Int := firstR (fun i => anyR (medL x n i) 3 && anyR (medM x n i) 3) (fun i => (medA n).getD i 0) 3
theorem medA_bd {n k : Nat} (hn : 1 ≤ n) (hk : k < 3) : 0 ≤ (medA n).getD k 0 ∧ (medA n).getD k 0 < n := by
  match k, hk with
  | 0, _ => simp [medA]; omega
  | 1, _ => simp [medA]; omega
  | 2, _ => simp [medA]; omega
theorem medI_bd (x : Nat → Int) {n : Nat} (hn : 1 ≤ n) : 0 ≤ medI x n ∧ medI x n < n := by
  unfold medI firstR
  cases h : (List.range 3).find? (fun i => anyR (medL x n i) 3 && anyR (medM x n i) 3) with
  | none => simp; omega
  | some i => exact medA_bd hn (by have := List.mem_of_find?_eq_some h; simpa using this)
end Go.Proofs.Ytfkokcmnmmfcbaa
