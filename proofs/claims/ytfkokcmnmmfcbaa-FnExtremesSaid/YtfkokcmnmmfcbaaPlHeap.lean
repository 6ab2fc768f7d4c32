/- Plain facts on heaps: no program in sight. -/
import Derived.Test.YtfkokcmnmmfcbaaOwn
set_option linter.unusedSimpArgs false
set_option linter.unusedVariables false
set_option linter.unusedSectionVars false
namespace Go.Proofs.Ytfkokcmnmmfcbaa
open Go Go.Ax

/-- The greatest of the children, of which the first is f. -/
def bestJ (zs : List Int) (o f : Nat) : Nat → Nat
  | 0 => f
  | j + 1 => if zs.getD (o + bestJ zs o f j) 0 < zs.getD (o + (f + 1 + j)) 0 then f + 1 + j else bestJ zs o f j
theorem bestJ_bd (zs : List Int) (o f : Nat) : ∀ j, f ≤ bestJ zs o f j ∧ bestJ zs o f j ≤ f + j
  | 0 => by simp [bestJ]
  | j + 1 => by
    have := bestJ_bd zs o f j
    unfold bestJ; split <;> omega
def kids (d n i : Nat) : Nat := min (d - 1) (n - (d * i + 2))
def best (zs : List Int) (o d n i : Nat) : Nat := bestJ zs o (d * i + 1) (kids d n i)
theorem best_bd {zs : List Int} {o d n i : Nat} (h : d * i + 1 < n) (hd : 2 ≤ d) : i < best zs o d n i ∧ best zs o d n i < n := by
  have := bestJ_bd zs o (d * i + 1) (kids d n i)
  have h2 : i ≤ d * i := Nat.le_mul_of_pos_left i (by omega)
  unfold best
  unfold kids at *
  omega

def siftF (d o n : Nat) : Nat → Nat → List Int → List Int × Nat
  | 0, _, zs => (zs, 0)
  | f + 1, i, zs =>
    if d * i + 1 < n then
      if zs.getD (o + best zs o d n i) 0 ≤ zs.getD (o + i) 0 then (zs, 0)
      else ((siftF d o n f (best zs o d n i) (swp zs (o + i) (o + best zs o d n i))).1, (siftF d o n f (best zs o d n i) (swp zs (o + i) (o + best zs o d n i))).2 + 1)
    else (zs, 0)
theorem siftF_out {d o n f i : Nat} {zs : List Int} (h : ¬ d * i + 1 < n) : siftF d o n f i zs = (zs, 0) := by
  cases f with
  | zero => rfl
  | succ f => rw [siftF, if_neg h]
theorem siftF_stay {d o n f i : Nat} {zs : List Int} (h : d * i + 1 < n) (h2 : zs.getD (o + best zs o d n i) 0 ≤ zs.getD (o + i) 0) : siftF d o n f i zs = (zs, 0) := by
  cases f with
  | zero => rfl
  | succ f => rw [siftF, if_pos h, if_pos h2]
theorem siftF_go {d o n f i : Nat} {zs : List Int} (h : d * i + 1 < n) (h2 : ¬ zs.getD (o + best zs o d n i) 0 ≤ zs.getD (o + i) 0) :
    siftF d o n (f + 1) i zs = ((siftF d o n f (best zs o d n i) (swp zs (o + i) (o + best zs o d n i))).1, (siftF d o n f (best zs o d n i) (swp zs (o + i) (o + best zs o d n i))).2 + 1) := by
  rw [siftF, if_pos h, if_neg h2]
theorem siftF_len (d o n : Nat) : ∀ (f i : Nat) (zs : List Int), (siftF d o n f i zs).1.length = zs.length
  | 0, _, _ => rfl
  | f + 1, i, zs => by
    unfold siftF
    split
    · split
      · rfl
      · rw [siftF_len d o n f]; exact swp_len _ _ _
    · rfl
theorem siftF_cnt (d o n : Nat) : ∀ (f i : Nat) (zs : List Int), (siftF d o n f i zs).2 ≤ f
  | 0, _, _ => Nat.le_refl _
  | f + 1, i, zs => by
    unfold siftF
    split
    · split
      · omega
      · have := siftF_cnt d o n f (best zs o d n i) (swp zs (o + i) (o + best zs o d n i)); simp only; omega
    · omega

/-- A heap made of a list, from the index c downwards. -/
def buildF (d o n : Nat) : Nat → List Int × Nat → List Int × Nat
  | 0, st => st
  | c + 1, st => buildF d o n c ((siftF d o n n c st.1).1, st.2 + (siftF d o n n c st.1).2)
theorem buildF_len (d o n : Nat) : ∀ (c : Nat) (st : List Int × Nat), (buildF d o n c st).1.length = st.1.length
  | 0, _ => rfl
  | c + 1, st => by rw [buildF, buildF_len d o n c]; exact siftF_len _ _ _ _ _ _
theorem buildF_cnt (d o n : Nat) : ∀ (c : Nat) (st : List Int × Nat), st.2 ≤ (buildF d o n c st).2 ∧ (buildF d o n c st).2 ≤ st.2 + c * n
  | 0, st => by simp [buildF]
  | c + 1, st => by
    have := buildF_cnt d o n c ((siftF d o n n c st.1).1, st.2 + (siftF d o n n c st.1).2)
    have h2 := siftF_cnt d o n n c st.1
    have h3 : (c + 1) * n = c * n + n := by rw [Nat.add_mul]; omega
    rw [buildF]; simp only at this ⊢; omega
def heapF (d o n : Nat) (zs : List Int) : List Int × Nat := buildF d o n n (zs, 0)
/-- The sorting steps of heap sort. -/
def hsF (d o : Nat) : Nat → List Int × Nat → List Int × Nat
  | 0, st => st
  | 1, st => st
  | m + 2, st => hsF d o (m + 1) ((siftF d o (m + 1) (m + 1) 0 (swp st.1 o (o + (m + 1)))).1, st.2 + (1 + (siftF d o (m + 1) (m + 1) 0 (swp st.1 o (o + (m + 1)))).2))
theorem hsF_len (d o : Nat) : ∀ (c : Nat) (st : List Int × Nat), (hsF d o c st).1.length = st.1.length
  | 0, _ => rfl
  | 1, _ => rfl
  | c + 2, st => by rw [hsF, hsF_len d o (c + 1)]; simp only [siftF_len, swp_len]
theorem hsF_cnt (d o : Nat) : ∀ (c : Nat) (st : List Int × Nat), st.2 ≤ (hsF d o c st).2 ∧ (hsF d o c st).2 ≤ st.2 + c * c
  | 0, st => by simp [hsF]
  | 1, st => by simp [hsF]
  | c + 2, st => by
    have := hsF_cnt d o (c + 1) ((siftF d o (c + 1) (c + 1) 0 (swp st.1 o (o + (c + 1)))).1, st.2 + (1 + (siftF d o (c + 1) (c + 1) 0 (swp st.1 o (o + (c + 1)))).2))
    have h2 := siftF_cnt d o (c + 1) (c + 1) 0 (swp st.1 o (o + (c + 1)))
    have h3 : (c + 2) * (c + 2) = (c + 1) * (c + 1) + 2 * c + 3 := by simp only [Nat.add_mul, Nat.mul_add]; omega
    rw [hsF]; simp only at this ⊢; omega
def hsortF (d o n : Nat) (zs : List Int) : List Int × Nat := hsF d o n (heapF d o n zs)
theorem heapF_len (d o n : Nat) (zs : List Int) : (heapF d o n zs).1.length = zs.length := buildF_len _ _ _ _ _
theorem hsortF_len (d o n : Nat) (zs : List Int) : (hsortF d o n zs).1.length = zs.length := by unfold hsortF; rw [hsF_len, heapF_len]

/-- The first index whose element is greater than its parent, or -1. -/
def faultB (zs : List Int) (d j : Nat) : Bool := decide (zs.getD (j / d) 0 < zs.getD (j + 1) 0)
def firstI (p : Nat → Bool) (n : Nat) : Int := ((List.range n).find? p).elim (-1) (fun j => (j : Int) + 1)
theorem firstI_hit {p : Nat → Bool} {n i : Nat} (hi : i < n) (hb : ∀ j, j < i → p j = false) (h : p i = true) : firstI p n = (i : Int) + 1 := by
  have : (List.range n).find? p = some i := by
    rw [List.find?_range_eq_some]
    exact ⟨h, by simpa using hi, fun j hj => by simp [hb j hj]⟩
  simp [firstI, this]
theorem firstI_none {p : Nat → Bool} {n : Nat} (hb : ∀ j, j < n → p j = false) : firstI p n = -1 := by
  have : (List.range n).find? p = none := by
    rw [List.find?_eq_none]
    intro j hj
    simp [hb j (by simpa using hj)]
  simp [firstI, this]
def faultI (zs : List Int) (d : Nat) : Int := firstI (faultB zs d) (zs.length - 1)
end Go.Proofs.Ytfkokcmnmmfcbaa
