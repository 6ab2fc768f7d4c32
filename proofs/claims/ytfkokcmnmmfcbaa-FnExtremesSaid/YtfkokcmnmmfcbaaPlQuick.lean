/- Plain facts on quicksort: no program in sight. -/
import Derived.Test.YtfkokcmnmmfcbaaPlSeg
import Derived.Test.YtfkokcmnmmfcbaaPlHeap
import Derived.Test.YtfkokcmnmmfcbaaPlMed
set_option linter.unusedSimpArgs false
set_option linter.unusedVariables false
set_option linter.unusedSectionVars false
namespace Go.Proofs.Ytfkokcmnmmfcbaa
open Go Go.Ax

/-- Insertion: the elements behind the place of x moved up. -/
def insIn (o : Nat) (x : Int) : Nat → List Int → List Int × Nat
  | 0, zs => (zs, 0)
  | k + 1, zs => if zs.getD (o + k) 0 ≤ x then (zs, k + 1) else insIn o x k (zs.set (o + (k + 1)) (zs.getD (o + k) 0))
theorem insIn_le {o k : Nat} {x : Int} {zs : List Int} (h : zs.getD (o + k) 0 ≤ x) : insIn o x (k + 1) zs = (zs, k + 1) := by rw [insIn, if_pos h]
theorem insIn_gt {o k : Nat} {x : Int} {zs : List Int} (h : ¬ zs.getD (o + k) 0 ≤ x) : insIn o x (k + 1) zs = insIn o x k (zs.set (o + (k + 1)) (zs.getD (o + k) 0)) := by rw [insIn, if_neg h]
theorem insIn_len (o : Nat) (x : Int) : ∀ (k : Nat) (zs : List Int), (insIn o x k zs).1.length = zs.length
  | 0, _ => rfl
  | k + 1, zs => by
    unfold insIn; split
    · rfl
    · rw [insIn_len o x k]; simp
def insOne (o i : Nat) (zs : List Int) : List Int :=
  if (insIn o (zs.getD (o + i) 0) i zs).2 < i then (insIn o (zs.getD (o + i) 0) i zs).1.set (o + (insIn o (zs.getD (o + i) 0) i zs).2) (zs.getD (o + i) 0) else (insIn o (zs.getD (o + i) 0) i zs).1
def insAll (o : Nat) : Nat → List Int → List Int
  | 0, zs => zs
  | m + 1, zs => insOne o (m + 1) (insAll o m zs)
theorem insOne_len (o i : Nat) (zs : List Int) : (insOne o i zs).length = zs.length := by
  unfold insOne; split
  · rw [List.length_set, insIn_len]
  · rw [insIn_len]
theorem insAll_len (o : Nat) : ∀ (m : Nat) (zs : List Int), (insAll o m zs).length = zs.length
  | 0, _ => rfl
  | m + 1, zs => by rw [insAll, insOne_len, insAll_len o m]

/-- The median's value. -/
def pivV (zs : List Int) (o n : Nat) : Int := zs.getD (o + (medI (fun i => zs.getD (o + i) 0) n).toNat) 0
/-- Quicksort up to a depth. -/
def qF (small : Nat) : Nat → Nat → Nat → List Int → List Int × Nat × Nat
  | 0, o, n, zs => if n ≤ small then (insAll o (n - 1) zs, 0, 0) else ((hsortF 2 o n zs).1, 0, 1)
  | l + 1, o, n, zs => if n ≤ small then (insAll o (n - 1) zs, 0, 0) else
      ((qF small l (o + (tway o n (pivV zs o n) zs).2.1) (n - (tway o n (pivV zs o n) zs).2.1) (qF small l o (tway o n (pivV zs o n) zs).1 (tway o n (pivV zs o n) zs).2.2).1).1,
        1 + (qF small l o (tway o n (pivV zs o n) zs).1 (tway o n (pivV zs o n) zs).2.2).2.1 + (qF small l (o + (tway o n (pivV zs o n) zs).2.1) (n - (tway o n (pivV zs o n) zs).2.1) (qF small l o (tway o n (pivV zs o n) zs).1 (tway o n (pivV zs o n) zs).2.2).1).2.1,
        (qF small l o (tway o n (pivV zs o n) zs).1 (tway o n (pivV zs o n) zs).2.2).2.2 + (qF small l (o + (tway o n (pivV zs o n) zs).2.1) (n - (tway o n (pivV zs o n) zs).2.1) (qF small l o (tway o n (pivV zs o n) zs).1 (tway o n (pivV zs o n) zs).2.2).1).2.2)
theorem qF_small {small l o n : Nat} {zs : List Int} (h : n ≤ small) : qF small l o n zs = (insAll o (n - 1) zs, 0, 0) := by
  cases l with
  | zero => rw [qF, if_pos h]
  | succ l => rw [qF, if_pos h]
theorem qF_heap {small o n : Nat} {zs : List Int} (h : ¬ n ≤ small) : qF small 0 o n zs = ((hsortF 2 o n zs).1, 0, 1) := by rw [qF, if_neg h]
theorem qF_go {small l o n lt gt : Nat} {zs zs1 : List Int} (h : ¬ n ≤ small) (ht : tway o n (pivV zs o n) zs = (lt, gt, zs1)) : qF small (l + 1) o n zs =
    ((qF small l (o + gt) (n - gt) (qF small l o lt zs1).1).1, 1 + (qF small l o lt zs1).2.1 + (qF small l (o + gt) (n - gt) (qF small l o lt zs1).1).2.1, (qF small l o lt zs1).2.2 + (qF small l (o + gt) (n - gt) (qF small l o lt zs1).1).2.2) := by
  rw [qF, if_neg h, ht]
theorem qF_len (small : Nat) : ∀ (l o n : Nat) (zs : List Int), (qF small l o n zs).1.length = zs.length
  | 0, o, n, zs => by
    unfold qF; split
    · exact insAll_len _ _ _
    · exact hsortF_len _ _ _ _
  | l + 1, o, n, zs => by
    unfold qF; split
    · exact insAll_len _ _ _
    · simp only [qF_len small l, (tway_bd _ _ _ _).2.2]
theorem medI_nat (x : Nat → Int) {n : Nat} (hn : 1 ≤ n) : (medI x n).toNat < n := by have := medI_bd x hn; omega
theorem pivV_mid {zs : List Int} {o n : Nat} (hl : o + n ≤ zs.length) (hn : 1 ≤ n) : (tway o n (pivV zs o n) zs).1 < (tway o n (pivV zs o n) zs).2.1 :=
  tway_mid hl (medI_nat _ hn) rfl
theorem qF_bd (small : Nat) : ∀ (l o n : Nat) (zs : List Int), o + n ≤ zs.length → (qF small l o n zs).2.1 ≤ n ∧ (qF small l o n zs).2.2 ≤ n
  | 0, o, n, zs, hl => by
    unfold qF; split
    · exact ⟨Nat.zero_le _, Nat.zero_le _⟩
    · simp only; omega
  | l + 1, o, n, zs, hl => by
    by_cases h : n ≤ small
    · rw [qF_small h]; exact ⟨Nat.zero_le _, Nat.zero_le _⟩
    · have h1 := pivV_mid hl (show 1 ≤ n by omega)
      obtain ⟨h2, h3, h4⟩ := tway_bd o n (pivV zs o n) zs
      obtain ⟨lt, hlt⟩ : ∃ lt, lt = (tway o n (pivV zs o n) zs).1 := ⟨_, rfl⟩
      obtain ⟨gt, hgt⟩ : ∃ gt, gt = (tway o n (pivV zs o n) zs).2.1 := ⟨_, rfl⟩
      obtain ⟨zs1, hz⟩ : ∃ zs1, zs1 = (tway o n (pivV zs o n) zs).2.2 := ⟨_, rfl⟩
      rw [← hlt, ← hgt] at h1
      rw [← hgt] at h3
      rw [← hz] at h4
      rw [qF_go h (show tway o n (pivV zs o n) zs = (lt, gt, zs1) by rw [hlt, hgt, hz])]
      have b1 := qF_bd small l o lt zs1 (by omega)
      have b2 := qF_bd small l (o + gt) (n - gt) (qF small l o lt zs1).1 (by rw [qF_len]; omega)
      simp only; omega
end Go.Proofs.Ytfkokcmnmmfcbaa
