/- Plain facts on sorting by all digits: no program in sight. -/
import Derived.Test.YtlejmdbjckmfoaaPlPrm
set_option linter.unusedSimpArgs false
set_option linter.unusedVariables false
set_option linter.unusedSectionVars false
namespace Go.Proofs.Ytlejmdbjckmfoaa
open Go Go.Ax

theorem insB_congr {α : Type} {κ κ' : α → Int} {x : α} : ∀ {ys : List α}, (∀ y ∈ ys, κ x < κ y ↔ κ' x < κ' y) → insB κ x ys = insB κ' x ys
  | [], _ => rfl
  | y :: ys, h => by
    have h1 := h y (by simp)
    rw [insB, insB, insB_congr (ys := ys) (fun z hz => h z (by simp [hz]))]
    by_cases e : κ x < κ y
    · rw [if_pos e, if_pos (h1.mp e)]
    · rw [if_neg e, if_neg (fun h2 => e (h1.mpr h2))]
theorem fold_congr {α : Type} {κ κ' : α → Int} : ∀ (xs acc : List α), (∀ x ∈ xs, ∀ y, (y ∈ acc ∨ y ∈ xs) → (κ x < κ y ↔ κ' x < κ' y)) → xs.foldl (fun l x => insB κ x l) acc = xs.foldl (fun l x => insB κ' x l) acc
  | [], _, _ => rfl
  | x :: xs, acc, h => by
    rw [List.foldl_cons, List.foldl_cons, insB_congr (fun y hy => h x (by simp) y (.inl hy))]
    refine fold_congr xs _ (fun z hz y hy => h z (by simp [hz]) y ?_)
    rcases hy with hy | hy
    · rcases insB_mem.mp hy with rfl | hy
      · exact .inr (by simp)
      · exact .inl hy
    · exact .inr (by simp [hy])
theorem stbF_congr {α : Type} {κ κ' : α → Int} {xs : List α} (h : ∀ x ∈ xs, ∀ y ∈ xs, κ x < κ y ↔ κ' x < κ' y) : stbF κ xs = stbF κ' xs :=
  fold_congr xs [] (fun x hx y hy => h x hx y (by simpa using hy))
/-- A sort by the low part and then one by the high part sort by both. -/
theorem stbF_two {α : Type} {κ κ1 κ2 : α → Int} {K : Int} (hK : ∀ x, 0 ≤ κ1 x ∧ κ1 x < K) (hk : ∀ x, κ x = κ2 x * K + κ1 x) (xs : List α) : stbF κ2 (stbF κ1 xs) = stbF κ xs := by
  refine sort_uniq ?_ (stbF_pw κ xs) (fun c => ?_)
  · rw [List.pairwise_iff_forall_sublist]
    intro x y hs
    have h1 := List.pairwise_iff_forall_sublist.mp (stbF_pw κ2 (stbF κ1 xs)) hs
    have hx := hK x
    have hy := hK y
    by_cases e : κ2 x < κ2 y
    · have h3 : (κ2 x + 1) * K ≤ κ2 y * K := Int.mul_le_mul_of_nonneg_right (by omega) (by omega)
      rw [Int.add_mul] at h3
      rw [hk x, hk y]; omega
    · have e2 : κ2 x = κ2 y := by omega
      have h2 : [x, y].filter (fun z => decide (κ2 z = κ2 x)) = [x, y] := by rw [List.filter_cons, if_pos (decide_eq_true rfl), List.filter_cons, if_pos (decide_eq_true e2.symm)]; rfl
      have h3 := hs.filter (fun z => decide (κ2 z = κ2 x))
      rw [h2] at h3
      have h4 := stbF_kf κ2 (stbF κ1 xs) (κ2 x)
      unfold kf at h4
      rw [h4] at h3
      have h5 := List.pairwise_iff_forall_sublist.mp (stbF_pw κ1 xs) (h3.trans List.filter_sublist)
      rw [hk x, hk y, e2]; omega
  · rw [stbF_kf]
    have hx : ∀ (ys : List α), kf κ c ys = kf κ1 (c - (c / K) * K) (kf κ2 (c / K) ys) := fun ys => by
      unfold kf
      rw [List.filter_filter]
      refine List.filter_congr (fun x _ => ?_)
      have h1 := hK x
      have h2 := hk x
      have e1 : κ x / K = κ2 x := by
        rw [h2, Int.add_comm, Int.add_mul_ediv_right _ _ (by omega), Int.ediv_eq_zero_of_lt h1.1 h1.2]; omega
      by_cases e : κ x = c
      · have e3 : κ2 x = c / K := by rw [← e, e1]
        rw [decide_eq_true e, decide_eq_true e3, decide_eq_true (by rw [← e3, ← e, h2]; omega)]; rfl
      · rw [decide_eq_false e]
        by_cases e3 : κ2 x = c / K
        · rw [decide_eq_true e3, decide_eq_false (fun h => e (by rw [h2, e3, h]; omega))]; rfl
        · rw [decide_eq_false e3]; simp
    have hx2 : ∀ (ys : List α), kf κ c ys = kf κ2 (c / K) (kf κ1 (c - (c / K) * K) ys) := fun ys => by
      rw [hx]; unfold kf; rw [List.filter_filter, List.filter_filter]
      refine List.filter_congr (fun x _ => Bool.and_comm _ _)
    rw [hx, stbF_kf, ← hx, hx2, stbF_kf, ← hx2]
end Go.Proofs.Ytlejmdbjckmfoaa
