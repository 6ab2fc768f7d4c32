/- Plain facts on the permutation that sorts a list stably, and on ranks: no program in sight. -/
import Derived.Test.YtfkokcmnmmfcbaaPlStb
set_option linter.unusedSimpArgs false
set_option linter.unusedVariables false
set_option linter.unusedSectionVars false
namespace Go.Proofs.Ytfkokcmnmmfcbaa
open Go Go.Ax

theorem insB_perm {α : Type} {κ : α → Int} {x : α} : ∀ (ys : List α), (insB κ x ys).Perm (x :: ys)
  | [] => List.Perm.refl _
  | y :: ys => by
    rw [insB]
    split
    · exact List.Perm.refl _
    · exact ((insB_perm ys).cons y).trans (List.Perm.swap x y ys)
theorem stbF_perm {α : Type} (κ : α → Int) (xs : List α) : (stbF κ xs).Perm xs := by
  have : ∀ (xs acc : List α), (xs.foldl (fun l x => insB κ x l) acc).Perm (acc ++ xs) := by
    intro xs
    induction xs with
    | nil => intro acc; simp
    | cons x xs ih =>
      intro acc
      rw [List.foldl_cons]
      refine (ih _).trans (((insB_perm acc).append_right xs).trans ?_)
      rw [List.cons_append]
      exact List.perm_middle.symm
  simpa [stbF] using this xs []

/-- The numbers below n. -/
def idL (n : Nat) : List Int := (List.range n).map (fun (i : Nat) => (i : Int))
theorem idL_len (n : Nat) : (idL n).length = n := by simp [idL]
theorem idL_get {n i : Nat} (h : i < n) : (idL n).getD i 0 = (i : Int) := by simp [idL, List.getD_eq_getElem?_getD, h]
theorem idL_succ (n : Nat) : idL (n + 1) = idL n ++ [(n : Int)] := by simp [idL, List.range_succ]
theorem idL_mem {n : Nat} {x : Int} : x ∈ idL n ↔ 0 ≤ x ∧ x < n := by
  simp only [idL, List.mem_map, List.mem_range]
  constructor
  · rintro ⟨i, h, rfl⟩; omega
  · rintro ⟨h1, h2⟩; exact ⟨x.toNat, by omega, by omega⟩
theorem idL_pw (n : Nat) : (idL n).Pairwise (fun x y => x < y) := by
  rw [idL, List.pairwise_map]
  exact (List.pairwise_lt_range (n := n)).imp (fun h => by omega)
/-- The key of an index. -/
abbrev ky (ls : List Int) (x : Int) : Int := ls.getD x.toNat 0
/-- One index goes ahead of another. -/
def bef (ls : List Int) (x y : Int) : Prop := ky ls x < ky ls y ∨ (ky ls x = ky ls y ∧ x < y)
instance (ls : List Int) (x y : Int) : Decidable (bef ls x y) := by unfold bef; infer_instance
theorem bef_irr (ls : List Int) (x : Int) : ¬ bef ls x x := by unfold bef; omega
theorem bef_asym {ls : List Int} {x y : Int} (h : bef ls x y) : ¬ bef ls y x := by unfold bef at h ⊢; omega
theorem bef_or {ls : List Int} {x y : Int} (h : x ≠ y) : bef ls x y ∨ bef ls y x := by unfold bef; omega
/-- The permutation that sorts a list stably. -/
def prm (ls : List Int) : List Int := stbF (ky ls) (idL ls.length)
theorem prm_perm (ls : List Int) : (prm ls).Perm (idL ls.length) := stbF_perm _ _
theorem prm_len (ls : List Int) : (prm ls).length = ls.length := by rw [(prm_perm ls).length_eq, idL_len]
theorem prm_mem {ls : List Int} {x : Int} : x ∈ prm ls ↔ 0 ≤ x ∧ x < ls.length := by rw [(prm_perm ls).mem_iff, idL_mem]
theorem prm_pw (ls : List Int) : (prm ls).Pairwise (bef ls) := by
  rw [List.pairwise_iff_forall_sublist]
  intro x y hs
  have h1 := List.pairwise_iff_forall_sublist.mp (stbF_pw (ky ls) (idL ls.length)) hs
  by_cases e : ky ls x < ky ls y
  · exact .inl e
  · have e2 : ky ls x = ky ls y := by omega
    have h2 : [x, y].filter (fun z => decide (ky ls z = ky ls x)) = [x, y] := by rw [List.filter_cons, if_pos (decide_eq_true rfl), List.filter_cons, if_pos (decide_eq_true e2.symm)]; rfl
    have h3 := hs.filter (fun z => decide (ky ls z = ky ls x))
    rw [h2] at h3
    have h4 := stbF_kf (ky ls) (idL ls.length) (ky ls x)
    unfold kf at h4
    rw [prm, h4] at h3
    exact .inr ⟨e2, List.pairwise_iff_forall_sublist.mp (idL_pw ls.length) (h3.trans List.filter_sublist)⟩
theorem prm_get {ls : List Int} {r : Nat} (h : r < ls.length) : 0 ≤ (prm ls).getD r 0 ∧ (prm ls).getD r 0 < ls.length := prm_mem.mp (memD 0 (by rw [prm_len]; exact h))
theorem prm_bef {ls : List Int} {q r : Nat} (h : q < r) (hr : r < ls.length) : bef ls ((prm ls).getD q 0) ((prm ls).getD r 0) := by
  have := List.pairwise_iff_getElem.mp (prm_pw ls) q r (by rw [prm_len]; omega) (by rw [prm_len]; exact hr) h
  simpa [List.getD_eq_getElem?_getD, show q < (prm ls).length by rw [prm_len]; omega, show r < (prm ls).length by rw [prm_len]; exact hr] using this
theorem prm_inj {ls : List Int} {q r : Nat} (hq : q < ls.length) (hr : r < ls.length) (e : (prm ls).getD q 0 = (prm ls).getD r 0) : q = r := by
  rcases Nat.lt_trichotomy q r with h | h | h
  · have := prm_bef h hr; rw [e] at this; exact absurd this (bef_irr _ _)
  · exact h
  · have := prm_bef h hq; rw [e] at this; exact absurd this (bef_irr _ _)

/-- How many of the first k indexes go ahead of i. -/
def rkN (ls : List Int) (i : Nat) : Nat → Nat
  | 0 => 0
  | k + 1 => rkN ls i k + (if bef ls (k : Int) (i : Int) then 1 else 0)
theorem rkN_le (ls : List Int) (i : Nat) : ∀ k, rkN ls i k ≤ k
  | 0 => Nat.le_refl _
  | k + 1 => by have := rkN_le ls i k; rw [rkN]; split <;> omega
theorem rkN_count (ls : List Int) (i : Nat) : ∀ k, rkN ls i k = (idL k).countP (fun x => decide (bef ls x (i : Int)))
  | 0 => rfl
  | k + 1 => by
    rw [rkN, rkN_count ls i k, idL_succ, List.countP_append]
    simp [List.countP_cons]
/-- The rank of an index. -/
def rk (ls : List Int) (i : Nat) : Nat := rkN ls i ls.length
theorem rk_prm {ls : List Int} {r i : Nat} (hr : r < ls.length) (e : (prm ls).getD r 0 = (i : Int)) : rk ls i = r := by
  unfold rk
  rw [rkN_count, ← (prm_perm ls).countP_eq]
  have hrl : r < (prm ls).length := by rw [prm_len]; exact hr
  have hcut : prm ls = (prm ls).take r ++ ((i : Int) :: (prm ls).drop (r + 1)) := by
    rw [← e, ← dropD 0 hrl, List.take_append_drop]
  rw [hcut, List.countP_append, List.countP_cons]
  have h1 : ((prm ls).take r).countP (fun x => decide (bef ls x (i : Int))) = r := by
    have hall : ∀ x ∈ (prm ls).take r, (fun x => decide (bef ls x (i : Int))) x = true := fun x hx => by
      obtain ⟨q, hq⟩ := List.mem_iff_getElem?.mp hx
      have hqr : q < r := by
        have := (List.getElem?_eq_some_iff.mp hq).1
        simp at this; omega
      rw [List.getElem?_take, if_pos hqr] at hq
      have hx2 : x = (prm ls).getD q 0 := by rw [List.getD_eq_getElem?_getD, hq]; rfl
      rw [hx2, ← e]
      exact decide_eq_true (prm_bef hqr hr)
    rw [List.countP_eq_length.mpr hall]
    simp; omega
  have h2 : ((prm ls).drop (r + 1)).countP (fun x => decide (bef ls x (i : Int))) = 0 := by
    rw [List.countP_eq_zero]
    intro x hx
    obtain ⟨q, hq⟩ := List.mem_iff_getElem?.mp hx
    have hql : q < (prm ls).length - (r + 1) := by
      have := (List.getElem?_eq_some_iff.mp hq).1
      simpa using this
    rw [List.getElem?_drop] at hq
    have hx2 : x = (prm ls).getD (r + 1 + q) 0 := by rw [List.getD_eq_getElem?_getD, hq]; rfl
    rw [hx2, ← e]
    have hb := prm_bef (ls := ls) (q := r) (r := r + 1 + q) (by omega) (by rw [← prm_len ls]; omega)
    simpa using bef_asym hb
  rw [h1, h2, if_neg (by simpa using bef_irr ls (i : Int))]
  omega
/-- The place of an index. -/
theorem prm_find {ls : List Int} {i : Nat} (h : i < ls.length) : ∃ r, r < ls.length ∧ (prm ls).getD r 0 = (i : Int) := by
  have hm : (i : Int) ∈ prm ls := prm_mem.mpr ⟨by omega, by omega⟩
  obtain ⟨r, hr, e⟩ := List.mem_iff_getElem.mp hm
  exact ⟨r, by rw [← prm_len ls]; exact hr, by simp [List.getD_eq_getElem?_getD, hr, e]⟩
theorem rk_lt {ls : List Int} {i : Nat} (h : i < ls.length) : rk ls i < ls.length := by
  obtain ⟨r, hr, e⟩ := prm_find h
  rw [rk_prm hr e]; exact hr
/-- The ranks. -/
def rkL (ls : List Int) : List Int := tabR (fun i => (rk ls i : Int)) ls.length
/-- A list that holds at each index its place. -/
theorem inv_rk {ls zs : List Int} (hl : zs.length = ls.length) (h : ∀ r, r < ls.length → zs.getD ((prm ls).getD r 0).toNat 0 = (r : Int)) : zs = rkL ls := by
  apply extD 0 (by rw [hl]; exact (tabR_length _ _).symm)
  intro i hi
  rw [hl] at hi
  obtain ⟨r, hr, e⟩ := prm_find hi
  have h1 := h r hr
  rw [e, Int.toNat_natCast] at h1
  rw [h1, rkL, tabR_get _ hi, rk_prm hr e]
/-- A list laid by its permutation is sorted. -/
theorem prm_map_pw (ls : List Int) : ((prm ls).map (ky ls)).Pairwise (fun a b => a ≤ b) := by
  rw [List.pairwise_map]
  exact stbF_pw _ _
theorem prm_map_perm (ls : List Int) : ((prm ls).map (ky ls)).Perm ls := by
  refine ((prm_perm ls).map _).trans ?_
  have : (idL ls.length).map (ky ls) = ls := by
    apply extD 0 (by simp [idL_len])
    intro i hi
    have hi' : i < ls.length := by simpa [idL_len] using hi
    simp [idL, ky, List.getD_eq_getElem?_getD, hi']
  rw [this]
end Go.Proofs.Ytfkokcmnmmfcbaa
