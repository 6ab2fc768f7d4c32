/- Plain facts on weighted medians: no program in sight. -/
import Derived.Test.YtfkokcmnmmfcbaaPlPrm
import Derived.Test.YtfkokcmnmmfcbaaPlSort
set_option linter.unusedSimpArgs false
set_option linter.unusedVariables false
set_option linter.unusedSectionVars false
namespace Go.Proofs.Ytfkokcmnmmfcbaa
open Go Go.Ax

theorem srtL_prm (ls : List Int) : srtL ls = (prm ls).map (ky ls) := by
  symm
  refine srtL_unique (prm_map_perm ls) (fun i j hij hj => ?_)
  have hp := List.pairwise_iff_getElem.mp (prm_map_pw ls) i j (by omega) hj hij
  simp only [Nat.zero_add]
  have e1 : i < ((prm ls).map (ky ls)).length := by omega
  simp only [List.getD_eq_getElem?_getD, List.getElem?_eq_getElem e1, List.getElem?_eq_getElem hj, Option.getD_some]
  exact hp
theorem srtL_get {ls : List Int} {i : Nat} (h : i < ls.length) : (srtL ls).getD i 0 = ky ls ((prm ls).getD i 0) := by
  rw [srtL_prm]
  have : i < (prm ls).length := by rw [prm_len]; exact h
  simp [List.getD_eq_getElem?_getD, this]
theorem prm_le {ls : List Int} {q r : Nat} (h : q ≤ r) (hr : r < ls.length) : ky ls ((prm ls).getD q 0) ≤ ky ls ((prm ls).getD r 0) := by
  by_cases e : q = r
  · subst e; exact Int.le_refl _
  · have := prm_bef (ls := ls) (q := q) (r := r) (by omega) hr
    unfold bef at this; omega

/-- The first number that a predicate holds for. -/
def fstF (P : Nat → Bool) : Nat → Nat → Nat
  | 0, i => i
  | f + 1, i => if P i then i else fstF P f (i + 1)
theorem fstF_from {P : Nat → Bool} : ∀ (f i : Nat) {j : Nat}, i ≤ j → j < i + f → (∀ k, i ≤ k → k < j → P k = false) → P j = true → fstF P f i = j
  | 0, i, j, h1, h2, _, _ => by omega
  | f + 1, i, j, h1, h2, h3, h4 => by
    rw [fstF]
    by_cases e : i = j
    · subst e; rw [if_pos h4]
    · rw [if_neg (by rw [h3 i (Nat.le_refl _) (by omega)]; decide)]
      exact fstF_from f (i + 1) (by omega) (by omega) (fun k hk hk2 => h3 k (by omega) hk2) h4
theorem fstF_eq {P : Nat → Bool} {n j : Nat} (h2 : j < n) (h3 : ∀ k, k < j → P k = false) (h4 : P j = true) : fstF P n 0 = j :=
  fstF_from n 0 (Nat.zero_le _) (by omega) (fun k _ hk => h3 k hk) h4
theorem fstF_ex {P : Nat → Bool} {n : Nat} (h : ∃ j, j < n ∧ P j = true) : fstF P n 0 < n ∧ P (fstF P n 0) = true ∧ ∀ k, k < fstF P n 0 → P k = false := by
  have key : ∀ m, m ≤ n → (∃ j, j < m ∧ P j = true ∧ ∀ k, k < j → P k = false) ∨ ∀ k, k < m → P k = false := by
    intro m
    induction m with
    | zero => intro _; right; intro k hk; omega
    | succ m ih =>
      intro hm
      rcases ih (by omega) with ⟨j, h1, h2, h3⟩ | h1
      · exact .inl ⟨j, by omega, h2, h3⟩
      · cases e : P m
        · right; intro k hk
          by_cases e2 : k = m
          · subst e2; exact e
          · exact h1 k (by omega)
        · exact .inl ⟨m, by omega, e, h1⟩
  rcases key n (Nat.le_refl _) with ⟨j, h1, h2, h3⟩ | h1
  · rw [fstF_eq h1 h3 h2]; exact ⟨h1, h2, h3⟩
  · obtain ⟨j, hj, e⟩ := h
    rw [h1 j hj] at e; cases e

theorem sumR_list (f : Int → Int) : ∀ n, sumR (fun k => f (k : Int)) n = ((idL n).map f).sum
  | 0 => rfl
  | n + 1 => by rw [sumR, sumR_list f n, idL_succ, List.map_append, List.sum_append]; simp
theorem sumR_map (f : Int → Int) (ps : List Int) : ∀ n, n ≤ ps.length → sumR (fun q => f (ps.getD q 0)) n = ((ps.take n).map f).sum
  | 0, _ => by simp [sumR]
  | n + 1, h => by
    rw [sumR, sumR_map f ps n (by omega), List.take_add_one, List.map_append, List.sum_append]
    simp [List.getD_eq_getElem?_getD, show n < ps.length by omega]
theorem sum_perm {xs ys : List Int} (h : xs.Perm ys) : xs.sum = ys.sum := by
  induction h with
  | nil => rfl
  | cons x _ ih => simp [ih]
  | swap x y l => simp only [List.sum_cons]; omega
  | trans _ _ ih1 ih2 => exact ih1.trans ih2
theorem sumR_prm (f : Int → Int) (ls : List Int) : sumR (fun k => f (k : Int)) ls.length = sumR (fun q => f ((prm ls).getD q 0)) ls.length := by
  rw [sumR_list, sumR_map f (prm ls) ls.length (by rw [prm_len]; exact Nat.le_refl _), List.take_of_length_le (by rw [prm_len]; exact Nat.le_refl _)]
  exact sum_perm ((prm_perm ls).symm.map f)
theorem sumR_mono {f g : Nat → Int} : ∀ n, (∀ k, k < n → f k ≤ g k) → sumR f n ≤ sumR g n
  | 0, _ => Int.le_refl _
  | n + 1, h => by
    have := sumR_mono n (fun k hk => h k (by omega))
    have := h n (by omega)
    rw [sumR, sumR]; omega
theorem sumR_cut {f : Nat → Int} {j : Nat} : ∀ n, j ≤ n → sumR (fun k => if k < j then f k else 0) n = sumR f j
  | 0, h => by have : j = 0 := by omega
               subst this; rfl
  | n + 1, h => by
    by_cases e : j = n + 1
    · subst e
      exact sumR_congr _ (fun k hk => by rw [if_pos hk])
    · rw [sumR, sumR_cut n (by omega), if_neg (by omega)]; omega

/-- The weights of the first r elements of the sorted list. -/
def wP (xs ws : List Int) (r : Nat) : Int := sumR (fun q => ws.getD ((prm xs).getD q 0).toNat 0) r
/-- The weights of the elements up to v among the first k. -/
def wS (xs ws : List Int) (v : Int) (k : Nat) : Int := sumR (fun i => if xs.getD i 0 ≤ v then ws.getD i 0 else 0) k
def wI (xs ws : List Int) (r : Nat) : Bool := decide (sumR (fun i => ws.getD i 0) ws.length ≤ 2 * wP xs ws (r + 1))
def wJ (xs ws : List Int) (i : Nat) : Bool := decide (sumR (fun i => ws.getD i 0) ws.length ≤ 2 * wS xs ws ((srtL xs).getD i 0) xs.length)
theorem wS_prm (xs ws : List Int) (v : Int) : wS xs ws v xs.length = sumR (fun q => if ky xs ((prm xs).getD q 0) ≤ v then ws.getD ((prm xs).getD q 0).toNat 0 else 0) xs.length := by
  have := sumR_prm (fun x => if ky xs x ≤ v then ws.getD x.toNat 0 else 0) xs
  rw [← this]
  unfold wS
  exact sumR_congr _ (fun k hk => by simp only [ky, Int.toNat_natCast])
theorem wP_all {xs ws : List Int} (h : ws.length = xs.length) : wP xs ws xs.length = sumR (fun i => ws.getD i 0) ws.length := by
  have := sumR_prm (fun x => ws.getD x.toNat 0) xs
  unfold wP
  rw [← this, h]
  exact sumR_congr _ (fun k hk => by rw [Int.toNat_natCast])
theorem sumR_nonneg {f : Nat → Int} : ∀ n, (∀ k, k < n → 0 ≤ f k) → 0 ≤ sumR f n
  | 0, _ => Int.le_refl _
  | n + 1, h => by
    have := sumR_nonneg n (fun k hk => h k (by omega))
    have := h n (by omega)
    rw [sumR]; omega
theorem wI_last {xs ws : List Int} (h : ws.length = xs.length) (h0 : 0 < xs.length) (hw : ∀ k, k < ws.length → 0 ≤ ws.getD k 0) : wI xs ws (xs.length - 1) = true := by
  unfold wI
  rw [Nat.sub_add_cancel (by omega), wP_all h]
  have := sumR_nonneg ws.length hw
  exact decide_eq_true (by omega)
theorem wI_wJ {xs ws : List Int} (h : ws.length = xs.length) (hw : ∀ k, k < ws.length → 0 ≤ ws.getD k 0) {r : Nat} (hr : r < xs.length) (hi : wI xs ws r = true) : wJ xs ws r = true := by
  unfold wI at hi
  unfold wJ
  have h1 := of_decide_eq_true hi
  refine decide_eq_true ?_
  rw [srtL_get hr, wS_prm]
  have h2 : wP xs ws (r + 1) ≤ sumR (fun q => if ky xs ((prm xs).getD q 0) ≤ ky xs ((prm xs).getD r 0) then ws.getD ((prm xs).getD q 0).toNat 0 else 0) xs.length := by
    unfold wP
    rw [← sumR_cut xs.length (show r + 1 ≤ xs.length from hr)]
    refine sumR_mono _ (fun k hk => ?_)
    have hp := prm_get hk
    have hnn := hw ((prm xs).getD k 0).toNat (by omega)
    by_cases e : k < r + 1
    · rw [if_pos e, if_pos (prm_le (by omega) hr)]; exact Int.le_refl _
    · rw [if_neg e]
      split
      · exact hnn
      · exact Int.le_refl _
  omega
/-- How many elements of the sorted list are up to v. -/
theorem upto {xs : List Int} (v : Int) : ∃ j, j ≤ xs.length ∧ ∀ q, q < xs.length → (ky xs ((prm xs).getD q 0) ≤ v ↔ q < j) := by
  have key : ∀ n, n ≤ xs.length → ∃ j, j ≤ n ∧ ∀ q, q < n → (ky xs ((prm xs).getD q 0) ≤ v ↔ q < j) := by
    intro n
    induction n with
    | zero => intro _; exact ⟨0, Nat.le_refl _, fun q hq => by omega⟩
    | succ n ih =>
      intro hn
      obtain ⟨j, h1, h2⟩ := ih (by omega)
      by_cases e : ky xs ((prm xs).getD n 0) ≤ v
      · refine ⟨n + 1, Nat.le_refl _, fun q hq => ⟨fun _ => hq, fun _ => ?_⟩⟩
        have := prm_le (ls := xs) (q := q) (r := n) (by omega) (by omega)
        omega
      · refine ⟨j, by omega, fun q hq => ?_⟩
        by_cases e2 : q = n
        · subst e2
          exact ⟨fun h => absurd h e, fun h => by omega⟩
        · exact h2 q (by omega)
  exact key xs.length (Nat.le_refl _)
/-- Both ways find the same element. -/
theorem wm_same {xs ws : List Int} (h : ws.length = xs.length) (h0 : 0 < xs.length) (hw : ∀ k, k < ws.length → 0 ≤ ws.getD k 0) :
    (srtL xs).getD (fstF (wJ xs ws) xs.length 0) 0 = ky xs ((prm xs).getD (fstF (wI xs ws) xs.length 0) 0) := by
  obtain ⟨r1, r2, r3⟩ := fstF_ex (P := wI xs ws) (n := xs.length) ⟨xs.length - 1, by omega, wI_last h h0 hw⟩
  obtain ⟨i1, i2, i3⟩ := fstF_ex (P := wJ xs ws) (n := xs.length) ⟨_, r1, wI_wJ h hw r1 r2⟩
  obtain ⟨r, hr⟩ : ∃ r, r = fstF (wI xs ws) xs.length 0 := ⟨_, rfl⟩
  obtain ⟨i, hi⟩ : ∃ i, i = fstF (wJ xs ws) xs.length 0 := ⟨_, rfl⟩
  rw [← hr] at r1 r2 r3 ⊢
  rw [← hi] at i1 i2 i3 ⊢
  rw [srtL_get i1]
  have hir : i ≤ r := by
    rcases Nat.lt_or_ge r i with h1 | h1
    · have := i3 r h1
      rw [wI_wJ h hw r1 r2] at this; cases this
    · exact h1
  have h1 := prm_le hir r1
  rcases Int.lt_or_le (ky xs ((prm xs).getD i 0)) (ky xs ((prm xs).getD r 0)) with h2 | h2
  · exfalso
    obtain ⟨j, hj1, hj2⟩ := upto (xs := xs) (ky xs ((prm xs).getD i 0))
    have hji := (hj2 i i1).mp (Int.le_refl _)
    have hjr : ¬ r < j := fun h3 => by have := (hj2 r r1).mpr h3; omega
    unfold wJ at i2
    have h3 := of_decide_eq_true i2
    rw [srtL_get i1, wS_prm] at h3
    have h4 : sumR (fun q => if ky xs ((prm xs).getD q 0) ≤ ky xs ((prm xs).getD i 0) then ws.getD ((prm xs).getD q 0).toNat 0 else 0) xs.length = wP xs ws j := by
      unfold wP
      rw [← sumR_cut xs.length hj1]
      refine sumR_congr _ (fun q hq => ?_)
      by_cases e : q < j
      · rw [if_pos e, if_pos ((hj2 q hq).mpr e)]
      · rw [if_neg e, if_neg (fun h5 => e ((hj2 q hq).mp h5))]
    rw [h4] at h3
    have h5 := r3 (j - 1) (by omega)
    unfold wI at h5
    rw [Nat.sub_add_cancel (by omega)] at h5
    have := of_decide_eq_false h5
    omega
  · omega
end Go.Proofs.Ytfkokcmnmmfcbaa
