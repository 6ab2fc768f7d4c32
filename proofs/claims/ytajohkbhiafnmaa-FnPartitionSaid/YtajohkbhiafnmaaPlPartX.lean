/- Plain facts: Lomuto's and Hoare's partitions separate. -/
import Derived.Test.YtajohkbhiafnmaaPlSort
import Derived.Test.YtajohkbhiafnmaaHoare
set_option linter.unusedSimpArgs false
set_option linter.unusedVariables false
set_option linter.unusedSectionVars false
namespace Go.Proofs.Ytajohkbhiafnmaa
open Go Go.Ax

theorem ps_swp0 {zs : List Int} {i k : Nat} (hi : i < zs.length) (hk : k < zs.length) : PS 0 zs.length zs (swp zs i k) := by
  have := PS.swp (zs := zs) (o := 0) (n := zs.length) (i := i) (k := k) (by omega) hi hk
  rwa [Nat.zero_add, Nat.zero_add] at this

/-! ### Lomuto -/
theorem lomF_ok (zs0 : List Int) (L : Nat) (hL : L < zs0.length) : ∀ i, i ≤ L → PS 0 zs0.length zs0 (lomF zs0 L i).2 ∧ (lomF zs0 L i).1 ≤ i ∧ (lomF zs0 L i).2.getD L 0 = zs0.getD L 0 ∧
    (∀ q, q < (lomF zs0 L i).1 → (lomF zs0 L i).2.getD q 0 < zs0.getD L 0) ∧ (∀ q, (lomF zs0 L i).1 ≤ q → q < i → zs0.getD L 0 ≤ (lomF zs0 L i).2.getD q 0)
  | 0, _ => ⟨PS.refl _ _ _, Nat.le_refl _, rfl, fun q hq => by simp [lomF] at hq, fun q _ hq => by omega⟩
  | i + 1, h => by
    obtain ⟨h1, h2, h3, h4, h5⟩ := lomF_ok zs0 L hL i (by omega)
    by_cases c : (lomF zs0 L i).2.getD i 0 < (lomF zs0 L i).2.getD L 0
    · rw [lomF_t c]
      rw [h3] at c
      generalize (lomF zs0 L i).1 = s at *
      generalize (lomF zs0 L i).2 = z at *
      have hzl := h1.len
      refine ⟨h1.trans (by rw [← hzl]; exact ps_swp0 (by omega) (by omega)), by omega, ?_, fun q hq => ?_, fun q hq1 hq2 => ?_⟩
      · simp only
        rw [swp_get _ _ (by omega) (by omega), if_neg (by omega), if_neg (by omega)]; exact h3
      · simp only at hq ⊢
        rw [swp_get _ _ (by omega) (by omega)]
        by_cases e1 : q = s
        · rw [if_pos e1]; exact c
        · rw [if_neg e1, if_neg (by omega)]; exact h4 q (by omega)
      · simp only at hq1 ⊢
        rw [swp_get _ _ (by omega) (by omega), if_neg (by omega)]
        by_cases e1 : q = i
        · rw [if_pos e1]; exact h5 s (Nat.le_refl _) (by omega)
        · rw [if_neg e1]; exact h5 q (by omega) (by omega)
    · rw [lomF_f c]
      rw [h3] at c
      refine ⟨h1, by omega, h3, h4, fun q hq1 hq2 => ?_⟩
      by_cases e : q = i
      · subst e; omega
      · exact h5 q hq1 (by omega)
theorem lom_ok {xs : List Int} {p : Nat} (hp : p < xs.length) : (lomuto xs p).Perm xs ∧ (lomuto xs p).length = xs.length ∧ (lomR xs p).1 < xs.length ∧ (lomuto xs p).getD (lomR xs p).1 0 = xs.getD p 0 ∧
    (∀ i, i < (lomR xs p).1 → (lomuto xs p).getD i 0 < xs.getD p 0) ∧ (∀ i, (lomR xs p).1 < i → i < xs.length → xs.getD p 0 ≤ (lomuto xs p).getD i 0) := by
  have hs0 := ps_swp0 (zs := xs) (i := p) (k := xs.length - 1) hp (by omega)
  have hl0 : (swp xs p (xs.length - 1)).length = xs.length := swp_len _ _ _
  obtain ⟨h1, h2, h3, h4, h5⟩ := lomF_ok (swp xs p (xs.length - 1)) (xs.length - 1) (by omega) (xs.length - 1) (Nat.le_refl _)
  have hx : (swp xs p (xs.length - 1)).getD (xs.length - 1) 0 = xs.getD p 0 := by rw [swp_get _ _ hp (by omega), if_pos rfl]
  rw [hx] at h3 h4 h5
  rw [hl0] at h1
  have e1 : lomF (swp xs p (xs.length - 1)) (xs.length - 1) (xs.length - 1) = lomR xs p := rfl
  rw [e1] at h1 h2 h3 h4 h5
  unfold lomuto
  generalize (lomR xs p).1 = s at *
  generalize (lomR xs p).2 = z at *
  have hzl : z.length = xs.length := by rw [h1.len, hl0]
  have hfin : PS 0 xs.length z (swp z s (xs.length - 1)) := by rw [← hzl]; exact ps_swp0 (by omega) (by omega)
  refine ⟨PS.whole (hs0.trans (h1.trans hfin)), by rw [swp_len, hzl], by omega, ?_, fun i hi => ?_, fun i hi1 hi2 => ?_⟩
  · rw [swp_get _ _ (by omega) (by omega)]
    by_cases e : s = xs.length - 1
    · rw [if_pos e, e]; exact h3
    · rw [if_neg e, if_pos rfl]; exact h3
  · rw [swp_get _ _ (by omega) (by omega), if_neg (by omega), if_neg (by omega)]; exact h4 i hi
  · rw [swp_get _ _ (by omega) (by omega)]
    by_cases e : i = xs.length - 1
    · rw [if_pos e]; exact h5 s (Nat.le_refl _) (by omega)
    · rw [if_neg e, if_neg (by omega)]; exact h5 i (by omega) (by omega)

/-! ### Hoare -/
theorem upF_ok (zs : List Int) (x : Int) : ∀ (f a U : Nat), a ≤ U → U ≤ a + f → ¬ zs.getD U 0 < x → a ≤ upF zs x f a ∧ upF zs x f a ≤ U ∧ (∀ j, a ≤ j → j < upF zs x f a → zs.getD j 0 < x) ∧ ¬ zs.getD (upF zs x f a) 0 < x
  | 0, a, U, h1, h2, h3 => by
    have : U = a := by omega
    subst this
    exact ⟨Nat.le_refl _, Nat.le_refl _, fun j h4 h5 => by simp [upF] at h5; omega, h3⟩
  | f + 1, a, U, h1, h2, h3 => by
    unfold upF
    by_cases c : zs.getD a 0 < x
    · rw [if_pos c]
      have hne : a ≠ U := fun e => h3 (e ▸ c)
      obtain ⟨k1, k2, k3, k4⟩ := upF_ok zs x f (a + 1) U (by omega) (by omega) h3
      refine ⟨by omega, k2, fun j h4 h5 => ?_, k4⟩
      by_cases e : j = a
      · subst e; exact c
      · exact k3 j (by omega) h5
    · rw [if_neg c]
      exact ⟨Nat.le_refl _, h1, fun j h4 h5 => by omega, c⟩
theorem dnF_ok (zs : List Int) (x : Int) : ∀ (f b D : Nat), D ≤ b → b ≤ D + f → ¬ x < zs.getD D 0 → D ≤ dnF zs x f b ∧ dnF zs x f b ≤ b ∧ (∀ j, dnF zs x f b < j → j ≤ b → x < zs.getD j 0) ∧ ¬ x < zs.getD (dnF zs x f b) 0
  | 0, b, D, h1, h2, h3 => by
    have : D = b := by omega
    subst this
    exact ⟨Nat.le_refl _, Nat.le_refl _, fun j h4 h5 => by simp [dnF] at h4; omega, h3⟩
  | f + 1, b, D, h1, h2, h3 => by
    unfold dnF
    by_cases c : x < zs.getD b 0
    · rw [if_pos c]
      have hne : D ≠ b := fun e => h3 (e ▸ c)
      obtain ⟨k1, k2, k3, k4⟩ := dnF_ok zs x f (b - 1) D (by omega) (by omega) h3
      refine ⟨k1, by omega, fun j h4 h5 => ?_, k4⟩
      by_cases e : j = b
      · subst e; exact c
      · exact k3 j h4 (by omega)
    · rw [if_neg c]
      exact ⟨h1, Nat.le_refl _, fun j h4 h5 => by omega, c⟩
theorem hoaF_ok (x : Int) (n : Nat) (hn : 1 ≤ n) : ∀ (f a b : Nat) (zs : List Int), zs.length = n → b < a + f → hoJ x n a b zs → (∀ q, q < a → zs.getD q 0 ≤ x) → (∀ q, b ≤ q → q < n → x ≤ zs.getD q 0) →
    PS 0 n zs (hoaF x n f a b zs).1 ∧ 1 ≤ (hoaF x n f a b zs).2 ∧ (hoaF x n f a b zs).2 ≤ n ∧ ∀ i k, i < (hoaF x n f a b zs).2 → (hoaF x n f a b zs).2 ≤ k → k < n → (hoaF x n f a b zs).1.getD i 0 ≤ (hoaF x n f a b zs).1.getD k 0
  | 0, a, b, zs, hl, hf, hJ, h1, h2 => by
    obtain ⟨_, _, h3, h4, h5⟩ := hoJ_stop hJ hn
    omega
  | f + 1, a, b, zs, hl, hf, hJ, h1, h2 => by
    obtain ⟨⟨U, u1, u2, u3⟩, ⟨D, d1, d2⟩, b1, b2, b3⟩ := hoJ_stop hJ hn
    obtain ⟨k1, k2, k3, k4⟩ := upF_ok zs x n a U u1 (by omega) u3
    obtain ⟨m1, m2, m3, m4⟩ := dnF_ok zs x n (b - 1) D d1 (by omega) d2
    obtain ⟨i, hi⟩ : ∃ i, i = upF zs x n a := ⟨_, rfl⟩
    obtain ⟨k, hk⟩ : ∃ k, k = dnF zs x n (b - 1) := ⟨_, rfl⟩
    rw [← hi] at k1 k2 k3 k4
    rw [← hk] at m1 m2 m3 m4
    by_cases c : k ≤ i
    · rw [hoaF_stop hi.symm hk.symm c]
      refine ⟨PS.refl _ _ _, by simp only; omega, by simp only; omega, fun p q hp hq hqn => ?_⟩
      simp only at hp hq ⊢
      have e1 : zs.getD p 0 ≤ x := by
        by_cases p1 : p < a
        · exact h1 p p1
        · by_cases p2 : p < i
          · have := k3 p (by omega) p2; omega
          · have : p = k := by omega
            subst this; omega
      have e2 : x ≤ zs.getD q 0 := by
        by_cases q1 : b ≤ q
        · exact h2 q q1 hqn
        · have := m3 q (by omega) (by omega); omega
      omega
    · rw [hoaF_go hi.symm hk.symm c]
      have hs : PS 0 n zs (swp zs i k) := by rw [← hl]; exact ps_swp0 (by omega) (by omega)
      have ih := hoaF_ok x n hn f (i + 1) k (swp zs i k) (by rw [swp_len, hl]) (by omega) (hoJ_next hl (by omega) (by omega) k4 m4)
        (fun q hq => by
          rw [swp_get _ _ (by omega) (by omega), if_neg (by omega)]
          by_cases e : q = i
          · rw [if_pos e]; omega
          · rw [if_neg e]
            by_cases p1 : q < a
            · exact h1 q p1
            · have := k3 q (by omega) (by omega); omega)
        (fun q hq1 hq2 => by
          rw [swp_get _ _ (by omega) (by omega)]
          by_cases e : q = k
          · rw [if_pos e]; omega
          · rw [if_neg e, if_neg (by omega)]
            by_cases q1 : b ≤ q
            · exact h2 q q1 hq2
            · have := m3 q (by omega) (by omega); omega)
      exact ⟨hs.trans ih.1, ih.2.1, ih.2.2.1, ih.2.2.2⟩
theorem hoare_ok {xs : List Int} (h : 1 ≤ xs.length) : (hoare xs).1.Perm xs ∧ (hoare xs).1.length = xs.length ∧ 1 ≤ (hoare xs).2 ∧ (hoare xs).2 ≤ xs.length ∧ ∀ i k, i < (hoare xs).2 → (hoare xs).2 ≤ k → k < xs.length → (hoare xs).1.getD i 0 ≤ (hoare xs).1.getD k 0 := by
  have := hoaF_ok (xs.getD 0 0) xs.length h (xs.length + 1) 0 xs.length xs rfl (by omega) (.inl ⟨rfl, rfl, rfl⟩) (fun q hq => by omega) (fun q h1 h2 => by omega)
  unfold hoare
  exact ⟨PS.whole this.1, hoaF_len _ _ _ _ _ _, this.2⟩
end Go.Proofs.Ytajohkbhiafnmaa
