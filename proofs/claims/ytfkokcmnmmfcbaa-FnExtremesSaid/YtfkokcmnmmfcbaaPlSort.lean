/- Plain facts on sorted lists: no program in sight. -/
import Derived.Test.YtfkokcmnmmfcbaaPlSeg
import Derived.Test.YtfkokcmnmmfcbaaPlQuick
set_option linter.unusedSimpArgs false
set_option linter.unusedVariables false
set_option linter.unusedSectionVars false
namespace Go.Proofs.Ytfkokcmnmmfcbaa
open Go Go.Ax

/-- The sorted list. -/
def srtL (xs : List Int) : List Int := xs.mergeSort (fun a b => decide (a ≤ b))
/-- The part of n elements from o on is ascending. -/
def SSeg (o n : Nat) (zs : List Int) : Prop := ∀ i j, i < j → j < n → zs.getD (o + i) 0 ≤ zs.getD (o + j) 0
theorem srtL_perm (xs : List Int) : (srtL xs).Perm xs := List.mergeSort_perm _ _
theorem srtL_len (xs : List Int) : (srtL xs).length = xs.length := (srtL_perm xs).length_eq
theorem pairwise_of_sseg {zs : List Int} (h : SSeg 0 zs.length zs) : zs.Pairwise (fun a b => a ≤ b) := by
  rw [List.pairwise_iff_getElem]
  intro i j hi hj hij
  have := h i j hij hj
  rwa [Nat.zero_add, Nat.zero_add, getD_lt hi, getD_lt hj] at this
theorem srtL_sorted (xs : List Int) : SSeg 0 xs.length (srtL xs) := by
  have h : (srtL xs).Pairwise (fun a b => a ≤ b) := by
    have := List.pairwise_mergeSort (le := fun a b : Int => decide (a ≤ b)) (fun a b c h1 h2 => by simp at *; omega) (fun a b => by simp; omega) xs
    exact this.imp (fun h => by simpa using h)
  intro i j hij hj
  rw [List.pairwise_iff_getElem] at h
  have hl := srtL_len xs
  rw [Nat.zero_add, Nat.zero_add, getD_lt (show i < (srtL xs).length by omega), getD_lt (show j < (srtL xs).length by omega)]
  exact h i j _ _ hij
theorem srtL_unique {xs zs : List Int} (hp : zs.Perm xs) (hs : SSeg 0 zs.length zs) : zs = srtL xs := by
  refine List.Perm.eq_of_pairwise (le := fun a b : Int => a ≤ b) (fun a b _ _ h1 h2 => by omega) (pairwise_of_sseg hs) (pairwise_of_sseg (by rw [srtL_len]; exact srtL_sorted xs)) (hp.trans (srtL_perm xs).symm)
theorem srtL_congr {xs ys : List Int} (h : xs.Perm ys) : srtL xs = srtL ys := srtL_unique ((srtL_perm xs).trans h) (by rw [srtL_len]; exact srtL_sorted xs)
theorem sseg_seg {zs : List Int} {o n : Nat} (h : SSeg o n zs) : SSeg 0 n (seg zs o n) := fun i j hij hj => by
  rw [Nat.zero_add, Nat.zero_add, seg_get _ _ (by omega), seg_get _ _ hj]; exact h i j hij hj
theorem seg_sorted {zs zs' : List Int} {o n : Nat} (h : PS o n zs zs') (hs : SSeg o n zs') : seg zs' o n = srtL (seg zs o n) :=
  srtL_unique h.perm (by rw [seg_len]; exact sseg_seg hs)
/-- A sorted arrangement of a part is the only one. -/
theorem PS.unique {zs a b : List Int} {o n : Nat} (ha : PS o n zs a) (hb : PS o n zs b) (sa : SSeg o n a) (sb : SSeg o n b) : a = b := by
  have e : seg a o n = seg b o n := by rw [seg_sorted ha sa, seg_sorted hb sb]
  refine list_ext_getD (ha.len.trans hb.len.symm) (fun q hq => ?_)
  by_cases h : q < o ∨ o + n ≤ q
  · rw [ha.out q h, hb.out q h]
  · have h1 := seg_get a o (n := n) (i := q - o) (by omega)
    have h2 := seg_get b o (n := n) (i := q - o) (by omega)
    rw [show o + (q - o) = q from by omega] at h1 h2
    rw [← h1, ← h2, e]

theorem getD_setq {L : List Int} {i : Nat} {v : Int} (q : Nat) (h : i < L.length) : (L.set i v).getD q 0 = if q = i then v else L.getD q 0 := by
  simp only [List.getD_eq_getElem?_getD, List.getElem?_set]
  by_cases e : i = q
  · subst e; simp [h]
  · simp [e, Ne.symm e]

/-- Insertion's rounds. -/
theorem insIn_ok (o i : Nat) (x : Int) : ∀ (k : Nat) (zs w : List Int), k ≤ i → o + i < zs.length → w = zs.set (o + k) x →
    (∀ p q, p < q → q ≤ i → p ≠ k → q ≠ k → zs.getD (o + p) 0 ≤ zs.getD (o + q) 0) → (∀ q, k < q → q ≤ i → x ≤ zs.getD (o + q) 0) →
    PS o (i + 1) w ((insIn o x k zs).1.set (o + (insIn o x k zs).2) x) ∧ SSeg o (i + 1) ((insIn o x k zs).1.set (o + (insIn o x k zs).2) x) ∧ (insIn o x k zs).2 ≤ k ∧ ((insIn o x k zs).2 = k → (insIn o x k zs).1 = zs)
  | 0, zs, w, hk, hl, hw, a, b => by
    rw [insIn]
    refine ⟨by rw [hw]; exact PS.refl _ _ _, fun p q hpq hq => ?_, Nat.le_refl _, fun _ => rfl⟩
    simp only
    rw [getD_setq _ (by omega), getD_setq _ (by omega), if_neg (show ¬ o + q = o + 0 by omega)]
    split
    · exact b q (by omega) (by omega)
    · exact a p q hpq (by omega) (by omega) (by omega)
  | k + 1, zs, w, hk, hl, hw, a, b => by
    by_cases hle : zs.getD (o + k) 0 ≤ x
    · rw [insIn_le hle]
      refine ⟨by rw [hw]; exact PS.refl _ _ _, fun p q hpq hq => ?_, Nat.le_refl _, fun _ => rfl⟩
      simp only
      rw [getD_setq _ (by omega), getD_setq _ (by omega)]
      by_cases e1 : p = k + 1
      · rw [if_pos (by omega), if_neg (by omega)]; exact b q (by omega) (by omega)
      · rw [if_neg (by omega)]
        by_cases e2 : q = k + 1
        · rw [if_pos (by omega)]
          by_cases e3 : p = k
          · subst e3; exact hle
          · have := a p k (by omega) (by omega) (by omega) (by omega); omega
        · rw [if_neg (by omega)]; exact a p q hpq (by omega) e1 e2
    · rw [insIn_gt hle]
      have hz : ∀ q, (zs.set (o + (k + 1)) (zs.getD (o + k) 0)).getD (o + q) 0 = if q = k + 1 then zs.getD (o + k) 0 else zs.getD (o + q) 0 := fun q => by
        rw [getD_setq _ (by omega)]
        by_cases e : q = k + 1
        · rw [if_pos (by omega), if_pos e]
        · rw [if_neg (by omega), if_neg e]
      have ih := insIn_ok o i x k (zs.set (o + (k + 1)) (zs.getD (o + k) 0)) _ (by omega) (by simpa using hl) rfl
        (fun p q hpq hq hp hqk => by
          rw [hz, hz]
          by_cases e1 : p = k + 1
          · rw [if_pos e1, if_neg (by omega)]; exact a k q (by omega) hq (by omega) (by omega)
          · rw [if_neg e1]
            by_cases e2 : q = k + 1
            · rw [if_pos e2]; exact a p k (by omega) (by omega) (by omega) (by omega)
            · rw [if_neg e2]; exact a p q hpq hq e1 e2)
        (fun q hq1 hq2 => by
          rw [hz]; split
          · omega
          · exact b q (by omega) hq2)
      have hw2 : (zs.set (o + (k + 1)) (zs.getD (o + k) 0)).set (o + k) x = Go.Proofs.Ytfkokcmnmmfcbaa.swp w (o + (k + 1)) (o + k) := by
        apply list_ext_getD
        · rw [swp_len, hw]; simp
        · intro q _
          rw [swp_get _ _ (by rw [hw]; simp; omega) (by rw [hw]; simp; omega), hw]
          rw [getD_setq _ (by simp; omega), getD_setq _ (by omega), getD_setq _ (by omega), getD_setq _ (by omega), getD_setq _ (by omega)]
          by_cases e1 : q = o + k
          · rw [if_pos e1, if_pos e1, if_pos rfl]
          · rw [if_neg e1, if_neg e1]
            by_cases e2 : q = o + (k + 1)
            · rw [if_pos e2, if_pos e2, if_neg (by omega)]
            · rw [if_neg e2, if_neg e2, if_neg e2]
      rw [hw2] at ih
      refine ⟨(PS.swp (n := i + 1) (by rw [hw]; simp; omega) (by omega) (by omega)).trans ih.1, ih.2.1, by omega, fun e => by omega⟩
theorem insOne_ok {o i : Nat} {zs : List Int} (hl : o + i < zs.length) (hs : SSeg o i zs) : PS o (i + 1) zs (insOne o i zs) ∧ SSeg o (i + 1) (insOne o i zs) := by
  have hw : zs = zs.set (o + i) (zs.getD (o + i) 0) := by
    apply list_ext_getD
    · simp
    · intro q _
      rw [getD_setq _ hl]; split
      · rename_i e; rw [e]
      · rfl
  have h := insIn_ok o i (zs.getD (o + i) 0) i zs _ (Nat.le_refl _) hl rfl (fun p q hpq hq hp hqk => hs p q hpq (by omega)) (fun q h1 h2 => by omega)
  rw [← hw] at h
  obtain ⟨h1, h2, h3, h4⟩ := h
  unfold insOne
  split
  · exact ⟨h1, h2⟩
  · rename_i hn
    have e : (insIn o (zs.getD (o + i) 0) i zs).2 = i := by omega
    rw [e, h4 e, ← hw] at h1 h2
    rw [h4 e]; exact ⟨h1, h2⟩
theorem insAll_ok (o : Nat) : ∀ (m : Nat) (zs : List Int), o + m < zs.length → PS o (m + 1) zs (insAll o m zs) ∧ SSeg o (m + 1) (insAll o m zs)
  | 0, zs, h => ⟨PS.refl _ _ _, fun i j hij hj => by omega⟩
  | m + 1, zs, h => by
    have ih := insAll_ok o m zs (by omega)
    have := insOne_ok (i := m + 1) (by rw [insAll_len]; exact h) ih.2
    rw [insAll]
    exact ⟨(ih.1.up (Nat.le_refl _) (by omega)).trans this.1, this.2⟩
/-- The part sorted by insertion. -/
theorem ins_ok {o n : Nat} {zs : List Int} (h : o + n ≤ zs.length) : PS o n zs (insAll o (n - 1) zs) ∧ SSeg o n (insAll o (n - 1) zs) := by
  cases n with
  | zero => exact ⟨PS.refl _ _ _, fun i j hij hj => by omega⟩
  | succ m => exact insAll_ok o m zs (by omega)
end Go.Proofs.Ytfkokcmnmmfcbaa
