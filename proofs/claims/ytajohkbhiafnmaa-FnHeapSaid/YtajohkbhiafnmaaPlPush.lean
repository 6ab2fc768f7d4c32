/- Facts: a pushed heap and a heap with its top replaced are heaps of the same elements. -/
import Derived.Test.YtajohkbhiafnmaaPlHs
import Derived.Test.YtajohkbhiafnmaaPlSort
import Derived.Test.YtajohkbhiafnmaaPush
import Derived.Test.YtajohkbhiafnmaaHeapI
set_option linter.unusedSimpArgs false
set_option linter.unusedVariables false
set_option linter.unusedSectionVars false
namespace Go.Proofs.Ytajohkbhiafnmaa
open Go Go.Ax

theorem firstI_neg {p : Nat → Bool} {n : Nat} (h : firstI p n < 0) : ∀ j, j < n → p j = false := by
  unfold firstI at h
  cases e : (List.range n).find? p with
  | none =>
    intro j hj
    have := List.find?_eq_none.mp e j (List.mem_range.mpr hj)
    simpa using this
  | some j =>
    rw [e] at h
    simp at h
    omega
theorem hp_of_fault {zs : List Int} {d : Nat} (hd : 2 ≤ d) (h : faultI zs d < 0) : HP d 0 zs.length 0 zs := by
  intro i j hp hj _
  have h1 := hp.1
  have h2 := firstI_neg h (j - 1) (by omega)
  have h3 := of_decide_eq_false h2
  have h4 := (par_iff (by omega) (by omega)).mp hp
  rw [h4, show j - 1 + 1 = j by omega] at h3
  rw [Nat.zero_add, Nat.zero_add]
  omega
theorem isHeapB_hp {xs : List Int} {d : Nat} (h : isHeapB xs d = true) : (2 ≤ d ∧ d ≤ 8) ∧ HP d 0 xs.length 0 xs := by
  have h2 := (isHeapB_t h).2
  simp only [inB, Bool.and_eq_true, decide_eq_true_eq] at h2
  simp only [isHeapB, Bool.and_eq_true, decide_eq_true_eq, Int.toNat_natCast] at h
  exact ⟨by omega, hp_of_fault (by omega) h.2⟩

theorem pshF_perm (d : Nat) : ∀ (f i : Nat) (zs : List Int), i < zs.length → (pshF d f i zs).1.Perm zs
  | 0, _, _, _ => List.Perm.refl _
  | _ + 1, 0, _, _ => List.Perm.refl _
  | f + 1, i + 1, zs, hi => by
    by_cases h : zs.getD (i / d) 0 < zs.getD (i + 1) 0
    · have hq : i / d ≤ i := Nat.div_le_self _ _
      rw [pshF_go h]
      exact (pshF_perm d f _ _ (by rw [swp_len]; omega)).trans (swp_perm hi (by omega))
    · rw [pshF_stay h]
theorem pshF_dp (d : Nat) : ∀ (f i : Nat) (zs : List Int), (pshF d f i zs).2 ≤ dpF d f i
  | 0, _, _ => Nat.le_refl _
  | _ + 1, 0, _ => Nat.le_refl _
  | f + 1, i + 1, zs => by
    by_cases h : zs.getD (i / d) 0 < zs.getD (i + 1) 0
    · have := pshF_dp d f (i / d) (swp zs (i + 1) (i / d))
      rw [pshF_go h, dpF]; simp only; omega
    · rw [pshF_stay h]; exact Nat.zero_le _
theorem pshF_hp (d n : Nat) (hd : 2 ≤ d) : ∀ (f i : Nat) (zs : List Int), n ≤ zs.length → i < n → i ≤ f →
    (∀ p j, Par d p j → j < n → j ≠ i → zs.getD j 0 ≤ zs.getD p 0) → (∀ p j, Par d i j → j < n → Par d p i → zs.getD j 0 ≤ zs.getD p 0) →
    HP d 0 n 0 (pshF d f i zs).1
  | f, 0, zs, hl, hi, hf, a, b => by
    rw [pshF_zero]
    intro p j hp hj _
    have := hp.1
    rw [Nat.zero_add, Nat.zero_add]
    exact a p j hp hj (by omega)
  | 0, i + 1, zs, hl, hi, hf, a, b => by omega
  | f + 1, q + 1, zs, hl, hi, hf, a, b => by
    have hpar : Par d (q / d) (q + 1) := (par_iff (by omega) (by omega)).mpr (by rw [Nat.add_sub_cancel])
    have hq : q / d ≤ q := Nat.div_le_self _ _
    by_cases h : zs.getD (q / d) 0 < zs.getD (q + 1) 0
    · rw [pshF_go h]
      obtain ⟨r, hr⟩ : ∃ r, r = q / d := ⟨_, rfl⟩
      rw [← hr] at hpar hq h ⊢
      have hsw : ∀ k, (swp zs (q + 1) r).getD k 0 = if k = r then zs.getD (q + 1) 0 else if k = q + 1 then zs.getD r 0 else zs.getD k 0 := fun k => swp_get zs k (by omega) (by omega)
      refine pshF_hp d n hd f r (swp zs (q + 1) r) (by rw [swp_len]; exact hl) (by omega) (by omega) (fun p j hp hj hjr => ?_) (fun p j hrj hj hpr => ?_)
      · rw [hsw, hsw, if_neg hjr]
        by_cases e1 : j = q + 1
        · subst e1
          have ep : p = r := par_inj (by omega) hp hpar
          rw [if_pos rfl, if_pos ep]; omega
        · rw [if_neg e1]
          by_cases e2 : p = r
          · subst e2; rw [if_pos rfl]; have := a p j hp hj e1; omega
          · rw [if_neg e2]
            by_cases e3 : p = q + 1
            · subst e3; rw [if_pos rfl]; exact b r j hp hj hpar
            · rw [if_neg e3]; exact a p j hp hj e1
      · have l1 := par_lt (by omega) hrj
        have l2 := par_lt (by omega) hpr
        have hrp := a p r hpr (by omega) (by omega)
        rw [hsw, hsw, if_neg (by omega), if_neg (show ¬ p = r by omega), if_neg (show ¬ p = q + 1 by omega)]
        by_cases e1 : j = q + 1
        · rw [if_pos e1]; exact hrp
        · rw [if_neg e1]; have := a r j hrj hj e1; omega
    · rw [pshF_stay h]
      intro p j hp hj _
      rw [Nat.zero_add, Nat.zero_add]
      by_cases e1 : j = q + 1
      · subst e1
        have ep : p = q / d := par_inj (by omega) hp hpar
        rw [ep]; show zs.getD (q + 1) 0 ≤ zs.getD (q / d) 0; omega
      · exact a p j hp hj e1

theorem getD_app1 (xs : List Int) (x : Int) {j : Nat} (h : j < xs.length) : (xs ++ [x]).getD j 0 = xs.getD j 0 := by simp [List.getD_eq_getElem?_getD, List.getElem?_append, h]
theorem puF_ok {xs : List Int} {d : Nat} {x : Int} (h : isHeapB xs d = true) :
    (puF xs d x).1.Perm (xs ++ [x]) ∧ HP d 0 (puF xs d x).1.length 0 (puF xs d x).1 ∧ (puF xs d x).2 ≤ dpF d xs.length xs.length := by
  obtain ⟨hd, hh⟩ := isHeapB_hp h
  rw [puF_len]
  unfold puF
  rw [Int.toNat_natCast]
  refine ⟨pshF_perm _ _ _ _ (by simp), pshF_hp d _ hd.1 _ _ _ (by simp) (by omega) (Nat.le_refl _) (fun p j hp hj hji => ?_) (fun p j hp hj _ => ?_), pshF_dp _ _ _ _⟩
  · have l1 := par_lt (by omega) hp
    rw [getD_app1 _ _ (by omega), getD_app1 _ _ (by omega)]
    have := hh p j hp (by omega) (Nat.zero_le _)
    rwa [Nat.zero_add, Nat.zero_add] at this
  · have l1 := par_lt (by omega) hp
    omega
theorem set_swap_perm {xs : List Int} (x : Int) (h : 0 < xs.length) : (xs.set 0 x ++ [xs.getD 0 0]).Perm (xs ++ [x]) := by
  cases xs with
  | nil => simp at h
  | cons a t =>
    show ((x :: t) ++ [a]).Perm ((a :: t) ++ [x])
    exact (List.perm_append_singleton a (x :: t)).trans ((List.Perm.swap x a t).trans (List.perm_append_singleton x (a :: t)).symm)
theorem repF_ok {xs : List Int} {d : Nat} {x : Int} (h : isHeapB xs d = true) (hx : 0 < xs.length) :
    (repF xs d x ++ [xs.getD 0 0]).Perm (xs ++ [x]) ∧ HP d 0 (repF xs d x).length 0 (repF xs d x) := by
  obtain ⟨hd, hh⟩ := isHeapB_hp h
  rw [repF_len]
  unfold repF
  rw [Int.toNat_natCast]
  have hl : (xs.set 0 x).length = xs.length := by simp
  have hs : ∀ k, 0 < k → (xs.set 0 x).getD k 0 = xs.getD k 0 := fun k hk => by simp [List.getD_eq_getElem?_getD, List.getElem?_set, show ¬ (0 = k) by omega]
  refine ⟨?_, siftF_hp d 0 xs.length 0 hd.1 _ _ _ (by omega) (Nat.le_refl _) (by omega) (fun p j hp hj _ hp0 => ?_) (fun p j _ _ hp0 _ => ?_)⟩
  · have hps := siftF_ps d 0 xs.length hd.1 xs.length 0 (xs.set 0 x) (by omega)
    have := PS.whole (zs := xs.set 0 x) (by rw [hl]; exact hps)
    exact (this.append_right _).trans (set_swap_perm x hx)
  · have l1 := par_lt (by omega) hp
    rw [Nat.zero_add, Nat.zero_add, hs j (by omega), hs p (by omega)]
    have := hh p j hp hj (Nat.zero_le _)
    rwa [Nat.zero_add, Nat.zero_add] at this
  · have := par_lt (by omega) hp0
    omega
end Go.Proofs.Ytajohkbhiafnmaa
