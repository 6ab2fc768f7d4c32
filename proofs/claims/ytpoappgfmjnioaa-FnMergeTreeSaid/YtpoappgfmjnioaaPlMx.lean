/- Plain: counts over adjacent ranges add up, few blocks cover a range, and the element of a rank fits the counts. -/
import Derived.Test.YtpoappgfmjnioaaPlCb
set_option linter.unusedSimpArgs false
set_option linter.unusedVariables false
set_option linter.unusedSectionVars false
set_option linter.unnecessarySimpa false
namespace Go.Proofs.Ytpoappgfmjnioaa
open Go Go.Ax

/-! ### The number of blocks -/

def nbT (n to D : Nat) : Nat → Nat → Nat
  | 0, _ => 0
  | g + 1, p => if p < to then 1 + nbT n to D g (endD n to D p) else 0
theorem nbT_end {n to D g p : Nat} (h : ¬ p < to) : nbT n to D g p = 0 := by
  cases g with
  | zero => rfl
  | succ g => rw [nbT, if_neg h]
theorem nbT_fuel {n to D : Nat} : ∀ (g g' p : Nat), to ≤ p + g → to ≤ p + g' → nbT n to D g p = nbT n to D g' p
  | 0, g', p, h, h' => by rw [nbT_end (by omega), nbT_end (by omega)]
  | g + 1, 0, p, h, h' => by rw [nbT_end (by omega), nbT_end (by omega)]
  | g + 1, g' + 1, p, h, h' => by
    by_cases hp : p < to
    · have := (endD_gt (n := n) (D := D) hp).1
      rw [nbT, nbT, if_pos hp, if_pos hp, nbT_fuel g g' _ (by omega) (by omega)]
    · rw [nbT_end hp, nbT_end hp]
/-- The blocks from p on. -/
def nbN (n D to p : Nat) : Nat := nbT n to D to p
theorem nbN_step {n D to p : Nat} (h : p < to) : nbN n D to p = 1 + nbN n D to (endD n to D p) := by
  unfold nbN
  cases to with
  | zero => omega
  | succ t =>
    have := (endD_gt (n := n) (D := D) h).1
    rw [nbT, if_pos h, nbT_fuel t (t + 1) _ (by omega) (by omega)]
theorem nbN_end {n D to p : Nat} (h : to ≤ p) : nbN n D to p = 0 := nbT_end (by omega)
/-- What the walk counts. -/
theorem cbT_val (xs : List Int) (to D : Nat) (key : Int) : ∀ (g p c b : Nat), to ≤ p + g → p ≤ to → cbT xs to D key g p c b = (c + cntB key (seg xs p (to - p)), b + nbN xs.length D to p)
  | 0, p, c, b, h, hp => by
    have : p = to := by omega
    subst this
    rw [nbN_end (Nat.le_refl _), Nat.sub_self, cntB_nil]; rfl
  | g + 1, p, c, b, h, hp => by
    by_cases hc : p < to
    · have he := endD_gt (n := xs.length) (D := D) hc
      rw [cbT_step hc, cbT_val xs to D key g _ _ _ (by omega) he.2, nbN_step hc]
      generalize endD xs.length to D p = e at he
      have hs : seg xs p (to - p) = seg xs p (e - p) ++ seg xs e (to - e) := by
        have := seg_split xs p (e - p) (to - e)
        rw [show e - p + (to - e) = to - p by omega, show p + (e - p) = e by omega] at this
        exact this
      rw [hs, cntB_app, Nat.add_assoc, Nat.add_assoc]
    · have : p = to := by omega
      subst this
      rw [cbT_end (by omega), nbN_end (Nat.le_refl _), Nat.sub_self, cntB_nil]; rfl

/-! ### Cutting a range costs blocks -/

theorem topD_fail {n to p : Nat} : ∀ {D d : Nat}, topD n to p D < d → d ≤ D → okD n to p d = false
  | 0, d, h, hd => by
    have : d = 0 := by omega
    subst this; exact absurd h (by simp [topD])
  | D + 1, d, h, hd => by
    cases ho : okD n to p (D + 1)
    · rw [topD_next ho] at h
      by_cases e : d = D + 1
      · subst e; exact ho
      · exact topD_fail h (by omega)
    · rw [topD_here ho] at h; omega
/-- A block that begins inside a block of the range ends inside it. -/
theorem endD_in {n to D p q : Nat} (hp : p < to) (hpq : p < q) (hq : q < endD n to D p) : endD n to D q ≤ endD n to D p := by
  have hto : q < to := by have := (endD_gt (n := n) (D := D) hp).2; omega
  obtain ⟨h1, _⟩ := okD_t (topD_ok (n := n) hp D)
  obtain ⟨h2, _⟩ := okD_t (topD_ok (n := n) hto D)
  unfold endD at hq ⊢
  generalize topD n to p D = d at *
  generalize topD n to q D = d' at *
  have hlt : q < p + 2 ^ d := by omega
  obtain ⟨a, ha⟩ := Nat.dvd_of_mod_eq_zero h1
  have hdd : d' < d := by
    rcases Nat.lt_or_ge d' d with h | h
    · exact h
    · exfalso
      have h3 : 2 ^ d ∣ q := Nat.dvd_trans (Nat.pow_dvd_pow 2 h) (Nat.dvd_of_mod_eq_zero h2)
      obtain ⟨b, hb⟩ := h3
      have hab : a < b := by
        rcases Nat.lt_or_ge a b with h4 | h4
        · exact h4
        · have := Nat.mul_le_mul_left (2 ^ d) h4; omega
      have := Nat.mul_le_mul_left (2 ^ d) hab
      rw [Nat.mul_succ] at this; omega
  have hle : q + 2 ^ d' ≤ p + 2 ^ d := by
    obtain ⟨b, hb⟩ := Nat.dvd_of_mod_eq_zero h2
    obtain ⟨c, hc⟩ : 2 ^ d' ∣ p + 2 ^ d := Nat.dvd_add (Nat.dvd_trans (Nat.pow_dvd_pow 2 (by omega)) (Nat.dvd_of_mod_eq_zero h1)) (Nat.pow_dvd_pow 2 (by omega))
    have hbc : b < c := by
      rcases Nat.lt_or_ge b c with h4 | h4
      · exact h4
      · have := Nat.mul_le_mul_left (2 ^ d') h4; omega
    have := Nat.mul_le_mul_left (2 ^ d') hbc
    rw [Nat.mul_succ] at this; omega
  omega
theorem nbN_in {n to D p : Nat} (hp : p < to) : ∀ (m q : Nat), endD n to D p - q ≤ m → p < q → q < endD n to D p → 1 + nbN n D to (endD n to D p) ≤ nbN n D to q
  | 0, q, hm, hpq, hq => by omega
  | m + 1, q, hm, hpq, hq => by
    have hto : q < to := by have := (endD_gt (n := n) (D := D) hp).2; omega
    have h1 := endD_in hp hpq hq
    have h2 := (endD_gt (n := n) (D := D) hto).1
    rw [nbN_step hto]
    rcases Nat.eq_or_lt_of_le h1 with e | hlt
    · rw [e]; omega
    · have := nbN_in hp m (endD n to D q) (by omega) (by omega) hlt
      omega
theorem nbN_cut {n D M B : Nat} (hMB : M ≤ B) (hB : B ≤ n) : ∀ (m p : Nat), B - p ≤ m → p ≤ M → nbN n D B p ≤ nbN n D M p + nbN n D B M
  | 0, p, hm, hp => by rw [nbN_end (by omega)]; omega
  | m + 1, p, hm, hp => by
    rcases Nat.eq_or_lt_of_le hp with e | hlt
    · subst e; omega
    · have hpB : p < B := by omega
      have h1 := endD_gt (n := n) (D := D) hpB
      by_cases hin : endD n B D p ≤ M
      · have hok := topD_ok (n := n) hpB D
        obtain ⟨g1, g2⟩ := okD_t hok
        have heq := endD_eq (D := D) hpB hB
        have hokM : okD n M p (topD n B p D) = true := by
          simp only [okD, Bool.and_eq_true, decide_eq_true_eq]
          exact ⟨g1, by rw [heq]; exact hin⟩
        have htop : topD n M p D = topD n B p D := by
          by_cases hD : topD n B p D = D
          · rw [hD] at hokM; rw [topD_here hokM, hD]
          · have hf : okD n B p (topD n B p D + 1) = false := topD_fail (Nat.lt_succ_self _) (by have := topD_le n B p D; omega)
            refine topD_stop hokM ?_ D (topD_le n B p D)
            cases ho : okD n M p (topD n B p D + 1)
            · rfl
            · obtain ⟨k1, k2⟩ := okD_t ho
              have : okD n B p (topD n B p D + 1) = true := by
                simp only [okD, Bool.and_eq_true, decide_eq_true_eq]; exact ⟨k1, by omega⟩
              rw [this] at hf; cases hf
        have heM : endD n M D p = endD n B D p := by rw [← endD_eq hlt (by omega), htop, heq]
        rw [nbN_step hpB, nbN_step hlt, heM]
        have := nbN_cut (D := D) hMB hB m (endD n B D p) (by omega) hin
        omega
      · rw [nbN_step hpB]
        have h2 : 1 ≤ nbN n D M p := by rw [nbN_step hlt]; omega
        rcases Nat.eq_or_lt_of_le hMB with e | hMB2
        · subst e; omega
        · have := nbN_in (D := D) hpB (endD n B D p - M) M (Nat.le_refl _) hlt (by omega)
          omega

/-! ### Few blocks -/

/-- Near the end the blocks shrink. -/
theorem nbN_low {n D B : Nat} (hB : B ≤ n) (hn : n ≤ 2 ^ D) : ∀ (c p : Nat), p % 2 ^ c = 0 → B < p + 2 ^ c → nbN n D B p ≤ c
  | c, p, hc, hb => by
    by_cases hp : p < B
    · have hc0 : 0 < c := by
        rcases Nat.eq_zero_or_pos c with h | h
        · subst h; simp at hb; omega
        · exact h
      rw [nbN_step hp]
      by_cases hend : endD n B D p = B
      · rw [hend, nbN_end (Nat.le_refl _)]; omega
      · have h1 := endD_gt (n := n) (D := D) hp
        have hok := topD_ok (n := n) hp D
        have htd := topD_le n B p D
        have hf : topD n B p D < D → okD n B p (topD n B p D + 1) = false := fun h => topD_fail (Nat.lt_succ_self _) h
        obtain ⟨g1, g2⟩ := okD_t hok
        have he : endD n B D p = p + 2 ^ topD n B p D := by unfold endD at hend h1 ⊢; omega
        rw [he] at h1 hend ⊢
        generalize topD n B p D = d at *
        have hdc : d < c := by
          rcases Nat.lt_or_ge d c with h | h
          · exact h
          · have := Nat.pow_le_pow_right (show 0 < 2 by omega) h; omega
        have hdD : d < D := by
          rcases Nat.lt_or_ge d D with h | h
          · exact h
          · have := Nat.pow_le_pow_right (show 0 < 2 by omega) h; omega
        have hf := hf hdD
        have hm : p % 2 ^ (d + 1) = 0 := Nat.mod_eq_zero_of_dvd (Nat.dvd_trans (Nat.pow_dvd_pow 2 (by omega)) (Nat.dvd_of_mod_eq_zero hc))
        have hb2 : B < p + 2 ^ (d + 1) := by
          rcases Nat.lt_or_ge B (p + 2 ^ (d + 1)) with h | h
          · exact h
          · have : okD n B p (d + 1) = true := by
              simp only [okD, Bool.and_eq_true, decide_eq_true_eq]; exact ⟨hm, by omega⟩
            rw [this] at hf; cases hf
        rw [Nat.pow_succ] at hb2
        have := nbN_low hB hn d (p + 2 ^ d) (by rw [Nat.add_mod_right]; exact g1) (by omega)
        omega
    · rw [nbN_end (by omega)]; omega
termination_by c _ => c
theorem nbN_high {n D B : Nat} (hB : B ≤ n) (hn : n ≤ 2 ^ D) : ∀ (m c p : Nat), D + 1 - c ≤ m → c ≤ D + 1 → p % 2 ^ c = 0 → nbN n D B p ≤ 2 * (D + 1) - c
  | m, c, p, hm, hcD, hc => by
    by_cases hp : p < B
    · have h1 := endD_gt (n := n) (D := D) hp
      have hok := topD_ok (n := n) hp D
      have htd := topD_le n B p D
      have hf : topD n B p D < D → okD n B p (topD n B p D + 1) = false := fun h => topD_fail (Nat.lt_succ_self _) h
      obtain ⟨g1, g2⟩ := okD_t hok
      by_cases hend : endD n B D p = B
      · rw [nbN_step hp, hend, nbN_end (Nat.le_refl _)]; omega
      · have he : endD n B D p = p + 2 ^ topD n B p D := by unfold endD at hend h1 ⊢; omega
        have hs := nbN_step (n := n) (D := D) hp
        rw [he] at h1 hend hs
        generalize topD n B p D = d at *
        have hdD : d < D := by
          rcases Nat.lt_or_ge d D with h | h
          · exact h
          · have := Nat.pow_le_pow_right (show 0 < 2 by omega) h; omega
        have hf := hf hdD
        by_cases hm2 : p % 2 ^ (d + 1) = 0
        · have hb2 : B < p + 2 ^ (d + 1) := by
            rcases Nat.lt_or_ge B (p + 2 ^ (d + 1)) with h | h
            · exact h
            · have : okD n B p (d + 1) = true := by
                simp only [okD, Bool.and_eq_true, decide_eq_true_eq]; exact ⟨hm2, by omega⟩
              rw [this] at hf; cases hf
          have := nbN_low (D := D) hB hn (d + 1) p hm2 hb2
          omega
        · have hcd : c ≤ d := by
            rcases Nat.lt_or_ge d c with h | h
            · exact absurd (Nat.mod_eq_zero_of_dvd (Nat.dvd_trans (Nat.pow_dvd_pow 2 h) (Nat.dvd_of_mod_eq_zero hc))) hm2
            · exact h
          have hm3 : (p + 2 ^ d) % 2 ^ (d + 1) = 0 := by
            obtain ⟨a, ha⟩ := Nat.dvd_of_mod_eq_zero g1
            have hodd : a % 2 = 1 := by
              rcases Nat.mod_two_eq_zero_or_one a with h | h
              · exfalso; apply hm2
                obtain ⟨b, hb⟩ := Nat.dvd_of_mod_eq_zero h
                rw [ha, hb, Nat.pow_succ, ← Nat.mul_assoc]; exact Nat.mul_mod_right _ _
              · exact h
            obtain ⟨b, hb⟩ : ∃ b, a + 1 = 2 * b := ⟨(a + 1) / 2, by omega⟩
            have : p + 2 ^ d = 2 ^ (d + 1) * b := by
              rw [ha, Nat.pow_succ, Nat.mul_assoc, ← hb, Nat.mul_succ]
            rw [this]; exact Nat.mul_mod_right _ _
          have := nbN_high hB hn (m - 1) (d + 1) (p + 2 ^ d) (by omega) (by omega) hm3
          omega
    · rw [nbN_end (by omega)]; omega
termination_by m c _ => D + 1 - c
theorem nbN_few {n D B : Nat} (hB : B ≤ n) (hn : n ≤ 2 ^ D) (p : Nat) : nbN n D B p ≤ 2 * (D + 1) := by
  have := nbN_high (D := D) hB hn (D + 1) 0 p (by omega) (by omega) (by rw [Nat.pow_zero, Nat.mod_one])
  omega

/-! ### The element of a rank -/

theorem cnt_low {key : Int} {zs : List Int} (h : ∀ i, i < zs.length → key ≤ zs.getD i 0) : cntB key zs = 0 := by
  unfold cntB
  rw [List.length_eq_zero_iff, List.filter_eq_nil_iff]
  intro y hy
  obtain ⟨i, hi, rfl⟩ := List.mem_iff_getElem.1 hy
  have := h i hi
  rw [List.getD_eq_getElem?_getD, List.getElem?_eq_getElem hi] at this
  simp at this ⊢; omega
theorem cnt_all {key : Int} {zs : List Int} (h : ∀ i, i < zs.length → zs.getD i 0 < key) : cntB key zs = zs.length := by
  unfold cntB
  rw [List.filter_eq_self.2]
  intro y hy
  obtain ⟨i, hi, rfl⟩ := List.mem_iff_getElem.1 hy
  have := h i hi
  rw [List.getD_eq_getElem?_getD, List.getElem?_eq_getElem hi] at this
  simp at this ⊢; omega
theorem cnt_rank {ys : List Int} {k : Nat} (hk : k < ys.length) : cntB ((srtL ys).getD k 0) ys ≤ k ∧ k < cntB ((srtL ys).getD k 0 + 1) ys := by
  have hl := srtL_len ys
  have hs := srtL_sorted ys
  have hso : ∀ i j, i ≤ j → j < ys.length → (srtL ys).getD i 0 ≤ (srtL ys).getD j 0 := fun i j hij hj => by
    rcases Nat.eq_or_lt_of_le hij with e | hlt
    · subst e; exact Int.le_refl _
    · have := hs i j hlt hj; rwa [Nat.zero_add, Nat.zero_add] at this
  have e1 : cntB ((srtL ys).getD k 0) ys = cntB ((srtL ys).getD k 0) (srtL ys) := cntB_perm (srtL_perm ys).symm
  have e2 : cntB ((srtL ys).getD k 0 + 1) ys = cntB ((srtL ys).getD k 0 + 1) (srtL ys) := cntB_perm (srtL_perm ys).symm
  rw [e1, e2]
  generalize srtL ys = zs at *
  constructor
  · have hz : seg zs 0 (k + (zs.length - k)) = zs := by rw [show k + (zs.length - k) = zs.length by omega]; exact seg_all zs
    have := seg_split zs 0 k (zs.length - k)
    rw [hz] at this
    have h0 : cntB (zs.getD k 0) (seg zs (0 + k) (zs.length - k)) = 0 := cnt_low fun i hi => by
      rw [seg_len] at hi
      rw [seg_get _ _ hi]
      exact hso _ _ (by omega) (by omega)
    have h1 := cntB_le (zs.getD k 0) (seg zs 0 k)
    rw [seg_len] at h1
    have h2 := congrArg (cntB (zs.getD k 0)) this
    rw [cntB_app, h0] at h2
    omega
  · have hz : seg zs 0 (k + 1 + (zs.length - (k + 1))) = zs := by rw [show k + 1 + (zs.length - (k + 1)) = zs.length by omega]; exact seg_all zs
    have := seg_split zs 0 (k + 1) (zs.length - (k + 1))
    rw [hz] at this
    have h0 : cntB (zs.getD k 0 + 1) (seg zs 0 (k + 1)) = k + 1 := by
      rw [cnt_all fun i hi => ?_, seg_len]
      rw [seg_len] at hi
      rw [seg_get _ _ hi]
      have := hso (0 + i) k (by omega) (by omega)
      omega
    have h2 := congrArg (cntB (zs.getD k 0 + 1)) this
    rw [cntB_app, h0] at h2
    omega
end Go.Proofs.Ytpoappgfmjnioaa
