/- Plain: counting below a key over a range, block by block. -/
import Derived.Test.YtpoappgfmjnioaaRk
set_option linter.unusedSimpArgs false
set_option linter.unusedVariables false
set_option linter.unusedSectionVars false
set_option linter.unnecessarySimpa false
namespace Go.Proofs.Ytpoappgfmjnioaa
open Go Go.Ax

def cntB (key : Int) (zs : List Int) : Nat := (zs.filter fun y => decide (y < key)).length
theorem cntB_perm {key : Int} {zs ws : List Int} (h : zs.Perm ws) : cntB key zs = cntB key ws := (h.filter _).length_eq
theorem cntB_app (key : Int) (zs ws : List Int) : cntB key (zs ++ ws) = cntB key zs + cntB key ws := by simp [cntB]
theorem cntB_nil (key : Int) (zs : List Int) (o : Nat) : cntB key (seg zs o 0) = 0 := rfl
theorem cntB_le (key : Int) (zs : List Int) : cntB key zs ≤ zs.length := List.length_filter_le _ _
theorem seg_one (zs : List Int) (o : Nat) : seg zs o 1 = [zs.getD o 0] := by simp [seg]
theorem cntB_step (key : Int) (zs : List Int) (o i : Nat) : cntB key (seg zs o (i + 1)) = cntB key (seg zs o i) + (if zs.getD (o + i) 0 < key then 1 else 0) := by
  rw [seg_split, cntB_app, seg_one]
  generalize zs.getD (o + i) 0 = y
  by_cases h : y < key <;> simp [cntB, h]
theorem cntB_yes {key : Int} {zs : List Int} {o i : Nat} (h : zs.getD (o + i) 0 < key) : cntB key (seg zs o (i + 1)) = cntB key (seg zs o i) + 1 := by rw [cntB_step, if_pos h]
theorem cntB_no {key : Int} {zs : List Int} {o i : Nat} (h : ¬ zs.getD (o + i) 0 < key) : cntB key (seg zs o (i + 1)) = cntB key (seg zs o i) := by rw [cntB_step, if_neg h]; rfl

/-! ### The level of a block -/

def okD (n to p d : Nat) : Bool := decide (p % 2 ^ d = 0) && decide (min (p + 2 ^ d) n ≤ to)
def topD (n to p : Nat) : Nat → Nat
  | 0 => 0
  | d + 1 => if okD n to p (d + 1) then d + 1 else topD n to p d
theorem okD_0 {n to p : Nat} (h : p < to) : okD n to p 0 = true := by
  simp [okD, Nat.mod_one]; omega
theorem okD_t {n to p d : Nat} (h : okD n to p d = true) : p % 2 ^ d = 0 ∧ min (p + 2 ^ d) n ≤ to := by
  simp only [okD, Bool.and_eq_true, decide_eq_true_eq] at h; exact h
theorem okD_down {n to p d : Nat} (h : okD n to p (d + 1) = true) : okD n to p d = true := by
  obtain ⟨h1, h2⟩ := okD_t h
  rw [Nat.pow_succ] at h1 h2
  have h3 : p % 2 ^ d = 0 := by
    have : 2 ^ d ∣ p := Nat.dvd_trans ⟨2, rfl⟩ (Nat.dvd_of_mod_eq_zero h1)
    exact Nat.mod_eq_zero_of_dvd this
  simp only [okD, Bool.and_eq_true, decide_eq_true_eq]
  exact ⟨h3, by omega⟩
theorem topD_le (n to p : Nat) : ∀ D, topD n to p D ≤ D
  | 0 => Nat.le_refl _
  | D + 1 => by
    rw [topD]
    split
    · exact Nat.le_refl _
    · have := topD_le n to p D; omega
theorem topD_ok {n to p : Nat} (h : p < to) : ∀ D, okD n to p (topD n to p D) = true
  | 0 => okD_0 h
  | D + 1 => by
    rw [topD]
    split
    · assumption
    · exact topD_ok h D
theorem topD_here {n to p : Nat} : ∀ {D : Nat}, okD n to p D = true → topD n to p D = D
  | 0, _ => rfl
  | D + 1, h => by rw [topD, if_pos h]
theorem topD_next {n to p D : Nat} (h : okD n to p (D + 1) = false) : topD n to p (D + 1) = topD n to p D := by rw [topD, if_neg (by rw [h]; simp)]
theorem okD_le {n to p e : Nat} : ∀ (D : Nat), e ≤ D → okD n to p D = true → okD n to p e = true
  | 0, h, h' => by have : e = 0 := by omega
                   subst this; exact h'
  | D + 1, h, h' => by
    by_cases he : e = D + 1
    · subst he; exact h'
    · exact okD_le D (by omega) (okD_down h')
theorem topD_stop {n to p e : Nat} (h : okD n to p e = true) (hn : okD n to p (e + 1) = false) : ∀ (D : Nat), e ≤ D → topD n to p D = e
  | 0, he => by show 0 = e; omega
  | D + 1, he => by
    by_cases hc : e = D + 1
    · subst hc; exact topD_here h
    · cases ho : okD n to p (D + 1)
      · rw [topD_next ho]; exact topD_stop h hn D (by omega)
      · rw [okD_le (D + 1) (by omega) ho] at hn; cases hn

/-! ### The count -/

/-- The place behind the block at p. -/
def endD (n to D p : Nat) : Nat := min (p + 2 ^ topD n to p D) to
def cbT (xs : List Int) (to D : Nat) (key : Int) : Nat → Nat → Nat → Nat → Nat × Nat
  | 0, _, c, b => (c, b)
  | g + 1, p, c, b => if p < to then cbT xs to D key g (endD xs.length to D p) (c + cntB key (seg xs p (endD xs.length to D p - p))) (b + 1) else (c, b)
theorem cbT_end {xs : List Int} {to D : Nat} {key : Int} {g p c b : Nat} (h : ¬ p < to) : cbT xs to D key g p c b = (c, b) := by
  cases g with
  | zero => rfl
  | succ g => rw [cbT, if_neg h]
theorem cbT_step {xs : List Int} {to D : Nat} {key : Int} {g p c b : Nat} (h : p < to) : cbT xs to D key (g + 1) p c b = cbT xs to D key g (endD xs.length to D p) (c + cntB key (seg xs p (endD xs.length to D p - p))) (b + 1) := by rw [cbT, if_pos h]
theorem endD_gt {n to D p : Nat} (h : p < to) : p < endD n to D p ∧ endD n to D p ≤ to := by
  have : 0 < 2 ^ topD n to p D := Nat.pow_pos (by omega)
  unfold endD; omega
/-- As the program cuts it. -/
theorem endD_eq {n to D p : Nat} (h : p < to) (ht : to ≤ n) : min (p + 2 ^ topD n to p D) n = endD n to D p := by
  have := (okD_t (topD_ok (n := n) h D)).2
  unfold endD; omega

/-! ### A block of a level -/

theorem lvT_pre (xs : List Int) (s : Nat) : ∀ (g f : Nat) (out : List Int), ∃ r, lvT xs s g f out = out ++ r
  | 0, f, out => ⟨[], by simp [lvT]⟩
  | g + 1, f, out => by
    rw [lvT]
    split
    · obtain ⟨r, hr⟩ := lvT_pre xs s g (f + s) (out ++ srtL (seg xs f (min (f + s) xs.length - f)))
      exact ⟨_, by rw [hr, List.append_assoc]⟩
    · exact ⟨[], by simp⟩
theorem seg_app_mid (a b c : List Int) (o n : Nat) (ho : a.length = o) (hn : b.length = n) : seg (a ++ b ++ c) o n = b := by
  apply list_ext_getD
  · rw [seg_len, hn]
  · intro i h
    rw [seg_len] at h
    rw [seg_get _ _ h, getD_appL (by rw [List.length_append]; omega), getD_appR (by omega)]
    congr 1; omega
theorem lvT_seg (xs : List Int) (s : Nat) (hs : 1 ≤ s) : ∀ (g f : Nat) (out : List Int), xs.length ≤ f + g → out.length = min f xs.length → f % s = 0 → ∀ p, p % s = 0 → f ≤ p → p < xs.length →
    seg (lvT xs s g f out) p (min (p + s) xs.length - p) = srtL (seg xs p (min (p + s) xs.length - p))
  | 0, f, out, h, ho, hf, p, hp, hfp, hpn => by omega
  | g + 1, f, out, h, ho, hf, p, hp, hfp, hpn => by
    have hc : f < xs.length := by omega
    have hbl : (srtL (seg xs f (min (f + s) xs.length - f))).length = min (f + s) xs.length - f := by rw [srtL_len, seg_len]
    rw [lvT_step hc]
    rcases Nat.eq_or_lt_of_le hfp with e | hlt
    · subst e
      obtain ⟨r, hr⟩ := lvT_pre xs s g (f + s) (out ++ srtL (seg xs f (min (f + s) xs.length - f)))
      rw [hr]
      exact seg_app_mid _ _ _ _ _ (by omega) hbl
    · have hps : f + s ≤ p := by
        obtain ⟨a, ha⟩ := Nat.dvd_of_mod_eq_zero hf
        obtain ⟨b, hb⟩ := Nat.dvd_of_mod_eq_zero hp
        have hab : a < b := by
          rcases Nat.lt_or_ge a b with h1 | h1
          · exact h1
          · have := Nat.mul_le_mul_left s h1; omega
        have := Nat.mul_le_mul_left s hab
        rw [Nat.mul_succ] at this
        omega
      exact lvT_seg xs s hs g (f + s) _ (by omega) (by rw [List.length_append, hbl]; omega) (by rw [Nat.add_mod_right]; exact hf) p hp hps hpn
/-- A block of a level holds the elements of the list's block. -/
theorem lvAt_cnt (xs : List Int) (key : Int) {d p : Nat} (hp : p % 2 ^ d = 0) (hpn : p < xs.length) :
    cntB key (seg (lvAt xs d) p (min (p + 2 ^ d) xs.length - p)) = cntB key (seg xs p (min (p + 2 ^ d) xs.length - p)) := by
  unfold lvAt
  split
  · rfl
  · rw [lvF, lvT_seg xs (2 ^ d) Nat.one_le_two_pow xs.length 0 [] (by omega) (by simp) (by simp) p hp (by omega) hpn]
    exact cntB_perm (srtL_perm _)
end Go.Proofs.Ytpoappgfmjnioaa
