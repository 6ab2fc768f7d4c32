/- Plain facts on heap order and heap sort: no program in sight. -/
import Derived.Test.YtajohkbhiafnmaaPlSort
set_option linter.unusedSimpArgs false
set_option linter.unusedVariables false
set_option linter.unusedSectionVars false
namespace Go.Proofs.Ytajohkbhiafnmaa
open Go Go.Ax

/-- Number i is the parent of number j. -/
def Par (d i j : Nat) : Prop := d * i + 1 ≤ j ∧ j ≤ d * i + d
theorem par_iff {d i j : Nat} (hd : 1 ≤ d) (hj : 1 ≤ j) : Par d i j ↔ (j - 1) / d = i := by
  unfold Par
  rw [Nat.div_eq_iff (by omega)]
  constructor
  · rintro ⟨h1, h2⟩; rw [Nat.mul_comm] at h1 h2; omega
  · rintro ⟨h1, h2⟩; rw [Nat.mul_comm d i]; omega
theorem par_lt {d i j : Nat} (hd : 1 ≤ d) (h : Par d i j) : i < j := by
  have : i ≤ d * i := Nat.le_mul_of_pos_left i (by omega)
  have := h.1; omega
theorem par_inj {d i i' j : Nat} (hd : 1 ≤ d) (h : Par d i j) (h' : Par d i' j) : i = i' := by
  have hj : 1 ≤ j := by have := h.1; omega
  rw [par_iff hd hj] at h h'; omega
/-- The heap order from number c on. -/
def HP (d o n c : Nat) (zs : List Int) : Prop := ∀ i j, Par d i j → j < n → c ≤ i → zs.getD (o + j) 0 ≤ zs.getD (o + i) 0

theorem bestJ_max (zs : List Int) (o f : Nat) : ∀ k j, f ≤ j → j ≤ f + k → zs.getD (o + j) 0 ≤ zs.getD (o + bestJ zs o f k) 0
  | 0, j, h1, h2 => by
    have : j = f := by omega
    subst this; simp [bestJ]
  | k + 1, j, h1, h2 => by
    unfold bestJ
    split
    · rename_i hlt
      by_cases e : j = f + 1 + k
      · subst e; omega
      · have := bestJ_max zs o f k j h1 (by omega); omega
    · rename_i hlt
      by_cases e : j = f + 1 + k
      · subst e; omega
      · exact bestJ_max zs o f k j h1 (by omega)
theorem best_max {zs : List Int} {o d n i j : Nat} (h : Par d i j) (hj : j < n) : zs.getD (o + j) 0 ≤ zs.getD (o + best zs o d n i) 0 := by
  unfold best
  refine bestJ_max zs o (d * i + 1) (kids d n i) j h.1 ?_
  have := h.2
  unfold kids; omega
theorem best_par {zs : List Int} {o d n i : Nat} (hd : 2 ≤ d) (h : d * i + 1 < n) : Par d i (best zs o d n i) := by
  have := bestJ_bd zs o (d * i + 1) (kids d n i)
  unfold best Par
  unfold kids at *; omega

theorem siftF_ps (d o n : Nat) (hd : 2 ≤ d) : ∀ (f i : Nat) (zs : List Int), o + n ≤ zs.length → PS o n zs (siftF d o n f i zs).1
  | 0, i, zs, hl => PS.refl _ _ _
  | f + 1, i, zs, hl => by
    by_cases h : d * i + 1 < n
    · by_cases h2 : zs.getD (o + best zs o d n i) 0 ≤ zs.getD (o + i) 0
      · rw [siftF_stay h h2]; exact PS.refl _ _ _
      · rw [siftF_go h h2]
        have hb := best_bd (zs := zs) (o := o) h hd
        exact (PS.swp hl (by omega) (by omega)).trans (siftF_ps d o n hd f _ _ (by rw [swp_len]; exact hl))
    · rw [siftF_out h]; exact PS.refl _ _ _
theorem siftF_hp (d o n c : Nat) (hd : 2 ≤ d) : ∀ (f i : Nat) (zs : List Int), o + n ≤ zs.length → c ≤ i → n ≤ i + f →
    (∀ p j, Par d p j → j < n → c ≤ p → p ≠ i → zs.getD (o + j) 0 ≤ zs.getD (o + p) 0) → (∀ p j, Par d i j → j < n → Par d p i → c ≤ p → zs.getD (o + j) 0 ≤ zs.getD (o + p) 0) →
    HP d o n c (siftF d o n f i zs).1
  | 0, i, zs, hl, hc, hf, a, b => fun p j hp hj hcp => by
    have := par_lt (by omega) hp
    exact a p j hp hj hcp (by omega)
  | f + 1, i, zs, hl, hc, hf, a, b => by
    by_cases h : d * i + 1 < n
    · have hbb := best_bd (zs := zs) (o := o) h hd
      have hbp := best_par (zs := zs) (o := o) hd h
      have hmx : ∀ j, Par d i j → j < n → zs.getD (o + j) 0 ≤ zs.getD (o + best zs o d n i) 0 := fun j hp hj => best_max hp hj
      by_cases h2 : zs.getD (o + best zs o d n i) 0 ≤ zs.getD (o + i) 0
      · rw [siftF_stay h h2]
        intro p j hp hj hcp
        by_cases e : p = i
        · subst e; have := hmx j hp hj; simp only; omega
        · exact a p j hp hj hcp e
      · rw [siftF_go h h2]
        obtain ⟨w, hw⟩ : ∃ w, w = best zs o d n i := ⟨_, rfl⟩
        rw [← hw] at hbb hbp hmx h2 ⊢
        have hsw : ∀ q, (swp zs (o + i) (o + w)).getD (o + q) 0 = if q = w then zs.getD (o + i) 0 else if q = i then zs.getD (o + w) 0 else zs.getD (o + q) 0 := fun q => by
          rw [swp_get _ _ (by omega) (by omega)]
          by_cases e1 : q = w
          · rw [if_pos (by omega), if_pos e1]
          · rw [if_neg (by omega), if_neg e1]
            by_cases e2 : q = i
            · rw [if_pos (by omega), if_pos e2]
            · rw [if_neg (by omega), if_neg e2]
        refine siftF_hp d o n c hd f w (swp zs (o + i) (o + w)) (by rw [swp_len]; exact hl) (by omega) (by omega) (fun p j hp hj hcp hpw => ?_) (fun p j hwj hj hpw hcp => ?_)
        · have hlt := par_lt (by omega) hp
          rw [hsw, hsw, if_neg hpw]
          by_cases e1 : p = i
          · subst e1
            rw [if_pos rfl]
            by_cases e2 : j = w
            · rw [if_pos e2]; omega
            · rw [if_neg e2, if_neg (by omega)]; exact hmx j hp hj
          · rw [if_neg e1]
            have e2 : ¬ j = w := fun e => e1 (par_inj (by omega) (e ▸ hp) hbp)
            rw [if_neg e2]
            by_cases e3 : j = i
            · subst e3; rw [if_pos rfl]; exact b p w hbp (by omega) hp hcp
            · rw [if_neg e3]; exact a p j hp hj hcp e1
        · have e1 : p = i := par_inj (by omega) hpw hbp
          subst e1
          have hlt := par_lt (by omega) hwj
          rw [hsw, hsw, if_neg (by omega), if_neg (by omega), if_neg (by omega), if_pos rfl]
          exact a w j hwj hj (by omega) (by omega)
    · rw [siftF_out h]
      intro p j hp hj hcp
      by_cases e : p = i
      · subst e; have := hp.1; omega
      · exact a p j hp hj hcp e

theorem buildF_ok (d o n : Nat) (hd : 2 ≤ d) : ∀ (c : Nat) (st : List Int × Nat), o + n ≤ st.1.length → HP d o n c st.1 → PS o n st.1 (buildF d o n c st).1 ∧ HP d o n 0 (buildF d o n c st).1
  | 0, st, hl, h => ⟨PS.refl _ _ _, h⟩
  | c + 1, st, hl, h => by
    rw [buildF]
    have hp := siftF_ps d o n hd n c st.1 hl
    have hh : HP d o n c (siftF d o n n c st.1).1 := siftF_hp d o n c hd n c st.1 hl (Nat.le_refl _) (by omega) (fun p j h1 h2 h3 h4 => h p j h1 h2 (by omega)) (fun p j h1 h2 h3 h4 => by have := par_lt (by omega) h3; omega)
    have ih := buildF_ok d o n hd c ((siftF d o n n c st.1).1, st.2 + (siftF d o n n c st.1).2) (by simp only; rw [siftF_len]; exact hl) hh
    exact ⟨hp.trans ih.1, ih.2⟩
theorem heapF_ok {d o n : Nat} {zs : List Int} (hd : 2 ≤ d) (hl : o + n ≤ zs.length) : PS o n zs (heapF d o n zs).1 ∧ HP d o n 0 (heapF d o n zs).1 :=
  buildF_ok d o n hd n (zs, 0) hl (fun i j h1 h2 h3 => by have := par_lt (by omega) h1; omega)
theorem hp_top {d o n : Nat} {zs : List Int} (hd : 2 ≤ d) (h : HP d o n 0 zs) : ∀ j, j < n → zs.getD (o + j) 0 ≤ zs.getD (o + 0) 0 := by
  intro j
  induction j using Nat.strongRecOn with
  | _ j ih =>
    intro hj
    cases j with
    | zero => omega
    | succ j =>
      have hp : Par d (j / d) (j + 1) := (par_iff (by omega) (by omega)).mpr (by simp)
      have h1 := par_lt (by omega) hp
      have h2 := h _ _ hp hj (Nat.zero_le _)
      have h3 := ih _ h1 (by omega)
      omega
theorem hsF_ok (d o N : Nat) (hd : 2 ≤ d) : ∀ (m : Nat) (st : List Int × Nat), o + N ≤ st.1.length → m ≤ N → HP d o m 0 st.1 →
    (∀ i j, i < j → j < N → m ≤ j → st.1.getD (o + i) 0 ≤ st.1.getD (o + j) 0) → PS o N st.1 (hsF d o m st).1 ∧ SSeg o N (hsF d o m st).1
  | 0, st, hl, hm, hh, hs => ⟨PS.refl _ _ _, fun i j hij hj => hs i j hij hj (by omega)⟩
  | 1, st, hl, hm, hh, hs => ⟨PS.refl _ _ _, fun i j hij hj => hs i j hij hj (by omega)⟩
  | m + 2, st, hl, hm, hh, hs => by
    obtain ⟨zs, k⟩ := st
    simp only at hl hh hs
    rw [hsF]
    simp only
    have htop := hp_top hd hh
    have hsw : ∀ q, (swp zs o (o + (m + 1))).getD (o + q) 0 = if q = m + 1 then zs.getD (o + 0) 0 else if q = 0 then zs.getD (o + (m + 1)) 0 else zs.getD (o + q) 0 := fun q => by
      have := swp_get zs (a := o + 0) (b := o + (m + 1)) (o + q) (by omega) (by omega)
      rw [Nat.add_zero] at this
      rw [this]
      by_cases e1 : q = m + 1
      · rw [if_pos (by omega), if_pos e1]; rfl
      · rw [if_neg (by omega), if_neg e1]
        by_cases e2 : q = 0
        · rw [if_pos (by omega), if_pos e2]
        · rw [if_neg (by omega), if_neg e2]
    have hps0 : PS o N zs (swp zs o (o + (m + 1))) := by
      have := PS.swp (zs := zs) (o := o) (n := N) (i := 0) (k := m + 1) hl (by omega) (by omega)
      rwa [Nat.add_zero] at this
    have hl2 : o + (m + 1) ≤ (swp zs o (o + (m + 1))).length := by rw [swp_len]; omega
    have hps1 := siftF_ps d o (m + 1) hd (m + 1) 0 (swp zs o (o + (m + 1))) hl2
    have hhp := siftF_hp d o (m + 1) 0 hd (m + 1) 0 (swp zs o (o + (m + 1))) hl2 (Nat.le_refl _) (by omega)
      (fun p j h1 h2 h3 h4 => by
        have hlt := par_lt (by omega) h1
        rw [hsw, hsw, if_neg (by omega), if_neg (by omega), if_neg (by omega), if_neg (by omega)]
        exact hh p j h1 (by omega) (Nat.zero_le _))
      (fun p j h1 h2 h3 h4 => by have := par_lt (by omega) h3; omega)
    obtain ⟨ys, hys⟩ : ∃ ys, ys = (siftF d o (m + 1) (m + 1) 0 (swp zs o (o + (m + 1)))).1 := ⟨_, rfl⟩
    rw [← hys] at hps1 hhp ⊢
    have hout : ∀ q, m + 1 ≤ q → q < N → ys.getD (o + q) 0 = if q = m + 1 then zs.getD (o + 0) 0 else zs.getD (o + q) 0 := fun q h1 h2 => by
      rw [hps1.out _ (by omega), hsw]
      by_cases e : q = m + 1
      · rw [if_pos e, if_pos e]
      · rw [if_neg e, if_neg e, if_neg (by omega)]
    have hlow : ∀ v : Int, (∀ q, q < m + 2 → zs.getD (o + q) 0 ≤ v) → ∀ q, q < m + 1 → ys.getD (o + q) 0 ≤ v := fun v hv q hq => by
      refine hps1.all (p := fun y => y ≤ v) (fun i hi => ?_) q hq
      rw [hsw, if_neg (by omega)]
      split
      · exact hv _ (by omega)
      · exact hv _ (by omega)
    have ih := hsF_ok d o N hd (m + 1) (ys, k + (1 + (siftF d o (m + 1) (m + 1) 0 (swp zs o (o + (m + 1)))).2)) (by simp only; rw [hps1.len, swp_len]; exact hl) (by omega) hhp
      (fun i j hij hj hmj => by
        simp only
        rw [hout j hmj hj]
        by_cases hi : i < m + 1
        · refine hlow _ (fun q hq => ?_) i hi
          split
          · exact htop q hq
          · exact hs q j (by omega) hj (by omega)
        · rw [hout i (by omega) (by omega), if_neg (show ¬ j = m + 1 by omega)]
          split
          · exact hs 0 j (by omega) hj (by omega)
          · exact hs i j hij hj (by omega))
    exact ⟨hps0.trans ((hps1.up (Nat.le_refl _) (by omega)).trans ih.1), ih.2⟩
/-- Heap sort sorts. -/
theorem hsort_ok {d o n : Nat} {zs : List Int} (hd : 2 ≤ d) (hl : o + n ≤ zs.length) : PS o n zs (hsortF d o n zs).1 ∧ SSeg o n (hsortF d o n zs).1 := by
  have h1 := heapF_ok (zs := zs) hd hl
  have h2 := hsF_ok d o n hd n (heapF d o n zs) (by rw [heapF_len]; exact hl) (Nat.le_refl _) h1.2 (fun i j hij hj hm => by omega)
  exact ⟨h1.1.trans h2.1, h2.2⟩
end Go.Proofs.Ytajohkbhiafnmaa
