/- Plain facts on distances of permutations: a metric, and the footrule between it and twice its value; no program in sight. -/
import Derived.Test.YtpoappgfmjnioaaPlWm
import Derived.Test.YtpoappgfmjnioaaPlPerm
set_option linter.unusedSimpArgs false
set_option linter.unusedVariables false
set_option linter.unusedSectionVars false
namespace Go.Proofs.Ytpoappgfmjnioaa
open Go Go.Ax

/-! ### Sums -/
theorem sumR_one {n x : Nat} (c : Int) (h : x < n) : sumR (fun i => if i = x then c else 0) n = c := by
  induction n with
  | zero => omega
  | succ n ih =>
    rw [sumR]
    by_cases e : n = x
    · subst e
      rw [if_pos rfl]
      have : sumR (fun i => if i = n then c else 0) n = sumR (fun _ => 0) n := sumR_congr n (fun i hi => by rw [if_neg (by omega)])
      rw [this]
      have h0 : ∀ m, sumR (fun _ => (0 : Int)) m = 0 := fun m => by
        induction m with
        | zero => rfl
        | succ m ih2 => rw [sumR, ih2]; rfl
      rw [h0]; omega
    · rw [if_neg e, ih (by omega)]; omega
theorem sumR_sub (f h : Nat → Int) : ∀ n, sumR (fun i => f i - h i) n = sumR f n - sumR h n
  | 0 => rfl
  | n + 1 => by simp only [sumR, sumR_sub f h n]; omega
theorem sumR_pm {ps : List Int} {n : Nat} (h : ps.Perm (idL n)) (g : Int → Int) : sumR (fun i => g (ps.getD i 0)) n = sumR (fun k => g (k : Int)) n := by
  have hl : ps.length = n := by rw [h.length_eq, idL_len]
  rw [sumR_list, sumR_map g ps n (by omega), List.take_of_length_le (by omega)]
  exact sum_perm (h.map g)
theorem sumR_lt : ∀ (n : Nat) (v : Int), 0 ≤ v → sumR (fun k => if (k : Int) < v then 1 else 0) n = if (n : Int) ≤ v then (n : Int) else v
  | 0, v, h => by simp only [sumR]; split <;> omega
  | n + 1, v, h => by
    rw [sumR, sumR_lt n v h]
    split <;> split <;> split <;> omega
theorem cnt_lt {ps : List Int} {n : Nat} (h : ps.Perm (idL n)) {v : Int} (h0 : 0 ≤ v) (h1 : v ≤ n) : sumR (fun i => if ps.getD i 0 < v then 1 else 0) n = v := by
  have := sumR_pm h (fun x => if x < v then 1 else 0)
  rw [this, sumR_lt n v h0]
  split <;> omega
theorem cnt_in {ps : List Int} {n : Nat} (h : ps.Perm (idL n)) {a b : Int} (h0 : -1 ≤ a) (h1 : a ≤ b) (h2 : b < n) : sumR (fun i => if a < ps.getD i 0 ∧ ps.getD i 0 ≤ b then 1 else 0) n = b - a := by
  have e : sumR (fun i => if a < ps.getD i 0 ∧ ps.getD i 0 ≤ b then (1 : Int) else 0) n = sumR (fun i => (if ps.getD i 0 < b + 1 then 1 else 0) - (if ps.getD i 0 < a + 1 then 1 else 0)) n :=
    sumR_congr n (fun i _ => by split <;> split <;> split <;> omega)
  rw [e, sumR_sub, cnt_lt h (by omega) (by omega), cnt_lt h (by omega) (by omega)]; omega
/-- The sum over all pairs. -/
def sq (G : Nat → Nat → Int) (n : Nat) : Int := sumR (fun i => sumR (fun k => G i k) n) n
theorem sq_tri {G : Nat → Nat → Int} (hs : ∀ i k, G i k = G k i) (hd : ∀ i, G i i = 0) : ∀ n, sq G n = 2 * sumR (fun i => sumR (fun k => G i k) i) n
  | 0 => rfl
  | n + 1 => by
    have e1 : sq G (n + 1) = sumR (fun i => sumR (fun k => G i k) n + G i n) n + (sumR (fun k => G n k) n + G n n) := by
      unfold sq; rfl
    have e2 : sumR (fun i => G i n) n = sumR (fun k => G n k) n := sumR_congr n (fun i _ => hs i n)
    rw [e1, sumR_add, e2, hd, sumR]
    have := sq_tri hs hd n
    unfold sq at this
    omega
theorem sq_mono {G G' : Nat → Nat → Int} {n : Nat} (h : ∀ i k, i < n → k < n → G i k ≤ G' i k) : sq G n ≤ sq G' n :=
  sumR_mono n (fun i hi => sumR_mono n (fun k hk => h i k hi hk))
theorem sq_add (G G' : Nat → Nat → Int) (n : Nat) : sq (fun i k => G i k + G' i k) n = sq G n + sq G' n := by
  unfold sq
  rw [← sumR_add]
  exact sumR_congr n (fun i _ => sumR_add _ _ n)

/-! ### The distance -/
def dI (ps qs : List Int) (i k : Nat) : Int := ((dif ps qs i k).toNat : Int)
theorem kend_dI (ps qs : List Int) : kend ps qs = sumR (fun i => sumR (fun k => dI ps qs i k) i) ps.length := by
  unfold kend triL
  refine sumR_congr _ (fun i _ => ?_)
  rw [cntR_sum]
  exact sumR_congr _ (fun k _ => by rw [Nat.zero_add]; rfl)
theorem dI_comm (ps qs : List Int) (i k : Nat) : dI ps qs i k = dI qs ps i k := by
  unfold dI dif
  cases decide (ps.getD i 0 < ps.getD k 0) <;> cases decide (qs.getD i 0 < qs.getD k 0) <;> rfl
theorem dI_tri (ps qs rs : List Int) (i k : Nat) : dI ps rs i k ≤ dI ps qs i k + dI qs rs i k := by
  unfold dI dif
  cases decide (ps.getD i 0 < ps.getD k 0) <;> cases decide (qs.getD i 0 < qs.getD k 0) <;> cases decide (rs.getD i 0 < rs.getD k 0) <;> decide
theorem dI_nn (ps qs : List Int) (i k : Nat) : 0 ≤ dI ps qs i k := Int.natCast_nonneg _
theorem kend_comm {ps qs : List Int} (h : ps.length = qs.length) : kend ps qs = kend qs ps := by
  rw [kend_dI, kend_dI, h]
  exact sumR_congr _ (fun i _ => sumR_congr _ (fun k _ => dI_comm ps qs i k))
theorem kend_tri {ps qs rs : List Int} (h : ps.length = qs.length) : kend ps rs ≤ kend ps qs + kend qs rs := by
  rw [kend_dI, kend_dI, kend_dI, ← h, ← sumR_add]
  refine sumR_mono _ (fun i _ => ?_)
  rw [← sumR_add]
  exact sumR_mono _ (fun k _ => dI_tri ps qs rs i k)
theorem kend_self (ps : List Int) : kend ps ps = 0 := by
  rw [kend_dI]
  have h0 : ∀ m, sumR (fun _ => (0 : Int)) m = 0 := fun m => by
    induction m with
    | zero => rfl
    | succ m ih2 => rw [sumR, ih2]; rfl
  rw [← h0 ps.length]
  refine sumR_congr _ (fun i _ => ?_)
  rw [← h0 i]
  exact sumR_congr _ (fun k _ => by unfold dI dif; simp)
theorem foot_self (ps : List Int) : foot ps ps = 0 := by
  have h0 : ∀ m, sumR (fun _ => (0 : Int)) m = 0 := fun m => by
    induction m with
    | zero => rfl
    | succ m ih2 => rw [sumR, ih2]; rfl
  unfold foot
  rw [← h0 ps.length]
  exact sumR_congr _ (fun i _ => by unfold footF; omega)

/-! ### Permutations -/
theorem pm_len {ps : List Int} {n : Nat} (h : ps.Perm (idL n)) : ps.length = n := by rw [h.length_eq, idL_len]
theorem pm_bd {ps : List Int} {n i : Nat} (h : ps.Perm (idL n)) (hi : i < n) : 0 ≤ ps.getD i 0 ∧ ps.getD i 0 < n :=
  idL_mem.mp (h.mem_iff.mp (memD 0 (by rw [pm_len h]; exact hi)))
theorem pm_ne {ps : List Int} {n i k : Nat} (h : ps.Perm (idL n)) (hi : i < n) (hk : k < n) (hik : i ≠ k) : ps.getD i 0 ≠ ps.getD k 0 := by
  have hnd : ps.Nodup := h.nodup_iff.mpr (by
    unfold List.Nodup
    exact (idL_pw n).imp (fun h => by omega))
  intro e
  have hl := pm_len h
  have key : ∀ a b, a < b → b < n → ps.getD a 0 ≠ ps.getD b 0 := fun a b hab hb => by
    have := List.pairwise_iff_getElem.mp hnd a b (by omega) (by omega) hab
    simpa [List.getD_eq_getElem?_getD, show a < ps.length by omega, show b < ps.length by omega] using this
  rcases Nat.lt_or_ge i k with h1 | h1
  · exact key i k h1 hk e
  · exact key k i (by omega) hi e.symm
/-- Zero where the indexes do not differ; symmetric. -/
def dJ (n : Nat) (ps qs : List Int) (i k : Nat) : Int := if i < n ∧ k < n ∧ i ≠ k then dI ps qs i k else 0
theorem dJ_sym {ps qs : List Int} {n : Nat} (hp : ps.Perm (idL n)) (hq : qs.Perm (idL n)) (i k : Nat) : dJ n ps qs i k = dJ n ps qs k i := by
  unfold dJ
  by_cases h : i < n ∧ k < n ∧ i ≠ k
  · rw [if_pos h, if_pos ⟨h.2.1, h.1, Ne.symm h.2.2⟩]
    unfold dI
    rw [dif_symm (pm_ne hp h.1 h.2.1 h.2.2) (pm_ne hq h.1 h.2.1 h.2.2)]
  · rw [if_neg h, if_neg (fun h2 => h ⟨h2.2.1, h2.1, Ne.symm h2.2.2⟩)]
theorem kend_sq {ps qs : List Int} {n : Nat} (hp : ps.Perm (idL n)) (hq : qs.Perm (idL n)) : 2 * kend ps qs = sq (dJ n ps qs) n := by
  rw [sq_tri (dJ_sym hp hq) (fun i => by unfold dJ; rw [if_neg (by omega)]), kend_dI, pm_len hp]
  congr 1
  exact sumR_congr _ (fun i hi => sumR_congr _ (fun k hk => by unfold dJ; rw [if_pos ⟨hi, by omega, by omega⟩]))
theorem foot_le {ps qs : List Int} {n : Nat} (hp : ps.Perm (idL n)) (hq : qs.Perm (idL n)) : foot ps qs ≤ 2 * kend ps qs := by
  rw [kend_sq hp hq]
  unfold foot sq
  rw [pm_len hp]
  refine sumR_mono n (fun i hi => ?_)
  have b1 := pm_bd hp hi
  have b2 := pm_bd hq hi
  have c1 := cnt_lt hp b1.1 (by omega)
  have c2 := cnt_lt hq b2.1 (by omega)
  have hpt : ∀ k, k < n → (if ps.getD k 0 < ps.getD i 0 then (1 : Int) else 0) - (if qs.getD k 0 < qs.getD i 0 then 1 else 0) ≤ dJ n ps qs i k ∧ (if qs.getD k 0 < qs.getD i 0 then (1 : Int) else 0) - (if ps.getD k 0 < ps.getD i 0 then 1 else 0) ≤ dJ n ps qs i k := fun k hk => by
    by_cases e : i = k
    · subst e
      unfold dJ
      rw [if_neg (by omega), if_neg (by omega), if_neg (by omega)]; omega
    · have hv : dJ n ps qs i k = dI ps qs k i := by
        rw [dJ_sym hp hq]
        unfold dJ
        rw [if_pos ⟨hk, hi, Ne.symm e⟩]
      rw [hv]
      by_cases h1 : ps.getD k 0 < ps.getD i 0
      · by_cases h2 : qs.getD k 0 < qs.getD i 0
        · have hz : dI ps qs k i = 0 := by unfold dI dif; rw [decide_eq_true h1, decide_eq_true h2]; rfl
          rw [hz, if_pos h1, if_pos h2]; omega
        · have hz : dI ps qs k i = 1 := by unfold dI dif; rw [decide_eq_true h1, decide_eq_false h2]; rfl
          rw [hz, if_pos h1, if_neg h2]; omega
      · by_cases h2 : qs.getD k 0 < qs.getD i 0
        · have hz : dI ps qs k i = 1 := by unfold dI dif; rw [decide_eq_false h1, decide_eq_true h2]; rfl
          rw [hz, if_neg h1, if_pos h2]; omega
        · have hz : dI ps qs k i = 0 := by unfold dI dif; rw [decide_eq_false h1, decide_eq_false h2]; rfl
          rw [hz, if_neg h1, if_neg h2]; omega
  have s1 := sumR_mono n (fun k hk => (hpt k hk).1)
  have s2 := sumR_mono n (fun k hk => (hpt k hk).2)
  rw [sumR_sub, c1, c2] at s1
  rw [sumR_sub, c2, c1] at s2
  show footF ps qs i ≤ sumR (dJ n ps qs i) n
  unfold footF
  omega

/-! ### An exchange -/
theorem kend_swap {qs : List Int} {n x y : Nat} (hq : qs.Perm (idL n)) (hx : x < n) (hy : y < n) (hlt : qs.getD x 0 < qs.getD y 0) : kend (swp qs x y) qs ≤ 2 * (qs.getD y 0 - qs.getD x 0) := by
  have hl := pm_len hq
  have hne : x ≠ y := fun e => by subst e; omega
  have hq' : (swp qs x y).Perm (idL n) := (swp_perm (by omega) (by omega)).trans hq
  have g := fun q => swp_get qs (a := x) (b := y) q (by omega) (by omega)
  have bx := pm_bd hq hx
  have by' := pm_bd hq hy
  obtain ⟨a, ha⟩ : ∃ a, a = qs.getD x 0 := ⟨_, rfl⟩
  obtain ⟨b, hb⟩ : ∃ b, b = qs.getD y 0 := ⟨_, rfl⟩
  rw [← ha] at bx
  rw [← hb] at by'
  rw [← ha, ← hb] at hlt ⊢
  have c1 := cnt_in hq (a := a) (b := b) (by omega) (by omega) (by omega)
  have c2 := cnt_in hq (a := a - 1) (b := b - 1) (by omega) (by omega) (by omega)
  have hpt : ∀ i k, i < n → k < n → dJ n (swp qs x y) qs i k ≤ ((if i = x then (if a < qs.getD k 0 ∧ qs.getD k 0 ≤ b then (1 : Int) else 0) else 0) + (if i = y then (if a - 1 < qs.getD k 0 ∧ qs.getD k 0 ≤ b - 1 then (1 : Int) else 0) else 0)) +
      ((if k = x then (if a < qs.getD i 0 ∧ qs.getD i 0 ≤ b then (1 : Int) else 0) else 0) + (if k = y then (if a - 1 < qs.getD i 0 ∧ qs.getD i 0 ≤ b - 1 then (1 : Int) else 0) else 0)) := fun i k hi hk => by
    unfold dJ
    by_cases e : i < n ∧ k < n ∧ i ≠ k
    · rw [if_pos e]
      have hik := pm_ne hq hi hk e.2.2
      have hkx : k ≠ x → qs.getD k 0 ≠ a := fun h => by rw [ha]; exact pm_ne hq hk hx h
      have hky : k ≠ y → qs.getD k 0 ≠ b := fun h => by rw [hb]; exact pm_ne hq hk hy h
      have hix : i ≠ x → qs.getD i 0 ≠ a := fun h => by rw [ha]; exact pm_ne hq hi hx h
      have hiy : i ≠ y → qs.getD i 0 ≠ b := fun h => by rw [hb]; exact pm_ne hq hi hy h
      have gi := g i
      have gk := g k
      rw [← ha, ← hb] at gi gk
      have hd : dI (swp qs x y) qs i k = 0 ∨ dI (swp qs x y) qs i k = 1 := by unfold dI; cases dif (swp qs x y) qs i k <;> simp
      have h0 : (decide ((swp qs x y).getD i 0 < (swp qs x y).getD k 0) = decide (qs.getD i 0 < qs.getD k 0)) → dI (swp qs x y) qs i k = 0 := fun h => by unfold dI dif; rw [h]; simp
      have same : ((swp qs x y).getD i 0 < (swp qs x y).getD k 0 ↔ qs.getD i 0 < qs.getD k 0) → dI (swp qs x y) qs i k = 0 := fun h => h0 (decide_eq_decide.mpr h)
      by_cases i1 : i = x
      · have qi : qs.getD i 0 = a := by rw [i1, ha]
        rw [if_neg (show i ≠ y by omega), if_pos i1] at gi
        rw [if_pos i1, if_neg (show i ≠ y by omega), if_neg (show k ≠ x by omega)]
        by_cases k1 : k = y
        · have qk : qs.getD k 0 = b := by rw [k1, hb]
          rw [if_pos (show a < qs.getD k 0 ∧ qs.getD k 0 ≤ b by omega)]
          split <;> (try split) <;> omega
        · rw [if_neg k1, if_neg (show k ≠ x by omega)] at gk
          rw [if_neg k1]
          by_cases hb1 : a < qs.getD k 0 ∧ qs.getD k 0 ≤ b
          · rw [if_pos hb1]; omega
          · rw [if_neg hb1]
            have := same (by rw [gi, gk, qi]; have := hky k1; have := hkx (by omega); omega)
            omega
      · by_cases i2 : i = y
        · have qi : qs.getD i 0 = b := by rw [i2, hb]
          rw [if_pos i2] at gi
          rw [if_neg i1, if_pos i2, if_neg (show k ≠ y by omega)]
          by_cases k1 : k = x
          · have qk : qs.getD k 0 = a := by rw [k1, ha]
            rw [if_pos (show a - 1 < qs.getD k 0 ∧ qs.getD k 0 ≤ b - 1 by omega)]
            split <;> (try split) <;> omega
          · rw [if_neg (show k ≠ y by omega), if_neg k1] at gk
            rw [if_neg k1]
            by_cases hb1 : a - 1 < qs.getD k 0 ∧ qs.getD k 0 ≤ b - 1
            · rw [if_pos hb1]; omega
            · rw [if_neg hb1]
              have := same (by rw [gi, gk, qi]; have := hky (show k ≠ y by omega); have := hkx k1; omega)
              omega
        · rw [if_neg i2, if_neg i1] at gi
          rw [if_neg i1, if_neg i2]
          by_cases k1 : k = x
          · have qk : qs.getD k 0 = a := by rw [k1, ha]
            rw [if_neg (show k ≠ y by omega), if_pos k1] at gk
            rw [if_pos k1, if_neg (show k ≠ y by omega)]
            by_cases hb1 : a < qs.getD i 0 ∧ qs.getD i 0 ≤ b
            · rw [if_pos hb1]; omega
            · rw [if_neg hb1]
              have := same (by rw [gi, gk, qk]; have := hiy i2; have := hix i1; omega)
              omega
          · by_cases k2 : k = y
            · have qk : qs.getD k 0 = b := by rw [k2, hb]
              rw [if_pos k2] at gk
              rw [if_neg k1, if_pos k2]
              by_cases hb1 : a - 1 < qs.getD i 0 ∧ qs.getD i 0 ≤ b - 1
              · rw [if_pos hb1]; omega
              · rw [if_neg hb1]
                have := same (by rw [gi, gk, qk]; have := hiy i2; have := hix i1; omega)
                omega
            · rw [if_neg k2, if_neg k1] at gk
              rw [if_neg k1, if_neg k2]
              have := same (by rw [gi, gk])
              omega
    · rw [if_neg e]
      have nn : ∀ (p : Prop) [Decidable p] (c : Int), 0 ≤ c → 0 ≤ (if p then c else 0) := fun p _ c hc => by split <;> omega
      have n1 : ∀ (p : Prop) [Decidable p], 0 ≤ (if p then (1 : Int) else 0) := fun p _ => nn p 1 (by omega)
      have := nn (i = x) _ (n1 (a < qs.getD k 0 ∧ qs.getD k 0 ≤ b))
      have := nn (i = y) _ (n1 (a - 1 < qs.getD k 0 ∧ qs.getD k 0 ≤ b - 1))
      have := nn (k = x) _ (n1 (a < qs.getD i 0 ∧ qs.getD i 0 ≤ b))
      have := nn (k = y) _ (n1 (a - 1 < qs.getD i 0 ∧ qs.getD i 0 ≤ b - 1))
      omega
  have hs := sq_mono hpt
  rw [← kend_sq hq' hq, sq_add, sq_add, sq_add] at hs
  have r1 : ∀ (h : Nat → Int) (z : Nat), z < n → sq (fun i k => if i = z then h k else 0) n = sumR h n := fun h z hz => by
    unfold sq
    have : sumR (fun i => sumR (fun k => if i = z then h k else 0) n) n = sumR (fun i => if i = z then sumR h n else 0) n := sumR_congr n (fun i _ => by
      by_cases e : i = z
      · rw [if_pos e]; exact sumR_congr n (fun k _ => by rw [if_pos e])
      · rw [if_neg e]
        have h0 : ∀ m, sumR (fun _ => (0 : Int)) m = 0 := fun m => by
          induction m with
          | zero => rfl
          | succ m ih2 => rw [sumR, ih2]; rfl
        exact (sumR_congr n (fun k _ => by rw [if_neg e])).trans (h0 n))
    rw [this, sumR_one _ hz]
  have r2 : ∀ (h : Nat → Int) (z : Nat), z < n → sq (fun i k => if k = z then h i else 0) n = sumR h n := fun h z hz => by
    unfold sq
    exact sumR_congr n (fun i _ => sumR_one _ hz)
  rw [r1 _ x hx, r1 _ y hy, r2 _ x hx, r2 _ y hy, c1, c2] at hs
  omega
theorem foot_swap {ps qs : List Int} {n x y : Nat} (hp : ps.Perm (idL n)) (hq : qs.Perm (idL n)) (hx : x < n) (hy : y < n) (hlt : qs.getD x 0 < qs.getD y 0) (h1 : qs.getD y 0 ≤ ps.getD x 0) (h2 : ps.getD y 0 ≤ qs.getD x 0) :
    foot ps qs = foot ps (swp qs x y) + 2 * (qs.getD y 0 - qs.getD x 0) := by
  have hl := pm_len hq
  have hne : x ≠ y := fun e => by subst e; omega
  have g := fun q => swp_get qs (a := x) (b := y) q (by omega) (by omega)
  unfold foot
  rw [pm_len hp]
  have e : sumR (footF ps qs) n = sumR (fun i => footF ps (swp qs x y) i + ((if i = x then qs.getD y 0 - qs.getD x 0 else 0) + (if i = y then qs.getD y 0 - qs.getD x 0 else 0))) n := sumR_congr n (fun i hi => by
    have gi := g i
    unfold footF
    by_cases i1 : i = x
    · subst i1
      rw [if_neg hne, if_pos rfl] at gi
      rw [if_pos rfl, if_neg hne, gi]; omega
    · by_cases i2 : i = y
      · subst i2
        rw [if_pos rfl] at gi
        rw [if_neg i1, if_pos rfl, gi]; omega
      · rw [if_neg i2, if_neg i1] at gi
        rw [if_neg i1, if_neg i2, gi]; omega)
  rw [e, sumR_add, sumR_add, sumR_one _ hx, sumR_one _ hy]; omega
theorem max_ex {P : Nat → Prop} [DecidablePred P] {f : Nat → Int} : ∀ n, (∃ i, i < n ∧ P i) → ∃ x, x < n ∧ P x ∧ ∀ y, y < n → P y → f y ≤ f x
  | 0, ⟨i, h, _⟩ => by omega
  | n + 1, ⟨i, h, hp⟩ => by
    by_cases hex : ∃ i, i < n ∧ P i
    · obtain ⟨x, h1, h2, h3⟩ := max_ex (f := f) n hex
      by_cases hn : P n ∧ f x < f n
      · refine ⟨n, by omega, hn.1, fun y hy hpy => ?_⟩
        by_cases e : y = n
        · subst e; exact Int.le_refl _
        · have := h3 y (by omega) hpy; have := hn.2; omega
      · refine ⟨x, by omega, h2, fun y hy hpy => ?_⟩
        by_cases e : y = n
        · subst e
          by_cases h4 : f x < f y
          · exact absurd ⟨hpy, h4⟩ hn
          · omega
        · exact h3 y (by omega) hpy
    · have hin : i = n := by
        by_cases e : i = n
        · exact e
        · exact absurd ⟨i, by omega, hp⟩ hex
      subst hin
      refine ⟨i, by omega, hp, fun y hy hpy => ?_⟩
      by_cases e : y = i
      · subst e; exact Int.le_refl _
      · exact absurd ⟨y, by omega, hpy⟩ hex
theorem sumR_eq_of_le {f g : Nat → Int} : ∀ n, (∀ k, k < n → f k ≤ g k) → sumR f n = sumR g n → ∀ k, k < n → f k = g k
  | 0, _, _, k, hk => by omega
  | n + 1, h, he, k, hk => by
    have h1 := sumR_mono n (fun k hk => h k (by omega))
    have h2 := h n (by omega)
    rw [sumR, sumR] at he
    by_cases e : k = n
    · subst e; omega
    · exact sumR_eq_of_le n (fun k hk => h k (by omega)) (by omega) k (by omega)
theorem pm_eq_of {ps qs : List Int} {n : Nat} (hp : ps.Perm (idL n)) (hq : qs.Perm (idL n)) (h : ∀ i, i < n → ps.getD i 0 ≤ qs.getD i 0) : ps = qs := by
  have e : sumR (fun i => ps.getD i 0) n = sumR (fun i => qs.getD i 0) n := by
    rw [sumR_pm hp (fun x => x), sumR_pm hq (fun x => x)]
  apply extD 0 (by rw [pm_len hp, pm_len hq])
  intro i hi
  rw [pm_len hp] at hi
  exact sumR_eq_of_le n h e i hi
theorem foot_nn (ps qs : List Int) : 0 ≤ foot ps qs := sumR_nonneg _ (fun k _ => by unfold footF; omega)
theorem swap_ex {ps qs : List Int} {n : Nat} (hp : ps.Perm (idL n)) (hq : qs.Perm (idL n)) (hne : ps ≠ qs) : ∃ x y, x < n ∧ y < n ∧ qs.getD x 0 < qs.getD y 0 ∧ qs.getD y 0 ≤ ps.getD x 0 ∧ ps.getD y 0 ≤ qs.getD x 0 := by
  have hex : ∃ i, i < n ∧ qs.getD i 0 < ps.getD i 0 := by
    by_cases h : ∃ i, i < n ∧ qs.getD i 0 < ps.getD i 0
    · exact h
    · exact absurd (pm_eq_of hp hq (fun i hi => by
        rcases Int.lt_or_le (qs.getD i 0) (ps.getD i 0) with h1 | h1
        · exact absurd ⟨i, hi, h1⟩ h
        · exact h1)) hne
  obtain ⟨x, hx, h1, h2⟩ := max_ex (P := fun i => qs.getD i 0 < ps.getD i 0) (f := fun i => qs.getD i 0) n hex
  by_cases h : ∃ y, y < n ∧ (qs.getD x 0 < qs.getD y 0 ∧ qs.getD y 0 ≤ ps.getD x 0) ∧ ps.getD y 0 ≤ qs.getD x 0
  · obtain ⟨y, a1, a2, a3⟩ := h
    exact ⟨x, y, hx, a1, a2.1, a2.2, a3⟩
  · exfalso
    have bq := pm_bd hq hx
    have bp := pm_bd hp hx
    have c1 := cnt_in hq (a := qs.getD x 0) (b := ps.getD x 0) (by omega) (by omega) (by omega)
    have c2 := cnt_in hp (a := qs.getD x 0) (b := ps.getD x 0 - 1) (by omega) (by omega) (by omega)
    have hm := sumR_mono (f := fun i => if qs.getD x 0 < qs.getD i 0 ∧ qs.getD i 0 ≤ ps.getD x 0 then (1 : Int) else 0) (g := fun i => if qs.getD x 0 < ps.getD i 0 ∧ ps.getD i 0 ≤ ps.getD x 0 - 1 then (1 : Int) else 0) n (fun y hy => by
      by_cases e : qs.getD x 0 < qs.getD y 0 ∧ qs.getD y 0 ≤ ps.getD x 0
      · have e1 : ¬ ps.getD y 0 ≤ qs.getD x 0 := fun h3 => h ⟨y, hy, e, h3⟩
        have e2 : ps.getD y 0 ≤ qs.getD y 0 := by
          rcases Int.lt_or_le (qs.getD y 0) (ps.getD y 0) with h3 | h3
          · have := h2 y hy h3; omega
          · exact h3
        have e3 : ps.getD y 0 ≠ ps.getD x 0 := pm_ne hp hy hx (fun h4 => by subst h4; omega)
        rw [if_pos e, if_pos ⟨by omega, by omega⟩]; omega
      · rw [if_neg e]
        split <;> omega)
    rw [c1, c2] at hm
    omega
theorem kend_le : ∀ (N : Nat) {ps qs : List Int} {n : Nat}, ps.Perm (idL n) → qs.Perm (idL n) → foot ps qs ≤ N → kend ps qs ≤ foot ps qs := by
  intro N
  induction N using Nat.strongRecOn with
  | ind N ih =>
    intro ps qs n hp hq hN
    by_cases hne : ps = qs
    · subst hne
      rw [kend_self, foot_self]; omega
    · obtain ⟨x, y, hx, hy, hlt, h1, h2⟩ := swap_ex hp hq hne
      have hl := pm_len hq
      have hq' : (swp qs x y).Perm (idL n) := (swp_perm (by omega) (by omega)).trans hq
      have hf := foot_swap hp hq hx hy hlt h1 h2
      have hk := kend_swap hq hx hy hlt
      have ht := kend_tri (ps := ps) (qs := swp qs x y) (rs := qs) (by rw [pm_len hp, pm_len hq'])
      have hnn := foot_nn ps (swp qs x y)
      have := ih (N - 1) (by omega) hp hq' (by omega)
      omega
theorem kend_zero {ps qs : List Int} {n : Nat} (hp : ps.Perm (idL n)) (hq : qs.Perm (idL n)) : kend ps qs = 0 ↔ ps = qs := by
  constructor
  · intro h
    have h1 := foot_le hp hq
    have h2 := foot_nn ps qs
    have h3 : foot ps qs = 0 := by omega
    apply extD 0 (by rw [pm_len hp, pm_len hq])
    intro i hi
    have h0 : ∀ m, sumR (fun _ => (0 : Int)) m = 0 := fun m => by
      induction m with
      | zero => rfl
      | succ m ih2 => rw [sumR, ih2]; rfl
    have := sumR_eq_of_le (f := fun _ => 0) (g := footF ps qs) ps.length (fun k _ => by unfold footF; omega) (by rw [h0]; exact h3.symm) i hi
    unfold footF at this
    omega
  · rintro rfl
    exact kend_self ps
end Go.Proofs.Ytpoappgfmjnioaa
