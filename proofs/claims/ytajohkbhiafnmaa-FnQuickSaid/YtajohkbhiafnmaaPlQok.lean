/- Plain facts: quicksort up to a depth sorts. -/
import Derived.Test.YtajohkbhiafnmaaPlHs
import Derived.Test.YtajohkbhiafnmaaPlSort
set_option linter.unusedSimpArgs false
set_option linter.unusedVariables false
set_option linter.unusedSectionVars false
namespace Go.Proofs.Ytajohkbhiafnmaa
open Go Go.Ax

theorem SSeg_three {o n lt gt : Nat} {x : Int} {w : List Int} (h1 : lt ≤ gt) (h2 : gt ≤ n) (a : SSeg o lt w) (b : ∀ q, q < lt → w.getD (o + q) 0 ≤ x) (c : ∀ q, lt ≤ q → q < gt → w.getD (o + q) 0 = x) (d : ∀ q, gt ≤ q → q < n → x ≤ w.getD (o + q) 0) (e : SSeg (o + gt) (n - gt) w) : SSeg o n w := by
  intro i j hij hj
  by_cases hi : i < lt
  · by_cases hjl : j < lt
    · exact a i j hij hjl
    · have h3 := b i hi
      by_cases hjg : j < gt
      · rw [c j (by omega) hjg]; exact h3
      · exact Int.le_trans h3 (d j (by omega) hj)
  · by_cases hig : i < gt
    · rw [c i (by omega) hig]
      by_cases hjg : j < gt
      · rw [c j (by omega) hjg]; exact Int.le_refl _
      · exact d j (by omega) hj
    · have := e (i - gt) (j - gt) (by omega) (by omega)
      rwa [show o + gt + (i - gt) = o + i by omega, show o + gt + (j - gt) = o + j by omega] at this

theorem qF_ok (small : Nat) : ∀ (l o n : Nat) (zs : List Int), o + n ≤ zs.length → PS o n zs (qF small l o n zs).1 ∧ SSeg o n (qF small l o n zs).1
  | 0, o, n, zs, hl => by
    by_cases hs : n ≤ small
    · rw [qF_small hs]; exact ins_ok hl
    · rw [qF_heap hs]; exact hsort_ok (by omega) hl
  | l + 1, o, n, zs, hl => by
    by_cases hs : n ≤ small
    · rw [qF_small hs]; exact ins_ok hl
    · obtain ⟨lt, gt, zs1, ht⟩ : ∃ lt gt zs1, tway o n (pivV zs o n) zs = (lt, gt, zs1) := ⟨_, _, _, rfl⟩
      have hok := tway_ok o n (pivV zs o n) zs hl
      have hbd := tway_bd o n (pivV zs o n) zs
      rw [ht] at hok hbd
      simp only at hok hbd
      obtain ⟨x, hx⟩ : ∃ x, x = pivV zs o n := ⟨_, rfl⟩
      rw [← hx] at hok
      obtain ⟨k1, k2, k3, k4⟩ := hok
      have hle : lt ≤ gt ∧ gt ≤ n := by
        refine ⟨?_, ?_⟩
        · exact hbd.1
        · exact hbd.2.1
      rw [qF_go hs ht]
      obtain ⟨r1, hr1⟩ : ∃ r1, r1 = (qF small l o lt zs1).1 := ⟨_, rfl⟩
      have i1 := qF_ok small l o lt zs1 (by rw [k1.len]; omega)
      rw [← hr1] at i1
      obtain ⟨r2, hr2⟩ : ∃ r2, r2 = (qF small l (o + gt) (n - gt) r1).1 := ⟨_, rfl⟩
      have i2 := qF_ok small l (o + gt) (n - gt) r1 (by rw [i1.1.len, k1.len]; omega)
      rw [← hr2] at i2
      simp only [← hr1, ← hr2]
      refine ⟨(k1.trans (i1.1.up (Nat.le_refl _) (by omega))).trans (i2.1.up (by omega) (by omega)), ?_⟩
      have low : ∀ q, q < gt → r2.getD (o + q) 0 = r1.getD (o + q) 0 := fun q hq => i2.1.out _ (by omega)
      have mid : ∀ q, lt ≤ q → r1.getD (o + q) 0 = zs1.getD (o + q) 0 := fun q hq => i1.1.out _ (by omega)
      refine SSeg_three (x := x) hle.1 hle.2 (fun i j hij hj => ?_) (fun q hq => ?_) (fun q h1 h2 => ?_) (fun q h1 h2 => ?_) i2.2
      · rw [low i (by omega), low j (by omega)]; exact i1.2 i j hij hj
      · rw [low q (by omega)]
        have := i1.1.all (p := fun z => z < x) (fun i hi => k2 i hi) q hq
        omega
      · rw [low q h2, mid q h1]; exact k3 q h1 h2
      · have := i2.1.all (p := fun z => x < z) (fun i hi => by
          rw [Nat.add_assoc, mid _ (by omega)]; exact k4 _ (by omega) (by omega)) (q - gt) (by omega)
        rw [show o + gt + (q - gt) = o + q by omega] at this
        omega
theorem qF_srt (small l : Nat) (xs : List Int) : (qF small l 0 xs.length xs).1 = srtL xs := by
  have h := qF_ok small l 0 xs.length xs (by omega)
  exact srtL_unique (PS.whole h.1) (by rw [h.1.len]; exact h.2)
theorem qF_zero (small n : Nat) (zs : List Int) : (qF small 0 0 n zs).2.1 = 0 := by
  by_cases h : n ≤ small
  · rw [qF_small h]
  · rw [qF_heap h]
end Go.Proofs.Ytajohkbhiafnmaa
