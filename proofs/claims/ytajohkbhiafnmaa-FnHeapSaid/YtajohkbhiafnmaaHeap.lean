/- Contracts: heaps. -/
import Derived.Test.YtajohkbhiafnmaaPlHeap
set_option linter.unusedSimpArgs false
set_option linter.unusedVariables false
set_option linter.unusedSectionVars false
namespace Go.Proofs.Ytajohkbhiafnmaa
open Go Go.Ax
set_option maxRecDepth 10000
set_option maxHeartbeats 1000000

theorem mul_nat {d i p : Nat} (h : p = d * i) : (d : Int) * (i : Int) = (p : Int) := by rw [h]; simp

theorem siftDown_l (d o n i0 : Nat) (zs0 : List Int) (hd : 2 ≤ d ∧ d ≤ 8) (hn : o + n ≤ zs0.length) (hN : n ≤ 64) (hi0 : i0 ≤ 64) :
    ACalls Try.prog 100 [tO 0 o n, tI d, tI i0] [0] [oI zs0] (fun t H => t = tI (siftF d o n n i0 zs0).2 ∧ H = [oI (siftF d o n n i0 zs0).1]) := by
  obtain ⟨T, hT⟩ : ∃ T, T = siftF d o n n i0 zs0 := ⟨_, rfl⟩
  have hTc : T.2 ≤ n := by rw [hT]; exact siftF_cnt _ _ _ _ _ _
  rw [← hT]
  refine afun (fun i => match i with | 7 => some ⟨[], .op 0 .held (.op 1 .held (.op 2 .held (.op 3 .now (.op 4 .held (.op 5 .held (.op 6 .held (.op 7 .now (.op 8 .held .nil))))))))⟩ | 9 => some ⟨[], .op 0 .held (.op 1 .held (.op 2 .held (.op 3 .now (.op 4 .held (.op 5 .held (.op 6 .held (.op 7 .now (.op 8 .held .nil))))))))⟩ | 10 => some ⟨[0], .op 0 .held (.op 1 .held (.op 2 .held (.op 3 .held (.op 4 .held (.op 5 .held (.op 6 .held (.op 7 .now (.op 8 .held (.op 9 .held (.op 10 .held (.op 11 .now (.op 12 .held (.op 13 .only (.op 14 .held (.op 15 .only .nil)))))))))))))))⟩ | _ => none) [6] 1 Try.func100 rfl rfl mix (by kernel_rfl) (by kernel_rfl) (by simp [Try.f100]) rfl (by simp [msOwn, ownAll, Row.own]) ?_
  simp (dsimp := false) only [go_sem, Nat.reduceAdd, Nat.reduceBEq, Nat.reduceEqDiff, Nat.reduceLT, Nat.reduceLeDiff, reduceCtorEq, ↓reduceIte]
  refine aloop (σ := Nat × Nat × List Int × Nat) (fun s => ([(0, tO 0 o n), (1, tI d), (2, tI s.2.1), (7, tI s.2.2.2)], [oI s.2.2.1])) (fun s => s.2.2.1.length = zs0.length ∧ s.2.1 ≤ 64 ∧ n ≤ s.2.1 + s.1 ∧ s.2.2.2 + (siftF d o n s.1 s.2.1 s.2.2.1).2 = T.2 ∧ (siftF d o n s.1 s.2.1 s.2.2.1).1 = T.1) (fun s => s.1) (n, i0, zs0, 0) [0] ⟨rfl, hi0, by omega, by rw [hT]; simp, by rw [hT]⟩ (weak_of (by decide) (by simp [RS.slot, List.map_cons, List.map_nil, rowsLe, rowLe, slotsLe, tvLe, TV.ren, AV.ren, C.ren, Dat.ren, Row.ren, TV.hs, AV.hs, C.hs, Dat.hs, get_cons, get_nil, zipSlots, List.getD_cons_zero, List.getD_cons_succ, List.getD_nil, -List.getD_eq_getElem?_getD])) ?_
  rintro ⟨f, i, zs, s⟩ ⟨hl, hi, hf, h2, h1⟩
  simp only at hl hi hf h2 h1
  obtain ⟨p, hp⟩ : ∃ p, p = d * i := ⟨_, rfl⟩
  have hpi := mul_nat hp
  have hp8 : p ≤ 8 * 64 := by rw [hp]; exact Nat.mul_le_mul hd.2 hi
  have hip : i ≤ p := by rw [hp]; exact Nat.le_mul_of_pos_left i (by omega)
  by_cases hc : p + 1 < n
  · have hcd : decide ((p : Int) + 1 < n) = true := by simp; omega
    have hk : kids d n i = min (d - 1) (n - (p + 2)) := by unfold kids; rw [← hp]
    have hb : best zs o d n i = bestJ zs o (p + 1) (kids d n i) := by unfold best; rw [← hp]
    have hbb := best_bd (zs := zs) (o := o) (d := d) (n := n) (i := i) (by rw [← hp]; exact hc) hd.1
    obtain ⟨f, rfl⟩ : ∃ g, f = g + 1 := ⟨f - 1, by omega⟩
    simp (dsimp := false) only [hpi, hcd, go_sem, Nat.reduceAdd, Nat.reduceBEq, Nat.reduceEqDiff, Nat.reduceLT, Nat.reduceLeDiff, reduceCtorEq, ↓reduceIte]
    repeat (refine And.intro (by first | exact True.intro | omega | kernel_rfl | (simp only [List.length_set, List.length_append, List.length_take, List.length_replicate, List.length_cons, true_and, and_true, List.length_nil, tabR_length]; omega)) ?_)
    refine aloop (σ := Nat) (fun j => ([(0, tO 0 o n), (1, tI d), (2, tI i), (7, tI s), (8, tI (bestJ zs o (p + 1) j : Nat)), (9, tI (p + 2 + j : Nat))], [oI zs])) (fun j => j ≤ kids d n i) (fun j => kids d n i - j) 0 [0] (by omega) (weak_of (by decide) (by simp [RS.slot, List.map_cons, List.map_nil, rowsLe, rowLe, slotsLe, tvLe, TV.ren, AV.ren, C.ren, Dat.ren, Row.ren, TV.hs, AV.hs, C.hs, Dat.hs, get_cons, get_nil, zipSlots, List.getD_cons_zero, List.getD_cons_succ, List.getD_nil, -List.getD_eq_getElem?_getD, bestJ, Int.add_assoc])) ?_
    intro j hj
    have hbj := bestJ_bd zs o (p + 1) j
    by_cases hjk : j < kids d n i
    · have g1 : decide (((p + 2 + j : Nat) : Int) ≤ p + d) = true := by simp; omega
      have g2 : decide (((p + 2 + j : Nat) : Int) < n) = true := by simp; omega
      simp (dsimp := false) only [hpi, g1, g2, go_sem, Nat.reduceAdd, Nat.reduceBEq, Nat.reduceEqDiff, Nat.reduceLT, Nat.reduceLeDiff, reduceCtorEq, ↓reduceIte]
      repeat (refine And.intro (by first | exact True.intro | omega | kernel_rfl | (simp only [List.length_set, List.length_append, List.length_take, List.length_replicate, List.length_cons, true_and, and_true, List.length_nil, tabR_length]; omega)) ?_)
      refine ⟨fun h => ?_, fun h => ?_⟩
      · have e : bestJ zs o (p + 1) (j + 1) = p + 2 + j := by
          have h' : zs.getD (o + bestJ zs o (p + 1) j) 0 < zs.getD (o + (p + 1 + 1 + j)) 0 := by simpa using h
          rw [bestJ, if_pos h']
        repeat (refine And.intro (by first | exact True.intro | omega | kernel_rfl | (simp only [List.length_set, List.length_append, List.length_take, List.length_replicate, List.length_cons, true_and, and_true, List.length_nil, tabR_length]; omega)) ?_)
        refine ⟨j + 1, [0], ?_, weak_of (by decide) (by simp [RS.slot, List.map_cons, List.map_nil, rowsLe, rowLe, slotsLe, tvLe, TV.ren, AV.ren, C.ren, Dat.ren, Row.ren, TV.hs, AV.hs, C.hs, Dat.hs, get_cons, get_nil, zipSlots, List.getD_cons_zero, List.getD_cons_succ, List.getD_nil, -List.getD_eq_getElem?_getD, e, Int.add_assoc])⟩
        omega
      · have e : bestJ zs o (p + 1) (j + 1) = bestJ zs o (p + 1) j := by
          have h' : ¬ zs.getD (o + bestJ zs o (p + 1) j) 0 < zs.getD (o + (p + 1 + 1 + j)) 0 := by simpa using h
          rw [bestJ, if_neg h']
        repeat (refine And.intro (by first | exact True.intro | omega | kernel_rfl | (simp only [List.length_set, List.length_append, List.length_take, List.length_replicate, List.length_cons, true_and, and_true, List.length_nil, tabR_length]; omega)) ?_)
        refine ⟨j + 1, [0], ?_, weak_of (by decide) (by simp [RS.slot, List.map_cons, List.map_nil, rowsLe, rowLe, slotsLe, tvLe, TV.ren, AV.ren, C.ren, Dat.ren, Row.ren, TV.hs, AV.hs, C.hs, Dat.hs, get_cons, get_nil, zipSlots, List.getD_cons_zero, List.getD_cons_succ, List.getD_nil, -List.getD_eq_getElem?_getD, e, Int.add_assoc])⟩
        omega
    · have ej : j = kids d n i := by omega
      have hbj2 : bestJ zs o (p + 1) j = best zs o d n i := by rw [hb, ej]
      rw [hbj2]
      obtain ⟨b, hbe⟩ : ∃ b, b = best zs o d n i := ⟨_, rfl⟩
      rw [← hbe] at hbb ⊢
      have hgo : (decide (((p + 2 + j : Nat) : Int) ≤ p + d) = true ∧ decide (((p + 2 + j : Nat) : Int) < n) = false) ∨ decide (((p + 2 + j : Nat) : Int) ≤ p + d) = false := by
        by_cases h : p + 2 + j ≤ p + d
        · exact .inl ⟨by simp; omega, by simp; omega⟩
        · exact .inr (by simp; omega)
      rcases hgo with ⟨g1, g2⟩ | g1
      all_goals
        first
          | simp (dsimp := false) only [hpi, g1, g2, go_sem, Nat.reduceAdd, Nat.reduceBEq, Nat.reduceEqDiff, Nat.reduceLT, Nat.reduceLeDiff, reduceCtorEq, ↓reduceIte]
          | simp (dsimp := false) only [hpi, g1, go_sem, Nat.reduceAdd, Nat.reduceBEq, Nat.reduceEqDiff, Nat.reduceLT, Nat.reduceLeDiff, reduceCtorEq, ↓reduceIte]
        repeat (refine And.intro (by first | exact True.intro | omega | kernel_rfl | (simp only [List.length_set, List.length_append, List.length_take, List.length_replicate, List.length_cons, true_and, and_true, List.length_nil, tabR_length]; omega)) ?_)
        refine ⟨fun h => ?_, fun h => ?_⟩
        · have hle : zs.getD (o + best zs o d n i) 0 ≤ zs.getD (o + i) 0 := by rw [← hbe]; simpa using h
          rw [siftF_stay (by rw [← hp]; exact hc) hle] at h1 h2
          simp only at h1 h2
          have e2 : T.2 = s := by omega
          rw [e2, ← h1]
          refine afin [0] [aI s] [oI zs] (by simp) rfl (weak_of (by decide) (by simp [RS.slot, List.map_cons, List.map_nil, rowsLe, rowLe, slotsLe, tvLe, TV.ren, AV.ren, C.ren, Dat.ren, Row.ren, TV.hs, AV.hs, C.hs, Dat.hs, get_cons, get_nil, zipSlots, List.getD_cons_zero, List.getD_cons_succ, List.getD_nil, -List.getD_eq_getElem?_getD])) (by simp [rtv])
        · have hle : ¬ zs.getD (o + best zs o d n i) 0 ≤ zs.getD (o + i) 0 := by rw [← hbe]; simpa using h
          rw [siftF_go (by rw [← hp]; exact hc) hle, ← hbe] at h1 h2
          simp only at h1 h2
          repeat (refine And.intro (by first | exact True.intro | omega | kernel_rfl | (simp only [List.length_set, List.length_append, List.length_take, List.length_replicate, List.length_cons, true_and, and_true, List.length_nil, tabR_length]; omega)) ?_)
          refine ⟨(f, b, swp zs (o + i) (o + b), s + 1), [0], ?_, weak_of (by decide) (by simp [RS.slot, List.map_cons, List.map_nil, rowsLe, rowLe, slotsLe, tvLe, TV.ren, AV.ren, C.ren, Dat.ren, Row.ren, TV.hs, AV.hs, C.hs, Dat.hs, get_cons, get_nil, zipSlots, List.getD_cons_zero, List.getD_cons_succ, List.getD_nil, -List.getD_eq_getElem?_getD, swp])⟩
          dsimp only
          refine ⟨⟨by rw [swp_len]; exact hl, by omega, by omega, by omega, h1⟩, by omega⟩
  · have hcd : decide ((p : Int) + 1 < n) = false := by simp; omega
    rw [siftF_out (by rw [← hp]; exact hc)] at h1 h2
    simp only at h1 h2
    have e2 : T.2 = s := by omega
    rw [e2, ← h1]
    simp (dsimp := false) only [hpi, hcd, go_sem, Nat.reduceAdd, Nat.reduceBEq, Nat.reduceEqDiff, Nat.reduceLT, Nat.reduceLeDiff, reduceCtorEq, ↓reduceIte]
    repeat (refine And.intro (by first | exact True.intro | omega | kernel_rfl | (simp only [List.length_set, List.length_append, List.length_take, List.length_replicate, List.length_cons, true_and, and_true, List.length_nil, tabR_length]; omega)) ?_)
    refine afin [0] [aI s] [oI zs] (by simp) rfl (weak_of (by decide) (by simp [RS.slot, List.map_cons, List.map_nil, rowsLe, rowLe, slotsLe, tvLe, TV.ren, AV.ren, C.ren, Dat.ren, Row.ren, TV.hs, AV.hs, C.hs, Dat.hs, get_cons, get_nil, zipSlots, List.getD_cons_zero, List.getD_cons_succ, List.getD_nil, -List.getD_eq_getElem?_getD])) (by simp [rtv])
theorem l6Down_l (d o m n i0 : Nat) (zs0 : List Int) (hd : 2 ≤ d ∧ d ≤ 8) (hnm : n ≤ m) (hn : o + m ≤ zs0.length) (hN : n ≤ 64) (hi0 : i0 ≤ 64) :
    ACalls Try.prog 105 [tO 0 o m, tI n, tI i0, tI d] [0] [oI zs0] (fun t H => t = tI (siftF d o n n i0 zs0).2 ∧ H = [oI (siftF d o n n i0 zs0).1]) := by
  obtain ⟨T, hT⟩ : ∃ T, T = siftF d o n n i0 zs0 := ⟨_, rfl⟩
  have hTc : T.2 ≤ n := by rw [hT]; exact siftF_cnt _ _ _ _ _ _
  rw [← hT]
  refine afun (fun i => match i with | 7 => some ⟨[], .op 0 .held (.op 1 .held (.op 2 .held (.op 3 .now (.op 4 .held (.op 5 .held (.op 6 .held (.op 7 .now (.op 8 .held .nil))))))))⟩ | 9 => some ⟨[], .op 0 .held (.op 1 .held (.op 2 .held (.op 3 .now (.op 4 .held (.op 5 .held (.op 6 .held (.op 7 .now (.op 8 .held .nil))))))))⟩ | _ => none) [8] 1 Try.func105 rfl rfl mix (by kernel_rfl) (by kernel_rfl) (by simp [Try.f105]) rfl (by simp [msOwn, ownAll, Row.own]) ?_
  simp (dsimp := false) only [go_sem, Nat.reduceAdd, Nat.reduceBEq, Nat.reduceEqDiff, Nat.reduceLT, Nat.reduceLeDiff, reduceCtorEq, ↓reduceIte]
  refine aloop (σ := Nat × Nat × List Int × Nat) (fun s => ([(0, tO 0 o m), (1, tI n), (2, tI s.2.1), (3, tI d), (9, tI s.2.2.2)], [oI s.2.2.1])) (fun s => s.2.2.1.length = zs0.length ∧ s.2.1 ≤ 64 ∧ n ≤ s.2.1 + s.1 ∧ s.2.2.2 + (siftF d o n s.1 s.2.1 s.2.2.1).2 = T.2 ∧ (siftF d o n s.1 s.2.1 s.2.2.1).1 = T.1) (fun s => s.1) (n, i0, zs0, 0) [0] ⟨rfl, hi0, by omega, by rw [hT]; simp, by rw [hT]⟩ (weak_of (by decide) (by simp [RS.slot, List.map_cons, List.map_nil, rowsLe, rowLe, slotsLe, tvLe, TV.ren, AV.ren, C.ren, Dat.ren, Row.ren, TV.hs, AV.hs, C.hs, Dat.hs, get_cons, get_nil, zipSlots, List.getD_cons_zero, List.getD_cons_succ, List.getD_nil, -List.getD_eq_getElem?_getD])) ?_
  rintro ⟨f, i, zs, s⟩ ⟨hl, hi, hf, h2, h1⟩
  simp only at hl hi hf h2 h1
  obtain ⟨p, hp⟩ : ∃ p, p = d * i := ⟨_, rfl⟩
  have hpi := mul_nat hp
  have hp8 : p ≤ 8 * 64 := by rw [hp]; exact Nat.mul_le_mul hd.2 hi
  have hip : i ≤ p := by rw [hp]; exact Nat.le_mul_of_pos_left i (by omega)
  by_cases hc : p + 1 < n
  · have hcd : decide ((p : Int) + 1 < n) = true := by simp; omega
    have hk : kids d n i = min (d - 1) (n - (p + 2)) := by unfold kids; rw [← hp]
    have hb : best zs o d n i = bestJ zs o (p + 1) (kids d n i) := by unfold best; rw [← hp]
    have hbb := best_bd (zs := zs) (o := o) (d := d) (n := n) (i := i) (by rw [← hp]; exact hc) hd.1
    obtain ⟨f, rfl⟩ : ∃ g, f = g + 1 := ⟨f - 1, by omega⟩
    simp (dsimp := false) only [hpi, hcd, go_sem, Nat.reduceAdd, Nat.reduceBEq, Nat.reduceEqDiff, Nat.reduceLT, Nat.reduceLeDiff, reduceCtorEq, ↓reduceIte]
    repeat (refine And.intro (by first | exact True.intro | omega | kernel_rfl | (simp only [List.length_set, List.length_append, List.length_take, List.length_replicate, List.length_cons, true_and, and_true, List.length_nil, tabR_length]; omega)) ?_)
    refine aloop (σ := Nat) (fun j => ([(0, tO 0 o m), (1, tI n), (2, tI i), (3, tI d), (9, tI s), (10, tI (bestJ zs o (p + 1) j : Nat)), (11, tI (p + 2 + j : Nat))], [oI zs])) (fun j => j ≤ kids d n i) (fun j => kids d n i - j) 0 [0] (by omega) (weak_of (by decide) (by simp [RS.slot, List.map_cons, List.map_nil, rowsLe, rowLe, slotsLe, tvLe, TV.ren, AV.ren, C.ren, Dat.ren, Row.ren, TV.hs, AV.hs, C.hs, Dat.hs, get_cons, get_nil, zipSlots, List.getD_cons_zero, List.getD_cons_succ, List.getD_nil, -List.getD_eq_getElem?_getD, bestJ, Int.add_assoc])) ?_
    intro j hj
    have hbj := bestJ_bd zs o (p + 1) j
    by_cases hjk : j < kids d n i
    · have g1 : decide (((p + 2 + j : Nat) : Int) ≤ p + d) = true := by simp; omega
      have g2 : decide (((p + 2 + j : Nat) : Int) < n) = true := by simp; omega
      simp (dsimp := false) only [hpi, g1, g2, go_sem, Nat.reduceAdd, Nat.reduceBEq, Nat.reduceEqDiff, Nat.reduceLT, Nat.reduceLeDiff, reduceCtorEq, ↓reduceIte]
      repeat (refine And.intro (by first | exact True.intro | omega | kernel_rfl | (simp only [List.length_set, List.length_append, List.length_take, List.length_replicate, List.length_cons, true_and, and_true, List.length_nil, tabR_length]; omega)) ?_)
      refine ⟨fun h => ?_, fun h => ?_⟩
      · have e : bestJ zs o (p + 1) (j + 1) = p + 2 + j := by
          have h' : zs.getD (o + bestJ zs o (p + 1) j) 0 < zs.getD (o + (p + 1 + 1 + j)) 0 := by simpa using h
          rw [bestJ, if_pos h']
        repeat (refine And.intro (by first | exact True.intro | omega | kernel_rfl | (simp only [List.length_set, List.length_append, List.length_take, List.length_replicate, List.length_cons, true_and, and_true, List.length_nil, tabR_length]; omega)) ?_)
        refine ⟨j + 1, [0], ?_, weak_of (by decide) (by simp [RS.slot, List.map_cons, List.map_nil, rowsLe, rowLe, slotsLe, tvLe, TV.ren, AV.ren, C.ren, Dat.ren, Row.ren, TV.hs, AV.hs, C.hs, Dat.hs, get_cons, get_nil, zipSlots, List.getD_cons_zero, List.getD_cons_succ, List.getD_nil, -List.getD_eq_getElem?_getD, e, Int.add_assoc])⟩
        omega
      · have e : bestJ zs o (p + 1) (j + 1) = bestJ zs o (p + 1) j := by
          have h' : ¬ zs.getD (o + bestJ zs o (p + 1) j) 0 < zs.getD (o + (p + 1 + 1 + j)) 0 := by simpa using h
          rw [bestJ, if_neg h']
        repeat (refine And.intro (by first | exact True.intro | omega | kernel_rfl | (simp only [List.length_set, List.length_append, List.length_take, List.length_replicate, List.length_cons, true_and, and_true, List.length_nil, tabR_length]; omega)) ?_)
        refine ⟨j + 1, [0], ?_, weak_of (by decide) (by simp [RS.slot, List.map_cons, List.map_nil, rowsLe, rowLe, slotsLe, tvLe, TV.ren, AV.ren, C.ren, Dat.ren, Row.ren, TV.hs, AV.hs, C.hs, Dat.hs, get_cons, get_nil, zipSlots, List.getD_cons_zero, List.getD_cons_succ, List.getD_nil, -List.getD_eq_getElem?_getD, e, Int.add_assoc])⟩
        omega
    · have ej : j = kids d n i := by omega
      have hbj2 : bestJ zs o (p + 1) j = best zs o d n i := by rw [hb, ej]
      rw [hbj2]
      obtain ⟨b, hbe⟩ : ∃ b, b = best zs o d n i := ⟨_, rfl⟩
      rw [← hbe] at hbb ⊢
      have hgo : (decide (((p + 2 + j : Nat) : Int) ≤ p + d) = true ∧ decide (((p + 2 + j : Nat) : Int) < n) = false) ∨ decide (((p + 2 + j : Nat) : Int) ≤ p + d) = false := by
        by_cases h : p + 2 + j ≤ p + d
        · exact .inl ⟨by simp; omega, by simp; omega⟩
        · exact .inr (by simp; omega)
      rcases hgo with ⟨g1, g2⟩ | g1
      all_goals
        first
          | simp (dsimp := false) only [hpi, g1, g2, go_sem, Nat.reduceAdd, Nat.reduceBEq, Nat.reduceEqDiff, Nat.reduceLT, Nat.reduceLeDiff, reduceCtorEq, ↓reduceIte]
          | simp (dsimp := false) only [hpi, g1, go_sem, Nat.reduceAdd, Nat.reduceBEq, Nat.reduceEqDiff, Nat.reduceLT, Nat.reduceLeDiff, reduceCtorEq, ↓reduceIte]
        repeat (refine And.intro (by first | exact True.intro | omega | kernel_rfl | (simp only [List.length_set, List.length_append, List.length_take, List.length_replicate, List.length_cons, true_and, and_true, List.length_nil, tabR_length]; omega)) ?_)
        refine ⟨fun h => ?_, fun h => ?_⟩
        · have hle : zs.getD (o + best zs o d n i) 0 ≤ zs.getD (o + i) 0 := by rw [← hbe]; simpa using h
          rw [siftF_stay (by rw [← hp]; exact hc) hle] at h1 h2
          simp only at h1 h2
          have e2 : T.2 = s := by omega
          rw [e2, ← h1]
          refine afin [0] [aI s] [oI zs] (by simp) rfl (weak_of (by decide) (by simp [RS.slot, List.map_cons, List.map_nil, rowsLe, rowLe, slotsLe, tvLe, TV.ren, AV.ren, C.ren, Dat.ren, Row.ren, TV.hs, AV.hs, C.hs, Dat.hs, get_cons, get_nil, zipSlots, List.getD_cons_zero, List.getD_cons_succ, List.getD_nil, -List.getD_eq_getElem?_getD])) (by simp [rtv])
        · have hle : ¬ zs.getD (o + best zs o d n i) 0 ≤ zs.getD (o + i) 0 := by rw [← hbe]; simpa using h
          rw [siftF_go (by rw [← hp]; exact hc) hle, ← hbe] at h1 h2
          simp only at h1 h2
          repeat (refine And.intro (by first | exact True.intro | omega | kernel_rfl | (simp only [List.length_set, List.length_append, List.length_take, List.length_replicate, List.length_cons, true_and, and_true, List.length_nil, tabR_length]; omega)) ?_)
          refine ⟨_, (l6Swap_l zs o m i b (by omega) (by omega) (by omega)).lift [0] (by decide) (by simp) (by simp [RS.slot, List.map_cons, List.map_nil, rowsLe, rowLe, slotsLe, tvLe, TV.ren, AV.ren, C.ren, Dat.ren, Row.ren, TV.hs, AV.hs, C.hs, Dat.hs, get_cons, get_nil, zipSlots, List.getD_cons_zero, List.getD_cons_succ, List.getD_nil, -List.getD_eq_getElem?_getD]) (by simp [RS.slot, List.map_cons, List.map_nil, rowsLe, rowLe, slotsLe, tvLe, TV.ren, AV.ren, C.ren, Dat.ren, Row.ren, TV.hs, AV.hs, C.hs, Dat.hs, get_cons, get_nil, zipSlots, List.getD_cons_zero, List.getD_cons_succ, List.getD_nil, -List.getD_eq_getElem?_getD]) (by simp [RS.slot, List.map_cons, List.map_nil, rowsLe, rowLe, slotsLe, tvLe, TV.ren, AV.ren, C.ren, Dat.ren, Row.ren, TV.hs, AV.hs, C.hs, Dat.hs, get_cons, get_nil, zipSlots, List.getD_cons_zero, List.getD_cons_succ, List.getD_nil, -List.getD_eq_getElem?_getD]) rfl ?_⟩
          rintro _ _ ⟨rfl, rfl⟩
          refine ⟨by simp [ownIn, Row.own], ?_⟩
          simp (dsimp := false) only [liftT, liftH, putBack, freshR, ownIn, Row.own, Row.ren, TV.ren, AV.ren, C.ren, Dat.ren, List.drop_succ_cons, List.drop_nil, List.getD_cons_zero, List.getD_cons_succ, List.getD_nil, go_sem, Nat.reduceAdd, Nat.reduceBEq, Nat.reduceEqDiff, Nat.reduceLT, Nat.reduceLeDiff, reduceCtorEq, ↓reduceIte]
          repeat (refine And.intro (by first | exact True.intro | omega | kernel_rfl | (simp only [List.length_set, List.length_append, List.length_take, List.length_replicate, List.length_cons, true_and, and_true, List.length_nil, tabR_length]; omega)) ?_)
          refine ⟨(f, b, swp zs (o + i) (o + b), s + 1), [0], ?_, weak_of (by decide) (by simp [RS.slot, List.map_cons, List.map_nil, rowsLe, rowLe, slotsLe, tvLe, TV.ren, AV.ren, C.ren, Dat.ren, Row.ren, TV.hs, AV.hs, C.hs, Dat.hs, get_cons, get_nil, zipSlots, List.getD_cons_zero, List.getD_cons_succ, List.getD_nil, -List.getD_eq_getElem?_getD, swp])⟩
          dsimp only
          refine ⟨⟨by rw [swp_len]; exact hl, by omega, by omega, by omega, h1⟩, by omega⟩
  · have hcd : decide ((p : Int) + 1 < n) = false := by simp; omega
    rw [siftF_out (by rw [← hp]; exact hc)] at h1 h2
    simp only at h1 h2
    have e2 : T.2 = s := by omega
    rw [e2, ← h1]
    simp (dsimp := false) only [hpi, hcd, go_sem, Nat.reduceAdd, Nat.reduceBEq, Nat.reduceEqDiff, Nat.reduceLT, Nat.reduceLeDiff, reduceCtorEq, ↓reduceIte]
    repeat (refine And.intro (by first | exact True.intro | omega | kernel_rfl | (simp only [List.length_set, List.length_append, List.length_take, List.length_replicate, List.length_cons, true_and, and_true, List.length_nil, tabR_length]; omega)) ?_)
    refine afin [0] [aI s] [oI zs] (by simp) rfl (weak_of (by decide) (by simp [RS.slot, List.map_cons, List.map_nil, rowsLe, rowLe, slotsLe, tvLe, TV.ren, AV.ren, C.ren, Dat.ren, Row.ren, TV.hs, AV.hs, C.hs, Dat.hs, get_cons, get_nil, zipSlots, List.getD_cons_zero, List.getD_cons_succ, List.getD_nil, -List.getD_eq_getElem?_getD])) (by simp [rtv])
end Go.Proofs.Ytajohkbhiafnmaa
