/- Contracts: the index of the median of three elements of a part of a list. -/
import Derived.Test.YtajohkbhiafnmaaVal
import Derived.Test.YtajohkbhiafnmaaPlMed
set_option linter.unusedSimpArgs false
set_option linter.unusedVariables false
set_option linter.unusedSectionVars false
namespace Go.Proofs.Ytajohkbhiafnmaa
open Go Go.Ax
set_option maxRecDepth 10000
set_option maxHeartbeats 1000000

theorem medianIndex_l (zs : List Int) (off n : Nat) (hn : 1 ≤ n) (hz : off + n ≤ zs.length) (hl : n ≤ 64) : ACalls Try.prog 90 [.a (.c (.sl 1 0 off n))] [] [rI zs] (fun t H => t = tI (medI (fun i => zs.getD (off + i) 0) n) ∧ H = [rI zs]) := by
  have hA3 : (medA n).length = 3 := rfl
  have hAe : [(0 : Int), ((n / 2 : Nat) : Int), (n : Int) - 1] = medA n := rfl
  have hdiv : (n : Int).tdiv 2 = ((n / 2 : Nat) : Int) := by simp [Int.tdiv_eq_ediv_of_nonneg]
  obtain ⟨x, hx⟩ : ∃ x : Nat → Int, x = fun i => zs.getD (off + i) 0 := ⟨_, rfl⟩
  rw [← hx]
  refine afun (fun i => match i with | 10 => some ⟨[], .op 0 .held (.op 1 .held (.op 2 .held (.op 3 .held (.op 4 .held (.op 5 .held (.op 6 .held (.op 7 .held (.op 8 .held (.op 9 .now (.op 10 .held (.op 11 .held (.op 12 .held (.op 13 .now (.op 14 .held (.op 15 .held (.op 16 .held (.op 17 .held .nil)))))))))))))))))⟩ | 11 => some ⟨[], .op 0 .held (.op 1 .held (.op 2 .held (.op 3 .held (.op 4 .held (.op 5 .held (.op 6 .held (.op 7 .held (.op 8 .held (.op 9 .now (.op 10 .held (.op 11 .held (.op 12 .held (.op 13 .now (.op 14 .held (.op 15 .held (.op 16 .held (.op 17 .held .nil)))))))))))))))))⟩ | _ => none) [2] 1 Try.func90 rfl rfl mix (by kernel_rfl) (by kernel_rfl) (by simp [Try.f90]) rfl (by simp [msOwn, ownAll, Row.own]) ?_
  simp (dsimp := false) only [go_sem, Nat.reduceAdd, Nat.reduceBEq, Nat.reduceEqDiff, Nat.reduceLT, Nat.reduceLeDiff, reduceCtorEq, ↓reduceIte]
  simp only [hdiv, hAe]
  repeat (refine And.intro (by first | exact True.intro | omega | kernel_rfl | (simp only [List.length_set, List.length_append, List.length_take, List.length_replicate, List.length_cons, true_and, and_true, List.length_nil, tabR_length]; omega)) ?_)
  refine aloop (σ := Nat) (fun i => ([(0, .a (.c (.sl 1 0 off n))), (4, tS 1 3), (18, tS 1 3), (19, tI 3), (20, tI i)], [rI zs, oI (medA n)])) (fun i => i ≤ 3 ∧ ∀ j, j < i → (anyR (medL x n j) 3 && anyR (medM x n j) 3) = false) (fun i => 3 - i) 0 [0, 1] ⟨by omega, by intro j hj; omega⟩ (weak_of (by decide) (by simp [RS.slot, List.map_cons, List.map_nil, rowsLe, rowLe, slotsLe, tvLe, TV.ren, AV.ren, C.ren, Dat.ren, Row.ren, TV.hs, AV.hs, C.hs, Dat.hs, get_cons, get_nil, zipSlots, List.getD_cons_zero, List.getD_cons_succ, List.getD_nil, -List.getD_eq_getElem?_getD])) ?_
  rintro i ⟨hi, hq⟩
  by_cases g3 : i < 3
  · have hAi := medA_bd hn g3
    have hd3 : decide ((i : Int) < 3) = true := by simp; omega
    simp (dsimp := false) only [hd3, go_sem, Nat.reduceAdd, Nat.reduceBEq, Nat.reduceEqDiff, Nat.reduceLT, Nat.reduceLeDiff, reduceCtorEq, ↓reduceIte]
    repeat (refine And.intro (by first | exact True.intro | omega | kernel_rfl | (simp only [List.length_set, List.length_append, List.length_take, List.length_replicate, List.length_cons, true_and, and_true, List.length_nil, tabR_length, hA3]; omega)) ?_)
    refine aloop (σ := Nat) (fun k => ([(0, .a (.c (.sl 1 0 off n))), (4, tS 1 3), (18, tS 1 3), (19, tI 3), (20, tI i), (5, tI i), (6, tI ((medA n).getD i 0)), (7, tB (anyR (medL x n i) k)), (8, tB (anyR (medM x n i) k)), (25, tS 1 3), (26, tI 3), (27, tI k)], [rI zs, oI (medA n)])) (fun k => k ≤ 3) (fun k => 3 - k) 0 [0, 1] (by omega) (weak_of (by decide) (by simp [RS.slot, List.map_cons, List.map_nil, rowsLe, rowLe, slotsLe, tvLe, TV.ren, AV.ren, C.ren, Dat.ren, Row.ren, TV.hs, AV.hs, C.hs, Dat.hs, get_cons, get_nil, zipSlots, List.getD_cons_zero, List.getD_cons_succ, List.getD_nil, -List.getD_eq_getElem?_getD, anyR])) ?_
    intro k hk
    by_cases h3 : k < 3
    · have hAk := medA_bd hn h3
      have hd3 : decide ((k : Int) < 3) = true := by simp; omega
      have eL : anyR (medL x n i) (k + 1) = (anyR (medL x n i) k || medL x n i k) := rfl
      have eM : anyR (medM x n i) (k + 1) = (anyR (medM x n i) k || medM x n i k) := rfl
      by_cases e : k = i
      · have hne : ((k : Int) != i) = false := by simp; omega
        have fL : medL x n i k = false := by simp [medL, e]
        have fM : medM x n i k = false := by simp [medM, e]
        rw [fL, Bool.or_false] at eL
        rw [fM, Bool.or_false] at eM
        cases hL : anyR (medL x n i) k <;> cases hM : anyR (medM x n i) k <;>
        · simp (dsimp := false) only [hd3, hne, hL, hM, go_sem, Nat.reduceAdd, Nat.reduceBEq, Nat.reduceEqDiff, Nat.reduceLT, Nat.reduceLeDiff, reduceCtorEq, ↓reduceIte]
          repeat (refine And.intro (by first | exact True.intro | omega | kernel_rfl | (simp only [List.length_set, List.length_append, List.length_take, List.length_replicate, List.length_cons, true_and, and_true, List.length_nil, tabR_length, hA3]; omega)) ?_)
          refine ⟨k + 1, [0, 1], ?_, weak_of (by decide) (by simp [RS.slot, List.map_cons, List.map_nil, rowsLe, rowLe, slotsLe, tvLe, TV.ren, AV.ren, C.ren, Dat.ren, Row.ren, TV.hs, AV.hs, C.hs, Dat.hs, get_cons, get_nil, zipSlots, List.getD_cons_zero, List.getD_cons_succ, List.getD_nil, -List.getD_eq_getElem?_getD, eL, eM, hL, hM])⟩
          omega
      · have hne : ((k : Int) != i) = true := by simp; omega
        have fL : medL x n i k = decide (zs.getD (off + ((medA n).getD k 0).toNat) 0 ≤ zs.getD (off + ((medA n).getD i 0).toNat) 0) := by simp only [medL, medX, hx]; simp [e]
        have fM : medM x n i k = decide (zs.getD (off + ((medA n).getD k 0).toNat) 0 ≥ zs.getD (off + ((medA n).getD i 0).toNat) 0) := by simp only [medM, medX, hx]; simp [e]
        cases hL : anyR (medL x n i) k <;> cases hM : anyR (medM x n i) k <;>
        · simp (dsimp := false) only [hd3, hne, hL, hM, go_sem, Nat.reduceAdd, Nat.reduceBEq, Nat.reduceEqDiff, Nat.reduceLT, Nat.reduceLeDiff, reduceCtorEq, ↓reduceIte]
          repeat (refine And.intro (by first | exact True.intro | omega | kernel_rfl | (simp only [List.length_set, List.length_append, List.length_take, List.length_replicate, List.length_cons, true_and, and_true, List.length_nil, tabR_length, hA3]; omega)) ?_)
          refine ⟨k + 1, [0, 1], ?_, weak_of (by decide) (by simp [RS.slot, List.map_cons, List.map_nil, rowsLe, rowLe, slotsLe, tvLe, TV.ren, AV.ren, C.ren, Dat.ren, Row.ren, TV.hs, AV.hs, C.hs, Dat.hs, get_cons, get_nil, zipSlots, List.getD_cons_zero, List.getD_cons_succ, List.getD_nil, -List.getD_eq_getElem?_getD, eL, eM, fL, fM, hL, hM])⟩
          omega
    · have hd3 : decide ((k : Int) < 3) = false := by simp; omega
      have h3' : k = 3 := by omega
      subst h3'
      cases hL : anyR (medL x n i) 3
      · simp (dsimp := false) only [hd3, hL, go_sem, Nat.reduceAdd, Nat.reduceBEq, Nat.reduceEqDiff, Nat.reduceLT, Nat.reduceLeDiff, reduceCtorEq, ↓reduceIte]
        repeat (refine And.intro (by first | exact True.intro | omega | kernel_rfl | (simp only [List.length_set, List.length_append, List.length_take, List.length_replicate, List.length_cons, true_and, and_true, List.length_nil, tabR_length]; omega)) ?_)
        refine ⟨i + 1, [0, 1], ?_, weak_of (by decide) (by simp [RS.slot, List.map_cons, List.map_nil, rowsLe, rowLe, slotsLe, tvLe, TV.ren, AV.ren, C.ren, Dat.ren, Row.ren, TV.hs, AV.hs, C.hs, Dat.hs, get_cons, get_nil, zipSlots, List.getD_cons_zero, List.getD_cons_succ, List.getD_nil, -List.getD_eq_getElem?_getD])⟩
        refine ⟨⟨by omega, fun j hj => ?_⟩, by omega⟩
        by_cases e : j = i
        · subst e; simp [hL]
        · exact hq j (by omega)
      · cases hM : anyR (medM x n i) 3
        · simp (dsimp := false) only [hd3, hL, hM, go_sem, Nat.reduceAdd, Nat.reduceBEq, Nat.reduceEqDiff, Nat.reduceLT, Nat.reduceLeDiff, reduceCtorEq, ↓reduceIte]
          repeat (refine And.intro (by first | exact True.intro | omega | kernel_rfl | (simp only [List.length_set, List.length_append, List.length_take, List.length_replicate, List.length_cons, true_and, and_true, List.length_nil, tabR_length]; omega)) ?_)
          refine ⟨i + 1, [0, 1], ?_, weak_of (by decide) (by simp [RS.slot, List.map_cons, List.map_nil, rowsLe, rowLe, slotsLe, tvLe, TV.ren, AV.ren, C.ren, Dat.ren, Row.ren, TV.hs, AV.hs, C.hs, Dat.hs, get_cons, get_nil, zipSlots, List.getD_cons_zero, List.getD_cons_succ, List.getD_nil, -List.getD_eq_getElem?_getD])⟩
          refine ⟨⟨by omega, fun j hj => ?_⟩, by omega⟩
          by_cases e : j = i
          · subst e; simp [hM]
          · exact hq j (by omega)
        · simp (dsimp := false) only [hd3, hL, hM, go_sem, Nat.reduceAdd, Nat.reduceBEq, Nat.reduceEqDiff, Nat.reduceLT, Nat.reduceLeDiff, reduceCtorEq, ↓reduceIte]
          repeat (refine And.intro (by first | exact True.intro | omega | kernel_rfl | (simp only [List.length_set, List.length_append, List.length_take, List.length_replicate, List.length_cons, true_and, and_true, List.length_nil, tabR_length, hA3]; omega)) ?_)
          have e : medI x n = (medA n).getD i 0 := firstR_hit g3 hq (by simp [hL, hM])
          refine afin [0] [aI ((medA n).getD i 0)] [rI zs] (by simp) rfl (weak_of (by decide) (by simp [RS.slot, List.map_cons, List.map_nil, rowsLe, rowLe, slotsLe, tvLe, TV.ren, AV.ren, C.ren, Dat.ren, Row.ren, TV.hs, AV.hs, C.hs, Dat.hs, get_cons, get_nil, zipSlots, List.getD_cons_zero, List.getD_cons_succ, List.getD_nil, -List.getD_eq_getElem?_getD, e])) (by simp [rtv, e, -List.getD_eq_getElem?_getD])
  · have hd3 : decide ((i : Int) < 3) = false := by simp; omega
    have h3' : i = 3 := by omega
    subst h3'
    simp (dsimp := false) only [hd3, go_sem, Nat.reduceAdd, Nat.reduceBEq, Nat.reduceEqDiff, Nat.reduceLT, Nat.reduceLeDiff, reduceCtorEq, ↓reduceIte]
    have e : medI x n = 0 := firstR_none hq
    refine afin [0] [aI 0] [rI zs] (by simp) rfl (weak_of (by decide) (by simp [RS.slot, List.map_cons, List.map_nil, rowsLe, rowLe, slotsLe, tvLe, TV.ren, AV.ren, C.ren, Dat.ren, Row.ren, TV.hs, AV.hs, C.hs, Dat.hs, get_cons, get_nil, zipSlots, List.getD_cons_zero, List.getD_cons_succ, List.getD_nil, -List.getD_eq_getElem?_getD, e])) (by simp [rtv, e, -List.getD_eq_getElem?_getD])
end Go.Proofs.Ytajohkbhiafnmaa
