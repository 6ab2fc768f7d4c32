/- Contracts: insertion, in the program and in the reference. -/
import Derived.Test.YtajohkbhiafnmaaPlQuick
import Derived.Test.YtajohkbhiafnmaaHeaps
set_option linter.unusedSimpArgs false
set_option linter.unusedVariables false
set_option linter.unusedSectionVars false
namespace Go.Proofs.Ytajohkbhiafnmaa
open Go Go.Ax
set_option maxRecDepth 10000
set_option maxHeartbeats 1000000

theorem gapped_l (o n : Nat) (zs0 : List Int) (hn : o + n ≤ zs0.length) (hN : n ≤ 64) :
    ACalls Try.prog 125 [tO 0 o n, tI 1] [0] [oI zs0] (fun t H => ∃ c v : Int, t = .tup [aI c, aI v] ∧ H = [oI (insAll o (n - 1) zs0)]) := by
  refine afun (fun _ => none) [4, 5] 1 Try.func125 rfl rfl mix (by kernel_rfl) (by kernel_rfl) (by simp [Try.f125]) rfl (by simp [msOwn, ownAll, Row.own]) ?_
  simp (dsimp := false) only [go_sem, Nat.reduceAdd, Nat.reduceBEq, Nat.reduceEqDiff, Nat.reduceLT, Nat.reduceLeDiff, reduceCtorEq, ↓reduceIte]
  refine aloop (σ := Nat × Nat × Nat) (fun s => ([(0, tO 0 o n), (1, tI 1), (6, tI s.2.1), (7, tI s.2.2), (8, tI (s.1 + 1 : Nat))], [oI (insAll o s.1 zs0)])) (fun s => s.1 ≤ n - 1 ∧ s.2.1 ≤ 100 * s.1 ∧ s.2.2 ≤ 100 * s.1) (fun s => n - s.1) (0, 0, 0) [0] ⟨by simp, by simp, by simp⟩ (weak_of (by decide) (by simp [RS.slot, List.map_cons, List.map_nil, rowsLe, rowLe, slotsLe, tvLe, TV.ren, AV.ren, C.ren, Dat.ren, Row.ren, TV.hs, AV.hs, C.hs, Dat.hs, get_cons, get_nil, zipSlots, List.getD_cons_zero, List.getD_cons_succ, List.getD_nil, -List.getD_eq_getElem?_getD, insAll])) ?_
  rintro ⟨m, c, v⟩ ⟨hm, hc, hv⟩
  simp only at hm hc hv
  by_cases hi : m + 1 < n
  · have hid : decide (((m + 1 : Nat) : Int) < n) = true := by simp; omega
    obtain ⟨z, hz⟩ : ∃ z, z = insAll o m zs0 := ⟨_, rfl⟩
    have hzl : z.length = zs0.length := by rw [hz]; exact insAll_len _ _ _
    obtain ⟨x, hx⟩ : ∃ x, x = z.getD (o + (m + 1)) 0 := ⟨_, rfl⟩
    obtain ⟨P, hP⟩ : ∃ P, P = insIn o x (m + 1) z := ⟨_, rfl⟩
    have enext : insAll o (m + 1) zs0 = if P.2 < m + 1 then P.1.set (o + P.2) x else P.1 := by rw [insAll, ← hz, insOne, ← hx, ← hP]
    rw [← hz]
    simp (dsimp := false) only [hid, ← hx, go_sem, Nat.reduceAdd, Nat.reduceBEq, Nat.reduceEqDiff, Nat.reduceLT, Nat.reduceLeDiff, reduceCtorEq, ↓reduceIte]
    repeat (refine And.intro (by first | exact True.intro | omega | kernel_rfl | (simp only [List.length_set, List.length_append, List.length_take, List.length_replicate, List.length_cons, true_and, and_true, List.length_nil, tabR_length]; omega)) ?_)
    refine aloopQ (σ := Nat × List Int × Nat × Nat) (fun t => ([(0, tO 0 o n), (1, tI 1), (6, tI t.2.2.1), (7, tI t.2.2.2), (8, tI (m + 1 : Nat)), (9, tI x), (10, tI t.1)], [oI t.2.1])) (fun t => t.1 ≤ m + 1 ∧ t.2.1.length = zs0.length ∧ t.2.2.1 + t.1 ≤ 100 * m + (m + 1) ∧ t.2.2.2 + t.1 ≤ 100 * m + (m + 1) ∧ insIn o x t.1 t.2.1 = P) (fun t => t.1) (m + 1, z, c, v) [0] ⟨Nat.le_refl _, hzl, (by show c + (m + 1) ≤ 100 * m + (m + 1); omega), (by show v + (m + 1) ≤ 100 * m + (m + 1); omega), hP.symm⟩ (weak_of (by decide) (by simp [RS.slot, List.map_cons, List.map_nil, rowsLe, rowLe, slotsLe, tvLe, TV.ren, AV.ren, C.ren, Dat.ren, Row.ren, TV.hs, AV.hs, C.hs, Dat.hs, get_cons, get_nil, zipSlots, List.getD_cons_zero, List.getD_cons_succ, List.getD_nil, -List.getD_eq_getElem?_getD, hx])) ?_
    rintro Q hQ ⟨k, zs, c', v'⟩ ⟨h1, h2, h3, h4, h5⟩
    simp only at h1 h2 h3 h4 h5
    match k, h1, h3, h4, h5 with
    | 0, h1, h3, h4, h5 =>
      rw [insIn] at h5
      have d1 : decide (((0 : Nat) : Int) ≥ 1) = false := rfl
      have d2 : decide (((0 : Nat) : Int) < ((m + 1 : Nat) : Int)) = true := by simp
      rw [← h5, if_pos (by simp)] at enext
      simp (dsimp := false) only [d1, go_sem, Nat.reduceAdd, Nat.reduceBEq, Nat.reduceEqDiff, Nat.reduceLT, Nat.reduceLeDiff, reduceCtorEq, ↓reduceIte]
      refine hQ _ _ _ ?_
      simp (dsimp := false) only [d2, go_sem, Nat.reduceAdd, Nat.reduceBEq, Nat.reduceEqDiff, Nat.reduceLT, Nat.reduceLeDiff, reduceCtorEq, ↓reduceIte]
      repeat (refine And.intro (by first | exact True.intro | omega | kernel_rfl | (simp only [List.length_set, List.length_append, List.length_take, List.length_replicate, List.length_cons, true_and, and_true, List.length_nil, tabR_length]; omega)) ?_)
      refine ⟨(m + 1, c', v' + 1), [0], ?_, weak_of (by decide) (by simp [RS.slot, List.map_cons, List.map_nil, rowsLe, rowLe, slotsLe, tvLe, TV.ren, AV.ren, C.ren, Dat.ren, Row.ren, TV.hs, AV.hs, C.hs, Dat.hs, get_cons, get_nil, zipSlots, List.getD_cons_zero, List.getD_cons_succ, List.getD_nil, -List.getD_eq_getElem?_getD, enext])⟩
      dsimp only; omega
    | k + 1, h1, h3, h4, h5 =>
      have d1 : decide (((k + 1 : Nat) : Int) ≥ 1) = true := by simp; omega
      by_cases hle : zs.getD (o + k) 0 ≤ x
      · rw [insIn_le hle] at h5
        by_cases hkm : k + 1 < m + 1
        · have d2 : decide (((k + 1 : Nat) : Int) < ((m + 1 : Nat) : Int)) = true := by simp; omega
          rw [← h5, if_pos hkm] at enext
          simp (dsimp := false) only [d1, hle, nat_pred, decide_true, go_sem, Nat.reduceAdd, Nat.reduceBEq, Nat.reduceEqDiff, Nat.reduceLT, Nat.reduceLeDiff, reduceCtorEq, ↓reduceIte]
          repeat (refine And.intro (by first | exact True.intro | omega | kernel_rfl | (simp only [List.length_set, List.length_append, List.length_take, List.length_replicate, List.length_cons, true_and, and_true, List.length_nil, tabR_length]; omega)) ?_)
          refine hQ _ _ _ ?_
          simp (dsimp := false) only [d2, go_sem, Nat.reduceAdd, Nat.reduceBEq, Nat.reduceEqDiff, Nat.reduceLT, Nat.reduceLeDiff, reduceCtorEq, ↓reduceIte]
          repeat (refine And.intro (by first | exact True.intro | omega | kernel_rfl | (simp only [List.length_set, List.length_append, List.length_take, List.length_replicate, List.length_cons, true_and, and_true, List.length_nil, tabR_length]; omega)) ?_)
          refine ⟨(m + 1, c' + 1, v' + 1), [0], ?_, weak_of (by decide) (by simp [RS.slot, List.map_cons, List.map_nil, rowsLe, rowLe, slotsLe, tvLe, TV.ren, AV.ren, C.ren, Dat.ren, Row.ren, TV.hs, AV.hs, C.hs, Dat.hs, get_cons, get_nil, zipSlots, List.getD_cons_zero, List.getD_cons_succ, List.getD_nil, -List.getD_eq_getElem?_getD, enext])⟩
          dsimp only; omega
        · have d2 : decide (((k + 1 : Nat) : Int) < ((m + 1 : Nat) : Int)) = false := by simp; omega
          rw [← h5, if_neg hkm] at enext
          simp (dsimp := false) only [d1, hle, nat_pred, decide_true, go_sem, Nat.reduceAdd, Nat.reduceBEq, Nat.reduceEqDiff, Nat.reduceLT, Nat.reduceLeDiff, reduceCtorEq, ↓reduceIte]
          repeat (refine And.intro (by first | exact True.intro | omega | kernel_rfl | (simp only [List.length_set, List.length_append, List.length_take, List.length_replicate, List.length_cons, true_and, and_true, List.length_nil, tabR_length]; omega)) ?_)
          refine hQ _ _ _ ?_
          simp (dsimp := false) only [d2, go_sem, Nat.reduceAdd, Nat.reduceBEq, Nat.reduceEqDiff, Nat.reduceLT, Nat.reduceLeDiff, reduceCtorEq, ↓reduceIte]
          repeat (refine And.intro (by first | exact True.intro | omega | kernel_rfl | (simp only [List.length_set, List.length_append, List.length_take, List.length_replicate, List.length_cons, true_and, and_true, List.length_nil, tabR_length]; omega)) ?_)
          refine ⟨(m + 1, c' + 1, v'), [0], ?_, weak_of (by decide) (by simp [RS.slot, List.map_cons, List.map_nil, rowsLe, rowLe, slotsLe, tvLe, TV.ren, AV.ren, C.ren, Dat.ren, Row.ren, TV.hs, AV.hs, C.hs, Dat.hs, get_cons, get_nil, zipSlots, List.getD_cons_zero, List.getD_cons_succ, List.getD_nil, -List.getD_eq_getElem?_getD, enext])⟩
          dsimp only; omega
      · rw [insIn_gt hle] at h5
        simp (dsimp := false) only [d1, hle, nat_pred, decide_false, go_sem, Nat.reduceAdd, Nat.reduceBEq, Nat.reduceEqDiff, Nat.reduceLT, Nat.reduceLeDiff, reduceCtorEq, ↓reduceIte]
        repeat (refine And.intro (by first | exact True.intro | omega | kernel_rfl | (simp only [List.length_set, List.length_append, List.length_take, List.length_replicate, List.length_cons, true_and, and_true, List.length_nil, tabR_length]; omega)) ?_)
        refine ⟨(k, zs.set (o + (k + 1)) (zs.getD (o + k) 0), c' + 1, v' + 1), [0], ?_, weak_of (by decide) (by simp [RS.slot, List.map_cons, List.map_nil, rowsLe, rowLe, slotsLe, tvLe, TV.ren, AV.ren, C.ren, Dat.ren, Row.ren, TV.hs, AV.hs, C.hs, Dat.hs, get_cons, get_nil, zipSlots, List.getD_cons_zero, List.getD_cons_succ, List.getD_nil, -List.getD_eq_getElem?_getD, ])⟩
        dsimp only
        exact ⟨⟨by omega, by simpa using h2, by omega, by omega, h5⟩, by omega⟩
  · have hid : decide (((m + 1 : Nat) : Int) < n) = false := by simp; omega
    have em : m = n - 1 := by omega
    subst em
    simp (dsimp := false) only [hid, go_sem, Nat.reduceAdd, Nat.reduceBEq, Nat.reduceEqDiff, Nat.reduceLT, Nat.reduceLeDiff, reduceCtorEq, ↓reduceIte]
    refine afin [0] [aI c, aI v] [oI (insAll o (n - 1) zs0)] (by simp) rfl (weak_of (by decide) (by simp [RS.slot, List.map_cons, List.map_nil, rowsLe, rowLe, slotsLe, tvLe, TV.ren, AV.ren, C.ren, Dat.ren, Row.ren, TV.hs, AV.hs, C.hs, Dat.hs, get_cons, get_nil, zipSlots, List.getD_cons_zero, List.getD_cons_succ, List.getD_nil, -List.getD_eq_getElem?_getD])) (by exact ⟨c, v, rfl, rfl⟩)

theorem l4Insert_l (o n : Nat) (zs0 : List Int) (hn : o + n ≤ zs0.length) (hN : n ≤ 64) :
    ACalls Try.prog 128 [tO 0 o n, tI 1] [0] [oI zs0] (fun t H => ∃ c v : Int, t = .tup [aI c, aI v] ∧ H = [oI (insAll o (n - 1) zs0)]) := by
  refine afun (fun _ => none) [4, 5] 1 Try.func128 rfl rfl mix (by kernel_rfl) (by kernel_rfl) (by simp [Try.f128]) rfl (by simp [msOwn, ownAll, Row.own]) ?_
  simp (dsimp := false) only [go_sem, Nat.reduceAdd, Nat.reduceBEq, Nat.reduceEqDiff, Nat.reduceLT, Nat.reduceLeDiff, reduceCtorEq, ↓reduceIte]
  refine aloop (σ := Nat × Nat × Nat) (fun s => ([(0, tO 0 o n), (1, tI 1), (6, tI s.2.1), (7, tI s.2.2), (8, tI (s.1 + 1 : Nat))], [oI (insAll o s.1 zs0)])) (fun s => s.1 ≤ n - 1 ∧ s.2.1 ≤ 100 * s.1 ∧ s.2.2 ≤ 100 * s.1) (fun s => n - s.1) (0, 0, 0) [0] ⟨by simp, by simp, by simp⟩ (weak_of (by decide) (by simp [RS.slot, List.map_cons, List.map_nil, rowsLe, rowLe, slotsLe, tvLe, TV.ren, AV.ren, C.ren, Dat.ren, Row.ren, TV.hs, AV.hs, C.hs, Dat.hs, get_cons, get_nil, zipSlots, List.getD_cons_zero, List.getD_cons_succ, List.getD_nil, -List.getD_eq_getElem?_getD, insAll])) ?_
  rintro ⟨m, c, v⟩ ⟨hm, hc, hv⟩
  simp only at hm hc hv
  by_cases hi : m + 1 < n
  · have hid : decide (((m + 1 : Nat) : Int) < n) = true := by simp; omega
    obtain ⟨z, hz⟩ : ∃ z, z = insAll o m zs0 := ⟨_, rfl⟩
    have hzl : z.length = zs0.length := by rw [hz]; exact insAll_len _ _ _
    obtain ⟨x, hx⟩ : ∃ x, x = z.getD (o + (m + 1)) 0 := ⟨_, rfl⟩
    obtain ⟨P, hP⟩ : ∃ P, P = insIn o x (m + 1) z := ⟨_, rfl⟩
    have enext : insAll o (m + 1) zs0 = if P.2 < m + 1 then P.1.set (o + P.2) x else P.1 := by rw [insAll, ← hz, insOne, ← hx, ← hP]
    rw [← hz]
    simp (dsimp := false) only [hid, ← hx, go_sem, Nat.reduceAdd, Nat.reduceBEq, Nat.reduceEqDiff, Nat.reduceLT, Nat.reduceLeDiff, reduceCtorEq, ↓reduceIte]
    repeat (refine And.intro (by first | exact True.intro | omega | kernel_rfl | (simp only [List.length_set, List.length_append, List.length_take, List.length_replicate, List.length_cons, true_and, and_true, List.length_nil, tabR_length]; omega)) ?_)
    refine aloopQ (σ := Nat × List Int × Nat × Nat) (fun t => ([(0, tO 0 o n), (1, tI 1), (6, tI t.2.2.1), (7, tI t.2.2.2), (8, tI (m + 1 : Nat)), (9, tI x), (10, tI t.1)], [oI t.2.1])) (fun t => t.1 ≤ m + 1 ∧ t.2.1.length = zs0.length ∧ t.2.2.1 + t.1 ≤ 100 * m + (m + 1) ∧ t.2.2.2 + t.1 ≤ 100 * m + (m + 1) ∧ insIn o x t.1 t.2.1 = P) (fun t => t.1) (m + 1, z, c, v) [0] ⟨Nat.le_refl _, hzl, (by show c + (m + 1) ≤ 100 * m + (m + 1); omega), (by show v + (m + 1) ≤ 100 * m + (m + 1); omega), hP.symm⟩ (weak_of (by decide) (by simp [RS.slot, List.map_cons, List.map_nil, rowsLe, rowLe, slotsLe, tvLe, TV.ren, AV.ren, C.ren, Dat.ren, Row.ren, TV.hs, AV.hs, C.hs, Dat.hs, get_cons, get_nil, zipSlots, List.getD_cons_zero, List.getD_cons_succ, List.getD_nil, -List.getD_eq_getElem?_getD, hx])) ?_
    rintro Q hQ ⟨k, zs, c', v'⟩ ⟨h1, h2, h3, h4, h5⟩
    simp only at h1 h2 h3 h4 h5
    match k, h1, h3, h4, h5 with
    | 0, h1, h3, h4, h5 =>
      rw [insIn] at h5
      have d1 : decide (((0 : Nat) : Int) ≥ 1) = false := rfl
      have d2 : (((0 : Nat) : Int) != ((m + 1 : Nat) : Int)) = true := by simp; omega
      rw [← h5, if_pos (by simp)] at enext
      simp (dsimp := false) only [d1, go_sem, Nat.reduceAdd, Nat.reduceBEq, Nat.reduceEqDiff, Nat.reduceLT, Nat.reduceLeDiff, reduceCtorEq, ↓reduceIte]
      refine hQ _ _ _ ?_
      simp (dsimp := false) only [d2, go_sem, Nat.reduceAdd, Nat.reduceBEq, Nat.reduceEqDiff, Nat.reduceLT, Nat.reduceLeDiff, reduceCtorEq, ↓reduceIte]
      repeat (refine And.intro (by first | exact True.intro | omega | kernel_rfl | (simp only [List.length_set, List.length_append, List.length_take, List.length_replicate, List.length_cons, true_and, and_true, List.length_nil, tabR_length]; omega)) ?_)
      refine ⟨(m + 1, c', v' + 1), [0], ?_, weak_of (by decide) (by simp [RS.slot, List.map_cons, List.map_nil, rowsLe, rowLe, slotsLe, tvLe, TV.ren, AV.ren, C.ren, Dat.ren, Row.ren, TV.hs, AV.hs, C.hs, Dat.hs, get_cons, get_nil, zipSlots, List.getD_cons_zero, List.getD_cons_succ, List.getD_nil, -List.getD_eq_getElem?_getD, enext])⟩
      dsimp only; omega
    | k + 1, h1, h3, h4, h5 =>
      have d1 : decide (((k + 1 : Nat) : Int) ≥ 1) = true := by simp; omega
      by_cases hle : zs.getD (o + k) 0 ≤ x
      · rw [insIn_le hle] at h5
        by_cases hkm : k + 1 < m + 1
        · have d2 : (((k + 1 : Nat) : Int) != ((m + 1 : Nat) : Int)) = true := by simp; omega
          rw [← h5, if_pos hkm] at enext
          simp (dsimp := false) only [d1, hle, nat_pred, decide_true, go_sem, Nat.reduceAdd, Nat.reduceBEq, Nat.reduceEqDiff, Nat.reduceLT, Nat.reduceLeDiff, reduceCtorEq, ↓reduceIte]
          repeat (refine And.intro (by first | exact True.intro | omega | kernel_rfl | (simp only [List.length_set, List.length_append, List.length_take, List.length_replicate, List.length_cons, true_and, and_true, List.length_nil, tabR_length]; omega)) ?_)
          refine hQ _ _ _ ?_
          simp (dsimp := false) only [d2, go_sem, Nat.reduceAdd, Nat.reduceBEq, Nat.reduceEqDiff, Nat.reduceLT, Nat.reduceLeDiff, reduceCtorEq, ↓reduceIte]
          repeat (refine And.intro (by first | exact True.intro | omega | kernel_rfl | (simp only [List.length_set, List.length_append, List.length_take, List.length_replicate, List.length_cons, true_and, and_true, List.length_nil, tabR_length]; omega)) ?_)
          refine ⟨(m + 1, c' + 1, v' + 1), [0], ?_, weak_of (by decide) (by simp [RS.slot, List.map_cons, List.map_nil, rowsLe, rowLe, slotsLe, tvLe, TV.ren, AV.ren, C.ren, Dat.ren, Row.ren, TV.hs, AV.hs, C.hs, Dat.hs, get_cons, get_nil, zipSlots, List.getD_cons_zero, List.getD_cons_succ, List.getD_nil, -List.getD_eq_getElem?_getD, enext])⟩
          dsimp only; omega
        · have ekm : k = m := by omega
          have d2 : (((k + 1 : Nat) : Int) != ((m + 1 : Nat) : Int)) = false := by rw [ekm]; simp
          rw [← h5, if_neg hkm] at enext
          simp (dsimp := false) only [d1, hle, nat_pred, decide_true, go_sem, Nat.reduceAdd, Nat.reduceBEq, Nat.reduceEqDiff, Nat.reduceLT, Nat.reduceLeDiff, reduceCtorEq, ↓reduceIte]
          repeat (refine And.intro (by first | exact True.intro | omega | kernel_rfl | (simp only [List.length_set, List.length_append, List.length_take, List.length_replicate, List.length_cons, true_and, and_true, List.length_nil, tabR_length]; omega)) ?_)
          refine hQ _ _ _ ?_
          simp (dsimp := false) only [d2, go_sem, Nat.reduceAdd, Nat.reduceBEq, Nat.reduceEqDiff, Nat.reduceLT, Nat.reduceLeDiff, reduceCtorEq, ↓reduceIte]
          repeat (refine And.intro (by first | exact True.intro | omega | kernel_rfl | (simp only [List.length_set, List.length_append, List.length_take, List.length_replicate, List.length_cons, true_and, and_true, List.length_nil, tabR_length]; omega)) ?_)
          refine ⟨(m + 1, c' + 1, v'), [0], ?_, weak_of (by decide) (by simp [RS.slot, List.map_cons, List.map_nil, rowsLe, rowLe, slotsLe, tvLe, TV.ren, AV.ren, C.ren, Dat.ren, Row.ren, TV.hs, AV.hs, C.hs, Dat.hs, get_cons, get_nil, zipSlots, List.getD_cons_zero, List.getD_cons_succ, List.getD_nil, -List.getD_eq_getElem?_getD, enext])⟩
          dsimp only; omega
      · rw [insIn_gt hle] at h5
        simp (dsimp := false) only [d1, hle, nat_pred, decide_false, go_sem, Nat.reduceAdd, Nat.reduceBEq, Nat.reduceEqDiff, Nat.reduceLT, Nat.reduceLeDiff, reduceCtorEq, ↓reduceIte]
        repeat (refine And.intro (by first | exact True.intro | omega | kernel_rfl | (simp only [List.length_set, List.length_append, List.length_take, List.length_replicate, List.length_cons, true_and, and_true, List.length_nil, tabR_length]; omega)) ?_)
        refine ⟨(k, zs.set (o + (k + 1)) (zs.getD (o + k) 0), c' + 1, v' + 1), [0], ?_, weak_of (by decide) (by simp [RS.slot, List.map_cons, List.map_nil, rowsLe, rowLe, slotsLe, tvLe, TV.ren, AV.ren, C.ren, Dat.ren, Row.ren, TV.hs, AV.hs, C.hs, Dat.hs, get_cons, get_nil, zipSlots, List.getD_cons_zero, List.getD_cons_succ, List.getD_nil, -List.getD_eq_getElem?_getD, ])⟩
        dsimp only
        exact ⟨⟨by omega, by simpa using h2, by omega, by omega, h5⟩, by omega⟩
  · have hid : decide (((m + 1 : Nat) : Int) < n) = false := by simp; omega
    have em : m = n - 1 := by omega
    subst em
    simp (dsimp := false) only [hid, go_sem, Nat.reduceAdd, Nat.reduceBEq, Nat.reduceEqDiff, Nat.reduceLT, Nat.reduceLeDiff, reduceCtorEq, ↓reduceIte]
    refine afin [0] [aI c, aI v] [oI (insAll o (n - 1) zs0)] (by simp) rfl (weak_of (by decide) (by simp [RS.slot, List.map_cons, List.map_nil, rowsLe, rowLe, slotsLe, tvLe, TV.ren, AV.ren, C.ren, Dat.ren, Row.ren, TV.hs, AV.hs, C.hs, Dat.hs, get_cons, get_nil, zipSlots, List.getD_cons_zero, List.getD_cons_succ, List.getD_nil, -List.getD_eq_getElem?_getD])) (by exact ⟨c, v, rfl, rfl⟩)

end Go.Proofs.Ytajohkbhiafnmaa
