/- Contracts: longest increasing subsequences. -/
import Derived.Test.YtgbmbkhljmkkjaaPerm
import Derived.Test.YtgbmbkhljmkkjaaPlLis
set_option linter.unusedSimpArgs false
set_option linter.unusedVariables false
set_option linter.unusedSectionVars false
namespace Go.Proofs.Ytgbmbkhljmkkjaa
open Go Go.Ax
set_option maxRecDepth 10000

theorem sLongestIncreasing_f (xs : List Int) (hx : xs.length ≤ 281474976710656) (hv : validB xs = false) : ACalls Try.prog 42 [tS 0 xs.length] [] [rI xs] (fun t H => t = .tup [aN, aB false] ∧ H = [rI xs]) := by
  refine afun (fun i => match i with | 12 => some ⟨[], .op 0 .held (.op 1 .held (.op 2 .held (.op 3 .now (.op 4 .held (.op 5 .held (.op 6 .held (.op 7 .now (.op 8 .held .nil))))))))⟩ | 13 => some ⟨[1], .op 0 .held (.op 1 .held (.op 2 .held (.op 3 .held (.op 4 .held (.op 5 .now (.op 6 .held (.op 7 .held (.op 8 .held (.op 9 .now (.op 10 .held (.op 11 .only (.op 12 .held (.op 13 .only .nil)))))))))))))⟩ | 19 => some ⟨[], .op 0 .held (.op 1 .held (.op 2 .held (.op 3 .now (.op 4 .held (.op 5 .held (.op 6 .held (.op 7 .held (.op 8 .held (.op 9 .held (.op 10 .held (.op 11 .held (.op 12 .held (.op 13 .held (.op 14 .now (.op 15 .held (.op 16 .held (.op 17 .held (.op 18 .held (.op 19 .held (.op 20 .held (.op 21 .now (.op 22 .held (.op 23 .now (.op 24 .held (.op 25 .held (.op 26 .held .nil))))))))))))))))))))))))))⟩ | _ => none) [2, 3] 1 Try.func42 rfl rfl mix (by kernel_rfl) (by kernel_rfl) (by simp [Try.f42]) rfl (by simp [msOwn, ownAll, Row.own]) ?_
  simp (dsimp := false) only [go_sem, Nat.reduceAdd, Nat.reduceBEq, Nat.reduceEqDiff, Nat.reduceLT, Nat.reduceLeDiff, reduceCtorEq, ↓reduceIte]
  refine ⟨_, (l2List_l xs hx).lift [0] (by decide) (by simp) (by simp [rowsLe, rowLe, slotsLe, tvLe, TV.ren, AV.ren, C.ren, Dat.ren, Row.ren, TV.hs, AV.hs, C.hs, Dat.hs, get_cons, get_nil, zipSlots, List.getD_cons_zero, List.getD_cons_succ, List.getD_nil, -List.getD_eq_getElem?_getD]) (by simp [rowsLe, rowLe, slotsLe, tvLe, TV.ren, AV.ren, C.ren, Dat.ren, Row.ren, TV.hs, AV.hs, C.hs, Dat.hs, get_cons, get_nil, zipSlots, List.getD_cons_zero, List.getD_cons_succ, List.getD_nil, -List.getD_eq_getElem?_getD]) (by simp [rowsLe, rowLe, slotsLe, tvLe, TV.ren, AV.ren, C.ren, Dat.ren, Row.ren, TV.hs, AV.hs, C.hs, Dat.hs, get_cons, get_nil, zipSlots, List.getD_cons_zero, List.getD_cons_succ, List.getD_nil, -List.getD_eq_getElem?_getD]) rfl ?_⟩
  rintro _ _ ⟨rfl, rfl⟩
  refine ⟨by simp [ownIn, Row.own], ?_⟩
  simp (dsimp := false) only [hv, liftT, liftH, putBack, freshR, ownIn, Row.own, Row.ren, TV.ren, AV.ren, C.ren, Dat.ren, List.drop_succ_cons, List.drop_nil, List.getD_cons_zero, List.getD_cons_succ, List.getD_nil, go_sem, Nat.reduceAdd, Nat.reduceBEq, Nat.reduceEqDiff, Nat.reduceLT, Nat.reduceLeDiff, reduceCtorEq, ↓reduceIte]
  refine afin [0] [aN, aB false] [rI xs] (by simp) rfl (weak_of (by decide) (by simp [rowsLe, rowLe, slotsLe, tvLe, TV.ren, AV.ren, C.ren, Dat.ren, Row.ren, TV.hs, AV.hs, C.hs, Dat.hs, get_cons, get_nil, zipSlots, List.getD_cons_zero, List.getD_cons_succ, List.getD_nil, -List.getD_eq_getElem?_getD])) (by simp [rtv])

theorem iLongestIncreasing_f (xs : List Int) (hx : xs.length ≤ 281474976710656) (hv : validB xs = false) : ACalls Try.prog 43 [tS 0 xs.length] [] [rI xs] (fun t H => t = .tup [aN, aB false] ∧ H = [rI xs]) := by
  refine afun (fun i => match i with | 11 => some ⟨[], .op 0 .held (.op 1 .held (.op 2 .held (.op 3 .now (.op 4 .held (.op 5 .held (.op 6 .held (.op 7 .now (.op 8 .held .nil))))))))⟩ | 12 => some ⟨[1], .op 0 .held (.op 1 .held (.op 2 .held (.op 3 .held (.op 4 .held (.op 5 .now (.op 6 .held (.op 7 .held (.op 8 .held (.op 9 .now (.op 10 .held (.op 11 .held (.op 12 .held (.op 13 .only .nil)))))))))))))⟩ | 18 => some ⟨[], .op 0 .held (.op 1 .held (.op 2 .held (.op 3 .held (.op 4 .held (.op 5 .held (.op 6 .held (.op 7 .held (.op 8 .held (.op 9 .held (.op 10 .held (.op 11 .now (.op 12 .held (.op 13 .held (.op 14 .held (.op 15 .held (.op 16 .held (.op 17 .held (.op 18 .now (.op 19 .held (.op 20 .now (.op 21 .held (.op 22 .held (.op 23 .held .nil)))))))))))))))))))))))⟩ | _ => none) [2, 3] 1 Try.func43 rfl rfl mix (by kernel_rfl) (by kernel_rfl) (by simp [Try.f43]) rfl (by simp [msOwn, ownAll, Row.own]) ?_
  simp (dsimp := false) only [go_sem, Nat.reduceAdd, Nat.reduceBEq, Nat.reduceEqDiff, Nat.reduceLT, Nat.reduceLeDiff, reduceCtorEq, ↓reduceIte]
  refine ⟨_, (isValidList_l xs hx).lift [0] (by decide) (by simp) (by simp [rowsLe, rowLe, slotsLe, tvLe, TV.ren, AV.ren, C.ren, Dat.ren, Row.ren, TV.hs, AV.hs, C.hs, Dat.hs, get_cons, get_nil, zipSlots, List.getD_cons_zero, List.getD_cons_succ, List.getD_nil, -List.getD_eq_getElem?_getD]) (by simp [rowsLe, rowLe, slotsLe, tvLe, TV.ren, AV.ren, C.ren, Dat.ren, Row.ren, TV.hs, AV.hs, C.hs, Dat.hs, get_cons, get_nil, zipSlots, List.getD_cons_zero, List.getD_cons_succ, List.getD_nil, -List.getD_eq_getElem?_getD]) (by simp [rowsLe, rowLe, slotsLe, tvLe, TV.ren, AV.ren, C.ren, Dat.ren, Row.ren, TV.hs, AV.hs, C.hs, Dat.hs, get_cons, get_nil, zipSlots, List.getD_cons_zero, List.getD_cons_succ, List.getD_nil, -List.getD_eq_getElem?_getD]) rfl ?_⟩
  rintro _ _ ⟨rfl, rfl⟩
  refine ⟨by simp [ownIn, Row.own], ?_⟩
  simp (dsimp := false) only [hv, liftT, liftH, putBack, freshR, ownIn, Row.own, Row.ren, TV.ren, AV.ren, C.ren, Dat.ren, List.drop_succ_cons, List.drop_nil, List.getD_cons_zero, List.getD_cons_succ, List.getD_nil, go_sem, Nat.reduceAdd, Nat.reduceBEq, Nat.reduceEqDiff, Nat.reduceLT, Nat.reduceLeDiff, reduceCtorEq, ↓reduceIte]
  refine afin [0] [aN, aB false] [rI xs] (by simp) rfl (weak_of (by decide) (by simp [rowsLe, rowLe, slotsLe, tvLe, TV.ren, AV.ren, C.ren, Dat.ren, Row.ren, TV.hs, AV.hs, C.hs, Dat.hs, get_cons, get_nil, zipSlots, List.getD_cons_zero, List.getD_cons_succ, List.getD_nil, -List.getD_eq_getElem?_getD])) (by simp [rtv])

theorem iLongestIncreasing_t (xs : List Int) (hx : xs.length ≤ 281474976710656) (hv : validB xs = true) : ACalls Try.prog 43 [tS 0 xs.length] [] [rI xs] (fun t H => t = .tup [aS 1 (lis xs).length, aB true] ∧ H = [rI xs, oI (lis xs)]) := by
  have h64 := validB_len hv
  refine afun (fun i => match i with | 11 => some ⟨[], .op 0 .held (.op 1 .held (.op 2 .held (.op 3 .now (.op 4 .held (.op 5 .held (.op 6 .held (.op 7 .now (.op 8 .held .nil))))))))⟩ | 12 => some ⟨[1], .op 0 .held (.op 1 .held (.op 2 .held (.op 3 .held (.op 4 .held (.op 5 .now (.op 6 .held (.op 7 .held (.op 8 .held (.op 9 .now (.op 10 .held (.op 11 .held (.op 12 .held (.op 13 .only .nil)))))))))))))⟩ | 18 => some ⟨[], .op 0 .held (.op 1 .held (.op 2 .held (.op 3 .held (.op 4 .held (.op 5 .held (.op 6 .held (.op 7 .held (.op 8 .held (.op 9 .held (.op 10 .held (.op 11 .now (.op 12 .held (.op 13 .held (.op 14 .held (.op 15 .held (.op 16 .held (.op 17 .held (.op 18 .now (.op 19 .held (.op 20 .now (.op 21 .held (.op 22 .held (.op 23 .held .nil)))))))))))))))))))))))⟩ | _ => none) [2, 3] 1 Try.func43 rfl rfl mix (by kernel_rfl) (by kernel_rfl) (by simp [Try.f43]) rfl (by simp [msOwn, ownAll, Row.own]) ?_
  simp (dsimp := false) only [go_sem, Nat.reduceAdd, Nat.reduceBEq, Nat.reduceEqDiff, Nat.reduceLT, Nat.reduceLeDiff, reduceCtorEq, ↓reduceIte]
  refine ⟨_, (isValidList_l xs hx).lift [0] (by decide) (by simp) (by simp [rowsLe, rowLe, slotsLe, tvLe, TV.ren, AV.ren, C.ren, Dat.ren, Row.ren, TV.hs, AV.hs, C.hs, Dat.hs, get_cons, get_nil, zipSlots, List.getD_cons_zero, List.getD_cons_succ, List.getD_nil, -List.getD_eq_getElem?_getD]) (by simp [rowsLe, rowLe, slotsLe, tvLe, TV.ren, AV.ren, C.ren, Dat.ren, Row.ren, TV.hs, AV.hs, C.hs, Dat.hs, get_cons, get_nil, zipSlots, List.getD_cons_zero, List.getD_cons_succ, List.getD_nil, -List.getD_eq_getElem?_getD]) (by simp [rowsLe, rowLe, slotsLe, tvLe, TV.ren, AV.ren, C.ren, Dat.ren, Row.ren, TV.hs, AV.hs, C.hs, Dat.hs, get_cons, get_nil, zipSlots, List.getD_cons_zero, List.getD_cons_succ, List.getD_nil, -List.getD_eq_getElem?_getD]) rfl ?_⟩
  rintro _ _ ⟨rfl, rfl⟩
  refine ⟨by simp [ownIn, Row.own], ?_⟩
  simp (dsimp := false) only [hv, liftT, liftH, putBack, freshR, ownIn, Row.own, Row.ren, TV.ren, AV.ren, C.ren, Dat.ren, List.drop_succ_cons, List.drop_nil, List.getD_cons_zero, List.getD_cons_succ, List.getD_nil, go_sem, Nat.reduceAdd, Nat.reduceBEq, Nat.reduceEqDiff, Nat.reduceLT, Nat.reduceLeDiff, reduceCtorEq, ↓reduceIte]
  repeat (refine And.intro (by first | exact True.intro | omega | kernel_rfl | (simp only [List.length_set, List.length_append, List.length_take, List.length_replicate, List.length_cons, true_and, and_true, List.length_nil, tabR_length]; omega)) ?_)
  refine aloop (σ := Nat) (fun c => ([(0, tS 0 xs.length), (4, tS 1 xs.length), (5, tI (lisM xs (xs.length - c))), (6, tI ((c : Int) - 1))], [rI xs, oI (incAll xs (xs.length - c))])) (fun c => c ≤ xs.length) (fun c => c) xs.length [0, 1] (by omega) (weak_of (by decide) (by simp [rowsLe, rowLe, slotsLe, tvLe, TV.ren, AV.ren, C.ren, Dat.ren, Row.ren, TV.hs, AV.hs, C.hs, Dat.hs, get_cons, get_nil, zipSlots, List.getD_cons_zero, List.getD_cons_succ, List.getD_nil, -List.getD_eq_getElem?_getD, lisM, incAll])) ?_
  intro c hc
  match c, hc with
  | 0, hc =>
    simp (dsimp := false) only [Int.natCast_zero, Int.zero_sub, show decide (-1 ≥ (0 : Int)) = false from rfl, Nat.sub_zero, go_sem, Nat.reduceAdd, Nat.reduceBEq, Nat.reduceEqDiff, Nat.reduceLT, Nat.reduceLeDiff, reduceCtorEq, ↓reduceIte]
    have hl := incAll_len xs xs.length
    have hpos := incAll_pos xs xs.length (by omega)
    have hMb := lisM_bd xs xs.length (by omega)
    obtain ⟨L, hL⟩ : ∃ L, L = incAll xs xs.length := ⟨_, rfl⟩
    obtain ⟨M, hM⟩ : ∃ M, M = lisM xs xs.length := ⟨_, rfl⟩
    have elis : lis xs = (lisO xs L M xs.length).1 := by rw [hL, hM]; rfl
    rw [← hL] at hl hpos ⊢
    rw [← hM] at hMb ⊢
    refine aloop (σ := Nat) (fun i => ([(0, tS 0 xs.length), (5, tI (lisO xs L M i).2), (8, tS 2 (lisO xs L M i).1.length), (64, tS 1 xs.length), (65, tI xs.length), (66, tI i)], [rI xs, oI L, oI (lisO xs L M i).1])) (fun i => i ≤ xs.length) (fun i => xs.length - i) 0 [0, 1, 2] (by omega) (weak_of (by decide) (by simp [rowsLe, rowLe, slotsLe, tvLe, TV.ren, AV.ren, C.ren, Dat.ren, Row.ren, TV.hs, AV.hs, C.hs, Dat.hs, get_cons, get_nil, zipSlots, List.getD_cons_zero, List.getD_cons_succ, List.getD_nil, -List.getD_eq_getElem?_getD, lisO])) ?_
    intro i hi
    obtain ⟨b1, b2, b3, b4⟩ := lisO_bd xs L M i
    by_cases h1 : i < xs.length
    · have hd : decide ((i : Int) < xs.length) = true := by simp; omega
      cases c1 : (L.getD i 0 == (lisO xs L M i).2)
      · have e : lisO xs L M (i + 1) = lisO xs L M i := by rw [lisO, c1]; simp
        simp (dsimp := false) only [hd, c1, go_sem, Nat.reduceAdd, Nat.reduceBEq, Nat.reduceEqDiff, Nat.reduceLT, Nat.reduceLeDiff, reduceCtorEq, ↓reduceIte]
        repeat (refine And.intro (by first | exact True.intro | omega | kernel_rfl | (simp only [List.length_set, List.length_append, List.length_take, List.length_replicate, List.length_cons, true_and, and_true, List.length_nil, tabR_length, hl]; omega)) ?_)
        refine ⟨i + 1, [0, 1, 2], ?_, weak_of (by decide) (by simp [rowsLe, rowLe, slotsLe, tvLe, TV.ren, AV.ren, C.ren, Dat.ren, Row.ren, TV.hs, AV.hs, C.hs, Dat.hs, get_cons, get_nil, zipSlots, List.getD_cons_zero, List.getD_cons_succ, List.getD_nil, -List.getD_eq_getElem?_getD, e])⟩
        omega
      · cases c2 : (((lisO xs L M i).1.length : Int) == 0)
        · have hne : ¬ ((lisO xs L M i).1.length : Int) = 0 := by simpa using c2
          have b5 := b4 (((lisO xs L M i).1.length : Int) - 1).toNat (by omega)
          simp (dsimp := false) only [hd, c1, c2, go_sem, Nat.reduceAdd, Nat.reduceBEq, Nat.reduceEqDiff, Nat.reduceLT, Nat.reduceLeDiff, reduceCtorEq, ↓reduceIte]
          repeat (refine And.intro (by first | exact True.intro | omega | kernel_rfl | (simp only [List.length_set, List.length_append, List.length_take, List.length_replicate, List.length_cons, true_and, and_true, List.length_nil, tabR_length, hl]; omega)) ?_)
          refine ⟨fun h => ?_, fun h => ?_⟩
          · have e : lisO xs L M (i + 1) = ((lisO xs L M i).1 ++ [(i : Int)], (lisO xs L M i).2 - 1) := by
              rw [lisO, c1, c2, decide_eq_true (show xs.getD (lastI (lisO xs L M i).1).toNat 0 < xs.getD i 0 from of_decide_eq_true h)]; rfl
            repeat (refine And.intro (by first | exact True.intro | omega | kernel_rfl | (simp only [List.length_set, List.length_append, List.length_take, List.length_replicate, List.length_cons, true_and, and_true, List.length_nil, tabR_length]; omega)) ?_)
            refine ⟨i + 1, [0, 1, 4], ?_, weak_of (by decide) (by simp [rowsLe, rowLe, slotsLe, tvLe, TV.ren, AV.ren, C.ren, Dat.ren, Row.ren, TV.hs, AV.hs, C.hs, Dat.hs, get_cons, get_nil, zipSlots, List.getD_cons_zero, List.getD_cons_succ, List.getD_nil, -List.getD_eq_getElem?_getD, e])⟩
            omega
          · have e : lisO xs L M (i + 1) = lisO xs L M i := by
              rw [lisO, c1, c2, decide_eq_false (show ¬ xs.getD (lastI (lisO xs L M i).1).toNat 0 < xs.getD i 0 from of_decide_eq_false h)]; rfl
            repeat (refine And.intro (by first | exact True.intro | omega | kernel_rfl | (simp only [List.length_set, List.length_append, List.length_take, List.length_replicate, List.length_cons, true_and, and_true, List.length_nil, tabR_length]; omega)) ?_)
            refine ⟨i + 1, [0, 1, 2], ?_, weak_of (by decide) (by simp [rowsLe, rowLe, slotsLe, tvLe, TV.ren, AV.ren, C.ren, Dat.ren, Row.ren, TV.hs, AV.hs, C.hs, Dat.hs, get_cons, get_nil, zipSlots, List.getD_cons_zero, List.getD_cons_succ, List.getD_nil, -List.getD_eq_getElem?_getD, e])⟩
            omega
        · have e : lisO xs L M (i + 1) = ((lisO xs L M i).1 ++ [(i : Int)], (lisO xs L M i).2 - 1) := by
            rw [lisO, c1, c2]; simp
          simp (dsimp := false) only [hd, c1, c2, go_sem, Nat.reduceAdd, Nat.reduceBEq, Nat.reduceEqDiff, Nat.reduceLT, Nat.reduceLeDiff, reduceCtorEq, ↓reduceIte]
          repeat (refine And.intro (by first | exact True.intro | omega | kernel_rfl | (simp only [List.length_set, List.length_append, List.length_take, List.length_replicate, List.length_cons, true_and, and_true, List.length_nil, tabR_length, hl]; omega)) ?_)
          refine ⟨i + 1, [0, 1, 4], ?_, weak_of (by decide) (by simp [rowsLe, rowLe, slotsLe, tvLe, TV.ren, AV.ren, C.ren, Dat.ren, Row.ren, TV.hs, AV.hs, C.hs, Dat.hs, get_cons, get_nil, zipSlots, List.getD_cons_zero, List.getD_cons_succ, List.getD_nil, -List.getD_eq_getElem?_getD, e])⟩
          omega
    · have hd : decide ((i : Int) < xs.length) = false := by simp; omega
      have h1 : i = xs.length := by omega
      subst h1
      simp (dsimp := false) only [hd, go_sem, Nat.reduceAdd, Nat.reduceBEq, Nat.reduceEqDiff, Nat.reduceLT, Nat.reduceLeDiff, reduceCtorEq, ↓reduceIte]
      rw [elis]
      refine afin [0, 2] [aS 1 (lisO xs L M xs.length).1.length, aB true] [rI xs, oI (lisO xs L M xs.length).1] (by simp) rfl (weak_of (by decide) (by simp [rowsLe, rowLe, slotsLe, tvLe, TV.ren, AV.ren, C.ren, Dat.ren, Row.ren, TV.hs, AV.hs, C.hs, Dat.hs, get_cons, get_nil, zipSlots, List.getD_cons_zero, List.getD_cons_succ, List.getD_nil, -List.getD_eq_getElem?_getD])) (by simp [rtv])
  | i + 1, hc =>
    obtain ⟨m, hm⟩ : ∃ m, m = xs.length - (i + 1) := ⟨_, rfl⟩
    have ei : xs.length - (m + 1) = i := by omega
    have em : xs.length - i = m + 1 := by omega
    have ec : ((i + 1 : Nat) : Int) - 1 = (i : Int) := by omega
    have hge : decide ((i : Int) ≥ 0) = true := by simp
    have hbd := incAll_bd xs m (by omega)
    have hl0 := incAll_len xs m
    have hMb := lisM_bd xs m (by omega)
    have e2 : incAll xs (m + 1) = incIn xs i (incAll xs m) m := by rw [incAll, ei]
    have hbd2 := incAll_bd xs (m + 1) (by omega) i
    have e3 : lisM xs (m + 1) = max (lisM xs m) ((incAll xs (m + 1)).getD i 0) := by rw [lisM, ei]
    rw [← hm]
    obtain ⟨L, hL⟩ : ∃ L, L = incAll xs m := ⟨_, rfl⟩
    rw [← hL] at e2 hbd hl0 ⊢
    have hat := incIn_at xs i L m (by omega) (by omega) hbd
    have hl := incIn_len xs i L
    simp (dsimp := false) only [ec, hge, go_sem, Nat.reduceAdd, Nat.reduceBEq, Nat.reduceEqDiff, Nat.reduceLT, Nat.reduceLeDiff, reduceCtorEq, ↓reduceIte]
    repeat (refine And.intro (by first | exact True.intro | omega | kernel_rfl | (simp only [List.length_set, List.length_append, List.length_take, List.length_replicate, List.length_cons, true_and, and_true, List.length_nil, tabR_length, hl0]; omega)) ?_)
    refine aloop (σ := Nat) (fun j => ([(0, tS 0 xs.length), (4, tS 1 xs.length), (5, tI (lisM xs m)), (6, tI i), (7, tI (i + 1 + j : Nat))], [rI xs, oI (incIn xs i L j)])) (fun j => j ≤ m) (fun j => m - j) 0 [0, 1] (by omega) (weak_of (by decide) (by simp [rowsLe, rowLe, slotsLe, tvLe, TV.ren, AV.ren, C.ren, Dat.ren, Row.ren, TV.hs, AV.hs, C.hs, Dat.hs, get_cons, get_nil, zipSlots, List.getD_cons_zero, List.getD_cons_succ, List.getD_nil, -List.getD_eq_getElem?_getD, incIn])) ?_
    intro j hj
    have hlj := hl j
    simp (dsimp := false) only [go_sem, Nat.reduceAdd, Nat.reduceBEq, Nat.reduceEqDiff, Nat.reduceLT, Nat.reduceLeDiff, reduceCtorEq, ↓reduceIte]
    refine ⟨fun hh => ?_, fun hh => ?_⟩
    · have h1 : i + 1 + j < xs.length := by simp at hh; omega
      have hatj := hat j
      have hnj := incIn_ne xs i L (q := i + 1 + j) (by omega) j
      have hbj := hbd (i + 1 + j)
      repeat (refine And.intro (by first | exact True.intro | omega | kernel_rfl | (simp only [List.length_set, List.length_append, List.length_take, List.length_replicate, List.length_cons, true_and, and_true, List.length_nil, tabR_length]; omega)) ?_)
      refine ⟨fun h => ?_, fun h => ?_⟩
      · have e : incIn xs i L (j + 1) = (incIn xs i L j).set i (max ((incIn xs i L j).getD i 0) ((incIn xs i L j).getD (i + 1 + j) 0 + 1)) := by rw [incIn, if_pos (by simpa using h)]
        repeat (refine And.intro (by first | exact True.intro | omega | kernel_rfl | (simp only [List.length_set, List.length_append, List.length_take, List.length_replicate, List.length_cons, true_and, and_true, List.length_nil, tabR_length, hlj, hl0]; omega)) ?_)
        refine ⟨j + 1, [0, 1], ?_, weak_of (by decide) (by simp [rowsLe, rowLe, slotsLe, tvLe, TV.ren, AV.ren, C.ren, Dat.ren, Row.ren, TV.hs, AV.hs, C.hs, Dat.hs, get_cons, get_nil, zipSlots, List.getD_cons_zero, List.getD_cons_succ, List.getD_nil, -List.getD_eq_getElem?_getD, e, Int.add_assoc])⟩
        omega
      · have e : incIn xs i L (j + 1) = incIn xs i L j := by rw [incIn, if_neg (by simpa using h)]
        repeat (refine And.intro (by first | exact True.intro | omega | kernel_rfl | (simp only [List.length_set, List.length_append, List.length_take, List.length_replicate, List.length_cons, true_and, and_true, List.length_nil, tabR_length]; omega)) ?_)
        refine ⟨j + 1, [0, 1], ?_, weak_of (by decide) (by simp [rowsLe, rowLe, slotsLe, tvLe, TV.ren, AV.ren, C.ren, Dat.ren, Row.ren, TV.hs, AV.hs, C.hs, Dat.hs, get_cons, get_nil, zipSlots, List.getD_cons_zero, List.getD_cons_succ, List.getD_nil, -List.getD_eq_getElem?_getD, e, Int.add_assoc])⟩
        omega
    · have h1 : j = m := by simp at hh; omega
      subst h1
      rw [e2] at e3
      repeat (refine And.intro (by first | exact True.intro | omega | kernel_rfl | (simp only [List.length_set, List.length_append, List.length_take, List.length_replicate, List.length_cons, true_and, and_true, List.length_nil, tabR_length, hlj, hl0]; omega)) ?_)
      refine ⟨i, [0, 1], ?_, weak_of (by decide) (by simp [rowsLe, rowLe, slotsLe, tvLe, TV.ren, AV.ren, C.ren, Dat.ren, Row.ren, TV.hs, AV.hs, C.hs, Dat.hs, get_cons, get_nil, zipSlots, List.getD_cons_zero, List.getD_cons_succ, List.getD_nil, -List.getD_eq_getElem?_getD, em, e2, e3])⟩
      omega
theorem sLongestIncreasing_t (xs : List Int) (hx : xs.length ≤ 281474976710656) (hv : validB xs = true) : ACalls Try.prog 42 [tS 0 xs.length] [] [rI xs] (fun t H => t = .tup [aS 1 (lis xs).length, aB true] ∧ H = [rI xs, oI (lis xs)]) := by
  have h64 := validB_len hv
  refine afun (fun i => match i with | 12 => some ⟨[], .op 0 .held (.op 1 .held (.op 2 .held (.op 3 .now (.op 4 .held (.op 5 .held (.op 6 .held (.op 7 .now (.op 8 .held .nil))))))))⟩ | 13 => some ⟨[1], .op 0 .held (.op 1 .held (.op 2 .held (.op 3 .held (.op 4 .held (.op 5 .now (.op 6 .held (.op 7 .held (.op 8 .held (.op 9 .now (.op 10 .held (.op 11 .only (.op 12 .held (.op 13 .only .nil)))))))))))))⟩ | 19 => some ⟨[], .op 0 .held (.op 1 .held (.op 2 .held (.op 3 .now (.op 4 .held (.op 5 .held (.op 6 .held (.op 7 .held (.op 8 .held (.op 9 .held (.op 10 .held (.op 11 .held (.op 12 .held (.op 13 .held (.op 14 .now (.op 15 .held (.op 16 .held (.op 17 .held (.op 18 .held (.op 19 .held (.op 20 .held (.op 21 .now (.op 22 .held (.op 23 .now (.op 24 .held (.op 25 .held (.op 26 .held .nil))))))))))))))))))))))))))⟩ | _ => none) [2, 3] 1 Try.func42 rfl rfl mix (by kernel_rfl) (by kernel_rfl) (by simp [Try.f42]) rfl (by simp [msOwn, ownAll, Row.own]) ?_
  simp (dsimp := false) only [go_sem, Nat.reduceAdd, Nat.reduceBEq, Nat.reduceEqDiff, Nat.reduceLT, Nat.reduceLeDiff, reduceCtorEq, ↓reduceIte]
  refine ⟨_, (l2List_l xs hx).lift [0] (by decide) (by simp) (by simp [rowsLe, rowLe, slotsLe, tvLe, TV.ren, AV.ren, C.ren, Dat.ren, Row.ren, TV.hs, AV.hs, C.hs, Dat.hs, get_cons, get_nil, zipSlots, List.getD_cons_zero, List.getD_cons_succ, List.getD_nil, -List.getD_eq_getElem?_getD]) (by simp [rowsLe, rowLe, slotsLe, tvLe, TV.ren, AV.ren, C.ren, Dat.ren, Row.ren, TV.hs, AV.hs, C.hs, Dat.hs, get_cons, get_nil, zipSlots, List.getD_cons_zero, List.getD_cons_succ, List.getD_nil, -List.getD_eq_getElem?_getD]) (by simp [rowsLe, rowLe, slotsLe, tvLe, TV.ren, AV.ren, C.ren, Dat.ren, Row.ren, TV.hs, AV.hs, C.hs, Dat.hs, get_cons, get_nil, zipSlots, List.getD_cons_zero, List.getD_cons_succ, List.getD_nil, -List.getD_eq_getElem?_getD]) rfl ?_⟩
  rintro _ _ ⟨rfl, rfl⟩
  refine ⟨by simp [ownIn, Row.own], ?_⟩
  simp (dsimp := false) only [hv, liftT, liftH, putBack, freshR, ownIn, Row.own, Row.ren, TV.ren, AV.ren, C.ren, Dat.ren, List.drop_succ_cons, List.drop_nil, List.getD_cons_zero, List.getD_cons_succ, List.getD_nil, go_sem, Nat.reduceAdd, Nat.reduceBEq, Nat.reduceEqDiff, Nat.reduceLT, Nat.reduceLeDiff, reduceCtorEq, ↓reduceIte]
  repeat (refine And.intro (by first | exact True.intro | omega | kernel_rfl | (simp only [List.length_set, List.length_append, List.length_take, List.length_replicate, List.length_cons, true_and, and_true, List.length_nil, tabR_length]; omega)) ?_)
  refine aloop (σ := Nat) (fun c => ([(0, tS 0 xs.length), (4, tS 1 xs.length), (5, tI (lisM xs (xs.length - c))), (6, tI ((c : Int) - 1))], [rI xs, oI (incAll xs (xs.length - c))])) (fun c => c ≤ xs.length) (fun c => c) xs.length [0, 1] (by omega) (weak_of (by decide) (by simp [rowsLe, rowLe, slotsLe, tvLe, TV.ren, AV.ren, C.ren, Dat.ren, Row.ren, TV.hs, AV.hs, C.hs, Dat.hs, get_cons, get_nil, zipSlots, List.getD_cons_zero, List.getD_cons_succ, List.getD_nil, -List.getD_eq_getElem?_getD, lisM, incAll])) ?_
  intro c hc
  match c, hc with
  | 0, hc =>
    simp (dsimp := false) only [Int.natCast_zero, Int.zero_sub, show decide (-1 ≥ (0 : Int)) = false from rfl, Nat.sub_zero, go_sem, Nat.reduceAdd, Nat.reduceBEq, Nat.reduceEqDiff, Nat.reduceLT, Nat.reduceLeDiff, reduceCtorEq, ↓reduceIte]
    have hl := incAll_len xs xs.length
    have hpos := incAll_pos xs xs.length (by omega)
    have hMb := lisM_bd xs xs.length (by omega)
    obtain ⟨L, hL⟩ : ∃ L, L = incAll xs xs.length := ⟨_, rfl⟩
    obtain ⟨M, hM⟩ : ∃ M, M = lisM xs xs.length := ⟨_, rfl⟩
    have elis : lis xs = (lisO xs L M xs.length).1 := by rw [hL, hM]; rfl
    rw [← hL] at hl hpos ⊢
    rw [← hM] at hMb ⊢
    refine aloop (σ := Nat) (fun i => ([(0, tS 0 xs.length), (4, tS 1 xs.length), (5, tI (lisO xs L M i).2), (8, tS 2 (lisO xs L M i).1.length), (9, tI i)], [rI xs, oI L, oI (lisO xs L M i).1])) (fun i => i ≤ xs.length) (fun i => xs.length - i) 0 [0, 1, 2] (by omega) (weak_of (by decide) (by simp [rowsLe, rowLe, slotsLe, tvLe, TV.ren, AV.ren, C.ren, Dat.ren, Row.ren, TV.hs, AV.hs, C.hs, Dat.hs, get_cons, get_nil, zipSlots, List.getD_cons_zero, List.getD_cons_succ, List.getD_nil, -List.getD_eq_getElem?_getD, lisO])) ?_
    intro i hi
    obtain ⟨b1, b2, b3, b4⟩ := lisO_bd xs L M i
    by_cases h1 : i < xs.length
    · have hd : decide ((i : Int) < xs.length) = true := by simp; omega
      by_cases hg : 0 < (lisO xs L M i).2
      · have hgd : decide (0 < (lisO xs L M i).2) = true := by simp; omega
        cases c1 : (L.getD i 0 == (lisO xs L M i).2)
        · have e : lisO xs L M (i + 1) = lisO xs L M i := by rw [lisO, c1]; simp
          simp (dsimp := false) only [hd, hgd, c1, go_sem, Nat.reduceAdd, Nat.reduceBEq, Nat.reduceEqDiff, Nat.reduceLT, Nat.reduceLeDiff, reduceCtorEq, ↓reduceIte]
          repeat (refine And.intro (by first | exact True.intro | omega | kernel_rfl | (simp only [List.length_set, List.length_append, List.length_take, List.length_replicate, List.length_cons, true_and, and_true, List.length_nil, tabR_length, hl]; omega)) ?_)
          refine ⟨i + 1, [0, 1, 2], ?_, weak_of (by decide) (by simp [rowsLe, rowLe, slotsLe, tvLe, TV.ren, AV.ren, C.ren, Dat.ren, Row.ren, TV.hs, AV.hs, C.hs, Dat.hs, get_cons, get_nil, zipSlots, List.getD_cons_zero, List.getD_cons_succ, List.getD_nil, -List.getD_eq_getElem?_getD, e])⟩
          omega
        · cases c2 : (((lisO xs L M i).1.length : Int) == 0)
          · have hne : ¬ ((lisO xs L M i).1.length : Int) = 0 := by simpa using c2
            have b5 := b4 (((lisO xs L M i).1.length : Int) - 1).toNat (by omega)
            simp (dsimp := false) only [hd, hgd, c1, c2, go_sem, Nat.reduceAdd, Nat.reduceBEq, Nat.reduceEqDiff, Nat.reduceLT, Nat.reduceLeDiff, reduceCtorEq, ↓reduceIte]
            repeat (refine And.intro (by first | exact True.intro | omega | kernel_rfl | (simp only [List.length_set, List.length_append, List.length_take, List.length_replicate, List.length_cons, true_and, and_true, List.length_nil, tabR_length, hl]; omega)) ?_)
            refine ⟨fun h => ?_, fun h => ?_⟩
            · have e : lisO xs L M (i + 1) = ((lisO xs L M i).1 ++ [(i : Int)], (lisO xs L M i).2 - 1) := by
                rw [lisO, c1, c2, decide_eq_true (show xs.getD (lastI (lisO xs L M i).1).toNat 0 < xs.getD i 0 from of_decide_eq_true h)]; rfl
              repeat (refine And.intro (by first | exact True.intro | omega | kernel_rfl | (simp only [List.length_set, List.length_append, List.length_take, List.length_replicate, List.length_cons, true_and, and_true, List.length_nil, tabR_length]; omega)) ?_)
              refine ⟨i + 1, [0, 1, 4], ?_, weak_of (by decide) (by simp [rowsLe, rowLe, slotsLe, tvLe, TV.ren, AV.ren, C.ren, Dat.ren, Row.ren, TV.hs, AV.hs, C.hs, Dat.hs, get_cons, get_nil, zipSlots, List.getD_cons_zero, List.getD_cons_succ, List.getD_nil, -List.getD_eq_getElem?_getD, e])⟩
              omega
            · have e : lisO xs L M (i + 1) = lisO xs L M i := by
                rw [lisO, c1, c2, decide_eq_false (show ¬ xs.getD (lastI (lisO xs L M i).1).toNat 0 < xs.getD i 0 from of_decide_eq_false h)]; rfl
              repeat (refine And.intro (by first | exact True.intro | omega | kernel_rfl | (simp only [List.length_set, List.length_append, List.length_take, List.length_replicate, List.length_cons, true_and, and_true, List.length_nil, tabR_length]; omega)) ?_)
              refine ⟨i + 1, [0, 1, 2], ?_, weak_of (by decide) (by simp [rowsLe, rowLe, slotsLe, tvLe, TV.ren, AV.ren, C.ren, Dat.ren, Row.ren, TV.hs, AV.hs, C.hs, Dat.hs, get_cons, get_nil, zipSlots, List.getD_cons_zero, List.getD_cons_succ, List.getD_nil, -List.getD_eq_getElem?_getD, e])⟩
              omega
          · have e : lisO xs L M (i + 1) = ((lisO xs L M i).1 ++ [(i : Int)], (lisO xs L M i).2 - 1) := by
              rw [lisO, c1, c2]; simp
            simp (dsimp := false) only [hd, hgd, c1, c2, go_sem, Nat.reduceAdd, Nat.reduceBEq, Nat.reduceEqDiff, Nat.reduceLT, Nat.reduceLeDiff, reduceCtorEq, ↓reduceIte]
            repeat (refine And.intro (by first | exact True.intro | omega | kernel_rfl | (simp only [List.length_set, List.length_append, List.length_take, List.length_replicate, List.length_cons, true_and, and_true, List.length_nil, tabR_length, hl]; omega)) ?_)
            refine ⟨i + 1, [0, 1, 4], ?_, weak_of (by decide) (by simp [rowsLe, rowLe, slotsLe, tvLe, TV.ren, AV.ren, C.ren, Dat.ren, Row.ren, TV.hs, AV.hs, C.hs, Dat.hs, get_cons, get_nil, zipSlots, List.getD_cons_zero, List.getD_cons_succ, List.getD_nil, -List.getD_eq_getElem?_getD, e])⟩
            omega
      · have hgd : decide (0 < (lisO xs L M i).2) = false := by simp; omega
        have est := lisO_stop xs L M xs.length i (fun q hq => hpos q (by omega) hq) (by omega) (xs.length - i) (by omega)
        rw [show i + (xs.length - i) = xs.length from by omega] at est
        simp (dsimp := false) only [hd, hgd, go_sem, Nat.reduceAdd, Nat.reduceBEq, Nat.reduceEqDiff, Nat.reduceLT, Nat.reduceLeDiff, reduceCtorEq, ↓reduceIte]
        rw [elis, est]
        refine afin [0, 2] [aS 1 (lisO xs L M i).1.length, aB true] [rI xs, oI (lisO xs L M i).1] (by simp) rfl (weak_of (by decide) (by simp [rowsLe, rowLe, slotsLe, tvLe, TV.ren, AV.ren, C.ren, Dat.ren, Row.ren, TV.hs, AV.hs, C.hs, Dat.hs, get_cons, get_nil, zipSlots, List.getD_cons_zero, List.getD_cons_succ, List.getD_nil, -List.getD_eq_getElem?_getD])) (by simp [rtv])
    · have hd : decide ((i : Int) < xs.length) = false := by simp; omega
      have h1 : i = xs.length := by omega
      subst h1
      simp (dsimp := false) only [hd, go_sem, Nat.reduceAdd, Nat.reduceBEq, Nat.reduceEqDiff, Nat.reduceLT, Nat.reduceLeDiff, reduceCtorEq, ↓reduceIte]
      rw [elis]
      refine afin [0, 2] [aS 1 (lisO xs L M xs.length).1.length, aB true] [rI xs, oI (lisO xs L M xs.length).1] (by simp) rfl (weak_of (by decide) (by simp [rowsLe, rowLe, slotsLe, tvLe, TV.ren, AV.ren, C.ren, Dat.ren, Row.ren, TV.hs, AV.hs, C.hs, Dat.hs, get_cons, get_nil, zipSlots, List.getD_cons_zero, List.getD_cons_succ, List.getD_nil, -List.getD_eq_getElem?_getD])) (by simp [rtv])
  | i + 1, hc =>
    obtain ⟨m, hm⟩ : ∃ m, m = xs.length - (i + 1) := ⟨_, rfl⟩
    have ei : xs.length - (m + 1) = i := by omega
    have em : xs.length - i = m + 1 := by omega
    have ec : ((i + 1 : Nat) : Int) - 1 = (i : Int) := by omega
    have hge : decide ((i : Int) ≥ 0) = true := by simp
    have hbd := incAll_bd xs m (by omega)
    have hl0 := incAll_len xs m
    have hMb := lisM_bd xs m (by omega)
    have e2 : incAll xs (m + 1) = incIn xs i (incAll xs m) m := by rw [incAll, ei]
    have hbd2 := incAll_bd xs (m + 1) (by omega) i
    have e3 : lisM xs (m + 1) = max (lisM xs m) ((incAll xs (m + 1)).getD i 0) := by rw [lisM, ei]
    rw [← hm]
    obtain ⟨L, hL⟩ : ∃ L, L = incAll xs m := ⟨_, rfl⟩
    rw [← hL] at e2 hbd hl0 ⊢
    have hat := incIn_at xs i L m (by omega) (by omega) hbd
    have hl := incIn_len xs i L
    simp (dsimp := false) only [ec, hge, go_sem, Nat.reduceAdd, Nat.reduceBEq, Nat.reduceEqDiff, Nat.reduceLT, Nat.reduceLeDiff, reduceCtorEq, ↓reduceIte]
    repeat (refine And.intro (by first | exact True.intro | omega | kernel_rfl | (simp only [List.length_set, List.length_append, List.length_take, List.length_replicate, List.length_cons, true_and, and_true, List.length_nil, tabR_length, hl0]; omega)) ?_)
    refine aloop (σ := Nat) (fun j => ([(0, tS 0 xs.length), (4, tS 1 xs.length), (5, tI (lisM xs m)), (6, tI i), (7, tI (i + 1 + j : Nat))], [rI xs, oI (incIn xs i L j)])) (fun j => j ≤ m) (fun j => m - j) 0 [0, 1] (by omega) (weak_of (by decide) (by simp [rowsLe, rowLe, slotsLe, tvLe, TV.ren, AV.ren, C.ren, Dat.ren, Row.ren, TV.hs, AV.hs, C.hs, Dat.hs, get_cons, get_nil, zipSlots, List.getD_cons_zero, List.getD_cons_succ, List.getD_nil, -List.getD_eq_getElem?_getD, incIn])) ?_
    intro j hj
    have hlj := hl j
    simp (dsimp := false) only [go_sem, Nat.reduceAdd, Nat.reduceBEq, Nat.reduceEqDiff, Nat.reduceLT, Nat.reduceLeDiff, reduceCtorEq, ↓reduceIte]
    refine ⟨fun hh => ?_, fun hh => ?_⟩
    · have h1 : i + 1 + j < xs.length := by simp at hh; omega
      have hatj := hat j
      have hnj := incIn_ne xs i L (q := i + 1 + j) (by omega) j
      have hbj := hbd (i + 1 + j)
      repeat (refine And.intro (by first | exact True.intro | omega | kernel_rfl | (simp only [List.length_set, List.length_append, List.length_take, List.length_replicate, List.length_cons, true_and, and_true, List.length_nil, tabR_length]; omega)) ?_)
      refine ⟨fun h => ?_, fun h => ?_⟩
      · have e : incIn xs i L (j + 1) = (incIn xs i L j).set i (max ((incIn xs i L j).getD i 0) ((incIn xs i L j).getD (i + 1 + j) 0 + 1)) := by rw [incIn, if_pos (by simpa using h)]
        repeat (refine And.intro (by first | exact True.intro | omega | kernel_rfl | (simp only [List.length_set, List.length_append, List.length_take, List.length_replicate, List.length_cons, true_and, and_true, List.length_nil, tabR_length, hlj, hl0]; omega)) ?_)
        refine ⟨_, And.intro ?_ ((l1Most_l ((incIn xs i L j).getD i 0) ((incIn xs i L j).getD (i + 1 + j) 0 + 1)).lift [] (by decide) (by simp) (by simp [rowsLe, rowLe, slotsLe, tvLe, TV.ren, AV.ren, C.ren, Dat.ren, Row.ren, TV.hs, AV.hs, C.hs, Dat.hs, get_cons, get_nil, zipSlots, List.getD_cons_zero, List.getD_cons_succ, List.getD_nil, -List.getD_eq_getElem?_getD]) (by simp [rowsLe, rowLe, slotsLe, tvLe, TV.ren, AV.ren, C.ren, Dat.ren, Row.ren, TV.hs, AV.hs, C.hs, Dat.hs, get_cons, get_nil, zipSlots, List.getD_cons_zero, List.getD_cons_succ, List.getD_nil, -List.getD_eq_getElem?_getD]) (by simp [rowsLe, rowLe, slotsLe, tvLe, TV.ren, AV.ren, C.ren, Dat.ren, Row.ren, TV.hs, AV.hs, C.hs, Dat.hs, get_cons, get_nil, zipSlots, List.getD_cons_zero, List.getD_cons_succ, List.getD_nil, -List.getD_eq_getElem?_getD]) rfl ?_)⟩
        · simp [msIn]
        rintro _ _ ⟨rfl, rfl⟩
        refine ⟨by simp [ownIn, Row.own], ?_⟩
        simp (dsimp := false) only [e, liftT, liftH, putBack, freshR, ownIn, Row.own, Row.ren, TV.ren, AV.ren, C.ren, Dat.ren, List.drop_succ_cons, List.drop_nil, List.getD_cons_zero, List.getD_cons_succ, List.getD_nil, go_sem, Nat.reduceAdd, Nat.reduceBEq, Nat.reduceEqDiff, Nat.reduceLT, Nat.reduceLeDiff, reduceCtorEq, ↓reduceIte]
        repeat (refine And.intro (by first | exact True.intro | omega | kernel_rfl | (simp only [List.length_set, List.length_append, List.length_take, List.length_replicate, List.length_cons, true_and, and_true, List.length_nil, tabR_length, hlj, hl0]; omega)) ?_)
        refine ⟨j + 1, [0, 1], ?_, weak_of (by decide) (by simp [rowsLe, rowLe, slotsLe, tvLe, TV.ren, AV.ren, C.ren, Dat.ren, Row.ren, TV.hs, AV.hs, C.hs, Dat.hs, get_cons, get_nil, zipSlots, List.getD_cons_zero, List.getD_cons_succ, List.getD_nil, -List.getD_eq_getElem?_getD, e, Int.add_assoc])⟩
        omega
      · have e : incIn xs i L (j + 1) = incIn xs i L j := by rw [incIn, if_neg (by simpa using h)]
        repeat (refine And.intro (by first | exact True.intro | omega | kernel_rfl | (simp only [List.length_set, List.length_append, List.length_take, List.length_replicate, List.length_cons, true_and, and_true, List.length_nil, tabR_length]; omega)) ?_)
        refine ⟨j + 1, [0, 1], ?_, weak_of (by decide) (by simp [rowsLe, rowLe, slotsLe, tvLe, TV.ren, AV.ren, C.ren, Dat.ren, Row.ren, TV.hs, AV.hs, C.hs, Dat.hs, get_cons, get_nil, zipSlots, List.getD_cons_zero, List.getD_cons_succ, List.getD_nil, -List.getD_eq_getElem?_getD, e, Int.add_assoc])⟩
        omega
    · have h1 : j = m := by simp at hh; omega
      subst h1
      rw [e2] at e3
      repeat (refine And.intro (by first | exact True.intro | omega | kernel_rfl | (simp only [List.length_set, List.length_append, List.length_take, List.length_replicate, List.length_cons, true_and, and_true, List.length_nil, tabR_length, hlj, hl0]; omega)) ?_)
      refine ⟨_, (l1Most_l (lisM xs j) ((incIn xs i L j).getD i 0)).lift [] (by decide) (by simp) (by simp [rowsLe, rowLe, slotsLe, tvLe, TV.ren, AV.ren, C.ren, Dat.ren, Row.ren, TV.hs, AV.hs, C.hs, Dat.hs, get_cons, get_nil, zipSlots, List.getD_cons_zero, List.getD_cons_succ, List.getD_nil, -List.getD_eq_getElem?_getD]) (by simp [rowsLe, rowLe, slotsLe, tvLe, TV.ren, AV.ren, C.ren, Dat.ren, Row.ren, TV.hs, AV.hs, C.hs, Dat.hs, get_cons, get_nil, zipSlots, List.getD_cons_zero, List.getD_cons_succ, List.getD_nil, -List.getD_eq_getElem?_getD]) (by simp [rowsLe, rowLe, slotsLe, tvLe, TV.ren, AV.ren, C.ren, Dat.ren, Row.ren, TV.hs, AV.hs, C.hs, Dat.hs, get_cons, get_nil, zipSlots, List.getD_cons_zero, List.getD_cons_succ, List.getD_nil, -List.getD_eq_getElem?_getD]) rfl ?_⟩
      rintro _ _ ⟨rfl, rfl⟩
      refine ⟨by simp [ownIn, Row.own], ?_⟩
      simp (dsimp := false) only [e2, liftT, liftH, putBack, freshR, ownIn, Row.own, Row.ren, TV.ren, AV.ren, C.ren, Dat.ren, List.drop_succ_cons, List.drop_nil, List.getD_cons_zero, List.getD_cons_succ, List.getD_nil, go_sem, Nat.reduceAdd, Nat.reduceBEq, Nat.reduceEqDiff, Nat.reduceLT, Nat.reduceLeDiff, reduceCtorEq, ↓reduceIte]
      repeat (refine And.intro (by first | exact True.intro | omega | kernel_rfl | (simp only [List.length_set, List.length_append, List.length_take, List.length_replicate, List.length_cons, true_and, and_true, List.length_nil, tabR_length]; omega)) ?_)
      refine ⟨i, [0, 1], ?_, weak_of (by decide) (by simp [rowsLe, rowLe, slotsLe, tvLe, TV.ren, AV.ren, C.ren, Dat.ren, Row.ren, TV.hs, AV.hs, C.hs, Dat.hs, get_cons, get_nil, zipSlots, List.getD_cons_zero, List.getD_cons_succ, List.getD_nil, -List.getD_eq_getElem?_getD, em, e2, e3])⟩
      omega
end Go.Proofs.Ytgbmbkhljmkkjaa
