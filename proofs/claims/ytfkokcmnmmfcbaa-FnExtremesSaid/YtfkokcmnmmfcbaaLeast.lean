/- Contract: the lesser of two numbers. -/
import Derived.Test.YtfkokcmnmmfcbaaAxTy
set_option linter.unusedSimpArgs false
set_option linter.unusedVariables false
set_option linter.unusedSectionVars false
namespace Go.Proofs.Ytfkokcmnmmfcbaa
open Go Go.Ax
set_option maxRecDepth 10000

theorem l1Least_l (a b : Int) : ACalls Try.prog 17 [tI a, tI b] [] [] (fun t H => t = tI (min a b) ∧ H = []) := by
  refine afun (fun _ => none) [4] 0 Try.func17 rfl rfl mix (by kernel_rfl) (by kernel_rfl) (by simp [Try.f17]) rfl (by simp [msOwn, ownAll, Row.own]) ?_
  by_cases h : a < b
  · have hd : decide (a < b) = true := decide_eq_true h
    simp (dsimp := false) only [hd, go_sem, Nat.reduceAdd, Nat.reduceBEq, Nat.reduceEqDiff, Nat.reduceLT, Nat.reduceLeDiff, reduceCtorEq, ↓reduceIte]
    have e : min a b = a := by omega
    refine afin [] [aI a] [] (by simp) rfl (weak_of (by decide) (by simp [RS.slot, List.map_cons, List.map_nil, rowsLe, rowLe, slotsLe, tvLe, TV.ren, AV.ren, C.ren, Dat.ren, Row.ren, TV.hs, AV.hs, C.hs, Dat.hs, get_cons, get_nil, zipSlots, List.getD_cons_zero, List.getD_cons_succ, List.getD_nil, -List.getD_eq_getElem?_getD, e])) (by simp [rtv, e, -List.getD_eq_getElem?_getD])
  · have hd : decide (a < b) = false := decide_eq_false h
    simp (dsimp := false) only [hd, go_sem, Nat.reduceAdd, Nat.reduceBEq, Nat.reduceEqDiff, Nat.reduceLT, Nat.reduceLeDiff, reduceCtorEq, ↓reduceIte]
    have e : min a b = b := by omega
    refine afin [] [aI b] [] (by simp) rfl (weak_of (by decide) (by simp [RS.slot, List.map_cons, List.map_nil, rowsLe, rowLe, slotsLe, tvLe, TV.ren, AV.ren, C.ren, Dat.ren, Row.ren, TV.hs, AV.hs, C.hs, Dat.hs, get_cons, get_nil, zipSlots, List.getD_cons_zero, List.getD_cons_succ, List.getD_nil, -List.getD_eq_getElem?_getD, e])) (by simp [rtv, e, -List.getD_eq_getElem?_getD])

end Go.Proofs.Ytfkokcmnmmfcbaa
