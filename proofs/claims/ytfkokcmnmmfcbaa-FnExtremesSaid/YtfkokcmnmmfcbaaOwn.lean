/- Contracts: copies, exchanges. -/
import Derived.Test.YtfkokcmnmmfcbaaVal
set_option linter.unusedSimpArgs false
set_option linter.unusedVariables false
set_option linter.unusedSectionVars false
namespace Go.Proofs.Ytfkokcmnmmfcbaa
open Go Go.Ax
set_option maxRecDepth 10000

theorem copyOf_part (xs : List Int) (o n : Nat) (h : o + n ≤ xs.length) (hx : n ≤ 281474976710) : ACalls Try.prog 33 [tO 0 o n] [] [rI xs] (fun t H => t = tS 1 n ∧ H = [rI xs, oI ((xs.drop o).take n)]) := by
  refine afun (fun _ => none) [2] 1 Try.func33 rfl rfl mix (by kernel_rfl) (by kernel_rfl) (by simp [Try.f33]) rfl (by simp [msOwn, ownAll, Row.own]) ?_
  simp (dsimp := false) only [go_sem, Nat.reduceAdd, Nat.reduceBEq, Nat.reduceEqDiff, Nat.reduceLT, Nat.reduceLeDiff, reduceCtorEq, ↓reduceIte]
  repeat (refine And.intro (by first | exact True.intro | omega | kernel_rfl | (simp only [List.length_set, List.length_append, List.length_take, List.length_replicate, List.length_cons, true_and, and_true, List.length_nil, tabR_length]; omega)) ?_)
  refine afin [0, 2] [aS 1 n] [rI xs, oI ((xs.drop o).take n)] (by simp) rfl (weak_of (by decide) (by simp [RS.slot, List.map_cons, List.map_nil, rowsLe, rowLe, slotsLe, tvLe, TV.ren, AV.ren, C.ren, Dat.ren, Row.ren, TV.hs, AV.hs, C.hs, Dat.hs, get_cons, get_nil, zipSlots, List.getD_cons_zero, List.getD_cons_succ, List.getD_nil, -List.getD_eq_getElem?_getD])) (by simp [rtv])

theorem copyOf_l (xs : List Int) (hx : xs.length ≤ 281474976710) : ACalls Try.prog 33 [tS 0 xs.length] [] [rI xs] (fun t H => t = tS 1 xs.length ∧ H = [rI xs, oI xs]) :=
  (copyOf_part xs 0 xs.length (by omega) hx).mono fun t H h => by simpa using h

theorem l1Own_part (xs : List Int) (o n : Nat) (h : o + n ≤ xs.length) (hx : n ≤ 281474976710) : ACalls Try.prog 42 [tO 0 o n] [] [rI xs] (fun t H => t = tS 1 n ∧ H = [rI xs, oI ((xs.drop o).take n)]) := by
  refine afun (fun _ => none) [2] 1 Try.func42 rfl rfl mix (by kernel_rfl) (by kernel_rfl) (by simp [Try.f42]) rfl (by simp [msOwn, ownAll, Row.own]) ?_
  simp (dsimp := false) only [go_sem, Nat.reduceAdd, Nat.reduceBEq, Nat.reduceEqDiff, Nat.reduceLT, Nat.reduceLeDiff, reduceCtorEq, ↓reduceIte]
  repeat (refine And.intro (by first | exact True.intro | omega | kernel_rfl | (simp only [List.length_set, List.length_append, List.length_take, List.length_replicate, List.length_cons, true_and, and_true, List.length_nil, tabR_length]; omega)) ?_)
  refine afin [0, 2] [aS 1 n] [rI xs, oI ((xs.drop o).take n)] (by simp) rfl (weak_of (by decide) (by simp [RS.slot, List.map_cons, List.map_nil, rowsLe, rowLe, slotsLe, tvLe, TV.ren, AV.ren, C.ren, Dat.ren, Row.ren, TV.hs, AV.hs, C.hs, Dat.hs, get_cons, get_nil, zipSlots, List.getD_cons_zero, List.getD_cons_succ, List.getD_nil, -List.getD_eq_getElem?_getD])) (by simp [rtv])

theorem l1Own_l (xs : List Int) (hx : xs.length ≤ 281474976710) : ACalls Try.prog 42 [tS 0 xs.length] [] [rI xs] (fun t H => t = tS 1 xs.length ∧ H = [rI xs, oI xs]) :=
  (l1Own_part xs 0 xs.length (by omega) hx).mono fun t H h => by simpa using h

/-- Two elements exchanged. -/
def swp (zs : List Int) (a b : Nat) : List Int := (zs.set a (zs.getD b 0)).set b (zs.getD a 0)
theorem swp_len (zs : List Int) (a b : Nat) : (swp zs a b).length = zs.length := by simp [swp]

end Go.Proofs.Ytfkokcmnmmfcbaa
