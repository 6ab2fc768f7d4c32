/- Contracts: bounds and digits, in the program and in the reference. -/
import Derived.Test.YtfkokcmnmmfcbaaAxTy
import Derived.Test.YtfkokcmnmmfcbaaPl
set_option linter.unusedSimpArgs false
set_option linter.unusedVariables false
set_option linter.unusedSectionVars false
namespace Go.Proofs.Ytfkokcmnmmfcbaa
open Go Go.Ax
set_option maxRecDepth 10000

def inB (x a b : Int) : Bool := decide (a ≤ x) && decide (x ≤ b)

theorem l1In_l (x a b : Int) : ACalls Try.prog 30 [tI x, tI a, tI b] [] [] (fun t H => t = tB (inB x a b) ∧ H = []) := by
  refine afun (fun _ => none) [6] 0 Try.func30 rfl rfl mix (by kernel_rfl) (by kernel_rfl) (by simp [Try.f30]) rfl (by simp [msOwn, ownAll, Row.own]) ?_
  unfold inB
  by_cases h1 : a ≤ x
  · simp (dsimp := false) only [go_sem, Nat.reduceAdd, Nat.reduceBEq, Nat.reduceEqDiff, Nat.reduceLT, Nat.reduceLeDiff, reduceCtorEq, ↓reduceIte, h1, decide_true, Bool.true_and]
    refine afin [] [aB (decide (x ≤ b))] [] (by simp) rfl (weak_of (by decide) (by simp [RS.slot, List.map_cons, List.map_nil, rowsLe, rowLe, slotsLe, tvLe, TV.ren, AV.ren, C.ren, Dat.ren, Row.ren, TV.hs, AV.hs, C.hs, Dat.hs, get_cons, get_nil, zipSlots, List.getD_cons_zero, List.getD_cons_succ, List.getD_nil, -List.getD_eq_getElem?_getD, h1])) (by simp [rtv, h1, -List.getD_eq_getElem?_getD])
  · simp (dsimp := false) only [go_sem, Nat.reduceAdd, Nat.reduceBEq, Nat.reduceEqDiff, Nat.reduceLT, Nat.reduceLeDiff, reduceCtorEq, ↓reduceIte, h1, decide_false, Bool.false_and]
    refine afin [] [aB false] [] (by simp) rfl (weak_of (by decide) (by simp [RS.slot, List.map_cons, List.map_nil, rowsLe, rowLe, slotsLe, tvLe, TV.ren, AV.ren, C.ren, Dat.ren, Row.ren, TV.hs, AV.hs, C.hs, Dat.hs, get_cons, get_nil, zipSlots, List.getD_cons_zero, List.getD_cons_succ, List.getD_nil, -List.getD_eq_getElem?_getD, h1])) (by simp [rtv, h1, -List.getD_eq_getElem?_getD])

theorem in_l (x a b : Int) : ACalls Try.prog 28 [tI x, tI a, tI b] [] [] (fun t H => t = tB (inB x a b) ∧ H = []) := by
  refine afun (fun _ => none) [6] 0 Try.func28 rfl rfl mix (by kernel_rfl) (by kernel_rfl) (by simp [Try.f28]) rfl (by simp [msOwn, ownAll, Row.own]) ?_
  unfold inB
  by_cases h1 : a ≤ x
  · simp (dsimp := false) only [go_sem, Nat.reduceAdd, Nat.reduceBEq, Nat.reduceEqDiff, Nat.reduceLT, Nat.reduceLeDiff, reduceCtorEq, ↓reduceIte, h1, decide_true, Bool.true_and]
    refine afin [] [aB (decide (x ≤ b))] [] (by simp) rfl (weak_of (by decide) (by simp [RS.slot, List.map_cons, List.map_nil, rowsLe, rowLe, slotsLe, tvLe, TV.ren, AV.ren, C.ren, Dat.ren, Row.ren, TV.hs, AV.hs, C.hs, Dat.hs, get_cons, get_nil, zipSlots, List.getD_cons_zero, List.getD_cons_succ, List.getD_nil, -List.getD_eq_getElem?_getD, h1])) (by simp [rtv, h1, -List.getD_eq_getElem?_getD])
  · simp (dsimp := false) only [go_sem, Nat.reduceAdd, Nat.reduceBEq, Nat.reduceEqDiff, Nat.reduceLT, Nat.reduceLeDiff, reduceCtorEq, ↓reduceIte, h1, decide_false, Bool.false_and]
    refine afin [] [aB false] [] (by simp) rfl (weak_of (by decide) (by simp [RS.slot, List.map_cons, List.map_nil, rowsLe, rowLe, slotsLe, tvLe, TV.ren, AV.ren, C.ren, Dat.ren, Row.ren, TV.hs, AV.hs, C.hs, Dat.hs, get_cons, get_nil, zipSlots, List.getD_cons_zero, List.getD_cons_succ, List.getD_nil, -List.getD_eq_getElem?_getD, h1])) (by simp [rtv, h1, -List.getD_eq_getElem?_getD])

theorem isKey_l (x : Int) : ACalls Try.prog 32 [tI x] [] [] (fun t H => t = tB (inB x (-100000) 100000) ∧ H = []) := by
  refine afun (fun _ => none) [2] 0 Try.func32 rfl rfl mix (by kernel_rfl) (by kernel_rfl) (by simp [Try.f32]) rfl (by simp [msOwn, ownAll, Row.own]) ?_
  simp (dsimp := false) only [go_sem, Nat.reduceAdd, Nat.reduceBEq, Nat.reduceEqDiff, Nat.reduceLT, Nat.reduceLeDiff, reduceCtorEq, ↓reduceIte]
  repeat (refine And.intro (by first | exact True.intro | omega | kernel_rfl | (simp only [List.length_set, List.length_append, List.length_take, List.length_replicate, List.length_cons, true_and, and_true, List.length_nil, tabR_length]; omega)) ?_)
  refine ⟨_, (in_l x (-100000) 100000).lift [] (by decide) (by simp) (by simp [RS.slot, List.map_cons, List.map_nil, rowsLe, rowLe, slotsLe, tvLe, TV.ren, AV.ren, C.ren, Dat.ren, Row.ren, TV.hs, AV.hs, C.hs, Dat.hs, get_cons, get_nil, zipSlots, List.getD_cons_zero, List.getD_cons_succ, List.getD_nil, -List.getD_eq_getElem?_getD]) (by simp [RS.slot, List.map_cons, List.map_nil, rowsLe, rowLe, slotsLe, tvLe, TV.ren, AV.ren, C.ren, Dat.ren, Row.ren, TV.hs, AV.hs, C.hs, Dat.hs, get_cons, get_nil, zipSlots, List.getD_cons_zero, List.getD_cons_succ, List.getD_nil, -List.getD_eq_getElem?_getD]) (by simp [RS.slot, List.map_cons, List.map_nil, rowsLe, rowLe, slotsLe, tvLe, TV.ren, AV.ren, C.ren, Dat.ren, Row.ren, TV.hs, AV.hs, C.hs, Dat.hs, get_cons, get_nil, zipSlots, List.getD_cons_zero, List.getD_cons_succ, List.getD_nil, -List.getD_eq_getElem?_getD]) rfl ?_⟩
  rintro _ _ ⟨rfl, rfl⟩
  refine ⟨by simp [ownIn, Row.own], ?_⟩
  simp (dsimp := false) only [liftT, liftH, putBack, freshR, ownIn, Row.own, Row.ren, TV.ren, AV.ren, C.ren, Dat.ren, List.drop_succ_cons, List.drop_nil, List.getD_cons_zero, List.getD_cons_succ, List.getD_nil, go_sem, Nat.reduceAdd, Nat.reduceBEq, Nat.reduceEqDiff, Nat.reduceLT, Nat.reduceLeDiff, reduceCtorEq, ↓reduceIte]
  refine afin [] [aB (inB x (-100000) 100000)] [] (by simp) rfl (weak_of (by decide) (by simp [RS.slot, List.map_cons, List.map_nil, rowsLe, rowLe, slotsLe, tvLe, TV.ren, AV.ren, C.ren, Dat.ren, Row.ren, TV.hs, AV.hs, C.hs, Dat.hs, get_cons, get_nil, zipSlots, List.getD_cons_zero, List.getD_cons_succ, List.getD_nil, -List.getD_eq_getElem?_getD])) (by simp [rtv])

/-- The digit by repeated division. -/
def divs (n b : Int) : Nat → Int
  | 0 => n
  | k + 1 => (divs n b k).tdiv b

theorem divs_bd (n b : Int) (h0 : 0 ≤ n) (h1 : n ≤ 1000000) (hb : 2 ≤ b) : ∀ k, 0 ≤ divs n b k ∧ divs n b k ≤ 1000000
  | 0 => ⟨h0, h1⟩
  | k + 1 => by
    obtain ⟨a, c⟩ := divs_bd n b h0 h1 hb k
    simp only [divs]
    rw [Int.tdiv_eq_ediv_of_nonneg a]
    exact ⟨Int.ediv_nonneg a (by omega), by have := Int.ediv_le_self b a; omega⟩

def digitF (key base place : Int) : Int := (divs (key + 100000) base place.toNat).tmod base

def digitOf (key base place : Int) : List AV := cond (inB key (-100000) 100000) (cond (inB base 2 256 && inB place 0 17) [aI (digitF key base place), aB true] [aI 0, aB false]) [aI 0, aB false]

end Go.Proofs.Ytfkokcmnmmfcbaa
