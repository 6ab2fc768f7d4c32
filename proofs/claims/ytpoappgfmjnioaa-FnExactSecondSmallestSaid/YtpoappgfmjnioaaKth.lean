/- Contracts: selection by sorting. -/
import Derived.Test.YtpoappgfmjnioaaSortL
import Derived.Test.YtpoappgfmjnioaaSortB
import Derived.Test.YtpoappgfmjnioaaSrt
import Derived.Test.YtpoappgfmjnioaaSel
import Derived.Shelf.Slices.In.SortNone
import Derived.Shelf.Sort.Plain
set_option linter.unusedSimpArgs false
set_option linter.unusedVariables false
set_option linter.unusedSectionVars false
namespace Go.Proofs.Ytpoappgfmjnioaa
open Go Go.Ax
set_option maxRecDepth 10000
set_option maxHeartbeats 1000000

theorem sort_l (xs : List Int) (hx : xs.length ≤ 281474976710656) : ACalls Try.prog 87 [tS 0 xs.length] [0] [oI xs] (fun t H => t = .tup [] ∧ H = [oI (srtL xs)]) :=
  sort_abs ⟨_, Try.func87, by kernel_rfl, by kernel_rfl⟩ (fun p cap w => Any.slices_Sort_int_none Try.lays189 p cap w) (fun blk off cap zs w h1 h2 h3 => Any.slices_Sort_int Try.lays189 blk off cap zs w h1 h2 h3) xs hx

theorem sorted_l (xs : List Int) (o n : Nat) (hl : o + n ≤ xs.length) (hN : n ≤ 281474976710) : ACalls Try.prog 70 [tO 0 o n] [] [rI xs] (fun t H => t = tS 1 n ∧ H = [rI xs, oI (srtL (seg xs o n))]) := by
  have hc := copyOf_part xs o n hl hN
  rw [seg_eq hl] at hc
  have hs := sort_l (seg xs o n) (by rw [seg_len]; omega)
  rw [seg_len] at hs
  refine afun (fun _ => none) [2] 1 Try.func70 rfl rfl mix (by kernel_rfl) (by kernel_rfl) (by simp [Try.f70]) rfl (by simp [msOwn, ownAll, Row.own]) ?_
  simp (dsimp := false) only [go_sem, Nat.reduceAdd, Nat.reduceBEq, Nat.reduceEqDiff, Nat.reduceLT, Nat.reduceLeDiff, reduceCtorEq, ↓reduceIte]
  repeat (refine And.intro (by first | exact True.intro | omega | kernel_rfl | (simp only [List.length_set, List.length_append, List.length_take, List.length_replicate, List.length_cons, true_and, and_true, List.length_nil, tabR_length]; omega)) ?_)
  refine ⟨_, (hc).lift [0] (by decide) (by simp) (by simp [RS.slot, List.map_cons, List.map_nil, rowsLe, rowLe, slotsLe, tvLe, TV.ren, AV.ren, C.ren, Dat.ren, Row.ren, TV.hs, AV.hs, C.hs, Dat.hs, get_cons, get_nil, zipSlots, List.getD_cons_zero, List.getD_cons_succ, List.getD_nil, -List.getD_eq_getElem?_getD]) (by simp [RS.slot, List.map_cons, List.map_nil, rowsLe, rowLe, slotsLe, tvLe, TV.ren, AV.ren, C.ren, Dat.ren, Row.ren, TV.hs, AV.hs, C.hs, Dat.hs, get_cons, get_nil, zipSlots, List.getD_cons_zero, List.getD_cons_succ, List.getD_nil, -List.getD_eq_getElem?_getD]) (by simp [RS.slot, List.map_cons, List.map_nil, rowsLe, rowLe, slotsLe, tvLe, TV.ren, AV.ren, C.ren, Dat.ren, Row.ren, TV.hs, AV.hs, C.hs, Dat.hs, get_cons, get_nil, zipSlots, List.getD_cons_zero, List.getD_cons_succ, List.getD_nil, -List.getD_eq_getElem?_getD]) rfl ?_⟩
  rintro _ _ ⟨rfl, rfl⟩
  refine ⟨by simp [ownIn, Row.own], ?_⟩
  simp (dsimp := false) only [liftT, liftH, putBack, freshR, ownIn, Row.own, Row.ren, TV.ren, AV.ren, C.ren, Dat.ren, List.drop_succ_cons, List.drop_nil, List.getD_cons_zero, List.getD_cons_succ, List.getD_nil, go_sem, Nat.reduceAdd, Nat.reduceBEq, Nat.reduceEqDiff, Nat.reduceLT, Nat.reduceLeDiff, reduceCtorEq, ↓reduceIte]
  repeat (refine And.intro (by first | exact True.intro | omega | kernel_rfl | (simp only [List.length_set, List.length_append, List.length_take, List.length_replicate, List.length_cons, true_and, and_true, List.length_nil, tabR_length]; omega)) ?_)
  refine ⟨_, (hs).lift [1] (by decide) (by simp) (by simp [RS.slot, List.map_cons, List.map_nil, rowsLe, rowLe, slotsLe, tvLe, TV.ren, AV.ren, C.ren, Dat.ren, Row.ren, TV.hs, AV.hs, C.hs, Dat.hs, get_cons, get_nil, zipSlots, List.getD_cons_zero, List.getD_cons_succ, List.getD_nil, -List.getD_eq_getElem?_getD]) (by simp [RS.slot, List.map_cons, List.map_nil, rowsLe, rowLe, slotsLe, tvLe, TV.ren, AV.ren, C.ren, Dat.ren, Row.ren, TV.hs, AV.hs, C.hs, Dat.hs, get_cons, get_nil, zipSlots, List.getD_cons_zero, List.getD_cons_succ, List.getD_nil, -List.getD_eq_getElem?_getD]) (by simp [RS.slot, List.map_cons, List.map_nil, rowsLe, rowLe, slotsLe, tvLe, TV.ren, AV.ren, C.ren, Dat.ren, Row.ren, TV.hs, AV.hs, C.hs, Dat.hs, get_cons, get_nil, zipSlots, List.getD_cons_zero, List.getD_cons_succ, List.getD_nil, -List.getD_eq_getElem?_getD]) rfl ?_⟩
  rintro _ _ ⟨rfl, rfl⟩
  refine ⟨by simp [ownIn, Row.own], ?_⟩
  simp (dsimp := false) only [liftT, liftH, putBack, freshR, ownIn, Row.own, Row.ren, TV.ren, AV.ren, C.ren, Dat.ren, List.drop_succ_cons, List.drop_nil, List.getD_cons_zero, List.getD_cons_succ, List.getD_nil, go_sem, Nat.reduceAdd, Nat.reduceBEq, Nat.reduceEqDiff, Nat.reduceLT, Nat.reduceLeDiff, reduceCtorEq, ↓reduceIte]
  refine afin [0, 1] [aS 1 n] [rI xs, oI (srtL (seg xs o n))] (by simp) rfl (weak_of (by decide) (by simp [RS.slot, List.map_cons, List.map_nil, rowsLe, rowLe, slotsLe, tvLe, TV.ren, AV.ren, C.ren, Dat.ren, Row.ren, TV.hs, AV.hs, C.hs, Dat.hs, get_cons, get_nil, zipSlots, List.getD_cons_zero, List.getD_cons_succ, List.getD_nil, -List.getD_eq_getElem?_getD])) (by simp [rtv])

theorem sorted_all (xs : List Int) (hN : xs.length ≤ 281474976710) : ACalls Try.prog 70 [tS 0 xs.length] [] [rI xs] (fun t H => t = tS 1 xs.length ∧ H = [rI xs, oI (srtL xs)]) :=
  (sorted_l xs 0 xs.length (by omega) hN).mono fun t H h => by rw [seg_all] at h; exact h
theorem l2Sorted_all (xs : List Int) (hN : xs.length ≤ 281474976710) : ACalls Try.prog 81 [tS 0 xs.length] [] [rI xs] (fun t H => t = tS 1 xs.length ∧ H = [rI xs, oI (srtL xs)]) :=
  (l2Sorted_l xs 0 xs.length (by omega) hN).mono fun t H h => by rw [seg_all] at h; exact h

/-! ### KthSmallest -/
def kthV (xs : List Int) (k : Int) : List AV := cond (rankOk xs k) [aI ((srtL xs).getD k.toNat 0), aB true] [aI 0, aB false]

/-! ### MinMax -/
def mmC (n : Nat) : Nat := if n % 2 = 0 then 3 * (n / 2) - 2 else 3 * (n / 2)
def mmV (xs : List Int) : List AV := cond (validB xs && decide (1 ≤ xs.length)) [aI ((srtL xs).getD 0 0), aI ((srtL xs).getD (xs.length - 1) 0), aI (mmC xs.length), aB true] [aI 0, aI 0, aI 0, aB false]

theorem tm2 (n : Nat) : (n : Int).tmod 2 = ((n % 2 : Nat) : Int) := by simp [Int.tmod_eq_emod_of_nonneg]
theorem td2 (n : Nat) : (n : Int).tdiv 2 = ((n / 2 : Nat) : Int) := by rw [Int.tdiv_eq_ediv_of_nonneg (by omega)]; omega

/-! ### NthElement -/
def nthL (xs : List Int) (x : Int) : List Int := lessL x xs ++ sameL x xs ++ moreL x xs
theorem nthL_len (xs : List Int) (x : Int) : (nthL xs x).length = xs.length := by
  have := three_len x xs
  simp only [nthL, List.length_append]; omega

end Go.Proofs.Ytpoappgfmjnioaa
