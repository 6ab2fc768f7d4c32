/- The walk of the law on partial sorts. -/
import Derived.Test.YtlejmdbjckmfoaaKth
import Derived.Test.YtlejmdbjckmfoaaPlSelX
import Derived.Test.YtlejmdbjckmfoaaPs
import Derived.Test.YtlejmdbjckmfoaaVList
import Derived.Test.YtlejmdbjckmfoaaOrd
set_option linter.unusedSimpArgs false
set_option linter.unusedVariables false
set_option linter.unusedSectionVars false
namespace Go.Proofs.Ytlejmdbjckmfoaa
open Go Go.Ax
set_option maxRecDepth 10000
set_option maxHeartbeats 1000000

/-! ### Plain -/
theorem filt_get {p : Int → Bool} {xs : List Int} {i : Nat} (hi : i < xs.length) (hp : p (xs.getD i 0) = true) : (xs.filter p).getD ((xs.take i).filter p).length 0 = xs.getD i 0 := by
  have e : xs = xs.take i ++ (xs.getD i 0 :: xs.drop (i + 1)) := by rw [← dropD 0 hi, List.take_append_drop]
  have e2 : xs.filter p = (xs.take i).filter p ++ (xs.getD i 0 :: (xs.drop (i + 1)).filter p) := by
    conv => lhs; rw [e]
    rw [List.filter_append, List.filter_cons, if_pos hp]
  rw [e2, getD_app_r (Nat.le_refl _), Nat.sub_self, List.getD_cons_zero]
theorem filt_lt {p : Int → Bool} {xs : List Int} {i : Nat} (hi : i < xs.length) (hp : p (xs.getD i 0) = true) : ((xs.take i).filter p).length < (xs.filter p).length := by
  have e : xs = xs.take i ++ (xs.getD i 0 :: xs.drop (i + 1)) := by rw [← dropD 0 hi, List.take_append_drop]
  have e2 : xs.filter p = (xs.take i).filter p ++ (xs.getD i 0 :: (xs.drop (i + 1)).filter p) := by
    conv => lhs; rw [e]
    rw [List.filter_append, List.filter_cons, if_pos hp]
  rw [e2]; simp
theorem filt_t {p : Int → Bool} {xs : List Int} {i : Nat} (hi : i < xs.length) (hp : p (xs.getD i 0) = true) : ((xs.take (i + 1)).filter p).length = ((xs.take i).filter p).length + 1 := by
  have e : xs.take (i + 1) = xs.take i ++ [xs.getD i 0] := by rw [List.take_add_one]; simp [List.getD_eq_getElem?_getD, hi]
  rw [e, List.filter_append, List.filter_cons, if_pos hp]; simp
theorem filt_f {p : Int → Bool} {xs : List Int} {i : Nat} (hi : i < xs.length) (hp : p (xs.getD i 0) = false) : ((xs.take (i + 1)).filter p).length = ((xs.take i).filter p).length := by
  have e : xs.take (i + 1) = xs.take i ++ [xs.getD i 0] := by rw [List.take_add_one]; simp [List.getD_eq_getElem?_getD, hi]
  rw [e, List.filter_append, List.filter_cons, if_neg (by rw [hp]; decide)]; simp
/-- The groups: smaller, equal, greater; and where they begin. -/
def kp (x : Int) : Nat → Int → Bool
  | 0 => qL x
  | 1 => qM x x
  | _ => qG x x
def Bp (x : Int) (xs : List Int) : Nat → Nat
  | 0 => 0
  | 1 => (lessL x xs).length
  | 2 => (lessL x xs).length + (sameL x xs).length
  | _ => xs.length
def At (x : Int) (xs : List Int) (j i : Nat) : Nat := Bp x xs j + ((xs.take i).filter (kp x j)).length
theorem At_end (x : Int) (xs : List Int) {j : Nat} (hj : j ≤ 2) : At x xs j xs.length = Bp x xs (j + 1) := by
  unfold At
  rw [List.take_length]
  have e := three_len x xs
  match j, hj with
  | 0, _ => show 0 + _ = _; rw [Nat.zero_add]; rfl
  | 1, _ => rfl
  | 2, _ => exact e
theorem At_zero (x : Int) (xs : List Int) (j : Nat) : At x xs j 0 = Bp x xs j := by simp [At]
theorem At_get {x : Int} {xs : List Int} {j i : Nat} (hj : j ≤ 2) (hi : i < xs.length) (hp : kp x j (xs.getD i 0) = true) : (nthL xs x).getD (At x xs j i) 0 = xs.getD i 0 ∧ At x xs j i < xs.length := by
  have e := three_len x xs
  have h1 := filt_get hi hp
  have h2 := filt_lt hi hp
  unfold At nthL
  match j, hj, hp with
  | 0, _, hp =>
    have h3 : ((xs.take i).filter (kp x 0)).length < (lessL x xs).length := h2
    show ((lessL x xs ++ sameL x xs) ++ moreL x xs).getD (0 + _) 0 = _ ∧ 0 + _ < _
    rw [Nat.zero_add, getD_app_l (by rw [List.length_append]; omega), getD_app_l h3]
    exact ⟨h1, by omega⟩
  | 1, _, hp =>
    have h3 : ((xs.take i).filter (kp x 1)).length < (sameL x xs).length := h2
    show ((lessL x xs ++ sameL x xs) ++ moreL x xs).getD ((lessL x xs).length + _) 0 = _ ∧ (lessL x xs).length + _ < _
    rw [getD_app_l (by rw [List.length_append]; omega), getD_app_r (by omega), Nat.add_sub_cancel_left]
    exact ⟨h1, by omega⟩
  | 2, _, hp =>
    have h3 : ((xs.take i).filter (kp x 2)).length < (moreL x xs).length := h2
    show ((lessL x xs ++ sameL x xs) ++ moreL x xs).getD ((lessL x xs).length + (sameL x xs).length + _) 0 = _ ∧ (lessL x xs).length + (sameL x xs).length + _ < _
    rw [getD_app_r (by rw [List.length_append]; omega), List.length_append, Nat.add_sub_cancel_left]
    exact ⟨h1, by omega⟩
theorem At_t {x : Int} {xs : List Int} {j i : Nat} (hi : i < xs.length) (hp : kp x j (xs.getD i 0) = true) : At x xs j (i + 1) = At x xs j i + 1 := by
  unfold At; rw [filt_t hi hp]; omega
theorem At_f {x : Int} {xs : List Int} {j i : Nat} (hi : i < xs.length) (hp : kp x j (xs.getD i 0) = false) : At x xs j (i + 1) = At x xs j i := by
  unfold At; rw [filt_f hi hp]
theorem kp_lt {x y : Int} (h : y < x) : ∀ {j : Nat}, j ≤ 2 → kp x j y = decide (j = 0)
  | 0, _ => by simp [kp, qL, h]
  | 1, _ => by simp [kp, qM, h]
  | 2, _ => by simp [kp, qG]; omega
theorem kp_gt {x y : Int} (h : x < y) : ∀ {j : Nat}, j ≤ 2 → kp x j y = decide (j = 2)
  | 0, _ => by simp [kp, qL]; omega
  | 1, _ => by simp [kp, qM]; omega
  | 2, _ => by simp [kp, qG, h]; omega
theorem kp_eq {x y : Int} (h1 : ¬ y < x) (h2 : ¬ x < y) : ∀ {j : Nat}, j ≤ 2 → kp x j y = decide (j = 1)
  | 0, _ => by simp [kp, qL]; omega
  | 1, _ => by simp [kp, qM]; omega
  | 2, _ => by simp [kp, qG]; omega

theorem nth_k {xs : List Int} {k : Nat} (hk : k < xs.length) : (nthL xs ((srtL xs).getD k 0)).getD k 0 = (srtL xs).getD k 0 := by
  obtain ⟨x, hx⟩ : ∃ x, x = (srtL xs).getD k 0 := ⟨_, rfl⟩
  rw [← hx]
  have e := three_len x xs
  have hl := srtL_len (lessL x xs)
  have hm := srtL_len (moreL x xs)
  have h3 := srtL_three x xs
  rw [h3] at hx
  by_cases h1 : k < (lessL x xs).length
  · exfalso
    rw [getD_app_l (by omega)] at hx
    have := mem_less.mp ((srtL_perm _).mem_iff.mp (getD_mem (xs := srtL (lessL x xs)) (i := k) (by omega)))
    omega
  · rw [getD_app_r (by omega), hl] at hx
    by_cases h2 : k < (lessL x xs).length + (sameL x xs).length
    · rw [getD_app_l (by omega)] at hx
      unfold nthL
      rw [getD_app_l (by rw [List.length_append]; omega), getD_app_r (by omega)]
      exact hx.symm
    · exfalso
      rw [getD_app_r (by omega)] at hx
      have := mem_more.mp ((srtL_perm _).mem_iff.mp (getD_mem (xs := srtL (moreL x xs)) (i := k - (lessL x xs).length - (sameL x xs).length) (by omega)))
      omega

theorem law_FnPartial (cs : List Int) (hc : U8s cs) (hL : cs.length ≤ 9223372036854775807) : ACalls Try.prog 9 [tS 0 cs.length] [] [rU8 cs] (fun t _ => t = tB true) := by
  refine afun (fun i => match i with | 7 => some ⟨[], .op 0 .held (.op 1 .held (.op 2 .held (.op 3 .held (.op 4 .held (.op 5 .held (.op 6 .held (.op 7 .held (.op 8 .held (.op 9 .held (.op 10 .held (.op 11 .held (.op 12 .held (.op 13 .held (.op 14 .held (.op 15 .held (.op 16 .only (.op 17 .held (.op 18 .held (.op 19 .held (.op 20 .held (.op 22 .held (.op 21 .only (.op 23 .only (.op 24 .held (.op 25 .held .nil)))))))))))))))))))))))))⟩ | 12 => some ⟨[], .op 0 .held (.op 1 .held (.op 2 .held (.op 3 .held (.op 4 .held (.op 5 .held (.op 6 .held (.op 7 .held (.op 8 .held (.op 9 .held (.op 10 .held (.op 11 .held (.op 12 .held (.op 13 .now (.op 14 .held (.op 15 .held (.op 16 .held (.op 17 .now (.op 18 .held (.op 19 .held .nil)))))))))))))))))))⟩ | 22 => some ⟨[], .op 0 .held (.op 1 .held (.op 2 .held (.op 3 .now (.op 4 .held (.op 5 .held (.op 6 .held (.op 7 .now (.op 8 .held .nil))))))))⟩ | 24 => some ⟨[], .op 0 .held (.op 1 .held (.op 2 .held (.op 3 .now (.op 4 .held (.op 5 .held (.op 6 .held (.op 7 .now (.op 8 .held .nil))))))))⟩ | 27 => some ⟨[], .op 0 .held (.op 1 .held (.op 2 .held (.op 3 .now (.op 4 .held (.op 5 .held (.op 6 .held (.op 7 .now (.op 8 .held .nil))))))))⟩ | _ => none) [2] 1 Try.func9 rfl rfl mix (by kernel_rfl) (by kernel_rfl) (by simp [Try.f9]) rfl (by simp [msOwn, ownAll, Row.own]) ?_
  simp (dsimp := false) only [go_sem, Nat.reduceAdd, Nat.reduceBEq, Nat.reduceEqDiff, Nat.reduceLT, Nat.reduceLeDiff, reduceCtorEq, ↓reduceIte]
  repeat (refine And.intro (by first | exact True.intro | omega | kernel_rfl | (simp only [List.length_set, List.length_append, List.length_take, List.length_replicate, List.length_cons, true_and, and_true, List.length_nil, tabR_length]; omega)) ?_)
  refine ⟨_, (vBig_l cs hL).lift [0] (by decide) (by simp) (by simp [RS.slot, List.map_cons, List.map_nil, rowsLe, rowLe, slotsLe, tvLe, TV.ren, AV.ren, C.ren, Dat.ren, Row.ren, TV.hs, AV.hs, C.hs, Dat.hs, get_cons, get_nil, zipSlots, List.getD_cons_zero, List.getD_cons_succ, List.getD_nil, -List.getD_eq_getElem?_getD]) (by simp [RS.slot, List.map_cons, List.map_nil, rowsLe, rowLe, slotsLe, tvLe, TV.ren, AV.ren, C.ren, Dat.ren, Row.ren, TV.hs, AV.hs, C.hs, Dat.hs, get_cons, get_nil, zipSlots, List.getD_cons_zero, List.getD_cons_succ, List.getD_nil, -List.getD_eq_getElem?_getD]) (by simp [RS.slot, List.map_cons, List.map_nil, rowsLe, rowLe, slotsLe, tvLe, TV.ren, AV.ren, C.ren, Dat.ren, Row.ren, TV.hs, AV.hs, C.hs, Dat.hs, get_cons, get_nil, zipSlots, List.getD_cons_zero, List.getD_cons_succ, List.getD_nil, -List.getD_eq_getElem?_getD]) rfl ?_⟩
  rintro _ _ ⟨b, hb, rfl, rfl⟩
  refine ⟨by simp [ownIn, Row.own], ?_⟩
  simp (dsimp := false) only [hL, liftT, liftH, putBack, freshR, ownIn, Row.own, Row.ren, TV.ren, AV.ren, C.ren, Dat.ren, List.drop_succ_cons, List.drop_nil, List.getD_cons_zero, List.getD_cons_succ, List.getD_nil, ↓ABr_true, ↓ABr_false, ↓aguard_eq, awpOpsW_nil, awpOpsW_cons, awpOpsW_guard, aopW_eq, apureW, wAdd, wSub, WFC_eq, lres, RS.slot, opBuild, opBuildL, evParts, allSz, Option.isSome_some, Option.isSome_none, Nat.zero_mul, Nat.mul_one, bne_self_eq_false, List.mem_cons, List.not_mem_nil, not_false_eq_true, implies_true, awp_regionD, awpOrd_nil, awpOrd_cons, awpOrd_two, WG_none, WG_some, ldC, onC, aopD_eq, ldHeld, sameFrom, msIn, msOwn, awp_skip, awp_region, awp_cond, awp_block, awp_loop, awp_exit, awp_ret, awpOps_nil, awpOps_cons, awpOps_guard, aop_eq, kd, apure, aload, aeff, o1, o2, aev, aevs, get_nil, get_cons, put_some, put_none, initF, opLen, opMk, opIdx, opLd, opSt, opBin, opUn, opExt, opSl, opBd, opApp, opBS, opAl, opBox, opMax, opMin, opConv, opFA, opField, opPick, abin, one, onb, arR, List.toList_toArray, tQ_normal, tQ_ret, tQ_exit, bQ_normal, bQ_exit, bQ_ret, ofV, uT, zrow, isRec0, cellsOf, C.isOne, Value.oneCell', Dat.ld, Dat.ldn, Dat.st, Dat.part, Dat.app, Dat.whole, Dat.esz, litrow, litrow.intsOf, litrow.recsOf, litrow.boolsOf, isRange, Value.cells, agd, callOf, capsOf, ptrT, inI64, Bool.false_eq_true, true_and, and_true, List.length_singleton, List.singleton_append, Option.map, Option.map_some, Option.map_none, Int.toNat_natCast, Nat.zero_add, Nat.add_zero, List.getElem?_cons_zero, List.getElem?_cons_succ, List.getElem?_nil, List.length_cons, List.length_nil, List.map_cons, List.map_nil, List.append_nil, List.nil_append, List.cons_append, List.set_cons_zero, List.set_cons_succ, or_self, or_false, false_or, or_true, true_or, beq_self_eq_true, Bool.not_true, Bool.not_false, List.drop_zero, List.size_toArray, Bool.and_true, and_self, if_true_left, ag_int, ag_bool, ag_ints, ag_fib, u_ints, u_int, u_bool, sz_int, by_int, zr_int, sz_bool, by_bool, zr_bool, Nat.reduceAdd, Nat.reduceBEq, Nat.reduceEqDiff, Nat.reduceLT, Nat.reduceLeDiff, reduceCtorEq, ↓reduceIte]
  repeat (simp (dsimp := false) only [awp_seq]; try simp (dsimp := false) only [hL, ↓ABr_true, ↓ABr_false, ↓aguard_eq, awpOpsW_nil, awpOpsW_cons, awpOpsW_guard, aopW_eq, apureW, wAdd, wSub, WFC_eq, lres, RS.slot, opBuild, opBuildL, evParts, allSz, Option.isSome_some, Option.isSome_none, Nat.zero_mul, Nat.mul_one, bne_self_eq_false, List.mem_cons, List.not_mem_nil, not_false_eq_true, implies_true, awp_regionD, awpOrd_nil, awpOrd_cons, awpOrd_two, WG_none, WG_some, ldC, onC, aopD_eq, ldHeld, sameFrom, msIn, msOwn, awp_skip, awp_region, awp_cond, awp_block, awp_loop, awp_exit, awp_ret, awpOps_nil, awpOps_cons, awpOps_guard, aop_eq, kd, apure, aload, aeff, o1, o2, aev, aevs, get_nil, get_cons, put_some, put_none, initF, opLen, opMk, opIdx, opLd, opSt, opBin, opUn, opExt, opSl, opBd, opApp, opBS, opAl, opBox, opMax, opMin, opConv, opFA, opField, opPick, abin, one, onb, arR, List.toList_toArray, tQ_normal, tQ_ret, tQ_exit, bQ_normal, bQ_exit, bQ_ret, ofV, uT, zrow, isRec0, cellsOf, C.isOne, Value.oneCell', Dat.ld, Dat.ldn, Dat.st, Dat.part, Dat.app, Dat.whole, Dat.esz, litrow, litrow.intsOf, litrow.recsOf, litrow.boolsOf, isRange, Value.cells, agd, callOf, capsOf, ptrT, inI64, Bool.false_eq_true, true_and, and_true, List.length_singleton, List.singleton_append, Option.map, Option.map_some, Option.map_none, Int.toNat_natCast, Nat.zero_add, Nat.add_zero, List.getElem?_cons_zero, List.getElem?_cons_succ, List.getElem?_nil, List.length_cons, List.length_nil, List.map_cons, List.map_nil, List.append_nil, List.nil_append, List.cons_append, List.set_cons_zero, List.set_cons_succ, or_self, or_false, false_or, or_true, true_or, beq_self_eq_true, Bool.not_true, Bool.not_false, List.drop_zero, List.size_toArray, Bool.and_true, and_self, if_true_left, ag_int, ag_bool, ag_ints, ag_fib, u_ints, u_int, u_bool, sz_int, by_int, zr_int, sz_bool, by_bool, zr_bool, Nat.reduceAdd, Nat.reduceBEq, Nat.reduceEqDiff, Nat.reduceLT, Nat.reduceLeDiff, reduceCtorEq, ↓reduceIte])
  refine ⟨fun h => ?_, fun h => ?_⟩
  · refine afin [0] [aB true] [rU8 cs] (by simp) rfl (weak_of (by decide) (by simp [RS.slot, List.map_cons, List.map_nil, rowsLe, rowLe, slotsLe, tvLe, TV.ren, AV.ren, C.ren, Dat.ren, Row.ren, TV.hs, AV.hs, C.hs, Dat.hs, get_cons, get_nil, zipSlots, List.getD_cons_zero, List.getD_cons_succ, List.getD_nil, -List.getD_eq_getElem?_getD])) (by simp [rtv])
  have hl : cs.length ≤ 65536 := hb h
  repeat (refine And.intro (by first | exact True.intro | omega | kernel_rfl | (simp only [List.length_set, List.length_append, List.length_take, List.length_replicate, List.length_cons, true_and, and_true, List.length_nil, tabR_length]; omega)) ?_)
  refine ⟨_, (vList_l cs hc hl).lift [0] (by decide) (by simp) (by simp [RS.slot, List.map_cons, List.map_nil, rowsLe, rowLe, slotsLe, tvLe, TV.ren, AV.ren, C.ren, Dat.ren, Row.ren, TV.hs, AV.hs, C.hs, Dat.hs, get_cons, get_nil, zipSlots, List.getD_cons_zero, List.getD_cons_succ, List.getD_nil, -List.getD_eq_getElem?_getD]) (by simp [RS.slot, List.map_cons, List.map_nil, rowsLe, rowLe, slotsLe, tvLe, TV.ren, AV.ren, C.ren, Dat.ren, Row.ren, TV.hs, AV.hs, C.hs, Dat.hs, get_cons, get_nil, zipSlots, List.getD_cons_zero, List.getD_cons_succ, List.getD_nil, -List.getD_eq_getElem?_getD]) (by simp [RS.slot, List.map_cons, List.map_nil, rowsLe, rowLe, slotsLe, tvLe, TV.ren, AV.ren, C.ren, Dat.ren, Row.ren, TV.hs, AV.hs, C.hs, Dat.hs, get_cons, get_nil, zipSlots, List.getD_cons_zero, List.getD_cons_succ, List.getD_nil, -List.getD_eq_getElem?_getD]) rfl ?_⟩
  rintro _ _ ⟨xs, hv, rfl, rfl⟩
  refine ⟨by simp [ownIn, Row.own], ?_⟩
  simp (dsimp := false) only [hl, liftT, liftH, putBack, freshR, ownIn, Row.own, Row.ren, TV.ren, AV.ren, C.ren, Dat.ren, List.drop_succ_cons, List.drop_nil, List.getD_cons_zero, List.getD_cons_succ, List.getD_nil, go_sem, Nat.reduceAdd, Nat.reduceBEq, Nat.reduceEqDiff, Nat.reduceLT, Nat.reduceLeDiff, reduceCtorEq, ↓reduceIte]
  have h64 := validB_len hv
  repeat (refine And.intro (by first | exact True.intro | omega | kernel_rfl | (simp only [List.length_set, List.length_append, List.length_take, List.length_replicate, List.length_cons, true_and, and_true, List.length_nil, tabR_length]; omega)) ?_)
  refine ⟨_, (vAt_l cs 3 hc hl (by omega)).lift [0] (by decide) (by simp) (by simp [RS.slot, List.map_cons, List.map_nil, rowsLe, rowLe, slotsLe, tvLe, TV.ren, AV.ren, C.ren, Dat.ren, Row.ren, TV.hs, AV.hs, C.hs, Dat.hs, get_cons, get_nil, zipSlots, List.getD_cons_zero, List.getD_cons_succ, List.getD_nil, -List.getD_eq_getElem?_getD]) (by simp [RS.slot, List.map_cons, List.map_nil, rowsLe, rowLe, slotsLe, tvLe, TV.ren, AV.ren, C.ren, Dat.ren, Row.ren, TV.hs, AV.hs, C.hs, Dat.hs, get_cons, get_nil, zipSlots, List.getD_cons_zero, List.getD_cons_succ, List.getD_nil, -List.getD_eq_getElem?_getD]) (by simp [RS.slot, List.map_cons, List.map_nil, rowsLe, rowLe, slotsLe, tvLe, TV.ren, AV.ren, C.ren, Dat.ren, Row.ren, TV.hs, AV.hs, C.hs, Dat.hs, get_cons, get_nil, zipSlots, List.getD_cons_zero, List.getD_cons_succ, List.getD_nil, -List.getD_eq_getElem?_getD]) rfl ?_⟩
  rintro _ _ ⟨u, hu, rfl, rfl⟩
  refine ⟨by simp [ownIn, Row.own], ?_⟩
  simp (dsimp := false) only [hl, liftT, liftH, putBack, freshR, ownIn, Row.own, Row.ren, TV.ren, AV.ren, C.ren, Dat.ren, List.drop_succ_cons, List.drop_nil, List.getD_cons_zero, List.getD_cons_succ, List.getD_nil, ↓ABr_true, ↓ABr_false, ↓aguard_eq, awpOpsW_nil, awpOpsW_cons, awpOpsW_guard, aopW_eq, apureW, wAdd, wSub, WFC_eq, lres, RS.slot, opBuild, opBuildL, evParts, allSz, Option.isSome_some, Option.isSome_none, Nat.zero_mul, Nat.mul_one, bne_self_eq_false, List.mem_cons, List.not_mem_nil, not_false_eq_true, implies_true, awp_regionD, awpOrd_nil, awpOrd_cons, awpOrd_two, WG_none, WG_some, ldC, onC, aopD_eq, ldHeld, sameFrom, msIn, msOwn, awp_skip, awp_region, awp_cond, awp_block, awp_loop, awp_exit, awp_ret, awpOps_nil, awpOps_cons, awpOps_guard, aop_eq, kd, apure, aload, aeff, o1, o2, aev, aevs, get_nil, get_cons, put_some, put_none, initF, opLen, opMk, opIdx, opLd, opSt, opBin, opUn, opExt, opSl, opBd, opApp, opBS, opAl, opBox, opMax, opMin, opConv, opFA, opField, opPick, abin, one, onb, arR, List.toList_toArray, tQ_normal, tQ_ret, tQ_exit, bQ_normal, bQ_exit, bQ_ret, ofV, uT, zrow, isRec0, cellsOf, C.isOne, Value.oneCell', Dat.ld, Dat.ldn, Dat.st, Dat.part, Dat.app, Dat.whole, Dat.esz, litrow, litrow.intsOf, litrow.recsOf, litrow.boolsOf, isRange, Value.cells, agd, callOf, capsOf, ptrT, inI64, Bool.false_eq_true, true_and, and_true, List.length_singleton, List.singleton_append, Option.map, Option.map_some, Option.map_none, Int.toNat_natCast, Nat.zero_add, Nat.add_zero, List.getElem?_cons_zero, List.getElem?_cons_succ, List.getElem?_nil, List.length_cons, List.length_nil, List.map_cons, List.map_nil, List.append_nil, List.nil_append, List.cons_append, List.set_cons_zero, List.set_cons_succ, or_self, or_false, false_or, or_true, true_or, beq_self_eq_true, Bool.not_true, Bool.not_false, List.drop_zero, List.size_toArray, Bool.and_true, and_self, if_true_left, ag_int, ag_bool, ag_ints, ag_fib, u_ints, u_int, u_bool, sz_int, by_int, zr_int, sz_bool, by_bool, zr_bool, Nat.reduceAdd, Nat.reduceBEq, Nat.reduceEqDiff, Nat.reduceLT, Nat.reduceLeDiff, reduceCtorEq, ↓reduceIte]
  have e0 : (xs.length : Int) + 1 = ((xs.length + 1 : Nat) : Int) := by omega
  obtain ⟨k, hk⟩ : ∃ k, k = u % (xs.length + 1) := ⟨_, rfl⟩
  have hkl : k ≤ xs.length := by have := Nat.mod_lt u (show xs.length + 1 > 0 by omega); omega
  have e1 : (u : Int).tmod ((xs.length + 1 : Nat) : Int) = (k : Int) := by rw [Int.tmod_eq_emod_of_nonneg (by omega), hk]; rfl
  simp (dsimp := false) only [e0, e1, go_sem, Nat.reduceAdd, Nat.reduceBEq, Nat.reduceEqDiff, Nat.reduceLT, Nat.reduceLeDiff, reduceCtorEq, ↓reduceIte]
  repeat (refine And.intro (by first | exact True.intro | omega | kernel_rfl | (simp only [List.length_set, List.length_append, List.length_take, List.length_replicate, List.length_cons, true_and, and_true, List.length_nil, tabR_length]; omega)) ?_)
  have hsl := srtL_len xs
  have hpl := psF_len xs hkl
  repeat (refine And.intro (by first | exact True.intro | omega | kernel_rfl | (simp only [List.length_set, List.length_append, List.length_take, List.length_replicate, List.length_cons, true_and, and_true, List.length_nil, tabR_length]; omega)) ?_)
  refine ⟨_, (iPartialSort_t xs k hv hkl).lift [1] (by decide) (by simp) (by simp [RS.slot, List.map_cons, List.map_nil, rowsLe, rowLe, slotsLe, tvLe, TV.ren, AV.ren, C.ren, Dat.ren, Row.ren, TV.hs, AV.hs, C.hs, Dat.hs, get_cons, get_nil, zipSlots, List.getD_cons_zero, List.getD_cons_succ, List.getD_nil, -List.getD_eq_getElem?_getD]) (by simp [RS.slot, List.map_cons, List.map_nil, rowsLe, rowLe, slotsLe, tvLe, TV.ren, AV.ren, C.ren, Dat.ren, Row.ren, TV.hs, AV.hs, C.hs, Dat.hs, get_cons, get_nil, zipSlots, List.getD_cons_zero, List.getD_cons_succ, List.getD_nil, -List.getD_eq_getElem?_getD]) (by simp [RS.slot, List.map_cons, List.map_nil, rowsLe, rowLe, slotsLe, tvLe, TV.ren, AV.ren, C.ren, Dat.ren, Row.ren, TV.hs, AV.hs, C.hs, Dat.hs, get_cons, get_nil, zipSlots, List.getD_cons_zero, List.getD_cons_succ, List.getD_nil, -List.getD_eq_getElem?_getD]) rfl ?_⟩
  rintro _ _ ⟨rfl, rfl⟩
  refine ⟨by simp [ownIn, Row.own], ?_⟩
  simp (dsimp := false) only [e1, liftT, liftH, putBack, freshR, ownIn, Row.own, Row.ren, TV.ren, AV.ren, C.ren, Dat.ren, List.drop_succ_cons, List.drop_nil, List.getD_cons_zero, List.getD_cons_succ, List.getD_nil, go_sem, Nat.reduceAdd, Nat.reduceBEq, Nat.reduceEqDiff, Nat.reduceLT, Nat.reduceLeDiff, reduceCtorEq, ↓reduceIte]
  have dp : ((xs.length : Int) != (xs.length : Int)) = false := by simp
  repeat (refine And.intro (by first | exact True.intro | omega | kernel_rfl | (simp only [List.length_set, List.length_append, List.length_take, List.length_replicate, List.length_cons, true_and, and_true, List.length_nil, tabR_length]; omega)) ?_)
  refine ⟨_, (vOrdered_l xs (by omega)).lift [1] (by decide) (by simp) (by simp [RS.slot, List.map_cons, List.map_nil, rowsLe, rowLe, slotsLe, tvLe, TV.ren, AV.ren, C.ren, Dat.ren, Row.ren, TV.hs, AV.hs, C.hs, Dat.hs, get_cons, get_nil, zipSlots, List.getD_cons_zero, List.getD_cons_succ, List.getD_nil, -List.getD_eq_getElem?_getD]) (by simp [RS.slot, List.map_cons, List.map_nil, rowsLe, rowLe, slotsLe, tvLe, TV.ren, AV.ren, C.ren, Dat.ren, Row.ren, TV.hs, AV.hs, C.hs, Dat.hs, get_cons, get_nil, zipSlots, List.getD_cons_zero, List.getD_cons_succ, List.getD_nil, -List.getD_eq_getElem?_getD]) (by simp [RS.slot, List.map_cons, List.map_nil, rowsLe, rowLe, slotsLe, tvLe, TV.ren, AV.ren, C.ren, Dat.ren, Row.ren, TV.hs, AV.hs, C.hs, Dat.hs, get_cons, get_nil, zipSlots, List.getD_cons_zero, List.getD_cons_succ, List.getD_nil, -List.getD_eq_getElem?_getD]) rfl ?_⟩
  rintro _ _ ⟨rfl, rfl⟩
  refine ⟨by simp [ownIn, Row.own], ?_⟩
  simp (dsimp := false) only [dp, Int.toNat_natCast, Int.toNat_zero, Nat.sub_zero, Nat.add_zero, liftT, liftH, putBack, freshR, ownIn, Row.own, Row.ren, TV.ren, AV.ren, C.ren, Dat.ren, List.drop_succ_cons, List.drop_nil, List.getD_cons_zero, List.getD_cons_succ, List.getD_nil, go_sem, Nat.reduceAdd, Nat.reduceBEq, Nat.reduceEqDiff, Nat.reduceLT, Nat.reduceLeDiff, reduceCtorEq, ↓reduceIte]
  repeat (refine And.intro (by first | exact True.intro | omega | kernel_rfl | (simp only [List.length_set, List.length_append, List.length_take, List.length_replicate, List.length_cons, true_and, and_true, List.length_nil, tabR_length]; omega)) ?_)
  have hV1 := vInts_l (psF xs k) (srtL xs) k k (by omega) (by omega) (by omega)
  rw [psF_take xs hkl, decide_eq_true rfl] at hV1
  have hO2 := vOrdered_l (psF xs k) (by omega)
  rw [hpl, srtL_congr (psF_perm xs hkl)] at hO2
  have hV2 := vInts_same (srtL xs) (by omega)
  rw [hsl] at hV2
  repeat (refine And.intro (by first | exact True.intro | omega | kernel_rfl | (simp only [List.length_set, List.length_append, List.length_take, List.length_replicate, List.length_cons, true_and, and_true, List.length_nil, tabR_length]; omega)) ?_)
  refine ⟨_, And.intro ?_ ((hV1).lift [2, 3] (by decide) (by simp) (by simp [RS.slot, List.map_cons, List.map_nil, rowsLe, rowLe, slotsLe, tvLe, TV.ren, AV.ren, C.ren, Dat.ren, Row.ren, TV.hs, AV.hs, C.hs, Dat.hs, get_cons, get_nil, zipSlots, List.getD_cons_zero, List.getD_cons_succ, List.getD_nil, -List.getD_eq_getElem?_getD]) (by simp [RS.slot, List.map_cons, List.map_nil, rowsLe, rowLe, slotsLe, tvLe, TV.ren, AV.ren, C.ren, Dat.ren, Row.ren, TV.hs, AV.hs, C.hs, Dat.hs, get_cons, get_nil, zipSlots, List.getD_cons_zero, List.getD_cons_succ, List.getD_nil, -List.getD_eq_getElem?_getD]) (by simp [RS.slot, List.map_cons, List.map_nil, rowsLe, rowLe, slotsLe, tvLe, TV.ren, AV.ren, C.ren, Dat.ren, Row.ren, TV.hs, AV.hs, C.hs, Dat.hs, get_cons, get_nil, zipSlots, List.getD_cons_zero, List.getD_cons_succ, List.getD_nil, -List.getD_eq_getElem?_getD]) rfl ?_)⟩
  · simp [msIn]
  rintro _ _ ⟨rfl, rfl⟩
  refine ⟨by simp [ownIn, Row.own], ?_⟩
  simp (dsimp := false) only [dp, liftT, liftH, putBack, freshR, ownIn, Row.own, Row.ren, TV.ren, AV.ren, C.ren, Dat.ren, List.drop_succ_cons, List.drop_nil, List.getD_cons_zero, List.getD_cons_succ, List.getD_nil, go_sem, Nat.reduceAdd, Nat.reduceBEq, Nat.reduceEqDiff, Nat.reduceLT, Nat.reduceLeDiff, reduceCtorEq, ↓reduceIte]
  repeat (refine And.intro (by first | exact True.intro | omega | kernel_rfl | (simp only [List.length_set, List.length_append, List.length_take, List.length_replicate, List.length_cons, true_and, and_true, List.length_nil, tabR_length]; omega)) ?_)
  refine ⟨_, And.intro ?_ ((hO2).lift [2] (by decide) (by simp) (by simp [RS.slot, List.map_cons, List.map_nil, rowsLe, rowLe, slotsLe, tvLe, TV.ren, AV.ren, C.ren, Dat.ren, Row.ren, TV.hs, AV.hs, C.hs, Dat.hs, get_cons, get_nil, zipSlots, List.getD_cons_zero, List.getD_cons_succ, List.getD_nil, -List.getD_eq_getElem?_getD]) (by simp [RS.slot, List.map_cons, List.map_nil, rowsLe, rowLe, slotsLe, tvLe, TV.ren, AV.ren, C.ren, Dat.ren, Row.ren, TV.hs, AV.hs, C.hs, Dat.hs, get_cons, get_nil, zipSlots, List.getD_cons_zero, List.getD_cons_succ, List.getD_nil, -List.getD_eq_getElem?_getD]) (by simp [RS.slot, List.map_cons, List.map_nil, rowsLe, rowLe, slotsLe, tvLe, TV.ren, AV.ren, C.ren, Dat.ren, Row.ren, TV.hs, AV.hs, C.hs, Dat.hs, get_cons, get_nil, zipSlots, List.getD_cons_zero, List.getD_cons_succ, List.getD_nil, -List.getD_eq_getElem?_getD]) rfl ?_)⟩
  · simp [msIn]
  rintro _ _ ⟨rfl, rfl⟩
  refine ⟨by simp [ownIn, Row.own], ?_⟩
  simp (dsimp := false) only [dp, liftT, liftH, putBack, freshR, ownIn, Row.own, Row.ren, TV.ren, AV.ren, C.ren, Dat.ren, List.drop_succ_cons, List.drop_nil, List.getD_cons_zero, List.getD_cons_succ, List.getD_nil, go_sem, Nat.reduceAdd, Nat.reduceBEq, Nat.reduceEqDiff, Nat.reduceLT, Nat.reduceLeDiff, reduceCtorEq, ↓reduceIte]
  by_cases hkn : k = xs.length
  · have dkn : ((k : Int) == (xs.length : Int)) = true := by rw [beq_iff_eq]; omega
    repeat (refine And.intro (by first | exact True.intro | omega | kernel_rfl | (simp only [List.length_set, List.length_append, List.length_take, List.length_replicate, List.length_cons, true_and, and_true, List.length_nil, tabR_length]; omega)) ?_)
    refine ⟨_, And.intro ?_ ((hV2).lift [4, 3] (by decide) (by simp) (by simp [RS.slot, List.map_cons, List.map_nil, rowsLe, rowLe, slotsLe, tvLe, TV.ren, AV.ren, C.ren, Dat.ren, Row.ren, TV.hs, AV.hs, C.hs, Dat.hs, get_cons, get_nil, zipSlots, List.getD_cons_zero, List.getD_cons_succ, List.getD_nil, -List.getD_eq_getElem?_getD]) (by simp [RS.slot, List.map_cons, List.map_nil, rowsLe, rowLe, slotsLe, tvLe, TV.ren, AV.ren, C.ren, Dat.ren, Row.ren, TV.hs, AV.hs, C.hs, Dat.hs, get_cons, get_nil, zipSlots, List.getD_cons_zero, List.getD_cons_succ, List.getD_nil, -List.getD_eq_getElem?_getD]) (by simp [RS.slot, List.map_cons, List.map_nil, rowsLe, rowLe, slotsLe, tvLe, TV.ren, AV.ren, C.ren, Dat.ren, Row.ren, TV.hs, AV.hs, C.hs, Dat.hs, get_cons, get_nil, zipSlots, List.getD_cons_zero, List.getD_cons_succ, List.getD_nil, -List.getD_eq_getElem?_getD]) rfl ?_)⟩
    · simp [msIn]
    rintro _ _ ⟨rfl, rfl⟩
    refine ⟨by simp [ownIn, Row.own], ?_⟩
    simp (dsimp := false) only [dp, dkn, liftT, liftH, putBack, freshR, ownIn, Row.own, Row.ren, TV.ren, AV.ren, C.ren, Dat.ren, List.drop_succ_cons, List.drop_nil, List.getD_cons_zero, List.getD_cons_succ, List.getD_nil, go_sem, Nat.reduceAdd, Nat.reduceBEq, Nat.reduceEqDiff, Nat.reduceLT, Nat.reduceLeDiff, reduceCtorEq, ↓reduceIte]
    refine afin [0] [aB true] [rU8 cs] (by simp) rfl (weak_of (by decide) (by simp [RS.slot, List.map_cons, List.map_nil, rowsLe, rowLe, slotsLe, tvLe, TV.ren, AV.ren, C.ren, Dat.ren, Row.ren, TV.hs, AV.hs, C.hs, Dat.hs, get_cons, get_nil, zipSlots, List.getD_cons_zero, List.getD_cons_succ, List.getD_nil, -List.getD_eq_getElem?_getD])) (by simp [rtv])
  · have dkn : ((k : Int) == (xs.length : Int)) = false := by rw [beq_eq_false_iff_ne]; omega
    repeat (refine And.intro (by first | exact True.intro | omega | kernel_rfl | (simp only [List.length_set, List.length_append, List.length_take, List.length_replicate, List.length_cons, true_and, and_true, List.length_nil, tabR_length]; omega)) ?_)
    refine ⟨_, And.intro ?_ ((hV2).lift [4, 3] (by decide) (by simp) (by simp [RS.slot, List.map_cons, List.map_nil, rowsLe, rowLe, slotsLe, tvLe, TV.ren, AV.ren, C.ren, Dat.ren, Row.ren, TV.hs, AV.hs, C.hs, Dat.hs, get_cons, get_nil, zipSlots, List.getD_cons_zero, List.getD_cons_succ, List.getD_nil, -List.getD_eq_getElem?_getD]) (by simp [RS.slot, List.map_cons, List.map_nil, rowsLe, rowLe, slotsLe, tvLe, TV.ren, AV.ren, C.ren, Dat.ren, Row.ren, TV.hs, AV.hs, C.hs, Dat.hs, get_cons, get_nil, zipSlots, List.getD_cons_zero, List.getD_cons_succ, List.getD_nil, -List.getD_eq_getElem?_getD]) (by simp [RS.slot, List.map_cons, List.map_nil, rowsLe, rowLe, slotsLe, tvLe, TV.ren, AV.ren, C.ren, Dat.ren, Row.ren, TV.hs, AV.hs, C.hs, Dat.hs, get_cons, get_nil, zipSlots, List.getD_cons_zero, List.getD_cons_succ, List.getD_nil, -List.getD_eq_getElem?_getD]) rfl ?_)⟩
    · simp [msIn]
    rintro _ _ ⟨rfl, rfl⟩
    refine ⟨by simp [ownIn, Row.own], ?_⟩
    simp (dsimp := false) only [dp, dkn, liftT, liftH, putBack, freshR, ownIn, Row.own, Row.ren, TV.ren, AV.ren, C.ren, Dat.ren, List.drop_succ_cons, List.drop_nil, List.getD_cons_zero, List.getD_cons_succ, List.getD_nil, go_sem, Nat.reduceAdd, Nat.reduceBEq, Nat.reduceEqDiff, Nat.reduceLT, Nat.reduceLeDiff, reduceCtorEq, ↓reduceIte]
    have hr : rankOk xs k = true := by
      unfold rankOk
      have : inB k 0 ((xs.length : Int) - 1) = true := by
        simp only [inB, Bool.and_eq_true, decide_eq_true_eq]; omega
      rw [this, hv]; rfl
    have hN := iNth_t xs k (by omega) hr
    rw [Int.toNat_natCast] at hN
    have hnk := nth_k (xs := xs) (k := k) (by omega)
    obtain ⟨x, hx⟩ : ∃ x, x = (srtL xs).getD k 0 := ⟨_, rfl⟩
    rw [← hx] at hN hnk
    have hnl := nthL_len xs x
    have dq : ((nthL xs x).getD k 0 != x) = false := by rw [hnk]; exact bne_self_eq_false _
    repeat (refine And.intro (by first | exact True.intro | omega | kernel_rfl | (simp only [List.length_set, List.length_append, List.length_take, List.length_replicate, List.length_cons, true_and, and_true, List.length_nil, tabR_length]; omega)) ?_)
    refine ⟨_, (hN).lift [1] (by decide) (by simp) (by simp [RS.slot, List.map_cons, List.map_nil, rowsLe, rowLe, slotsLe, tvLe, TV.ren, AV.ren, C.ren, Dat.ren, Row.ren, TV.hs, AV.hs, C.hs, Dat.hs, get_cons, get_nil, zipSlots, List.getD_cons_zero, List.getD_cons_succ, List.getD_nil, -List.getD_eq_getElem?_getD]) (by simp [RS.slot, List.map_cons, List.map_nil, rowsLe, rowLe, slotsLe, tvLe, TV.ren, AV.ren, C.ren, Dat.ren, Row.ren, TV.hs, AV.hs, C.hs, Dat.hs, get_cons, get_nil, zipSlots, List.getD_cons_zero, List.getD_cons_succ, List.getD_nil, -List.getD_eq_getElem?_getD]) (by simp [RS.slot, List.map_cons, List.map_nil, rowsLe, rowLe, slotsLe, tvLe, TV.ren, AV.ren, C.ren, Dat.ren, Row.ren, TV.hs, AV.hs, C.hs, Dat.hs, get_cons, get_nil, zipSlots, List.getD_cons_zero, List.getD_cons_succ, List.getD_nil, -List.getD_eq_getElem?_getD]) rfl ?_⟩
    rintro _ _ ⟨rfl, rfl⟩
    refine ⟨by simp [ownIn, Row.own], ?_⟩
    simp (dsimp := false) only [dp, dq, ← hx, Int.toNat_natCast, liftT, liftH, putBack, freshR, ownIn, Row.own, Row.ren, TV.ren, AV.ren, C.ren, Dat.ren, List.drop_succ_cons, List.drop_nil, List.getD_cons_zero, List.getD_cons_succ, List.getD_nil, go_sem, Nat.reduceAdd, Nat.reduceBEq, Nat.reduceEqDiff, Nat.reduceLT, Nat.reduceLeDiff, reduceCtorEq, ↓reduceIte]
    repeat (refine And.intro (by first | exact True.intro | omega | kernel_rfl | (simp only [List.length_set, List.length_append, List.length_take, List.length_replicate, List.length_cons, true_and, and_true, List.length_nil, tabR_length]; omega)) ?_)
    refine aloop (σ := Nat) (fun j => ([(3, tS 1 xs.length), (4, tI k), (7, tS 2 xs.length), (8, tS 3 xs.length), (10, tI (Bp x xs j)), (11, tI ((j : Int) - 1))], [rU8 cs, oI xs, oI (srtL xs), oI (nthL xs x)])) (fun j => j ≤ 3) (fun j => 3 - j) 0 [0, 1, 3, 5] (by omega) (weak_of (by decide) (by simp [RS.slot, List.map_cons, List.map_nil, rowsLe, rowLe, slotsLe, tvLe, TV.ren, AV.ren, C.ren, Dat.ren, Row.ren, TV.hs, AV.hs, C.hs, Dat.hs, get_cons, get_nil, zipSlots, List.getD_cons_zero, List.getD_cons_succ, List.getD_nil, -List.getD_eq_getElem?_getD, Bp])) ?_
    intro j hj
    by_cases hjc : j ≤ 2
    · have hjd : decide ((j : Int) - 1 ≤ 1) = true := decide_eq_true (by omega)
      have ej : (j : Int) - 1 + 1 = ((j + 1 : Nat) : Int) - 1 := by omega
      simp (dsimp := false) only [hjd, go_sem, Nat.reduceAdd, Nat.reduceBEq, Nat.reduceEqDiff, Nat.reduceLT, Nat.reduceLeDiff, reduceCtorEq, ↓reduceIte]
      refine aloop (σ := Nat) (fun i => ([(3, tS 1 xs.length), (4, tI k), (7, tS 2 xs.length), (8, tS 3 xs.length), (10, tI (At x xs j i)), (11, tI ((j : Int) - 1)), (12, tI i)], [rU8 cs, oI xs, oI (srtL xs), oI (nthL xs x)])) (fun i => i ≤ xs.length) (fun i => xs.length - i) 0 [0, 1, 2, 3] (by omega) (weak_of (by decide) (by simp [RS.slot, List.map_cons, List.map_nil, rowsLe, rowLe, slotsLe, tvLe, TV.ren, AV.ren, C.ren, Dat.ren, Row.ren, TV.hs, AV.hs, C.hs, Dat.hs, get_cons, get_nil, zipSlots, List.getD_cons_zero, List.getD_cons_succ, List.getD_nil, -List.getD_eq_getElem?_getD, At_zero])) ?_
      intro i hi
      by_cases hci : i < xs.length
      · have hcid : decide ((i : Int) < xs.length) = true := by simp; omega
        have hatb : At x xs j i ≤ 200 := by
          unfold At
          have h1 : ((xs.take i).filter (kp x j)).length ≤ 64 := Nat.le_trans (List.length_filter_le _ _) (by simp; omega)
          have h2 := three_len x xs
          have h3 : Bp x xs j ≤ 64 := by
            match j, hjc with
            | 0, _ => exact Nat.zero_le _
            | 1, _ => show (lessL x xs).length ≤ 64; omega
            | 2, _ => show (lessL x xs).length + (sameL x xs).length ≤ 64; omega
          omega
        rcases Int.lt_trichotomy (xs.getD i 0) x with hy1 | hy1 | hy2
        · have d1 : decide (xs.getD i 0 < x) = true := decide_eq_true hy1
          have d2 : decide (x < xs.getD i 0) = false := decide_eq_false (by omega)
          have hkp := kp_lt hy1 (show j ≤ 2 by omega)
          by_cases hj0 : j = 0
          · have hne : ((-1 : Int) != (j : Int) - 1) = false := by rw [bne_eq_false_iff_eq]; omega
            rw [decide_eq_true hj0] at hkp
            have hat := At_get (show j ≤ 2 by omega) hci hkp
            have e9 := At_t hci hkp
            have dq2 : ((nthL xs x).getD (At x xs j i) 0 != xs.getD i 0) = false := by rw [hat.1]; exact bne_self_eq_false _
            simp (dsimp := false) only [hcid, ← hx, d1, d2, hne, dq2, Int.toNat_natCast, go_sem, Nat.reduceAdd, Nat.reduceBEq, Nat.reduceEqDiff, Nat.reduceLT, Nat.reduceLeDiff, reduceCtorEq, ↓reduceIte]
            repeat (refine And.intro (by first | exact True.intro | omega | kernel_rfl | (simp only [List.length_set, List.length_append, List.length_take, List.length_replicate, List.length_cons, true_and, and_true, List.length_nil, tabR_length]; omega)) ?_)
            refine ⟨i + 1, [0, 1, 2, 3], ?_, weak_of (by decide) (by simp [RS.slot, List.map_cons, List.map_nil, rowsLe, rowLe, slotsLe, tvLe, TV.ren, AV.ren, C.ren, Dat.ren, Row.ren, TV.hs, AV.hs, C.hs, Dat.hs, get_cons, get_nil, zipSlots, List.getD_cons_zero, List.getD_cons_succ, List.getD_nil, -List.getD_eq_getElem?_getD, e9])⟩
            omega
          · have hne : ((-1 : Int) != (j : Int) - 1) = true := by rw [bne_iff_ne]; omega
            rw [decide_eq_false hj0] at hkp
            have e9 := At_f hci hkp
            simp (dsimp := false) only [hcid, ← hx, d1, d2, hne, Int.toNat_natCast, go_sem, Nat.reduceAdd, Nat.reduceBEq, Nat.reduceEqDiff, Nat.reduceLT, Nat.reduceLeDiff, reduceCtorEq, ↓reduceIte]
            repeat (refine And.intro (by first | exact True.intro | omega | kernel_rfl | (simp only [List.length_set, List.length_append, List.length_take, List.length_replicate, List.length_cons, true_and, and_true, List.length_nil, tabR_length]; omega)) ?_)
            refine ⟨i + 1, [0, 1, 2, 3], ?_, weak_of (by decide) (by simp [RS.slot, List.map_cons, List.map_nil, rowsLe, rowLe, slotsLe, tvLe, TV.ren, AV.ren, C.ren, Dat.ren, Row.ren, TV.hs, AV.hs, C.hs, Dat.hs, get_cons, get_nil, zipSlots, List.getD_cons_zero, List.getD_cons_succ, List.getD_nil, -List.getD_eq_getElem?_getD, e9])⟩
            omega
        · have hy1' : ¬ xs.getD i 0 < x := by omega
          have hy2 : ¬ x < xs.getD i 0 := by omega
          have d1 : decide (xs.getD i 0 < x) = false := decide_eq_false hy1'
          have d2 : decide (x < xs.getD i 0) = false := decide_eq_false hy2
          have hkp := kp_eq hy1' hy2 (show j ≤ 2 by omega)
          by_cases hj0 : j = 1
          · have hne : ((0 : Int) != (j : Int) - 1) = false := by rw [bne_eq_false_iff_eq]; omega
            rw [decide_eq_true hj0] at hkp
            have hat := At_get (show j ≤ 2 by omega) hci hkp
            have e9 := At_t hci hkp
            have dq2 : ((nthL xs x).getD (At x xs j i) 0 != xs.getD i 0) = false := by rw [hat.1]; exact bne_self_eq_false _
            simp (dsimp := false) only [hcid, ← hx, d1, d2, hne, dq2, Int.toNat_natCast, go_sem, Nat.reduceAdd, Nat.reduceBEq, Nat.reduceEqDiff, Nat.reduceLT, Nat.reduceLeDiff, reduceCtorEq, ↓reduceIte]
            repeat (refine And.intro (by first | exact True.intro | omega | kernel_rfl | (simp only [List.length_set, List.length_append, List.length_take, List.length_replicate, List.length_cons, true_and, and_true, List.length_nil, tabR_length]; omega)) ?_)
            refine ⟨i + 1, [0, 1, 2, 3], ?_, weak_of (by decide) (by simp [RS.slot, List.map_cons, List.map_nil, rowsLe, rowLe, slotsLe, tvLe, TV.ren, AV.ren, C.ren, Dat.ren, Row.ren, TV.hs, AV.hs, C.hs, Dat.hs, get_cons, get_nil, zipSlots, List.getD_cons_zero, List.getD_cons_succ, List.getD_nil, -List.getD_eq_getElem?_getD, e9])⟩
            omega
          · have hne : ((0 : Int) != (j : Int) - 1) = true := by rw [bne_iff_ne]; omega
            rw [decide_eq_false hj0] at hkp
            have e9 := At_f hci hkp
            simp (dsimp := false) only [hcid, ← hx, d1, d2, hne, Int.toNat_natCast, go_sem, Nat.reduceAdd, Nat.reduceBEq, Nat.reduceEqDiff, Nat.reduceLT, Nat.reduceLeDiff, reduceCtorEq, ↓reduceIte]
            repeat (refine And.intro (by first | exact True.intro | omega | kernel_rfl | (simp only [List.length_set, List.length_append, List.length_take, List.length_replicate, List.length_cons, true_and, and_true, List.length_nil, tabR_length]; omega)) ?_)
            refine ⟨i + 1, [0, 1, 2, 3], ?_, weak_of (by decide) (by simp [RS.slot, List.map_cons, List.map_nil, rowsLe, rowLe, slotsLe, tvLe, TV.ren, AV.ren, C.ren, Dat.ren, Row.ren, TV.hs, AV.hs, C.hs, Dat.hs, get_cons, get_nil, zipSlots, List.getD_cons_zero, List.getD_cons_succ, List.getD_nil, -List.getD_eq_getElem?_getD, e9])⟩
            omega
        · have d1 : decide (xs.getD i 0 < x) = false := decide_eq_false (by omega)
          have d2 : decide (x < xs.getD i 0) = true := decide_eq_true hy2
          have hkp := kp_gt hy2 (show j ≤ 2 by omega)
          by_cases hj0 : j = 2
          · have hne : ((1 : Int) != (j : Int) - 1) = false := by rw [bne_eq_false_iff_eq]; omega
            rw [decide_eq_true hj0] at hkp
            have hat := At_get (show j ≤ 2 by omega) hci hkp
            have e9 := At_t hci hkp
            have dq2 : ((nthL xs x).getD (At x xs j i) 0 != xs.getD i 0) = false := by rw [hat.1]; exact bne_self_eq_false _
            simp (dsimp := false) only [hcid, ← hx, d1, d2, hne, dq2, Int.toNat_natCast, go_sem, Nat.reduceAdd, Nat.reduceBEq, Nat.reduceEqDiff, Nat.reduceLT, Nat.reduceLeDiff, reduceCtorEq, ↓reduceIte]
            repeat (refine And.intro (by first | exact True.intro | omega | kernel_rfl | (simp only [List.length_set, List.length_append, List.length_take, List.length_replicate, List.length_cons, true_and, and_true, List.length_nil, tabR_length]; omega)) ?_)
            refine ⟨i + 1, [0, 1, 2, 3], ?_, weak_of (by decide) (by simp [RS.slot, List.map_cons, List.map_nil, rowsLe, rowLe, slotsLe, tvLe, TV.ren, AV.ren, C.ren, Dat.ren, Row.ren, TV.hs, AV.hs, C.hs, Dat.hs, get_cons, get_nil, zipSlots, List.getD_cons_zero, List.getD_cons_succ, List.getD_nil, -List.getD_eq_getElem?_getD, e9])⟩
            omega
          · have hne : ((1 : Int) != (j : Int) - 1) = true := by rw [bne_iff_ne]; omega
            rw [decide_eq_false hj0] at hkp
            have e9 := At_f hci hkp
            simp (dsimp := false) only [hcid, ← hx, d1, d2, hne, Int.toNat_natCast, go_sem, Nat.reduceAdd, Nat.reduceBEq, Nat.reduceEqDiff, Nat.reduceLT, Nat.reduceLeDiff, reduceCtorEq, ↓reduceIte]
            repeat (refine And.intro (by first | exact True.intro | omega | kernel_rfl | (simp only [List.length_set, List.length_append, List.length_take, List.length_replicate, List.length_cons, true_and, and_true, List.length_nil, tabR_length]; omega)) ?_)
            refine ⟨i + 1, [0, 1, 2, 3], ?_, weak_of (by decide) (by simp [RS.slot, List.map_cons, List.map_nil, rowsLe, rowLe, slotsLe, tvLe, TV.ren, AV.ren, C.ren, Dat.ren, Row.ren, TV.hs, AV.hs, C.hs, Dat.hs, get_cons, get_nil, zipSlots, List.getD_cons_zero, List.getD_cons_succ, List.getD_nil, -List.getD_eq_getElem?_getD, e9])⟩
            omega
      · have hcid : decide ((i : Int) < xs.length) = false := by simp; omega
        have e : i = xs.length := by omega
        subst e
        have e9 := At_end x xs hjc
        simp (dsimp := false) only [hcid, e9, ej, go_sem, Nat.reduceAdd, Nat.reduceBEq, Nat.reduceEqDiff, Nat.reduceLT, Nat.reduceLeDiff, reduceCtorEq, ↓reduceIte]
        repeat (refine And.intro (by first | exact True.intro | omega | kernel_rfl | (simp only [List.length_set, List.length_append, List.length_take, List.length_replicate, List.length_cons, true_and, and_true, List.length_nil, tabR_length]; omega)) ?_)
        refine ⟨j + 1, [0, 1, 2, 3], ?_, weak_of (by decide) (by simp [RS.slot, List.map_cons, List.map_nil, rowsLe, rowLe, slotsLe, tvLe, TV.ren, AV.ren, C.ren, Dat.ren, Row.ren, TV.hs, AV.hs, C.hs, Dat.hs, get_cons, get_nil, zipSlots, List.getD_cons_zero, List.getD_cons_succ, List.getD_nil, -List.getD_eq_getElem?_getD])⟩
        omega
    · have hjd : decide ((j : Int) - 1 ≤ 1) = false := decide_eq_false (by omega)
      have e : j = 3 := by omega
      subst e
      have e3 : Bp x xs 3 = xs.length := rfl
      simp (dsimp := false) only [hjd, e3, beq_self_eq_true, go_sem, Nat.reduceAdd, Nat.reduceBEq, Nat.reduceEqDiff, Nat.reduceLT, Nat.reduceLeDiff, reduceCtorEq, ↓reduceIte]
      refine afin [0] [aB true] [rU8 cs] (by simp) rfl (weak_of (by decide) (by simp [RS.slot, List.map_cons, List.map_nil, rowsLe, rowLe, slotsLe, tvLe, TV.ren, AV.ren, C.ren, Dat.ren, Row.ren, TV.hs, AV.hs, C.hs, Dat.hs, get_cons, get_nil, zipSlots, List.getD_cons_zero, List.getD_cons_succ, List.getD_nil, -List.getD_eq_getElem?_getD])) (by simp [rtv])
end Go.Proofs.Ytlejmdbjckmfoaa
