/- Contracts: PushHeap, in the program and in the reference; IsHeap and BuildHeap of the reference; drawn pushes and pops. -/
import Derived.Test.YtajohkbhiafnmaaPlHs
import Derived.Test.YtajohkbhiafnmaaHeapTop
import Derived.Test.YtajohkbhiafnmaaDrawH
set_option linter.unusedSimpArgs false
set_option linter.unusedVariables false
set_option linter.unusedSectionVars false
namespace Go.Proofs.Ytajohkbhiafnmaa
open Go Go.Ax
set_option maxRecDepth 10000
set_option maxHeartbeats 1000000

def pshF (d : Nat) : Nat → Nat → List Int → List Int × Nat
  | 0, _, zs => (zs, 0)
  | _ + 1, 0, zs => (zs, 0)
  | f + 1, i + 1, zs =>
    if zs.getD (i / d) 0 < zs.getD (i + 1) 0 then ((pshF d f (i / d) (swp zs (i + 1) (i / d))).1, (pshF d f (i / d) (swp zs (i + 1) (i / d))).2 + 1)
    else (zs, 0)
theorem pshF_zero (d f : Nat) (zs : List Int) : pshF d f 0 zs = (zs, 0) := by cases f <;> rfl
theorem pshF_go {d f i : Nat} {zs : List Int} (h : zs.getD (i / d) 0 < zs.getD (i + 1) 0) :
    pshF d (f + 1) (i + 1) zs = ((pshF d f (i / d) (swp zs (i + 1) (i / d))).1, (pshF d f (i / d) (swp zs (i + 1) (i / d))).2 + 1) := by rw [pshF, if_pos h]
theorem pshF_stay {d f i : Nat} {zs : List Int} (h : ¬ zs.getD (i / d) 0 < zs.getD (i + 1) 0) : pshF d f (i + 1) zs = (zs, 0) := by
  cases f with
  | zero => rfl
  | succ f => rw [pshF, if_neg h]
theorem pshF_len (d : Nat) : ∀ (f i : Nat) (zs : List Int), (pshF d f i zs).1.length = zs.length
  | 0, _, _ => rfl
  | _ + 1, 0, _ => rfl
  | f + 1, i + 1, zs => by
    by_cases h : zs.getD (i / d) 0 < zs.getD (i + 1) 0
    · rw [pshF_go h]; simp only; rw [pshF_len d f]; exact swp_len _ _ _
    · rw [pshF_stay h]
theorem pshF_cnt (d : Nat) : ∀ (f i : Nat) (zs : List Int), (pshF d f i zs).2 ≤ f
  | 0, _, _ => Nat.le_refl _
  | _ + 1, 0, _ => Nat.zero_le _
  | f + 1, i + 1, zs => by
    by_cases h : zs.getD (i / d) 0 < zs.getD (i + 1) 0
    · have := pshF_cnt d f (i / d) (swp zs (i + 1) (i / d))
      rw [pshF_go h]; simp only; omega
    · rw [pshF_stay h]; exact Nat.zero_le _

def puOk (xs : List Int) (d x : Int) : Bool := isHeapB xs d && validB (xs ++ [x])
def puF (xs : List Int) (d x : Int) : List Int × Nat := pshF d.toNat xs.length xs.length (xs ++ [x])
theorem puF_len (xs : List Int) (d x : Int) : (puF xs d x).1.length = xs.length + 1 := by unfold puF; rw [pshF_len]; simp
theorem puOk_t {xs : List Int} {d x : Int} (h : puOk xs d x = true) : isHeapB xs d = true ∧ validB (xs ++ [x]) = true := by simpa only [puOk, Bool.and_eq_true] using h

theorem iPushHeap_f (xs : List Int) (d x : Int) (hx : xs.length ≤ 1048576) (hv : puOk xs d x = false) : ACalls Try.prog 39 [tS 0 xs.length, tI d, tI x] [] [rI xs] (fun t H => t = .tup [aN, aI 0, aB false] ∧ H = [rI xs]) := by
  have hval := isValidList_l (xs ++ [x]) (by simp; omega)
  rw [List.length_append, List.length_singleton] at hval
  refine afun (fun i => match i with | 6 => some ⟨[], .op 0 .held (.op 1 .held (.op 2 .held (.op 3 .held (.op 4 .held (.op 5 .held (.op 6 .now (.op 7 .held (.op 8 .held (.op 9 .held (.op 10 .held (.op 11 .held (.op 12 .held (.op 13 .now (.op 14 .held (.op 15 .held .nil)))))))))))))))⟩ | 8 => some ⟨[1], .op 0 .held (.op 1 .held (.op 2 .held (.op 3 .held (.op 4 .held (.op 5 .held (.op 6 .held (.op 7 .held (.op 8 .held (.op 9 .held (.op 10 .held (.op 11 .held (.op 12 .held (.op 13 .now (.op 14 .held (.op 15 .held (.op 16 .held (.op 17 .now (.op 18 .held (.op 19 .only (.op 20 .held (.op 21 .only .nil)))))))))))))))))))))⟩ | _ => none) [6, 7, 8] 1 Try.func39 rfl rfl mix (by kernel_rfl) (by kernel_rfl) (by simp [Try.f39]) rfl (by simp [msOwn, ownAll, Row.own]) ?_
  simp (dsimp := false) only [go_sem, Nat.reduceAdd, Nat.reduceBEq, Nat.reduceEqDiff, Nat.reduceLT, Nat.reduceLeDiff, reduceCtorEq, ↓reduceIte]
  cases h1 : isHeapB xs d
  · repeat (refine And.intro (by first | exact True.intro | omega | kernel_rfl | (simp only [List.length_set, List.length_append, List.length_take, List.length_replicate, List.length_cons, true_and, and_true, List.length_nil, tabR_length]; omega)) ?_)
    refine ⟨_, (copyOf_l xs (by omega)).lift [0] (by decide) (by simp) (by simp [RS.slot, List.map_cons, List.map_nil, rowsLe, rowLe, slotsLe, tvLe, TV.ren, AV.ren, C.ren, Dat.ren, Row.ren, TV.hs, AV.hs, C.hs, Dat.hs, get_cons, get_nil, zipSlots, List.getD_cons_zero, List.getD_cons_succ, List.getD_nil, -List.getD_eq_getElem?_getD]) (by simp [RS.slot, List.map_cons, List.map_nil, rowsLe, rowLe, slotsLe, tvLe, TV.ren, AV.ren, C.ren, Dat.ren, Row.ren, TV.hs, AV.hs, C.hs, Dat.hs, get_cons, get_nil, zipSlots, List.getD_cons_zero, List.getD_cons_succ, List.getD_nil, -List.getD_eq_getElem?_getD]) (by simp [RS.slot, List.map_cons, List.map_nil, rowsLe, rowLe, slotsLe, tvLe, TV.ren, AV.ren, C.ren, Dat.ren, Row.ren, TV.hs, AV.hs, C.hs, Dat.hs, get_cons, get_nil, zipSlots, List.getD_cons_zero, List.getD_cons_succ, List.getD_nil, -List.getD_eq_getElem?_getD]) rfl ?_⟩
    rintro _ _ ⟨rfl, rfl⟩
    refine ⟨by simp [ownIn, Row.own], ?_⟩
    simp (dsimp := false) only [List.drop_zero, List.take_length, liftT, liftH, putBack, freshR, ownIn, Row.own, Row.ren, TV.ren, AV.ren, C.ren, Dat.ren, List.drop_succ_cons, List.drop_nil, List.getD_cons_zero, List.getD_cons_succ, List.getD_nil, go_sem, Nat.reduceAdd, Nat.reduceBEq, Nat.reduceEqDiff, Nat.reduceLT, Nat.reduceLeDiff, reduceCtorEq, ↓reduceIte]
    repeat (refine And.intro (by first | exact True.intro | omega | kernel_rfl | (simp only [List.length_set, List.length_append, List.length_take, List.length_replicate, List.length_cons, true_and, and_true, List.length_nil, tabR_length]; omega)) ?_)
    repeat (refine And.intro (by first | exact True.intro | omega | kernel_rfl | (simp only [List.length_set, List.length_append, List.length_take, List.length_replicate, List.length_cons, true_and, and_true, List.length_nil, tabR_length]; omega)) ?_)
    refine ⟨_, (isHeap_l xs d (by omega)).lift [0] (by decide) (by simp) (by simp [RS.slot, List.map_cons, List.map_nil, rowsLe, rowLe, slotsLe, tvLe, TV.ren, AV.ren, C.ren, Dat.ren, Row.ren, TV.hs, AV.hs, C.hs, Dat.hs, get_cons, get_nil, zipSlots, List.getD_cons_zero, List.getD_cons_succ, List.getD_nil, -List.getD_eq_getElem?_getD]) (by simp [RS.slot, List.map_cons, List.map_nil, rowsLe, rowLe, slotsLe, tvLe, TV.ren, AV.ren, C.ren, Dat.ren, Row.ren, TV.hs, AV.hs, C.hs, Dat.hs, get_cons, get_nil, zipSlots, List.getD_cons_zero, List.getD_cons_succ, List.getD_nil, -List.getD_eq_getElem?_getD]) (by simp [RS.slot, List.map_cons, List.map_nil, rowsLe, rowLe, slotsLe, tvLe, TV.ren, AV.ren, C.ren, Dat.ren, Row.ren, TV.hs, AV.hs, C.hs, Dat.hs, get_cons, get_nil, zipSlots, List.getD_cons_zero, List.getD_cons_succ, List.getD_nil, -List.getD_eq_getElem?_getD]) rfl ?_⟩
    rintro _ _ ⟨rfl, rfl⟩
    refine ⟨by simp [ownIn, Row.own], ?_⟩
    simp (dsimp := false) only [h1, liftT, liftH, putBack, freshR, ownIn, Row.own, Row.ren, TV.ren, AV.ren, C.ren, Dat.ren, List.drop_succ_cons, List.drop_nil, List.getD_cons_zero, List.getD_cons_succ, List.getD_nil, go_sem, Nat.reduceAdd, Nat.reduceBEq, Nat.reduceEqDiff, Nat.reduceLT, Nat.reduceLeDiff, reduceCtorEq, ↓reduceIte]
    refine afin [0] [aN, aI 0, aB false] [rI xs] (by simp) rfl (weak_of (by decide) (by simp [RS.slot, List.map_cons, List.map_nil, rowsLe, rowLe, slotsLe, tvLe, TV.ren, AV.ren, C.ren, Dat.ren, Row.ren, TV.hs, AV.hs, C.hs, Dat.hs, get_cons, get_nil, zipSlots, List.getD_cons_zero, List.getD_cons_succ, List.getD_nil, -List.getD_eq_getElem?_getD])) (by simp [rtv])
  · have h3 : validB (xs ++ [x]) = false := by simpa [puOk, h1] using hv
    repeat (refine And.intro (by first | exact True.intro | omega | kernel_rfl | (simp only [List.length_set, List.length_append, List.length_take, List.length_replicate, List.length_cons, true_and, and_true, List.length_nil, tabR_length]; omega)) ?_)
    refine ⟨_, (copyOf_l xs (by omega)).lift [0] (by decide) (by simp) (by simp [RS.slot, List.map_cons, List.map_nil, rowsLe, rowLe, slotsLe, tvLe, TV.ren, AV.ren, C.ren, Dat.ren, Row.ren, TV.hs, AV.hs, C.hs, Dat.hs, get_cons, get_nil, zipSlots, List.getD_cons_zero, List.getD_cons_succ, List.getD_nil, -List.getD_eq_getElem?_getD]) (by simp [RS.slot, List.map_cons, List.map_nil, rowsLe, rowLe, slotsLe, tvLe, TV.ren, AV.ren, C.ren, Dat.ren, Row.ren, TV.hs, AV.hs, C.hs, Dat.hs, get_cons, get_nil, zipSlots, List.getD_cons_zero, List.getD_cons_succ, List.getD_nil, -List.getD_eq_getElem?_getD]) (by simp [RS.slot, List.map_cons, List.map_nil, rowsLe, rowLe, slotsLe, tvLe, TV.ren, AV.ren, C.ren, Dat.ren, Row.ren, TV.hs, AV.hs, C.hs, Dat.hs, get_cons, get_nil, zipSlots, List.getD_cons_zero, List.getD_cons_succ, List.getD_nil, -List.getD_eq_getElem?_getD]) rfl ?_⟩
    rintro _ _ ⟨rfl, rfl⟩
    refine ⟨by simp [ownIn, Row.own], ?_⟩
    simp (dsimp := false) only [List.drop_zero, List.take_length, liftT, liftH, putBack, freshR, ownIn, Row.own, Row.ren, TV.ren, AV.ren, C.ren, Dat.ren, List.drop_succ_cons, List.drop_nil, List.getD_cons_zero, List.getD_cons_succ, List.getD_nil, go_sem, Nat.reduceAdd, Nat.reduceBEq, Nat.reduceEqDiff, Nat.reduceLT, Nat.reduceLeDiff, reduceCtorEq, ↓reduceIte]
    repeat (refine And.intro (by first | exact True.intro | omega | kernel_rfl | (simp only [List.length_set, List.length_append, List.length_take, List.length_replicate, List.length_cons, true_and, and_true, List.length_nil, tabR_length]; omega)) ?_)
    repeat (refine And.intro (by first | exact True.intro | omega | kernel_rfl | (simp only [List.length_set, List.length_append, List.length_take, List.length_replicate, List.length_cons, true_and, and_true, List.length_nil, tabR_length]; omega)) ?_)
    refine ⟨_, (isHeap_l xs d (by omega)).lift [0] (by decide) (by simp) (by simp [RS.slot, List.map_cons, List.map_nil, rowsLe, rowLe, slotsLe, tvLe, TV.ren, AV.ren, C.ren, Dat.ren, Row.ren, TV.hs, AV.hs, C.hs, Dat.hs, get_cons, get_nil, zipSlots, List.getD_cons_zero, List.getD_cons_succ, List.getD_nil, -List.getD_eq_getElem?_getD]) (by simp [RS.slot, List.map_cons, List.map_nil, rowsLe, rowLe, slotsLe, tvLe, TV.ren, AV.ren, C.ren, Dat.ren, Row.ren, TV.hs, AV.hs, C.hs, Dat.hs, get_cons, get_nil, zipSlots, List.getD_cons_zero, List.getD_cons_succ, List.getD_nil, -List.getD_eq_getElem?_getD]) (by simp [RS.slot, List.map_cons, List.map_nil, rowsLe, rowLe, slotsLe, tvLe, TV.ren, AV.ren, C.ren, Dat.ren, Row.ren, TV.hs, AV.hs, C.hs, Dat.hs, get_cons, get_nil, zipSlots, List.getD_cons_zero, List.getD_cons_succ, List.getD_nil, -List.getD_eq_getElem?_getD]) rfl ?_⟩
    rintro _ _ ⟨rfl, rfl⟩
    refine ⟨by simp [ownIn, Row.own], ?_⟩
    simp (dsimp := false) only [h1, liftT, liftH, putBack, freshR, ownIn, Row.own, Row.ren, TV.ren, AV.ren, C.ren, Dat.ren, List.drop_succ_cons, List.drop_nil, List.getD_cons_zero, List.getD_cons_succ, List.getD_nil, go_sem, Nat.reduceAdd, Nat.reduceBEq, Nat.reduceEqDiff, Nat.reduceLT, Nat.reduceLeDiff, reduceCtorEq, ↓reduceIte]
    repeat (refine And.intro (by first | exact True.intro | omega | kernel_rfl | (simp only [List.length_set, List.length_append, List.length_take, List.length_replicate, List.length_cons, true_and, and_true, List.length_nil, tabR_length]; omega)) ?_)
    refine ⟨_, (hval).lift [3] (by decide) (by simp) (by simp [RS.slot, List.map_cons, List.map_nil, rowsLe, rowLe, slotsLe, tvLe, TV.ren, AV.ren, C.ren, Dat.ren, Row.ren, TV.hs, AV.hs, C.hs, Dat.hs, get_cons, get_nil, zipSlots, List.getD_cons_zero, List.getD_cons_succ, List.getD_nil, -List.getD_eq_getElem?_getD]) (by simp [RS.slot, List.map_cons, List.map_nil, rowsLe, rowLe, slotsLe, tvLe, TV.ren, AV.ren, C.ren, Dat.ren, Row.ren, TV.hs, AV.hs, C.hs, Dat.hs, get_cons, get_nil, zipSlots, List.getD_cons_zero, List.getD_cons_succ, List.getD_nil, -List.getD_eq_getElem?_getD]) (by simp [RS.slot, List.map_cons, List.map_nil, rowsLe, rowLe, slotsLe, tvLe, TV.ren, AV.ren, C.ren, Dat.ren, Row.ren, TV.hs, AV.hs, C.hs, Dat.hs, get_cons, get_nil, zipSlots, List.getD_cons_zero, List.getD_cons_succ, List.getD_nil, -List.getD_eq_getElem?_getD]) rfl ?_⟩
    rintro _ _ ⟨rfl, rfl⟩
    refine ⟨by simp [ownIn, Row.own], ?_⟩
    simp (dsimp := false) only [h3, liftT, liftH, putBack, freshR, ownIn, Row.own, Row.ren, TV.ren, AV.ren, C.ren, Dat.ren, List.drop_succ_cons, List.drop_nil, List.getD_cons_zero, List.getD_cons_succ, List.getD_nil, go_sem, Nat.reduceAdd, Nat.reduceBEq, Nat.reduceEqDiff, Nat.reduceLT, Nat.reduceLeDiff, reduceCtorEq, ↓reduceIte]
    refine afin [0] [aN, aI 0, aB false] [rI xs] (by simp) rfl (weak_of (by decide) (by simp [RS.slot, List.map_cons, List.map_nil, rowsLe, rowLe, slotsLe, tvLe, TV.ren, AV.ren, C.ren, Dat.ren, Row.ren, TV.hs, AV.hs, C.hs, Dat.hs, get_cons, get_nil, zipSlots, List.getD_cons_zero, List.getD_cons_succ, List.getD_nil, -List.getD_eq_getElem?_getD])) (by simp [rtv])

theorem iPushHeap_t (xs : List Int) (d x : Int) (hx : xs.length ≤ 1048576) (hv : puOk xs d x = true) : ACalls Try.prog 39 [tS 0 xs.length, tI d, tI x] [] [rI xs] (fun t H => t = .tup [aS 1 (xs.length + 1), aI (puF xs d x).2, aB true] ∧ H = [rI xs, oI (puF xs d x).1]) := by
  have hval := isValidList_l (xs ++ [x]) (by simp; omega)
  obtain ⟨h1, h3⟩ := puOk_t hv
  have h64 := validB_len h3
  have hl : (xs ++ [x]).length = xs.length + 1 := by simp
  obtain ⟨D, rfl, hD⟩ := arity_nat (isHeapB_t h1).2
  obtain ⟨T, hT⟩ : ∃ T, T = puF xs D x := ⟨_, rfl⟩
  have hTc : T.2 ≤ xs.length := by rw [hT]; exact pshF_cnt _ _ _ _
  rw [← hT]
  have hT' : pshF D xs.length xs.length (xs ++ [x]) = T := by rw [hT]; unfold puF; rw [Int.toNat_natCast]
  rw [hl] at hval h64
  have en : ((xs.length + 1 : Nat) : Int) - 1 = (xs.length : Int) := by omega
  refine afun (fun i => match i with | 6 => some ⟨[], .op 0 .held (.op 1 .held (.op 2 .held (.op 3 .held (.op 4 .held (.op 5 .held (.op 6 .now (.op 7 .held (.op 8 .held (.op 9 .held (.op 10 .held (.op 11 .held (.op 12 .held (.op 13 .now (.op 14 .held (.op 15 .held .nil)))))))))))))))⟩ | 8 => some ⟨[1], .op 0 .held (.op 1 .held (.op 2 .held (.op 3 .held (.op 4 .held (.op 5 .held (.op 6 .held (.op 7 .held (.op 8 .held (.op 9 .held (.op 10 .held (.op 11 .held (.op 12 .held (.op 13 .now (.op 14 .held (.op 15 .held (.op 16 .held (.op 17 .now (.op 18 .held (.op 19 .only (.op 20 .held (.op 21 .only .nil)))))))))))))))))))))⟩ | _ => none) [6, 7, 8] 1 Try.func39 rfl rfl mix (by kernel_rfl) (by kernel_rfl) (by simp [Try.f39]) rfl (by simp [msOwn, ownAll, Row.own]) ?_
  simp (dsimp := false) only [go_sem, Nat.reduceAdd, Nat.reduceBEq, Nat.reduceEqDiff, Nat.reduceLT, Nat.reduceLeDiff, reduceCtorEq, ↓reduceIte]
  repeat (refine And.intro (by first | exact True.intro | omega | kernel_rfl | (simp only [List.length_set, List.length_append, List.length_take, List.length_replicate, List.length_cons, true_and, and_true, List.length_nil, tabR_length]; omega)) ?_)
  refine ⟨_, (copyOf_l xs (by omega)).lift [0] (by decide) (by simp) (by simp [RS.slot, List.map_cons, List.map_nil, rowsLe, rowLe, slotsLe, tvLe, TV.ren, AV.ren, C.ren, Dat.ren, Row.ren, TV.hs, AV.hs, C.hs, Dat.hs, get_cons, get_nil, zipSlots, List.getD_cons_zero, List.getD_cons_succ, List.getD_nil, -List.getD_eq_getElem?_getD]) (by simp [RS.slot, List.map_cons, List.map_nil, rowsLe, rowLe, slotsLe, tvLe, TV.ren, AV.ren, C.ren, Dat.ren, Row.ren, TV.hs, AV.hs, C.hs, Dat.hs, get_cons, get_nil, zipSlots, List.getD_cons_zero, List.getD_cons_succ, List.getD_nil, -List.getD_eq_getElem?_getD]) (by simp [RS.slot, List.map_cons, List.map_nil, rowsLe, rowLe, slotsLe, tvLe, TV.ren, AV.ren, C.ren, Dat.ren, Row.ren, TV.hs, AV.hs, C.hs, Dat.hs, get_cons, get_nil, zipSlots, List.getD_cons_zero, List.getD_cons_succ, List.getD_nil, -List.getD_eq_getElem?_getD]) rfl ?_⟩
  rintro _ _ ⟨rfl, rfl⟩
  refine ⟨by simp [ownIn, Row.own], ?_⟩
  simp (dsimp := false) only [List.drop_zero, List.take_length, liftT, liftH, putBack, freshR, ownIn, Row.own, Row.ren, TV.ren, AV.ren, C.ren, Dat.ren, List.drop_succ_cons, List.drop_nil, List.getD_cons_zero, List.getD_cons_succ, List.getD_nil, go_sem, Nat.reduceAdd, Nat.reduceBEq, Nat.reduceEqDiff, Nat.reduceLT, Nat.reduceLeDiff, reduceCtorEq, ↓reduceIte]
  repeat (refine And.intro (by first | exact True.intro | omega | kernel_rfl | (simp only [List.length_set, List.length_append, List.length_take, List.length_replicate, List.length_cons, true_and, and_true, List.length_nil, tabR_length]; omega)) ?_)
  repeat (refine And.intro (by first | exact True.intro | omega | kernel_rfl | (simp only [List.length_set, List.length_append, List.length_take, List.length_replicate, List.length_cons, true_and, and_true, List.length_nil, tabR_length]; omega)) ?_)
  refine ⟨_, (isHeap_l xs D (by omega)).lift [0] (by decide) (by simp) (by simp [RS.slot, List.map_cons, List.map_nil, rowsLe, rowLe, slotsLe, tvLe, TV.ren, AV.ren, C.ren, Dat.ren, Row.ren, TV.hs, AV.hs, C.hs, Dat.hs, get_cons, get_nil, zipSlots, List.getD_cons_zero, List.getD_cons_succ, List.getD_nil, -List.getD_eq_getElem?_getD]) (by simp [RS.slot, List.map_cons, List.map_nil, rowsLe, rowLe, slotsLe, tvLe, TV.ren, AV.ren, C.ren, Dat.ren, Row.ren, TV.hs, AV.hs, C.hs, Dat.hs, get_cons, get_nil, zipSlots, List.getD_cons_zero, List.getD_cons_succ, List.getD_nil, -List.getD_eq_getElem?_getD]) (by simp [RS.slot, List.map_cons, List.map_nil, rowsLe, rowLe, slotsLe, tvLe, TV.ren, AV.ren, C.ren, Dat.ren, Row.ren, TV.hs, AV.hs, C.hs, Dat.hs, get_cons, get_nil, zipSlots, List.getD_cons_zero, List.getD_cons_succ, List.getD_nil, -List.getD_eq_getElem?_getD]) rfl ?_⟩
  rintro _ _ ⟨rfl, rfl⟩
  refine ⟨by simp [ownIn, Row.own], ?_⟩
  simp (dsimp := false) only [h1, liftT, liftH, putBack, freshR, ownIn, Row.own, Row.ren, TV.ren, AV.ren, C.ren, Dat.ren, List.drop_succ_cons, List.drop_nil, List.getD_cons_zero, List.getD_cons_succ, List.getD_nil, go_sem, Nat.reduceAdd, Nat.reduceBEq, Nat.reduceEqDiff, Nat.reduceLT, Nat.reduceLeDiff, reduceCtorEq, ↓reduceIte]
  repeat (refine And.intro (by first | exact True.intro | omega | kernel_rfl | (simp only [List.length_set, List.length_append, List.length_take, List.length_replicate, List.length_cons, true_and, and_true, List.length_nil, tabR_length]; omega)) ?_)
  refine ⟨_, (hval).lift [3] (by decide) (by simp) (by simp [RS.slot, List.map_cons, List.map_nil, rowsLe, rowLe, slotsLe, tvLe, TV.ren, AV.ren, C.ren, Dat.ren, Row.ren, TV.hs, AV.hs, C.hs, Dat.hs, get_cons, get_nil, zipSlots, List.getD_cons_zero, List.getD_cons_succ, List.getD_nil, -List.getD_eq_getElem?_getD]) (by simp [RS.slot, List.map_cons, List.map_nil, rowsLe, rowLe, slotsLe, tvLe, TV.ren, AV.ren, C.ren, Dat.ren, Row.ren, TV.hs, AV.hs, C.hs, Dat.hs, get_cons, get_nil, zipSlots, List.getD_cons_zero, List.getD_cons_succ, List.getD_nil, -List.getD_eq_getElem?_getD]) (by simp [RS.slot, List.map_cons, List.map_nil, rowsLe, rowLe, slotsLe, tvLe, TV.ren, AV.ren, C.ren, Dat.ren, Row.ren, TV.hs, AV.hs, C.hs, Dat.hs, get_cons, get_nil, zipSlots, List.getD_cons_zero, List.getD_cons_succ, List.getD_nil, -List.getD_eq_getElem?_getD]) rfl ?_⟩
  rintro _ _ ⟨rfl, rfl⟩
  refine ⟨by simp [ownIn, Row.own], ?_⟩
  simp (dsimp := false) only [h3, en, liftT, liftH, putBack, freshR, ownIn, Row.own, Row.ren, TV.ren, AV.ren, C.ren, Dat.ren, List.drop_succ_cons, List.drop_nil, List.getD_cons_zero, List.getD_cons_succ, List.getD_nil, go_sem, Nat.reduceAdd, Nat.reduceBEq, Nat.reduceEqDiff, Nat.reduceLT, Nat.reduceLeDiff, reduceCtorEq, ↓reduceIte]
  repeat (refine And.intro (by first | exact True.intro | omega | kernel_rfl | (simp only [List.length_set, List.length_append, List.length_take, List.length_replicate, List.length_cons, true_and, and_true, List.length_nil, tabR_length]; omega)) ?_)
  try simp only [en]
  refine aloop (σ := Nat × Nat × List Int × Nat) (fun s => ([(1, tI D), (9, tS 1 (xs.length + 1)), (10, tI s.2.2.2), (11, tI s.2.1)], [rI xs, oI s.2.2.1])) (fun s => s.2.2.1.length = xs.length + 1 ∧ s.2.1 ≤ s.1 ∧ s.1 ≤ xs.length ∧ s.2.2.2 + (pshF D s.1 s.2.1 s.2.2.1).2 = T.2 ∧ (pshF D s.1 s.2.1 s.2.2.1).1 = T.1) (fun s => s.1) (xs.length, xs.length, xs ++ [x], 0) [0, 3] ⟨hl, Nat.le_refl _, Nat.le_refl _, by show 0 + (pshF D xs.length xs.length (xs ++ [x])).2 = T.2; rw [hT', Nat.zero_add], by show (pshF D xs.length xs.length (xs ++ [x])).1 = T.1; rw [hT']⟩ (weak_of (by decide) (by simp [RS.slot, List.map_cons, List.map_nil, rowsLe, rowLe, slotsLe, tvLe, TV.ren, AV.ren, C.ren, Dat.ren, Row.ren, TV.hs, AV.hs, C.hs, Dat.hs, get_cons, get_nil, zipSlots, List.getD_cons_zero, List.getD_cons_succ, List.getD_nil, -List.getD_eq_getElem?_getD])) ?_
  rintro ⟨f, i, zs, s⟩ ⟨hzl, hi, hf, h2, h4⟩
  simp only at hzl hi hf h2 h4
  cases i with
  | zero =>
    rw [pshF_zero] at h2 h4
    simp only at h2 h4
    have e2 : T.2 = s := by omega
    simp (dsimp := false) only [show decide (0 < ((0 : Nat) : Int)) = false from rfl, go_sem, Nat.reduceAdd, Nat.reduceBEq, Nat.reduceEqDiff, Nat.reduceLT, Nat.reduceLeDiff, reduceCtorEq, ↓reduceIte]
    rw [e2, ← h4]
    refine afin [0, 1] [aS 1 (xs.length + 1), aI s, aB true] [rI xs, oI zs] (by simp) rfl (weak_of (by decide) (by simp [RS.slot, List.map_cons, List.map_nil, rowsLe, rowLe, slotsLe, tvLe, TV.ren, AV.ren, C.ren, Dat.ren, Row.ren, TV.hs, AV.hs, C.hs, Dat.hs, get_cons, get_nil, zipSlots, List.getD_cons_zero, List.getD_cons_succ, List.getD_nil, -List.getD_eq_getElem?_getD])) (by simp [rtv])
  | succ q =>
    obtain ⟨f, rfl⟩ : ∃ g, f = g + 1 := ⟨f - 1, by omega⟩
    have hg : decide (0 < ((q + 1 : Nat) : Int)) = true := decide_eq_true (by omega)
    have eq1 : ((q + 1 : Nat) : Int) - 1 = (q : Int) := by omega
    have eq2 : (q : Int).tdiv (D : Int) = ((q / D : Nat) : Int) := tdiv_nat q D
    have hqd : q / D ≤ q := Nat.div_le_self _ _
    have hst : ¬ zs.getD (q / D) 0 < zs.getD (q + 1) 0 → pshF D (f + 1) (q + 1) zs = (zs, 0) := pshF_stay
    have hgo : zs.getD (q / D) 0 < zs.getD (q + 1) 0 → pshF D (f + 1) (q + 1) zs = ((pshF D f (q / D) (swp zs (q + 1) (q / D))).1, (pshF D f (q / D) (swp zs (q + 1) (q / D))).2 + 1) := pshF_go
    obtain ⟨r, hr⟩ : ∃ r, r = q / D := ⟨_, rfl⟩
    rw [← hr] at eq2 hqd hst hgo
    have hd0 : (D : Int) ≠ 0 := by omega
    simp (dsimp := false) only [hg, eq1, eq2, go_sem, Nat.reduceAdd, Nat.reduceBEq, Nat.reduceEqDiff, Nat.reduceLT, Nat.reduceLeDiff, reduceCtorEq, ↓reduceIte]
    repeat (refine And.intro (by first | exact True.intro | omega | kernel_rfl | (simp only [List.length_set, List.length_append, List.length_take, List.length_replicate, List.length_cons, true_and, and_true, List.length_nil, tabR_length]; omega)) ?_)
    try simp only [eq1, eq2]
    repeat (refine And.intro (by first | exact True.intro | omega | kernel_rfl | (simp only [List.length_set, List.length_append, List.length_take, List.length_replicate, List.length_cons, true_and, and_true, List.length_nil, tabR_length]; omega)) ?_)
    refine ⟨fun h => ?_, fun h => ?_⟩
    · have h' : zs.getD r 0 < zs.getD (q + 1) 0 := by simpa using h
      rw [hgo h'] at h2 h4
      simp only at h2 h4
      try simp (dsimp := false) only [eq1, eq2, go_sem, Nat.reduceAdd, Nat.reduceBEq, Nat.reduceEqDiff, Nat.reduceLT, Nat.reduceLeDiff, reduceCtorEq, ↓reduceIte]
      repeat (refine And.intro (by first | exact True.intro | omega | kernel_rfl | (simp only [List.length_set, List.length_append, List.length_take, List.length_replicate, List.length_cons, true_and, and_true, List.length_nil, tabR_length]; omega)) ?_)
      try simp only [eq1, eq2]
      repeat (refine And.intro (by first | exact True.intro | omega | kernel_rfl | (simp only [List.length_set, List.length_append, List.length_take, List.length_replicate, List.length_cons, true_and, and_true, List.length_nil, tabR_length]; omega)) ?_)
      refine ⟨(f, r, swp zs (q + 1) r, s + 1), [0, 1], ?_, weak_of (by decide) (by simp [RS.slot, List.map_cons, List.map_nil, rowsLe, rowLe, slotsLe, tvLe, TV.ren, AV.ren, C.ren, Dat.ren, Row.ren, TV.hs, AV.hs, C.hs, Dat.hs, get_cons, get_nil, zipSlots, List.getD_cons_zero, List.getD_cons_succ, List.getD_nil, -List.getD_eq_getElem?_getD, swp, eq1, eq2])⟩
      dsimp only
      refine ⟨⟨by rw [swp_len]; exact hzl, by omega, by omega, by omega, h4⟩, by omega⟩
    · have h' : ¬ zs.getD r 0 < zs.getD (q + 1) 0 := by simpa using h
      rw [hst h'] at h2 h4
      simp only at h2 h4
      have e2 : T.2 = s := by omega
      rw [e2, ← h4]
      refine afin [0, 1] [aS 1 (xs.length + 1), aI s, aB true] [rI xs, oI zs] (by simp) rfl (weak_of (by decide) (by simp [RS.slot, List.map_cons, List.map_nil, rowsLe, rowLe, slotsLe, tvLe, TV.ren, AV.ren, C.ren, Dat.ren, Row.ren, TV.hs, AV.hs, C.hs, Dat.hs, get_cons, get_nil, zipSlots, List.getD_cons_zero, List.getD_cons_succ, List.getD_nil, -List.getD_eq_getElem?_getD])) (by simp [rtv])

theorem sPushHeap_f (xs : List Int) (d x : Int) (hx : xs.length ≤ 1048576) (hv : puOk xs d x = false) : ACalls Try.prog 40 [tS 0 xs.length, tI d, tI x] [] [rI xs] (fun t H => t = .tup [aS 1 0, aI 0, aB false] ∧ H = [rI xs, oI []]) := by
  have hval := l2List_l (xs ++ [x]) (by simp; omega)
  rw [List.length_append, List.length_singleton] at hval
  refine afun (fun i => match i with | 6 => some ⟨[], .op 0 .held (.op 1 .held (.op 2 .held (.op 3 .held (.op 4 .held (.op 5 .held (.op 6 .now (.op 7 .held (.op 8 .held (.op 9 .held (.op 10 .held (.op 11 .held (.op 12 .held (.op 13 .now (.op 14 .held (.op 15 .held .nil)))))))))))))))⟩ | _ => none) [6, 7, 8] 1 Try.func40 rfl rfl mix (by kernel_rfl) (by kernel_rfl) (by simp [Try.f40]) rfl (by simp [msOwn, ownAll, Row.own]) ?_
  simp (dsimp := false) only [go_sem, Nat.reduceAdd, Nat.reduceBEq, Nat.reduceEqDiff, Nat.reduceLT, Nat.reduceLeDiff, reduceCtorEq, ↓reduceIte]
  cases h1 : isHeapB xs d
  · repeat (refine And.intro (by first | exact True.intro | omega | kernel_rfl | (simp only [List.length_set, List.length_append, List.length_take, List.length_replicate, List.length_cons, true_and, and_true, List.length_nil, tabR_length]; omega)) ?_)
    refine ⟨_, (l1Own_l xs (by omega)).lift [0] (by decide) (by simp) (by simp [RS.slot, List.map_cons, List.map_nil, rowsLe, rowLe, slotsLe, tvLe, TV.ren, AV.ren, C.ren, Dat.ren, Row.ren, TV.hs, AV.hs, C.hs, Dat.hs, get_cons, get_nil, zipSlots, List.getD_cons_zero, List.getD_cons_succ, List.getD_nil, -List.getD_eq_getElem?_getD]) (by simp [RS.slot, List.map_cons, List.map_nil, rowsLe, rowLe, slotsLe, tvLe, TV.ren, AV.ren, C.ren, Dat.ren, Row.ren, TV.hs, AV.hs, C.hs, Dat.hs, get_cons, get_nil, zipSlots, List.getD_cons_zero, List.getD_cons_succ, List.getD_nil, -List.getD_eq_getElem?_getD]) (by simp [RS.slot, List.map_cons, List.map_nil, rowsLe, rowLe, slotsLe, tvLe, TV.ren, AV.ren, C.ren, Dat.ren, Row.ren, TV.hs, AV.hs, C.hs, Dat.hs, get_cons, get_nil, zipSlots, List.getD_cons_zero, List.getD_cons_succ, List.getD_nil, -List.getD_eq_getElem?_getD]) rfl ?_⟩
    rintro _ _ ⟨rfl, rfl⟩
    refine ⟨by simp [ownIn, Row.own], ?_⟩
    simp (dsimp := false) only [List.drop_zero, List.take_length, liftT, liftH, putBack, freshR, ownIn, Row.own, Row.ren, TV.ren, AV.ren, C.ren, Dat.ren, List.drop_succ_cons, List.drop_nil, List.getD_cons_zero, List.getD_cons_succ, List.getD_nil, go_sem, Nat.reduceAdd, Nat.reduceBEq, Nat.reduceEqDiff, Nat.reduceLT, Nat.reduceLeDiff, reduceCtorEq, ↓reduceIte]
    repeat (refine And.intro (by first | exact True.intro | omega | kernel_rfl | (simp only [List.length_set, List.length_append, List.length_take, List.length_replicate, List.length_cons, true_and, and_true, List.length_nil, tabR_length]; omega)) ?_)
    repeat (refine And.intro (by first | exact True.intro | omega | kernel_rfl | (simp only [List.length_set, List.length_append, List.length_take, List.length_replicate, List.length_cons, true_and, and_true, List.length_nil, tabR_length]; omega)) ?_)
    refine ⟨_, (l6Heap_l xs d (by omega)).lift [0] (by decide) (by simp) (by simp [RS.slot, List.map_cons, List.map_nil, rowsLe, rowLe, slotsLe, tvLe, TV.ren, AV.ren, C.ren, Dat.ren, Row.ren, TV.hs, AV.hs, C.hs, Dat.hs, get_cons, get_nil, zipSlots, List.getD_cons_zero, List.getD_cons_succ, List.getD_nil, -List.getD_eq_getElem?_getD]) (by simp [RS.slot, List.map_cons, List.map_nil, rowsLe, rowLe, slotsLe, tvLe, TV.ren, AV.ren, C.ren, Dat.ren, Row.ren, TV.hs, AV.hs, C.hs, Dat.hs, get_cons, get_nil, zipSlots, List.getD_cons_zero, List.getD_cons_succ, List.getD_nil, -List.getD_eq_getElem?_getD]) (by simp [RS.slot, List.map_cons, List.map_nil, rowsLe, rowLe, slotsLe, tvLe, TV.ren, AV.ren, C.ren, Dat.ren, Row.ren, TV.hs, AV.hs, C.hs, Dat.hs, get_cons, get_nil, zipSlots, List.getD_cons_zero, List.getD_cons_succ, List.getD_nil, -List.getD_eq_getElem?_getD]) rfl ?_⟩
    rintro _ _ ⟨rfl, rfl⟩
    refine ⟨by simp [ownIn, Row.own], ?_⟩
    simp (dsimp := false) only [h1, liftT, liftH, putBack, freshR, ownIn, Row.own, Row.ren, TV.ren, AV.ren, C.ren, Dat.ren, List.drop_succ_cons, List.drop_nil, List.getD_cons_zero, List.getD_cons_succ, List.getD_nil, go_sem, Nat.reduceAdd, Nat.reduceBEq, Nat.reduceEqDiff, Nat.reduceLT, Nat.reduceLeDiff, reduceCtorEq, ↓reduceIte]
    refine afin [0, 4] [aS 1 0, aI 0, aB false] [rI xs, oI []] (by simp) rfl (weak_of (by decide) (by simp [RS.slot, List.map_cons, List.map_nil, rowsLe, rowLe, slotsLe, tvLe, TV.ren, AV.ren, C.ren, Dat.ren, Row.ren, TV.hs, AV.hs, C.hs, Dat.hs, get_cons, get_nil, zipSlots, List.getD_cons_zero, List.getD_cons_succ, List.getD_nil, -List.getD_eq_getElem?_getD])) (by simp [rtv])
  · have h3 : validB (xs ++ [x]) = false := by simpa [puOk, h1] using hv
    repeat (refine And.intro (by first | exact True.intro | omega | kernel_rfl | (simp only [List.length_set, List.length_append, List.length_take, List.length_replicate, List.length_cons, true_and, and_true, List.length_nil, tabR_length]; omega)) ?_)
    refine ⟨_, (l1Own_l xs (by omega)).lift [0] (by decide) (by simp) (by simp [RS.slot, List.map_cons, List.map_nil, rowsLe, rowLe, slotsLe, tvLe, TV.ren, AV.ren, C.ren, Dat.ren, Row.ren, TV.hs, AV.hs, C.hs, Dat.hs, get_cons, get_nil, zipSlots, List.getD_cons_zero, List.getD_cons_succ, List.getD_nil, -List.getD_eq_getElem?_getD]) (by simp [RS.slot, List.map_cons, List.map_nil, rowsLe, rowLe, slotsLe, tvLe, TV.ren, AV.ren, C.ren, Dat.ren, Row.ren, TV.hs, AV.hs, C.hs, Dat.hs, get_cons, get_nil, zipSlots, List.getD_cons_zero, List.getD_cons_succ, List.getD_nil, -List.getD_eq_getElem?_getD]) (by simp [RS.slot, List.map_cons, List.map_nil, rowsLe, rowLe, slotsLe, tvLe, TV.ren, AV.ren, C.ren, Dat.ren, Row.ren, TV.hs, AV.hs, C.hs, Dat.hs, get_cons, get_nil, zipSlots, List.getD_cons_zero, List.getD_cons_succ, List.getD_nil, -List.getD_eq_getElem?_getD]) rfl ?_⟩
    rintro _ _ ⟨rfl, rfl⟩
    refine ⟨by simp [ownIn, Row.own], ?_⟩
    simp (dsimp := false) only [List.drop_zero, List.take_length, liftT, liftH, putBack, freshR, ownIn, Row.own, Row.ren, TV.ren, AV.ren, C.ren, Dat.ren, List.drop_succ_cons, List.drop_nil, List.getD_cons_zero, List.getD_cons_succ, List.getD_nil, go_sem, Nat.reduceAdd, Nat.reduceBEq, Nat.reduceEqDiff, Nat.reduceLT, Nat.reduceLeDiff, reduceCtorEq, ↓reduceIte]
    repeat (refine And.intro (by first | exact True.intro | omega | kernel_rfl | (simp only [List.length_set, List.length_append, List.length_take, List.length_replicate, List.length_cons, true_and, and_true, List.length_nil, tabR_length]; omega)) ?_)
    repeat (refine And.intro (by first | exact True.intro | omega | kernel_rfl | (simp only [List.length_set, List.length_append, List.length_take, List.length_replicate, List.length_cons, true_and, and_true, List.length_nil, tabR_length]; omega)) ?_)
    refine ⟨_, (l6Heap_l xs d (by omega)).lift [0] (by decide) (by simp) (by simp [RS.slot, List.map_cons, List.map_nil, rowsLe, rowLe, slotsLe, tvLe, TV.ren, AV.ren, C.ren, Dat.ren, Row.ren, TV.hs, AV.hs, C.hs, Dat.hs, get_cons, get_nil, zipSlots, List.getD_cons_zero, List.getD_cons_succ, List.getD_nil, -List.getD_eq_getElem?_getD]) (by simp [RS.slot, List.map_cons, List.map_nil, rowsLe, rowLe, slotsLe, tvLe, TV.ren, AV.ren, C.ren, Dat.ren, Row.ren, TV.hs, AV.hs, C.hs, Dat.hs, get_cons, get_nil, zipSlots, List.getD_cons_zero, List.getD_cons_succ, List.getD_nil, -List.getD_eq_getElem?_getD]) (by simp [RS.slot, List.map_cons, List.map_nil, rowsLe, rowLe, slotsLe, tvLe, TV.ren, AV.ren, C.ren, Dat.ren, Row.ren, TV.hs, AV.hs, C.hs, Dat.hs, get_cons, get_nil, zipSlots, List.getD_cons_zero, List.getD_cons_succ, List.getD_nil, -List.getD_eq_getElem?_getD]) rfl ?_⟩
    rintro _ _ ⟨rfl, rfl⟩
    refine ⟨by simp [ownIn, Row.own], ?_⟩
    simp (dsimp := false) only [h1, liftT, liftH, putBack, freshR, ownIn, Row.own, Row.ren, TV.ren, AV.ren, C.ren, Dat.ren, List.drop_succ_cons, List.drop_nil, List.getD_cons_zero, List.getD_cons_succ, List.getD_nil, go_sem, Nat.reduceAdd, Nat.reduceBEq, Nat.reduceEqDiff, Nat.reduceLT, Nat.reduceLeDiff, reduceCtorEq, ↓reduceIte]
    repeat (refine And.intro (by first | exact True.intro | omega | kernel_rfl | (simp only [List.length_set, List.length_append, List.length_take, List.length_replicate, List.length_cons, true_and, and_true, List.length_nil, tabR_length]; omega)) ?_)
    refine ⟨_, (hval).lift [3] (by decide) (by simp) (by simp [RS.slot, List.map_cons, List.map_nil, rowsLe, rowLe, slotsLe, tvLe, TV.ren, AV.ren, C.ren, Dat.ren, Row.ren, TV.hs, AV.hs, C.hs, Dat.hs, get_cons, get_nil, zipSlots, List.getD_cons_zero, List.getD_cons_succ, List.getD_nil, -List.getD_eq_getElem?_getD]) (by simp [RS.slot, List.map_cons, List.map_nil, rowsLe, rowLe, slotsLe, tvLe, TV.ren, AV.ren, C.ren, Dat.ren, Row.ren, TV.hs, AV.hs, C.hs, Dat.hs, get_cons, get_nil, zipSlots, List.getD_cons_zero, List.getD_cons_succ, List.getD_nil, -List.getD_eq_getElem?_getD]) (by simp [RS.slot, List.map_cons, List.map_nil, rowsLe, rowLe, slotsLe, tvLe, TV.ren, AV.ren, C.ren, Dat.ren, Row.ren, TV.hs, AV.hs, C.hs, Dat.hs, get_cons, get_nil, zipSlots, List.getD_cons_zero, List.getD_cons_succ, List.getD_nil, -List.getD_eq_getElem?_getD]) rfl ?_⟩
    rintro _ _ ⟨rfl, rfl⟩
    refine ⟨by simp [ownIn, Row.own], ?_⟩
    simp (dsimp := false) only [h3, liftT, liftH, putBack, freshR, ownIn, Row.own, Row.ren, TV.ren, AV.ren, C.ren, Dat.ren, List.drop_succ_cons, List.drop_nil, List.getD_cons_zero, List.getD_cons_succ, List.getD_nil, go_sem, Nat.reduceAdd, Nat.reduceBEq, Nat.reduceEqDiff, Nat.reduceLT, Nat.reduceLeDiff, reduceCtorEq, ↓reduceIte]
    refine afin [0, 4] [aS 1 0, aI 0, aB false] [rI xs, oI []] (by simp) rfl (weak_of (by decide) (by simp [RS.slot, List.map_cons, List.map_nil, rowsLe, rowLe, slotsLe, tvLe, TV.ren, AV.ren, C.ren, Dat.ren, Row.ren, TV.hs, AV.hs, C.hs, Dat.hs, get_cons, get_nil, zipSlots, List.getD_cons_zero, List.getD_cons_succ, List.getD_nil, -List.getD_eq_getElem?_getD])) (by simp [rtv])

theorem sPushHeap_t (xs : List Int) (d x : Int) (hx : xs.length ≤ 1048576) (hv : puOk xs d x = true) : ACalls Try.prog 40 [tS 0 xs.length, tI d, tI x] [] [rI xs] (fun t H => t = .tup [aS 1 (xs.length + 1), aI (puF xs d x).2, aB true] ∧ H = [rI xs, oI (puF xs d x).1]) := by
  have hval := l2List_l (xs ++ [x]) (by simp; omega)
  obtain ⟨h1, h3⟩ := puOk_t hv
  have h64 := validB_len h3
  have hl : (xs ++ [x]).length = xs.length + 1 := by simp
  obtain ⟨D, rfl, hD⟩ := arity_nat (isHeapB_t h1).2
  obtain ⟨T, hT⟩ : ∃ T, T = puF xs D x := ⟨_, rfl⟩
  have hTc : T.2 ≤ xs.length := by rw [hT]; exact pshF_cnt _ _ _ _
  rw [← hT]
  have hT' : pshF D xs.length xs.length (xs ++ [x]) = T := by rw [hT]; unfold puF; rw [Int.toNat_natCast]
  rw [hl] at hval h64
  have en : ((xs.length + 1 : Nat) : Int) - 1 = (xs.length : Int) := by omega
  refine afun (fun i => match i with | 6 => some ⟨[], .op 0 .held (.op 1 .held (.op 2 .held (.op 3 .held (.op 4 .held (.op 5 .held (.op 6 .now (.op 7 .held (.op 8 .held (.op 9 .held (.op 10 .held (.op 11 .held (.op 12 .held (.op 13 .now (.op 14 .held (.op 15 .held .nil)))))))))))))))⟩ | _ => none) [6, 7, 8] 1 Try.func40 rfl rfl mix (by kernel_rfl) (by kernel_rfl) (by simp [Try.f40]) rfl (by simp [msOwn, ownAll, Row.own]) ?_
  simp (dsimp := false) only [go_sem, Nat.reduceAdd, Nat.reduceBEq, Nat.reduceEqDiff, Nat.reduceLT, Nat.reduceLeDiff, reduceCtorEq, ↓reduceIte]
  repeat (refine And.intro (by first | exact True.intro | omega | kernel_rfl | (simp only [List.length_set, List.length_append, List.length_take, List.length_replicate, List.length_cons, true_and, and_true, List.length_nil, tabR_length]; omega)) ?_)
  refine ⟨_, (l1Own_l xs (by omega)).lift [0] (by decide) (by simp) (by simp [RS.slot, List.map_cons, List.map_nil, rowsLe, rowLe, slotsLe, tvLe, TV.ren, AV.ren, C.ren, Dat.ren, Row.ren, TV.hs, AV.hs, C.hs, Dat.hs, get_cons, get_nil, zipSlots, List.getD_cons_zero, List.getD_cons_succ, List.getD_nil, -List.getD_eq_getElem?_getD]) (by simp [RS.slot, List.map_cons, List.map_nil, rowsLe, rowLe, slotsLe, tvLe, TV.ren, AV.ren, C.ren, Dat.ren, Row.ren, TV.hs, AV.hs, C.hs, Dat.hs, get_cons, get_nil, zipSlots, List.getD_cons_zero, List.getD_cons_succ, List.getD_nil, -List.getD_eq_getElem?_getD]) (by simp [RS.slot, List.map_cons, List.map_nil, rowsLe, rowLe, slotsLe, tvLe, TV.ren, AV.ren, C.ren, Dat.ren, Row.ren, TV.hs, AV.hs, C.hs, Dat.hs, get_cons, get_nil, zipSlots, List.getD_cons_zero, List.getD_cons_succ, List.getD_nil, -List.getD_eq_getElem?_getD]) rfl ?_⟩
  rintro _ _ ⟨rfl, rfl⟩
  refine ⟨by simp [ownIn, Row.own], ?_⟩
  simp (dsimp := false) only [List.drop_zero, List.take_length, liftT, liftH, putBack, freshR, ownIn, Row.own, Row.ren, TV.ren, AV.ren, C.ren, Dat.ren, List.drop_succ_cons, List.drop_nil, List.getD_cons_zero, List.getD_cons_succ, List.getD_nil, go_sem, Nat.reduceAdd, Nat.reduceBEq, Nat.reduceEqDiff, Nat.reduceLT, Nat.reduceLeDiff, reduceCtorEq, ↓reduceIte]
  repeat (refine And.intro (by first | exact True.intro | omega | kernel_rfl | (simp only [List.length_set, List.length_append, List.length_take, List.length_replicate, List.length_cons, true_and, and_true, List.length_nil, tabR_length]; omega)) ?_)
  repeat (refine And.intro (by first | exact True.intro | omega | kernel_rfl | (simp only [List.length_set, List.length_append, List.length_take, List.length_replicate, List.length_cons, true_and, and_true, List.length_nil, tabR_length]; omega)) ?_)
  refine ⟨_, (l6Heap_l xs D (by omega)).lift [0] (by decide) (by simp) (by simp [RS.slot, List.map_cons, List.map_nil, rowsLe, rowLe, slotsLe, tvLe, TV.ren, AV.ren, C.ren, Dat.ren, Row.ren, TV.hs, AV.hs, C.hs, Dat.hs, get_cons, get_nil, zipSlots, List.getD_cons_zero, List.getD_cons_succ, List.getD_nil, -List.getD_eq_getElem?_getD]) (by simp [RS.slot, List.map_cons, List.map_nil, rowsLe, rowLe, slotsLe, tvLe, TV.ren, AV.ren, C.ren, Dat.ren, Row.ren, TV.hs, AV.hs, C.hs, Dat.hs, get_cons, get_nil, zipSlots, List.getD_cons_zero, List.getD_cons_succ, List.getD_nil, -List.getD_eq_getElem?_getD]) (by simp [RS.slot, List.map_cons, List.map_nil, rowsLe, rowLe, slotsLe, tvLe, TV.ren, AV.ren, C.ren, Dat.ren, Row.ren, TV.hs, AV.hs, C.hs, Dat.hs, get_cons, get_nil, zipSlots, List.getD_cons_zero, List.getD_cons_succ, List.getD_nil, -List.getD_eq_getElem?_getD]) rfl ?_⟩
  rintro _ _ ⟨rfl, rfl⟩
  refine ⟨by simp [ownIn, Row.own], ?_⟩
  simp (dsimp := false) only [h1, liftT, liftH, putBack, freshR, ownIn, Row.own, Row.ren, TV.ren, AV.ren, C.ren, Dat.ren, List.drop_succ_cons, List.drop_nil, List.getD_cons_zero, List.getD_cons_succ, List.getD_nil, go_sem, Nat.reduceAdd, Nat.reduceBEq, Nat.reduceEqDiff, Nat.reduceLT, Nat.reduceLeDiff, reduceCtorEq, ↓reduceIte]
  repeat (refine And.intro (by first | exact True.intro | omega | kernel_rfl | (simp only [List.length_set, List.length_append, List.length_take, List.length_replicate, List.length_cons, true_and, and_true, List.length_nil, tabR_length]; omega)) ?_)
  refine ⟨_, (hval).lift [3] (by decide) (by simp) (by simp [RS.slot, List.map_cons, List.map_nil, rowsLe, rowLe, slotsLe, tvLe, TV.ren, AV.ren, C.ren, Dat.ren, Row.ren, TV.hs, AV.hs, C.hs, Dat.hs, get_cons, get_nil, zipSlots, List.getD_cons_zero, List.getD_cons_succ, List.getD_nil, -List.getD_eq_getElem?_getD]) (by simp [RS.slot, List.map_cons, List.map_nil, rowsLe, rowLe, slotsLe, tvLe, TV.ren, AV.ren, C.ren, Dat.ren, Row.ren, TV.hs, AV.hs, C.hs, Dat.hs, get_cons, get_nil, zipSlots, List.getD_cons_zero, List.getD_cons_succ, List.getD_nil, -List.getD_eq_getElem?_getD]) (by simp [RS.slot, List.map_cons, List.map_nil, rowsLe, rowLe, slotsLe, tvLe, TV.ren, AV.ren, C.ren, Dat.ren, Row.ren, TV.hs, AV.hs, C.hs, Dat.hs, get_cons, get_nil, zipSlots, List.getD_cons_zero, List.getD_cons_succ, List.getD_nil, -List.getD_eq_getElem?_getD]) rfl ?_⟩
  rintro _ _ ⟨rfl, rfl⟩
  refine ⟨by simp [ownIn, Row.own], ?_⟩
  simp (dsimp := false) only [h3, en, liftT, liftH, putBack, freshR, ownIn, Row.own, Row.ren, TV.ren, AV.ren, C.ren, Dat.ren, List.drop_succ_cons, List.drop_nil, List.getD_cons_zero, List.getD_cons_succ, List.getD_nil, go_sem, Nat.reduceAdd, Nat.reduceBEq, Nat.reduceEqDiff, Nat.reduceLT, Nat.reduceLeDiff, reduceCtorEq, ↓reduceIte]
  repeat (refine And.intro (by first | exact True.intro | omega | kernel_rfl | (simp only [List.length_set, List.length_append, List.length_take, List.length_replicate, List.length_cons, true_and, and_true, List.length_nil, tabR_length]; omega)) ?_)
  try simp only [en]
  refine aloop (σ := Nat × Nat × List Int × Nat) (fun s => ([(1, tI D), (9, tS 1 (xs.length + 1)), (10, tI s.2.2.2), (11, tI s.2.1)], [rI xs, oI s.2.2.1])) (fun s => s.2.2.1.length = xs.length + 1 ∧ s.2.1 ≤ s.1 ∧ s.1 ≤ xs.length ∧ s.2.2.2 + (pshF D s.1 s.2.1 s.2.2.1).2 = T.2 ∧ (pshF D s.1 s.2.1 s.2.2.1).1 = T.1) (fun s => s.1) (xs.length, xs.length, xs ++ [x], 0) [0, 3] ⟨hl, Nat.le_refl _, Nat.le_refl _, by show 0 + (pshF D xs.length xs.length (xs ++ [x])).2 = T.2; rw [hT', Nat.zero_add], by show (pshF D xs.length xs.length (xs ++ [x])).1 = T.1; rw [hT']⟩ (weak_of (by decide) (by simp [RS.slot, List.map_cons, List.map_nil, rowsLe, rowLe, slotsLe, tvLe, TV.ren, AV.ren, C.ren, Dat.ren, Row.ren, TV.hs, AV.hs, C.hs, Dat.hs, get_cons, get_nil, zipSlots, List.getD_cons_zero, List.getD_cons_succ, List.getD_nil, -List.getD_eq_getElem?_getD])) ?_
  rintro ⟨f, i, zs, s⟩ ⟨hzl, hi, hf, h2, h4⟩
  simp only at hzl hi hf h2 h4
  cases i with
  | zero =>
    rw [pshF_zero] at h2 h4
    simp only at h2 h4
    have e2 : T.2 = s := by omega
    simp (dsimp := false) only [show decide (0 < ((0 : Nat) : Int)) = false from rfl, go_sem, Nat.reduceAdd, Nat.reduceBEq, Nat.reduceEqDiff, Nat.reduceLT, Nat.reduceLeDiff, reduceCtorEq, ↓reduceIte]
    rw [e2, ← h4]
    refine afin [0, 1] [aS 1 (xs.length + 1), aI s, aB true] [rI xs, oI zs] (by simp) rfl (weak_of (by decide) (by simp [RS.slot, List.map_cons, List.map_nil, rowsLe, rowLe, slotsLe, tvLe, TV.ren, AV.ren, C.ren, Dat.ren, Row.ren, TV.hs, AV.hs, C.hs, Dat.hs, get_cons, get_nil, zipSlots, List.getD_cons_zero, List.getD_cons_succ, List.getD_nil, -List.getD_eq_getElem?_getD])) (by simp [rtv])
  | succ q =>
    obtain ⟨f, rfl⟩ : ∃ g, f = g + 1 := ⟨f - 1, by omega⟩
    have hg : decide (0 < ((q + 1 : Nat) : Int)) = true := decide_eq_true (by omega)
    have eq1 : ((q + 1 : Nat) : Int) - 1 = (q : Int) := by omega
    have eq2 : (q : Int).tdiv (D : Int) = ((q / D : Nat) : Int) := tdiv_nat q D
    have hqd : q / D ≤ q := Nat.div_le_self _ _
    have hst : ¬ zs.getD (q / D) 0 < zs.getD (q + 1) 0 → pshF D (f + 1) (q + 1) zs = (zs, 0) := pshF_stay
    have hgo : zs.getD (q / D) 0 < zs.getD (q + 1) 0 → pshF D (f + 1) (q + 1) zs = ((pshF D f (q / D) (swp zs (q + 1) (q / D))).1, (pshF D f (q / D) (swp zs (q + 1) (q / D))).2 + 1) := pshF_go
    obtain ⟨r, hr⟩ : ∃ r, r = q / D := ⟨_, rfl⟩
    rw [← hr] at eq2 hqd hst hgo
    have hd0 : (D : Int) ≠ 0 := by omega
    simp (dsimp := false) only [hg, eq1, eq2, go_sem, Nat.reduceAdd, Nat.reduceBEq, Nat.reduceEqDiff, Nat.reduceLT, Nat.reduceLeDiff, reduceCtorEq, ↓reduceIte]
    repeat (refine And.intro (by first | exact True.intro | omega | kernel_rfl | (simp only [List.length_set, List.length_append, List.length_take, List.length_replicate, List.length_cons, true_and, and_true, List.length_nil, tabR_length]; omega)) ?_)
    try simp only [eq1, eq2]
    repeat (refine And.intro (by first | exact True.intro | omega | kernel_rfl | (simp only [List.length_set, List.length_append, List.length_take, List.length_replicate, List.length_cons, true_and, and_true, List.length_nil, tabR_length]; omega)) ?_)
    refine ⟨fun h => ?_, fun h => ?_⟩
    · have h' : zs.getD r 0 < zs.getD (q + 1) 0 := by simpa using h
      rw [hgo h'] at h2 h4
      simp only at h2 h4
      try simp (dsimp := false) only [eq1, eq2, go_sem, Nat.reduceAdd, Nat.reduceBEq, Nat.reduceEqDiff, Nat.reduceLT, Nat.reduceLeDiff, reduceCtorEq, ↓reduceIte]
      repeat (refine And.intro (by first | exact True.intro | omega | kernel_rfl | (simp only [List.length_set, List.length_append, List.length_take, List.length_replicate, List.length_cons, true_and, and_true, List.length_nil, tabR_length]; omega)) ?_)
      repeat (refine And.intro (by first | exact True.intro | omega | kernel_rfl | (simp only [List.length_set, List.length_append, List.length_take, List.length_replicate, List.length_cons, true_and, and_true, List.length_nil, tabR_length]; omega)) ?_)
      refine ⟨_, (l6Swap_l zs 0 (xs.length + 1) (q + 1) r (by omega) (by omega) (by omega)).lift [1] (by decide) (by simp) (by simp [RS.slot, List.map_cons, List.map_nil, rowsLe, rowLe, slotsLe, tvLe, TV.ren, AV.ren, C.ren, Dat.ren, Row.ren, TV.hs, AV.hs, C.hs, Dat.hs, get_cons, get_nil, zipSlots, List.getD_cons_zero, List.getD_cons_succ, List.getD_nil, -List.getD_eq_getElem?_getD]) (by simp [RS.slot, List.map_cons, List.map_nil, rowsLe, rowLe, slotsLe, tvLe, TV.ren, AV.ren, C.ren, Dat.ren, Row.ren, TV.hs, AV.hs, C.hs, Dat.hs, get_cons, get_nil, zipSlots, List.getD_cons_zero, List.getD_cons_succ, List.getD_nil, -List.getD_eq_getElem?_getD]) (by simp [RS.slot, List.map_cons, List.map_nil, rowsLe, rowLe, slotsLe, tvLe, TV.ren, AV.ren, C.ren, Dat.ren, Row.ren, TV.hs, AV.hs, C.hs, Dat.hs, get_cons, get_nil, zipSlots, List.getD_cons_zero, List.getD_cons_succ, List.getD_nil, -List.getD_eq_getElem?_getD]) rfl ?_⟩
      rintro _ _ ⟨rfl, rfl⟩
      refine ⟨by simp [ownIn, Row.own], ?_⟩
      simp (dsimp := false) only [eq1, eq2, liftT, liftH, putBack, freshR, ownIn, Row.own, Row.ren, TV.ren, AV.ren, C.ren, Dat.ren, List.drop_succ_cons, List.drop_nil, List.getD_cons_zero, List.getD_cons_succ, List.getD_nil, go_sem, Nat.reduceAdd, Nat.reduceBEq, Nat.reduceEqDiff, Nat.reduceLT, Nat.reduceLeDiff, reduceCtorEq, ↓reduceIte]
      repeat (refine And.intro (by first | exact True.intro | omega | kernel_rfl | (simp only [List.length_set, List.length_append, List.length_take, List.length_replicate, List.length_cons, true_and, and_true, List.length_nil, tabR_length]; omega)) ?_)
      try simp only [eq1, eq2]
      repeat (refine And.intro (by first | exact True.intro | omega | kernel_rfl | (simp only [List.length_set, List.length_append, List.length_take, List.length_replicate, List.length_cons, true_and, and_true, List.length_nil, tabR_length]; omega)) ?_)
      refine ⟨(f, r, swp zs (q + 1) r, s + 1), [0, 1], ?_, weak_of (by decide) (by simp [RS.slot, List.map_cons, List.map_nil, rowsLe, rowLe, slotsLe, tvLe, TV.ren, AV.ren, C.ren, Dat.ren, Row.ren, TV.hs, AV.hs, C.hs, Dat.hs, get_cons, get_nil, zipSlots, List.getD_cons_zero, List.getD_cons_succ, List.getD_nil, -List.getD_eq_getElem?_getD, swp, eq1, eq2])⟩
      dsimp only
      refine ⟨⟨by rw [swp_len]; exact hzl, by omega, by omega, by omega, h4⟩, by omega⟩
    · have h' : ¬ zs.getD r 0 < zs.getD (q + 1) 0 := by simpa using h
      rw [hst h'] at h2 h4
      simp only at h2 h4
      have e2 : T.2 = s := by omega
      rw [e2, ← h4]
      refine afin [0, 1] [aS 1 (xs.length + 1), aI s, aB true] [rI xs, oI zs] (by simp) rfl (weak_of (by decide) (by simp [RS.slot, List.map_cons, List.map_nil, rowsLe, rowLe, slotsLe, tvLe, TV.ren, AV.ren, C.ren, Dat.ren, Row.ren, TV.hs, AV.hs, C.hs, Dat.hs, get_cons, get_nil, zipSlots, List.getD_cons_zero, List.getD_cons_succ, List.getD_nil, -List.getD_eq_getElem?_getD])) (by simp [rtv])

theorem sBuildHeap_f (xs : List Int) (d : Int) (hx : xs.length ≤ 281474976710) (hv : hvOk xs d = false) : ACalls Try.prog 34 [tS 0 xs.length, tI d] [] [rI xs] (fun t H => t = .tup [aS 1 0, aI 0, aB false] ∧ H = [rI xs, oI []]) := by
  have hv' : (validB xs && inB d 2 8) = false := hv
  refine afun (fun _ => none) [4, 5, 6] 1 Try.func34 rfl rfl mix (by kernel_rfl) (by kernel_rfl) (by simp [Try.f34]) rfl (by simp [msOwn, ownAll, Row.own]) ?_
  simp (dsimp := false) only [go_sem, Nat.reduceAdd, Nat.reduceBEq, Nat.reduceEqDiff, Nat.reduceLT, Nat.reduceLeDiff, reduceCtorEq, ↓reduceIte]
  repeat (refine And.intro (by first | exact True.intro | omega | kernel_rfl | (simp only [List.length_set, List.length_append, List.length_take, List.length_replicate, List.length_cons, true_and, and_true, List.length_nil, tabR_length]; omega)) ?_)
  refine ⟨_, (l6Valid_l xs d (by omega)).lift [0] (by decide) (by simp) (by simp [RS.slot, List.map_cons, List.map_nil, rowsLe, rowLe, slotsLe, tvLe, TV.ren, AV.ren, C.ren, Dat.ren, Row.ren, TV.hs, AV.hs, C.hs, Dat.hs, get_cons, get_nil, zipSlots, List.getD_cons_zero, List.getD_cons_succ, List.getD_nil, -List.getD_eq_getElem?_getD]) (by simp [RS.slot, List.map_cons, List.map_nil, rowsLe, rowLe, slotsLe, tvLe, TV.ren, AV.ren, C.ren, Dat.ren, Row.ren, TV.hs, AV.hs, C.hs, Dat.hs, get_cons, get_nil, zipSlots, List.getD_cons_zero, List.getD_cons_succ, List.getD_nil, -List.getD_eq_getElem?_getD]) (by simp [RS.slot, List.map_cons, List.map_nil, rowsLe, rowLe, slotsLe, tvLe, TV.ren, AV.ren, C.ren, Dat.ren, Row.ren, TV.hs, AV.hs, C.hs, Dat.hs, get_cons, get_nil, zipSlots, List.getD_cons_zero, List.getD_cons_succ, List.getD_nil, -List.getD_eq_getElem?_getD]) rfl ?_⟩
  rintro _ _ ⟨rfl, rfl⟩
  refine ⟨by simp [ownIn, Row.own], ?_⟩
  simp (dsimp := false) only [hv', liftT, liftH, putBack, freshR, ownIn, Row.own, Row.ren, TV.ren, AV.ren, C.ren, Dat.ren, List.drop_succ_cons, List.drop_nil, List.getD_cons_zero, List.getD_cons_succ, List.getD_nil, go_sem, Nat.reduceAdd, Nat.reduceBEq, Nat.reduceEqDiff, Nat.reduceLT, Nat.reduceLeDiff, reduceCtorEq, ↓reduceIte]
  refine afin [0, 1] [aS 1 0, aI 0, aB false] [rI xs, oI []] (by simp) rfl (weak_of (by decide) (by simp [RS.slot, List.map_cons, List.map_nil, rowsLe, rowLe, slotsLe, tvLe, TV.ren, AV.ren, C.ren, Dat.ren, Row.ren, TV.hs, AV.hs, C.hs, Dat.hs, get_cons, get_nil, zipSlots, List.getD_cons_zero, List.getD_cons_succ, List.getD_nil, -List.getD_eq_getElem?_getD])) (by simp [rtv])

theorem sBuildHeap_t (xs : List Int) (d : Int) (hx : xs.length ≤ 281474976710) (hv : hvOk xs d = true) : ACalls Try.prog 34 [tS 0 xs.length, tI d] [] [rI xs] (fun t H => t = .tup [aS 1 xs.length, aI (heapF d.toNat 0 xs.length xs).2, aB true] ∧ H = [rI xs, oI (heapF d.toNat 0 xs.length xs).1]) := by
  have hv' : (validB xs && inB d 2 8) = true := hv
  obtain ⟨h1, h2⟩ := hvOk_t hv
  have h64 := validB_len h1
  obtain ⟨D, rfl, hD⟩ := arity_nat h2
  rw [Int.toNat_natCast]
  refine afun (fun _ => none) [4, 5, 6] 1 Try.func34 rfl rfl mix (by kernel_rfl) (by kernel_rfl) (by simp [Try.f34]) rfl (by simp [msOwn, ownAll, Row.own]) ?_
  simp (dsimp := false) only [go_sem, Nat.reduceAdd, Nat.reduceBEq, Nat.reduceEqDiff, Nat.reduceLT, Nat.reduceLeDiff, reduceCtorEq, ↓reduceIte]
  repeat (refine And.intro (by first | exact True.intro | omega | kernel_rfl | (simp only [List.length_set, List.length_append, List.length_take, List.length_replicate, List.length_cons, true_and, and_true, List.length_nil, tabR_length]; omega)) ?_)
  refine ⟨_, (l6Valid_l xs D (by omega)).lift [0] (by decide) (by simp) (by simp [RS.slot, List.map_cons, List.map_nil, rowsLe, rowLe, slotsLe, tvLe, TV.ren, AV.ren, C.ren, Dat.ren, Row.ren, TV.hs, AV.hs, C.hs, Dat.hs, get_cons, get_nil, zipSlots, List.getD_cons_zero, List.getD_cons_succ, List.getD_nil, -List.getD_eq_getElem?_getD]) (by simp [RS.slot, List.map_cons, List.map_nil, rowsLe, rowLe, slotsLe, tvLe, TV.ren, AV.ren, C.ren, Dat.ren, Row.ren, TV.hs, AV.hs, C.hs, Dat.hs, get_cons, get_nil, zipSlots, List.getD_cons_zero, List.getD_cons_succ, List.getD_nil, -List.getD_eq_getElem?_getD]) (by simp [RS.slot, List.map_cons, List.map_nil, rowsLe, rowLe, slotsLe, tvLe, TV.ren, AV.ren, C.ren, Dat.ren, Row.ren, TV.hs, AV.hs, C.hs, Dat.hs, get_cons, get_nil, zipSlots, List.getD_cons_zero, List.getD_cons_succ, List.getD_nil, -List.getD_eq_getElem?_getD]) rfl ?_⟩
  rintro _ _ ⟨rfl, rfl⟩
  refine ⟨by simp [ownIn, Row.own], ?_⟩
  simp (dsimp := false) only [hv', liftT, liftH, putBack, freshR, ownIn, Row.own, Row.ren, TV.ren, AV.ren, C.ren, Dat.ren, List.drop_succ_cons, List.drop_nil, List.getD_cons_zero, List.getD_cons_succ, List.getD_nil, go_sem, Nat.reduceAdd, Nat.reduceBEq, Nat.reduceEqDiff, Nat.reduceLT, Nat.reduceLeDiff, reduceCtorEq, ↓reduceIte]
  repeat (refine And.intro (by first | exact True.intro | omega | kernel_rfl | (simp only [List.length_set, List.length_append, List.length_take, List.length_replicate, List.length_cons, true_and, and_true, List.length_nil, tabR_length]; omega)) ?_)
  refine ⟨_, (l1Own_l xs hx).lift [0] (by decide) (by simp) (by simp [RS.slot, List.map_cons, List.map_nil, rowsLe, rowLe, slotsLe, tvLe, TV.ren, AV.ren, C.ren, Dat.ren, Row.ren, TV.hs, AV.hs, C.hs, Dat.hs, get_cons, get_nil, zipSlots, List.getD_cons_zero, List.getD_cons_succ, List.getD_nil, -List.getD_eq_getElem?_getD]) (by simp [RS.slot, List.map_cons, List.map_nil, rowsLe, rowLe, slotsLe, tvLe, TV.ren, AV.ren, C.ren, Dat.ren, Row.ren, TV.hs, AV.hs, C.hs, Dat.hs, get_cons, get_nil, zipSlots, List.getD_cons_zero, List.getD_cons_succ, List.getD_nil, -List.getD_eq_getElem?_getD]) (by simp [RS.slot, List.map_cons, List.map_nil, rowsLe, rowLe, slotsLe, tvLe, TV.ren, AV.ren, C.ren, Dat.ren, Row.ren, TV.hs, AV.hs, C.hs, Dat.hs, get_cons, get_nil, zipSlots, List.getD_cons_zero, List.getD_cons_succ, List.getD_nil, -List.getD_eq_getElem?_getD]) rfl ?_⟩
  rintro _ _ ⟨rfl, rfl⟩
  refine ⟨by simp [ownIn, Row.own], ?_⟩
  simp (dsimp := false) only [hv', liftT, liftH, putBack, freshR, ownIn, Row.own, Row.ren, TV.ren, AV.ren, C.ren, Dat.ren, List.drop_succ_cons, List.drop_nil, List.getD_cons_zero, List.getD_cons_succ, List.getD_nil, go_sem, Nat.reduceAdd, Nat.reduceBEq, Nat.reduceEqDiff, Nat.reduceLT, Nat.reduceLeDiff, reduceCtorEq, ↓reduceIte]
  repeat (refine And.intro (by first | exact True.intro | omega | kernel_rfl | (simp only [List.length_set, List.length_append, List.length_take, List.length_replicate, List.length_cons, true_and, and_true, List.length_nil, tabR_length]; omega)) ?_)
  refine ⟨_, (l6Build_l D 0 xs.length xs hD (by omega) h64).lift [1] (by decide) (by simp) (by simp [RS.slot, List.map_cons, List.map_nil, rowsLe, rowLe, slotsLe, tvLe, TV.ren, AV.ren, C.ren, Dat.ren, Row.ren, TV.hs, AV.hs, C.hs, Dat.hs, get_cons, get_nil, zipSlots, List.getD_cons_zero, List.getD_cons_succ, List.getD_nil, -List.getD_eq_getElem?_getD]) (by simp [RS.slot, List.map_cons, List.map_nil, rowsLe, rowLe, slotsLe, tvLe, TV.ren, AV.ren, C.ren, Dat.ren, Row.ren, TV.hs, AV.hs, C.hs, Dat.hs, get_cons, get_nil, zipSlots, List.getD_cons_zero, List.getD_cons_succ, List.getD_nil, -List.getD_eq_getElem?_getD]) (by simp [RS.slot, List.map_cons, List.map_nil, rowsLe, rowLe, slotsLe, tvLe, TV.ren, AV.ren, C.ren, Dat.ren, Row.ren, TV.hs, AV.hs, C.hs, Dat.hs, get_cons, get_nil, zipSlots, List.getD_cons_zero, List.getD_cons_succ, List.getD_nil, -List.getD_eq_getElem?_getD]) rfl ?_⟩
  rintro _ _ ⟨rfl, rfl⟩
  refine ⟨by simp [ownIn, Row.own], ?_⟩
  simp (dsimp := false) only [hv', liftT, liftH, putBack, freshR, ownIn, Row.own, Row.ren, TV.ren, AV.ren, C.ren, Dat.ren, List.drop_succ_cons, List.drop_nil, List.getD_cons_zero, List.getD_cons_succ, List.getD_nil, go_sem, Nat.reduceAdd, Nat.reduceBEq, Nat.reduceEqDiff, Nat.reduceLT, Nat.reduceLeDiff, reduceCtorEq, ↓reduceIte]
  refine afin [0, 1] [aS 1 xs.length, aI (heapF D 0 xs.length xs).2, aB true] [rI xs, oI (heapF D 0 xs.length xs).1] (by simp) rfl (weak_of (by decide) (by simp [RS.slot, List.map_cons, List.map_nil, rowsLe, rowLe, slotsLe, tvLe, TV.ren, AV.ren, C.ren, Dat.ren, Row.ren, TV.hs, AV.hs, C.hs, Dat.hs, get_cons, get_nil, zipSlots, List.getD_cons_zero, List.getD_cons_succ, List.getD_nil, -List.getD_eq_getElem?_getD])) (by simp [rtv])

theorem sIsHeap_l (xs : List Int) (d : Nat) (hx : xs.length ≤ 281474976710) : ACalls Try.prog 36 [tS 0 xs.length, tI d] [] [rI xs] (fun t H => t = .tup (cond (hvOk xs d) [aI (faultI xs d), aB true] [aI 0, aB false]) ∧ H = [rI xs]) := by
  cases hv : hvOk xs d
  · have hv' : (validB xs && inB d 2 8) = false := hv
    simp only [cond_false]
    refine afun (fun _ => none) [4, 5] 1 Try.func36 rfl rfl mix (by kernel_rfl) (by kernel_rfl) (by simp [Try.f36]) rfl (by simp [msOwn, ownAll, Row.own]) ?_
    simp (dsimp := false) only [go_sem, Nat.reduceAdd, Nat.reduceBEq, Nat.reduceEqDiff, Nat.reduceLT, Nat.reduceLeDiff, reduceCtorEq, ↓reduceIte]
    repeat (refine And.intro (by first | exact True.intro | omega | kernel_rfl | (simp only [List.length_set, List.length_append, List.length_take, List.length_replicate, List.length_cons, true_and, and_true, List.length_nil, tabR_length]; omega)) ?_)
    refine ⟨_, (l6Valid_l xs d (by omega)).lift [0] (by decide) (by simp) (by simp [RS.slot, List.map_cons, List.map_nil, rowsLe, rowLe, slotsLe, tvLe, TV.ren, AV.ren, C.ren, Dat.ren, Row.ren, TV.hs, AV.hs, C.hs, Dat.hs, get_cons, get_nil, zipSlots, List.getD_cons_zero, List.getD_cons_succ, List.getD_nil, -List.getD_eq_getElem?_getD]) (by simp [RS.slot, List.map_cons, List.map_nil, rowsLe, rowLe, slotsLe, tvLe, TV.ren, AV.ren, C.ren, Dat.ren, Row.ren, TV.hs, AV.hs, C.hs, Dat.hs, get_cons, get_nil, zipSlots, List.getD_cons_zero, List.getD_cons_succ, List.getD_nil, -List.getD_eq_getElem?_getD]) (by simp [RS.slot, List.map_cons, List.map_nil, rowsLe, rowLe, slotsLe, tvLe, TV.ren, AV.ren, C.ren, Dat.ren, Row.ren, TV.hs, AV.hs, C.hs, Dat.hs, get_cons, get_nil, zipSlots, List.getD_cons_zero, List.getD_cons_succ, List.getD_nil, -List.getD_eq_getElem?_getD]) rfl ?_⟩
    rintro _ _ ⟨rfl, rfl⟩
    refine ⟨by simp [ownIn, Row.own], ?_⟩
    simp (dsimp := false) only [hv', liftT, liftH, putBack, freshR, ownIn, Row.own, Row.ren, TV.ren, AV.ren, C.ren, Dat.ren, List.drop_succ_cons, List.drop_nil, List.getD_cons_zero, List.getD_cons_succ, List.getD_nil, go_sem, Nat.reduceAdd, Nat.reduceBEq, Nat.reduceEqDiff, Nat.reduceLT, Nat.reduceLeDiff, reduceCtorEq, ↓reduceIte]
    refine afin [0] [aI 0, aB false] [rI xs] (by simp) rfl (weak_of (by decide) (by simp [RS.slot, List.map_cons, List.map_nil, rowsLe, rowLe, slotsLe, tvLe, TV.ren, AV.ren, C.ren, Dat.ren, Row.ren, TV.hs, AV.hs, C.hs, Dat.hs, get_cons, get_nil, zipSlots, List.getD_cons_zero, List.getD_cons_succ, List.getD_nil, -List.getD_eq_getElem?_getD])) (by simp [rtv])
  · have hv' : (validB xs && inB d 2 8) = true := hv
    obtain ⟨h1, h2⟩ := hvOk_t hv
    have h3 := h2
    simp only [inB, Bool.and_eq_true, decide_eq_true_eq] at h3
    simp only [cond_true]
    refine afun (fun _ => none) [4, 5] 1 Try.func36 rfl rfl mix (by kernel_rfl) (by kernel_rfl) (by simp [Try.f36]) rfl (by simp [msOwn, ownAll, Row.own]) ?_
    simp (dsimp := false) only [go_sem, Nat.reduceAdd, Nat.reduceBEq, Nat.reduceEqDiff, Nat.reduceLT, Nat.reduceLeDiff, reduceCtorEq, ↓reduceIte]
    repeat (refine And.intro (by first | exact True.intro | omega | kernel_rfl | (simp only [List.length_set, List.length_append, List.length_take, List.length_replicate, List.length_cons, true_and, and_true, List.length_nil, tabR_length]; omega)) ?_)
    refine ⟨_, (l6Valid_l xs d (by omega)).lift [0] (by decide) (by simp) (by simp [RS.slot, List.map_cons, List.map_nil, rowsLe, rowLe, slotsLe, tvLe, TV.ren, AV.ren, C.ren, Dat.ren, Row.ren, TV.hs, AV.hs, C.hs, Dat.hs, get_cons, get_nil, zipSlots, List.getD_cons_zero, List.getD_cons_succ, List.getD_nil, -List.getD_eq_getElem?_getD]) (by simp [RS.slot, List.map_cons, List.map_nil, rowsLe, rowLe, slotsLe, tvLe, TV.ren, AV.ren, C.ren, Dat.ren, Row.ren, TV.hs, AV.hs, C.hs, Dat.hs, get_cons, get_nil, zipSlots, List.getD_cons_zero, List.getD_cons_succ, List.getD_nil, -List.getD_eq_getElem?_getD]) (by simp [RS.slot, List.map_cons, List.map_nil, rowsLe, rowLe, slotsLe, tvLe, TV.ren, AV.ren, C.ren, Dat.ren, Row.ren, TV.hs, AV.hs, C.hs, Dat.hs, get_cons, get_nil, zipSlots, List.getD_cons_zero, List.getD_cons_succ, List.getD_nil, -List.getD_eq_getElem?_getD]) rfl ?_⟩
    rintro _ _ ⟨rfl, rfl⟩
    refine ⟨by simp [ownIn, Row.own], ?_⟩
    simp (dsimp := false) only [hv', liftT, liftH, putBack, freshR, ownIn, Row.own, Row.ren, TV.ren, AV.ren, C.ren, Dat.ren, List.drop_succ_cons, List.drop_nil, List.getD_cons_zero, List.getD_cons_succ, List.getD_nil, go_sem, Nat.reduceAdd, Nat.reduceBEq, Nat.reduceEqDiff, Nat.reduceLT, Nat.reduceLeDiff, reduceCtorEq, ↓reduceIte]
    repeat (refine And.intro (by first | exact True.intro | omega | kernel_rfl | (simp only [List.length_set, List.length_append, List.length_take, List.length_replicate, List.length_cons, true_and, and_true, List.length_nil, tabR_length]; omega)) ?_)
    refine ⟨_, (l6Defect_l xs d (by omega) (validB_len h1)).lift [0] (by decide) (by simp) (by simp [RS.slot, List.map_cons, List.map_nil, rowsLe, rowLe, slotsLe, tvLe, TV.ren, AV.ren, C.ren, Dat.ren, Row.ren, TV.hs, AV.hs, C.hs, Dat.hs, get_cons, get_nil, zipSlots, List.getD_cons_zero, List.getD_cons_succ, List.getD_nil, -List.getD_eq_getElem?_getD]) (by simp [RS.slot, List.map_cons, List.map_nil, rowsLe, rowLe, slotsLe, tvLe, TV.ren, AV.ren, C.ren, Dat.ren, Row.ren, TV.hs, AV.hs, C.hs, Dat.hs, get_cons, get_nil, zipSlots, List.getD_cons_zero, List.getD_cons_succ, List.getD_nil, -List.getD_eq_getElem?_getD]) (by simp [RS.slot, List.map_cons, List.map_nil, rowsLe, rowLe, slotsLe, tvLe, TV.ren, AV.ren, C.ren, Dat.ren, Row.ren, TV.hs, AV.hs, C.hs, Dat.hs, get_cons, get_nil, zipSlots, List.getD_cons_zero, List.getD_cons_succ, List.getD_nil, -List.getD_eq_getElem?_getD]) rfl ?_⟩
    rintro _ _ ⟨rfl, rfl⟩
    refine ⟨by simp [ownIn, Row.own], ?_⟩
    simp (dsimp := false) only [hv', liftT, liftH, putBack, freshR, ownIn, Row.own, Row.ren, TV.ren, AV.ren, C.ren, Dat.ren, List.drop_succ_cons, List.drop_nil, List.getD_cons_zero, List.getD_cons_succ, List.getD_nil, go_sem, Nat.reduceAdd, Nat.reduceBEq, Nat.reduceEqDiff, Nat.reduceLT, Nat.reduceLeDiff, reduceCtorEq, ↓reduceIte]
    refine afin [0] [aI (faultI xs d), aB true] [rI xs] (by simp) rfl (weak_of (by decide) (by simp [RS.slot, List.map_cons, List.map_nil, rowsLe, rowLe, slotsLe, tvLe, TV.ren, AV.ren, C.ren, Dat.ren, Row.ren, TV.hs, AV.hs, C.hs, Dat.hs, get_cons, get_nil, zipSlots, List.getD_cons_zero, List.getD_cons_succ, List.getD_nil, -List.getD_eq_getElem?_getD])) (by simp [rtv])

theorem iIsHeap_f (xs : List Int) (d : Nat) (hx : xs.length ≤ 281474976710) (hv : hvOk xs d = false) : ACalls Try.prog 35 [tS 0 xs.length, tI d] [] [rI xs] (fun t H => t = .tup [aI 0, aB false] ∧ H = [rI xs]) := by
  refine afun (fun _ => none) [4, 5] 1 Try.func35 rfl rfl mix (by kernel_rfl) (by kernel_rfl) (by simp [Try.f35]) rfl (by simp [msOwn, ownAll, Row.own]) ?_
  simp (dsimp := false) only [go_sem, Nat.reduceAdd, Nat.reduceBEq, Nat.reduceEqDiff, Nat.reduceLT, Nat.reduceLeDiff, reduceCtorEq, ↓reduceIte]
  cases h1 : validB xs
  · repeat (refine And.intro (by first | exact True.intro | omega | kernel_rfl | (simp only [List.length_set, List.length_append, List.length_take, List.length_replicate, List.length_cons, true_and, and_true, List.length_nil, tabR_length]; omega)) ?_)
    refine ⟨_, (isValidList_l xs (by omega)).lift [0] (by decide) (by simp) (by simp [RS.slot, List.map_cons, List.map_nil, rowsLe, rowLe, slotsLe, tvLe, TV.ren, AV.ren, C.ren, Dat.ren, Row.ren, TV.hs, AV.hs, C.hs, Dat.hs, get_cons, get_nil, zipSlots, List.getD_cons_zero, List.getD_cons_succ, List.getD_nil, -List.getD_eq_getElem?_getD]) (by simp [RS.slot, List.map_cons, List.map_nil, rowsLe, rowLe, slotsLe, tvLe, TV.ren, AV.ren, C.ren, Dat.ren, Row.ren, TV.hs, AV.hs, C.hs, Dat.hs, get_cons, get_nil, zipSlots, List.getD_cons_zero, List.getD_cons_succ, List.getD_nil, -List.getD_eq_getElem?_getD]) (by simp [RS.slot, List.map_cons, List.map_nil, rowsLe, rowLe, slotsLe, tvLe, TV.ren, AV.ren, C.ren, Dat.ren, Row.ren, TV.hs, AV.hs, C.hs, Dat.hs, get_cons, get_nil, zipSlots, List.getD_cons_zero, List.getD_cons_succ, List.getD_nil, -List.getD_eq_getElem?_getD]) rfl ?_⟩
    rintro _ _ ⟨rfl, rfl⟩
    refine ⟨by simp [ownIn, Row.own], ?_⟩
    simp (dsimp := false) only [h1, liftT, liftH, putBack, freshR, ownIn, Row.own, Row.ren, TV.ren, AV.ren, C.ren, Dat.ren, List.drop_succ_cons, List.drop_nil, List.getD_cons_zero, List.getD_cons_succ, List.getD_nil, go_sem, Nat.reduceAdd, Nat.reduceBEq, Nat.reduceEqDiff, Nat.reduceLT, Nat.reduceLeDiff, reduceCtorEq, ↓reduceIte]
    refine afin [0] [aI 0, aB false] [rI xs] (by simp) rfl (weak_of (by decide) (by simp [RS.slot, List.map_cons, List.map_nil, rowsLe, rowLe, slotsLe, tvLe, TV.ren, AV.ren, C.ren, Dat.ren, Row.ren, TV.hs, AV.hs, C.hs, Dat.hs, get_cons, get_nil, zipSlots, List.getD_cons_zero, List.getD_cons_succ, List.getD_nil, -List.getD_eq_getElem?_getD])) (by simp [rtv])
  · have h2 : inB (d : Int) 2 8 = false := by simpa [hvOk, h1] using hv
    repeat (refine And.intro (by first | exact True.intro | omega | kernel_rfl | (simp only [List.length_set, List.length_append, List.length_take, List.length_replicate, List.length_cons, true_and, and_true, List.length_nil, tabR_length]; omega)) ?_)
    refine ⟨_, (isValidList_l xs (by omega)).lift [0] (by decide) (by simp) (by simp [RS.slot, List.map_cons, List.map_nil, rowsLe, rowLe, slotsLe, tvLe, TV.ren, AV.ren, C.ren, Dat.ren, Row.ren, TV.hs, AV.hs, C.hs, Dat.hs, get_cons, get_nil, zipSlots, List.getD_cons_zero, List.getD_cons_succ, List.getD_nil, -List.getD_eq_getElem?_getD]) (by simp [RS.slot, List.map_cons, List.map_nil, rowsLe, rowLe, slotsLe, tvLe, TV.ren, AV.ren, C.ren, Dat.ren, Row.ren, TV.hs, AV.hs, C.hs, Dat.hs, get_cons, get_nil, zipSlots, List.getD_cons_zero, List.getD_cons_succ, List.getD_nil, -List.getD_eq_getElem?_getD]) (by simp [RS.slot, List.map_cons, List.map_nil, rowsLe, rowLe, slotsLe, tvLe, TV.ren, AV.ren, C.ren, Dat.ren, Row.ren, TV.hs, AV.hs, C.hs, Dat.hs, get_cons, get_nil, zipSlots, List.getD_cons_zero, List.getD_cons_succ, List.getD_nil, -List.getD_eq_getElem?_getD]) rfl ?_⟩
    rintro _ _ ⟨rfl, rfl⟩
    refine ⟨by simp [ownIn, Row.own], ?_⟩
    simp (dsimp := false) only [h1, liftT, liftH, putBack, freshR, ownIn, Row.own, Row.ren, TV.ren, AV.ren, C.ren, Dat.ren, List.drop_succ_cons, List.drop_nil, List.getD_cons_zero, List.getD_cons_succ, List.getD_nil, go_sem, Nat.reduceAdd, Nat.reduceBEq, Nat.reduceEqDiff, Nat.reduceLT, Nat.reduceLeDiff, reduceCtorEq, ↓reduceIte]
    repeat (refine And.intro (by first | exact True.intro | omega | kernel_rfl | (simp only [List.length_set, List.length_append, List.length_take, List.length_replicate, List.length_cons, true_and, and_true, List.length_nil, tabR_length]; omega)) ?_)
    refine ⟨_, (isArity_l d).lift [] (by decide) (by simp) (by simp [RS.slot, List.map_cons, List.map_nil, rowsLe, rowLe, slotsLe, tvLe, TV.ren, AV.ren, C.ren, Dat.ren, Row.ren, TV.hs, AV.hs, C.hs, Dat.hs, get_cons, get_nil, zipSlots, List.getD_cons_zero, List.getD_cons_succ, List.getD_nil, -List.getD_eq_getElem?_getD]) (by simp [RS.slot, List.map_cons, List.map_nil, rowsLe, rowLe, slotsLe, tvLe, TV.ren, AV.ren, C.ren, Dat.ren, Row.ren, TV.hs, AV.hs, C.hs, Dat.hs, get_cons, get_nil, zipSlots, List.getD_cons_zero, List.getD_cons_succ, List.getD_nil, -List.getD_eq_getElem?_getD]) (by simp [RS.slot, List.map_cons, List.map_nil, rowsLe, rowLe, slotsLe, tvLe, TV.ren, AV.ren, C.ren, Dat.ren, Row.ren, TV.hs, AV.hs, C.hs, Dat.hs, get_cons, get_nil, zipSlots, List.getD_cons_zero, List.getD_cons_succ, List.getD_nil, -List.getD_eq_getElem?_getD]) rfl ?_⟩
    rintro _ _ ⟨rfl, rfl⟩
    refine ⟨by simp [ownIn, Row.own], ?_⟩
    simp (dsimp := false) only [h2, liftT, liftH, putBack, freshR, ownIn, Row.own, Row.ren, TV.ren, AV.ren, C.ren, Dat.ren, List.drop_succ_cons, List.drop_nil, List.getD_cons_zero, List.getD_cons_succ, List.getD_nil, go_sem, Nat.reduceAdd, Nat.reduceBEq, Nat.reduceEqDiff, Nat.reduceLT, Nat.reduceLeDiff, reduceCtorEq, ↓reduceIte]
    refine afin [0] [aI 0, aB false] [rI xs] (by simp) rfl (weak_of (by decide) (by simp [RS.slot, List.map_cons, List.map_nil, rowsLe, rowLe, slotsLe, tvLe, TV.ren, AV.ren, C.ren, Dat.ren, Row.ren, TV.hs, AV.hs, C.hs, Dat.hs, get_cons, get_nil, zipSlots, List.getD_cons_zero, List.getD_cons_succ, List.getD_nil, -List.getD_eq_getElem?_getD])) (by simp [rtv])
end Go.Proofs.Ytajohkbhiafnmaa
