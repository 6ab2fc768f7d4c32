/- Contracts: inversions. -/
import Derived.Test.YtgbmbkhljmkkjaaVal
set_option linter.unusedSimpArgs false
set_option linter.unusedVariables false
set_option linter.unusedSectionVars false
namespace Go.Proofs.Ytgbmbkhljmkkjaa
open Go Go.Ax
set_option maxRecDepth 10000

theorem l11Count_l (xs : List Int) (hx : xs.length ≤ 64) : ACalls Try.prog 61 [tS 0 xs.length] [] [rI xs] (fun t H => t = tI (sumL (invTab xs)) ∧ H = [rI xs]) := by
  rw [sum_invTab]
  have hs : ∀ i, i ≤ xs.length → 0 ≤ sumR (fun i => (invAt xs i : Int)) i ∧ sumR (fun i => (invAt xs i : Int)) i ≤ 64 * 64 := fun i hi => by
    have := sumR_bd (f := fun i => (invAt xs i : Int)) (b := 64) i (fun j _ => by have := invAt_le xs j; omega)
    omega
  refine afun (fun i => match i with | 8 => some ⟨[], .op 0 .held (.op 1 .held (.op 2 .held (.op 3 .now (.op 4 .held (.op 5 .held (.op 6 .held (.op 7 .now (.op 8 .held .nil))))))))⟩ | _ => none) [2] 1 Try.func61 rfl rfl mix (by kernel_rfl) (by kernel_rfl) (by simp [Try.f61]) rfl (by simp [msOwn, ownAll, Row.own]) ?_
  simp (dsimp := false) only [go_sem, Nat.reduceAdd, Nat.reduceBEq, Nat.reduceEqDiff, Nat.reduceLT, Nat.reduceLeDiff, reduceCtorEq, ↓reduceIte]
  refine aloop (σ := Nat) (fun i => ([(0, tS 0 xs.length), (3, tI (sumR (fun i => (invAt xs i : Int)) i)), (4, tI i)], [rI xs])) (fun i => i ≤ xs.length) (fun i => xs.length - i) 0 [0] (by omega) (weak_of (by decide) (by simp [rowsLe, rowLe, slotsLe, tvLe, TV.ren, AV.ren, C.ren, Dat.ren, Row.ren, TV.hs, AV.hs, C.hs, Dat.hs, get_cons, get_nil, zipSlots, List.getD_cons_zero, List.getD_cons_succ, List.getD_nil, -List.getD_eq_getElem?_getD, sumR])) ?_
  intro i hi
  have hsi := hs i hi
  simp (dsimp := false) only [go_sem, Nat.reduceAdd, Nat.reduceBEq, Nat.reduceEqDiff, Nat.reduceLT, Nat.reduceLeDiff, reduceCtorEq, ↓reduceIte]
  refine ⟨fun h => ?_, fun h => ?_⟩
  · have h1 : i < xs.length := by simp at h; omega
    repeat (refine And.intro (by first | exact True.intro | omega | kernel_rfl | (simp only [List.length_set, List.length_append, List.length_take, List.length_replicate, List.length_cons, true_and, and_true, List.length_nil, tabR_length]; omega)) ?_)
    refine aloop (σ := Nat) (fun k => ([(0, tS 0 xs.length), (3, tI (sumR (fun i => (invAt xs i : Int)) i + (cntR (fun j => decide (xs.getD j 0 < xs.getD i 0)) (i + 1) k : Nat))), (4, tI i), (5, tI (i + 1 + k : Nat))], [rI xs])) (fun k => i + 1 + k ≤ xs.length) (fun k => xs.length - (i + 1 + k)) 0 [0] (by omega) (weak_of (by decide) (by simp [rowsLe, rowLe, slotsLe, tvLe, TV.ren, AV.ren, C.ren, Dat.ren, Row.ren, TV.hs, AV.hs, C.hs, Dat.hs, get_cons, get_nil, zipSlots, List.getD_cons_zero, List.getD_cons_succ, List.getD_nil, -List.getD_eq_getElem?_getD, cntR])) ?_
    intro k hk
    have hc := cntR_le (fun j => decide (xs.getD j 0 < xs.getD i 0)) (i + 1) k
    simp (dsimp := false) only [go_sem, Nat.reduceAdd, Nat.reduceBEq, Nat.reduceEqDiff, Nat.reduceLT, Nat.reduceLeDiff, reduceCtorEq, ↓reduceIte]
    refine ⟨fun h => ?_, fun h => ?_⟩
    · have h2 : i + 1 + k < xs.length := by simp at h; omega
      repeat (refine And.intro (by first | exact True.intro | omega | kernel_rfl | (simp only [List.length_set, List.length_append, List.length_take, List.length_replicate, List.length_cons, true_and, and_true, List.length_nil, tabR_length]; omega)) ?_)
      refine ⟨fun h => ?_, fun h => ?_⟩
      · have e : cntR (fun j => decide (xs.getD j 0 < xs.getD i 0)) (i + 1) (k + 1) = _ := cntR_t (by simpa using h)
        repeat (refine And.intro (by first | exact True.intro | omega | kernel_rfl | (simp only [List.length_set, List.length_append, List.length_take, List.length_replicate, List.length_cons, true_and, and_true, List.length_nil, tabR_length]; omega)) ?_)
        refine ⟨k + 1, [0], ?_, weak_of (by decide) (by simp [rowsLe, rowLe, slotsLe, tvLe, TV.ren, AV.ren, C.ren, Dat.ren, Row.ren, TV.hs, AV.hs, C.hs, Dat.hs, get_cons, get_nil, zipSlots, List.getD_cons_zero, List.getD_cons_succ, List.getD_nil, -List.getD_eq_getElem?_getD, e, Int.add_assoc])⟩
        omega
      · have e : cntR (fun j => decide (xs.getD j 0 < xs.getD i 0)) (i + 1) (k + 1) = _ := cntR_f (by simpa using h)
        repeat (refine And.intro (by first | exact True.intro | omega | kernel_rfl | (simp only [List.length_set, List.length_append, List.length_take, List.length_replicate, List.length_cons, true_and, and_true, List.length_nil, tabR_length]; omega)) ?_)
        refine ⟨k + 1, [0], ?_, weak_of (by decide) (by simp [rowsLe, rowLe, slotsLe, tvLe, TV.ren, AV.ren, C.ren, Dat.ren, Row.ren, TV.hs, AV.hs, C.hs, Dat.hs, get_cons, get_nil, zipSlots, List.getD_cons_zero, List.getD_cons_succ, List.getD_nil, -List.getD_eq_getElem?_getD, e, Int.add_assoc])⟩
        omega
    · have h2 : xs.length - (i + 1) = k := by simp at h; omega
      have e : sumR (fun i => (invAt xs i : Int)) (i + 1) = sumR (fun i => (invAt xs i : Int)) i + (cntR (fun j => decide (xs.getD j 0 < xs.getD i 0)) (i + 1) k : Nat) := by simp only [sumR, invAt, h2]
      repeat (refine And.intro (by first | exact True.intro | omega | kernel_rfl | (simp only [List.length_set, List.length_append, List.length_take, List.length_replicate, List.length_cons, true_and, and_true, List.length_nil, tabR_length]; omega)) ?_)
      refine ⟨i + 1, [0], ?_, weak_of (by decide) (by simp [rowsLe, rowLe, slotsLe, tvLe, TV.ren, AV.ren, C.ren, Dat.ren, Row.ren, TV.hs, AV.hs, C.hs, Dat.hs, get_cons, get_nil, zipSlots, List.getD_cons_zero, List.getD_cons_succ, List.getD_nil, -List.getD_eq_getElem?_getD, e])⟩
      omega
  · have h1 : i = xs.length := by simp at h; omega
    subst h1
    refine afin [0] [aI (sumR (fun i => (invAt xs i : Int)) xs.length)] [rI xs] (by simp) rfl (weak_of (by decide) (by simp [rowsLe, rowLe, slotsLe, tvLe, TV.ren, AV.ren, C.ren, Dat.ren, Row.ren, TV.hs, AV.hs, C.hs, Dat.hs, get_cons, get_nil, zipSlots, List.getD_cons_zero, List.getD_cons_succ, List.getD_nil, -List.getD_eq_getElem?_getD])) (by simp [rtv])

theorem sum_l (xs : List Int) (b : Int) (hx : xs.length ≤ 64) (hb : b ≤ 1000000) (h : ∀ i, i < xs.length → 0 ≤ xs.getD i 0 ∧ xs.getD i 0 ≤ b) : ACalls Try.prog 63 [tS 0 xs.length] [] [rI xs] (fun t H => t = tI (sumL xs) ∧ H = [rI xs]) := by
  have hs : ∀ i, i ≤ xs.length → 0 ≤ sumR (fun i => xs.getD i 0) i ∧ sumR (fun i => xs.getD i 0) i ≤ 64 * 1000000 := fun i hi => by
    have := sumR_bd (f := fun i => xs.getD i 0) (b := 1000000) i (fun j hj => by have := h j (by omega); omega)
    omega
  refine afun (fun _ => none) [2] 1 Try.func63 rfl rfl mix (by kernel_rfl) (by kernel_rfl) (by simp [Try.f63]) rfl (by simp [msOwn, ownAll, Row.own]) ?_
  simp (dsimp := false) only [go_sem, Nat.reduceAdd, Nat.reduceBEq, Nat.reduceEqDiff, Nat.reduceLT, Nat.reduceLeDiff, reduceCtorEq, ↓reduceIte]
  refine aloop (σ := Nat) (fun i => ([(0, tS 0 xs.length), (6, tS 0 xs.length), (7, tI xs.length), (3, tI (sumR (fun i => xs.getD i 0) i)), (8, tI i)], [rI xs])) (fun i => i ≤ xs.length) (fun i => xs.length - i) 0 [0] (by omega) (weak_of (by decide) (by simp [rowsLe, rowLe, slotsLe, tvLe, TV.ren, AV.ren, C.ren, Dat.ren, Row.ren, TV.hs, AV.hs, C.hs, Dat.hs, get_cons, get_nil, zipSlots, List.getD_cons_zero, List.getD_cons_succ, List.getD_nil, -List.getD_eq_getElem?_getD, sumR])) ?_
  intro i hi
  have hsi := hs i hi
  simp (dsimp := false) only [go_sem, Nat.reduceAdd, Nat.reduceBEq, Nat.reduceEqDiff, Nat.reduceLT, Nat.reduceLeDiff, reduceCtorEq, ↓reduceIte]
  refine ⟨fun hh => ?_, fun hh => ?_⟩
  · have h1 : i < xs.length := by simp at hh; omega
    have h2 := hs (i + 1) h1
    simp only [sumR] at h2
    repeat (refine And.intro (by first | exact True.intro | omega | kernel_rfl | (simp only [List.length_set, List.length_append, List.length_take, List.length_replicate, List.length_cons, true_and, and_true, List.length_nil, tabR_length]; omega)) ?_)
    refine ⟨i + 1, [0], ?_, weak_of (by decide) (by simp [rowsLe, rowLe, slotsLe, tvLe, TV.ren, AV.ren, C.ren, Dat.ren, Row.ren, TV.hs, AV.hs, C.hs, Dat.hs, get_cons, get_nil, zipSlots, List.getD_cons_zero, List.getD_cons_succ, List.getD_nil, -List.getD_eq_getElem?_getD, sumR])⟩
    omega
  · have h1 : i = xs.length := by simp at hh; omega
    subst h1
    refine afin [0] [aI (sumL xs)] [rI xs] (by simp) rfl (weak_of (by decide) (by simp [rowsLe, rowLe, slotsLe, tvLe, TV.ren, AV.ren, C.ren, Dat.ren, Row.ren, TV.hs, AV.hs, C.hs, Dat.hs, get_cons, get_nil, zipSlots, List.getD_cons_zero, List.getD_cons_succ, List.getD_nil, -List.getD_eq_getElem?_getD, sumL])) (by simp [rtv, sumL, -List.getD_eq_getElem?_getD])

theorem inversionTable_l (xs : List Int) (hx : xs.length ≤ 64) : ACalls Try.prog 64 [tS 0 xs.length] [] [rI xs] (fun t H => t = tS 1 xs.length ∧ H = [rI xs, oI (invTab xs)]) := by
  refine afun (fun _ => none) [2] 1 Try.func64 rfl rfl mix (by kernel_rfl) (by kernel_rfl) (by simp [Try.f64]) rfl (by simp [msOwn, ownAll, Row.own]) ?_
  simp (dsimp := false) only [go_sem, Nat.reduceAdd, Nat.reduceBEq, Nat.reduceEqDiff, Nat.reduceLT, Nat.reduceLeDiff, reduceCtorEq, ↓reduceIte]
  refine aloop (σ := Nat) (fun i => ([(0, tS 0 xs.length), (10, tS 0 xs.length), (11, tI xs.length), (3, tS 1 i), (12, tI i)], [rI xs, oI (tabR (fun i => (invAt xs i : Int)) i)])) (fun i => i ≤ xs.length) (fun i => xs.length - i) 0 [0, 1] (by omega) (weak_of (by decide) (by simp [rowsLe, rowLe, slotsLe, tvLe, TV.ren, AV.ren, C.ren, Dat.ren, Row.ren, TV.hs, AV.hs, C.hs, Dat.hs, get_cons, get_nil, zipSlots, List.getD_cons_zero, List.getD_cons_succ, List.getD_nil, -List.getD_eq_getElem?_getD, tabR])) ?_
  intro i hi
  simp (dsimp := false) only [go_sem, Nat.reduceAdd, Nat.reduceBEq, Nat.reduceEqDiff, Nat.reduceLT, Nat.reduceLeDiff, reduceCtorEq, ↓reduceIte]
  refine ⟨fun hh => ?_, fun hh => ?_⟩
  · have h1 : i < xs.length := by simp at hh; omega
    repeat (refine And.intro (by first | exact True.intro | omega | kernel_rfl | (simp only [List.length_set, List.length_append, List.length_take, List.length_replicate, List.length_cons, true_and, and_true, List.length_nil, tabR_length]; omega)) ?_)
    refine aloop (σ := Nat) (fun k => ([(0, tS 0 xs.length), (10, tS 0 xs.length), (11, tI xs.length), (3, tS 1 i), (12, tI i), (4, tI i), (5, tI (xs.getD i 0)), (6, tI (cntR (fun j => decide (xs.getD j 0 < xs.getD i 0)) (i + 1) k : Nat)), (20, .a (.c (.sl 1 0 (i + 1) (xs.length - (i + 1))))), (21, tI (xs.length - (i + 1) : Nat)), (22, tI k)], [rI xs, oI (tabR (fun i => (invAt xs i : Int)) i)])) (fun k => i + 1 + k ≤ xs.length) (fun k => xs.length - (i + 1 + k)) 0 [0, 1] (by omega) (weak_of (by decide) (by simp [rowsLe, rowLe, slotsLe, tvLe, TV.ren, AV.ren, C.ren, Dat.ren, Row.ren, TV.hs, AV.hs, C.hs, Dat.hs, get_cons, get_nil, zipSlots, List.getD_cons_zero, List.getD_cons_succ, List.getD_nil, -List.getD_eq_getElem?_getD, cntR])) ?_
    intro k hk
    have hc := cntR_le (fun j => decide (xs.getD j 0 < xs.getD i 0)) (i + 1) k
    simp (dsimp := false) only [go_sem, Nat.reduceAdd, Nat.reduceBEq, Nat.reduceEqDiff, Nat.reduceLT, Nat.reduceLeDiff, reduceCtorEq, ↓reduceIte]
    refine ⟨fun hh => ?_, fun hh => ?_⟩
    · have h2 : i + 1 + k < xs.length := by simp at hh; omega
      repeat (refine And.intro (by first | exact True.intro | omega | kernel_rfl | (simp only [List.length_set, List.length_append, List.length_take, List.length_replicate, List.length_cons, true_and, and_true, List.length_nil, tabR_length]; omega)) ?_)
      refine ⟨fun h => ?_, fun h => ?_⟩
      · have e : cntR (fun j => decide (xs.getD j 0 < xs.getD i 0)) (i + 1) (k + 1) = _ := cntR_t (by simpa using h)
        repeat (refine And.intro (by first | exact True.intro | omega | kernel_rfl | (simp only [List.length_set, List.length_append, List.length_take, List.length_replicate, List.length_cons, true_and, and_true, List.length_nil, tabR_length]; omega)) ?_)
        refine ⟨k + 1, [0, 1], ?_, weak_of (by decide) (by simp [rowsLe, rowLe, slotsLe, tvLe, TV.ren, AV.ren, C.ren, Dat.ren, Row.ren, TV.hs, AV.hs, C.hs, Dat.hs, get_cons, get_nil, zipSlots, List.getD_cons_zero, List.getD_cons_succ, List.getD_nil, -List.getD_eq_getElem?_getD, e])⟩
        omega
      · have e : cntR (fun j => decide (xs.getD j 0 < xs.getD i 0)) (i + 1) (k + 1) = _ := cntR_f (by simpa using h)
        repeat (refine And.intro (by first | exact True.intro | omega | kernel_rfl | (simp only [List.length_set, List.length_append, List.length_take, List.length_replicate, List.length_cons, true_and, and_true, List.length_nil, tabR_length]; omega)) ?_)
        refine ⟨k + 1, [0, 1], ?_, weak_of (by decide) (by simp [rowsLe, rowLe, slotsLe, tvLe, TV.ren, AV.ren, C.ren, Dat.ren, Row.ren, TV.hs, AV.hs, C.hs, Dat.hs, get_cons, get_nil, zipSlots, List.getD_cons_zero, List.getD_cons_succ, List.getD_nil, -List.getD_eq_getElem?_getD, e])⟩
        omega
    · have h2 : xs.length - (i + 1) = k := by simp at hh; omega
      have e : tabR (fun i => (invAt xs i : Int)) (i + 1) = tabR (fun i => (invAt xs i : Int)) i ++ [((cntR (fun j => decide (xs.getD j 0 < xs.getD i 0)) (i + 1) k : Nat) : Int)] := by simp only [tabR_succ, invAt, h2]
      repeat (refine And.intro (by first | exact True.intro | omega | kernel_rfl | (simp only [List.length_set, List.length_append, List.length_take, List.length_replicate, List.length_cons, true_and, and_true, List.length_nil, tabR_length]; omega)) ?_)
      refine ⟨i + 1, [0, 3], ?_, weak_of (by decide) (by simp [rowsLe, rowLe, slotsLe, tvLe, TV.ren, AV.ren, C.ren, Dat.ren, Row.ren, TV.hs, AV.hs, C.hs, Dat.hs, get_cons, get_nil, zipSlots, List.getD_cons_zero, List.getD_cons_succ, List.getD_nil, -List.getD_eq_getElem?_getD, e])⟩
      omega
  · have h1 : i = xs.length := by simp at hh; omega
    subst h1
    refine afin [0, 1] [aS 1 xs.length] [rI xs, oI (invTab xs)] (by simp) rfl (weak_of (by decide) (by simp [rowsLe, rowLe, slotsLe, tvLe, TV.ren, AV.ren, C.ren, Dat.ren, Row.ren, TV.hs, AV.hs, C.hs, Dat.hs, get_cons, get_nil, zipSlots, List.getD_cons_zero, List.getD_cons_succ, List.getD_nil, -List.getD_eq_getElem?_getD, invTab])) (by simp [rtv, invTab, -List.getD_eq_getElem?_getD])

def countInv (xs : List Int) : List AV := cond (validB xs) [aI (sumL (invTab xs)), aB true] [aI 0, aB false]
theorem validB_len {xs : List Int} (h : validB xs = true) : xs.length ≤ 64 := by simp [validB] at h; exact h.1

theorem sCountInversions_l (xs : List Int) (hx : xs.length ≤ 281474976710656) : ACalls Try.prog 32 [tS 0 xs.length] [] [rI xs] (fun t H => t = .tup (countInv xs) ∧ H = [rI xs]) := by
  refine afun (fun _ => none) [2, 3] 1 Try.func32 rfl rfl mix (by kernel_rfl) (by kernel_rfl) (by simp [Try.f32]) rfl (by simp [msOwn, ownAll, Row.own]) ?_
  simp (dsimp := false) only [go_sem, Nat.reduceAdd, Nat.reduceBEq, Nat.reduceEqDiff, Nat.reduceLT, Nat.reduceLeDiff, reduceCtorEq, ↓reduceIte]
  refine ⟨_, (l2List_l xs hx).lift [0] (by decide) (by simp) (by simp [rowsLe, rowLe, slotsLe, tvLe, TV.ren, AV.ren, C.ren, Dat.ren, Row.ren, TV.hs, AV.hs, C.hs, Dat.hs, get_cons, get_nil, zipSlots, List.getD_cons_zero, List.getD_cons_succ, List.getD_nil, -List.getD_eq_getElem?_getD]) (by simp [rowsLe, rowLe, slotsLe, tvLe, TV.ren, AV.ren, C.ren, Dat.ren, Row.ren, TV.hs, AV.hs, C.hs, Dat.hs, get_cons, get_nil, zipSlots, List.getD_cons_zero, List.getD_cons_succ, List.getD_nil, -List.getD_eq_getElem?_getD]) (by simp [rowsLe, rowLe, slotsLe, tvLe, TV.ren, AV.ren, C.ren, Dat.ren, Row.ren, TV.hs, AV.hs, C.hs, Dat.hs, get_cons, get_nil, zipSlots, List.getD_cons_zero, List.getD_cons_succ, List.getD_nil, -List.getD_eq_getElem?_getD]) rfl ?_⟩
  rintro _ _ ⟨rfl, rfl⟩
  refine ⟨by simp [ownIn, Row.own], ?_⟩
  simp (dsimp := false) only [liftT, liftH, putBack, freshR, ownIn, Row.own, Row.ren, TV.ren, AV.ren, C.ren, Dat.ren, List.drop_succ_cons, List.drop_nil, List.getD_cons_zero, List.getD_cons_succ, List.getD_nil, go_sem, Nat.reduceAdd, Nat.reduceBEq, Nat.reduceEqDiff, Nat.reduceLT, Nat.reduceLeDiff, reduceCtorEq, ↓reduceIte]
  refine ⟨fun h => ?_, fun h => ?_⟩
  · refine afin [0] [aI 0, aB false] [rI xs] (by simp) rfl (weak_of (by decide) (by simp [rowsLe, rowLe, slotsLe, tvLe, TV.ren, AV.ren, C.ren, Dat.ren, Row.ren, TV.hs, AV.hs, C.hs, Dat.hs, get_cons, get_nil, zipSlots, List.getD_cons_zero, List.getD_cons_succ, List.getD_nil, -List.getD_eq_getElem?_getD])) (by simp only [rtv, countInv, nt h, cond_false, and_self])
  · refine ⟨_, (l11Count_l xs (validB_len (nf h))).lift [0] (by decide) (by simp) (by simp [rowsLe, rowLe, slotsLe, tvLe, TV.ren, AV.ren, C.ren, Dat.ren, Row.ren, TV.hs, AV.hs, C.hs, Dat.hs, get_cons, get_nil, zipSlots, List.getD_cons_zero, List.getD_cons_succ, List.getD_nil, -List.getD_eq_getElem?_getD]) (by simp [rowsLe, rowLe, slotsLe, tvLe, TV.ren, AV.ren, C.ren, Dat.ren, Row.ren, TV.hs, AV.hs, C.hs, Dat.hs, get_cons, get_nil, zipSlots, List.getD_cons_zero, List.getD_cons_succ, List.getD_nil, -List.getD_eq_getElem?_getD]) (by simp [rowsLe, rowLe, slotsLe, tvLe, TV.ren, AV.ren, C.ren, Dat.ren, Row.ren, TV.hs, AV.hs, C.hs, Dat.hs, get_cons, get_nil, zipSlots, List.getD_cons_zero, List.getD_cons_succ, List.getD_nil, -List.getD_eq_getElem?_getD]) rfl ?_⟩
    rintro _ _ ⟨rfl, rfl⟩
    refine ⟨by simp [ownIn, Row.own], ?_⟩
    simp (dsimp := false) only [liftT, liftH, putBack, freshR, ownIn, Row.own, Row.ren, TV.ren, AV.ren, C.ren, Dat.ren, List.drop_succ_cons, List.drop_nil, List.getD_cons_zero, List.getD_cons_succ, List.getD_nil, go_sem, Nat.reduceAdd, Nat.reduceBEq, Nat.reduceEqDiff, Nat.reduceLT, Nat.reduceLeDiff, reduceCtorEq, ↓reduceIte]
    refine afin [0] [aI (sumL (invTab xs)), aB true] [rI xs] (by simp) rfl (weak_of (by decide) (by simp [rowsLe, rowLe, slotsLe, tvLe, TV.ren, AV.ren, C.ren, Dat.ren, Row.ren, TV.hs, AV.hs, C.hs, Dat.hs, get_cons, get_nil, zipSlots, List.getD_cons_zero, List.getD_cons_succ, List.getD_nil, -List.getD_eq_getElem?_getD])) (by simp only [rtv, countInv, nf h, cond_true, and_self])

theorem invTab_bd (xs : List Int) (hx : xs.length ≤ 64) (i : Nat) (hi : i < (invTab xs).length) : 0 ≤ (invTab xs).getD i 0 ∧ (invTab xs).getD i 0 ≤ 64 := by
  have hl : (invTab xs).length = xs.length := tabR_length _ _
  rw [hl] at hi
  have e : (invTab xs).getD i 0 = (invAt xs i : Int) := tabR_get _ hi
  rw [e]
  have := invAt_le xs i
  omega

theorem iCountInversions_l (xs : List Int) (hx : xs.length ≤ 281474976710656) : ACalls Try.prog 33 [tS 0 xs.length] [] [rI xs] (fun t H => t = .tup (countInv xs) ∧ H = [rI xs]) := by
  refine afun (fun _ => none) [2, 3] 1 Try.func33 rfl rfl mix (by kernel_rfl) (by kernel_rfl) (by simp [Try.f33]) rfl (by simp [msOwn, ownAll, Row.own]) ?_
  simp (dsimp := false) only [go_sem, Nat.reduceAdd, Nat.reduceBEq, Nat.reduceEqDiff, Nat.reduceLT, Nat.reduceLeDiff, reduceCtorEq, ↓reduceIte]
  refine ⟨_, (isValidList_l xs hx).lift [0] (by decide) (by simp) (by simp [rowsLe, rowLe, slotsLe, tvLe, TV.ren, AV.ren, C.ren, Dat.ren, Row.ren, TV.hs, AV.hs, C.hs, Dat.hs, get_cons, get_nil, zipSlots, List.getD_cons_zero, List.getD_cons_succ, List.getD_nil, -List.getD_eq_getElem?_getD]) (by simp [rowsLe, rowLe, slotsLe, tvLe, TV.ren, AV.ren, C.ren, Dat.ren, Row.ren, TV.hs, AV.hs, C.hs, Dat.hs, get_cons, get_nil, zipSlots, List.getD_cons_zero, List.getD_cons_succ, List.getD_nil, -List.getD_eq_getElem?_getD]) (by simp [rowsLe, rowLe, slotsLe, tvLe, TV.ren, AV.ren, C.ren, Dat.ren, Row.ren, TV.hs, AV.hs, C.hs, Dat.hs, get_cons, get_nil, zipSlots, List.getD_cons_zero, List.getD_cons_succ, List.getD_nil, -List.getD_eq_getElem?_getD]) rfl ?_⟩
  rintro _ _ ⟨rfl, rfl⟩
  refine ⟨by simp [ownIn, Row.own], ?_⟩
  simp (dsimp := false) only [liftT, liftH, putBack, freshR, ownIn, Row.own, Row.ren, TV.ren, AV.ren, C.ren, Dat.ren, List.drop_succ_cons, List.drop_nil, List.getD_cons_zero, List.getD_cons_succ, List.getD_nil, go_sem, Nat.reduceAdd, Nat.reduceBEq, Nat.reduceEqDiff, Nat.reduceLT, Nat.reduceLeDiff, reduceCtorEq, ↓reduceIte]
  refine ⟨fun h => ?_, fun h => ?_⟩
  · refine afin [0] [aI 0, aB false] [rI xs] (by simp) rfl (weak_of (by decide) (by simp [rowsLe, rowLe, slotsLe, tvLe, TV.ren, AV.ren, C.ren, Dat.ren, Row.ren, TV.hs, AV.hs, C.hs, Dat.hs, get_cons, get_nil, zipSlots, List.getD_cons_zero, List.getD_cons_succ, List.getD_nil, -List.getD_eq_getElem?_getD])) (by simp only [rtv, countInv, nt h, cond_false, and_self])
  · have hl : (invTab xs).length = xs.length := tabR_length _ _
    have h64 := validB_len (nf h)
    refine ⟨_, (inversionTable_l xs h64).lift [0] (by decide) (by simp) (by simp [rowsLe, rowLe, slotsLe, tvLe, TV.ren, AV.ren, C.ren, Dat.ren, Row.ren, TV.hs, AV.hs, C.hs, Dat.hs, get_cons, get_nil, zipSlots, List.getD_cons_zero, List.getD_cons_succ, List.getD_nil, -List.getD_eq_getElem?_getD]) (by simp [rowsLe, rowLe, slotsLe, tvLe, TV.ren, AV.ren, C.ren, Dat.ren, Row.ren, TV.hs, AV.hs, C.hs, Dat.hs, get_cons, get_nil, zipSlots, List.getD_cons_zero, List.getD_cons_succ, List.getD_nil, -List.getD_eq_getElem?_getD]) (by simp [rowsLe, rowLe, slotsLe, tvLe, TV.ren, AV.ren, C.ren, Dat.ren, Row.ren, TV.hs, AV.hs, C.hs, Dat.hs, get_cons, get_nil, zipSlots, List.getD_cons_zero, List.getD_cons_succ, List.getD_nil, -List.getD_eq_getElem?_getD]) rfl ?_⟩
    rintro _ _ ⟨rfl, rfl⟩
    refine ⟨by simp [ownIn, Row.own], ?_⟩
    simp (dsimp := false) only [liftT, liftH, putBack, freshR, ownIn, Row.own, Row.ren, TV.ren, AV.ren, C.ren, Dat.ren, List.drop_succ_cons, List.drop_nil, List.getD_cons_zero, List.getD_cons_succ, List.getD_nil, go_sem, Nat.reduceAdd, Nat.reduceBEq, Nat.reduceEqDiff, Nat.reduceLT, Nat.reduceLeDiff, reduceCtorEq, ↓reduceIte]
    have hs := sum_l (invTab xs) 64 (by omega) (by omega) (invTab_bd xs h64)
    rw [hl] at hs
    refine ⟨_, (hs).lift [1] (by decide) (by simp) (by simp [rowsLe, rowLe, slotsLe, tvLe, TV.ren, AV.ren, C.ren, Dat.ren, Row.ren, TV.hs, AV.hs, C.hs, Dat.hs, get_cons, get_nil, zipSlots, List.getD_cons_zero, List.getD_cons_succ, List.getD_nil, -List.getD_eq_getElem?_getD]) (by simp [rowsLe, rowLe, slotsLe, tvLe, TV.ren, AV.ren, C.ren, Dat.ren, Row.ren, TV.hs, AV.hs, C.hs, Dat.hs, get_cons, get_nil, zipSlots, List.getD_cons_zero, List.getD_cons_succ, List.getD_nil, -List.getD_eq_getElem?_getD]) (by simp [rowsLe, rowLe, slotsLe, tvLe, TV.ren, AV.ren, C.ren, Dat.ren, Row.ren, TV.hs, AV.hs, C.hs, Dat.hs, get_cons, get_nil, zipSlots, List.getD_cons_zero, List.getD_cons_succ, List.getD_nil, -List.getD_eq_getElem?_getD]) rfl ?_⟩
    rintro _ _ ⟨rfl, rfl⟩
    refine ⟨by simp [ownIn, Row.own], ?_⟩
    simp (dsimp := false) only [liftT, liftH, putBack, freshR, ownIn, Row.own, Row.ren, TV.ren, AV.ren, C.ren, Dat.ren, List.drop_succ_cons, List.drop_nil, List.getD_cons_zero, List.getD_cons_succ, List.getD_nil, go_sem, Nat.reduceAdd, Nat.reduceBEq, Nat.reduceEqDiff, Nat.reduceLT, Nat.reduceLeDiff, reduceCtorEq, ↓reduceIte]
    refine afin [0] [aI (sumL (invTab xs)), aB true] [rI xs] (by simp) rfl (weak_of (by decide) (by simp [rowsLe, rowLe, slotsLe, tvLe, TV.ren, AV.ren, C.ren, Dat.ren, Row.ren, TV.hs, AV.hs, C.hs, Dat.hs, get_cons, get_nil, zipSlots, List.getD_cons_zero, List.getD_cons_succ, List.getD_nil, -List.getD_eq_getElem?_getD])) (by simp only [rtv, countInv, nf h, cond_true, and_self])
end Go.Proofs.Ytgbmbkhljmkkjaa
