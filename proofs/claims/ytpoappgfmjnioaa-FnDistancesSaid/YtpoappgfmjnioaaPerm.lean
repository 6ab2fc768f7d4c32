/- Contracts: is a list a permutation; its inversion table; distances. -/
import Derived.Test.YtpoappgfmjnioaaInv
import Derived.Test.YtpoappgfmjnioaaPlPerm
set_option linter.unusedSimpArgs false
set_option linter.unusedVariables false
set_option linter.unusedSectionVars false
namespace Go.Proofs.Ytpoappgfmjnioaa
open Go Go.Ax
set_option maxRecDepth 10000

theorem isValidPermutation_l (xs : List Int) (hx : xs.length ≤ 281474976710656) : ACalls Try.prog 86 [tS 0 xs.length] [] [rI xs] (fun t H => t = tB (permB xs) ∧ H = [rI xs]) := by
  refine afun (fun _ => none) [2] 1 Try.func86 rfl rfl mix (by kernel_rfl) (by kernel_rfl) (by simp [Try.f86]) rfl (by simp [msOwn, ownAll, Row.own]) ?_
  by_cases h64 : xs.length ≤ 64
  · have d64 : decide (64 < (xs.length : Int)) = false := by simp; omega
    simp (dsimp := false) only [d64, go_sem, Nat.reduceAdd, Nat.reduceBEq, Nat.reduceEqDiff, Nat.reduceLT, Nat.reduceLeDiff, reduceCtorEq, ↓reduceIte]
    repeat (refine And.intro (by first | exact True.intro | omega | kernel_rfl | (simp only [List.length_set, List.length_append, List.length_take, List.length_replicate, List.length_cons, true_and, and_true, List.length_nil, tabR_length]; omega)) ?_)
    refine aloop (σ := Nat) (fun k => ([(0, tS 0 xs.length), (3, tS 1 xs.length), (12, tS 0 xs.length), (13, tI xs.length), (14, tI k)], [rI xs, oB (seenR xs k)])) (fun k => k ≤ xs.length ∧ allR (stepOK xs) k = true) (fun k => xs.length - k) 0 [0, 1] ⟨by omega, rfl⟩ (weak_of (by decide) (by simp [rowsLe, rowLe, slotsLe, tvLe, TV.ren, AV.ren, C.ren, Dat.ren, Row.ren, TV.hs, AV.hs, C.hs, Dat.hs, get_cons, get_nil, zipSlots, List.getD_cons_zero, List.getD_cons_succ, List.getD_nil, -List.getD_eq_getElem?_getD, seenR])) ?_
    rintro k ⟨hk, hq⟩
    have hl := seenR_len xs k
    simp (dsimp := false) only [go_sem, Nat.reduceAdd, Nat.reduceBEq, Nat.reduceEqDiff, Nat.reduceLT, Nat.reduceLeDiff, reduceCtorEq, ↓reduceIte]
    refine ⟨fun h => ?_, fun h => ?_⟩
    · have h1 : k < xs.length := by simpa using h
      repeat (refine And.intro (by first | exact True.intro | omega | kernel_rfl | (simp only [List.length_set, List.length_append, List.length_take, List.length_replicate, List.length_cons, true_and, and_true, List.length_nil, tabR_length]; omega)) ?_)
      refine ⟨_, (in_l (xs.getD k 0) 0 ((xs.length : Int) - 1)).lift [] (by decide) (by simp) (by simp [rowsLe, rowLe, slotsLe, tvLe, TV.ren, AV.ren, C.ren, Dat.ren, Row.ren, TV.hs, AV.hs, C.hs, Dat.hs, get_cons, get_nil, zipSlots, List.getD_cons_zero, List.getD_cons_succ, List.getD_nil, -List.getD_eq_getElem?_getD]) (by simp [rowsLe, rowLe, slotsLe, tvLe, TV.ren, AV.ren, C.ren, Dat.ren, Row.ren, TV.hs, AV.hs, C.hs, Dat.hs, get_cons, get_nil, zipSlots, List.getD_cons_zero, List.getD_cons_succ, List.getD_nil, -List.getD_eq_getElem?_getD]) (by simp [rowsLe, rowLe, slotsLe, tvLe, TV.ren, AV.ren, C.ren, Dat.ren, Row.ren, TV.hs, AV.hs, C.hs, Dat.hs, get_cons, get_nil, zipSlots, List.getD_cons_zero, List.getD_cons_succ, List.getD_nil, -List.getD_eq_getElem?_getD]) rfl ?_⟩
      rintro _ _ ⟨rfl, rfl⟩
      refine ⟨by simp [ownIn, Row.own], ?_⟩
      simp (dsimp := false) only [liftT, liftH, putBack, freshR, ownIn, Row.own, Row.ren, TV.ren, AV.ren, C.ren, Dat.ren, List.drop_succ_cons, List.drop_nil, List.getD_cons_zero, List.getD_cons_succ, List.getD_nil, go_sem, Nat.reduceAdd, Nat.reduceBEq, Nat.reduceEqDiff, Nat.reduceLT, Nat.reduceLeDiff, reduceCtorEq, ↓reduceIte]
      cases hin : inB (xs.getD k 0) 0 ((xs.length : Int) - 1)
      · simp (dsimp := false) only [go_sem, Nat.reduceAdd, Nat.reduceBEq, Nat.reduceEqDiff, Nat.reduceLT, Nat.reduceLeDiff, reduceCtorEq, ↓reduceIte]
        have e : allR (stepOK xs) xs.length = false := allR_f h1 (by unfold inB at hin; simp only [stepOK, hin, Bool.false_and])
        refine afin [0] [aB false] [rI xs] (by simp) rfl (weak_of (by decide) (by simp [rowsLe, rowLe, slotsLe, tvLe, TV.ren, AV.ren, C.ren, Dat.ren, Row.ren, TV.hs, AV.hs, C.hs, Dat.hs, get_cons, get_nil, zipSlots, List.getD_cons_zero, List.getD_cons_succ, List.getD_nil, -List.getD_eq_getElem?_getD, permB, e])) (by simp [rtv, permB, e, -List.getD_eq_getElem?_getD])
      · simp (dsimp := false) only [go_sem, Nat.reduceAdd, Nat.reduceBEq, Nat.reduceEqDiff, Nat.reduceLT, Nat.reduceLeDiff, reduceCtorEq, ↓reduceIte]
        have hb : 0 ≤ xs.getD k 0 ∧ xs.getD k 0 < xs.length := by simp only [inB, Bool.and_eq_true, decide_eq_true_eq] at hin; omega
        repeat (refine And.intro (by first | exact True.intro | omega | kernel_rfl | (simp only [List.length_set, List.length_append, List.length_take, List.length_replicate, List.length_cons, true_and, and_true, List.length_nil, tabR_length, hl]; omega)) ?_)
        refine ⟨fun h => ?_, fun h => ?_⟩
        · have e : allR (stepOK xs) xs.length = false := allR_f h1 (by simp only [stepOK, h, Bool.not_true, Bool.and_false])
          refine afin [0] [aB false] [rI xs] (by simp) rfl (weak_of (by decide) (by simp [rowsLe, rowLe, slotsLe, tvLe, TV.ren, AV.ren, C.ren, Dat.ren, Row.ren, TV.hs, AV.hs, C.hs, Dat.hs, get_cons, get_nil, zipSlots, List.getD_cons_zero, List.getD_cons_succ, List.getD_nil, -List.getD_eq_getElem?_getD, permB, e])) (by simp [rtv, permB, e, -List.getD_eq_getElem?_getD])
        · repeat (refine And.intro (by first | exact True.intro | omega | kernel_rfl | (simp only [List.length_set, List.length_append, List.length_take, List.length_replicate, List.length_cons, true_and, and_true, List.length_nil, tabR_length, hl]; omega)) ?_)
          refine ⟨k + 1, [0, 1], ?_, weak_of (by decide) (by simp [rowsLe, rowLe, slotsLe, tvLe, TV.ren, AV.ren, C.ren, Dat.ren, Row.ren, TV.hs, AV.hs, C.hs, Dat.hs, get_cons, get_nil, zipSlots, List.getD_cons_zero, List.getD_cons_succ, List.getD_nil, -List.getD_eq_getElem?_getD, seenR])⟩
          refine ⟨⟨by omega, ?_⟩, by omega⟩
          unfold inB at hin
          simp only [allR, hq, stepOK, hin, h, Bool.not_false, Bool.and_self]
    · have h1 : xs.length = k := by simp at h; omega
      have e : allR (stepOK xs) xs.length = true := by rw [h1]; exact hq
      refine afin [0] [aB true] [rI xs] (by simp) rfl (weak_of (by decide) (by simp [rowsLe, rowLe, slotsLe, tvLe, TV.ren, AV.ren, C.ren, Dat.ren, Row.ren, TV.hs, AV.hs, C.hs, Dat.hs, get_cons, get_nil, zipSlots, List.getD_cons_zero, List.getD_cons_succ, List.getD_nil, -List.getD_eq_getElem?_getD, permB, e, h64])) (by simp [rtv, permB, e, h64, -List.getD_eq_getElem?_getD])
  · have d64 : decide (64 < (xs.length : Int)) = true := by simp; omega
    simp (dsimp := false) only [d64, go_sem, Nat.reduceAdd, Nat.reduceBEq, Nat.reduceEqDiff, Nat.reduceLT, Nat.reduceLeDiff, reduceCtorEq, ↓reduceIte]
    refine afin [0] [aB false] [rI xs] (by simp) rfl (weak_of (by decide) (by simp [rowsLe, rowLe, slotsLe, tvLe, TV.ren, AV.ren, C.ren, Dat.ren, Row.ren, TV.hs, AV.hs, C.hs, Dat.hs, get_cons, get_nil, zipSlots, List.getD_cons_zero, List.getD_cons_succ, List.getD_nil, -List.getD_eq_getElem?_getD, permB, h64])) (by simp [rtv, permB, h64, -List.getD_eq_getElem?_getD])

/-- Two permutations of one length. -/
def bothB (ps qs : List Int) : Bool := permB ps && permB qs && decide (ps.length = qs.length)

theorem arePair_l (ps qs : List Int) (hp : ps.length ≤ 281474976710656) (hq : qs.length ≤ 281474976710656) : ACalls Try.prog 63 [tS 0 ps.length, tS 1 qs.length] [] [rI ps, rI qs] (fun t H => t = tB (bothB ps qs) ∧ H = [rI ps, rI qs]) := by
  refine afun (fun _ => none) [4] 2 Try.func63 rfl rfl mix (by kernel_rfl) (by kernel_rfl) (by simp [Try.f63]) rfl (by simp [msOwn, ownAll, Row.own]) ?_
  simp (dsimp := false) only [go_sem, Nat.reduceAdd, Nat.reduceBEq, Nat.reduceEqDiff, Nat.reduceLT, Nat.reduceLeDiff, reduceCtorEq, ↓reduceIte]
  refine ⟨_, (isValidPermutation_l ps hp).lift [0] (by decide) (by simp) (by simp [rowsLe, rowLe, slotsLe, tvLe, TV.ren, AV.ren, C.ren, Dat.ren, Row.ren, TV.hs, AV.hs, C.hs, Dat.hs, get_cons, get_nil, zipSlots, List.getD_cons_zero, List.getD_cons_succ, List.getD_nil, -List.getD_eq_getElem?_getD]) (by simp [rowsLe, rowLe, slotsLe, tvLe, TV.ren, AV.ren, C.ren, Dat.ren, Row.ren, TV.hs, AV.hs, C.hs, Dat.hs, get_cons, get_nil, zipSlots, List.getD_cons_zero, List.getD_cons_succ, List.getD_nil, -List.getD_eq_getElem?_getD]) (by simp [rowsLe, rowLe, slotsLe, tvLe, TV.ren, AV.ren, C.ren, Dat.ren, Row.ren, TV.hs, AV.hs, C.hs, Dat.hs, get_cons, get_nil, zipSlots, List.getD_cons_zero, List.getD_cons_succ, List.getD_nil, -List.getD_eq_getElem?_getD]) rfl ?_⟩
  rintro _ _ ⟨rfl, rfl⟩
  refine ⟨by simp [ownIn, Row.own], ?_⟩
  simp (dsimp := false) only [liftT, liftH, putBack, freshR, ownIn, Row.own, Row.ren, TV.ren, AV.ren, C.ren, Dat.ren, List.drop_succ_cons, List.drop_nil, List.getD_cons_zero, List.getD_cons_succ, List.getD_nil, go_sem, Nat.reduceAdd, Nat.reduceBEq, Nat.reduceEqDiff, Nat.reduceLT, Nat.reduceLeDiff, reduceCtorEq, ↓reduceIte]
  cases h1 : permB ps
  · simp (dsimp := false) only [go_sem, Nat.reduceAdd, Nat.reduceBEq, Nat.reduceEqDiff, Nat.reduceLT, Nat.reduceLeDiff, reduceCtorEq, ↓reduceIte]
    refine afin [0, 1] [aB false] [rI ps, rI qs] (by simp) rfl (weak_of (by decide) (by simp [rowsLe, rowLe, slotsLe, tvLe, TV.ren, AV.ren, C.ren, Dat.ren, Row.ren, TV.hs, AV.hs, C.hs, Dat.hs, get_cons, get_nil, zipSlots, List.getD_cons_zero, List.getD_cons_succ, List.getD_nil, -List.getD_eq_getElem?_getD, bothB, h1])) (by simp [rtv, bothB, h1, -List.getD_eq_getElem?_getD])
  · simp (dsimp := false) only [go_sem, Nat.reduceAdd, Nat.reduceBEq, Nat.reduceEqDiff, Nat.reduceLT, Nat.reduceLeDiff, reduceCtorEq, ↓reduceIte]
    refine ⟨_, (isValidPermutation_l qs hq).lift [1] (by decide) (by simp) (by simp [rowsLe, rowLe, slotsLe, tvLe, TV.ren, AV.ren, C.ren, Dat.ren, Row.ren, TV.hs, AV.hs, C.hs, Dat.hs, get_cons, get_nil, zipSlots, List.getD_cons_zero, List.getD_cons_succ, List.getD_nil, -List.getD_eq_getElem?_getD]) (by simp [rowsLe, rowLe, slotsLe, tvLe, TV.ren, AV.ren, C.ren, Dat.ren, Row.ren, TV.hs, AV.hs, C.hs, Dat.hs, get_cons, get_nil, zipSlots, List.getD_cons_zero, List.getD_cons_succ, List.getD_nil, -List.getD_eq_getElem?_getD]) (by simp [rowsLe, rowLe, slotsLe, tvLe, TV.ren, AV.ren, C.ren, Dat.ren, Row.ren, TV.hs, AV.hs, C.hs, Dat.hs, get_cons, get_nil, zipSlots, List.getD_cons_zero, List.getD_cons_succ, List.getD_nil, -List.getD_eq_getElem?_getD]) rfl ?_⟩
    rintro _ _ ⟨rfl, rfl⟩
    refine ⟨by simp [ownIn, Row.own], ?_⟩
    simp (dsimp := false) only [liftT, liftH, putBack, freshR, ownIn, Row.own, Row.ren, TV.ren, AV.ren, C.ren, Dat.ren, List.drop_succ_cons, List.drop_nil, List.getD_cons_zero, List.getD_cons_succ, List.getD_nil, go_sem, Nat.reduceAdd, Nat.reduceBEq, Nat.reduceEqDiff, Nat.reduceLT, Nat.reduceLeDiff, reduceCtorEq, ↓reduceIte]
    cases h2 : permB qs
    · simp (dsimp := false) only [go_sem, Nat.reduceAdd, Nat.reduceBEq, Nat.reduceEqDiff, Nat.reduceLT, Nat.reduceLeDiff, reduceCtorEq, ↓reduceIte]
      refine afin [0, 1] [aB false] [rI ps, rI qs] (by simp) rfl (weak_of (by decide) (by simp [rowsLe, rowLe, slotsLe, tvLe, TV.ren, AV.ren, C.ren, Dat.ren, Row.ren, TV.hs, AV.hs, C.hs, Dat.hs, get_cons, get_nil, zipSlots, List.getD_cons_zero, List.getD_cons_succ, List.getD_nil, -List.getD_eq_getElem?_getD, bothB, h2])) (by simp [rtv, bothB, h2, -List.getD_eq_getElem?_getD])
    · simp (dsimp := false) only [go_sem, Nat.reduceAdd, Nat.reduceBEq, Nat.reduceEqDiff, Nat.reduceLT, Nat.reduceLeDiff, reduceCtorEq, ↓reduceIte]
      have e : ((ps.length : Int) == (qs.length : Int)) = decide (ps.length = qs.length) := by rw [show ((ps.length : Int) == (qs.length : Int)) = decide ((ps.length : Int) = (qs.length : Int)) from rfl]; simp only [decide_eq_decide]; omega
      refine afin [0, 1] [aB ((ps.length : Int) == (qs.length : Int))] [rI ps, rI qs] (by simp) rfl (weak_of (by decide) (by simp [rowsLe, rowLe, slotsLe, tvLe, TV.ren, AV.ren, C.ren, Dat.ren, Row.ren, TV.hs, AV.hs, C.hs, Dat.hs, get_cons, get_nil, zipSlots, List.getD_cons_zero, List.getD_cons_succ, List.getD_nil, -List.getD_eq_getElem?_getD, bothB, h1, h2, e])) (by simp [rtv, bothB, h1, h2, e, -List.getD_eq_getElem?_getD])

theorem bothB_t {ps qs : List Int} (h : bothB ps qs = true) : permB ps = true ∧ permB qs = true ∧ ps.length = qs.length := by
  simp only [bothB, Bool.and_eq_true, decide_eq_true_eq] at h
  exact ⟨h.1.1, h.1.2, h.2⟩

def kendV (ps qs : List Int) : List AV := cond (bothB ps qs) [aI (kend ps qs), aB true] [aI 0, aB false]

theorem iKendallDistance_l (ps qs : List Int) (hp : ps.length ≤ 281474976710656) (hq : qs.length ≤ 281474976710656) : ACalls Try.prog 28 [tS 0 ps.length, tS 1 qs.length] [] [rI ps, rI qs] (fun t H => t = .tup (kendV ps qs) ∧ H = [rI ps, rI qs]) := by
  refine afun (fun i => match i with | 10 => some ⟨[], .op 0 .held (.op 1 .held (.op 2 .held (.op 3 .now (.op 4 .held (.op 5 .held (.op 6 .held (.op 7 .now (.op 8 .held (.op 9 .held (.op 10 .held (.op 11 .held (.op 12 .now (.op 13 .held (.op 14 .held (.op 15 .held (.op 16 .now (.op 17 .held (.op 18 .held .nil))))))))))))))))))⟩ | _ => none) [4, 5] 2 Try.func28 rfl rfl mix (by kernel_rfl) (by kernel_rfl) (by simp [Try.f28]) rfl (by simp [msOwn, ownAll, Row.own]) ?_
  simp (dsimp := false) only [go_sem, Nat.reduceAdd, Nat.reduceBEq, Nat.reduceEqDiff, Nat.reduceLT, Nat.reduceLeDiff, reduceCtorEq, ↓reduceIte]
  refine ⟨_, (arePair_l ps qs hp hq).lift [0, 1] (by decide) (by simp) (by simp [rowsLe, rowLe, slotsLe, tvLe, TV.ren, AV.ren, C.ren, Dat.ren, Row.ren, TV.hs, AV.hs, C.hs, Dat.hs, get_cons, get_nil, zipSlots, List.getD_cons_zero, List.getD_cons_succ, List.getD_nil, -List.getD_eq_getElem?_getD]) (by simp [rowsLe, rowLe, slotsLe, tvLe, TV.ren, AV.ren, C.ren, Dat.ren, Row.ren, TV.hs, AV.hs, C.hs, Dat.hs, get_cons, get_nil, zipSlots, List.getD_cons_zero, List.getD_cons_succ, List.getD_nil, -List.getD_eq_getElem?_getD]) (by simp [rowsLe, rowLe, slotsLe, tvLe, TV.ren, AV.ren, C.ren, Dat.ren, Row.ren, TV.hs, AV.hs, C.hs, Dat.hs, get_cons, get_nil, zipSlots, List.getD_cons_zero, List.getD_cons_succ, List.getD_nil, -List.getD_eq_getElem?_getD]) rfl ?_⟩
  rintro _ _ ⟨rfl, rfl⟩
  refine ⟨by simp [ownIn, Row.own], ?_⟩
  simp (dsimp := false) only [liftT, liftH, putBack, freshR, ownIn, Row.own, Row.ren, TV.ren, AV.ren, C.ren, Dat.ren, List.drop_succ_cons, List.drop_nil, List.getD_cons_zero, List.getD_cons_succ, List.getD_nil, go_sem, Nat.reduceAdd, Nat.reduceBEq, Nat.reduceEqDiff, Nat.reduceLT, Nat.reduceLeDiff, reduceCtorEq, ↓reduceIte]
  refine ⟨fun h => ?_, fun h => ?_⟩
  · refine afin [0, 1] [aI 0, aB false] [rI ps, rI qs] (by simp) rfl (weak_of (by decide) (by simp [rowsLe, rowLe, slotsLe, tvLe, TV.ren, AV.ren, C.ren, Dat.ren, Row.ren, TV.hs, AV.hs, C.hs, Dat.hs, get_cons, get_nil, zipSlots, List.getD_cons_zero, List.getD_cons_succ, List.getD_nil, -List.getD_eq_getElem?_getD])) (by simp only [rtv, kendV, nt h, cond_false, and_self])
  · have hb := nf h
    obtain ⟨hb1, hb2, hl⟩ := bothB_t hb
    have h64 := permB_len hb1
    have hs : ∀ i, i ≤ ps.length → 0 ≤ triL (dif ps qs) i ∧ triL (dif ps qs) i ≤ 64 * 64 := fun i hi => by
      have := sumR_nat_le (f := fun i => cntR (fun k => dif ps qs i k) 0 i) (b := 64) i (fun j hj => by have := cntR_le (fun k => dif ps qs j k) 0 j; omega)
      unfold triL; omega
    refine aloop (σ := Nat) (fun i => ([(0, tS 0 ps.length), (1, tS 1 qs.length), (6, tI (triL (dif ps qs) i)), (14, tI ps.length), (15, tI i)], [rI ps, rI qs])) (fun i => i ≤ ps.length) (fun i => ps.length - i) 0 [0, 1] (by omega) (weak_of (by decide) (by simp [rowsLe, rowLe, slotsLe, tvLe, TV.ren, AV.ren, C.ren, Dat.ren, Row.ren, TV.hs, AV.hs, C.hs, Dat.hs, get_cons, get_nil, zipSlots, List.getD_cons_zero, List.getD_cons_succ, List.getD_nil, -List.getD_eq_getElem?_getD, triL, sumR])) ?_
    intro i hi
    have hsi := hs i hi
    simp (dsimp := false) only [go_sem, Nat.reduceAdd, Nat.reduceBEq, Nat.reduceEqDiff, Nat.reduceLT, Nat.reduceLeDiff, reduceCtorEq, ↓reduceIte]
    refine ⟨fun hh => ?_, fun hh => ?_⟩
    · have h1 : i < ps.length := by simp at hh; omega
      repeat (refine And.intro (by first | exact True.intro | omega | kernel_rfl | (simp only [List.length_set, List.length_append, List.length_take, List.length_replicate, List.length_cons, true_and, and_true, List.length_nil, tabR_length]; omega)) ?_)
      refine aloop (σ := Nat) (fun k => ([(0, tS 0 ps.length), (1, tS 1 qs.length), (6, tI (triL (dif ps qs) i + (cntR (fun k => dif ps qs i k) 0 k : Nat))), (7, tI i), (14, tI ps.length), (15, tI i), (18, tI i), (19, tI k)], [rI ps, rI qs])) (fun k => k ≤ i) (fun k => i - k) 0 [0, 1] (by omega) (weak_of (by decide) (by simp [rowsLe, rowLe, slotsLe, tvLe, TV.ren, AV.ren, C.ren, Dat.ren, Row.ren, TV.hs, AV.hs, C.hs, Dat.hs, get_cons, get_nil, zipSlots, List.getD_cons_zero, List.getD_cons_succ, List.getD_nil, -List.getD_eq_getElem?_getD, cntR])) ?_
      intro k hk
      have hc := cntR_le (fun k => dif ps qs i k) 0 k
      simp (dsimp := false) only [go_sem, Nat.reduceAdd, Nat.reduceBEq, Nat.reduceEqDiff, Nat.reduceLT, Nat.reduceLeDiff, reduceCtorEq, ↓reduceIte]
      refine ⟨fun hh => ?_, fun hh => ?_⟩
      · have h2 : k < i := by simp at hh; omega
        repeat (refine And.intro (by first | exact True.intro | omega | kernel_rfl | (simp only [List.length_set, List.length_append, List.length_take, List.length_replicate, List.length_cons, true_and, and_true, List.length_nil, tabR_length]; omega)) ?_)
        refine ⟨fun h => ?_, fun h => ?_⟩
        · have e : cntR (fun k => dif ps qs i k) 0 (k + 1) = _ := cntR_t (by simpa [dif] using h)
          repeat (refine And.intro (by first | exact True.intro | omega | kernel_rfl | (simp only [List.length_set, List.length_append, List.length_take, List.length_replicate, List.length_cons, true_and, and_true, List.length_nil, tabR_length]; omega)) ?_)
          refine ⟨k + 1, [0, 1], ?_, weak_of (by decide) (by simp [rowsLe, rowLe, slotsLe, tvLe, TV.ren, AV.ren, C.ren, Dat.ren, Row.ren, TV.hs, AV.hs, C.hs, Dat.hs, get_cons, get_nil, zipSlots, List.getD_cons_zero, List.getD_cons_succ, List.getD_nil, -List.getD_eq_getElem?_getD, e, Int.add_assoc])⟩
          omega
        · have e : cntR (fun k => dif ps qs i k) 0 (k + 1) = _ := cntR_f (by simpa [dif] using h)
          repeat (refine And.intro (by first | exact True.intro | omega | kernel_rfl | (simp only [List.length_set, List.length_append, List.length_take, List.length_replicate, List.length_cons, true_and, and_true, List.length_nil, tabR_length]; omega)) ?_)
          refine ⟨k + 1, [0, 1], ?_, weak_of (by decide) (by simp [rowsLe, rowLe, slotsLe, tvLe, TV.ren, AV.ren, C.ren, Dat.ren, Row.ren, TV.hs, AV.hs, C.hs, Dat.hs, get_cons, get_nil, zipSlots, List.getD_cons_zero, List.getD_cons_succ, List.getD_nil, -List.getD_eq_getElem?_getD, e, Int.add_assoc])⟩
          omega
      · have h2 : i = k := by simp at hh; omega
        subst h2
        have e : triL (dif ps qs) (i + 1) = triL (dif ps qs) i + (cntR (fun k => dif ps qs i k) 0 i : Nat) := rfl
        repeat (refine And.intro (by first | exact True.intro | omega | kernel_rfl | (simp only [List.length_set, List.length_append, List.length_take, List.length_replicate, List.length_cons, true_and, and_true, List.length_nil, tabR_length]; omega)) ?_)
        refine ⟨i + 1, [0, 1], ?_, weak_of (by decide) (by simp [rowsLe, rowLe, slotsLe, tvLe, TV.ren, AV.ren, C.ren, Dat.ren, Row.ren, TV.hs, AV.hs, C.hs, Dat.hs, get_cons, get_nil, zipSlots, List.getD_cons_zero, List.getD_cons_succ, List.getD_nil, -List.getD_eq_getElem?_getD, e])⟩
        omega
    · have h1 : i = ps.length := by simp at hh; omega
      subst h1
      refine afin [0, 1] [aI (triL (dif ps qs) ps.length), aB true] [rI ps, rI qs] (by simp) rfl (weak_of (by decide) (by simp [rowsLe, rowLe, slotsLe, tvLe, TV.ren, AV.ren, C.ren, Dat.ren, Row.ren, TV.hs, AV.hs, C.hs, Dat.hs, get_cons, get_nil, zipSlots, List.getD_cons_zero, List.getD_cons_succ, List.getD_nil, -List.getD_eq_getElem?_getD])) (by simp only [rtv, kendV, kend, hb, cond_true, and_self])

def footV (ps qs : List Int) : List AV := cond (bothB ps qs) [aI (foot ps qs), aB true] [aI 0, aB false]

theorem iSpearmanFootrule_l (ps qs : List Int) (hp : ps.length ≤ 281474976710656) (hq : qs.length ≤ 281474976710656) : ACalls Try.prog 29 [tS 0 ps.length, tS 1 qs.length] [] [rI ps, rI qs] (fun t H => t = .tup (footV ps qs) ∧ H = [rI ps, rI qs]) := by
  refine afun (fun i => match i with | 7 => some ⟨[], .op 0 .held (.op 1 .held (.op 2 .held (.op 3 .held (.op 4 .held (.op 5 .now (.op 6 .held (.op 7 .held (.op 8 .held (.op 9 .held (.op 10 .now (.op 11 .held (.op 12 .held (.op 13 .held (.op 14 .held (.op 15 .held .nil)))))))))))))))⟩ | _ => none) [4, 5] 2 Try.func29 rfl rfl mix (by kernel_rfl) (by kernel_rfl) (by simp [Try.f29]) rfl (by simp [msOwn, ownAll, Row.own]) ?_
  simp (dsimp := false) only [go_sem, Nat.reduceAdd, Nat.reduceBEq, Nat.reduceEqDiff, Nat.reduceLT, Nat.reduceLeDiff, reduceCtorEq, ↓reduceIte]
  refine ⟨_, (arePair_l ps qs hp hq).lift [0, 1] (by decide) (by simp) (by simp [rowsLe, rowLe, slotsLe, tvLe, TV.ren, AV.ren, C.ren, Dat.ren, Row.ren, TV.hs, AV.hs, C.hs, Dat.hs, get_cons, get_nil, zipSlots, List.getD_cons_zero, List.getD_cons_succ, List.getD_nil, -List.getD_eq_getElem?_getD]) (by simp [rowsLe, rowLe, slotsLe, tvLe, TV.ren, AV.ren, C.ren, Dat.ren, Row.ren, TV.hs, AV.hs, C.hs, Dat.hs, get_cons, get_nil, zipSlots, List.getD_cons_zero, List.getD_cons_succ, List.getD_nil, -List.getD_eq_getElem?_getD]) (by simp [rowsLe, rowLe, slotsLe, tvLe, TV.ren, AV.ren, C.ren, Dat.ren, Row.ren, TV.hs, AV.hs, C.hs, Dat.hs, get_cons, get_nil, zipSlots, List.getD_cons_zero, List.getD_cons_succ, List.getD_nil, -List.getD_eq_getElem?_getD]) rfl ?_⟩
  rintro _ _ ⟨rfl, rfl⟩
  refine ⟨by simp [ownIn, Row.own], ?_⟩
  simp (dsimp := false) only [liftT, liftH, putBack, freshR, ownIn, Row.own, Row.ren, TV.ren, AV.ren, C.ren, Dat.ren, List.drop_succ_cons, List.drop_nil, List.getD_cons_zero, List.getD_cons_succ, List.getD_nil, go_sem, Nat.reduceAdd, Nat.reduceBEq, Nat.reduceEqDiff, Nat.reduceLT, Nat.reduceLeDiff, reduceCtorEq, ↓reduceIte]
  refine ⟨fun h => ?_, fun h => ?_⟩
  · refine afin [0, 1] [aI 0, aB false] [rI ps, rI qs] (by simp) rfl (weak_of (by decide) (by simp [rowsLe, rowLe, slotsLe, tvLe, TV.ren, AV.ren, C.ren, Dat.ren, Row.ren, TV.hs, AV.hs, C.hs, Dat.hs, get_cons, get_nil, zipSlots, List.getD_cons_zero, List.getD_cons_succ, List.getD_nil, -List.getD_eq_getElem?_getD])) (by simp only [rtv, footV, nt h, cond_false, and_self])
  · have hb := nf h
    obtain ⟨hb1, hb2, hl⟩ := bothB_t hb
    have h64 := permB_len hb1
    have hs : ∀ i, i ≤ ps.length → 0 ≤ sumR (footF ps qs) i ∧ sumR (footF ps qs) i ≤ 64 * 64 := fun i hi => by
      have := sumR_bd (f := footF ps qs) (b := 64) i (fun j hj => footF_bd hb1 hb2 hl (by omega))
      omega
    refine aloop (σ := Nat) (fun i => ([(1, tS 1 qs.length), (6, tI (sumR (footF ps qs) i)), (13, tS 0 ps.length), (14, tI ps.length), (15, tI i)], [rI ps, rI qs])) (fun i => i ≤ ps.length) (fun i => ps.length - i) 0 [0, 1] (by omega) (weak_of (by decide) (by simp [rowsLe, rowLe, slotsLe, tvLe, TV.ren, AV.ren, C.ren, Dat.ren, Row.ren, TV.hs, AV.hs, C.hs, Dat.hs, get_cons, get_nil, zipSlots, List.getD_cons_zero, List.getD_cons_succ, List.getD_nil, -List.getD_eq_getElem?_getD, sumR])) ?_
    intro i hi
    have hsi := hs i hi
    simp (dsimp := false) only [go_sem, Nat.reduceAdd, Nat.reduceBEq, Nat.reduceEqDiff, Nat.reduceLT, Nat.reduceLeDiff, reduceCtorEq, ↓reduceIte]
    refine ⟨fun hh => ?_, fun hh => ?_⟩
    · have h1 : i < ps.length := by simp at hh; omega
      have e : sumR (footF ps qs) (i + 1) = sumR (footF ps qs) i + max (ps.getD i 0 - qs.getD i 0) (qs.getD i 0 - ps.getD i 0) := rfl
      have := hs (i + 1) h1
      have := permB_bd hb1 h1
      have := permB_bd hb2 (i := i) (by omega)
      repeat (refine And.intro (by first | exact True.intro | omega | kernel_rfl | (simp only [List.length_set, List.length_append, List.length_take, List.length_replicate, List.length_cons, true_and, and_true, List.length_nil, tabR_length]; omega)) ?_)
      refine ⟨i + 1, [0, 1], ?_, weak_of (by decide) (by simp [rowsLe, rowLe, slotsLe, tvLe, TV.ren, AV.ren, C.ren, Dat.ren, Row.ren, TV.hs, AV.hs, C.hs, Dat.hs, get_cons, get_nil, zipSlots, List.getD_cons_zero, List.getD_cons_succ, List.getD_nil, -List.getD_eq_getElem?_getD, e])⟩
      omega
    · have h1 : i = ps.length := by simp at hh; omega
      subst h1
      refine afin [0, 1] [aI (sumR (footF ps qs) ps.length), aB true] [rI ps, rI qs] (by simp) rfl (weak_of (by decide) (by simp [rowsLe, rowLe, slotsLe, tvLe, TV.ren, AV.ren, C.ren, Dat.ren, Row.ren, TV.hs, AV.hs, C.hs, Dat.hs, get_cons, get_nil, zipSlots, List.getD_cons_zero, List.getD_cons_succ, List.getD_nil, -List.getD_eq_getElem?_getD])) (by simp only [rtv, footV, foot, hb, cond_true, and_self])

end Go.Proofs.Ytpoappgfmjnioaa
