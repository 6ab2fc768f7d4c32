/- Contracts of the drawing cursor: sums of any small values. -/
import Derived.Test.YtopblmkdpgncpaaCurD
import Derived.Test.YtopblmkdpgncpaaFenB
set_option linter.unusedSimpArgs false
set_option linter.unusedVariables false
set_option linter.unusedSectionVars false
namespace Go.Proofs.Ytopblmkdpgncpaa
open Go Go.Ax
set_option maxRecDepth 10000
set_option maxHeartbeats 1000000

theorem sumFW_bd {v : Nat → Int} {lo : Nat} : ∀ n : Nat, (∀ i, i < n → -1 ≤ v (lo + i) ∧ v (lo + i) ≤ 1001) → -(n : Int) ≤ sumF v lo n ∧ sumF v lo n ≤ n * 1001
  | 0, _ => by simp [sumF]
  | n + 1, h => by
    have h1 := sumFW_bd n (fun i hi => h i (by omega))
    have h2 := h n (by omega)
    simp only [sumF]
    constructor <;> omega
theorem fenSW_bd (vs : List Int) (h64 : vs.length ≤ 65) (hb : ∀ i, i < vs.length → -1 ≤ vs.getD i 0 ∧ vs.getD i 0 ≤ 1001) {i : Nat} (hi : i < vs.length) {j : Nat} (hj : j ≤ lowN (i + 1)) :
    -65 ≤ sumF (sF vs) (i + 1 - lowN (i + 1)) j ∧ sumF (sF vs) (i + 1 - lowN (i + 1)) j ≤ 65 * 1001 := by
  have hl := lowN_bd (n := i + 1) (by omega) (by omega)
  have := sumFW_bd (v := sF vs) (lo := i + 1 - lowN (i + 1)) j (fun t ht => hb _ (by omega))
  omega

theorem l10SumsW_l (vs : List Int) (h64 : vs.length ≤ 65) (hb : ∀ i, i < vs.length → -1 ≤ vs.getD i 0 ∧ vs.getD i 0 ≤ 1001) :
    ACalls Try.prog 67 [tS 0 vs.length] [] [rI vs] (fun t H => t = tS 1 vs.length ∧ H = [rI vs, oI (tabR (fenS (sF vs)) vs.length)]) := by
  refine afun (fun _ => none) [2] 1 Try.func67 rfl rfl mix (by kernel_rfl) (by kernel_rfl) (by simp [Try.f67]) rfl (by simp [msOwn, ownAll, Row.own]) ?_
  simp (dsimp := false) only [go_sem, Nat.reduceAdd, Nat.reduceBEq, Nat.reduceEqDiff, Nat.reduceLT, Nat.reduceLeDiff, reduceCtorEq, ↓reduceIte]
  refine aloop (σ := Nat) (fun i => ([(0, tS 0 vs.length), (3, tS 1 i), (4, tI i)], [rI vs, oI (tabR (fenS (sF vs)) i)])) (fun i => i ≤ vs.length) (fun i => vs.length - i) 0 [0, 1] (by omega) (weak_of (by decide) (by simp [RS.slot, List.map_cons, List.map_nil, rowsLe, rowLe, slotsLe, tvLe, TV.ren, AV.ren, C.ren, Dat.ren, Row.ren, TV.hs, AV.hs, C.hs, Dat.hs, get_cons, get_nil, zipSlots, List.getD_cons_zero, List.getD_cons_succ, List.getD_nil, -List.getD_eq_getElem?_getD, tabR])) ?_
  intro i hi
  by_cases hc : i < vs.length
  · have hcd : decide ((i : Int) < vs.length) = true := by simp; omega
    have hl := lowN_bd (n := i + 1) (by omega) (by omega)
    have hfb := fun j hj => fenSW_bd vs h64 hb hc (j := j) hj
    obtain ⟨lo, hlo⟩ : ∃ lo, lo = i + 1 - lowN (i + 1) := ⟨_, rfl⟩
    rw [← hlo] at hfb
    have hstep : tabR (fenS (sF vs)) (i + 1) = tabR (fenS (sF vs)) i ++ [sumF (sF vs) lo (lowN (i + 1))] := by rw [tabR_succ, hlo]; rfl
    simp (dsimp := false) only [hcd, go_sem, Nat.reduceAdd, Nat.reduceBEq, Nat.reduceEqDiff, Nat.reduceLT, Nat.reduceLeDiff, reduceCtorEq, ↓reduceIte]
    repeat (refine And.intro (by first | exact True.intro | omega | kernel_rfl | (simp only [List.length_set, List.length_append, List.length_take, List.length_replicate, List.length_cons, true_and, and_true, List.length_nil, tabR_length]; omega)) ?_)
    repeat (refine And.intro (by first | exact True.intro | omega | kernel_rfl | (simp only [List.length_set, List.length_append, List.length_take, List.length_replicate, List.length_cons, true_and, and_true, List.length_nil, tabR_length]; omega)) ?_)
    refine ⟨_, (l10Low_l (i + 1) (by omega) (by omega)).lift [] (by decide) (by simp) (by simp [RS.slot, List.map_cons, List.map_nil, rowsLe, rowLe, slotsLe, tvLe, TV.ren, AV.ren, C.ren, Dat.ren, Row.ren, TV.hs, AV.hs, C.hs, Dat.hs, get_cons, get_nil, zipSlots, List.getD_cons_zero, List.getD_cons_succ, List.getD_nil, -List.getD_eq_getElem?_getD]) (by simp [RS.slot, List.map_cons, List.map_nil, rowsLe, rowLe, slotsLe, tvLe, TV.ren, AV.ren, C.ren, Dat.ren, Row.ren, TV.hs, AV.hs, C.hs, Dat.hs, get_cons, get_nil, zipSlots, List.getD_cons_zero, List.getD_cons_succ, List.getD_nil, -List.getD_eq_getElem?_getD]) (by simp [RS.slot, List.map_cons, List.map_nil, rowsLe, rowLe, slotsLe, tvLe, TV.ren, AV.ren, C.ren, Dat.ren, Row.ren, TV.hs, AV.hs, C.hs, Dat.hs, get_cons, get_nil, zipSlots, List.getD_cons_zero, List.getD_cons_succ, List.getD_nil, -List.getD_eq_getElem?_getD]) rfl ?_⟩
    rintro _ _ ⟨rfl, rfl⟩
    refine ⟨by simp [ownIn, Row.own], ?_⟩
    simp (dsimp := false) only [liftT, liftH, putBack, freshR, ownIn, Row.own, Row.ren, TV.ren, AV.ren, C.ren, Dat.ren, List.drop_succ_cons, List.drop_nil, List.getD_cons_zero, List.getD_cons_succ, List.getD_nil, go_sem, Nat.reduceAdd, Nat.reduceBEq, Nat.reduceEqDiff, Nat.reduceLT, Nat.reduceLeDiff, reduceCtorEq, ↓reduceIte]
    repeat (refine And.intro (by first | exact True.intro | omega | kernel_rfl | (simp only [List.length_set, List.length_append, List.length_take, List.length_replicate, List.length_cons, true_and, and_true, List.length_nil, tabR_length]; omega)) ?_)
    refine aloop (σ := Nat) (fun j => ([(0, tS 0 vs.length), (3, tS 1 i), (4, tI i), (5, tI (sumF (sF vs) lo j)), (6, tI (lo + j : Nat))], [rI vs, oI (tabR (fenS (sF vs)) i)])) (fun j => j ≤ lowN (i + 1)) (fun j => lowN (i + 1) - j) 0 [0, 1] (by omega) (weak_of (by decide) (by simp [RS.slot, List.map_cons, List.map_nil, rowsLe, rowLe, slotsLe, tvLe, TV.ren, AV.ren, C.ren, Dat.ren, Row.ren, TV.hs, AV.hs, C.hs, Dat.hs, get_cons, get_nil, zipSlots, List.getD_cons_zero, List.getD_cons_succ, List.getD_nil, -List.getD_eq_getElem?_getD, sumF, show ((lo : Nat) : Int) = (i : Int) - (lowN (i + 1) : Nat) + 1 by omega])) ?_
    intro j hj
    have h1 := hfb j hj
    by_cases hjc : j < lowN (i + 1)
    · have hjd : decide (((lo + j : Nat) : Int) ≤ i) = true := decide_eq_true (by omega)
      have h2 := hfb (j + 1) (by omega)
      have hs : sumF (sF vs) lo (j + 1) = sumF (sF vs) lo j + vs.getD (lo + j) 0 := rfl
      rw [hs] at h2
      simp (dsimp := false) only [hjd, go_sem, Nat.reduceAdd, Nat.reduceBEq, Nat.reduceEqDiff, Nat.reduceLT, Nat.reduceLeDiff, reduceCtorEq, ↓reduceIte]
      repeat (refine And.intro (by first | exact True.intro | omega | kernel_rfl | (simp only [List.length_set, List.length_append, List.length_take, List.length_replicate, List.length_cons, true_and, and_true, List.length_nil, tabR_length]; omega)) ?_)
      refine ⟨j + 1, [0, 1], ?_, weak_of (by decide) (by simp [RS.slot, List.map_cons, List.map_nil, rowsLe, rowLe, slotsLe, tvLe, TV.ren, AV.ren, C.ren, Dat.ren, Row.ren, TV.hs, AV.hs, C.hs, Dat.hs, get_cons, get_nil, zipSlots, List.getD_cons_zero, List.getD_cons_succ, List.getD_nil, -List.getD_eq_getElem?_getD, hs, Int.add_assoc])⟩
      omega
    · have hjd : decide (((lo + j : Nat) : Int) ≤ i) = false := decide_eq_false (by omega)
      have ej : j = lowN (i + 1) := by omega
      simp (dsimp := false) only [hjd, go_sem, Nat.reduceAdd, Nat.reduceBEq, Nat.reduceEqDiff, Nat.reduceLT, Nat.reduceLeDiff, reduceCtorEq, ↓reduceIte]
      repeat (refine And.intro (by first | exact True.intro | omega | kernel_rfl | (simp only [List.length_set, List.length_append, List.length_take, List.length_replicate, List.length_cons, true_and, and_true, List.length_nil, tabR_length]; omega)) ?_)
      rw [ej]
      refine ⟨i + 1, [0, 3], ?_, weak_of (by decide) (by simp [RS.slot, List.map_cons, List.map_nil, rowsLe, rowLe, slotsLe, tvLe, TV.ren, AV.ren, C.ren, Dat.ren, Row.ren, TV.hs, AV.hs, C.hs, Dat.hs, get_cons, get_nil, zipSlots, List.getD_cons_zero, List.getD_cons_succ, List.getD_nil, -List.getD_eq_getElem?_getD, hstep])⟩
      omega
  · have hcd : decide ((i : Int) < vs.length) = false := by simp; omega
    have e : i = vs.length := by omega
    subst e
    simp (dsimp := false) only [hcd, go_sem, Nat.reduceAdd, Nat.reduceBEq, Nat.reduceEqDiff, Nat.reduceLT, Nat.reduceLeDiff, reduceCtorEq, ↓reduceIte]
    refine afin [0, 1] [aS 1 vs.length] [rI vs, oI (tabR (fenS (sF vs)) vs.length)] (by simp) rfl (weak_of (by decide) (by simp [RS.slot, List.map_cons, List.map_nil, rowsLe, rowLe, slotsLe, tvLe, TV.ren, AV.ren, C.ren, Dat.ren, Row.ren, TV.hs, AV.hs, C.hs, Dat.hs, get_cons, get_nil, zipSlots, List.getD_cons_zero, List.getD_cons_succ, List.getD_nil, -List.getD_eq_getElem?_getD])) (by simp [rtv])

end Go.Proofs.Ytopblmkdpgncpaa
