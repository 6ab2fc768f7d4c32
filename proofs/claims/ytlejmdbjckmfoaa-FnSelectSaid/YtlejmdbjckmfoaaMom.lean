/- Contracts: the median of medians, and selection by it. -/
import Derived.Test.YtlejmdbjckmfoaaKth
import Derived.Test.YtlejmdbjckmfoaaLeast
set_option linter.unusedSimpArgs false
set_option linter.unusedVariables false
set_option linter.unusedSectionVars false
namespace Go.Proofs.Ytlejmdbjckmfoaa
open Go Go.Ax
set_option maxRecDepth 10000
set_option maxHeartbeats 2000000

/-! ### Plain facts -/
def medS (xs : List Int) (o n : Nat) : Int := (srtL (seg xs o n)).getD ((n - 1) / 2) 0
def momG (ys : List Int) (j : Nat) : Int := medS ys (5 * j) (min (5 * j + 5) ys.length - 5 * j)
def momF : Nat → List Int → Int
  | 0, ys => medS ys 0 ys.length
  | f + 1, ys => if ys.length ≤ 5 then medS ys 0 ys.length else momF f (tabR (momG ys) ((ys.length + 4) / 5))
theorem momF_le {f : Nat} {ys : List Int} (h : ys.length ≤ 5) : momF f ys = medS ys 0 ys.length := by
  cases f with
  | zero => rfl
  | succ f => rw [momF, if_pos h]
theorem momF_gt {f : Nat} {ys : List Int} (h : ¬ ys.length ≤ 5) : momF (f + 1) ys = momF f (tabR (momG ys) ((ys.length + 4) / 5)) := by rw [momF, if_neg h]
theorem medS_mem (ys : List Int) (o n : Nat) (h : o + n ≤ ys.length) (h1 : 1 ≤ n) : medS ys o n ∈ ys := by
  have hl : (srtL (seg ys o n)).length = n := by rw [srtL_len, seg_len]
  have hm : medS ys o n ∈ srtL (seg ys o n) := getD_mem (by omega)
  have h2 := (srtL_perm (seg ys o n)).mem_iff.1 hm
  obtain ⟨i, hi, e⟩ := List.getElem_of_mem h2
  have hi' : i < n := by rw [seg_len] at hi; exact hi
  have e2 := seg_get ys o hi'
  rw [getD_lt hi, e] at e2
  rw [e2]
  exact getD_mem (by omega)
theorem momF_mem : ∀ (f : Nat) (ys : List Int), 1 ≤ ys.length → momF f ys ∈ ys
  | 0, ys, h => medS_mem ys 0 ys.length (by omega) h
  | f + 1, ys, h => by
    by_cases h5 : ys.length ≤ 5
    · rw [momF_le h5]; exact medS_mem ys 0 ys.length (by omega) h
    · rw [momF_gt h5]
      have := momF_mem f (tabR (momG ys) ((ys.length + 4) / 5)) (by rw [tabR_length]; omega)
      obtain ⟨i, hi, e⟩ := List.getElem_of_mem this
      have hi' : i < (ys.length + 4) / 5 := by rw [tabR_length] at hi; exact hi
      have e2 := tabR_get (momG ys) hi'
      rw [getD_lt hi, e] at e2
      rw [e2]
      exact medS_mem ys _ _ (by omega) (by omega)
def momC (ys : List Int) : Int := momF ys.length ys

theorem half_n {n : Nat} (h : 1 ≤ n) : ((n : Int) - 1).tdiv 2 = (((n - 1) / 2 : Nat) : Int) := by
  rw [show (n : Int) - 1 = ((n - 1 : Nat) : Int) by omega]; exact td2 _
theorem min_n (a b : Nat) : min (((a : Nat) : Int) + 5) (b : Int) = ((min (a + 5) b : Nat) : Int) := by omega

/-! ### Walks -/
theorem lowerMedian_l (xs : List Int) (o n : Nat) (hl : o + n ≤ xs.length) (h1 : 1 ≤ n) (hN : n ≤ 281474976710) : ACalls Try.prog 102 [tO 0 o n] [] [rI xs] (fun t H => t = tI (medS xs o n) ∧ H = [rI xs]) := by
  have hsl : (srtL (seg xs o n)).length = n := by rw [srtL_len, seg_len]
  have hh := half_n h1
  refine afun (fun _ => none) [2] 1 Try.func102 rfl rfl mix (by kernel_rfl) (by kernel_rfl) (by simp [Try.f102]) rfl (by simp [msOwn, ownAll, Row.own]) ?_
  simp (dsimp := false) only [go_sem, Nat.reduceAdd, Nat.reduceBEq, Nat.reduceEqDiff, Nat.reduceLT, Nat.reduceLeDiff, reduceCtorEq, ↓reduceIte]
  repeat (refine And.intro (by first | exact True.intro | omega | kernel_rfl | (simp only [List.length_set, List.length_append, List.length_take, List.length_replicate, List.length_cons, true_and, and_true, List.length_nil, tabR_length]; omega)) ?_)
  refine ⟨_, (sorted_l xs o n hl hN).lift [0] (by decide) (by simp) (by simp [RS.slot, List.map_cons, List.map_nil, rowsLe, rowLe, slotsLe, tvLe, TV.ren, AV.ren, C.ren, Dat.ren, Row.ren, TV.hs, AV.hs, C.hs, Dat.hs, get_cons, get_nil, zipSlots, List.getD_cons_zero, List.getD_cons_succ, List.getD_nil, -List.getD_eq_getElem?_getD]) (by simp [RS.slot, List.map_cons, List.map_nil, rowsLe, rowLe, slotsLe, tvLe, TV.ren, AV.ren, C.ren, Dat.ren, Row.ren, TV.hs, AV.hs, C.hs, Dat.hs, get_cons, get_nil, zipSlots, List.getD_cons_zero, List.getD_cons_succ, List.getD_nil, -List.getD_eq_getElem?_getD]) (by simp [RS.slot, List.map_cons, List.map_nil, rowsLe, rowLe, slotsLe, tvLe, TV.ren, AV.ren, C.ren, Dat.ren, Row.ren, TV.hs, AV.hs, C.hs, Dat.hs, get_cons, get_nil, zipSlots, List.getD_cons_zero, List.getD_cons_succ, List.getD_nil, -List.getD_eq_getElem?_getD]) rfl ?_⟩
  rintro _ _ ⟨rfl, rfl⟩
  refine ⟨by simp [ownIn, Row.own], ?_⟩
  simp (dsimp := false) only [liftT, liftH, putBack, freshR, ownIn, Row.own, Row.ren, TV.ren, AV.ren, C.ren, Dat.ren, List.drop_succ_cons, List.drop_nil, List.getD_cons_zero, List.getD_cons_succ, List.getD_nil, go_sem, Nat.reduceAdd, Nat.reduceBEq, Nat.reduceEqDiff, Nat.reduceLT, Nat.reduceLeDiff, reduceCtorEq, ↓reduceIte]
  repeat (refine And.intro (by first | exact True.intro | omega | kernel_rfl | (simp only [List.length_set, List.length_append, List.length_take, List.length_replicate, List.length_cons, true_and, and_true, List.length_nil, tabR_length]; omega)) ?_)
  simp (dsimp := false) only [hh, go_sem, Nat.reduceAdd, Nat.reduceBEq, Nat.reduceEqDiff, Nat.reduceLT, Nat.reduceLeDiff, reduceCtorEq, ↓reduceIte]
  repeat (refine And.intro (by first | exact True.intro | omega | kernel_rfl | (simp only [List.length_set, List.length_append, List.length_take, List.length_replicate, List.length_cons, true_and, and_true, List.length_nil, tabR_length]; omega)) ?_)
  refine afin [0] [aI (medS xs o n)] [rI xs] (by simp) rfl (weak_of (by decide) (by simp [RS.slot, List.map_cons, List.map_nil, rowsLe, rowLe, slotsLe, tvLe, TV.ren, AV.ren, C.ren, Dat.ren, Row.ren, TV.hs, AV.hs, C.hs, Dat.hs, get_cons, get_nil, zipSlots, List.getD_cons_zero, List.getD_cons_succ, List.getD_nil, -List.getD_eq_getElem?_getD, medS])) (by simp [rtv, medS, -List.getD_eq_getElem?_getD])

theorem medianOfMedians_l (xs : List Int) (h1 : 1 ≤ xs.length) (h64 : xs.length ≤ 64) : ACalls Try.prog 79 [tS 0 xs.length] [] [rI xs] (fun t H => t = tI (momC xs) ∧ H = [rI xs]) := by
  unfold momC
  obtain ⟨T, hT⟩ : ∃ T, T = momF xs.length xs := ⟨_, rfl⟩
  rw [← hT]
  refine afun (fun _ => none) [2] 1 Try.func79 rfl rfl mix (by kernel_rfl) (by kernel_rfl) (by simp [Try.f79]) rfl (by simp [msOwn, ownAll, Row.own]) ?_
  simp (dsimp := false) only [go_sem, Nat.reduceAdd, Nat.reduceBEq, Nat.reduceEqDiff, Nat.reduceLT, Nat.reduceLeDiff, reduceCtorEq, ↓reduceIte]
  refine aloopQ (σ := Option (List Int) × Nat) (fun s => ([(0, curV xs s.1)], curH xs s.1)) (fun s => 1 ≤ (s.1.getD xs).length ∧ (s.1.getD xs).length ≤ 64 ∧ (s.1.getD xs).length ≤ s.2 ∧ momF s.2 (s.1.getD xs) = T) (fun s => s.2) (none, xs.length) [0] ⟨h1, h64, Nat.le_refl _, hT.symm⟩ (weak_of (by decide) (by simp [RS.slot, List.map_cons, List.map_nil, rowsLe, rowLe, slotsLe, tvLe, TV.ren, AV.ren, C.ren, Dat.ren, Row.ren, TV.hs, AV.hs, C.hs, Dat.hs, get_cons, get_nil, zipSlots, List.getD_cons_zero, List.getD_cons_succ, List.getD_nil, -List.getD_eq_getElem?_getD, curV, curH])) ?_
  rintro Q hQ ⟨cur, f⟩ ⟨j1, j2, j3, j4⟩
  simp only at j1 j2 j3 j4
  obtain ⟨ys, hys⟩ : ∃ ys, ys = cur.getD xs := ⟨_, rfl⟩
  rw [← hys] at j1 j2 j3 j4
  have hsl := srtL_len ys
  have hh := half_n j1
  by_cases h5 : ys.length ≤ 5
  · have hd : decide ((5 : Int) < (ys.length : Int)) = false := decide_eq_false (by omega)
    rw [momF_le h5] at j4
    cases cur with
    | none =>
      simp only [Option.getD_none] at hys
      subst hys
      simp (dsimp := false) only [hd, curV, curH, go_sem, Nat.reduceAdd, Nat.reduceBEq, Nat.reduceEqDiff, Nat.reduceLT, Nat.reduceLeDiff, reduceCtorEq, ↓reduceIte]
      refine hQ _ _ _ ?_
      simp (dsimp := false) only [go_sem, Nat.reduceAdd, Nat.reduceBEq, Nat.reduceEqDiff, Nat.reduceLT, Nat.reduceLeDiff, reduceCtorEq, ↓reduceIte]
      repeat (refine And.intro (by first | exact True.intro | omega | kernel_rfl | (simp only [List.length_set, List.length_append, List.length_take, List.length_replicate, List.length_cons, true_and, and_true, List.length_nil, tabR_length]; omega)) ?_)
      refine ⟨_, (lowerMedian_l ys 0 ys.length (by omega) j1 (by omega)).lift [0] (by decide) (by simp) (by simp [RS.slot, List.map_cons, List.map_nil, rowsLe, rowLe, slotsLe, tvLe, TV.ren, AV.ren, C.ren, Dat.ren, Row.ren, TV.hs, AV.hs, C.hs, Dat.hs, get_cons, get_nil, zipSlots, List.getD_cons_zero, List.getD_cons_succ, List.getD_nil, -List.getD_eq_getElem?_getD]) (by simp [RS.slot, List.map_cons, List.map_nil, rowsLe, rowLe, slotsLe, tvLe, TV.ren, AV.ren, C.ren, Dat.ren, Row.ren, TV.hs, AV.hs, C.hs, Dat.hs, get_cons, get_nil, zipSlots, List.getD_cons_zero, List.getD_cons_succ, List.getD_nil, -List.getD_eq_getElem?_getD]) (by simp [RS.slot, List.map_cons, List.map_nil, rowsLe, rowLe, slotsLe, tvLe, TV.ren, AV.ren, C.ren, Dat.ren, Row.ren, TV.hs, AV.hs, C.hs, Dat.hs, get_cons, get_nil, zipSlots, List.getD_cons_zero, List.getD_cons_succ, List.getD_nil, -List.getD_eq_getElem?_getD]) rfl ?_⟩
      rintro _ _ ⟨rfl, rfl⟩
      refine ⟨by simp [ownIn, Row.own], ?_⟩
      simp (dsimp := false) only [hh, liftT, liftH, putBack, freshR, ownIn, Row.own, Row.ren, TV.ren, AV.ren, C.ren, Dat.ren, List.drop_succ_cons, List.drop_nil, List.getD_cons_zero, List.getD_cons_succ, List.getD_nil, go_sem, Nat.reduceAdd, Nat.reduceBEq, Nat.reduceEqDiff, Nat.reduceLT, Nat.reduceLeDiff, reduceCtorEq, ↓reduceIte]
      rw [j4]
      refine afin [0] [aI T] [rI ys] (by simp) rfl (weak_of (by decide) (by simp [RS.slot, List.map_cons, List.map_nil, rowsLe, rowLe, slotsLe, tvLe, TV.ren, AV.ren, C.ren, Dat.ren, Row.ren, TV.hs, AV.hs, C.hs, Dat.hs, get_cons, get_nil, zipSlots, List.getD_cons_zero, List.getD_cons_succ, List.getD_nil, -List.getD_eq_getElem?_getD])) (by simp [rtv])
    | some zs =>
      simp only [Option.getD_some] at hys
      subst hys
      simp (dsimp := false) only [hd, curV, curH, go_sem, Nat.reduceAdd, Nat.reduceBEq, Nat.reduceEqDiff, Nat.reduceLT, Nat.reduceLeDiff, reduceCtorEq, ↓reduceIte]
      refine hQ _ _ _ ?_
      simp (dsimp := false) only [go_sem, Nat.reduceAdd, Nat.reduceBEq, Nat.reduceEqDiff, Nat.reduceLT, Nat.reduceLeDiff, reduceCtorEq, ↓reduceIte]
      repeat (refine And.intro (by first | exact True.intro | omega | kernel_rfl | (simp only [List.length_set, List.length_append, List.length_take, List.length_replicate, List.length_cons, true_and, and_true, List.length_nil, tabR_length]; omega)) ?_)
      refine ⟨_, (lowerMedian_l ys 0 ys.length (by omega) j1 (by omega)).lift [1] (by decide) (by simp) (by simp [RS.slot, List.map_cons, List.map_nil, rowsLe, rowLe, slotsLe, tvLe, TV.ren, AV.ren, C.ren, Dat.ren, Row.ren, TV.hs, AV.hs, C.hs, Dat.hs, get_cons, get_nil, zipSlots, List.getD_cons_zero, List.getD_cons_succ, List.getD_nil, -List.getD_eq_getElem?_getD]) (by simp [RS.slot, List.map_cons, List.map_nil, rowsLe, rowLe, slotsLe, tvLe, TV.ren, AV.ren, C.ren, Dat.ren, Row.ren, TV.hs, AV.hs, C.hs, Dat.hs, get_cons, get_nil, zipSlots, List.getD_cons_zero, List.getD_cons_succ, List.getD_nil, -List.getD_eq_getElem?_getD]) (by simp [RS.slot, List.map_cons, List.map_nil, rowsLe, rowLe, slotsLe, tvLe, TV.ren, AV.ren, C.ren, Dat.ren, Row.ren, TV.hs, AV.hs, C.hs, Dat.hs, get_cons, get_nil, zipSlots, List.getD_cons_zero, List.getD_cons_succ, List.getD_nil, -List.getD_eq_getElem?_getD]) rfl ?_⟩
      rintro _ _ ⟨rfl, rfl⟩
      refine ⟨by simp [ownIn, Row.own], ?_⟩
      simp (dsimp := false) only [hh, liftT, liftH, putBack, freshR, ownIn, Row.own, Row.ren, TV.ren, AV.ren, C.ren, Dat.ren, List.drop_succ_cons, List.drop_nil, List.getD_cons_zero, List.getD_cons_succ, List.getD_nil, go_sem, Nat.reduceAdd, Nat.reduceBEq, Nat.reduceEqDiff, Nat.reduceLT, Nat.reduceLeDiff, reduceCtorEq, ↓reduceIte]
      rw [j4]
      refine afin [0] [aI T] [rI xs] (by simp) rfl (weak_of (by decide) (by simp [RS.slot, List.map_cons, List.map_nil, rowsLe, rowLe, slotsLe, tvLe, TV.ren, AV.ren, C.ren, Dat.ren, Row.ren, TV.hs, AV.hs, C.hs, Dat.hs, get_cons, get_nil, zipSlots, List.getD_cons_zero, List.getD_cons_succ, List.getD_nil, -List.getD_eq_getElem?_getD])) (by simp [rtv])
  · have hd : decide ((5 : Int) < (ys.length : Int)) = true := decide_eq_true (by omega)
    obtain ⟨f, rfl⟩ : ∃ g, f = g + 1 := ⟨f - 1, by omega⟩
    rw [momF_gt h5] at j4
    obtain ⟨n, hn⟩ : ∃ n, n = ys.length := ⟨_, rfl⟩
    cases cur with
    | none =>
      simp only [Option.getD_none] at hys
      subst hys
      simp (dsimp := false) only [hd, curV, curH, go_sem, Nat.reduceAdd, Nat.reduceBEq, Nat.reduceEqDiff, Nat.reduceLT, Nat.reduceLeDiff, reduceCtorEq, ↓reduceIte]
      repeat (refine And.intro (by first | exact True.intro | omega | kernel_rfl | (simp only [List.length_set, List.length_append, List.length_take, List.length_replicate, List.length_cons, true_and, and_true, List.length_nil, tabR_length]; omega)) ?_)
      refine aloopQ (σ := Nat) (fun j => ([(0, tS 0 ys.length), (3, tS 1 j), (4, tI (5 * j : Nat))], [rI ys, oI (tabR (momG ys) j)])) (fun j => j ≤ (ys.length + 4) / 5) (fun j => ys.length - j) 0 [0, 1] (by omega) (weak_of (by decide) (by simp [RS.slot, List.map_cons, List.map_nil, rowsLe, rowLe, slotsLe, tvLe, TV.ren, AV.ren, C.ren, Dat.ren, Row.ren, TV.hs, AV.hs, C.hs, Dat.hs, get_cons, get_nil, zipSlots, List.getD_cons_zero, List.getD_cons_succ, List.getD_nil, -List.getD_eq_getElem?_getD, tabR])) ?_
      rintro Q2 hQ2 j hj
      by_cases hc : 5 * j < ys.length
      · have hcd : decide (((5 * j : Nat) : Int) < (ys.length : Int)) = true := decide_eq_true (by omega)
        obtain ⟨r, hr⟩ : ∃ r, r = min (5 * j + 5) ys.length := ⟨_, rfl⟩
        have hmin := min_n (5 * j) ys.length
        rw [← hr] at hmin
        have eg : momG ys j = medS ys (5 * j) (r - 5 * j) := by rw [momG, ← hr]
        have et : tabR (momG ys) (j + 1) = tabR (momG ys) j ++ [medS ys (5 * j) (r - 5 * j)] := by rw [tabR_succ, eg]
        have hi5 : ((5 * (j + 1) : Nat) : Int) = ((5 * j : Nat) : Int) + 5 := by omega
        simp (dsimp := false) only [hcd, hmin, go_sem, Nat.reduceAdd, Nat.reduceBEq, Nat.reduceEqDiff, Nat.reduceLT, Nat.reduceLeDiff, reduceCtorEq, ↓reduceIte]
        repeat (refine And.intro (by first | exact True.intro | omega | kernel_rfl | (simp only [List.length_set, List.length_append, List.length_take, List.length_replicate, List.length_cons, true_and, and_true, List.length_nil, tabR_length]; omega)) ?_)
        repeat (refine And.intro (by first | exact True.intro | omega | kernel_rfl | (simp only [List.length_set, List.length_append, List.length_take, List.length_replicate, List.length_cons, true_and, and_true, List.length_nil, tabR_length]; omega)) ?_)
        refine ⟨_, (lowerMedian_l ys (5 * j) (r - 5 * j) (by omega) (by omega) (by omega)).lift [0] (by decide) (by simp) (by simp [RS.slot, List.map_cons, List.map_nil, rowsLe, rowLe, slotsLe, tvLe, TV.ren, AV.ren, C.ren, Dat.ren, Row.ren, TV.hs, AV.hs, C.hs, Dat.hs, get_cons, get_nil, zipSlots, List.getD_cons_zero, List.getD_cons_succ, List.getD_nil, -List.getD_eq_getElem?_getD]) (by simp [RS.slot, List.map_cons, List.map_nil, rowsLe, rowLe, slotsLe, tvLe, TV.ren, AV.ren, C.ren, Dat.ren, Row.ren, TV.hs, AV.hs, C.hs, Dat.hs, get_cons, get_nil, zipSlots, List.getD_cons_zero, List.getD_cons_succ, List.getD_nil, -List.getD_eq_getElem?_getD]) (by simp [RS.slot, List.map_cons, List.map_nil, rowsLe, rowLe, slotsLe, tvLe, TV.ren, AV.ren, C.ren, Dat.ren, Row.ren, TV.hs, AV.hs, C.hs, Dat.hs, get_cons, get_nil, zipSlots, List.getD_cons_zero, List.getD_cons_succ, List.getD_nil, -List.getD_eq_getElem?_getD]) rfl ?_⟩
        rintro _ _ ⟨rfl, rfl⟩
        refine ⟨by simp [ownIn, Row.own], ?_⟩
        simp (dsimp := false) only [hmin, liftT, liftH, putBack, freshR, ownIn, Row.own, Row.ren, TV.ren, AV.ren, C.ren, Dat.ren, List.drop_succ_cons, List.drop_nil, List.getD_cons_zero, List.getD_cons_succ, List.getD_nil, go_sem, Nat.reduceAdd, Nat.reduceBEq, Nat.reduceEqDiff, Nat.reduceLT, Nat.reduceLeDiff, reduceCtorEq, ↓reduceIte]
        repeat (refine And.intro (by first | exact True.intro | omega | kernel_rfl | (simp only [List.length_set, List.length_append, List.length_take, List.length_replicate, List.length_cons, true_and, and_true, List.length_nil, tabR_length]; omega)) ?_)
        refine ⟨j + 1, [0, 3], ?_, weak_of (by decide) (by simp [RS.slot, List.map_cons, List.map_nil, rowsLe, rowLe, slotsLe, tvLe, TV.ren, AV.ren, C.ren, Dat.ren, Row.ren, TV.hs, AV.hs, C.hs, Dat.hs, get_cons, get_nil, zipSlots, List.getD_cons_zero, List.getD_cons_succ, List.getD_nil, -List.getD_eq_getElem?_getD, et, hi5])⟩
        omega
      · have hcd : decide (((5 * j : Nat) : Int) < (ys.length : Int)) = false := decide_eq_false (by omega)
        have ej : j = (ys.length + 4) / 5 := by omega
        simp (dsimp := false) only [hcd, go_sem, Nat.reduceAdd, Nat.reduceBEq, Nat.reduceEqDiff, Nat.reduceLT, Nat.reduceLeDiff, reduceCtorEq, ↓reduceIte]
        refine hQ2 _ _ _ ?_
        simp (dsimp := false) only [go_sem, Nat.reduceAdd, Nat.reduceBEq, Nat.reduceEqDiff, Nat.reduceLT, Nat.reduceLeDiff, reduceCtorEq, ↓reduceIte]
        refine ⟨(some (tabR (momG ys) j), f), [0, 1], ?_, weak_of (by decide) (by simp [RS.slot, List.map_cons, List.map_nil, rowsLe, rowLe, slotsLe, tvLe, TV.ren, AV.ren, C.ren, Dat.ren, Row.ren, TV.hs, AV.hs, C.hs, Dat.hs, get_cons, get_nil, zipSlots, List.getD_cons_zero, List.getD_cons_succ, List.getD_nil, -List.getD_eq_getElem?_getD, curV, curH, tabR_length])⟩
        dsimp only [Option.getD_some]
        rw [tabR_length, ej]
        exact ⟨⟨by omega, by omega, by omega, j4⟩, by omega⟩
    | some zs =>
      simp only [Option.getD_some] at hys
      subst hys
      simp (dsimp := false) only [hd, curV, curH, go_sem, Nat.reduceAdd, Nat.reduceBEq, Nat.reduceEqDiff, Nat.reduceLT, Nat.reduceLeDiff, reduceCtorEq, ↓reduceIte]
      repeat (refine And.intro (by first | exact True.intro | omega | kernel_rfl | (simp only [List.length_set, List.length_append, List.length_take, List.length_replicate, List.length_cons, true_and, and_true, List.length_nil, tabR_length]; omega)) ?_)
      refine aloopQ (σ := Nat) (fun j => ([(0, tS 1 ys.length), (3, tS 2 j), (4, tI (5 * j : Nat))], [rI xs, oI ys, oI (tabR (momG ys) j)])) (fun j => j ≤ (ys.length + 4) / 5) (fun j => ys.length - j) 0 [0, 1, 2] (by omega) (weak_of (by decide) (by simp [RS.slot, List.map_cons, List.map_nil, rowsLe, rowLe, slotsLe, tvLe, TV.ren, AV.ren, C.ren, Dat.ren, Row.ren, TV.hs, AV.hs, C.hs, Dat.hs, get_cons, get_nil, zipSlots, List.getD_cons_zero, List.getD_cons_succ, List.getD_nil, -List.getD_eq_getElem?_getD, tabR])) ?_
      rintro Q2 hQ2 j hj
      by_cases hc : 5 * j < ys.length
      · have hcd : decide (((5 * j : Nat) : Int) < (ys.length : Int)) = true := decide_eq_true (by omega)
        obtain ⟨r, hr⟩ : ∃ r, r = min (5 * j + 5) ys.length := ⟨_, rfl⟩
        have hmin := min_n (5 * j) ys.length
        rw [← hr] at hmin
        have eg : momG ys j = medS ys (5 * j) (r - 5 * j) := by rw [momG, ← hr]
        have et : tabR (momG ys) (j + 1) = tabR (momG ys) j ++ [medS ys (5 * j) (r - 5 * j)] := by rw [tabR_succ, eg]
        have hi5 : ((5 * (j + 1) : Nat) : Int) = ((5 * j : Nat) : Int) + 5 := by omega
        simp (dsimp := false) only [hcd, hmin, go_sem, Nat.reduceAdd, Nat.reduceBEq, Nat.reduceEqDiff, Nat.reduceLT, Nat.reduceLeDiff, reduceCtorEq, ↓reduceIte]
        repeat (refine And.intro (by first | exact True.intro | omega | kernel_rfl | (simp only [List.length_set, List.length_append, List.length_take, List.length_replicate, List.length_cons, true_and, and_true, List.length_nil, tabR_length]; omega)) ?_)
        repeat (refine And.intro (by first | exact True.intro | omega | kernel_rfl | (simp only [List.length_set, List.length_append, List.length_take, List.length_replicate, List.length_cons, true_and, and_true, List.length_nil, tabR_length]; omega)) ?_)
        refine ⟨_, (lowerMedian_l ys (5 * j) (r - 5 * j) (by omega) (by omega) (by omega)).lift [1] (by decide) (by simp) (by simp [RS.slot, List.map_cons, List.map_nil, rowsLe, rowLe, slotsLe, tvLe, TV.ren, AV.ren, C.ren, Dat.ren, Row.ren, TV.hs, AV.hs, C.hs, Dat.hs, get_cons, get_nil, zipSlots, List.getD_cons_zero, List.getD_cons_succ, List.getD_nil, -List.getD_eq_getElem?_getD]) (by simp [RS.slot, List.map_cons, List.map_nil, rowsLe, rowLe, slotsLe, tvLe, TV.ren, AV.ren, C.ren, Dat.ren, Row.ren, TV.hs, AV.hs, C.hs, Dat.hs, get_cons, get_nil, zipSlots, List.getD_cons_zero, List.getD_cons_succ, List.getD_nil, -List.getD_eq_getElem?_getD]) (by simp [RS.slot, List.map_cons, List.map_nil, rowsLe, rowLe, slotsLe, tvLe, TV.ren, AV.ren, C.ren, Dat.ren, Row.ren, TV.hs, AV.hs, C.hs, Dat.hs, get_cons, get_nil, zipSlots, List.getD_cons_zero, List.getD_cons_succ, List.getD_nil, -List.getD_eq_getElem?_getD]) rfl ?_⟩
        rintro _ _ ⟨rfl, rfl⟩
        refine ⟨by simp [ownIn, Row.own], ?_⟩
        simp (dsimp := false) only [hmin, liftT, liftH, putBack, freshR, ownIn, Row.own, Row.ren, TV.ren, AV.ren, C.ren, Dat.ren, List.drop_succ_cons, List.drop_nil, List.getD_cons_zero, List.getD_cons_succ, List.getD_nil, go_sem, Nat.reduceAdd, Nat.reduceBEq, Nat.reduceEqDiff, Nat.reduceLT, Nat.reduceLeDiff, reduceCtorEq, ↓reduceIte]
        repeat (refine And.intro (by first | exact True.intro | omega | kernel_rfl | (simp only [List.length_set, List.length_append, List.length_take, List.length_replicate, List.length_cons, true_and, and_true, List.length_nil, tabR_length]; omega)) ?_)
        refine ⟨j + 1, [0, 1, 4], ?_, weak_of (by decide) (by simp [RS.slot, List.map_cons, List.map_nil, rowsLe, rowLe, slotsLe, tvLe, TV.ren, AV.ren, C.ren, Dat.ren, Row.ren, TV.hs, AV.hs, C.hs, Dat.hs, get_cons, get_nil, zipSlots, List.getD_cons_zero, List.getD_cons_succ, List.getD_nil, -List.getD_eq_getElem?_getD, et, hi5])⟩
        omega
      · have hcd : decide (((5 * j : Nat) : Int) < (ys.length : Int)) = false := decide_eq_false (by omega)
        have ej : j = (ys.length + 4) / 5 := by omega
        simp (dsimp := false) only [hcd, go_sem, Nat.reduceAdd, Nat.reduceBEq, Nat.reduceEqDiff, Nat.reduceLT, Nat.reduceLeDiff, reduceCtorEq, ↓reduceIte]
        refine hQ2 _ _ _ ?_
        simp (dsimp := false) only [go_sem, Nat.reduceAdd, Nat.reduceBEq, Nat.reduceEqDiff, Nat.reduceLT, Nat.reduceLeDiff, reduceCtorEq, ↓reduceIte]
        refine ⟨(some (tabR (momG ys) j), f), [0, 2], ?_, weak_of (by decide) (by simp [RS.slot, List.map_cons, List.map_nil, rowsLe, rowLe, slotsLe, tvLe, TV.ren, AV.ren, C.ren, Dat.ren, Row.ren, TV.hs, AV.hs, C.hs, Dat.hs, get_cons, get_nil, zipSlots, List.getD_cons_zero, List.getD_cons_succ, List.getD_nil, -List.getD_eq_getElem?_getD, curV, curH, tabR_length])⟩
        dsimp only [Option.getD_some]
        rw [tabR_length, ej]
        exact ⟨⟨by omega, by omega, by omega, j4⟩, by omega⟩

def momV (xs : List Int) : List AV := cond (validB xs && decide (1 ≤ xs.length)) [aI (momC xs), aB true] [aI 0, aB false]
/-! ### SelectByMedians -/
def smV (xs : List Int) (k : Int) : List AV := cond (rankOk xs k) [aI (selB momC xs.length xs k.toNat).1, aI (selB momC xs.length xs k.toNat).2.1, aB true] [aI 0, aI 0, aB false]
theorem iSelectByMedians_l (xs : List Int) (k : Int) (hx : xs.length ≤ 281474976710) : ACalls Try.prog 41 [tS 0 xs.length, tI k] [] [rI xs] (fun t H => t = .tup (smV xs k) ∧ H = [rI xs]) := by
  refine afun (fun _ => none) [4, 5, 6] 1 Try.func41 rfl rfl mix (by kernel_rfl) (by kernel_rfl) (by simp [Try.f41]) rfl (by simp [msOwn, ownAll, Row.own]) ?_
  simp (dsimp := false) only [go_sem, Nat.reduceAdd, Nat.reduceBEq, Nat.reduceEqDiff, Nat.reduceLT, Nat.reduceLeDiff, reduceCtorEq, ↓reduceIte]
  repeat (refine And.intro (by first | exact True.intro | omega | kernel_rfl | (simp only [List.length_set, List.length_append, List.length_take, List.length_replicate, List.length_cons, true_and, and_true, List.length_nil, tabR_length]; omega)) ?_)
  refine ⟨_, (isRank_l xs k (by omega)).lift [0] (by decide) (by simp) (by simp [RS.slot, List.map_cons, List.map_nil, rowsLe, rowLe, slotsLe, tvLe, TV.ren, AV.ren, C.ren, Dat.ren, Row.ren, TV.hs, AV.hs, C.hs, Dat.hs, get_cons, get_nil, zipSlots, List.getD_cons_zero, List.getD_cons_succ, List.getD_nil, -List.getD_eq_getElem?_getD]) (by simp [RS.slot, List.map_cons, List.map_nil, rowsLe, rowLe, slotsLe, tvLe, TV.ren, AV.ren, C.ren, Dat.ren, Row.ren, TV.hs, AV.hs, C.hs, Dat.hs, get_cons, get_nil, zipSlots, List.getD_cons_zero, List.getD_cons_succ, List.getD_nil, -List.getD_eq_getElem?_getD]) (by simp [RS.slot, List.map_cons, List.map_nil, rowsLe, rowLe, slotsLe, tvLe, TV.ren, AV.ren, C.ren, Dat.ren, Row.ren, TV.hs, AV.hs, C.hs, Dat.hs, get_cons, get_nil, zipSlots, List.getD_cons_zero, List.getD_cons_succ, List.getD_nil, -List.getD_eq_getElem?_getD]) rfl ?_⟩
  rintro _ _ ⟨rfl, rfl⟩
  refine ⟨by simp [ownIn, Row.own], ?_⟩
  simp (dsimp := false) only [liftT, liftH, putBack, freshR, ownIn, Row.own, Row.ren, TV.ren, AV.ren, C.ren, Dat.ren, List.drop_succ_cons, List.drop_nil, List.getD_cons_zero, List.getD_cons_succ, List.getD_nil, go_sem, Nat.reduceAdd, Nat.reduceBEq, Nat.reduceEqDiff, Nat.reduceLT, Nat.reduceLeDiff, reduceCtorEq, ↓reduceIte]
  refine ⟨fun h => ?_, fun h => ?_⟩
  · refine afin [0] [aI 0, aI 0, aB false] [rI xs] (by simp) rfl (weak_of (by decide) (by simp [RS.slot, List.map_cons, List.map_nil, rowsLe, rowLe, slotsLe, tvLe, TV.ren, AV.ren, C.ren, Dat.ren, Row.ren, TV.hs, AV.hs, C.hs, Dat.hs, get_cons, get_nil, zipSlots, List.getD_cons_zero, List.getD_cons_succ, List.getD_nil, -List.getD_eq_getElem?_getD])) (by simp only [rtv, smV, nt h, cond_false, and_self])
  · obtain ⟨hv, K, rfl, hK⟩ := rankOk_t (nf h)
    have h64 := validB_len hv
    repeat (refine And.intro (by first | exact True.intro | omega | kernel_rfl | (simp only [List.length_set, List.length_append, List.length_take, List.length_replicate, List.length_cons, true_and, and_true, List.length_nil, tabR_length]; omega)) ?_)
    refine ⟨_, (selectBy_l momC _ (fun ys h1 h2 => medianOfMedians_l ys h1 h2) (fun ys h1 => momF_mem _ ys h1) xs h64 K hK).lift [0] (by decide) (by simp) (by simp [RS.slot, List.map_cons, List.map_nil, rowsLe, rowLe, slotsLe, tvLe, TV.ren, AV.ren, C.ren, Dat.ren, Row.ren, TV.hs, AV.hs, C.hs, Dat.hs, get_cons, get_nil, zipSlots, List.getD_cons_zero, List.getD_cons_succ, List.getD_nil, -List.getD_eq_getElem?_getD]) (by simp [RS.slot, List.map_cons, List.map_nil, rowsLe, rowLe, slotsLe, tvLe, TV.ren, AV.ren, C.ren, Dat.ren, Row.ren, TV.hs, AV.hs, C.hs, Dat.hs, get_cons, get_nil, zipSlots, List.getD_cons_zero, List.getD_cons_succ, List.getD_nil, -List.getD_eq_getElem?_getD]) (by simp [RS.slot, List.map_cons, List.map_nil, rowsLe, rowLe, slotsLe, tvLe, TV.ren, AV.ren, C.ren, Dat.ren, Row.ren, TV.hs, AV.hs, C.hs, Dat.hs, get_cons, get_nil, zipSlots, List.getD_cons_zero, List.getD_cons_succ, List.getD_nil, -List.getD_eq_getElem?_getD]) rfl ?_⟩
    rintro _ _ ⟨rfl, rfl⟩
    refine ⟨by simp [ownIn, Row.own], ?_⟩
    simp (dsimp := false) only [liftT, liftH, putBack, freshR, ownIn, Row.own, Row.ren, TV.ren, AV.ren, C.ren, Dat.ren, List.drop_succ_cons, List.drop_nil, List.getD_cons_zero, List.getD_cons_succ, List.getD_nil, go_sem, Nat.reduceAdd, Nat.reduceBEq, Nat.reduceEqDiff, Nat.reduceLT, Nat.reduceLeDiff, reduceCtorEq, ↓reduceIte]
    refine afin [0] [aI (selB momC xs.length xs K).1, aI (selB momC xs.length xs K).2.1, aB true] [rI xs] (by simp) rfl (weak_of (by decide) (by simp [RS.slot, List.map_cons, List.map_nil, rowsLe, rowLe, slotsLe, tvLe, TV.ren, AV.ren, C.ren, Dat.ren, Row.ren, TV.hs, AV.hs, C.hs, Dat.hs, get_cons, get_nil, zipSlots, List.getD_cons_zero, List.getD_cons_succ, List.getD_nil, -List.getD_eq_getElem?_getD])) (by simp only [rtv, smV, nf h, cond_true, Int.toNat_natCast, and_self])

end Go.Proofs.Ytlejmdbjckmfoaa
