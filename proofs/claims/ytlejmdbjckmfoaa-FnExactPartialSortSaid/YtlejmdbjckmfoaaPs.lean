/- Contract: the program's partial sort. -/
import Derived.Test.YtlejmdbjckmfoaaPlWm
import Derived.Test.YtlejmdbjckmfoaaPrm
set_option linter.unusedSimpArgs false
set_option linter.unusedVariables false
set_option linter.unusedSectionVars false
namespace Go.Proofs.Ytlejmdbjckmfoaa
open Go Go.Ax
set_option maxRecDepth 10000
set_option maxHeartbeats 1000000

def psOk (xs : List Int) (k : Int) : Bool := validB xs && inB k 0 xs.length
theorem psOk_t {xs : List Int} {k : Int} (h : psOk xs k = true) : validB xs = true ∧ ∃ K : Nat, k = (K : Int) ∧ K ≤ xs.length := by
  simp only [psOk, Bool.and_eq_true] at h
  have h2 := h.2
  simp only [inB, Bool.and_eq_true, decide_eq_true_eq] at h2
  exact ⟨h.1, k.toNat, by omega, by omega⟩
/-- The elements among the first i whose rank is k or more. -/
def psR (xs : List Int) (k : Nat) : Nat → List Int
  | 0 => []
  | i + 1 => if rk xs i < k then psR xs k i else psR xs k i ++ [xs.getD i 0]
def psF (xs : List Int) (k : Nat) : List Int := (srtL xs).take k ++ psR xs k xs.length
theorem psR_len_le (xs : List Int) (k : Nat) : ∀ i, (psR xs k i).length ≤ i
  | 0 => Nat.le_refl _
  | i + 1 => by
    have := psR_len_le xs k i
    rw [psR]; split
    · omega
    · simp; omega
/-- How many of the first i have a rank below k. -/
def psC (xs : List Int) (k : Nat) : Nat → Nat
  | 0 => 0
  | i + 1 => psC xs k i + (if rk xs i < k then 1 else 0)
theorem psR_psC (xs : List Int) (k : Nat) : ∀ i, (psR xs k i).length + psC xs k i = i
  | 0 => rfl
  | i + 1 => by
    have := psR_psC xs k i
    rw [psR, psC]; split
    · omega
    · simp; omega
theorem psC_list (xs : List Int) (k : Nat) : ∀ i, psC xs k i = (idL i).countP (fun x => decide (rk xs x.toNat < k))
  | 0 => rfl
  | i + 1 => by
    rw [psC, psC_list xs k i, idL_succ, List.countP_append]
    simp [List.countP_cons]
theorem rk_get {xs : List Int} {q : Nat} (h : q < xs.length) : rk xs ((prm xs).getD q 0).toNat = q := by
  have := prm_get h
  exact rk_prm h (by omega)
/-- The parts of the permutation below and from rank k. -/
theorem psF_split (xs : List Int) (k : Nat) (hk : k ≤ xs.length) : (prm xs).filter (fun x => decide (rk xs x.toNat < k)) = (prm xs).take k ∧ (prm xs).filter (fun x => !decide (rk xs x.toNat < k)) = (prm xs).drop k := by
  have h1 : ∀ x ∈ (prm xs).take k, rk xs x.toNat < k := fun x hx => by
    obtain ⟨q, hq⟩ := List.mem_iff_getElem?.mp hx
    have hqk : q < k := by have := (List.getElem?_eq_some_iff.mp hq).1; simp at this; omega
    rw [List.getElem?_take, if_pos hqk] at hq
    have e : x = (prm xs).getD q 0 := by rw [List.getD_eq_getElem?_getD, hq]; rfl
    rw [e, rk_get (by omega)]; exact hqk
  have h2 : ∀ x ∈ (prm xs).drop k, ¬ rk xs x.toNat < k := fun x hx => by
    obtain ⟨q, hq⟩ := List.mem_iff_getElem?.mp hx
    have hqk : q < xs.length - k := by have := (List.getElem?_eq_some_iff.mp hq).1; simp [prm_len] at this; omega
    rw [List.getElem?_drop] at hq
    have e : x = (prm xs).getD (k + q) 0 := by rw [List.getD_eq_getElem?_getD, hq]; rfl
    rw [e, rk_get (by omega)]; omega
  have hc : prm xs = (prm xs).take k ++ (prm xs).drop k := (List.take_append_drop _ _).symm
  constructor
  · conv => lhs; rw [hc]
    rw [List.filter_append, List.filter_eq_self.mpr (fun x hx => by simpa using h1 x hx), List.filter_eq_nil_iff.mpr (fun x hx => by simpa using h2 x hx), List.append_nil]
  · conv => lhs; rw [hc]
    rw [List.filter_append, List.filter_eq_nil_iff.mpr (fun x hx => by simpa using h1 x hx), List.filter_eq_self.mpr (fun x hx => by simpa using h2 x hx), List.nil_append]
theorem psR_map (xs : List Int) (k : Nat) : ∀ i, psR xs k i = ((idL i).filter (fun x => !decide (rk xs x.toNat < k))).map (ky xs)
  | 0 => rfl
  | i + 1 => by
    rw [psR, psR_map xs k i, idL_succ, List.filter_append, List.map_append]
    by_cases e : rk xs i < k
    · rw [if_pos e]; simp [e]
    · rw [if_neg e]; simp [e, ky]
theorem psF_perm (xs : List Int) {k : Nat} (hk : k ≤ xs.length) : (psF xs k).Perm xs := by
  have h1 : (psR xs k xs.length).Perm (((prm xs).drop k).map (ky xs)) := by
    rw [psR_map, ← (psF_split xs k hk).2]
    exact ((prm_perm xs).symm.filter _).map _
  have h2 : (srtL xs).take k = ((prm xs).take k).map (ky xs) := by rw [srtL_prm, List.map_take]
  unfold psF
  rw [h2]
  refine (List.Perm.append_left _ h1).trans ?_
  rw [← List.map_append, List.take_append_drop]
  exact prm_map_perm xs
theorem psF_len (xs : List Int) {k : Nat} (hk : k ≤ xs.length) : (psF xs k).length = xs.length := (psF_perm xs hk).length_eq
theorem psF_take (xs : List Int) {k : Nat} (hk : k ≤ xs.length) : (psF xs k).take k = (srtL xs).take k := by
  unfold psF
  rw [List.take_append_of_le_length (by simp [srtL_len]; omega), List.take_take, Nat.min_self]

/-- Which are taken. -/
def tkB (xs : List Int) (q : Nat) : List Bool := (List.range xs.length).map (fun i => decide (rk xs i < q))
theorem tkB_len (xs : List Int) (q : Nat) : (tkB xs q).length = xs.length := by simp [tkB]
theorem tkB_zero (xs : List Int) : tkB xs 0 = List.replicate xs.length false := by
  apply List.ext_getElem?
  intro i
  unfold tkB
  simp only [List.getElem?_map, List.getElem?_range, List.getElem?_replicate]
  by_cases h : i < xs.length <;> simp [h]
theorem tkB_get {xs : List Int} {q i : Nat} (h : i < xs.length) : (tkB xs q).getD i false = decide (rk xs i < q) := by simp [tkB, List.getD_eq_getElem?_getD, h]
theorem tkB_set {xs : List Int} {q : Nat} (h : q < xs.length) : (tkB xs q).set ((prm xs).getD q 0).toNat true = tkB xs (q + 1) := by
  have hp := prm_get h
  apply List.ext_getElem?
  intro i
  rw [List.getElem?_set]
  unfold tkB
  simp only [List.length_map, List.length_range, List.getElem?_map, List.getElem?_range]
  by_cases hi : i < xs.length
  · by_cases e : ((prm xs).getD q 0).toNat = i
    · rw [if_pos e, if_pos (by omega)]
      have : rk xs i = q := by rw [← e]; exact rk_get h
      simp [hi, this]
    · rw [if_neg e]
      have hne : rk xs i ≠ q := fun h2 => by
        obtain ⟨r, hr, he⟩ := prm_find hi
        rw [rk_prm hr he] at h2
        subst h2
        rw [he] at e; omega
      simp only [hi, List.getElem?_eq_getElem, List.length_range, List.getElem_range, Option.map_some]
      congr 1
      by_cases e2 : rk xs i < q
      · rw [decide_eq_true e2, decide_eq_true (by omega)]
      · rw [decide_eq_false e2, decide_eq_false (by omega)]
  · by_cases e : ((prm xs).getD q 0).toNat = i
    · omega
    · rw [if_neg e]; simp [hi]
abbrev oBs (bs : List Bool) : Row := .r true (.bools bs)

theorem iPartialSort_t (xs : List Int) (k : Nat) (hv : validB xs = true) (hk : k ≤ xs.length) : ACalls Try.prog 17 [tS 0 xs.length, tI k] [] [rI xs] (fun t H => t = .tup [aS 1 xs.length, aB true] ∧ H = [rI xs, oI (psF xs k)]) := by
  have h64 := validB_len hv
  have hpl := prm_len xs
  have hin : inB (k : Int) 0 xs.length = true := by simp only [inB, Bool.and_eq_true, decide_eq_true_eq]; omega
  have hap := apply_l (prm xs) xs k (by omega) (fun i hi => prm_get (by omega)) (by omega)
  have hmt : ((prm xs).take k).map (ky xs) = (srtL xs).take k := by rw [srtL_prm, List.map_take]
  rw [hmt] at hap
  refine afun (fun _ => none) [4, 5] 1 Try.func17 rfl rfl mix (by kernel_rfl) (by kernel_rfl) (by simp [Try.f17]) rfl (by simp [msOwn, ownAll, Row.own]) ?_
  simp (dsimp := false) only [go_sem, Nat.reduceAdd, Nat.reduceBEq, Nat.reduceEqDiff, Nat.reduceLT, Nat.reduceLeDiff, reduceCtorEq, ↓reduceIte]
  repeat (refine And.intro (by first | exact True.intro | omega | kernel_rfl | (simp only [List.length_set, List.length_append, List.length_take, List.length_replicate, List.length_cons, true_and, and_true, List.length_nil, tabR_length]; omega)) ?_)
  refine ⟨_, (isValidList_l xs (by omega)).lift [0] (by decide) (by simp) (by simp [RS.slot, List.map_cons, List.map_nil, rowsLe, rowLe, slotsLe, tvLe, TV.ren, AV.ren, C.ren, Dat.ren, Row.ren, TV.hs, AV.hs, C.hs, Dat.hs, get_cons, get_nil, zipSlots, List.getD_cons_zero, List.getD_cons_succ, List.getD_nil, -List.getD_eq_getElem?_getD]) (by simp [RS.slot, List.map_cons, List.map_nil, rowsLe, rowLe, slotsLe, tvLe, TV.ren, AV.ren, C.ren, Dat.ren, Row.ren, TV.hs, AV.hs, C.hs, Dat.hs, get_cons, get_nil, zipSlots, List.getD_cons_zero, List.getD_cons_succ, List.getD_nil, -List.getD_eq_getElem?_getD]) (by simp [RS.slot, List.map_cons, List.map_nil, rowsLe, rowLe, slotsLe, tvLe, TV.ren, AV.ren, C.ren, Dat.ren, Row.ren, TV.hs, AV.hs, C.hs, Dat.hs, get_cons, get_nil, zipSlots, List.getD_cons_zero, List.getD_cons_succ, List.getD_nil, -List.getD_eq_getElem?_getD]) rfl ?_⟩
  rintro _ _ ⟨rfl, rfl⟩
  refine ⟨by simp [ownIn, Row.own], ?_⟩
  simp (dsimp := false) only [hv, liftT, liftH, putBack, freshR, ownIn, Row.own, Row.ren, TV.ren, AV.ren, C.ren, Dat.ren, List.drop_succ_cons, List.drop_nil, List.getD_cons_zero, List.getD_cons_succ, List.getD_nil, go_sem, Nat.reduceAdd, Nat.reduceBEq, Nat.reduceEqDiff, Nat.reduceLT, Nat.reduceLeDiff, reduceCtorEq, ↓reduceIte]
  repeat (refine And.intro (by first | exact True.intro | omega | kernel_rfl | (simp only [List.length_set, List.length_append, List.length_take, List.length_replicate, List.length_cons, true_and, and_true, List.length_nil, tabR_length]; omega)) ?_)
  refine ⟨_, (in_l k 0 xs.length).lift [] (by decide) (by simp) (by simp [RS.slot, List.map_cons, List.map_nil, rowsLe, rowLe, slotsLe, tvLe, TV.ren, AV.ren, C.ren, Dat.ren, Row.ren, TV.hs, AV.hs, C.hs, Dat.hs, get_cons, get_nil, zipSlots, List.getD_cons_zero, List.getD_cons_succ, List.getD_nil, -List.getD_eq_getElem?_getD]) (by simp [RS.slot, List.map_cons, List.map_nil, rowsLe, rowLe, slotsLe, tvLe, TV.ren, AV.ren, C.ren, Dat.ren, Row.ren, TV.hs, AV.hs, C.hs, Dat.hs, get_cons, get_nil, zipSlots, List.getD_cons_zero, List.getD_cons_succ, List.getD_nil, -List.getD_eq_getElem?_getD]) (by simp [RS.slot, List.map_cons, List.map_nil, rowsLe, rowLe, slotsLe, tvLe, TV.ren, AV.ren, C.ren, Dat.ren, Row.ren, TV.hs, AV.hs, C.hs, Dat.hs, get_cons, get_nil, zipSlots, List.getD_cons_zero, List.getD_cons_succ, List.getD_nil, -List.getD_eq_getElem?_getD]) rfl ?_⟩
  rintro _ _ ⟨rfl, rfl⟩
  refine ⟨by simp [ownIn, Row.own], ?_⟩
  simp (dsimp := false) only [hin, liftT, liftH, putBack, freshR, ownIn, Row.own, Row.ren, TV.ren, AV.ren, C.ren, Dat.ren, List.drop_succ_cons, List.drop_nil, List.getD_cons_zero, List.getD_cons_succ, List.getD_nil, go_sem, Nat.reduceAdd, Nat.reduceBEq, Nat.reduceEqDiff, Nat.reduceLT, Nat.reduceLeDiff, reduceCtorEq, ↓reduceIte]
  repeat (refine And.intro (by first | exact True.intro | omega | kernel_rfl | (simp only [List.length_set, List.length_append, List.length_take, List.length_replicate, List.length_cons, true_and, and_true, List.length_nil, tabR_length]; omega)) ?_)
  refine ⟨_, (sorting_l xs (by omega)).lift [0] (by decide) (by simp) (by simp [RS.slot, List.map_cons, List.map_nil, rowsLe, rowLe, slotsLe, tvLe, TV.ren, AV.ren, C.ren, Dat.ren, Row.ren, TV.hs, AV.hs, C.hs, Dat.hs, get_cons, get_nil, zipSlots, List.getD_cons_zero, List.getD_cons_succ, List.getD_nil, -List.getD_eq_getElem?_getD]) (by simp [RS.slot, List.map_cons, List.map_nil, rowsLe, rowLe, slotsLe, tvLe, TV.ren, AV.ren, C.ren, Dat.ren, Row.ren, TV.hs, AV.hs, C.hs, Dat.hs, get_cons, get_nil, zipSlots, List.getD_cons_zero, List.getD_cons_succ, List.getD_nil, -List.getD_eq_getElem?_getD]) (by simp [RS.slot, List.map_cons, List.map_nil, rowsLe, rowLe, slotsLe, tvLe, TV.ren, AV.ren, C.ren, Dat.ren, Row.ren, TV.hs, AV.hs, C.hs, Dat.hs, get_cons, get_nil, zipSlots, List.getD_cons_zero, List.getD_cons_succ, List.getD_nil, -List.getD_eq_getElem?_getD]) rfl ?_⟩
  rintro _ _ ⟨rfl, rfl⟩
  refine ⟨by simp [ownIn, Row.own], ?_⟩
  simp (dsimp := false) only [liftT, liftH, putBack, freshR, ownIn, Row.own, Row.ren, TV.ren, AV.ren, C.ren, Dat.ren, List.drop_succ_cons, List.drop_nil, List.getD_cons_zero, List.getD_cons_succ, List.getD_nil, go_sem, Nat.reduceAdd, Nat.reduceBEq, Nat.reduceEqDiff, Nat.reduceLT, Nat.reduceLeDiff, reduceCtorEq, ↓reduceIte]
  repeat (refine And.intro (by first | exact True.intro | omega | kernel_rfl | (simp only [List.length_set, List.length_append, List.length_take, List.length_replicate, List.length_cons, true_and, and_true, List.length_nil, tabR_length]; omega)) ?_)
  simp only [Int.toNat_natCast, Nat.sub_zero, Int.toNat_zero, Nat.add_zero, ← tkB_zero]
  refine aloop (σ := Nat) (fun q => ([(0, tS 0 xs.length), (1, tI k), (6, tS 1 xs.length), (7, tS 2 xs.length), (30, tS 1 k), (31, tI k), (32, tI q)], [rI xs, oI (prm xs), oBs (tkB xs q)])) (fun q => q ≤ k) (fun q => k - q) 0 [0, 1, 2] (by omega) (weak_of (by decide) (by simp [RS.slot, List.map_cons, List.map_nil, rowsLe, rowLe, slotsLe, tvLe, TV.ren, AV.ren, C.ren, Dat.ren, Row.ren, TV.hs, AV.hs, C.hs, Dat.hs, get_cons, get_nil, zipSlots, List.getD_cons_zero, List.getD_cons_succ, List.getD_nil, -List.getD_eq_getElem?_getD])) ?_
  intro q hq
  have htl := tkB_len xs q
  by_cases hc : q < k
  · have hcd : decide ((q : Int) < k) = true := by simp; omega
    have hp := prm_get (ls := xs) (r := q) (by omega)
    have hst := tkB_set (xs := xs) (q := q) (by omega)
    simp (dsimp := false) only [hcd, Int.toNat_natCast, go_sem, Nat.reduceAdd, Nat.reduceBEq, Nat.reduceEqDiff, Nat.reduceLT, Nat.reduceLeDiff, reduceCtorEq, ↓reduceIte]
    repeat (refine And.intro (by first | exact True.intro | omega | kernel_rfl | (simp only [List.length_set, List.length_append, List.length_take, List.length_replicate, List.length_cons, true_and, and_true, List.length_nil, tabR_length]; omega)) ?_)
    refine ⟨q + 1, [0, 1, 2], ?_, weak_of (by decide) (by simp [RS.slot, List.map_cons, List.map_nil, rowsLe, rowLe, slotsLe, tvLe, TV.ren, AV.ren, C.ren, Dat.ren, Row.ren, TV.hs, AV.hs, C.hs, Dat.hs, get_cons, get_nil, zipSlots, List.getD_cons_zero, List.getD_cons_succ, List.getD_nil, -List.getD_eq_getElem?_getD, hst])⟩
    omega
  · have hcd : decide ((q : Int) < k) = false := by simp; omega
    have e : q = k := by omega
    subst e
    simp (dsimp := false) only [hcd, Int.toNat_natCast, Nat.sub_zero, Int.toNat_zero, Nat.add_zero, go_sem, Nat.reduceAdd, Nat.reduceBEq, Nat.reduceEqDiff, Nat.reduceLT, Nat.reduceLeDiff, reduceCtorEq, ↓reduceIte]
    repeat (refine And.intro (by first | exact True.intro | omega | kernel_rfl | (simp only [List.length_set, List.length_append, List.length_take, List.length_replicate, List.length_cons, true_and, and_true, List.length_nil, tabR_length]; omega)) ?_)
    repeat (refine And.intro (by first | exact True.intro | omega | kernel_rfl | (simp only [List.length_set, List.length_append, List.length_take, List.length_replicate, List.length_cons, true_and, and_true, List.length_nil, tabR_length]; omega)) ?_)
    refine ⟨_, (hap).lift [1, 0] (by decide) (by simp) (by simp [RS.slot, List.map_cons, List.map_nil, rowsLe, rowLe, slotsLe, tvLe, TV.ren, AV.ren, C.ren, Dat.ren, Row.ren, TV.hs, AV.hs, C.hs, Dat.hs, get_cons, get_nil, zipSlots, List.getD_cons_zero, List.getD_cons_succ, List.getD_nil, -List.getD_eq_getElem?_getD]) (by simp [RS.slot, List.map_cons, List.map_nil, rowsLe, rowLe, slotsLe, tvLe, TV.ren, AV.ren, C.ren, Dat.ren, Row.ren, TV.hs, AV.hs, C.hs, Dat.hs, get_cons, get_nil, zipSlots, List.getD_cons_zero, List.getD_cons_succ, List.getD_nil, -List.getD_eq_getElem?_getD]) (by simp [RS.slot, List.map_cons, List.map_nil, rowsLe, rowLe, slotsLe, tvLe, TV.ren, AV.ren, C.ren, Dat.ren, Row.ren, TV.hs, AV.hs, C.hs, Dat.hs, get_cons, get_nil, zipSlots, List.getD_cons_zero, List.getD_cons_succ, List.getD_nil, -List.getD_eq_getElem?_getD]) rfl ?_⟩
    rintro _ _ ⟨rfl, rfl⟩
    refine ⟨by simp [ownIn, Row.own], ?_⟩
    simp (dsimp := false) only [liftT, liftH, putBack, freshR, ownIn, Row.own, Row.ren, TV.ren, AV.ren, C.ren, Dat.ren, List.drop_succ_cons, List.drop_nil, List.getD_cons_zero, List.getD_cons_succ, List.getD_nil, go_sem, Nat.reduceAdd, Nat.reduceBEq, Nat.reduceEqDiff, Nat.reduceLT, Nat.reduceLeDiff, reduceCtorEq, ↓reduceIte]
    refine aloop (σ := Nat) (fun i => ([(7, tS 1 xs.length), (10, tS 2 (q + (psR xs q i).length)), (45, tS 0 xs.length), (46, tI xs.length), (47, tI i)], [rI xs, oBs (tkB xs q), oI ((srtL xs).take q ++ psR xs q i)])) (fun i => i ≤ xs.length) (fun i => xs.length - i) 0 [0, 2, 3] (by omega) (weak_of (by decide) (by simp [RS.slot, List.map_cons, List.map_nil, rowsLe, rowLe, slotsLe, tvLe, TV.ren, AV.ren, C.ren, Dat.ren, Row.ren, TV.hs, AV.hs, C.hs, Dat.hs, get_cons, get_nil, zipSlots, List.getD_cons_zero, List.getD_cons_succ, List.getD_nil, -List.getD_eq_getElem?_getD, psR])) ?_
    intro i hi
    have hl : ((srtL xs).take q ++ psR xs q i).length = q + (psR xs q i).length := by simp [srtL_len]; omega
    have hrl := psR_len_le xs q i
    by_cases hc2 : i < xs.length
    · have hcd2 : decide ((i : Int) < xs.length) = true := by simp; omega
      have hg := tkB_get (q := q) hc2
      by_cases hr : rk xs i < q
      · have hd : decide (rk xs i < q) = true := decide_eq_true hr
        have e : psR xs q (i + 1) = psR xs q i := by rw [psR, if_pos hr]
        simp (dsimp := false) only [hcd2, hg, hd, Int.toNat_natCast, go_sem, Nat.reduceAdd, Nat.reduceBEq, Nat.reduceEqDiff, Nat.reduceLT, Nat.reduceLeDiff, reduceCtorEq, ↓reduceIte]
        repeat (refine And.intro (by first | exact True.intro | omega | kernel_rfl | (simp only [List.length_set, List.length_append, List.length_take, List.length_replicate, List.length_cons, true_and, and_true, List.length_nil, tabR_length]; omega)) ?_)
        refine ⟨i + 1, [0, 1, 2], ?_, weak_of (by decide) (by simp [RS.slot, List.map_cons, List.map_nil, rowsLe, rowLe, slotsLe, tvLe, TV.ren, AV.ren, C.ren, Dat.ren, Row.ren, TV.hs, AV.hs, C.hs, Dat.hs, get_cons, get_nil, zipSlots, List.getD_cons_zero, List.getD_cons_succ, List.getD_nil, -List.getD_eq_getElem?_getD, e])⟩
        omega
      · have hd : decide (rk xs i < q) = false := decide_eq_false hr
        have e : psR xs q (i + 1) = psR xs q i ++ [xs.getD i 0] := by rw [psR, if_neg hr]
        simp (dsimp := false) only [hcd2, hg, hd, hl, Int.toNat_natCast, go_sem, Nat.reduceAdd, Nat.reduceBEq, Nat.reduceEqDiff, Nat.reduceLT, Nat.reduceLeDiff, reduceCtorEq, ↓reduceIte]
        repeat (refine And.intro (by first | exact True.intro | omega | kernel_rfl | (simp only [List.length_set, List.length_append, List.length_take, List.length_replicate, List.length_cons, true_and, and_true, List.length_nil, tabR_length]; omega)) ?_)
        refine ⟨i + 1, [0, 1, 4], ?_, weak_of (by decide) (by simp [RS.slot, List.map_cons, List.map_nil, rowsLe, rowLe, slotsLe, tvLe, TV.ren, AV.ren, C.ren, Dat.ren, Row.ren, TV.hs, AV.hs, C.hs, Dat.hs, get_cons, get_nil, zipSlots, List.getD_cons_zero, List.getD_cons_succ, List.getD_nil, -List.getD_eq_getElem?_getD, e, Nat.add_assoc, List.append_assoc])⟩
        omega
    · have hcd2 : decide ((i : Int) < xs.length) = false := by simp; omega
      have e : i = xs.length := by omega
      subst e
      have hlen := psF_len xs hk
      have hlen2 : q + (psR xs q xs.length).length = xs.length := by rw [← hl]; exact hlen
      simp (dsimp := false) only [hcd2, hlen2, go_sem, Nat.reduceAdd, Nat.reduceBEq, Nat.reduceEqDiff, Nat.reduceLT, Nat.reduceLeDiff, reduceCtorEq, ↓reduceIte]
      refine afin [0, 2] [aS 1 xs.length, aB true] [rI xs, oI (psF xs q)] (by simp) rfl (weak_of (by decide) (by simp [RS.slot, List.map_cons, List.map_nil, rowsLe, rowLe, slotsLe, tvLe, TV.ren, AV.ren, C.ren, Dat.ren, Row.ren, TV.hs, AV.hs, C.hs, Dat.hs, get_cons, get_nil, zipSlots, List.getD_cons_zero, List.getD_cons_succ, List.getD_nil, -List.getD_eq_getElem?_getD, psF])) (by simp [rtv, psF, -List.getD_eq_getElem?_getD])
end Go.Proofs.Ytlejmdbjckmfoaa
