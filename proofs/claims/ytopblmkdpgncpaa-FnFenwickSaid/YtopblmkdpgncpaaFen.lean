/- Contracts: Fenwick trees. -/
import Derived.Test.YtopblmkdpgncpaaAxTyF
import Derived.Test.YtopblmkdpgncpaaPlFen
import Derived.Test.YtopblmkdpgncpaaVal
set_option linter.unusedSimpArgs false
set_option linter.unusedVariables false
set_option linter.unusedSectionVars false
namespace Go.Proofs.Ytopblmkdpgncpaa
open Go Go.Ax
set_option maxRecDepth 10000
set_option maxHeartbeats 1000000

theorem lowN_bits {i : Nat} (h : i ≤ 64) : IntKind.i64.wrap (((BitVec.ofInt IntKind.i64.bits ((i : Int) + 1)) &&& (BitVec.ofInt IntKind.i64.bits (0 - ((i : Int) + 1)))).toNat : Int) = (lowN (i + 1) : Int) :=
  (lowN_bits' ⟨i + 1, by omega⟩).resolve_right (by simp)
theorem tmod_nat (a b : Nat) : (a : Int).tmod (b : Int) = ((a % b : Nat) : Int) := by simp [Int.tmod_eq_emod_of_nonneg]

theorem low_l (i : Nat) (hi : i ≤ 64) : ACalls Try.prog 84 [tI i] [] [] (fun t H => t = tI (lowN (i + 1) : Nat) ∧ H = []) := by
  have hb := lowN_bits hi
  refine afun (fun _ => none) [2] 0 Try.func84 rfl rfl mix (by kernel_rfl) (by kernel_rfl) (by simp [Try.f84]) rfl (by simp [msOwn, ownAll, Row.own]) ?_
  simp (dsimp := false) only [abits, go_sem, Nat.reduceAdd, Nat.reduceBEq, Nat.reduceEqDiff, Nat.reduceLT, Nat.reduceLeDiff, reduceCtorEq, ↓reduceIte]
  simp only [hb]
  repeat (refine And.intro (by first | exact True.intro | omega | kernel_rfl | (simp only [List.length_set, List.length_append, List.length_take, List.length_replicate, List.length_cons, true_and, and_true, List.length_nil, tabR_length]; omega)) ?_)
  refine afin [] [aI (lowN (i + 1) : Nat)] [] (by simp) rfl (weak_of (by decide) (by simp [RS.slot, List.map_cons, List.map_nil, rowsLe, rowLe, slotsLe, tvLe, TV.ren, AV.ren, C.ren, Dat.ren, Row.ren, TV.hs, AV.hs, C.hs, Dat.hs, get_cons, get_nil, zipSlots, List.getD_cons_zero, List.getD_cons_succ, List.getD_nil, -List.getD_eq_getElem?_getD])) (by simp [rtv])

theorem l10Low_l (n : Nat) (h1 : 1 ≤ n) (hn : n ≤ 65) : ACalls Try.prog 83 [tI n] [] [] (fun t H => t = tI (lowN n : Nat) ∧ H = []) := by
  refine afun (fun _ => none) [2] 0 Try.func83 rfl rfl mix (by kernel_rfl) (by kernel_rfl) (by simp [Try.f83]) rfl (by simp [msOwn, ownAll, Row.own]) ?_
  simp (dsimp := false) only [go_sem, Nat.reduceAdd, Nat.reduceBEq, Nat.reduceEqDiff, Nat.reduceLT, Nat.reduceLeDiff, reduceCtorEq, ↓reduceIte]
  refine aloop (σ := Nat × Nat) (fun s => ([(0, tI n), (3, tI s.2)], [])) (fun s => 1 ≤ s.2 ∧ s.2 ≤ n ∧ n < s.2 * 2 ^ s.1 ∧ lowF s.1 n s.2 = lowN n) (fun s => s.1) (8, 1) [] ⟨Nat.le_refl _, h1, by simp; omega, rfl⟩ (weak_of (by decide) (by simp [RS.slot, List.map_cons, List.map_nil, rowsLe, rowLe, slotsLe, tvLe, TV.ren, AV.ren, C.ren, Dat.ren, Row.ren, TV.hs, AV.hs, C.hs, Dat.hs, get_cons, get_nil, zipSlots, List.getD_cons_zero, List.getD_cons_succ, List.getD_nil, -List.getD_eq_getElem?_getD])) ?_
  rintro ⟨f, l⟩ ⟨j1, j2, j3, j4⟩
  simp only at j1 j2 j3 j4
  have e2 : 2 * (l : Int) = ((2 * l : Nat) : Int) := by simp
  simp (dsimp := false) only [e2, tmod_nat, go_sem, Nat.reduceAdd, Nat.reduceBEq, Nat.reduceEqDiff, Nat.reduceLT, Nat.reduceLeDiff, reduceCtorEq, ↓reduceIte]
  repeat (refine And.intro (by first | exact True.intro | omega | kernel_rfl | (simp only [List.length_set, List.length_append, List.length_take, List.length_replicate, List.length_cons, true_and, and_true, List.length_nil, tabR_length]; omega)) ?_)
  cases f with
  | zero => simp at j3; omega
  | succ f =>
    by_cases hc : n % (2 * l) = 0
    · have hcd : (((n % (2 * l) : Nat) : Int) == 0) = true := by rw [hc]; rfl
      have hle : 2 * l ≤ n := Nat.le_of_dvd (by omega) (Nat.dvd_of_mod_eq_zero hc)
      rw [lowF, if_pos hc] at j4
      have e3 : l * 2 ^ (f + 1) = 2 * l * 2 ^ f := by rw [Nat.pow_succ, Nat.mul_comm 2 l, Nat.mul_assoc, Nat.mul_comm 2 (2 ^ f)]
      simp (dsimp := false) only [hcd, go_sem, Nat.reduceAdd, Nat.reduceBEq, Nat.reduceEqDiff, Nat.reduceLT, Nat.reduceLeDiff, reduceCtorEq, ↓reduceIte]
      repeat (refine And.intro (by first | exact True.intro | omega | kernel_rfl | (simp only [List.length_set, List.length_append, List.length_take, List.length_replicate, List.length_cons, true_and, and_true, List.length_nil, tabR_length]; omega)) ?_)
      refine ⟨(f, 2 * l), [], ?_, weak_of (by decide) (by simp [RS.slot, List.map_cons, List.map_nil, rowsLe, rowLe, slotsLe, tvLe, TV.ren, AV.ren, C.ren, Dat.ren, Row.ren, TV.hs, AV.hs, C.hs, Dat.hs, get_cons, get_nil, zipSlots, List.getD_cons_zero, List.getD_cons_succ, List.getD_nil, -List.getD_eq_getElem?_getD, ])⟩
      dsimp only
      exact ⟨⟨by omega, hle, by omega, j4⟩, by omega⟩
    · have hcd : (((n % (2 * l) : Nat) : Int) == 0) = false := by
        rw [show (((n % (2 * l) : Nat) : Int) == 0) = decide (((n % (2 * l) : Nat) : Int) = 0) from rfl]
        exact decide_eq_false (by omega)
      rw [lowF, if_neg hc] at j4
      subst j4
      simp (dsimp := false) only [hcd, go_sem, Nat.reduceAdd, Nat.reduceBEq, Nat.reduceEqDiff, Nat.reduceLT, Nat.reduceLeDiff, reduceCtorEq, ↓reduceIte]
      refine afin [] [aI (lowN n : Nat)] [] (by simp) rfl (weak_of (by decide) (by simp [RS.slot, List.map_cons, List.map_nil, rowsLe, rowLe, slotsLe, tvLe, TV.ren, AV.ren, C.ren, Dat.ren, Row.ren, TV.hs, AV.hs, C.hs, Dat.hs, get_cons, get_nil, zipSlots, List.getD_cons_zero, List.getD_cons_succ, List.getD_nil, -List.getD_eq_getElem?_getD])) (by simp [rtv])

/-- The sums of a list, as a function. -/
def sF (ss : List Int) (t : Nat) : Int := ss.getD t 0
theorem prefix_l (ss : List Int) (m : Nat) (h64 : ss.length ≤ 64) (hm : m ≤ ss.length) (hb : ∀ t, t < ss.length → 0 ≤ ss.getD t 0 ∧ ss.getD t 0 ≤ 64000) :
    ACalls Try.prog 71 [tFen 0 ss.length, tI m] [] [rI ss] (fun t H => t = .tup [aI (prefS (sF ss) 65 m), aI (prefU 65 m : Nat)] ∧ H = [rI ss]) := by
  obtain ⟨T, hT⟩ : ∃ T, T = prefS (sF ss) 65 m := ⟨_, rfl⟩
  obtain ⟨U, hU⟩ : ∃ U, U = prefU 65 m := ⟨_, rfl⟩
  have hTb := prefS_bd (s := sF ss) (b := 64000) (by omega) 65 m (by omega) (fun t ht => hb t (by omega))
  have hUb := prefU_le 65 m
  rw [← hT] at hTb ⊢
  rw [← hU] at hUb ⊢
  refine afun (fun _ => none) [4, 5] 1 Try.func71 rfl rfl mix (by kernel_rfl) (by kernel_rfl) (by simp [Try.f71]) rfl (by simp [msOwn, ownAll, Row.own]) ?_
  simp (dsimp := false) only [go_sem, Nat.reduceAdd, Nat.reduceBEq, Nat.reduceEqDiff, Nat.reduceLT, Nat.reduceLeDiff, reduceCtorEq, ↓reduceIte]
  repeat (refine And.intro (by first | exact True.intro | omega | kernel_rfl | (simp only [List.length_set, List.length_append, List.length_take, List.length_replicate, List.length_cons, true_and, and_true, List.length_nil, tabR_length]; omega)) ?_)
  refine aloop (σ := Nat × Nat × Int × Nat) (fun s => ([(2, .a (.c (.ptr 1 0 0))), (6, tI s.2.2.1), (7, tI s.2.2.2), (8, tI ((s.2.1 : Int) - 1))], [rI ss, bF 0 ss.length])) (fun s => s.2.1 ≤ ss.length ∧ s.2.1 ≤ s.1 ∧ s.1 ≤ 65 ∧ 0 ≤ s.2.2.1 ∧ s.2.2.1 + prefS (sF ss) s.1 s.2.1 = T ∧ s.2.2.2 + prefU s.1 s.2.1 = U) (fun s => s.1) (65, m, 0, 0) [0, 1] ⟨hm, by simp; omega, Nat.le_refl _, Int.le_refl _, by simp [hT], by simp [hU]⟩ (weak_of (by decide) (by simp [RS.slot, List.map_cons, List.map_nil, rowsLe, rowLe, slotsLe, tvLe, TV.ren, AV.ren, C.ren, Dat.ren, Row.ren, TV.hs, AV.hs, C.hs, Dat.hs, get_cons, get_nil, zipSlots, List.getD_cons_zero, List.getD_cons_succ, List.getD_nil, -List.getD_eq_getElem?_getD])) ?_
  rintro ⟨f, m, tot, us⟩ ⟨j1, j2, j3, j6, j4, j5⟩
  simp only at j1 j2 j3 j4 j5 j6
  cases m with
  | zero =>
    have hg : decide (((0 : Nat) : Int) - 1 ≥ 0) = false := rfl
    rw [prefS_zero] at j4
    rw [prefU_zero] at j5
    have e1 : tot = T := by omega
    have e2 : us = U := by omega
    simp (dsimp := false) only [hg, go_sem, Nat.reduceAdd, Nat.reduceBEq, Nat.reduceEqDiff, Nat.reduceLT, Nat.reduceLeDiff, reduceCtorEq, ↓reduceIte]
    rw [← e1, ← e2]
    refine afin [0] [aI tot, aI us] [rI ss] (by simp) rfl (weak_of (by decide) (by simp [RS.slot, List.map_cons, List.map_nil, rowsLe, rowLe, slotsLe, tvLe, TV.ren, AV.ren, C.ren, Dat.ren, Row.ren, TV.hs, AV.hs, C.hs, Dat.hs, get_cons, get_nil, zipSlots, List.getD_cons_zero, List.getD_cons_succ, List.getD_nil, -List.getD_eq_getElem?_getD])) (by simp [rtv])
  | succ q =>
    have hg : decide ((q : Int) ≥ 0) = true := decide_eq_true (by omega)
    have eq : ((q + 1 : Nat) : Int) - 1 = (q : Int) := by omega
    obtain ⟨f, rfl⟩ : ∃ g, f = g + 1 := ⟨f - 1, by omega⟩
    rw [prefS_pos _ (by omega)] at j4
    rw [prefU_pos (by omega)] at j5
    have hl := lowN_bd (n := q + 1) (by omega) (by omega)
    have hpb := prefS_bd (s := sF ss) (b := 64000) (by omega) f (q + 1 - lowN (q + 1)) (by omega) (fun t ht => hb t (by omega))
    have hq := hb q (by omega)
    have hsq : sF ss (q + 1 - 1) = ss.getD q 0 := rfl
    rw [hsq] at j4
    simp (dsimp := false) only [hg, eq, go_sem, Nat.reduceAdd, Nat.reduceBEq, Nat.reduceEqDiff, Nat.reduceLT, Nat.reduceLeDiff, reduceCtorEq, ↓reduceIte]
    repeat (refine And.intro (by first | exact True.intro | omega | kernel_rfl | (simp only [List.length_set, List.length_append, List.length_take, List.length_replicate, List.length_cons, true_and, and_true, List.length_nil, tabR_length]; omega)) ?_)
    repeat (refine And.intro (by first | exact True.intro | omega | kernel_rfl | (simp only [List.length_set, List.length_append, List.length_take, List.length_replicate, List.length_cons, true_and, and_true, List.length_nil, tabR_length]; omega)) ?_)
    refine ⟨_, (low_l q (by omega)).lift [] (by decide) (by simp) (by simp [RS.slot, List.map_cons, List.map_nil, rowsLe, rowLe, slotsLe, tvLe, TV.ren, AV.ren, C.ren, Dat.ren, Row.ren, TV.hs, AV.hs, C.hs, Dat.hs, get_cons, get_nil, zipSlots, List.getD_cons_zero, List.getD_cons_succ, List.getD_nil, -List.getD_eq_getElem?_getD]) (by simp [RS.slot, List.map_cons, List.map_nil, rowsLe, rowLe, slotsLe, tvLe, TV.ren, AV.ren, C.ren, Dat.ren, Row.ren, TV.hs, AV.hs, C.hs, Dat.hs, get_cons, get_nil, zipSlots, List.getD_cons_zero, List.getD_cons_succ, List.getD_nil, -List.getD_eq_getElem?_getD]) (by simp [RS.slot, List.map_cons, List.map_nil, rowsLe, rowLe, slotsLe, tvLe, TV.ren, AV.ren, C.ren, Dat.ren, Row.ren, TV.hs, AV.hs, C.hs, Dat.hs, get_cons, get_nil, zipSlots, List.getD_cons_zero, List.getD_cons_succ, List.getD_nil, -List.getD_eq_getElem?_getD]) rfl ?_⟩
    rintro _ _ ⟨rfl, rfl⟩
    refine ⟨by simp [ownIn, Row.own], ?_⟩
    simp (dsimp := false) only [liftT, liftH, putBack, freshR, ownIn, Row.own, Row.ren, TV.ren, AV.ren, C.ren, Dat.ren, List.drop_succ_cons, List.drop_nil, List.getD_cons_zero, List.getD_cons_succ, List.getD_nil, go_sem, Nat.reduceAdd, Nat.reduceBEq, Nat.reduceEqDiff, Nat.reduceLT, Nat.reduceLeDiff, reduceCtorEq, ↓reduceIte]
    repeat (refine And.intro (by first | exact True.intro | omega | kernel_rfl | (simp only [List.length_set, List.length_append, List.length_take, List.length_replicate, List.length_cons, true_and, and_true, List.length_nil, tabR_length]; omega)) ?_)
    have en : ((q + 1 - lowN (q + 1) : Nat) : Int) - 1 = (q : Int) - (lowN (q + 1) : Nat) := by omega
    refine ⟨(f, q + 1 - lowN (q + 1), tot + ss.getD q 0, us + 1), [0, 1], ?_, weak_of (by decide) (by simp [RS.slot, List.map_cons, List.map_nil, rowsLe, rowLe, slotsLe, tvLe, TV.ren, AV.ren, C.ren, Dat.ren, Row.ren, TV.hs, AV.hs, C.hs, Dat.hs, get_cons, get_nil, zipSlots, List.getD_cons_zero, List.getD_cons_succ, List.getD_nil, -List.getD_eq_getElem?_getD, en])⟩
    dsimp only
    exact ⟨⟨by omega, by omega, by omega, by omega, by omega, by omega⟩, by omega⟩

theorem l10Prefix_l (ss : List Int) (m : Nat) (h64 : ss.length ≤ 64) (hm : m ≤ ss.length) (hb : ∀ t, t < ss.length → 0 ≤ ss.getD t 0 ∧ ss.getD t 0 ≤ 64000) :
    ACalls Try.prog 70 [tS 0 ss.length, tI m] [] [rI ss] (fun t H => t = .tup [aI (prefS (sF ss) 65 m), aI (prefU 65 m : Nat)] ∧ H = [rI ss]) := by
  obtain ⟨T, hT⟩ : ∃ T, T = prefS (sF ss) 65 m := ⟨_, rfl⟩
  obtain ⟨U, hU⟩ : ∃ U, U = prefU 65 m := ⟨_, rfl⟩
  have hTb := prefS_bd (s := sF ss) (b := 64000) (by omega) 65 m (by omega) (fun t ht => hb t (by omega))
  have hUb := prefU_le 65 m
  rw [← hT] at hTb ⊢
  rw [← hU] at hUb ⊢
  refine afun (fun _ => none) [4, 5] 1 Try.func70 rfl rfl mix (by kernel_rfl) (by kernel_rfl) (by simp [Try.f70]) rfl (by simp [msOwn, ownAll, Row.own]) ?_
  simp (dsimp := false) only [go_sem, Nat.reduceAdd, Nat.reduceBEq, Nat.reduceEqDiff, Nat.reduceLT, Nat.reduceLeDiff, reduceCtorEq, ↓reduceIte]
  refine aloop (σ := Nat × Nat × Int × Nat) (fun s => ([(0, tS 0 ss.length), (6, tI s.2.2.1), (7, tI s.2.2.2), (8, tI s.2.1)], [rI ss])) (fun s => s.2.1 ≤ ss.length ∧ s.2.1 ≤ s.1 ∧ s.1 ≤ 65 ∧ 0 ≤ s.2.2.1 ∧ s.2.2.1 + prefS (sF ss) s.1 s.2.1 = T ∧ s.2.2.2 + prefU s.1 s.2.1 = U) (fun s => s.1) (65, m, 0, 0) [0] ⟨hm, by simp; omega, Nat.le_refl _, Int.le_refl _, by simp [hT], by simp [hU]⟩ (weak_of (by decide) (by simp [RS.slot, List.map_cons, List.map_nil, rowsLe, rowLe, slotsLe, tvLe, TV.ren, AV.ren, C.ren, Dat.ren, Row.ren, TV.hs, AV.hs, C.hs, Dat.hs, get_cons, get_nil, zipSlots, List.getD_cons_zero, List.getD_cons_succ, List.getD_nil, -List.getD_eq_getElem?_getD])) ?_
  rintro ⟨f, m, tot, us⟩ ⟨j1, j2, j3, j6, j4, j5⟩
  simp only at j1 j2 j3 j4 j5 j6
  cases m with
  | zero =>
    have hg : decide (0 < ((0 : Nat) : Int)) = false := rfl
    rw [prefS_zero] at j4
    rw [prefU_zero] at j5
    have e1 : tot = T := by omega
    have e2 : us = U := by omega
    simp (dsimp := false) only [hg, go_sem, Nat.reduceAdd, Nat.reduceBEq, Nat.reduceEqDiff, Nat.reduceLT, Nat.reduceLeDiff, reduceCtorEq, ↓reduceIte]
    rw [← e1, ← e2]
    refine afin [0] [aI tot, aI us] [rI ss] (by simp) rfl (weak_of (by decide) (by simp [RS.slot, List.map_cons, List.map_nil, rowsLe, rowLe, slotsLe, tvLe, TV.ren, AV.ren, C.ren, Dat.ren, Row.ren, TV.hs, AV.hs, C.hs, Dat.hs, get_cons, get_nil, zipSlots, List.getD_cons_zero, List.getD_cons_succ, List.getD_nil, -List.getD_eq_getElem?_getD])) (by simp [rtv])
  | succ q =>
    have hg : decide (0 < ((q + 1 : Nat) : Int)) = true := decide_eq_true (by omega)
    have eq : ((q + 1 : Nat) : Int) - 1 = (q : Int) := by omega
    obtain ⟨f, rfl⟩ : ∃ g, f = g + 1 := ⟨f - 1, by omega⟩
    rw [prefS_pos _ (by omega)] at j4
    rw [prefU_pos (by omega)] at j5
    have hl := lowN_bd (n := q + 1) (by omega) (by omega)
    have hpb := prefS_bd (s := sF ss) (b := 64000) (by omega) f (q + 1 - lowN (q + 1)) (by omega) (fun t ht => hb t (by omega))
    have hq := hb q (by omega)
    have hsq : sF ss (q + 1 - 1) = ss.getD q 0 := rfl
    rw [hsq] at j4
    simp (dsimp := false) only [hg, eq, go_sem, Nat.reduceAdd, Nat.reduceBEq, Nat.reduceEqDiff, Nat.reduceLT, Nat.reduceLeDiff, reduceCtorEq, ↓reduceIte]
    repeat (refine And.intro (by first | exact True.intro | omega | kernel_rfl | (simp only [List.length_set, List.length_append, List.length_take, List.length_replicate, List.length_cons, true_and, and_true, List.length_nil, tabR_length]; omega)) ?_)
    repeat (refine And.intro (by first | exact True.intro | omega | kernel_rfl | (simp only [List.length_set, List.length_append, List.length_take, List.length_replicate, List.length_cons, true_and, and_true, List.length_nil, tabR_length]; omega)) ?_)
    refine ⟨_, (l10Low_l (q + 1) (by omega) (by omega)).lift [] (by decide) (by simp) (by simp [RS.slot, List.map_cons, List.map_nil, rowsLe, rowLe, slotsLe, tvLe, TV.ren, AV.ren, C.ren, Dat.ren, Row.ren, TV.hs, AV.hs, C.hs, Dat.hs, get_cons, get_nil, zipSlots, List.getD_cons_zero, List.getD_cons_succ, List.getD_nil, -List.getD_eq_getElem?_getD]) (by simp [RS.slot, List.map_cons, List.map_nil, rowsLe, rowLe, slotsLe, tvLe, TV.ren, AV.ren, C.ren, Dat.ren, Row.ren, TV.hs, AV.hs, C.hs, Dat.hs, get_cons, get_nil, zipSlots, List.getD_cons_zero, List.getD_cons_succ, List.getD_nil, -List.getD_eq_getElem?_getD]) (by simp [RS.slot, List.map_cons, List.map_nil, rowsLe, rowLe, slotsLe, tvLe, TV.ren, AV.ren, C.ren, Dat.ren, Row.ren, TV.hs, AV.hs, C.hs, Dat.hs, get_cons, get_nil, zipSlots, List.getD_cons_zero, List.getD_cons_succ, List.getD_nil, -List.getD_eq_getElem?_getD]) rfl ?_⟩
    rintro _ _ ⟨rfl, rfl⟩
    refine ⟨by simp [ownIn, Row.own], ?_⟩
    simp (dsimp := false) only [liftT, liftH, putBack, freshR, ownIn, Row.own, Row.ren, TV.ren, AV.ren, C.ren, Dat.ren, List.drop_succ_cons, List.drop_nil, List.getD_cons_zero, List.getD_cons_succ, List.getD_nil, go_sem, Nat.reduceAdd, Nat.reduceBEq, Nat.reduceEqDiff, Nat.reduceLT, Nat.reduceLeDiff, reduceCtorEq, ↓reduceIte]
    repeat (refine And.intro (by first | exact True.intro | omega | kernel_rfl | (simp only [List.length_set, List.length_append, List.length_take, List.length_replicate, List.length_cons, true_and, and_true, List.length_nil, tabR_length]; omega)) ?_)
    have en : ((q + 1 - lowN (q + 1) : Nat) : Int) = ((q + 1 : Nat) : Int) - (lowN (q + 1) : Nat) := by omega
    refine ⟨(f, q + 1 - lowN (q + 1), tot + ss.getD q 0, us + 1), [0], ?_, weak_of (by decide) (by simp [RS.slot, List.map_cons, List.map_nil, rowsLe, rowLe, slotsLe, tvLe, TV.ren, AV.ren, C.ren, Dat.ren, Row.ren, TV.hs, AV.hs, C.hs, Dat.hs, get_cons, get_nil, zipSlots, List.getD_cons_zero, List.getD_cons_succ, List.getD_nil, -List.getD_eq_getElem?_getD, en])⟩
    dsimp only
    exact ⟨⟨by omega, by omega, by omega, by omega, by omega, by omega⟩, by omega⟩

/-- The differences of the prefix sums. -/
def vF (ss : List Int) (i : Nat) : Int := prefS (sF ss) 65 (i + 1) - prefS (sF ss) 65 i
theorem values_l (ss : List Int) (h64 : ss.length ≤ 64) (hb : ∀ t, t < ss.length → 0 ≤ ss.getD t 0 ∧ ss.getD t 0 ≤ 64000) :
    ACalls Try.prog 64 [tFen 0 ss.length] [] [rI ss] (fun t H => t = tS 1 ss.length ∧ H = [rI ss, oI (tabR (vF ss) ss.length)]) := by
  have hp : ∀ m, m ≤ ss.length → 0 ≤ prefS (sF ss) 65 m ∧ prefS (sF ss) 65 m ≤ 65 * 64000 := fun m hm => by
    have := prefS_bd (s := sF ss) (b := 64000) (by omega) 65 m (by omega) (fun t ht => hb t (by omega)); omega
  refine afun (fun _ => none) [2] 1 Try.func64 rfl rfl mix (by kernel_rfl) (by kernel_rfl) (by simp [Try.f64]) rfl (by simp [msOwn, ownAll, Row.own]) ?_
  simp (dsimp := false) only [go_sem, Nat.reduceAdd, Nat.reduceBEq, Nat.reduceEqDiff, Nat.reduceLT, Nat.reduceLeDiff, reduceCtorEq, ↓reduceIte]
  repeat (refine And.intro (by first | exact True.intro | omega | kernel_rfl | (simp only [List.length_set, List.length_append, List.length_take, List.length_replicate, List.length_cons, true_and, and_true, List.length_nil, tabR_length]; omega)) ?_)
  refine aloop (σ := Nat) (fun i => ([(1, .a (.c (.ptr 1 0 0))), (3, tS 2 i), (4, tI (prefS (sF ss) 65 i)), (11, tI ss.length), (12, tI i)], [rI ss, bF 0 ss.length, oI (tabR (vF ss) i)])) (fun i => i ≤ ss.length) (fun i => ss.length - i) 0 [0, 1, 2] (by omega) (weak_of (by decide) (by simp [RS.slot, List.map_cons, List.map_nil, rowsLe, rowLe, slotsLe, tvLe, TV.ren, AV.ren, C.ren, Dat.ren, Row.ren, TV.hs, AV.hs, C.hs, Dat.hs, get_cons, get_nil, zipSlots, List.getD_cons_zero, List.getD_cons_succ, List.getD_nil, -List.getD_eq_getElem?_getD, tabR, prefS_zero])) ?_
  intro i hi
  have h1 := hp i hi
  by_cases hc : i < ss.length
  · have hcd : decide ((i : Int) < ss.length) = true := by simp; omega
    have h2 := hp (i + 1) (by omega)
    have ht := tabR_succ (vF ss) i
    have hvi : vF ss i = prefS (sF ss) 65 (i + 1) - prefS (sF ss) 65 i := rfl
    rw [hvi] at ht
    simp (dsimp := false) only [hcd, go_sem, Nat.reduceAdd, Nat.reduceBEq, Nat.reduceEqDiff, Nat.reduceLT, Nat.reduceLeDiff, reduceCtorEq, ↓reduceIte]
    repeat (refine And.intro (by first | exact True.intro | omega | kernel_rfl | (simp only [List.length_set, List.length_append, List.length_take, List.length_replicate, List.length_cons, true_and, and_true, List.length_nil, tabR_length]; omega)) ?_)
    repeat (refine And.intro (by first | exact True.intro | omega | kernel_rfl | (simp only [List.length_set, List.length_append, List.length_take, List.length_replicate, List.length_cons, true_and, and_true, List.length_nil, tabR_length]; omega)) ?_)
    refine ⟨_, (prefix_l ss (i + 1) h64 (by omega) hb).lift [0] (by decide) (by simp) (by simp [RS.slot, List.map_cons, List.map_nil, rowsLe, rowLe, slotsLe, tvLe, TV.ren, AV.ren, C.ren, Dat.ren, Row.ren, TV.hs, AV.hs, C.hs, Dat.hs, get_cons, get_nil, zipSlots, List.getD_cons_zero, List.getD_cons_succ, List.getD_nil, -List.getD_eq_getElem?_getD]) (by simp [RS.slot, List.map_cons, List.map_nil, rowsLe, rowLe, slotsLe, tvLe, TV.ren, AV.ren, C.ren, Dat.ren, Row.ren, TV.hs, AV.hs, C.hs, Dat.hs, get_cons, get_nil, zipSlots, List.getD_cons_zero, List.getD_cons_succ, List.getD_nil, -List.getD_eq_getElem?_getD]) (by simp [RS.slot, List.map_cons, List.map_nil, rowsLe, rowLe, slotsLe, tvLe, TV.ren, AV.ren, C.ren, Dat.ren, Row.ren, TV.hs, AV.hs, C.hs, Dat.hs, get_cons, get_nil, zipSlots, List.getD_cons_zero, List.getD_cons_succ, List.getD_nil, -List.getD_eq_getElem?_getD]) rfl ?_⟩
    rintro _ _ ⟨rfl, rfl⟩
    refine ⟨by simp [ownIn, Row.own], ?_⟩
    simp (dsimp := false) only [liftT, liftH, putBack, freshR, ownIn, Row.own, Row.ren, TV.ren, AV.ren, C.ren, Dat.ren, List.drop_succ_cons, List.drop_nil, List.getD_cons_zero, List.getD_cons_succ, List.getD_nil, go_sem, Nat.reduceAdd, Nat.reduceBEq, Nat.reduceEqDiff, Nat.reduceLT, Nat.reduceLeDiff, reduceCtorEq, ↓reduceIte]
    repeat (refine And.intro (by first | exact True.intro | omega | kernel_rfl | (simp only [List.length_set, List.length_append, List.length_take, List.length_replicate, List.length_cons, true_and, and_true, List.length_nil, tabR_length]; omega)) ?_)
    refine ⟨i + 1, [0, 1, 4], ?_, weak_of (by decide) (by simp [RS.slot, List.map_cons, List.map_nil, rowsLe, rowLe, slotsLe, tvLe, TV.ren, AV.ren, C.ren, Dat.ren, Row.ren, TV.hs, AV.hs, C.hs, Dat.hs, get_cons, get_nil, zipSlots, List.getD_cons_zero, List.getD_cons_succ, List.getD_nil, -List.getD_eq_getElem?_getD, ht])⟩
    omega
  · have hcd : decide ((i : Int) < ss.length) = false := by simp; omega
    have e : i = ss.length := by omega
    subst e
    simp (dsimp := false) only [hcd, go_sem, Nat.reduceAdd, Nat.reduceBEq, Nat.reduceEqDiff, Nat.reduceLT, Nat.reduceLeDiff, reduceCtorEq, ↓reduceIte]
    refine afin [0, 2] [aS 1 ss.length] [rI ss, oI (tabR (vF ss) ss.length)] (by simp) rfl (weak_of (by decide) (by simp [RS.slot, List.map_cons, List.map_nil, rowsLe, rowLe, slotsLe, tvLe, TV.ren, AV.ren, C.ren, Dat.ren, Row.ren, TV.hs, AV.hs, C.hs, Dat.hs, get_cons, get_nil, zipSlots, List.getD_cons_zero, List.getD_cons_succ, List.getD_nil, -List.getD_eq_getElem?_getD])) (by simp [rtv])

/-- The reference's values of sums that may be any numbers. -/
theorem l10Values_l (ss : List Int) (h64 : ss.length ≤ 64) : ACalls Try.prog 80 [tS 0 ss.length] [] [rI ss] (fun t H => t = tS 1 ss.length ∧ H = [rI ss, oI (wList (sF ss) ss.length)]) := by
  have hwl := wList_len (sF ss)
  refine afun (fun i => match i with | 9 => some ⟨[], .nil⟩ | _ => none) [2] 1 Try.func80 rfl rfl mix (by kernel_rfl) (by kernel_rfl) (by simp [Try.f80]) rfl (by simp [msOwn, ownAll, Row.own]) ?_
  simp (dsimp := false) only [go_sem, Nat.reduceAdd, Nat.reduceBEq, Nat.reduceEqDiff, Nat.reduceLT, Nat.reduceLeDiff, reduceCtorEq, ↓reduceIte]
  refine aloop (σ := Nat) (fun i => ([(0, tS 0 ss.length), (3, tS 1 i), (4, tI i)], [rI ss, oI (wList (sF ss) i)])) (fun i => i ≤ ss.length) (fun i => ss.length - i) 0 [0, 1] (by omega) (weak_of (by decide) (by simp [RS.slot, List.map_cons, List.map_nil, rowsLe, rowLe, slotsLe, tvLe, TV.ren, AV.ren, C.ren, Dat.ren, Row.ren, TV.hs, AV.hs, C.hs, Dat.hs, get_cons, get_nil, zipSlots, List.getD_cons_zero, List.getD_cons_succ, List.getD_nil, -List.getD_eq_getElem?_getD, wList])) ?_
  intro i hi
  have hwi := hwl i
  by_cases hc : i < ss.length
  · have hcd : decide ((i : Int) < ss.length) = true := by simp; omega
    have hl := lowN_bd (n := i + 1) (by omega) (by omega)
    obtain ⟨lo, hlo⟩ : ∃ lo, lo = i + 1 - lowN (i + 1) := ⟨_, rfl⟩
    obtain ⟨cn, hcn⟩ : ∃ cn, cn = lowN (i + 1) - 1 := ⟨_, rfl⟩
    have hstep : wList (sF ss) (i + 1) = wList (sF ss) i ++ [wIn (fun k => (wList (sF ss) i).getD k 0) (ss.getD i 0) lo cn] := by rw [wList, ← hlo, ← hcn]; rfl
    simp (dsimp := false) only [hcd, go_sem, Nat.reduceAdd, Nat.reduceBEq, Nat.reduceEqDiff, Nat.reduceLT, Nat.reduceLeDiff, reduceCtorEq, ↓reduceIte]
    repeat (refine And.intro (by first | exact True.intro | omega | kernel_rfl | (simp only [List.length_set, List.length_append, List.length_take, List.length_replicate, List.length_cons, true_and, and_true, List.length_nil, tabR_length]; omega)) ?_)
    repeat (refine And.intro (by first | exact True.intro | omega | kernel_rfl | (simp only [List.length_set, List.length_append, List.length_take, List.length_replicate, List.length_cons, true_and, and_true, List.length_nil, tabR_length]; omega)) ?_)
    refine ⟨_, (l10Low_l (i + 1) (by omega) (by omega)).lift [] (by decide) (by simp) (by simp [RS.slot, List.map_cons, List.map_nil, rowsLe, rowLe, slotsLe, tvLe, TV.ren, AV.ren, C.ren, Dat.ren, Row.ren, TV.hs, AV.hs, C.hs, Dat.hs, get_cons, get_nil, zipSlots, List.getD_cons_zero, List.getD_cons_succ, List.getD_nil, -List.getD_eq_getElem?_getD]) (by simp [RS.slot, List.map_cons, List.map_nil, rowsLe, rowLe, slotsLe, tvLe, TV.ren, AV.ren, C.ren, Dat.ren, Row.ren, TV.hs, AV.hs, C.hs, Dat.hs, get_cons, get_nil, zipSlots, List.getD_cons_zero, List.getD_cons_succ, List.getD_nil, -List.getD_eq_getElem?_getD]) (by simp [RS.slot, List.map_cons, List.map_nil, rowsLe, rowLe, slotsLe, tvLe, TV.ren, AV.ren, C.ren, Dat.ren, Row.ren, TV.hs, AV.hs, C.hs, Dat.hs, get_cons, get_nil, zipSlots, List.getD_cons_zero, List.getD_cons_succ, List.getD_nil, -List.getD_eq_getElem?_getD]) rfl ?_⟩
    rintro _ _ ⟨rfl, rfl⟩
    refine ⟨by simp [ownIn, Row.own], ?_⟩
    simp (dsimp := false) only [liftT, liftH, putBack, freshR, ownIn, Row.own, Row.ren, TV.ren, AV.ren, C.ren, Dat.ren, List.drop_succ_cons, List.drop_nil, List.getD_cons_zero, List.getD_cons_succ, List.getD_nil, go_sem, Nat.reduceAdd, Nat.reduceBEq, Nat.reduceEqDiff, Nat.reduceLT, Nat.reduceLeDiff, reduceCtorEq, ↓reduceIte]
    repeat (refine And.intro (by first | exact True.intro | omega | kernel_rfl | (simp only [List.length_set, List.length_append, List.length_take, List.length_replicate, List.length_cons, true_and, and_true, List.length_nil, tabR_length]; omega)) ?_)
    refine aloop (σ := Nat) (fun j => ([(0, tS 0 ss.length), (3, tS 1 i), (4, tI i), (5, tI (wIn (fun k => (wList (sF ss) i).getD k 0) (ss.getD i 0) lo j)), (6, tI (lo + j : Nat))], [rI ss, oI (wList (sF ss) i)])) (fun j => j ≤ cn) (fun j => cn - j) 0 [0, 1] (by omega) (weak_of (by decide) (by simp [RS.slot, List.map_cons, List.map_nil, rowsLe, rowLe, slotsLe, tvLe, TV.ren, AV.ren, C.ren, Dat.ren, Row.ren, TV.hs, AV.hs, C.hs, Dat.hs, get_cons, get_nil, zipSlots, List.getD_cons_zero, List.getD_cons_succ, List.getD_nil, -List.getD_eq_getElem?_getD, wIn, show ((lo : Nat) : Int) = (i : Int) - (lowN (i + 1) : Nat) + 1 by omega])) ?_
    intro j hj
    by_cases hjc : j < cn
    · have hjd : decide (((lo + j : Nat) : Int) < i) = true := decide_eq_true (by omega)
      have hw : wIn (fun k => (wList (sF ss) i).getD k 0) (ss.getD i 0) lo (j + 1) = w64 (wIn (fun k => (wList (sF ss) i).getD k 0) (ss.getD i 0) lo j - (wList (sF ss) i).getD (lo + j) 0) := rfl
      simp (dsimp := false) only [hjd, go_sem, Nat.reduceAdd, Nat.reduceBEq, Nat.reduceEqDiff, Nat.reduceLT, Nat.reduceLeDiff, reduceCtorEq, ↓reduceIte]
      repeat (refine And.intro (by first | exact True.intro | omega | kernel_rfl | (simp only [List.length_set, List.length_append, List.length_take, List.length_replicate, List.length_cons, true_and, and_true, List.length_nil, tabR_length, hwi]; omega)) ?_)
      refine ⟨j + 1, [0, 1], ?_, weak_of (by decide) (by simp [RS.slot, List.map_cons, List.map_nil, rowsLe, rowLe, slotsLe, tvLe, TV.ren, AV.ren, C.ren, Dat.ren, Row.ren, TV.hs, AV.hs, C.hs, Dat.hs, get_cons, get_nil, zipSlots, List.getD_cons_zero, List.getD_cons_succ, List.getD_nil, -List.getD_eq_getElem?_getD, hw, Int.add_assoc])⟩
      omega
    · have hjd : decide (((lo + j : Nat) : Int) < i) = false := decide_eq_false (by omega)
      have ej : j = cn := by omega
      subst ej
      simp (dsimp := false) only [hjd, go_sem, Nat.reduceAdd, Nat.reduceBEq, Nat.reduceEqDiff, Nat.reduceLT, Nat.reduceLeDiff, reduceCtorEq, ↓reduceIte]
      repeat (refine And.intro (by first | exact True.intro | omega | kernel_rfl | (simp only [List.length_set, List.length_append, List.length_take, List.length_replicate, List.length_cons, true_and, and_true, List.length_nil, tabR_length, hwi]; omega)) ?_)
      refine ⟨i + 1, [0, 3], ?_, weak_of (by decide) (by simp [RS.slot, List.map_cons, List.map_nil, rowsLe, rowLe, slotsLe, tvLe, TV.ren, AV.ren, C.ren, Dat.ren, Row.ren, TV.hs, AV.hs, C.hs, Dat.hs, get_cons, get_nil, zipSlots, List.getD_cons_zero, List.getD_cons_succ, List.getD_nil, -List.getD_eq_getElem?_getD, hstep])⟩
      omega
  · have hcd : decide ((i : Int) < ss.length) = false := by simp; omega
    have e : i = ss.length := by omega
    subst e
    simp (dsimp := false) only [hcd, go_sem, Nat.reduceAdd, Nat.reduceBEq, Nat.reduceEqDiff, Nat.reduceLT, Nat.reduceLeDiff, reduceCtorEq, ↓reduceIte]
    refine afin [0, 1] [aS 1 ss.length] [rI ss, oI (wList (sF ss) ss.length)] (by simp) rfl (weak_of (by decide) (by simp [RS.slot, List.map_cons, List.map_nil, rowsLe, rowLe, slotsLe, tvLe, TV.ren, AV.ren, C.ren, Dat.ren, Row.ren, TV.hs, AV.hs, C.hs, Dat.hs, get_cons, get_nil, zipSlots, List.getD_cons_zero, List.getD_cons_succ, List.getD_nil, -List.getD_eq_getElem?_getD])) (by simp [rtv])
end Go.Proofs.Ytopblmkdpgncpaa
