/- Contracts: from an inversion table to its permutation, in the program and in the reference. -/
import Derived.Test.YtpoappgfmjnioaaDelB
import Derived.Test.YtpoappgfmjnioaaVal
set_option linter.unusedSimpArgs false
set_option linter.unusedVariables false
set_option linter.unusedSectionVars false
namespace Go.Proofs.Ytpoappgfmjnioaa
open Go Go.Ax
set_option maxRecDepth 10000
set_option maxHeartbeats 1000000

def idN (n : Nat) : List Int := tabR (fun i => (i : Int)) n
theorem idN_len (n : Nat) : (idN n).length = n := tabR_length _ _
theorem idN_succ (n : Nat) : idN (n + 1) = idN n ++ [(n : Int)] := tabR_succ _ _
/-- What is left after i entries, and what has been put out. -/
def restF (t : List Int) : Nat → List Int
  | 0 => idN t.length
  | i + 1 => delF (restF t i) (t.getD i 0).toNat
def outG (t : List Int) : Nat → List Int
  | 0 => []
  | i + 1 => outG t i ++ [(restF t i).getD (t.getD i 0).toNat 0]
theorem outG_len (t : List Int) : ∀ i, (outG t i).length = i
  | 0 => rfl
  | i + 1 => by simp [outG, outG_len t i]
def fiAt (t : List Int) (i : Nat) : Bool := inB (t.getD i 0) 0 (((t.length - i : Nat) : Int) - 1)
theorem fiAt_t {t : List Int} {i : Nat} (h : fiAt t i = true) : ∃ k : Nat, t.getD i 0 = (k : Int) ∧ k < t.length - i := by
  simp only [fiAt, inB, Bool.and_eq_true, decide_eq_true_eq] at h
  exact ⟨(t.getD i 0).toNat, by omega, by omega⟩
theorem restF_len {t : List Int} : ∀ i, i ≤ t.length → (∀ k, k < i → fiAt t k = true) → (restF t i).length = t.length - i
  | 0, _, _ => by rw [restF, idN_len]; rfl
  | i + 1, h, hk => by
    have h1 := restF_len i (by omega) (fun k hk2 => hk k (by omega))
    obtain ⟨k, e, hlt⟩ := fiAt_t (hk i (by omega))
    rw [restF, e, Int.toNat_natCast, delF_len (by omega)]; omega
def fiOk (t : List Int) : Bool := decide (t.length ≤ 64) && (List.range t.length).all (fiAt t)
theorem fiOk_t {t : List Int} (h : fiOk t = true) : t.length ≤ 64 ∧ ∀ i, i < t.length → fiAt t i = true := by
  simp only [fiOk, Bool.and_eq_true, decide_eq_true_eq, List.all_eq_true, List.mem_range] at h
  exact h
theorem fiOk_f {t : List Int} (h : fiOk t = false) (h64 : t.length ≤ 64) (hal : ∀ i, i < t.length → fiAt t i = true) : False := by
  have : fiOk t = true := by
    simp only [fiOk, Bool.and_eq_true, decide_eq_true_eq, List.all_eq_true, List.mem_range]
    exact ⟨h64, hal⟩
  rw [this] at h; cases h

theorem iFromInv_t (t : List Int) (h : fiOk t = true) : ACalls Try.prog 31 [tS 0 t.length] [] [rI t] (fun r H => r = .tup [aS 1 (outG t t.length).length, aB true] ∧ H = [rI t, oI (outG t t.length)]) := by
  rw [outG_len]
  obtain ⟨h64, hal⟩ := fiOk_t h
  have d0 : decide ((64 : Int) < t.length) = false := decide_eq_false (by omega)
  refine afun (fun _ => none) [2, 3] 1 Try.func31 rfl rfl mix (by kernel_rfl) (by kernel_rfl) (by simp [Try.f31]) rfl (by simp [msOwn, ownAll, Row.own]) ?_
  simp (dsimp := false) only [d0, go_sem, Nat.reduceAdd, Nat.reduceBEq, Nat.reduceEqDiff, Nat.reduceLT, Nat.reduceLeDiff, reduceCtorEq, ↓reduceIte]
  refine aloop (σ := Nat) (fun i => ([(0, tS 0 t.length), (5, tS 1 i), (6, tS 2 0), (16, tI t.length), (17, tI i)], [rI t, oI (idN i), oI []])) (fun i => i ≤ t.length) (fun i => t.length - i) 0 [0, 1, 2] (by omega) (weak_of (by decide) (by simp [RS.slot, List.map_cons, List.map_nil, rowsLe, rowLe, slotsLe, tvLe, TV.ren, AV.ren, C.ren, Dat.ren, Row.ren, TV.hs, AV.hs, C.hs, Dat.hs, get_cons, get_nil, zipSlots, List.getD_cons_zero, List.getD_cons_succ, List.getD_nil, -List.getD_eq_getElem?_getD, show idN 0 = [] from rfl])) ?_
  intro i hi
  have hl := idN_len i
  by_cases hc : i < t.length
  · have hcd : decide ((i : Int) < t.length) = true := by simp; omega
    have e := idN_succ i
    simp (dsimp := false) only [hcd, hl, go_sem, Nat.reduceAdd, Nat.reduceBEq, Nat.reduceEqDiff, Nat.reduceLT, Nat.reduceLeDiff, reduceCtorEq, ↓reduceIte]
    repeat (refine And.intro (by first | exact True.intro | omega | kernel_rfl | (simp only [List.length_set, List.length_append, List.length_take, List.length_replicate, List.length_cons, true_and, and_true, List.length_nil, tabR_length]; omega)) ?_)
    refine ⟨i + 1, [0, 4, 2], ?_, weak_of (by decide) (by simp [RS.slot, List.map_cons, List.map_nil, rowsLe, rowLe, slotsLe, tvLe, TV.ren, AV.ren, C.ren, Dat.ren, Row.ren, TV.hs, AV.hs, C.hs, Dat.hs, get_cons, get_nil, zipSlots, List.getD_cons_zero, List.getD_cons_succ, List.getD_nil, -List.getD_eq_getElem?_getD, e])⟩
    omega
  · have hcd : decide ((i : Int) < t.length) = false := by simp; omega
    have e : i = t.length := by omega
    subst e
    simp (dsimp := false) only [hcd, go_sem, Nat.reduceAdd, Nat.reduceBEq, Nat.reduceEqDiff, Nat.reduceLT, Nat.reduceLeDiff, reduceCtorEq, ↓reduceIte]
    refine aloop (σ := Nat) (fun i => ([(5, tS 1 (t.length - i)), (6, tS 2 i), (25, tS 0 t.length), (26, tI t.length), (27, tI i)], [rI t, oI (restF t i), oI (outG t i)])) (fun i => i ≤ t.length) (fun i => t.length - i) 0 [0, 1, 2] (by omega) (weak_of (by decide) (by simp [RS.slot, List.map_cons, List.map_nil, rowsLe, rowLe, slotsLe, tvLe, TV.ren, AV.ren, C.ren, Dat.ren, Row.ren, TV.hs, AV.hs, C.hs, Dat.hs, get_cons, get_nil, zipSlots, List.getD_cons_zero, List.getD_cons_succ, List.getD_nil, -List.getD_eq_getElem?_getD, restF, outG])) ?_
    intro i hi2
    have hrl := restF_len i hi2 (fun k hk => hal k (by omega))
    have hol := outG_len t i
    by_cases hc2 : i < t.length
    · have hcd2 : decide ((i : Int) < t.length) = true := by simp; omega
      have hf := hal i hc2
      obtain ⟨k, ek, hk⟩ := fiAt_t hf
      have hin : inB (k : Int) 0 (((t.length - i : Nat) : Int) - 1) = true := by rw [← ek]; exact hf
      have hdel := delete_l (restF t i) k (by omega) (by omega)
      rw [hrl, Nat.sub_sub] at hdel
      have e1 : (k : Int) + 1 = ((k + 1 : Nat) : Int) := by omega
      have e2 : restF t (i + 1) = delF (restF t i) k := by rw [restF, ek, Int.toNat_natCast]
      have e3 : outG t (i + 1) = outG t i ++ [(restF t i).getD k 0] := by rw [outG, ek, Int.toNat_natCast]
      simp (dsimp := false) only [hcd2, ek, Int.toNat_natCast, go_sem, Nat.reduceAdd, Nat.reduceBEq, Nat.reduceEqDiff, Nat.reduceLT, Nat.reduceLeDiff, reduceCtorEq, ↓reduceIte]
      repeat (refine And.intro (by first | exact True.intro | omega | kernel_rfl | (simp only [List.length_set, List.length_append, List.length_take, List.length_replicate, List.length_cons, true_and, and_true, List.length_nil, tabR_length]; omega)) ?_)
      repeat (refine And.intro (by first | exact True.intro | omega | kernel_rfl | (simp only [List.length_set, List.length_append, List.length_take, List.length_replicate, List.length_cons, true_and, and_true, List.length_nil, tabR_length]; omega)) ?_)
      refine ⟨_, (in_l k 0 (((t.length - i : Nat) : Int) - 1)).lift [] (by decide) (by simp) (by simp [RS.slot, List.map_cons, List.map_nil, rowsLe, rowLe, slotsLe, tvLe, TV.ren, AV.ren, C.ren, Dat.ren, Row.ren, TV.hs, AV.hs, C.hs, Dat.hs, get_cons, get_nil, zipSlots, List.getD_cons_zero, List.getD_cons_succ, List.getD_nil, -List.getD_eq_getElem?_getD]) (by simp [RS.slot, List.map_cons, List.map_nil, rowsLe, rowLe, slotsLe, tvLe, TV.ren, AV.ren, C.ren, Dat.ren, Row.ren, TV.hs, AV.hs, C.hs, Dat.hs, get_cons, get_nil, zipSlots, List.getD_cons_zero, List.getD_cons_succ, List.getD_nil, -List.getD_eq_getElem?_getD]) (by simp [RS.slot, List.map_cons, List.map_nil, rowsLe, rowLe, slotsLe, tvLe, TV.ren, AV.ren, C.ren, Dat.ren, Row.ren, TV.hs, AV.hs, C.hs, Dat.hs, get_cons, get_nil, zipSlots, List.getD_cons_zero, List.getD_cons_succ, List.getD_nil, -List.getD_eq_getElem?_getD]) rfl ?_⟩
      rintro _ _ ⟨rfl, rfl⟩
      refine ⟨by simp [ownIn, Row.own], ?_⟩
      simp (dsimp := false) only [hin, hol, e1, Int.toNat_natCast, liftT, liftH, putBack, freshR, ownIn, Row.own, Row.ren, TV.ren, AV.ren, C.ren, Dat.ren, List.drop_succ_cons, List.drop_nil, List.getD_cons_zero, List.getD_cons_succ, List.getD_nil, go_sem, Nat.reduceAdd, Nat.reduceBEq, Nat.reduceEqDiff, Nat.reduceLT, Nat.reduceLeDiff, reduceCtorEq, ↓reduceIte]
      repeat (refine And.intro (by first | exact True.intro | omega | kernel_rfl | (simp only [List.length_set, List.length_append, List.length_take, List.length_replicate, List.length_cons, true_and, and_true, List.length_nil, tabR_length]; omega)) ?_)
      repeat (refine And.intro (by first | exact True.intro | omega | kernel_rfl | (simp only [List.length_set, List.length_append, List.length_take, List.length_replicate, List.length_cons, true_and, and_true, List.length_nil, tabR_length]; omega)) ?_)
      refine ⟨_, (hdel).lift [1] (by decide) (by simp) (by simp [RS.slot, List.map_cons, List.map_nil, rowsLe, rowLe, slotsLe, tvLe, TV.ren, AV.ren, C.ren, Dat.ren, Row.ren, TV.hs, AV.hs, C.hs, Dat.hs, get_cons, get_nil, zipSlots, List.getD_cons_zero, List.getD_cons_succ, List.getD_nil, -List.getD_eq_getElem?_getD]) (by simp [RS.slot, List.map_cons, List.map_nil, rowsLe, rowLe, slotsLe, tvLe, TV.ren, AV.ren, C.ren, Dat.ren, Row.ren, TV.hs, AV.hs, C.hs, Dat.hs, get_cons, get_nil, zipSlots, List.getD_cons_zero, List.getD_cons_succ, List.getD_nil, -List.getD_eq_getElem?_getD]) (by simp [RS.slot, List.map_cons, List.map_nil, rowsLe, rowLe, slotsLe, tvLe, TV.ren, AV.ren, C.ren, Dat.ren, Row.ren, TV.hs, AV.hs, C.hs, Dat.hs, get_cons, get_nil, zipSlots, List.getD_cons_zero, List.getD_cons_succ, List.getD_nil, -List.getD_eq_getElem?_getD]) rfl ?_⟩
      rintro _ _ ⟨rfl, rfl⟩
      refine ⟨by simp [ownIn, Row.own], ?_⟩
      simp (dsimp := false) only [hin, liftT, liftH, putBack, freshR, ownIn, Row.own, Row.ren, TV.ren, AV.ren, C.ren, Dat.ren, List.drop_succ_cons, List.drop_nil, List.getD_cons_zero, List.getD_cons_succ, List.getD_nil, go_sem, Nat.reduceAdd, Nat.reduceBEq, Nat.reduceEqDiff, Nat.reduceLT, Nat.reduceLeDiff, reduceCtorEq, ↓reduceIte]
      repeat (refine And.intro (by first | exact True.intro | omega | kernel_rfl | (simp only [List.length_set, List.length_append, List.length_take, List.length_replicate, List.length_cons, true_and, and_true, List.length_nil, tabR_length]; omega)) ?_)
      refine ⟨i + 1, [0, 1, 4], ?_, weak_of (by decide) (by simp [RS.slot, List.map_cons, List.map_nil, rowsLe, rowLe, slotsLe, tvLe, TV.ren, AV.ren, C.ren, Dat.ren, Row.ren, TV.hs, AV.hs, C.hs, Dat.hs, get_cons, get_nil, zipSlots, List.getD_cons_zero, List.getD_cons_succ, List.getD_nil, -List.getD_eq_getElem?_getD, e2, e3])⟩
      omega
    · have hcd2 : decide ((i : Int) < t.length) = false := by simp; omega
      have e : i = t.length := by omega
      subst e
      simp (dsimp := false) only [hcd2, go_sem, Nat.reduceAdd, Nat.reduceBEq, Nat.reduceEqDiff, Nat.reduceLT, Nat.reduceLeDiff, reduceCtorEq, ↓reduceIte]
      refine afin [0, 2] [aS 1 t.length, aB true] [rI t, oI (outG t t.length)] (by simp) rfl (weak_of (by decide) (by simp [RS.slot, List.map_cons, List.map_nil, rowsLe, rowLe, slotsLe, tvLe, TV.ren, AV.ren, C.ren, Dat.ren, Row.ren, TV.hs, AV.hs, C.hs, Dat.hs, get_cons, get_nil, zipSlots, List.getD_cons_zero, List.getD_cons_succ, List.getD_nil, -List.getD_eq_getElem?_getD])) (by simp [rtv])
theorem iFromInv_f (t : List Int) (hx : t.length ≤ 281474976710656) (h : fiOk t = false) : ACalls Try.prog 31 [tS 0 t.length] [] [rI t] (fun r H => r = .tup [aN, aB false] ∧ H = [rI t]) := by
  by_cases h64 : t.length ≤ 64
  · have d0 : decide ((64 : Int) < t.length) = false := decide_eq_false (by omega)
    refine afun (fun _ => none) [2, 3] 1 Try.func31 rfl rfl mix (by kernel_rfl) (by kernel_rfl) (by simp [Try.f31]) rfl (by simp [msOwn, ownAll, Row.own]) ?_
    simp (dsimp := false) only [d0, go_sem, Nat.reduceAdd, Nat.reduceBEq, Nat.reduceEqDiff, Nat.reduceLT, Nat.reduceLeDiff, reduceCtorEq, ↓reduceIte]
    refine aloop (σ := Nat) (fun i => ([(0, tS 0 t.length), (5, tS 1 i), (6, tS 2 0), (16, tI t.length), (17, tI i)], [rI t, oI (idN i), oI []])) (fun i => i ≤ t.length) (fun i => t.length - i) 0 [0, 1, 2] (by omega) (weak_of (by decide) (by simp [RS.slot, List.map_cons, List.map_nil, rowsLe, rowLe, slotsLe, tvLe, TV.ren, AV.ren, C.ren, Dat.ren, Row.ren, TV.hs, AV.hs, C.hs, Dat.hs, get_cons, get_nil, zipSlots, List.getD_cons_zero, List.getD_cons_succ, List.getD_nil, -List.getD_eq_getElem?_getD, show idN 0 = [] from rfl])) ?_
    intro i hi
    have hl := idN_len i
    by_cases hc : i < t.length
    · have hcd : decide ((i : Int) < t.length) = true := by simp; omega
      have e := idN_succ i
      simp (dsimp := false) only [hcd, hl, go_sem, Nat.reduceAdd, Nat.reduceBEq, Nat.reduceEqDiff, Nat.reduceLT, Nat.reduceLeDiff, reduceCtorEq, ↓reduceIte]
      repeat (refine And.intro (by first | exact True.intro | omega | kernel_rfl | (simp only [List.length_set, List.length_append, List.length_take, List.length_replicate, List.length_cons, true_and, and_true, List.length_nil, tabR_length]; omega)) ?_)
      refine ⟨i + 1, [0, 4, 2], ?_, weak_of (by decide) (by simp [RS.slot, List.map_cons, List.map_nil, rowsLe, rowLe, slotsLe, tvLe, TV.ren, AV.ren, C.ren, Dat.ren, Row.ren, TV.hs, AV.hs, C.hs, Dat.hs, get_cons, get_nil, zipSlots, List.getD_cons_zero, List.getD_cons_succ, List.getD_nil, -List.getD_eq_getElem?_getD, e])⟩
      omega
    · have hcd : decide ((i : Int) < t.length) = false := by simp; omega
      have e : i = t.length := by omega
      subst e
      simp (dsimp := false) only [hcd, go_sem, Nat.reduceAdd, Nat.reduceBEq, Nat.reduceEqDiff, Nat.reduceLT, Nat.reduceLeDiff, reduceCtorEq, ↓reduceIte]
      refine aloop (σ := Nat) (fun i => ([(5, tS 1 (t.length - i)), (6, tS 2 i), (25, tS 0 t.length), (26, tI t.length), (27, tI i)], [rI t, oI (restF t i), oI (outG t i)])) (fun i => i ≤ t.length ∧ ∀ k, k < i → fiAt t k = true) (fun i => t.length - i) 0 [0, 1, 2] ⟨by omega, fun k hk => by omega⟩ (weak_of (by decide) (by simp [RS.slot, List.map_cons, List.map_nil, rowsLe, rowLe, slotsLe, tvLe, TV.ren, AV.ren, C.ren, Dat.ren, Row.ren, TV.hs, AV.hs, C.hs, Dat.hs, get_cons, get_nil, zipSlots, List.getD_cons_zero, List.getD_cons_succ, List.getD_nil, -List.getD_eq_getElem?_getD, restF, outG])) ?_
      rintro i ⟨hi2, hal⟩
      have hrl := restF_len i hi2 hal
      have hol := outG_len t i
      by_cases hc2 : i < t.length
      · have hcd2 : decide ((i : Int) < t.length) = true := by simp; omega
        cases hf : fiAt t i
        · have hin : inB (t.getD i 0) 0 (((t.length - i : Nat) : Int) - 1) = false := hf
          simp (dsimp := false) only [hcd2, Int.toNat_natCast, go_sem, Nat.reduceAdd, Nat.reduceBEq, Nat.reduceEqDiff, Nat.reduceLT, Nat.reduceLeDiff, reduceCtorEq, ↓reduceIte]
          repeat (refine And.intro (by first | exact True.intro | omega | kernel_rfl | (simp only [List.length_set, List.length_append, List.length_take, List.length_replicate, List.length_cons, true_and, and_true, List.length_nil, tabR_length]; omega)) ?_)
          repeat (refine And.intro (by first | exact True.intro | omega | kernel_rfl | (simp only [List.length_set, List.length_append, List.length_take, List.length_replicate, List.length_cons, true_and, and_true, List.length_nil, tabR_length]; omega)) ?_)
          refine ⟨_, (in_l (t.getD i 0) 0 (((t.length - i : Nat) : Int) - 1)).lift [] (by decide) (by simp) (by simp [RS.slot, List.map_cons, List.map_nil, rowsLe, rowLe, slotsLe, tvLe, TV.ren, AV.ren, C.ren, Dat.ren, Row.ren, TV.hs, AV.hs, C.hs, Dat.hs, get_cons, get_nil, zipSlots, List.getD_cons_zero, List.getD_cons_succ, List.getD_nil, -List.getD_eq_getElem?_getD]) (by simp [RS.slot, List.map_cons, List.map_nil, rowsLe, rowLe, slotsLe, tvLe, TV.ren, AV.ren, C.ren, Dat.ren, Row.ren, TV.hs, AV.hs, C.hs, Dat.hs, get_cons, get_nil, zipSlots, List.getD_cons_zero, List.getD_cons_succ, List.getD_nil, -List.getD_eq_getElem?_getD]) (by simp [RS.slot, List.map_cons, List.map_nil, rowsLe, rowLe, slotsLe, tvLe, TV.ren, AV.ren, C.ren, Dat.ren, Row.ren, TV.hs, AV.hs, C.hs, Dat.hs, get_cons, get_nil, zipSlots, List.getD_cons_zero, List.getD_cons_succ, List.getD_nil, -List.getD_eq_getElem?_getD]) rfl ?_⟩
          rintro _ _ ⟨rfl, rfl⟩
          refine ⟨by simp [ownIn, Row.own], ?_⟩
          simp (dsimp := false) only [hin, Int.toNat_natCast, liftT, liftH, putBack, freshR, ownIn, Row.own, Row.ren, TV.ren, AV.ren, C.ren, Dat.ren, List.drop_succ_cons, List.drop_nil, List.getD_cons_zero, List.getD_cons_succ, List.getD_nil, go_sem, Nat.reduceAdd, Nat.reduceBEq, Nat.reduceEqDiff, Nat.reduceLT, Nat.reduceLeDiff, reduceCtorEq, ↓reduceIte]
          refine afin [0] [aN, aB false] [rI t] (by simp) rfl (weak_of (by decide) (by simp [RS.slot, List.map_cons, List.map_nil, rowsLe, rowLe, slotsLe, tvLe, TV.ren, AV.ren, C.ren, Dat.ren, Row.ren, TV.hs, AV.hs, C.hs, Dat.hs, get_cons, get_nil, zipSlots, List.getD_cons_zero, List.getD_cons_succ, List.getD_nil, -List.getD_eq_getElem?_getD])) (by simp [rtv])
        · obtain ⟨k, ek, hk⟩ := fiAt_t hf
          have hin : inB (k : Int) 0 (((t.length - i : Nat) : Int) - 1) = true := by rw [← ek]; exact hf
          have hdel := delete_l (restF t i) k (by omega) (by omega)
          rw [hrl, Nat.sub_sub] at hdel
          have e1 : (k : Int) + 1 = ((k + 1 : Nat) : Int) := by omega
          have e2 : restF t (i + 1) = delF (restF t i) k := by rw [restF, ek, Int.toNat_natCast]
          have e3 : outG t (i + 1) = outG t i ++ [(restF t i).getD k 0] := by rw [outG, ek, Int.toNat_natCast]
          simp (dsimp := false) only [hcd2, ek, Int.toNat_natCast, go_sem, Nat.reduceAdd, Nat.reduceBEq, Nat.reduceEqDiff, Nat.reduceLT, Nat.reduceLeDiff, reduceCtorEq, ↓reduceIte]
          repeat (refine And.intro (by first | exact True.intro | omega | kernel_rfl | (simp only [List.length_set, List.length_append, List.length_take, List.length_replicate, List.length_cons, true_and, and_true, List.length_nil, tabR_length]; omega)) ?_)
          repeat (refine And.intro (by first | exact True.intro | omega | kernel_rfl | (simp only [List.length_set, List.length_append, List.length_take, List.length_replicate, List.length_cons, true_and, and_true, List.length_nil, tabR_length]; omega)) ?_)
          refine ⟨_, (in_l k 0 (((t.length - i : Nat) : Int) - 1)).lift [] (by decide) (by simp) (by simp [RS.slot, List.map_cons, List.map_nil, rowsLe, rowLe, slotsLe, tvLe, TV.ren, AV.ren, C.ren, Dat.ren, Row.ren, TV.hs, AV.hs, C.hs, Dat.hs, get_cons, get_nil, zipSlots, List.getD_cons_zero, List.getD_cons_succ, List.getD_nil, -List.getD_eq_getElem?_getD]) (by simp [RS.slot, List.map_cons, List.map_nil, rowsLe, rowLe, slotsLe, tvLe, TV.ren, AV.ren, C.ren, Dat.ren, Row.ren, TV.hs, AV.hs, C.hs, Dat.hs, get_cons, get_nil, zipSlots, List.getD_cons_zero, List.getD_cons_succ, List.getD_nil, -List.getD_eq_getElem?_getD]) (by simp [RS.slot, List.map_cons, List.map_nil, rowsLe, rowLe, slotsLe, tvLe, TV.ren, AV.ren, C.ren, Dat.ren, Row.ren, TV.hs, AV.hs, C.hs, Dat.hs, get_cons, get_nil, zipSlots, List.getD_cons_zero, List.getD_cons_succ, List.getD_nil, -List.getD_eq_getElem?_getD]) rfl ?_⟩
          rintro _ _ ⟨rfl, rfl⟩
          refine ⟨by simp [ownIn, Row.own], ?_⟩
          simp (dsimp := false) only [hin, hol, e1, Int.toNat_natCast, liftT, liftH, putBack, freshR, ownIn, Row.own, Row.ren, TV.ren, AV.ren, C.ren, Dat.ren, List.drop_succ_cons, List.drop_nil, List.getD_cons_zero, List.getD_cons_succ, List.getD_nil, go_sem, Nat.reduceAdd, Nat.reduceBEq, Nat.reduceEqDiff, Nat.reduceLT, Nat.reduceLeDiff, reduceCtorEq, ↓reduceIte]
          repeat (refine And.intro (by first | exact True.intro | omega | kernel_rfl | (simp only [List.length_set, List.length_append, List.length_take, List.length_replicate, List.length_cons, true_and, and_true, List.length_nil, tabR_length]; omega)) ?_)
          repeat (refine And.intro (by first | exact True.intro | omega | kernel_rfl | (simp only [List.length_set, List.length_append, List.length_take, List.length_replicate, List.length_cons, true_and, and_true, List.length_nil, tabR_length]; omega)) ?_)
          refine ⟨_, (hdel).lift [1] (by decide) (by simp) (by simp [RS.slot, List.map_cons, List.map_nil, rowsLe, rowLe, slotsLe, tvLe, TV.ren, AV.ren, C.ren, Dat.ren, Row.ren, TV.hs, AV.hs, C.hs, Dat.hs, get_cons, get_nil, zipSlots, List.getD_cons_zero, List.getD_cons_succ, List.getD_nil, -List.getD_eq_getElem?_getD]) (by simp [RS.slot, List.map_cons, List.map_nil, rowsLe, rowLe, slotsLe, tvLe, TV.ren, AV.ren, C.ren, Dat.ren, Row.ren, TV.hs, AV.hs, C.hs, Dat.hs, get_cons, get_nil, zipSlots, List.getD_cons_zero, List.getD_cons_succ, List.getD_nil, -List.getD_eq_getElem?_getD]) (by simp [RS.slot, List.map_cons, List.map_nil, rowsLe, rowLe, slotsLe, tvLe, TV.ren, AV.ren, C.ren, Dat.ren, Row.ren, TV.hs, AV.hs, C.hs, Dat.hs, get_cons, get_nil, zipSlots, List.getD_cons_zero, List.getD_cons_succ, List.getD_nil, -List.getD_eq_getElem?_getD]) rfl ?_⟩
          rintro _ _ ⟨rfl, rfl⟩
          refine ⟨by simp [ownIn, Row.own], ?_⟩
          simp (dsimp := false) only [hin, liftT, liftH, putBack, freshR, ownIn, Row.own, Row.ren, TV.ren, AV.ren, C.ren, Dat.ren, List.drop_succ_cons, List.drop_nil, List.getD_cons_zero, List.getD_cons_succ, List.getD_nil, go_sem, Nat.reduceAdd, Nat.reduceBEq, Nat.reduceEqDiff, Nat.reduceLT, Nat.reduceLeDiff, reduceCtorEq, ↓reduceIte]
          repeat (refine And.intro (by first | exact True.intro | omega | kernel_rfl | (simp only [List.length_set, List.length_append, List.length_take, List.length_replicate, List.length_cons, true_and, and_true, List.length_nil, tabR_length]; omega)) ?_)
          refine ⟨i + 1, [0, 1, 4], ?_, weak_of (by decide) (by simp [RS.slot, List.map_cons, List.map_nil, rowsLe, rowLe, slotsLe, tvLe, TV.ren, AV.ren, C.ren, Dat.ren, Row.ren, TV.hs, AV.hs, C.hs, Dat.hs, get_cons, get_nil, zipSlots, List.getD_cons_zero, List.getD_cons_succ, List.getD_nil, -List.getD_eq_getElem?_getD, e2, e3])⟩
          refine ⟨⟨by omega, fun j hj => ?_⟩, by omega⟩
          by_cases e : j = i
          · subst e; exact hf
          · exact hal j (by omega)
      · exfalso
        exact fiOk_f h h64 (fun k hk => hal k (by omega))
  · have d0 : decide ((64 : Int) < t.length) = true := decide_eq_true (by omega)
    refine afun (fun _ => none) [2, 3] 1 Try.func31 rfl rfl mix (by kernel_rfl) (by kernel_rfl) (by simp [Try.f31]) rfl (by simp [msOwn, ownAll, Row.own]) ?_
    simp (dsimp := false) only [d0, go_sem, Nat.reduceAdd, Nat.reduceBEq, Nat.reduceEqDiff, Nat.reduceLT, Nat.reduceLeDiff, reduceCtorEq, ↓reduceIte]
    refine afin [0] [aN, aB false] [rI t] (by simp) rfl (weak_of (by decide) (by simp [RS.slot, List.map_cons, List.map_nil, rowsLe, rowLe, slotsLe, tvLe, TV.ren, AV.ren, C.ren, Dat.ren, Row.ren, TV.hs, AV.hs, C.hs, Dat.hs, get_cons, get_nil, zipSlots, List.getD_cons_zero, List.getD_cons_succ, List.getD_nil, -List.getD_eq_getElem?_getD])) (by simp [rtv])

theorem sFromInv_t (t : List Int) (h : fiOk t = true) : ACalls Try.prog 30 [tS 0 t.length] [] [rI t] (fun r H => r = .tup [aS 1 (outG t t.length).length, aB true] ∧ H = [rI t, oI (outG t t.length)]) := by
  rw [outG_len]
  obtain ⟨h64, hal⟩ := fiOk_t h
  have d0 : decide ((64 : Int) < t.length) = false := decide_eq_false (by omega)
  refine afun (fun i => match i with | 15 => some ⟨[], .op 1 .held (.op 2 .held (.op 3 .held (.op 4 .held (.op 8 .held (.op 9 .held (.op 10 .held (.op 11 .held (.op 5 .held (.op 6 .held (.op 12 .held (.op 13 .held (.op 14 .held (.op 0 .only (.op 7 .only (.op 15 .only (.op 16 .held .nil))))))))))))))))⟩ | _ => none) [2, 3] 1 Try.func30 rfl rfl mix (by kernel_rfl) (by kernel_rfl) (by simp [Try.f30]) rfl (by simp [msOwn, ownAll, Row.own]) ?_
  simp (dsimp := false) only [d0, go_sem, Nat.reduceAdd, Nat.reduceBEq, Nat.reduceEqDiff, Nat.reduceLT, Nat.reduceLeDiff, reduceCtorEq, ↓reduceIte]
  refine aloop (σ := Nat) (fun i => ([(0, tS 0 t.length), (4, tS 1 i), (5, tI i)], [rI t, oI (idN i)])) (fun i => i ≤ t.length) (fun i => t.length - i) 0 [0, 1] (by omega) (weak_of (by decide) (by simp [RS.slot, List.map_cons, List.map_nil, rowsLe, rowLe, slotsLe, tvLe, TV.ren, AV.ren, C.ren, Dat.ren, Row.ren, TV.hs, AV.hs, C.hs, Dat.hs, get_cons, get_nil, zipSlots, List.getD_cons_zero, List.getD_cons_succ, List.getD_nil, -List.getD_eq_getElem?_getD, show idN 0 = [] from rfl])) ?_
  intro i hi
  have hl := idN_len i
  by_cases hc : i < t.length
  · have hcd : decide ((i : Int) < t.length) = true := by simp; omega
    have e := idN_succ i
    simp (dsimp := false) only [hcd, hl, go_sem, Nat.reduceAdd, Nat.reduceBEq, Nat.reduceEqDiff, Nat.reduceLT, Nat.reduceLeDiff, reduceCtorEq, ↓reduceIte]
    repeat (refine And.intro (by first | exact True.intro | omega | kernel_rfl | (simp only [List.length_set, List.length_append, List.length_take, List.length_replicate, List.length_cons, true_and, and_true, List.length_nil, tabR_length]; omega)) ?_)
    refine ⟨i + 1, [0, 3], ?_, weak_of (by decide) (by simp [RS.slot, List.map_cons, List.map_nil, rowsLe, rowLe, slotsLe, tvLe, TV.ren, AV.ren, C.ren, Dat.ren, Row.ren, TV.hs, AV.hs, C.hs, Dat.hs, get_cons, get_nil, zipSlots, List.getD_cons_zero, List.getD_cons_succ, List.getD_nil, -List.getD_eq_getElem?_getD, e])⟩
    omega
  · have hcd : decide ((i : Int) < t.length) = false := by simp; omega
    have e : i = t.length := by omega
    subst e
    simp (dsimp := false) only [hcd, go_sem, Nat.reduceAdd, Nat.reduceBEq, Nat.reduceEqDiff, Nat.reduceLT, Nat.reduceLeDiff, reduceCtorEq, ↓reduceIte]
    refine aloop (σ := Nat) (fun i => ([(0, tS 0 t.length), (4, tS 1 (t.length - i)), (6, tS 2 i), (7, tI i)], [rI t, oI (restF t i), oI (outG t i)])) (fun i => i ≤ t.length) (fun i => t.length - i) 0 [0, 1, 2] (by omega) (weak_of (by decide) (by simp [RS.slot, List.map_cons, List.map_nil, rowsLe, rowLe, slotsLe, tvLe, TV.ren, AV.ren, C.ren, Dat.ren, Row.ren, TV.hs, AV.hs, C.hs, Dat.hs, get_cons, get_nil, zipSlots, List.getD_cons_zero, List.getD_cons_succ, List.getD_nil, -List.getD_eq_getElem?_getD, restF, outG])) ?_
    intro i hi2
    have hrl := restF_len i hi2 (fun k hk => hal k (by omega))
    have hol := outG_len t i
    by_cases hc2 : i < t.length
    · have hcd2 : decide ((i : Int) < t.length) = true := by simp; omega
      have hf := hal i hc2
      obtain ⟨k, ek, hk⟩ := fiAt_t hf
      have hin : inB (k : Int) 0 (((t.length - i : Nat) : Int) - 1) = true := by rw [← ek]; exact hf
      have e1 : (k : Int) + 1 = ((k + 1 : Nat) : Int) := by omega
      have e2 : restF t (i + 1) = (restF t i).take k ++ ((restF t i).drop (k + 1)).take (t.length - i - (k + 1)) := by
        have e9 : ((restF t i).drop (k + 1)).take (t.length - i - (k + 1)) = (restF t i).drop (k + 1) := List.take_of_length_le (by simp; omega)
        rw [restF, ek, Int.toNat_natCast, e9]; rfl
      have e3 : outG t (i + 1) = outG t i ++ [(restF t i).getD k 0] := by rw [outG, ek, Int.toNat_natCast]
      have e4 : k + (t.length - i - (k + 1)) = t.length - (i + 1) := by omega
      have e5 : ((restF t i).take k).length = k := by simp; omega
      simp (dsimp := false) only [hcd2, ek, Int.toNat_natCast, go_sem, Nat.reduceAdd, Nat.reduceBEq, Nat.reduceEqDiff, Nat.reduceLT, Nat.reduceLeDiff, reduceCtorEq, ↓reduceIte]
      repeat (refine And.intro (by first | exact True.intro | omega | kernel_rfl | (simp only [List.length_set, List.length_append, List.length_take, List.length_replicate, List.length_cons, true_and, and_true, List.length_nil, tabR_length]; omega)) ?_)
      repeat (refine And.intro (by first | exact True.intro | omega | kernel_rfl | (simp only [List.length_set, List.length_append, List.length_take, List.length_replicate, List.length_cons, true_and, and_true, List.length_nil, tabR_length]; omega)) ?_)
      refine ⟨_, (l1In_l k 0 (((t.length - i : Nat) : Int) - 1)).lift [] (by decide) (by simp) (by simp [RS.slot, List.map_cons, List.map_nil, rowsLe, rowLe, slotsLe, tvLe, TV.ren, AV.ren, C.ren, Dat.ren, Row.ren, TV.hs, AV.hs, C.hs, Dat.hs, get_cons, get_nil, zipSlots, List.getD_cons_zero, List.getD_cons_succ, List.getD_nil, -List.getD_eq_getElem?_getD]) (by simp [RS.slot, List.map_cons, List.map_nil, rowsLe, rowLe, slotsLe, tvLe, TV.ren, AV.ren, C.ren, Dat.ren, Row.ren, TV.hs, AV.hs, C.hs, Dat.hs, get_cons, get_nil, zipSlots, List.getD_cons_zero, List.getD_cons_succ, List.getD_nil, -List.getD_eq_getElem?_getD]) (by simp [RS.slot, List.map_cons, List.map_nil, rowsLe, rowLe, slotsLe, tvLe, TV.ren, AV.ren, C.ren, Dat.ren, Row.ren, TV.hs, AV.hs, C.hs, Dat.hs, get_cons, get_nil, zipSlots, List.getD_cons_zero, List.getD_cons_succ, List.getD_nil, -List.getD_eq_getElem?_getD]) rfl ?_⟩
      rintro _ _ ⟨rfl, rfl⟩
      refine ⟨by simp [ownIn, Row.own], ?_⟩
      simp (dsimp := false) only [hin, hol, ek, e1, e5, Int.toNat_natCast, Int.toNat_zero, Nat.sub_zero, liftT, liftH, putBack, freshR, ownIn, Row.own, Row.ren, TV.ren, AV.ren, C.ren, Dat.ren, List.drop_succ_cons, List.drop_nil, List.getD_cons_zero, List.getD_cons_succ, List.getD_nil, go_sem, Nat.reduceAdd, Nat.reduceBEq, Nat.reduceEqDiff, Nat.reduceLT, Nat.reduceLeDiff, reduceCtorEq, ↓reduceIte]
      repeat (refine And.intro (by first | exact True.intro | omega | kernel_rfl | (simp only [List.length_set, List.length_append, List.length_take, List.length_replicate, List.length_cons, true_and, and_true, List.length_nil, tabR_length]; omega)) ?_)
      refine ⟨i + 1, [0, 7, 4], ?_, weak_of (by decide) (by simp [RS.slot, List.map_cons, List.map_nil, rowsLe, rowLe, slotsLe, tvLe, TV.ren, AV.ren, C.ren, Dat.ren, Row.ren, TV.hs, AV.hs, C.hs, Dat.hs, get_cons, get_nil, zipSlots, List.getD_cons_zero, List.getD_cons_succ, List.getD_nil, -List.getD_eq_getElem?_getD, e2, e3, e4])⟩
      omega
    · have hcd2 : decide ((i : Int) < t.length) = false := by simp; omega
      have e : i = t.length := by omega
      subst e
      simp (dsimp := false) only [hcd2, go_sem, Nat.reduceAdd, Nat.reduceBEq, Nat.reduceEqDiff, Nat.reduceLT, Nat.reduceLeDiff, reduceCtorEq, ↓reduceIte]
      refine afin [0, 2] [aS 1 t.length, aB true] [rI t, oI (outG t t.length)] (by simp) rfl (weak_of (by decide) (by simp [RS.slot, List.map_cons, List.map_nil, rowsLe, rowLe, slotsLe, tvLe, TV.ren, AV.ren, C.ren, Dat.ren, Row.ren, TV.hs, AV.hs, C.hs, Dat.hs, get_cons, get_nil, zipSlots, List.getD_cons_zero, List.getD_cons_succ, List.getD_nil, -List.getD_eq_getElem?_getD])) (by simp [rtv])
theorem sFromInv_f (t : List Int) (hx : t.length ≤ 281474976710656) (h : fiOk t = false) : ACalls Try.prog 30 [tS 0 t.length] [] [rI t] (fun r H => r = .tup [aN, aB false] ∧ H = [rI t]) := by
  by_cases h64 : t.length ≤ 64
  · have d0 : decide ((64 : Int) < t.length) = false := decide_eq_false (by omega)
    refine afun (fun i => match i with | 15 => some ⟨[], .op 1 .held (.op 2 .held (.op 3 .held (.op 4 .held (.op 8 .held (.op 9 .held (.op 10 .held (.op 11 .held (.op 5 .held (.op 6 .held (.op 12 .held (.op 13 .held (.op 14 .held (.op 0 .only (.op 7 .only (.op 15 .only (.op 16 .held .nil))))))))))))))))⟩ | _ => none) [2, 3] 1 Try.func30 rfl rfl mix (by kernel_rfl) (by kernel_rfl) (by simp [Try.f30]) rfl (by simp [msOwn, ownAll, Row.own]) ?_
    simp (dsimp := false) only [d0, go_sem, Nat.reduceAdd, Nat.reduceBEq, Nat.reduceEqDiff, Nat.reduceLT, Nat.reduceLeDiff, reduceCtorEq, ↓reduceIte]
    refine aloop (σ := Nat) (fun i => ([(0, tS 0 t.length), (4, tS 1 i), (5, tI i)], [rI t, oI (idN i)])) (fun i => i ≤ t.length) (fun i => t.length - i) 0 [0, 1] (by omega) (weak_of (by decide) (by simp [RS.slot, List.map_cons, List.map_nil, rowsLe, rowLe, slotsLe, tvLe, TV.ren, AV.ren, C.ren, Dat.ren, Row.ren, TV.hs, AV.hs, C.hs, Dat.hs, get_cons, get_nil, zipSlots, List.getD_cons_zero, List.getD_cons_succ, List.getD_nil, -List.getD_eq_getElem?_getD, show idN 0 = [] from rfl])) ?_
    intro i hi
    have hl := idN_len i
    by_cases hc : i < t.length
    · have hcd : decide ((i : Int) < t.length) = true := by simp; omega
      have e := idN_succ i
      simp (dsimp := false) only [hcd, hl, go_sem, Nat.reduceAdd, Nat.reduceBEq, Nat.reduceEqDiff, Nat.reduceLT, Nat.reduceLeDiff, reduceCtorEq, ↓reduceIte]
      repeat (refine And.intro (by first | exact True.intro | omega | kernel_rfl | (simp only [List.length_set, List.length_append, List.length_take, List.length_replicate, List.length_cons, true_and, and_true, List.length_nil, tabR_length]; omega)) ?_)
      refine ⟨i + 1, [0, 3], ?_, weak_of (by decide) (by simp [RS.slot, List.map_cons, List.map_nil, rowsLe, rowLe, slotsLe, tvLe, TV.ren, AV.ren, C.ren, Dat.ren, Row.ren, TV.hs, AV.hs, C.hs, Dat.hs, get_cons, get_nil, zipSlots, List.getD_cons_zero, List.getD_cons_succ, List.getD_nil, -List.getD_eq_getElem?_getD, e])⟩
      omega
    · have hcd : decide ((i : Int) < t.length) = false := by simp; omega
      have e : i = t.length := by omega
      subst e
      simp (dsimp := false) only [hcd, go_sem, Nat.reduceAdd, Nat.reduceBEq, Nat.reduceEqDiff, Nat.reduceLT, Nat.reduceLeDiff, reduceCtorEq, ↓reduceIte]
      refine aloop (σ := Nat) (fun i => ([(0, tS 0 t.length), (4, tS 1 (t.length - i)), (6, tS 2 i), (7, tI i)], [rI t, oI (restF t i), oI (outG t i)])) (fun i => i ≤ t.length ∧ ∀ k, k < i → fiAt t k = true) (fun i => t.length - i) 0 [0, 1, 2] ⟨by omega, fun k hk => by omega⟩ (weak_of (by decide) (by simp [RS.slot, List.map_cons, List.map_nil, rowsLe, rowLe, slotsLe, tvLe, TV.ren, AV.ren, C.ren, Dat.ren, Row.ren, TV.hs, AV.hs, C.hs, Dat.hs, get_cons, get_nil, zipSlots, List.getD_cons_zero, List.getD_cons_succ, List.getD_nil, -List.getD_eq_getElem?_getD, restF, outG])) ?_
      rintro i ⟨hi2, hal⟩
      have hrl := restF_len i hi2 hal
      have hol := outG_len t i
      by_cases hc2 : i < t.length
      · have hcd2 : decide ((i : Int) < t.length) = true := by simp; omega
        cases hf : fiAt t i
        · have hin : inB (t.getD i 0) 0 (((t.length - i : Nat) : Int) - 1) = false := hf
          simp (dsimp := false) only [hcd2, Int.toNat_natCast, go_sem, Nat.reduceAdd, Nat.reduceBEq, Nat.reduceEqDiff, Nat.reduceLT, Nat.reduceLeDiff, reduceCtorEq, ↓reduceIte]
          repeat (refine And.intro (by first | exact True.intro | omega | kernel_rfl | (simp only [List.length_set, List.length_append, List.length_take, List.length_replicate, List.length_cons, true_and, and_true, List.length_nil, tabR_length]; omega)) ?_)
          repeat (refine And.intro (by first | exact True.intro | omega | kernel_rfl | (simp only [List.length_set, List.length_append, List.length_take, List.length_replicate, List.length_cons, true_and, and_true, List.length_nil, tabR_length]; omega)) ?_)
          refine ⟨_, (l1In_l (t.getD i 0) 0 (((t.length - i : Nat) : Int) - 1)).lift [] (by decide) (by simp) (by simp [RS.slot, List.map_cons, List.map_nil, rowsLe, rowLe, slotsLe, tvLe, TV.ren, AV.ren, C.ren, Dat.ren, Row.ren, TV.hs, AV.hs, C.hs, Dat.hs, get_cons, get_nil, zipSlots, List.getD_cons_zero, List.getD_cons_succ, List.getD_nil, -List.getD_eq_getElem?_getD]) (by simp [RS.slot, List.map_cons, List.map_nil, rowsLe, rowLe, slotsLe, tvLe, TV.ren, AV.ren, C.ren, Dat.ren, Row.ren, TV.hs, AV.hs, C.hs, Dat.hs, get_cons, get_nil, zipSlots, List.getD_cons_zero, List.getD_cons_succ, List.getD_nil, -List.getD_eq_getElem?_getD]) (by simp [RS.slot, List.map_cons, List.map_nil, rowsLe, rowLe, slotsLe, tvLe, TV.ren, AV.ren, C.ren, Dat.ren, Row.ren, TV.hs, AV.hs, C.hs, Dat.hs, get_cons, get_nil, zipSlots, List.getD_cons_zero, List.getD_cons_succ, List.getD_nil, -List.getD_eq_getElem?_getD]) rfl ?_⟩
          rintro _ _ ⟨rfl, rfl⟩
          refine ⟨by simp [ownIn, Row.own], ?_⟩
          simp (dsimp := false) only [hin, Int.toNat_natCast, liftT, liftH, putBack, freshR, ownIn, Row.own, Row.ren, TV.ren, AV.ren, C.ren, Dat.ren, List.drop_succ_cons, List.drop_nil, List.getD_cons_zero, List.getD_cons_succ, List.getD_nil, go_sem, Nat.reduceAdd, Nat.reduceBEq, Nat.reduceEqDiff, Nat.reduceLT, Nat.reduceLeDiff, reduceCtorEq, ↓reduceIte]
          refine afin [0] [aN, aB false] [rI t] (by simp) rfl (weak_of (by decide) (by simp [RS.slot, List.map_cons, List.map_nil, rowsLe, rowLe, slotsLe, tvLe, TV.ren, AV.ren, C.ren, Dat.ren, Row.ren, TV.hs, AV.hs, C.hs, Dat.hs, get_cons, get_nil, zipSlots, List.getD_cons_zero, List.getD_cons_succ, List.getD_nil, -List.getD_eq_getElem?_getD])) (by simp [rtv])
        · obtain ⟨k, ek, hk⟩ := fiAt_t hf
          have hin : inB (k : Int) 0 (((t.length - i : Nat) : Int) - 1) = true := by rw [← ek]; exact hf
          have e1 : (k : Int) + 1 = ((k + 1 : Nat) : Int) := by omega
          have e2 : restF t (i + 1) = (restF t i).take k ++ ((restF t i).drop (k + 1)).take (t.length - i - (k + 1)) := by
            have e9 : ((restF t i).drop (k + 1)).take (t.length - i - (k + 1)) = (restF t i).drop (k + 1) := List.take_of_length_le (by simp; omega)
            rw [restF, ek, Int.toNat_natCast, e9]; rfl
          have e3 : outG t (i + 1) = outG t i ++ [(restF t i).getD k 0] := by rw [outG, ek, Int.toNat_natCast]
          have e4 : k + (t.length - i - (k + 1)) = t.length - (i + 1) := by omega
          have e5 : ((restF t i).take k).length = k := by simp; omega
          simp (dsimp := false) only [hcd2, ek, Int.toNat_natCast, go_sem, Nat.reduceAdd, Nat.reduceBEq, Nat.reduceEqDiff, Nat.reduceLT, Nat.reduceLeDiff, reduceCtorEq, ↓reduceIte]
          repeat (refine And.intro (by first | exact True.intro | omega | kernel_rfl | (simp only [List.length_set, List.length_append, List.length_take, List.length_replicate, List.length_cons, true_and, and_true, List.length_nil, tabR_length]; omega)) ?_)
          repeat (refine And.intro (by first | exact True.intro | omega | kernel_rfl | (simp only [List.length_set, List.length_append, List.length_take, List.length_replicate, List.length_cons, true_and, and_true, List.length_nil, tabR_length]; omega)) ?_)
          refine ⟨_, (l1In_l k 0 (((t.length - i : Nat) : Int) - 1)).lift [] (by decide) (by simp) (by simp [RS.slot, List.map_cons, List.map_nil, rowsLe, rowLe, slotsLe, tvLe, TV.ren, AV.ren, C.ren, Dat.ren, Row.ren, TV.hs, AV.hs, C.hs, Dat.hs, get_cons, get_nil, zipSlots, List.getD_cons_zero, List.getD_cons_succ, List.getD_nil, -List.getD_eq_getElem?_getD]) (by simp [RS.slot, List.map_cons, List.map_nil, rowsLe, rowLe, slotsLe, tvLe, TV.ren, AV.ren, C.ren, Dat.ren, Row.ren, TV.hs, AV.hs, C.hs, Dat.hs, get_cons, get_nil, zipSlots, List.getD_cons_zero, List.getD_cons_succ, List.getD_nil, -List.getD_eq_getElem?_getD]) (by simp [RS.slot, List.map_cons, List.map_nil, rowsLe, rowLe, slotsLe, tvLe, TV.ren, AV.ren, C.ren, Dat.ren, Row.ren, TV.hs, AV.hs, C.hs, Dat.hs, get_cons, get_nil, zipSlots, List.getD_cons_zero, List.getD_cons_succ, List.getD_nil, -List.getD_eq_getElem?_getD]) rfl ?_⟩
          rintro _ _ ⟨rfl, rfl⟩
          refine ⟨by simp [ownIn, Row.own], ?_⟩
          simp (dsimp := false) only [hin, hol, ek, e1, e5, Int.toNat_natCast, Int.toNat_zero, Nat.sub_zero, liftT, liftH, putBack, freshR, ownIn, Row.own, Row.ren, TV.ren, AV.ren, C.ren, Dat.ren, List.drop_succ_cons, List.drop_nil, List.getD_cons_zero, List.getD_cons_succ, List.getD_nil, go_sem, Nat.reduceAdd, Nat.reduceBEq, Nat.reduceEqDiff, Nat.reduceLT, Nat.reduceLeDiff, reduceCtorEq, ↓reduceIte]
          repeat (refine And.intro (by first | exact True.intro | omega | kernel_rfl | (simp only [List.length_set, List.length_append, List.length_take, List.length_replicate, List.length_cons, true_and, and_true, List.length_nil, tabR_length]; omega)) ?_)
          refine ⟨i + 1, [0, 7, 4], ?_, weak_of (by decide) (by simp [RS.slot, List.map_cons, List.map_nil, rowsLe, rowLe, slotsLe, tvLe, TV.ren, AV.ren, C.ren, Dat.ren, Row.ren, TV.hs, AV.hs, C.hs, Dat.hs, get_cons, get_nil, zipSlots, List.getD_cons_zero, List.getD_cons_succ, List.getD_nil, -List.getD_eq_getElem?_getD, e2, e3, e4])⟩
          refine ⟨⟨by omega, fun j hj => ?_⟩, by omega⟩
          by_cases e : j = i
          · subst e; exact hf
          · exact hal j (by omega)
      · exfalso
        exact fiOk_f h h64 (fun k hk => hal k (by omega))
  · have d0 : decide ((64 : Int) < t.length) = true := decide_eq_true (by omega)
    refine afun (fun i => match i with | 15 => some ⟨[], .op 1 .held (.op 2 .held (.op 3 .held (.op 4 .held (.op 8 .held (.op 9 .held (.op 10 .held (.op 11 .held (.op 5 .held (.op 6 .held (.op 12 .held (.op 13 .held (.op 14 .held (.op 0 .only (.op 7 .only (.op 15 .only (.op 16 .held .nil))))))))))))))))⟩ | _ => none) [2, 3] 1 Try.func30 rfl rfl mix (by kernel_rfl) (by kernel_rfl) (by simp [Try.f30]) rfl (by simp [msOwn, ownAll, Row.own]) ?_
    simp (dsimp := false) only [d0, go_sem, Nat.reduceAdd, Nat.reduceBEq, Nat.reduceEqDiff, Nat.reduceLT, Nat.reduceLeDiff, reduceCtorEq, ↓reduceIte]
    refine afin [0] [aN, aB false] [rI t] (by simp) rfl (weak_of (by decide) (by simp [RS.slot, List.map_cons, List.map_nil, rowsLe, rowLe, slotsLe, tvLe, TV.ren, AV.ren, C.ren, Dat.ren, Row.ren, TV.hs, AV.hs, C.hs, Dat.hs, get_cons, get_nil, zipSlots, List.getD_cons_zero, List.getD_cons_succ, List.getD_nil, -List.getD_eq_getElem?_getD])) (by simp [rtv])
end Go.Proofs.Ytpoappgfmjnioaa
