/- Contract: the flag pass of the reference. -/
import Derived.Test.YtpoappgfmjnioaaFlag
set_option linter.unusedSimpArgs false
set_option linter.unusedVariables false
set_option linter.unusedSectionVars false
namespace Go.Proofs.Ytpoappgfmjnioaa
open Go Go.Ax
set_option maxRecDepth 10000
set_option maxHeartbeats 1000000

theorem fStep_same {dg : Int → Nat} {b : Nat} {zs : List Int} {pl : Nat → Nat} (h : dg (zs.getD (pl b) 0) = b) : fStep dg b zs pl = (zs, fun e => if e = b then pl e + 1 else pl e, 0) := by
  unfold fStep; simp only [h, if_true]
theorem fStep_diff {dg : Int → Nat} {b d : Nat} {zs : List Int} {pl : Nat → Nat} (hd : dg (zs.getD (pl b) 0) = d) (h : d ≠ b) : fStep dg b zs pl = (swp zs (pl b) (pl d), fun e => if e = d then pl e + 1 else pl e, 1) := by
  unfold fStep; simp only [hd, if_neg h]

/-- What the first loop leaves behind i elements. -/
def n1F (dg : Int → Nat) (xs : List Int) (i B : Nat) : List Int := tabR (fun q => if q = 0 then 0 else (cE dg xs (q - 1) i : Int)) (B + 1)
theorem n1F_step {dg : Int → Nat} {xs : List Int} {i B d : Nat} (hd : dg (xs.getD i 0) = d) (hdB : d < B) : (n1F dg xs i B).set (d + 1) ((n1F dg xs i B).getD (d + 1) 0 + 1) = n1F dg xs (i + 1) B := by
  unfold n1F
  rw [tabR_get _ (by omega), tabR_set]
  refine tabR_congr (fun q hq => ?_)
  by_cases e : q = d + 1
  · rw [if_pos e, if_neg (by omega), if_neg (by omega), e]
    rw [Nat.add_sub_cancel, cE, if_pos hd]; omega
  · rw [if_neg e]
    by_cases e0 : q = 0
    · rw [if_pos e0, if_pos e0]
    · rw [if_neg e0, if_neg e0, cE, if_neg (by omega)]; rfl
/-- What the second loop leaves behind b digits. -/
def n2F (dg : Int → Nat) (xs : List Int) (b B : Nat) : List Int := tabR (fun q => if q ≤ b then (C0 dg xs q : Int) else (cE dg xs (q - 1) xs.length : Int)) (B + 1)
theorem n2F_start (dg : Int → Nat) (xs : List Int) (B : Nat) : n1F dg xs xs.length B = n2F dg xs 0 B := by
  unfold n1F n2F
  refine tabR_congr (fun q hq => ?_)
  by_cases e : q = 0
  · subst e
    rw [if_pos rfl, if_pos (Nat.le_refl _)]
    have : C0 dg xs 0 = 0 := cB_zero _ _ _
    rw [this]; rfl
  · rw [if_neg e, if_neg (by omega)]
theorem n2F_step {dg : Int → Nat} {xs : List Int} {b B : Nat} (hb : b < B) : (n2F dg xs b B).set (b + 1) ((n2F dg xs b B).getD (b + 1) 0 + (n2F dg xs b B).getD b 0) = n2F dg xs (b + 1) B := by
  unfold n2F
  rw [tabR_get _ (by omega), tabR_get _ (by omega), tabR_set]
  refine tabR_congr (fun q hq => ?_)
  by_cases e : q = b + 1
  · rw [if_pos e, if_neg (by omega), if_pos (Nat.le_refl _), if_pos (by omega), e, C0_succ, Nat.add_sub_cancel, cE_all]; omega
  · rw [if_neg e]
    by_cases e2 : q ≤ b
    · rw [if_pos e2, if_pos (by omega)]
    · rw [if_neg e2, if_neg (by omega)]
theorem n2F_end (dg : Int → Nat) (xs : List Int) (B : Nat) : n2F dg xs B B = tabR (fun q => (C0 dg xs q : Int)) (B + 1) := by
  unfold n2F
  exact tabR_congr (fun q hq => by rw [if_pos (by omega)])
/-- The ends. -/
def enF (dg : Int → Nat) (xs : List Int) (B : Nat) : List Int := tabR (fun q => (C0 dg xs (q + 1) : Int)) B
theorem enF_drop (dg : Int → Nat) (xs : List Int) (B : Nat) : ((tabR (fun q => (C0 dg xs q : Int)) (B + 1)).drop 1).take B = enF dg xs B := by
  apply List.ext_getElem?
  intro q
  unfold enF tabR
  simp only [List.getElem?_take, List.getElem?_drop, List.getElem?_map, List.getElem?_range]
  by_cases h : q < B
  · simp [h, show 1 + q < B + 1 by omega, Nat.add_comm]
  · simp [h]
theorem n1F_bd (dg : Int → Nat) (xs : List Int) (i B q : Nat) : 0 ≤ (n1F dg xs i B).getD q 0 ∧ (n1F dg xs i B).getD q 0 ≤ i := by
  unfold n1F
  by_cases h : q < B + 1
  · rw [tabR_get _ h]
    have hc : ∀ d j, cE dg xs d j ≤ j := fun d j => by
      induction j with
      | zero => simp [cE]
      | succ j ih => rw [cE]; split <;> omega
    have := hc (q - 1) i
    split <;> omega
  · simp [tabR, List.getD_eq_getElem?_getD, h]
theorem n2F_bd (dg : Int → Nat) (xs : List Int) (b B q : Nat) : 0 ≤ (n2F dg xs b B).getD q 0 ∧ (n2F dg xs b B).getD q 0 ≤ xs.length := by
  unfold n2F
  by_cases h : q < B + 1
  · rw [tabR_get _ h]
    have hc : ∀ d j, cE dg xs d j ≤ j := fun d j => by
      induction j with
      | zero => simp [cE]
      | succ j ih => rw [cE]; split <;> omega
    have := hc (q - 1) xs.length
    have := C0_le dg xs q
    split <;> omega
  · simp [tabR, List.getD_eq_getElem?_getD, h]

theorem sFlagPass_t (xs : List Int) (base place : Int) (hx : xs.length ≤ 281474976710656) (h : flOk xs base place = true) : ACalls Try.prog 14 [tS 0 xs.length, tI base, tI place] [] [rI xs] (fun t H => t = .tup [aS 1 xs.length, aI (flagF (dgN base place) base.toNat xs).2, aB true] ∧ H = [rI xs, oI (flagF (dgN base place) base.toNat xs).1]) := by
  obtain ⟨hv, h2, hb, hp, B, rfl, hB2, hB⟩ := flOk_t h
  have h64 := validB_len hv
  rw [Int.toNat_natCast]
  have hdg : ∀ x ∈ xs, dgN (B : Int) place x < B := fun x hx => (dgN_eq (validB_mem hv hx) hb).2
  have eB : (B : Int) + 1 = ((B + 1 : Nat) : Int) := by omega
  refine afun (fun i => match i with | 12 => some ⟨[2], .op 0 .held (.op 1 .held (.op 2 .held (.op 3 .held (.op 4 .held (.op 5 .held (.op 6 .held (.op 7 .now (.op 8 .held (.op 9 .held (.op 10 .held (.op 11 .now (.op 12 .held (.op 13 .held (.op 14 .only .nil))))))))))))))⟩ | 18 => some ⟨[], .op 0 .held (.op 1 .held (.op 2 .held (.op 3 .now (.op 4 .held (.op 5 .held (.op 6 .held (.op 7 .now (.op 8 .held .nil))))))))⟩ | 22 => some ⟨[1], .op 0 .held (.op 1 .held (.op 2 .held (.op 3 .held (.op 4 .now (.op 5 .held (.op 6 .held (.op 7 .held (.op 8 .held (.op 9 .now (.op 10 .held (.op 11 .now (.op 12 .held (.op 13 .only .nil)))))))))))))⟩ | _ => none) [6, 7, 8] 1 Try.func14 rfl rfl mix (by kernel_rfl) (by kernel_rfl) (by simp [Try.f14]) rfl (by simp [msOwn, ownAll, Row.own]) ?_
  simp (dsimp := false) only [go_sem, Nat.reduceAdd, Nat.reduceBEq, Nat.reduceEqDiff, Nat.reduceLT, Nat.reduceLeDiff, reduceCtorEq, ↓reduceIte]
  repeat (refine And.intro (by first | exact True.intro | omega | kernel_rfl | (simp only [List.length_set, List.length_append, List.length_take, List.length_replicate, List.length_cons, true_and, and_true, List.length_nil, tabR_length]; omega)) ?_)
  refine ⟨_, (l2List_l xs hx).lift [0] (by decide) (by simp) (by simp [RS.slot, List.map_cons, List.map_nil, rowsLe, rowLe, slotsLe, tvLe, TV.ren, AV.ren, C.ren, Dat.ren, Row.ren, TV.hs, AV.hs, C.hs, Dat.hs, get_cons, get_nil, zipSlots, List.getD_cons_zero, List.getD_cons_succ, List.getD_nil, -List.getD_eq_getElem?_getD]) (by simp [RS.slot, List.map_cons, List.map_nil, rowsLe, rowLe, slotsLe, tvLe, TV.ren, AV.ren, C.ren, Dat.ren, Row.ren, TV.hs, AV.hs, C.hs, Dat.hs, get_cons, get_nil, zipSlots, List.getD_cons_zero, List.getD_cons_succ, List.getD_nil, -List.getD_eq_getElem?_getD]) (by simp [RS.slot, List.map_cons, List.map_nil, rowsLe, rowLe, slotsLe, tvLe, TV.ren, AV.ren, C.ren, Dat.ren, Row.ren, TV.hs, AV.hs, C.hs, Dat.hs, get_cons, get_nil, zipSlots, List.getD_cons_zero, List.getD_cons_succ, List.getD_nil, -List.getD_eq_getElem?_getD]) rfl ?_⟩
  rintro _ _ ⟨rfl, rfl⟩
  refine ⟨by simp [ownIn, Row.own], ?_⟩
  simp (dsimp := false) only [hv, liftT, liftH, putBack, freshR, ownIn, Row.own, Row.ren, TV.ren, AV.ren, C.ren, Dat.ren, List.drop_succ_cons, List.drop_nil, List.getD_cons_zero, List.getD_cons_succ, List.getD_nil, go_sem, Nat.reduceAdd, Nat.reduceBEq, Nat.reduceEqDiff, Nat.reduceLT, Nat.reduceLeDiff, reduceCtorEq, ↓reduceIte]
  repeat (refine And.intro (by first | exact True.intro | omega | kernel_rfl | (simp only [List.length_set, List.length_append, List.length_take, List.length_replicate, List.length_cons, true_and, and_true, List.length_nil, tabR_length]; omega)) ?_)
  refine ⟨_, (l8Place_l B place).lift [] (by decide) (by simp) (by simp [RS.slot, List.map_cons, List.map_nil, rowsLe, rowLe, slotsLe, tvLe, TV.ren, AV.ren, C.ren, Dat.ren, Row.ren, TV.hs, AV.hs, C.hs, Dat.hs, get_cons, get_nil, zipSlots, List.getD_cons_zero, List.getD_cons_succ, List.getD_nil, -List.getD_eq_getElem?_getD]) (by simp [RS.slot, List.map_cons, List.map_nil, rowsLe, rowLe, slotsLe, tvLe, TV.ren, AV.ren, C.ren, Dat.ren, Row.ren, TV.hs, AV.hs, C.hs, Dat.hs, get_cons, get_nil, zipSlots, List.getD_cons_zero, List.getD_cons_succ, List.getD_nil, -List.getD_eq_getElem?_getD]) (by simp [RS.slot, List.map_cons, List.map_nil, rowsLe, rowLe, slotsLe, tvLe, TV.ren, AV.ren, C.ren, Dat.ren, Row.ren, TV.hs, AV.hs, C.hs, Dat.hs, get_cons, get_nil, zipSlots, List.getD_cons_zero, List.getD_cons_succ, List.getD_nil, -List.getD_eq_getElem?_getD]) rfl ?_⟩
  rintro _ _ ⟨rfl, rfl⟩
  refine ⟨by simp [ownIn, Row.own], ?_⟩
  simp (dsimp := false) only [h2, liftT, liftH, putBack, freshR, ownIn, Row.own, Row.ren, TV.ren, AV.ren, C.ren, Dat.ren, List.drop_succ_cons, List.drop_nil, List.getD_cons_zero, List.getD_cons_succ, List.getD_nil, go_sem, Nat.reduceAdd, Nat.reduceBEq, Nat.reduceEqDiff, Nat.reduceLT, Nat.reduceLeDiff, reduceCtorEq, ↓reduceIte]
  repeat (refine And.intro (by first | exact True.intro | omega | kernel_rfl | (simp only [List.length_set, List.length_append, List.length_take, List.length_replicate, List.length_cons, true_and, and_true, List.length_nil, tabR_length]; omega)) ?_)
  refine ⟨_, (l1Own_l xs (by omega)).lift [0] (by decide) (by simp) (by simp [RS.slot, List.map_cons, List.map_nil, rowsLe, rowLe, slotsLe, tvLe, TV.ren, AV.ren, C.ren, Dat.ren, Row.ren, TV.hs, AV.hs, C.hs, Dat.hs, get_cons, get_nil, zipSlots, List.getD_cons_zero, List.getD_cons_succ, List.getD_nil, -List.getD_eq_getElem?_getD]) (by simp [RS.slot, List.map_cons, List.map_nil, rowsLe, rowLe, slotsLe, tvLe, TV.ren, AV.ren, C.ren, Dat.ren, Row.ren, TV.hs, AV.hs, C.hs, Dat.hs, get_cons, get_nil, zipSlots, List.getD_cons_zero, List.getD_cons_succ, List.getD_nil, -List.getD_eq_getElem?_getD]) (by simp [RS.slot, List.map_cons, List.map_nil, rowsLe, rowLe, slotsLe, tvLe, TV.ren, AV.ren, C.ren, Dat.ren, Row.ren, TV.hs, AV.hs, C.hs, Dat.hs, get_cons, get_nil, zipSlots, List.getD_cons_zero, List.getD_cons_succ, List.getD_nil, -List.getD_eq_getElem?_getD]) rfl ?_⟩
  rintro _ _ ⟨rfl, rfl⟩
  refine ⟨by simp [ownIn, Row.own], ?_⟩
  simp (dsimp := false) only [eB, liftT, liftH, putBack, freshR, ownIn, Row.own, Row.ren, TV.ren, AV.ren, C.ren, Dat.ren, List.drop_succ_cons, List.drop_nil, List.getD_cons_zero, List.getD_cons_succ, List.getD_nil, go_sem, Nat.reduceAdd, Nat.reduceBEq, Nat.reduceEqDiff, Nat.reduceLT, Nat.reduceLeDiff, reduceCtorEq, ↓reduceIte]
  repeat (refine And.intro (by first | exact True.intro | omega | kernel_rfl | (simp only [List.length_set, List.length_append, List.length_take, List.length_replicate, List.length_cons, true_and, and_true, List.length_nil, tabR_length]; omega)) ?_)
  have e0 : List.replicate (B + 1) (0 : Int) = n1F (dgN (B : Int) place) xs 0 B := by
    rw [replicate_tab]; unfold n1F
    refine tabR_congr (fun q hq => ?_)
    split <;> rfl
  simp only [Int.toNat_natCast, e0]
  refine aloop (σ := Nat) (fun i => ([(0, tS 0 xs.length), (1, tI (B : Int)), (2, tI place), (9, tS 1 xs.length), (10, tS 2 (B + 1)), (11, tI i)], [rI xs, oI xs, oI (n1F (dgN (B : Int) place) xs i B)])) (fun i => i ≤ xs.length) (fun i => xs.length - i) 0 [0, 1, 2] (by omega) (weak_of (by decide) (by simp [RS.slot, List.map_cons, List.map_nil, rowsLe, rowLe, slotsLe, tvLe, TV.ren, AV.ren, C.ren, Dat.ren, Row.ren, TV.hs, AV.hs, C.hs, Dat.hs, get_cons, get_nil, zipSlots, List.getD_cons_zero, List.getD_cons_succ, List.getD_nil, -List.getD_eq_getElem?_getD])) ?_
  intro i hi
  have hnl : (n1F (dgN (B : Int) place) xs i B).length = B + 1 := tabR_length _ _
  by_cases hc : i < xs.length
  · have hcd : decide ((i : Int) < xs.length) = true := by simp; omega
    have hk := validB_mem hv (getD_mem hc)
    obtain ⟨d, hde⟩ : ∃ d, d = dgN (B : Int) place (xs.getD i 0) := ⟨_, rfl⟩
    have hq := dgN_eq (place := place) hk hb
    have hcall := l8Digit_l (xs.getD i 0) B place hk hb hp
    rw [hq.1, ← hde] at hcall
    have hq2 := hq.2
    rw [← hde] at hq2
    have ed : (d : Int) + 1 = ((d + 1 : Nat) : Int) := by omega
    have hst := n1F_step (i := i) hde.symm hq2
    have hbd := n1F_bd (dgN (B : Int) place) xs i B (d + 1)
    simp (dsimp := false) only [hcd, Int.toNat_natCast, go_sem, Nat.reduceAdd, Nat.reduceBEq, Nat.reduceEqDiff, Nat.reduceLT, Nat.reduceLeDiff, reduceCtorEq, ↓reduceIte]
    repeat (refine And.intro (by first | exact True.intro | omega | kernel_rfl | (simp only [List.length_set, List.length_append, List.length_take, List.length_replicate, List.length_cons, true_and, and_true, List.length_nil, tabR_length]; omega)) ?_)
    repeat (refine And.intro (by first | exact True.intro | omega | kernel_rfl | (simp only [List.length_set, List.length_append, List.length_take, List.length_replicate, List.length_cons, true_and, and_true, List.length_nil, tabR_length]; omega)) ?_)
    refine ⟨_, (hcall).lift [] (by decide) (by simp) (by simp [RS.slot, List.map_cons, List.map_nil, rowsLe, rowLe, slotsLe, tvLe, TV.ren, AV.ren, C.ren, Dat.ren, Row.ren, TV.hs, AV.hs, C.hs, Dat.hs, get_cons, get_nil, zipSlots, List.getD_cons_zero, List.getD_cons_succ, List.getD_nil, -List.getD_eq_getElem?_getD]) (by simp [RS.slot, List.map_cons, List.map_nil, rowsLe, rowLe, slotsLe, tvLe, TV.ren, AV.ren, C.ren, Dat.ren, Row.ren, TV.hs, AV.hs, C.hs, Dat.hs, get_cons, get_nil, zipSlots, List.getD_cons_zero, List.getD_cons_succ, List.getD_nil, -List.getD_eq_getElem?_getD]) (by simp [RS.slot, List.map_cons, List.map_nil, rowsLe, rowLe, slotsLe, tvLe, TV.ren, AV.ren, C.ren, Dat.ren, Row.ren, TV.hs, AV.hs, C.hs, Dat.hs, get_cons, get_nil, zipSlots, List.getD_cons_zero, List.getD_cons_succ, List.getD_nil, -List.getD_eq_getElem?_getD]) rfl ?_⟩
    rintro _ _ ⟨rfl, rfl⟩
    refine ⟨by simp [ownIn, Row.own], ?_⟩
    simp (dsimp := false) only [Int.toNat_natCast, ed, liftT, liftH, putBack, freshR, ownIn, Row.own, Row.ren, TV.ren, AV.ren, C.ren, Dat.ren, List.drop_succ_cons, List.drop_nil, List.getD_cons_zero, List.getD_cons_succ, List.getD_nil, go_sem, Nat.reduceAdd, Nat.reduceBEq, Nat.reduceEqDiff, Nat.reduceLT, Nat.reduceLeDiff, reduceCtorEq, ↓reduceIte]
    repeat (refine And.intro (by first | exact True.intro | omega | kernel_rfl | (simp only [List.length_set, List.length_append, List.length_take, List.length_replicate, List.length_cons, true_and, and_true, List.length_nil, tabR_length]; omega)) ?_)
    refine ⟨i + 1, [0, 1, 2], ?_, weak_of (by decide) (by simp [RS.slot, List.map_cons, List.map_nil, rowsLe, rowLe, slotsLe, tvLe, TV.ren, AV.ren, C.ren, Dat.ren, Row.ren, TV.hs, AV.hs, C.hs, Dat.hs, get_cons, get_nil, zipSlots, List.getD_cons_zero, List.getD_cons_succ, List.getD_nil, -List.getD_eq_getElem?_getD, hst])⟩
    omega
  · have hcd : decide ((i : Int) < xs.length) = false := by simp; omega
    have e : i = xs.length := by omega
    subst e
    rw [n2F_start]
    simp (dsimp := false) only [hcd, go_sem, Nat.reduceAdd, Nat.reduceBEq, Nat.reduceEqDiff, Nat.reduceLT, Nat.reduceLeDiff, reduceCtorEq, ↓reduceIte]
    refine aloop (σ := Nat) (fun b => ([(1, tI (B : Int)), (2, tI place), (9, tS 1 xs.length), (10, tS 2 (B + 1)), (12, tI b)], [rI xs, oI xs, oI (n2F (dgN (B : Int) place) xs b B)])) (fun b => b ≤ B) (fun b => B - b) 0 [0, 1, 2] (by omega) (weak_of (by decide) (by simp [RS.slot, List.map_cons, List.map_nil, rowsLe, rowLe, slotsLe, tvLe, TV.ren, AV.ren, C.ren, Dat.ren, Row.ren, TV.hs, AV.hs, C.hs, Dat.hs, get_cons, get_nil, zipSlots, List.getD_cons_zero, List.getD_cons_succ, List.getD_nil, -List.getD_eq_getElem?_getD])) ?_
    intro b hbB
    have hnl2 : (n2F (dgN (B : Int) place) xs b B).length = B + 1 := tabR_length _ _
    by_cases hc2 : b < B
    · have hcd2 : decide ((b : Int) < B) = true := by simp; omega
      have ed : (b : Int) + 1 = ((b + 1 : Nat) : Int) := by omega
      have hst := n2F_step (dg := dgN (B : Int) place) (xs := xs) hc2
      have hb1 := n2F_bd (dgN (B : Int) place) xs b B (b + 1)
      have hb3 := n2F_bd (dgN (B : Int) place) xs b B b
      simp (dsimp := false) only [hcd2, Int.toNat_natCast, ed, go_sem, Nat.reduceAdd, Nat.reduceBEq, Nat.reduceEqDiff, Nat.reduceLT, Nat.reduceLeDiff, reduceCtorEq, ↓reduceIte]
      repeat (refine And.intro (by first | exact True.intro | omega | kernel_rfl | (simp only [List.length_set, List.length_append, List.length_take, List.length_replicate, List.length_cons, true_and, and_true, List.length_nil, tabR_length]; omega)) ?_)
      refine ⟨b + 1, [0, 1, 2], ?_, weak_of (by decide) (by simp [RS.slot, List.map_cons, List.map_nil, rowsLe, rowLe, slotsLe, tvLe, TV.ren, AV.ren, C.ren, Dat.ren, Row.ren, TV.hs, AV.hs, C.hs, Dat.hs, get_cons, get_nil, zipSlots, List.getD_cons_zero, List.getD_cons_succ, List.getD_nil, -List.getD_eq_getElem?_getD, hst])⟩
      omega
    · have hcd2 : decide ((b : Int) < B) = false := by simp; omega
      have e : B = b := by omega
      subst e
      rw [n2F_end]
      have hown := l1Own_part (tabR (fun q => (C0 (dgN (B : Int) place) xs q : Int)) (B + 1)) 1 B (by rw [tabR_length]; omega) (by omega)
      rw [enF_drop] at hown
      simp (dsimp := false) only [hcd2, Int.toNat_natCast, Int.toNat_one, Nat.add_sub_cancel, go_sem, Nat.reduceAdd, Nat.reduceBEq, Nat.reduceEqDiff, Nat.reduceLT, Nat.reduceLeDiff, reduceCtorEq, ↓reduceIte]
      repeat (refine And.intro (by first | exact True.intro | omega | kernel_rfl | (simp only [List.length_set, List.length_append, List.length_take, List.length_replicate, List.length_cons, true_and, and_true, List.length_nil, tabR_length]; omega)) ?_)
      repeat (refine And.intro (by first | exact True.intro | omega | kernel_rfl | (simp only [List.length_set, List.length_append, List.length_take, List.length_replicate, List.length_cons, true_and, and_true, List.length_nil, tabR_length]; omega)) ?_)
      refine ⟨_, (hown).lift [2] (by decide) (by simp) (by simp [RS.slot, List.map_cons, List.map_nil, rowsLe, rowLe, slotsLe, tvLe, TV.ren, AV.ren, C.ren, Dat.ren, Row.ren, TV.hs, AV.hs, C.hs, Dat.hs, get_cons, get_nil, zipSlots, List.getD_cons_zero, List.getD_cons_succ, List.getD_nil, -List.getD_eq_getElem?_getD]) (by simp [RS.slot, List.map_cons, List.map_nil, rowsLe, rowLe, slotsLe, tvLe, TV.ren, AV.ren, C.ren, Dat.ren, Row.ren, TV.hs, AV.hs, C.hs, Dat.hs, get_cons, get_nil, zipSlots, List.getD_cons_zero, List.getD_cons_succ, List.getD_nil, -List.getD_eq_getElem?_getD]) (by simp [RS.slot, List.map_cons, List.map_nil, rowsLe, rowLe, slotsLe, tvLe, TV.ren, AV.ren, C.ren, Dat.ren, Row.ren, TV.hs, AV.hs, C.hs, Dat.hs, get_cons, get_nil, zipSlots, List.getD_cons_zero, List.getD_cons_succ, List.getD_nil, -List.getD_eq_getElem?_getD]) rfl ?_⟩
      rintro _ _ ⟨rfl, rfl⟩
      refine ⟨by simp [ownIn, Row.own], ?_⟩
      simp (dsimp := false) only [liftT, liftH, putBack, freshR, ownIn, Row.own, Row.ren, TV.ren, AV.ren, C.ren, Dat.ren, List.drop_succ_cons, List.drop_nil, List.getD_cons_zero, List.getD_cons_succ, List.getD_nil, go_sem, Nat.reduceAdd, Nat.reduceBEq, Nat.reduceEqDiff, Nat.reduceLT, Nat.reduceLeDiff, reduceCtorEq, ↓reduceIte]
      obtain ⟨dg, hdgd⟩ : ∃ dg, dg = dgN (B : Int) place := ⟨_, rfl⟩
      have hdq : ∀ x ∈ xs, digitF x (B : Int) place = (dg x : Int) := fun x hx => by rw [hdgd]; exact (dgN_eq (validB_mem hv hx) hb).1
      rw [← hdgd] at hdg ⊢
      have hel : (enF dg xs B).length = B := tabR_length _ _
      refine aloopQ (σ := Nat × Nat × List Int × List Int × (Nat → Nat) × Nat) (fun s => ([(1, tI (B : Int)), (2, tI place), (9, tS 1 xs.length), (10, tS 2 (B + 1)), (13, tS 3 B), (14, tI s.2.2.2.2.2), (15, tI s.2.1)], [rI xs, oI s.2.2.1, oI s.2.2.2.1, oI (enF dg xs B)])) (fun s => FJ dg B xs s.1 s.2.1 s.2.2.1 s.2.2.2.1 s.2.2.2.2.1 s.2.2.2.2.2 ∧ s.2.2.2.1.length = B + 1) (fun s => s.1) (B + xs.length, 0, xs, tabR (fun q => (C0 dg xs q : Int)) (B + 1), C0 dg xs, 0) [0, 1, 2, 3] ⟨FJ.start (by dsimp only; rw [tabR_length]; omega) (fun d hd => by dsimp only; rw [tabR_get _ (by omega)]), tabR_length _ _⟩ (weak_of (by decide) (by simp [RS.slot, List.map_cons, List.map_nil, rowsLe, rowLe, slotsLe, tvLe, TV.ren, AV.ren, C.ren, Dat.ren, Row.ren, TV.hs, AV.hs, C.hs, Dat.hs, get_cons, get_nil, zipSlots, List.getD_cons_zero, List.getD_cons_succ, List.getD_nil, -List.getD_eq_getElem?_getD])) ?_
      rintro Q hQ ⟨f0, b, zs0, nx0, pl0, sw0⟩ ⟨hj0, hn0⟩
      simp only at hj0 hn0
      by_cases hc3 : b < B
      · have hcd3 : decide ((b : Int) < B) = true := by simp; omega
        simp (dsimp := false) only [hcd3, go_sem, Nat.reduceAdd, Nat.reduceBEq, Nat.reduceEqDiff, Nat.reduceLT, Nat.reduceLeDiff, reduceCtorEq, ↓reduceIte]
        refine aloopQ (σ := Nat × List Int × List Int × (Nat → Nat) × Nat) (fun t => ([(1, tI (B : Int)), (2, tI place), (9, tS 1 xs.length), (10, tS 2 (B + 1)), (13, tS 3 B), (14, tI t.2.2.2.2), (15, tI b)], [rI xs, oI t.2.1, oI t.2.2.1, oI (enF dg xs B)])) (fun t => FJ dg B xs t.1 b t.2.1 t.2.2.1 t.2.2.2.1 t.2.2.2.2 ∧ t.2.2.1.length = B + 1 ∧ t.1 ≤ f0) (fun t => t.1) (f0, zs0, nx0, pl0, sw0) [0, 1, 2, 3] ⟨hj0, hn0, Nat.le_refl _⟩ (weak_of (by decide) (by simp [RS.slot, List.map_cons, List.map_nil, rowsLe, rowLe, slotsLe, tvLe, TV.ren, AV.ren, C.ren, Dat.ren, Row.ren, TV.hs, AV.hs, C.hs, Dat.hs, get_cons, get_nil, zipSlots, List.getD_cons_zero, List.getD_cons_succ, List.getD_nil, -List.getD_eq_getElem?_getD])) ?_
        rintro Q2 hQ2 ⟨f, zs, nx, pl, sw⟩ ⟨hj, hnl, hff⟩
        simp only at hj hnl hff
        have hnb := hj.fi.nval b hc3
        have hen : (enF dg xs B).getD b 0 = (C0 dg xs (b + 1) : Int) := tabR_get _ hc3
        have hsw := hj.sw_le
        have hzl := hj.fi.perm.length_eq
        by_cases hc4 : pl b < C0 dg xs (b + 1)
        · have hcd4 : decide ((pl b : Int) < (C0 dg xs (b + 1) : Int)) = true := by simp; omega
          obtain ⟨r1, r2, r3, r4⟩ := hj.fi.room hdg hc3 hc4
          obtain ⟨g, hg, hst⟩ := hj.step hdg hc3 hc4
          have hmem := hj.fi.perm.mem_iff.mp (getD_mem r1)
          have hk := validB_mem hv hmem
          have hcall := l8Digit_l (zs.getD (pl b) 0) B place hk hb hp
          rw [hdq _ hmem] at hcall
          obtain ⟨d, hde⟩ : ∃ d, d = dg (zs.getD (pl b) 0) := ⟨_, rfl⟩
          rw [← hde] at r2 r3 r4 hst hcall
          have hnd := hj.fi.nval d r2
          have hplb := C0_le dg xs (d + 1)
          by_cases hdb : d = b
          · subst hdb
            have hne : ((d : Int) != (d : Int)) = false := by simp
            rw [fStep_same hde.symm] at hst
            simp (dsimp := false) only [hnb, hen, hcd4, Int.toNat_natCast, go_sem, Nat.reduceAdd, Nat.reduceBEq, Nat.reduceEqDiff, Nat.reduceLT, Nat.reduceLeDiff, reduceCtorEq, ↓reduceIte]
            repeat (refine And.intro (by first | exact True.intro | omega | kernel_rfl | (simp only [List.length_set, List.length_append, List.length_take, List.length_replicate, List.length_cons, true_and, and_true, List.length_nil, tabR_length]; omega)) ?_)
            repeat (refine And.intro (by first | exact True.intro | omega | kernel_rfl | (simp only [List.length_set, List.length_append, List.length_take, List.length_replicate, List.length_cons, true_and, and_true, List.length_nil, tabR_length]; omega)) ?_)
            refine ⟨_, (hcall).lift [] (by decide) (by simp) (by simp [RS.slot, List.map_cons, List.map_nil, rowsLe, rowLe, slotsLe, tvLe, TV.ren, AV.ren, C.ren, Dat.ren, Row.ren, TV.hs, AV.hs, C.hs, Dat.hs, get_cons, get_nil, zipSlots, List.getD_cons_zero, List.getD_cons_succ, List.getD_nil, -List.getD_eq_getElem?_getD]) (by simp [RS.slot, List.map_cons, List.map_nil, rowsLe, rowLe, slotsLe, tvLe, TV.ren, AV.ren, C.ren, Dat.ren, Row.ren, TV.hs, AV.hs, C.hs, Dat.hs, get_cons, get_nil, zipSlots, List.getD_cons_zero, List.getD_cons_succ, List.getD_nil, -List.getD_eq_getElem?_getD]) (by simp [RS.slot, List.map_cons, List.map_nil, rowsLe, rowLe, slotsLe, tvLe, TV.ren, AV.ren, C.ren, Dat.ren, Row.ren, TV.hs, AV.hs, C.hs, Dat.hs, get_cons, get_nil, zipSlots, List.getD_cons_zero, List.getD_cons_succ, List.getD_nil, -List.getD_eq_getElem?_getD]) rfl ?_⟩
            rintro _ _ ⟨rfl, rfl⟩
            refine ⟨by simp [ownIn, Row.own], ?_⟩
            simp (dsimp := false) only [hne, hnb, Int.toNat_natCast, liftT, liftH, putBack, freshR, ownIn, Row.own, Row.ren, TV.ren, AV.ren, C.ren, Dat.ren, List.drop_succ_cons, List.drop_nil, List.getD_cons_zero, List.getD_cons_succ, List.getD_nil, go_sem, Nat.reduceAdd, Nat.reduceBEq, Nat.reduceEqDiff, Nat.reduceLT, Nat.reduceLeDiff, reduceCtorEq, ↓reduceIte]
            repeat (refine And.intro (by first | exact True.intro | omega | kernel_rfl | (simp only [List.length_set, List.length_append, List.length_take, List.length_replicate, List.length_cons, true_and, and_true, List.length_nil, tabR_length]; omega)) ?_)
            refine ⟨(g, zs, nx.set d (nx.getD d 0 + 1), (fun e => if e = d then pl e + 1 else pl e), sw), [0, 1, 2, 3], ?_, weak_of (by decide) (by simp [RS.slot, List.map_cons, List.map_nil, rowsLe, rowLe, slotsLe, tvLe, TV.ren, AV.ren, C.ren, Dat.ren, Row.ren, TV.hs, AV.hs, C.hs, Dat.hs, get_cons, get_nil, zipSlots, List.getD_cons_zero, List.getD_cons_succ, List.getD_nil, -List.getD_eq_getElem?_getD, hnb])⟩
            dsimp only
            exact ⟨⟨hst, by rw [List.length_set]; exact hnl, by omega⟩, by omega⟩
          · have hne : ((d : Int) != (b : Int)) = true := by simp; omega
            rw [fStep_diff hde.symm hdb] at hst
            have hsc : (zs.set (pl d) (zs.getD (pl b) 0)).set (pl b) (zs.getD (pl d) 0) = swp zs (pl b) (pl d) := (swp_commF zs r1 r4).symm
            simp (dsimp := false) only [hnb, hen, hcd4, Int.toNat_natCast, go_sem, Nat.reduceAdd, Nat.reduceBEq, Nat.reduceEqDiff, Nat.reduceLT, Nat.reduceLeDiff, reduceCtorEq, ↓reduceIte]
            repeat (refine And.intro (by first | exact True.intro | omega | kernel_rfl | (simp only [List.length_set, List.length_append, List.length_take, List.length_replicate, List.length_cons, true_and, and_true, List.length_nil, tabR_length]; omega)) ?_)
            repeat (refine And.intro (by first | exact True.intro | omega | kernel_rfl | (simp only [List.length_set, List.length_append, List.length_take, List.length_replicate, List.length_cons, true_and, and_true, List.length_nil, tabR_length]; omega)) ?_)
            refine ⟨_, (hcall).lift [] (by decide) (by simp) (by simp [RS.slot, List.map_cons, List.map_nil, rowsLe, rowLe, slotsLe, tvLe, TV.ren, AV.ren, C.ren, Dat.ren, Row.ren, TV.hs, AV.hs, C.hs, Dat.hs, get_cons, get_nil, zipSlots, List.getD_cons_zero, List.getD_cons_succ, List.getD_nil, -List.getD_eq_getElem?_getD]) (by simp [RS.slot, List.map_cons, List.map_nil, rowsLe, rowLe, slotsLe, tvLe, TV.ren, AV.ren, C.ren, Dat.ren, Row.ren, TV.hs, AV.hs, C.hs, Dat.hs, get_cons, get_nil, zipSlots, List.getD_cons_zero, List.getD_cons_succ, List.getD_nil, -List.getD_eq_getElem?_getD]) (by simp [RS.slot, List.map_cons, List.map_nil, rowsLe, rowLe, slotsLe, tvLe, TV.ren, AV.ren, C.ren, Dat.ren, Row.ren, TV.hs, AV.hs, C.hs, Dat.hs, get_cons, get_nil, zipSlots, List.getD_cons_zero, List.getD_cons_succ, List.getD_nil, -List.getD_eq_getElem?_getD]) rfl ?_⟩
            rintro _ _ ⟨rfl, rfl⟩
            refine ⟨by simp [ownIn, Row.own], ?_⟩
            simp (dsimp := false) only [hne, hnb, hnd, Int.toNat_natCast, liftT, liftH, putBack, freshR, ownIn, Row.own, Row.ren, TV.ren, AV.ren, C.ren, Dat.ren, List.drop_succ_cons, List.drop_nil, List.getD_cons_zero, List.getD_cons_succ, List.getD_nil, go_sem, Nat.reduceAdd, Nat.reduceBEq, Nat.reduceEqDiff, Nat.reduceLT, Nat.reduceLeDiff, reduceCtorEq, ↓reduceIte]
            repeat (refine And.intro (by first | exact True.intro | omega | kernel_rfl | (simp only [List.length_set, List.length_append, List.length_take, List.length_replicate, List.length_cons, true_and, and_true, List.length_nil, tabR_length]; omega)) ?_)
            refine ⟨(g, swp zs (pl b) (pl d), nx.set d (nx.getD d 0 + 1), (fun e => if e = d then pl e + 1 else pl e), sw + 1), [0, 1, 2, 3], ?_, weak_of (by decide) (by simp [RS.slot, List.map_cons, List.map_nil, rowsLe, rowLe, slotsLe, tvLe, TV.ren, AV.ren, C.ren, Dat.ren, Row.ren, TV.hs, AV.hs, C.hs, Dat.hs, get_cons, get_nil, zipSlots, List.getD_cons_zero, List.getD_cons_succ, List.getD_nil, -List.getD_eq_getElem?_getD, hnd, hsc])⟩
            dsimp only
            exact ⟨⟨hst, by rw [List.length_set]; exact hnl, by omega⟩, by omega⟩
        · have hcd4 : decide ((pl b : Int) < (C0 dg xs (b + 1) : Int)) = false := by simp; omega
          obtain ⟨g, hg, hst⟩ := hj.out hc3 hc4
          simp (dsimp := false) only [hnb, hen, hcd4, Int.toNat_natCast, go_sem, Nat.reduceAdd, Nat.reduceBEq, Nat.reduceEqDiff, Nat.reduceLT, Nat.reduceLeDiff, reduceCtorEq, ↓reduceIte]
          repeat (refine And.intro (by first | exact True.intro | omega | kernel_rfl | (simp only [List.length_set, List.length_append, List.length_take, List.length_replicate, List.length_cons, true_and, and_true, List.length_nil, tabR_length]; omega)) ?_)
          refine hQ2 _ _ _ ?_
          simp (dsimp := false) only [go_sem, Nat.reduceAdd, Nat.reduceBEq, Nat.reduceEqDiff, Nat.reduceLT, Nat.reduceLeDiff, reduceCtorEq, ↓reduceIte]
          repeat (refine And.intro (by first | exact True.intro | omega | kernel_rfl | (simp only [List.length_set, List.length_append, List.length_take, List.length_replicate, List.length_cons, true_and, and_true, List.length_nil, tabR_length]; omega)) ?_)
          refine ⟨(g, b + 1, zs, nx, pl, sw), [0, 1, 2, 3], ?_, weak_of (by decide) (by simp [RS.slot, List.map_cons, List.map_nil, rowsLe, rowLe, slotsLe, tvLe, TV.ren, AV.ren, C.ren, Dat.ren, Row.ren, TV.hs, AV.hs, C.hs, Dat.hs, get_cons, get_nil, zipSlots, List.getD_cons_zero, List.getD_cons_succ, List.getD_nil, -List.getD_eq_getElem?_getD])⟩
          dsimp only
          exact ⟨⟨hst, hnl⟩, by omega⟩
      · have hcd3 : decide ((b : Int) < B) = false := by simp; omega
        have hfin := hj0.done hc3
        simp (dsimp := false) only [hcd3, go_sem, Nat.reduceAdd, Nat.reduceBEq, Nat.reduceEqDiff, Nat.reduceLT, Nat.reduceLeDiff, reduceCtorEq, ↓reduceIte]
        refine hQ _ _ _ ?_
        simp (dsimp := false) only [go_sem, Nat.reduceAdd, Nat.reduceBEq, Nat.reduceEqDiff, Nat.reduceLT, Nat.reduceLeDiff, reduceCtorEq, ↓reduceIte]
        rw [hfin]
        refine afin [0, 1] [aS 1 xs.length, aI sw0, aB true] [rI xs, oI zs0] (by simp) rfl (weak_of (by decide) (by simp [RS.slot, List.map_cons, List.map_nil, rowsLe, rowLe, slotsLe, tvLe, TV.ren, AV.ren, C.ren, Dat.ren, Row.ren, TV.hs, AV.hs, C.hs, Dat.hs, get_cons, get_nil, zipSlots, List.getD_cons_zero, List.getD_cons_succ, List.getD_nil, -List.getD_eq_getElem?_getD])) (by simp [rtv])
end Go.Proofs.Ytpoappgfmjnioaa
