/- Contract: the flag pass of the program. -/
import Derived.Test.YtpoappgfmjnioaaFlagS

set_option linter.unusedSimpArgs false
set_option linter.unusedVariables false
set_option linter.unusedSectionVars false
namespace Go.Proofs.Ytpoappgfmjnioaa
open Go Go.Ax
set_option maxRecDepth 10000
set_option maxHeartbeats 1000000

def eF (dg : Int → Nat) (xs : List Int) (B i c d : Nat) : List Int := tabR (fun q => ((cB dg xs (q + 1) i + (if c ≤ q ∧ q < d then 1 else 0) : Nat) : Int)) B
def xF (dg : Int → Nat) (xs : List Int) (B i c d : Nat) : List Int := tabR (fun q => ((cB dg xs q i + (if c < q ∧ q ≤ d then 1 else 0) : Nat) : Int)) B
theorem eF_step {dg : Int → Nat} {xs : List Int} {B i c d : Nat} (hd : d < B) (hc : c ≤ d) : (eF dg xs B i c d).set d ((eF dg xs B i c d).getD d 0 + 1) = eF dg xs B i c (d + 1) := by
  unfold eF
  rw [tabR_get _ hd, tabR_set]
  refine tabR_congr (fun q hq => ?_)
  by_cases e : q = d
  · rw [if_pos e, if_neg (by omega), if_pos (by omega), e]; omega
  · rw [if_neg e]
    by_cases e2 : c ≤ q ∧ q < d
    · rw [if_pos e2, if_pos (by omega)]
    · rw [if_neg e2, if_neg (by omega)]
theorem xF_step {dg : Int → Nat} {xs : List Int} {B i c d : Nat} (hd : d + 1 < B) (hc : c ≤ d) : (xF dg xs B i c d).set (d + 1) ((xF dg xs B i c d).getD (d + 1) 0 + 1) = xF dg xs B i c (d + 1) := by
  unfold xF
  rw [tabR_get _ hd, tabR_set]
  refine tabR_congr (fun q hq => ?_)
  by_cases e : q = d + 1
  · rw [if_pos e, if_neg (by omega), if_pos (by omega), e]; omega
  · rw [if_neg e]
    by_cases e2 : c < q ∧ q ≤ d
    · rw [if_pos e2, if_pos (by omega)]
    · rw [if_neg e2, if_neg (by omega)]
theorem xF_last {dg : Int → Nat} {xs : List Int} {B i c d : Nat} (hd : ¬ d + 1 < B) : xF dg xs B i c d = xF dg xs B i c (d + 1) := by
  unfold xF
  refine tabR_congr (fun q hq => ?_)
  by_cases e2 : c < q ∧ q ≤ d
  · rw [if_pos e2, if_pos (by omega)]
  · rw [if_neg e2, if_neg (by omega)]
theorem eF_end {dg : Int → Nat} {xs : List Int} {B i c c' : Nat} (hc : dg (xs.getD i 0) = c) : eF dg xs B i c B = eF dg xs B (i + 1) c' c' := by
  unfold eF
  refine tabR_congr (fun q hq => ?_)
  rw [if_neg (show ¬ (c' ≤ q ∧ q < c') by omega), cB, hc]
  by_cases e2 : c ≤ q
  · rw [if_pos ⟨e2, hq⟩, if_pos (by omega)]
  · rw [if_neg (by omega), if_neg (by omega)]
theorem xF_end {dg : Int → Nat} {xs : List Int} {B i c c' : Nat} (hc : dg (xs.getD i 0) = c) : xF dg xs B i c B = xF dg xs B (i + 1) c' c' := by
  unfold xF
  refine tabR_congr (fun q hq => ?_)
  rw [if_neg (show ¬ (c' < q ∧ q ≤ c') by omega), cB, hc]
  by_cases e2 : c < q
  · rw [if_pos ⟨e2, by omega⟩, if_pos e2]
  · rw [if_neg (by omega), if_neg (by omega)]
theorem eF_c (dg : Int → Nat) (xs : List Int) (B i c c' : Nat) : eF dg xs B i c c = eF dg xs B i c' c' := by
  unfold eF
  exact tabR_congr (fun q hq => by rw [if_neg (by omega), if_neg (by omega)])
theorem xF_c (dg : Int → Nat) (xs : List Int) (B i c c' : Nat) : xF dg xs B i c c = xF dg xs B i c' c' := by
  unfold xF
  exact tabR_congr (fun q hq => by rw [if_neg (by omega), if_neg (by omega)])
theorem eF_all (dg : Int → Nat) (xs : List Int) (B : Nat) : eF dg xs B xs.length 0 0 = enF dg xs B := by
  unfold eF enF
  exact tabR_congr (fun q hq => by rw [if_neg (by omega)]; rfl)
theorem xF_all (dg : Int → Nat) (xs : List Int) (B : Nat) : xF dg xs B xs.length 0 0 = tabR (fun q => (C0 dg xs q : Int)) B := by
  unfold xF
  exact tabR_congr (fun q hq => by rw [if_neg (by omega)]; rfl)
theorem eF_zero (dg : Int → Nat) (xs : List Int) (B : Nat) : List.replicate B (0 : Int) = eF dg xs B 0 0 0 := by
  rw [replicate_tab]; unfold eF
  exact tabR_congr (fun q hq => by rw [if_neg (by omega)]; rfl)
theorem xF_zero (dg : Int → Nat) (xs : List Int) (B : Nat) : List.replicate B (0 : Int) = xF dg xs B 0 0 0 := by
  rw [replicate_tab]; unfold xF
  exact tabR_congr (fun q hq => by rw [if_neg (by omega)]; rfl)
theorem eF_bd (dg : Int → Nat) (xs : List Int) (B i c d : Nat) {q : Nat} (h : q < B) : 0 ≤ (eF dg xs B i c d).getD q 0 ∧ (eF dg xs B i c d).getD q 0 ≤ i + 1 := by
  unfold eF
  rw [tabR_get _ h]
  have := cB_le dg xs (q + 1) i
  split <;> omega
theorem xF_bd (dg : Int → Nat) (xs : List Int) (B i c d : Nat) {q : Nat} (h : q < B) : 0 ≤ (xF dg xs B i c d).getD q 0 ∧ (xF dg xs B i c d).getD q 0 ≤ i + 1 := by
  unfold xF
  rw [tabR_get _ h]
  have := cB_le dg xs q i
  split <;> omega

theorem iFlagPass_t (xs : List Int) (base place : Int) (hx : xs.length ≤ 281474976710656) (h : flOk xs base place = true) : ACalls Try.prog 16 [tS 0 xs.length, tI base, tI place] [] [rI xs] (fun t H => t = .tup [aS 1 xs.length, aI (flagF (dgN base place) base.toNat xs).2, aB true] ∧ H = [rI xs, oI (flagF (dgN base place) base.toNat xs).1]) := by
  obtain ⟨hv, h2, hb, hp, B, rfl, hB2, hB⟩ := flOk_t h
  have h64 := validB_len hv
  rw [Int.toNat_natCast]
  have hdg : ∀ x ∈ xs, dgN (B : Int) place x < B := fun x hx => (dgN_eq (validB_mem hv hx) hb).2
  refine afun (fun i => match i with | 3 => some ⟨[], .op 0 .held (.op 2 .held (.two 1 3 (.op 4 .held (.op 3 .only (.op 5 .held .nil))) (.op 1 .only (.op 4 .held (.op 5 .held .nil)))))⟩ | 18 => some ⟨[], .op 0 .held (.op 1 .held (.op 2 .held (.op 3 .now (.op 4 .held (.op 5 .held (.op 6 .held (.op 7 .now (.op 8 .held .nil))))))))⟩ | 21 => some ⟨[3], .op 0 .held (.op 1 .held (.op 2 .held (.op 3 .held (.op 4 .now (.op 5 .held (.op 6 .held (.op 7 .held (.op 8 .held (.op 9 .now (.op 10 .held (.op 11 .held (.op 12 .held (.op 13 .held (.op 14 .now (.op 15 .held (.op 16 .now (.op 17 .held (.op 18 .held (.op 19 .held (.op 20 .held (.op 21 .now (.op 22 .held (.op 23 .now (.op 24 .held (.op 25 .only (.op 26 .held (.op 27 .only .nil)))))))))))))))))))))))))))⟩ | _ => none) [6, 7, 8] 1 Try.func16 rfl rfl mix (by kernel_rfl) (by kernel_rfl) (by simp [Try.f16]) rfl (by simp [msOwn, ownAll, Row.own]) ?_
  simp (dsimp := false) only [go_sem, Nat.reduceAdd, Nat.reduceBEq, Nat.reduceEqDiff, Nat.reduceLT, Nat.reduceLeDiff, reduceCtorEq, ↓reduceIte]
  repeat (refine And.intro (by first | exact True.intro | omega | kernel_rfl | (simp only [List.length_set, List.length_append, List.length_take, List.length_replicate, List.length_cons, true_and, and_true, List.length_nil, tabR_length]; omega)) ?_)
  refine ⟨_, (isValidList_l xs hx).lift [0] (by decide) (by simp) (by simp [RS.slot, List.map_cons, List.map_nil, rowsLe, rowLe, slotsLe, tvLe, TV.ren, AV.ren, C.ren, Dat.ren, Row.ren, TV.hs, AV.hs, C.hs, Dat.hs, get_cons, get_nil, zipSlots, List.getD_cons_zero, List.getD_cons_succ, List.getD_nil, -List.getD_eq_getElem?_getD]) (by simp [RS.slot, List.map_cons, List.map_nil, rowsLe, rowLe, slotsLe, tvLe, TV.ren, AV.ren, C.ren, Dat.ren, Row.ren, TV.hs, AV.hs, C.hs, Dat.hs, get_cons, get_nil, zipSlots, List.getD_cons_zero, List.getD_cons_succ, List.getD_nil, -List.getD_eq_getElem?_getD]) (by simp [RS.slot, List.map_cons, List.map_nil, rowsLe, rowLe, slotsLe, tvLe, TV.ren, AV.ren, C.ren, Dat.ren, Row.ren, TV.hs, AV.hs, C.hs, Dat.hs, get_cons, get_nil, zipSlots, List.getD_cons_zero, List.getD_cons_succ, List.getD_nil, -List.getD_eq_getElem?_getD]) rfl ?_⟩
  rintro _ _ ⟨rfl, rfl⟩
  refine ⟨by simp [ownIn, Row.own], ?_⟩
  simp (dsimp := false) only [hv, liftT, liftH, putBack, freshR, ownIn, Row.own, Row.ren, TV.ren, AV.ren, C.ren, Dat.ren, List.drop_succ_cons, List.drop_nil, List.getD_cons_zero, List.getD_cons_succ, List.getD_nil, go_sem, Nat.reduceAdd, Nat.reduceBEq, Nat.reduceEqDiff, Nat.reduceLT, Nat.reduceLeDiff, reduceCtorEq, ↓reduceIte]
  repeat (refine And.intro (by first | exact True.intro | omega | kernel_rfl | (simp only [List.length_set, List.length_append, List.length_take, List.length_replicate, List.length_cons, true_and, and_true, List.length_nil, tabR_length]; omega)) ?_)
  refine ⟨_, (isRadix_l B place).lift [] (by decide) (by simp) (by simp [RS.slot, List.map_cons, List.map_nil, rowsLe, rowLe, slotsLe, tvLe, TV.ren, AV.ren, C.ren, Dat.ren, Row.ren, TV.hs, AV.hs, C.hs, Dat.hs, get_cons, get_nil, zipSlots, List.getD_cons_zero, List.getD_cons_succ, List.getD_nil, -List.getD_eq_getElem?_getD]) (by simp [RS.slot, List.map_cons, List.map_nil, rowsLe, rowLe, slotsLe, tvLe, TV.ren, AV.ren, C.ren, Dat.ren, Row.ren, TV.hs, AV.hs, C.hs, Dat.hs, get_cons, get_nil, zipSlots, List.getD_cons_zero, List.getD_cons_succ, List.getD_nil, -List.getD_eq_getElem?_getD]) (by simp [RS.slot, List.map_cons, List.map_nil, rowsLe, rowLe, slotsLe, tvLe, TV.ren, AV.ren, C.ren, Dat.ren, Row.ren, TV.hs, AV.hs, C.hs, Dat.hs, get_cons, get_nil, zipSlots, List.getD_cons_zero, List.getD_cons_succ, List.getD_nil, -List.getD_eq_getElem?_getD]) rfl ?_⟩
  rintro _ _ ⟨rfl, rfl⟩
  refine ⟨by simp [ownIn, Row.own], ?_⟩
  simp (dsimp := false) only [h2, liftT, liftH, putBack, freshR, ownIn, Row.own, Row.ren, TV.ren, AV.ren, C.ren, Dat.ren, List.drop_succ_cons, List.drop_nil, List.getD_cons_zero, List.getD_cons_succ, List.getD_nil, go_sem, Nat.reduceAdd, Nat.reduceBEq, Nat.reduceEqDiff, Nat.reduceLT, Nat.reduceLeDiff, reduceCtorEq, ↓reduceIte]
  refine And.intro ?_ ?_
  · repeat (refine And.intro (by first | exact True.intro | omega | kernel_rfl | (simp only [List.length_set, List.length_append, List.length_take, List.length_replicate, List.length_cons, true_and, and_true, List.length_nil, tabR_length]; omega)) ?_)
    refine aloopQ (σ := Nat) (fun i => ([(0, tS 0 xs.length), (1, tI (B : Int)), (2, tI place), (9, tS 1 B), (10, tS 2 B), (31, tS 0 xs.length), (32, tI xs.length), (33, tI i)], [rI xs, oI (xF (dgN (B : Int) place) xs B i 0 0), oI (eF (dgN (B : Int) place) xs B i 0 0)])) (fun i => i ≤ xs.length) (fun i => xs.length - i) 0 [0, 1, 2] (by omega) (weak_of (by decide) (by simp [RS.slot, List.map_cons, List.map_nil, rowsLe, rowLe, slotsLe, tvLe, TV.ren, AV.ren, C.ren, Dat.ren, Row.ren, TV.hs, AV.hs, C.hs, Dat.hs, get_cons, get_nil, zipSlots, List.getD_cons_zero, List.getD_cons_succ, List.getD_nil, -List.getD_eq_getElem?_getD, Int.toNat_natCast, ← eF_zero, ← xF_zero])) ?_
    rintro Q0 hQ0 i hi
    have hxl : ∀ c d, (xF (dgN (B : Int) place) xs B i c d).length = B := fun _ _ => tabR_length _ _
    have hel : ∀ c d, (eF (dgN (B : Int) place) xs B i c d).length = B := fun _ _ => tabR_length _ _
    by_cases hc : i < xs.length
    · have hcd : decide ((i : Int) < xs.length) = true := by simp; omega
      have hk := validB_mem hv (getD_mem hc)
      obtain ⟨c, hce⟩ : ∃ c, c = dgN (B : Int) place (xs.getD i 0) := ⟨_, rfl⟩
      have hq := dgN_eq (place := place) hk hb
      have hcall := digit_l (xs.getD i 0) B place hk hb hp
      rw [hq.1, ← hce] at hcall
      have hq2 := hq.2
      rw [← hce] at hq2
      simp (dsimp := false) only [hcd, Int.toNat_natCast, go_sem, Nat.reduceAdd, Nat.reduceBEq, Nat.reduceEqDiff, Nat.reduceLT, Nat.reduceLeDiff, reduceCtorEq, ↓reduceIte]
      repeat (refine And.intro (by first | exact True.intro | omega | kernel_rfl | (simp only [List.length_set, List.length_append, List.length_take, List.length_replicate, List.length_cons, true_and, and_true, List.length_nil, tabR_length]; omega)) ?_)
      repeat (refine And.intro (by first | exact True.intro | omega | kernel_rfl | (simp only [List.length_set, List.length_append, List.length_take, List.length_replicate, List.length_cons, true_and, and_true, List.length_nil, tabR_length]; omega)) ?_)
      refine ⟨_, (hcall).lift [] (by decide) (by simp) (by simp [RS.slot, List.map_cons, List.map_nil, rowsLe, rowLe, slotsLe, tvLe, TV.ren, AV.ren, C.ren, Dat.ren, Row.ren, TV.hs, AV.hs, C.hs, Dat.hs, get_cons, get_nil, zipSlots, List.getD_cons_zero, List.getD_cons_succ, List.getD_nil, -List.getD_eq_getElem?_getD]) (by simp [RS.slot, List.map_cons, List.map_nil, rowsLe, rowLe, slotsLe, tvLe, TV.ren, AV.ren, C.ren, Dat.ren, Row.ren, TV.hs, AV.hs, C.hs, Dat.hs, get_cons, get_nil, zipSlots, List.getD_cons_zero, List.getD_cons_succ, List.getD_nil, -List.getD_eq_getElem?_getD]) (by simp [RS.slot, List.map_cons, List.map_nil, rowsLe, rowLe, slotsLe, tvLe, TV.ren, AV.ren, C.ren, Dat.ren, Row.ren, TV.hs, AV.hs, C.hs, Dat.hs, get_cons, get_nil, zipSlots, List.getD_cons_zero, List.getD_cons_succ, List.getD_nil, -List.getD_eq_getElem?_getD]) rfl ?_⟩
      rintro _ _ ⟨rfl, rfl⟩
      refine ⟨by simp [ownIn, Row.own], ?_⟩
      simp (dsimp := false) only [hcd, liftT, liftH, putBack, freshR, ownIn, Row.own, Row.ren, TV.ren, AV.ren, C.ren, Dat.ren, List.drop_succ_cons, List.drop_nil, List.getD_cons_zero, List.getD_cons_succ, List.getD_nil, go_sem, Nat.reduceAdd, Nat.reduceBEq, Nat.reduceEqDiff, Nat.reduceLT, Nat.reduceLeDiff, reduceCtorEq, ↓reduceIte]
      rw [eF_c _ xs B i 0 c, xF_c _ xs B i 0 c]
      refine aloopQ (σ := Nat) (fun d => ([(0, tS 0 xs.length), (1, tI (B : Int)), (2, tI place), (9, tS 1 B), (10, tS 2 B), (13, tI d), (31, tS 0 xs.length), (32, tI xs.length), (33, tI i)], [rI xs, oI (xF (dgN (B : Int) place) xs B i c d), oI (eF (dgN (B : Int) place) xs B i c d)])) (fun d => c ≤ d ∧ d ≤ B) (fun d => B - d) c [0, 1, 2] ⟨Nat.le_refl _, by omega⟩ (weak_of (by decide) (by simp [RS.slot, List.map_cons, List.map_nil, rowsLe, rowLe, slotsLe, tvLe, TV.ren, AV.ren, C.ren, Dat.ren, Row.ren, TV.hs, AV.hs, C.hs, Dat.hs, get_cons, get_nil, zipSlots, List.getD_cons_zero, List.getD_cons_succ, List.getD_nil, -List.getD_eq_getElem?_getD])) ?_
      rintro Q1 hQ1 d ⟨hcd', hdB⟩
      have hx1 := hxl c d
      have he1 := hel c d
      have ed : (d : Int) + 1 = ((d + 1 : Nat) : Int) := by omega
      by_cases hd : d < B
      · have hdd : decide ((d : Int) < B) = true := by simp; omega
        have hs1 := eF_step (dg := dgN (B : Int) place) (xs := xs) (i := i) hd hcd'
        have hb1 := eF_bd (dgN (B : Int) place) xs B i c d hd
        by_cases hd1 : d + 1 < B
        · have hdd1 : decide (((d + 1 : Nat) : Int) < B) = true := by simp; omega
          have hs2 := xF_step (dg := dgN (B : Int) place) (xs := xs) (i := i) hd1 hcd'
          have hb2 := xF_bd (dgN (B : Int) place) xs B i c d hd1
          simp (dsimp := false) only [hdd, hdd1, ed, Int.toNat_natCast, go_sem, Nat.reduceAdd, Nat.reduceBEq, Nat.reduceEqDiff, Nat.reduceLT, Nat.reduceLeDiff, reduceCtorEq, ↓reduceIte]
          repeat (refine And.intro (by first | exact True.intro | omega | kernel_rfl | (simp only [List.length_set, List.length_append, List.length_take, List.length_replicate, List.length_cons, true_and, and_true, List.length_nil, tabR_length]; omega)) ?_)
          refine ⟨d + 1, [0, 1, 2], ?_, weak_of (by decide) (by simp [RS.slot, List.map_cons, List.map_nil, rowsLe, rowLe, slotsLe, tvLe, TV.ren, AV.ren, C.ren, Dat.ren, Row.ren, TV.hs, AV.hs, C.hs, Dat.hs, get_cons, get_nil, zipSlots, List.getD_cons_zero, List.getD_cons_succ, List.getD_nil, -List.getD_eq_getElem?_getD, hs1, hs2])⟩
          omega
        · have hdd1 : decide (((d + 1 : Nat) : Int) < B) = false := by simp; omega
          have hs2 := xF_last (dg := dgN (B : Int) place) (xs := xs) (i := i) (c := c) hd1
          simp (dsimp := false) only [hdd, hdd1, ed, Int.toNat_natCast, go_sem, Nat.reduceAdd, Nat.reduceBEq, Nat.reduceEqDiff, Nat.reduceLT, Nat.reduceLeDiff, reduceCtorEq, ↓reduceIte]
          repeat (refine And.intro (by first | exact True.intro | omega | kernel_rfl | (simp only [List.length_set, List.length_append, List.length_take, List.length_replicate, List.length_cons, true_and, and_true, List.length_nil, tabR_length]; omega)) ?_)
          refine ⟨d + 1, [0, 1, 2], ?_, weak_of (by decide) (by simp [RS.slot, List.map_cons, List.map_nil, rowsLe, rowLe, slotsLe, tvLe, TV.ren, AV.ren, C.ren, Dat.ren, Row.ren, TV.hs, AV.hs, C.hs, Dat.hs, get_cons, get_nil, zipSlots, List.getD_cons_zero, List.getD_cons_succ, List.getD_nil, -List.getD_eq_getElem?_getD, hs1, hs2])⟩
          omega
      · have hdd : decide ((d : Int) < B) = false := by simp; omega
        have e : d = B := by omega
        subst e
        have h3 := eF_end (dg := dgN (d : Int) place) (xs := xs) (B := d) (i := i) (c := c) (c' := 0) hce.symm
        have h4 := xF_end (dg := dgN (d : Int) place) (xs := xs) (B := d) (i := i) (c := c) (c' := 0) hce.symm
        simp (dsimp := false) only [hdd, go_sem, Nat.reduceAdd, Nat.reduceBEq, Nat.reduceEqDiff, Nat.reduceLT, Nat.reduceLeDiff, reduceCtorEq, ↓reduceIte]
        refine hQ1 _ _ _ ?_
        simp (dsimp := false) only [go_sem, Nat.reduceAdd, Nat.reduceBEq, Nat.reduceEqDiff, Nat.reduceLT, Nat.reduceLeDiff, reduceCtorEq, ↓reduceIte]
        repeat (refine And.intro (by first | exact True.intro | omega | kernel_rfl | (simp only [List.length_set, List.length_append, List.length_take, List.length_replicate, List.length_cons, true_and, and_true, List.length_nil, tabR_length]; omega)) ?_)
        refine ⟨i + 1, [0, 1, 2], ?_, weak_of (by decide) (by simp [RS.slot, List.map_cons, List.map_nil, rowsLe, rowLe, slotsLe, tvLe, TV.ren, AV.ren, C.ren, Dat.ren, Row.ren, TV.hs, AV.hs, C.hs, Dat.hs, get_cons, get_nil, zipSlots, List.getD_cons_zero, List.getD_cons_succ, List.getD_nil, -List.getD_eq_getElem?_getD, h3, h4])⟩
        omega
    · have hcd : decide ((i : Int) < xs.length) = false := by simp; omega
      have e : i = xs.length := by omega
      subst e
      rw [eF_all, xF_all]
      simp (dsimp := false) only [hcd, go_sem, Nat.reduceAdd, Nat.reduceBEq, Nat.reduceEqDiff, Nat.reduceLT, Nat.reduceLeDiff, reduceCtorEq, ↓reduceIte]
      refine hQ0 _ _ _ ?_
      simp (dsimp := false) only [go_sem, Nat.reduceAdd, Nat.reduceBEq, Nat.reduceEqDiff, Nat.reduceLT, Nat.reduceLeDiff, reduceCtorEq, ↓reduceIte]
      repeat (refine And.intro (by first | exact True.intro | omega | kernel_rfl | (simp only [List.length_set, List.length_append, List.length_take, List.length_replicate, List.length_cons, true_and, and_true, List.length_nil, tabR_length]; omega)) ?_)
      refine ⟨_, (copyOf_l xs (by omega)).lift [0] (by decide) (by simp) (by simp [RS.slot, List.map_cons, List.map_nil, rowsLe, rowLe, slotsLe, tvLe, TV.ren, AV.ren, C.ren, Dat.ren, Row.ren, TV.hs, AV.hs, C.hs, Dat.hs, get_cons, get_nil, zipSlots, List.getD_cons_zero, List.getD_cons_succ, List.getD_nil, -List.getD_eq_getElem?_getD]) (by simp [RS.slot, List.map_cons, List.map_nil, rowsLe, rowLe, slotsLe, tvLe, TV.ren, AV.ren, C.ren, Dat.ren, Row.ren, TV.hs, AV.hs, C.hs, Dat.hs, get_cons, get_nil, zipSlots, List.getD_cons_zero, List.getD_cons_succ, List.getD_nil, -List.getD_eq_getElem?_getD]) (by simp [RS.slot, List.map_cons, List.map_nil, rowsLe, rowLe, slotsLe, tvLe, TV.ren, AV.ren, C.ren, Dat.ren, Row.ren, TV.hs, AV.hs, C.hs, Dat.hs, get_cons, get_nil, zipSlots, List.getD_cons_zero, List.getD_cons_succ, List.getD_nil, -List.getD_eq_getElem?_getD]) rfl ?_⟩
      rintro _ _ ⟨rfl, rfl⟩
      refine ⟨by simp [ownIn, Row.own], ?_⟩
      simp (dsimp := false) only [liftT, liftH, putBack, freshR, ownIn, Row.own, Row.ren, TV.ren, AV.ren, C.ren, Dat.ren, List.drop_succ_cons, List.drop_nil, List.getD_cons_zero, List.getD_cons_succ, List.getD_nil, go_sem, Nat.reduceAdd, Nat.reduceBEq, Nat.reduceEqDiff, Nat.reduceLT, Nat.reduceLeDiff, reduceCtorEq, ↓reduceIte]
      obtain ⟨dg, hdgd⟩ : ∃ dg, dg = dgN (B : Int) place := ⟨_, rfl⟩
      have hdq : ∀ x ∈ xs, digitF x (B : Int) place = (dg x : Int) := fun x hx => by rw [hdgd]; exact (dgN_eq (validB_mem hv hx) hb).1
      rw [← hdgd] at hdg ⊢
      have hel2 : (enF dg xs B).length = B := tabR_length _ _
      refine aloopQ (σ := Nat × Nat × List Int × List Int × (Nat → Nat) × Nat) (fun s => ([(1, tI (B : Int)), (2, tI place), (9, tS 1 B), (10, tS 2 B), (14, tS 3 xs.length), (15, tI s.2.2.2.2.2), (66, tI B), (67, tI s.2.1)], [rI xs, oI s.2.2.2.1, oI (enF dg xs B), oI s.2.2.1])) (fun s => FJ dg B xs s.1 s.2.1 s.2.2.1 s.2.2.2.1 s.2.2.2.2.1 s.2.2.2.2.2 ∧ s.2.2.2.1.length = B) (fun s => s.1) (B + xs.length, 0, xs, tabR (fun q => (C0 dg xs q : Int)) B, C0 dg xs, 0) [0, 1, 2, 3] ⟨FJ.start (by dsimp only; rw [tabR_length]; omega) (fun d hd => by dsimp only; rw [tabR_get _ (by omega)]), tabR_length _ _⟩ (weak_of (by decide) (by simp [RS.slot, List.map_cons, List.map_nil, rowsLe, rowLe, slotsLe, tvLe, TV.ren, AV.ren, C.ren, Dat.ren, Row.ren, TV.hs, AV.hs, C.hs, Dat.hs, get_cons, get_nil, zipSlots, List.getD_cons_zero, List.getD_cons_succ, List.getD_nil, -List.getD_eq_getElem?_getD])) ?_
      rintro Q hQ ⟨f0, b, zs0, nx0, pl0, sw0⟩ ⟨hj0, hn0⟩
      simp only at hj0 hn0
      by_cases hc3 : b < B
      · have hcd3 : decide ((b : Int) < B) = true := by simp; omega
        simp (dsimp := false) only [hcd3, go_sem, Nat.reduceAdd, Nat.reduceBEq, Nat.reduceEqDiff, Nat.reduceLT, Nat.reduceLeDiff, reduceCtorEq, ↓reduceIte]
        refine aloopQ (σ := Nat × List Int × List Int × (Nat → Nat) × Nat) (fun t => ([(1, tI (B : Int)), (2, tI place), (9, tS 1 B), (10, tS 2 B), (14, tS 3 xs.length), (15, tI t.2.2.2.2), (16, tI b), (66, tI B), (67, tI b)], [rI xs, oI t.2.2.1, oI (enF dg xs B), oI t.2.1])) (fun t => FJ dg B xs t.1 b t.2.1 t.2.2.1 t.2.2.2.1 t.2.2.2.2 ∧ t.2.2.1.length = B ∧ t.1 ≤ f0) (fun t => t.1) (f0, zs0, nx0, pl0, sw0) [0, 1, 2, 3] ⟨hj0, hn0, Nat.le_refl _⟩ (weak_of (by decide) (by simp [RS.slot, List.map_cons, List.map_nil, rowsLe, rowLe, slotsLe, tvLe, TV.ren, AV.ren, C.ren, Dat.ren, Row.ren, TV.hs, AV.hs, C.hs, Dat.hs, get_cons, get_nil, zipSlots, List.getD_cons_zero, List.getD_cons_succ, List.getD_nil, -List.getD_eq_getElem?_getD])) ?_
        rintro Q2 hQ2 ⟨f, zs, nx, pl, sw⟩ ⟨hj, hnl, hff⟩
        simp only at hj hnl hff
        have hnb := hj.fi.nval b hc3
        have hen : (enF dg xs B).getD b 0 = (C0 dg xs (b + 1) : Int) := tabR_get _ hc3
        have hsw := hj.sw_le
        have hzl := hj.fi.perm.length_eq
        by_cases hc4 : pl b < C0 dg xs (b + 1)
        · have hcd4 : decide ((pl b : Int) < (C0 dg xs (b + 1) : Int)) = true := by simp; omega
          obtain ⟨r1, r2, r3, r4⟩ := hj.fi.room hdg hc3 hc4
          obtain ⟨g, hg, hst⟩ := hj.step hdg hc3 hc4
          have hmem := hj.fi.perm.mem_iff.mp (getD_mem r1)
          have hk := validB_mem hv hmem
          have hcall := digit_l (zs.getD (pl b) 0) B place hk hb hp
          rw [hdq _ hmem] at hcall
          obtain ⟨d, hde⟩ : ∃ d, d = dg (zs.getD (pl b) 0) := ⟨_, rfl⟩
          rw [← hde] at r2 r3 r4 hst hcall
          have hnd := hj.fi.nval d r2
          have hplb := C0_le dg xs (d + 1)
          by_cases hdb : d = b
          · subst hdb
            have hne : ((d : Int) != (d : Int)) = false := by simp
            rw [fStep_same hde.symm] at hst
            simp (dsimp := false) only [hnb, hen, hcd4, Int.toNat_natCast, go_sem, Nat.reduceAdd, Nat.reduceBEq, Nat.reduceEqDiff, Nat.reduceLT, Nat.reduceLeDiff, reduceCtorEq, ↓reduceIte]
            repeat (refine And.intro (by first | exact True.intro | omega | kernel_rfl | (simp only [List.length_set, List.length_append, List.length_take, List.length_replicate, List.length_cons, true_and, and_true, List.length_nil, tabR_length]; omega)) ?_)
            repeat (refine And.intro (by first | exact True.intro | omega | kernel_rfl | (simp only [List.length_set, List.length_append, List.length_take, List.length_replicate, List.length_cons, true_and, and_true, List.length_nil, tabR_length]; omega)) ?_)
            refine ⟨_, (hcall).lift [] (by decide) (by simp) (by simp [RS.slot, List.map_cons, List.map_nil, rowsLe, rowLe, slotsLe, tvLe, TV.ren, AV.ren, C.ren, Dat.ren, Row.ren, TV.hs, AV.hs, C.hs, Dat.hs, get_cons, get_nil, zipSlots, List.getD_cons_zero, List.getD_cons_succ, List.getD_nil, -List.getD_eq_getElem?_getD]) (by simp [RS.slot, List.map_cons, List.map_nil, rowsLe, rowLe, slotsLe, tvLe, TV.ren, AV.ren, C.ren, Dat.ren, Row.ren, TV.hs, AV.hs, C.hs, Dat.hs, get_cons, get_nil, zipSlots, List.getD_cons_zero, List.getD_cons_succ, List.getD_nil, -List.getD_eq_getElem?_getD]) (by simp [RS.slot, List.map_cons, List.map_nil, rowsLe, rowLe, slotsLe, tvLe, TV.ren, AV.ren, C.ren, Dat.ren, Row.ren, TV.hs, AV.hs, C.hs, Dat.hs, get_cons, get_nil, zipSlots, List.getD_cons_zero, List.getD_cons_succ, List.getD_nil, -List.getD_eq_getElem?_getD]) rfl ?_⟩
            rintro _ _ ⟨rfl, rfl⟩
            refine ⟨by simp [ownIn, Row.own], ?_⟩
            simp (dsimp := false) only [hne, hnb, Int.toNat_natCast, liftT, liftH, putBack, freshR, ownIn, Row.own, Row.ren, TV.ren, AV.ren, C.ren, Dat.ren, List.drop_succ_cons, List.drop_nil, List.getD_cons_zero, List.getD_cons_succ, List.getD_nil, go_sem, Nat.reduceAdd, Nat.reduceBEq, Nat.reduceEqDiff, Nat.reduceLT, Nat.reduceLeDiff, reduceCtorEq, ↓reduceIte]
            repeat (refine And.intro (by first | exact True.intro | omega | kernel_rfl | (simp only [List.length_set, List.length_append, List.length_take, List.length_replicate, List.length_cons, true_and, and_true, List.length_nil, tabR_length]; omega)) ?_)
            refine ⟨(g, zs, nx.set d (nx.getD d 0 + 1), (fun e => if e = d then pl e + 1 else pl e), sw), [0, 1, 2, 3], ?_, weak_of (by decide) (by simp [RS.slot, List.map_cons, List.map_nil, rowsLe, rowLe, slotsLe, tvLe, TV.ren, AV.ren, C.ren, Dat.ren, Row.ren, TV.hs, AV.hs, C.hs, Dat.hs, get_cons, get_nil, zipSlots, List.getD_cons_zero, List.getD_cons_succ, List.getD_nil, -List.getD_eq_getElem?_getD, hnb])⟩
            dsimp only
            exact ⟨⟨hst, by rw [List.length_set]; exact hnl, by omega⟩, by omega⟩
          · have hne : ((d : Int) != (b : Int)) = true := by simp; omega
            rw [fStep_diff hde.symm hdb] at hst
            have hsc : (zs.set (pl b) (zs.getD (pl d) 0)).set (pl d) (zs.getD (pl b) 0) = swp zs (pl b) (pl d) := rfl
            simp (dsimp := false) only [hnb, hen, hcd4, Int.toNat_natCast, go_sem, Nat.reduceAdd, Nat.reduceBEq, Nat.reduceEqDiff, Nat.reduceLT, Nat.reduceLeDiff, reduceCtorEq, ↓reduceIte]
            repeat (refine And.intro (by first | exact True.intro | omega | kernel_rfl | (simp only [List.length_set, List.length_append, List.length_take, List.length_replicate, List.length_cons, true_and, and_true, List.length_nil, tabR_length]; omega)) ?_)
            repeat (refine And.intro (by first | exact True.intro | omega | kernel_rfl | (simp only [List.length_set, List.length_append, List.length_take, List.length_replicate, List.length_cons, true_and, and_true, List.length_nil, tabR_length]; omega)) ?_)
            refine ⟨_, (hcall).lift [] (by decide) (by simp) (by simp [RS.slot, List.map_cons, List.map_nil, rowsLe, rowLe, slotsLe, tvLe, TV.ren, AV.ren, C.ren, Dat.ren, Row.ren, TV.hs, AV.hs, C.hs, Dat.hs, get_cons, get_nil, zipSlots, List.getD_cons_zero, List.getD_cons_succ, List.getD_nil, -List.getD_eq_getElem?_getD]) (by simp [RS.slot, List.map_cons, List.map_nil, rowsLe, rowLe, slotsLe, tvLe, TV.ren, AV.ren, C.ren, Dat.ren, Row.ren, TV.hs, AV.hs, C.hs, Dat.hs, get_cons, get_nil, zipSlots, List.getD_cons_zero, List.getD_cons_succ, List.getD_nil, -List.getD_eq_getElem?_getD]) (by simp [RS.slot, List.map_cons, List.map_nil, rowsLe, rowLe, slotsLe, tvLe, TV.ren, AV.ren, C.ren, Dat.ren, Row.ren, TV.hs, AV.hs, C.hs, Dat.hs, get_cons, get_nil, zipSlots, List.getD_cons_zero, List.getD_cons_succ, List.getD_nil, -List.getD_eq_getElem?_getD]) rfl ?_⟩
            rintro _ _ ⟨rfl, rfl⟩
            refine ⟨by simp [ownIn, Row.own], ?_⟩
            simp (dsimp := false) only [hne, hnb, hnd, Int.toNat_natCast, liftT, liftH, putBack, freshR, ownIn, Row.own, Row.ren, TV.ren, AV.ren, C.ren, Dat.ren, List.drop_succ_cons, List.drop_nil, List.getD_cons_zero, List.getD_cons_succ, List.getD_nil, go_sem, Nat.reduceAdd, Nat.reduceBEq, Nat.reduceEqDiff, Nat.reduceLT, Nat.reduceLeDiff, reduceCtorEq, ↓reduceIte]
            repeat (refine And.intro (by first | exact True.intro | omega | kernel_rfl | (simp only [List.length_set, List.length_append, List.length_take, List.length_replicate, List.length_cons, true_and, and_true, List.length_nil, tabR_length]; omega)) ?_)
            refine ⟨(g, swp zs (pl b) (pl d), nx.set d (nx.getD d 0 + 1), (fun e => if e = d then pl e + 1 else pl e), sw + 1), [0, 1, 2, 3], ?_, weak_of (by decide) (by simp [RS.slot, List.map_cons, List.map_nil, rowsLe, rowLe, slotsLe, tvLe, TV.ren, AV.ren, C.ren, Dat.ren, Row.ren, TV.hs, AV.hs, C.hs, Dat.hs, get_cons, get_nil, zipSlots, List.getD_cons_zero, List.getD_cons_succ, List.getD_nil, -List.getD_eq_getElem?_getD, hnd, hsc])⟩
            dsimp only
            exact ⟨⟨hst, by rw [List.length_set]; exact hnl, by omega⟩, by omega⟩
        · have hcd4 : decide ((pl b : Int) < (C0 dg xs (b + 1) : Int)) = false := by simp; omega
          obtain ⟨g, hg, hst⟩ := hj.out hc3 hc4
          simp (dsimp := false) only [hnb, hen, hcd4, Int.toNat_natCast, go_sem, Nat.reduceAdd, Nat.reduceBEq, Nat.reduceEqDiff, Nat.reduceLT, Nat.reduceLeDiff, reduceCtorEq, ↓reduceIte]
          repeat (refine And.intro (by first | exact True.intro | omega | kernel_rfl | (simp only [List.length_set, List.length_append, List.length_take, List.length_replicate, List.length_cons, true_and, and_true, List.length_nil, tabR_length]; omega)) ?_)
          refine hQ2 _ _ _ ?_
          simp (dsimp := false) only [go_sem, Nat.reduceAdd, Nat.reduceBEq, Nat.reduceEqDiff, Nat.reduceLT, Nat.reduceLeDiff, reduceCtorEq, ↓reduceIte]
          repeat (refine And.intro (by first | exact True.intro | omega | kernel_rfl | (simp only [List.length_set, List.length_append, List.length_take, List.length_replicate, List.length_cons, true_and, and_true, List.length_nil, tabR_length]; omega)) ?_)
          refine ⟨(g, b + 1, zs, nx, pl, sw), [0, 1, 2, 3], ?_, weak_of (by decide) (by simp [RS.slot, List.map_cons, List.map_nil, rowsLe, rowLe, slotsLe, tvLe, TV.ren, AV.ren, C.ren, Dat.ren, Row.ren, TV.hs, AV.hs, C.hs, Dat.hs, get_cons, get_nil, zipSlots, List.getD_cons_zero, List.getD_cons_succ, List.getD_nil, -List.getD_eq_getElem?_getD])⟩
          dsimp only
          exact ⟨⟨hst, hnl⟩, by omega⟩
      · have hcd3 : decide ((b : Int) < B) = false := by simp; omega
        have hfin := hj0.done hc3
        simp (dsimp := false) only [hcd3, go_sem, Nat.reduceAdd, Nat.reduceBEq, Nat.reduceEqDiff, Nat.reduceLT, Nat.reduceLeDiff, reduceCtorEq, ↓reduceIte]
        refine hQ _ _ _ ?_
        simp (dsimp := false) only [go_sem, Nat.reduceAdd, Nat.reduceBEq, Nat.reduceEqDiff, Nat.reduceLT, Nat.reduceLeDiff, reduceCtorEq, ↓reduceIte]
        rw [hfin]
        refine afin [0, 3] [aS 1 xs.length, aI sw0, aB true] [rI xs, oI zs0] (by simp) rfl (weak_of (by decide) (by simp [RS.slot, List.map_cons, List.map_nil, rowsLe, rowLe, slotsLe, tvLe, TV.ren, AV.ren, C.ren, Dat.ren, Row.ren, TV.hs, AV.hs, C.hs, Dat.hs, get_cons, get_nil, zipSlots, List.getD_cons_zero, List.getD_cons_succ, List.getD_nil, -List.getD_eq_getElem?_getD])) (by simp [rtv])
  · repeat (refine And.intro (by first | exact True.intro | omega | kernel_rfl | (simp only [List.length_set, List.length_append, List.length_take, List.length_replicate, List.length_cons, true_and, and_true, List.length_nil, tabR_length]; omega)) ?_)
    refine aloopQ (σ := Nat) (fun i => ([(0, tS 0 xs.length), (1, tI (B : Int)), (2, tI place), (9, tS 1 B), (10, tS 2 B), (31, tS 0 xs.length), (32, tI xs.length), (33, tI i)], [rI xs, oI (xF (dgN (B : Int) place) xs B i 0 0), oI (eF (dgN (B : Int) place) xs B i 0 0)])) (fun i => i ≤ xs.length) (fun i => xs.length - i) 0 [0, 2, 1] (by omega) (weak_of (by decide) (by simp [RS.slot, List.map_cons, List.map_nil, rowsLe, rowLe, slotsLe, tvLe, TV.ren, AV.ren, C.ren, Dat.ren, Row.ren, TV.hs, AV.hs, C.hs, Dat.hs, get_cons, get_nil, zipSlots, List.getD_cons_zero, List.getD_cons_succ, List.getD_nil, -List.getD_eq_getElem?_getD, Int.toNat_natCast, ← eF_zero, ← xF_zero])) ?_
    rintro Q0 hQ0 i hi
    have hxl : ∀ c d, (xF (dgN (B : Int) place) xs B i c d).length = B := fun _ _ => tabR_length _ _
    have hel : ∀ c d, (eF (dgN (B : Int) place) xs B i c d).length = B := fun _ _ => tabR_length _ _
    by_cases hc : i < xs.length
    · have hcd : decide ((i : Int) < xs.length) = true := by simp; omega
      have hk := validB_mem hv (getD_mem hc)
      obtain ⟨c, hce⟩ : ∃ c, c = dgN (B : Int) place (xs.getD i 0) := ⟨_, rfl⟩
      have hq := dgN_eq (place := place) hk hb
      have hcall := digit_l (xs.getD i 0) B place hk hb hp
      rw [hq.1, ← hce] at hcall
      have hq2 := hq.2
      rw [← hce] at hq2
      simp (dsimp := false) only [hcd, Int.toNat_natCast, go_sem, Nat.reduceAdd, Nat.reduceBEq, Nat.reduceEqDiff, Nat.reduceLT, Nat.reduceLeDiff, reduceCtorEq, ↓reduceIte]
      repeat (refine And.intro (by first | exact True.intro | omega | kernel_rfl | (simp only [List.length_set, List.length_append, List.length_take, List.length_replicate, List.length_cons, true_and, and_true, List.length_nil, tabR_length]; omega)) ?_)
      repeat (refine And.intro (by first | exact True.intro | omega | kernel_rfl | (simp only [List.length_set, List.length_append, List.length_take, List.length_replicate, List.length_cons, true_and, and_true, List.length_nil, tabR_length]; omega)) ?_)
      refine ⟨_, (hcall).lift [] (by decide) (by simp) (by simp [RS.slot, List.map_cons, List.map_nil, rowsLe, rowLe, slotsLe, tvLe, TV.ren, AV.ren, C.ren, Dat.ren, Row.ren, TV.hs, AV.hs, C.hs, Dat.hs, get_cons, get_nil, zipSlots, List.getD_cons_zero, List.getD_cons_succ, List.getD_nil, -List.getD_eq_getElem?_getD]) (by simp [RS.slot, List.map_cons, List.map_nil, rowsLe, rowLe, slotsLe, tvLe, TV.ren, AV.ren, C.ren, Dat.ren, Row.ren, TV.hs, AV.hs, C.hs, Dat.hs, get_cons, get_nil, zipSlots, List.getD_cons_zero, List.getD_cons_succ, List.getD_nil, -List.getD_eq_getElem?_getD]) (by simp [RS.slot, List.map_cons, List.map_nil, rowsLe, rowLe, slotsLe, tvLe, TV.ren, AV.ren, C.ren, Dat.ren, Row.ren, TV.hs, AV.hs, C.hs, Dat.hs, get_cons, get_nil, zipSlots, List.getD_cons_zero, List.getD_cons_succ, List.getD_nil, -List.getD_eq_getElem?_getD]) rfl ?_⟩
      rintro _ _ ⟨rfl, rfl⟩
      refine ⟨by simp [ownIn, Row.own], ?_⟩
      simp (dsimp := false) only [hcd, liftT, liftH, putBack, freshR, ownIn, Row.own, Row.ren, TV.ren, AV.ren, C.ren, Dat.ren, List.drop_succ_cons, List.drop_nil, List.getD_cons_zero, List.getD_cons_succ, List.getD_nil, go_sem, Nat.reduceAdd, Nat.reduceBEq, Nat.reduceEqDiff, Nat.reduceLT, Nat.reduceLeDiff, reduceCtorEq, ↓reduceIte]
      rw [eF_c _ xs B i 0 c, xF_c _ xs B i 0 c]
      refine aloopQ (σ := Nat) (fun d => ([(0, tS 0 xs.length), (1, tI (B : Int)), (2, tI place), (9, tS 1 B), (10, tS 2 B), (13, tI d), (31, tS 0 xs.length), (32, tI xs.length), (33, tI i)], [rI xs, oI (xF (dgN (B : Int) place) xs B i c d), oI (eF (dgN (B : Int) place) xs B i c d)])) (fun d => c ≤ d ∧ d ≤ B) (fun d => B - d) c [0, 1, 2] ⟨Nat.le_refl _, by omega⟩ (weak_of (by decide) (by simp [RS.slot, List.map_cons, List.map_nil, rowsLe, rowLe, slotsLe, tvLe, TV.ren, AV.ren, C.ren, Dat.ren, Row.ren, TV.hs, AV.hs, C.hs, Dat.hs, get_cons, get_nil, zipSlots, List.getD_cons_zero, List.getD_cons_succ, List.getD_nil, -List.getD_eq_getElem?_getD])) ?_
      rintro Q1 hQ1 d ⟨hcd', hdB⟩
      have hx1 := hxl c d
      have he1 := hel c d
      have ed : (d : Int) + 1 = ((d + 1 : Nat) : Int) := by omega
      by_cases hd : d < B
      · have hdd : decide ((d : Int) < B) = true := by simp; omega
        have hs1 := eF_step (dg := dgN (B : Int) place) (xs := xs) (i := i) hd hcd'
        have hb1 := eF_bd (dgN (B : Int) place) xs B i c d hd
        by_cases hd1 : d + 1 < B
        · have hdd1 : decide (((d + 1 : Nat) : Int) < B) = true := by simp; omega
          have hs2 := xF_step (dg := dgN (B : Int) place) (xs := xs) (i := i) hd1 hcd'
          have hb2 := xF_bd (dgN (B : Int) place) xs B i c d hd1
          simp (dsimp := false) only [hdd, hdd1, ed, Int.toNat_natCast, go_sem, Nat.reduceAdd, Nat.reduceBEq, Nat.reduceEqDiff, Nat.reduceLT, Nat.reduceLeDiff, reduceCtorEq, ↓reduceIte]
          repeat (refine And.intro (by first | exact True.intro | omega | kernel_rfl | (simp only [List.length_set, List.length_append, List.length_take, List.length_replicate, List.length_cons, true_and, and_true, List.length_nil, tabR_length]; omega)) ?_)
          refine ⟨d + 1, [0, 1, 2], ?_, weak_of (by decide) (by simp [RS.slot, List.map_cons, List.map_nil, rowsLe, rowLe, slotsLe, tvLe, TV.ren, AV.ren, C.ren, Dat.ren, Row.ren, TV.hs, AV.hs, C.hs, Dat.hs, get_cons, get_nil, zipSlots, List.getD_cons_zero, List.getD_cons_succ, List.getD_nil, -List.getD_eq_getElem?_getD, hs1, hs2])⟩
          omega
        · have hdd1 : decide (((d + 1 : Nat) : Int) < B) = false := by simp; omega
          have hs2 := xF_last (dg := dgN (B : Int) place) (xs := xs) (i := i) (c := c) hd1
          simp (dsimp := false) only [hdd, hdd1, ed, Int.toNat_natCast, go_sem, Nat.reduceAdd, Nat.reduceBEq, Nat.reduceEqDiff, Nat.reduceLT, Nat.reduceLeDiff, reduceCtorEq, ↓reduceIte]
          repeat (refine And.intro (by first | exact True.intro | omega | kernel_rfl | (simp only [List.length_set, List.length_append, List.length_take, List.length_replicate, List.length_cons, true_and, and_true, List.length_nil, tabR_length]; omega)) ?_)
          refine ⟨d + 1, [0, 1, 2], ?_, weak_of (by decide) (by simp [RS.slot, List.map_cons, List.map_nil, rowsLe, rowLe, slotsLe, tvLe, TV.ren, AV.ren, C.ren, Dat.ren, Row.ren, TV.hs, AV.hs, C.hs, Dat.hs, get_cons, get_nil, zipSlots, List.getD_cons_zero, List.getD_cons_succ, List.getD_nil, -List.getD_eq_getElem?_getD, hs1, hs2])⟩
          omega
      · have hdd : decide ((d : Int) < B) = false := by simp; omega
        have e : d = B := by omega
        subst e
        have h3 := eF_end (dg := dgN (d : Int) place) (xs := xs) (B := d) (i := i) (c := c) (c' := 0) hce.symm
        have h4 := xF_end (dg := dgN (d : Int) place) (xs := xs) (B := d) (i := i) (c := c) (c' := 0) hce.symm
        simp (dsimp := false) only [hdd, go_sem, Nat.reduceAdd, Nat.reduceBEq, Nat.reduceEqDiff, Nat.reduceLT, Nat.reduceLeDiff, reduceCtorEq, ↓reduceIte]
        refine hQ1 _ _ _ ?_
        simp (dsimp := false) only [go_sem, Nat.reduceAdd, Nat.reduceBEq, Nat.reduceEqDiff, Nat.reduceLT, Nat.reduceLeDiff, reduceCtorEq, ↓reduceIte]
        repeat (refine And.intro (by first | exact True.intro | omega | kernel_rfl | (simp only [List.length_set, List.length_append, List.length_take, List.length_replicate, List.length_cons, true_and, and_true, List.length_nil, tabR_length]; omega)) ?_)
        refine ⟨i + 1, [0, 1, 2], ?_, weak_of (by decide) (by simp [RS.slot, List.map_cons, List.map_nil, rowsLe, rowLe, slotsLe, tvLe, TV.ren, AV.ren, C.ren, Dat.ren, Row.ren, TV.hs, AV.hs, C.hs, Dat.hs, get_cons, get_nil, zipSlots, List.getD_cons_zero, List.getD_cons_succ, List.getD_nil, -List.getD_eq_getElem?_getD, h3, h4])⟩
        omega
    · have hcd : decide ((i : Int) < xs.length) = false := by simp; omega
      have e : i = xs.length := by omega
      subst e
      rw [eF_all, xF_all]
      simp (dsimp := false) only [hcd, go_sem, Nat.reduceAdd, Nat.reduceBEq, Nat.reduceEqDiff, Nat.reduceLT, Nat.reduceLeDiff, reduceCtorEq, ↓reduceIte]
      refine hQ0 _ _ _ ?_
      simp (dsimp := false) only [go_sem, Nat.reduceAdd, Nat.reduceBEq, Nat.reduceEqDiff, Nat.reduceLT, Nat.reduceLeDiff, reduceCtorEq, ↓reduceIte]
      repeat (refine And.intro (by first | exact True.intro | omega | kernel_rfl | (simp only [List.length_set, List.length_append, List.length_take, List.length_replicate, List.length_cons, true_and, and_true, List.length_nil, tabR_length]; omega)) ?_)
      refine ⟨_, (copyOf_l xs (by omega)).lift [0] (by decide) (by simp) (by simp [RS.slot, List.map_cons, List.map_nil, rowsLe, rowLe, slotsLe, tvLe, TV.ren, AV.ren, C.ren, Dat.ren, Row.ren, TV.hs, AV.hs, C.hs, Dat.hs, get_cons, get_nil, zipSlots, List.getD_cons_zero, List.getD_cons_succ, List.getD_nil, -List.getD_eq_getElem?_getD]) (by simp [RS.slot, List.map_cons, List.map_nil, rowsLe, rowLe, slotsLe, tvLe, TV.ren, AV.ren, C.ren, Dat.ren, Row.ren, TV.hs, AV.hs, C.hs, Dat.hs, get_cons, get_nil, zipSlots, List.getD_cons_zero, List.getD_cons_succ, List.getD_nil, -List.getD_eq_getElem?_getD]) (by simp [RS.slot, List.map_cons, List.map_nil, rowsLe, rowLe, slotsLe, tvLe, TV.ren, AV.ren, C.ren, Dat.ren, Row.ren, TV.hs, AV.hs, C.hs, Dat.hs, get_cons, get_nil, zipSlots, List.getD_cons_zero, List.getD_cons_succ, List.getD_nil, -List.getD_eq_getElem?_getD]) rfl ?_⟩
      rintro _ _ ⟨rfl, rfl⟩
      refine ⟨by simp [ownIn, Row.own], ?_⟩
      simp (dsimp := false) only [liftT, liftH, putBack, freshR, ownIn, Row.own, Row.ren, TV.ren, AV.ren, C.ren, Dat.ren, List.drop_succ_cons, List.drop_nil, List.getD_cons_zero, List.getD_cons_succ, List.getD_nil, go_sem, Nat.reduceAdd, Nat.reduceBEq, Nat.reduceEqDiff, Nat.reduceLT, Nat.reduceLeDiff, reduceCtorEq, ↓reduceIte]
      obtain ⟨dg, hdgd⟩ : ∃ dg, dg = dgN (B : Int) place := ⟨_, rfl⟩
      have hdq : ∀ x ∈ xs, digitF x (B : Int) place = (dg x : Int) := fun x hx => by rw [hdgd]; exact (dgN_eq (validB_mem hv hx) hb).1
      rw [← hdgd] at hdg ⊢
      have hel2 : (enF dg xs B).length = B := tabR_length _ _
      refine aloopQ (σ := Nat × Nat × List Int × List Int × (Nat → Nat) × Nat) (fun s => ([(1, tI (B : Int)), (2, tI place), (9, tS 1 B), (10, tS 2 B), (14, tS 3 xs.length), (15, tI s.2.2.2.2.2), (66, tI B), (67, tI s.2.1)], [rI xs, oI s.2.2.2.1, oI (enF dg xs B), oI s.2.2.1])) (fun s => FJ dg B xs s.1 s.2.1 s.2.2.1 s.2.2.2.1 s.2.2.2.2.1 s.2.2.2.2.2 ∧ s.2.2.2.1.length = B) (fun s => s.1) (B + xs.length, 0, xs, tabR (fun q => (C0 dg xs q : Int)) B, C0 dg xs, 0) [0, 1, 2, 3] ⟨FJ.start (by dsimp only; rw [tabR_length]; omega) (fun d hd => by dsimp only; rw [tabR_get _ (by omega)]), tabR_length _ _⟩ (weak_of (by decide) (by simp [RS.slot, List.map_cons, List.map_nil, rowsLe, rowLe, slotsLe, tvLe, TV.ren, AV.ren, C.ren, Dat.ren, Row.ren, TV.hs, AV.hs, C.hs, Dat.hs, get_cons, get_nil, zipSlots, List.getD_cons_zero, List.getD_cons_succ, List.getD_nil, -List.getD_eq_getElem?_getD])) ?_
      rintro Q hQ ⟨f0, b, zs0, nx0, pl0, sw0⟩ ⟨hj0, hn0⟩
      simp only at hj0 hn0
      by_cases hc3 : b < B
      · have hcd3 : decide ((b : Int) < B) = true := by simp; omega
        simp (dsimp := false) only [hcd3, go_sem, Nat.reduceAdd, Nat.reduceBEq, Nat.reduceEqDiff, Nat.reduceLT, Nat.reduceLeDiff, reduceCtorEq, ↓reduceIte]
        refine aloopQ (σ := Nat × List Int × List Int × (Nat → Nat) × Nat) (fun t => ([(1, tI (B : Int)), (2, tI place), (9, tS 1 B), (10, tS 2 B), (14, tS 3 xs.length), (15, tI t.2.2.2.2), (16, tI b), (66, tI B), (67, tI b)], [rI xs, oI t.2.2.1, oI (enF dg xs B), oI t.2.1])) (fun t => FJ dg B xs t.1 b t.2.1 t.2.2.1 t.2.2.2.1 t.2.2.2.2 ∧ t.2.2.1.length = B ∧ t.1 ≤ f0) (fun t => t.1) (f0, zs0, nx0, pl0, sw0) [0, 1, 2, 3] ⟨hj0, hn0, Nat.le_refl _⟩ (weak_of (by decide) (by simp [RS.slot, List.map_cons, List.map_nil, rowsLe, rowLe, slotsLe, tvLe, TV.ren, AV.ren, C.ren, Dat.ren, Row.ren, TV.hs, AV.hs, C.hs, Dat.hs, get_cons, get_nil, zipSlots, List.getD_cons_zero, List.getD_cons_succ, List.getD_nil, -List.getD_eq_getElem?_getD])) ?_
        rintro Q2 hQ2 ⟨f, zs, nx, pl, sw⟩ ⟨hj, hnl, hff⟩
        simp only at hj hnl hff
        have hnb := hj.fi.nval b hc3
        have hen : (enF dg xs B).getD b 0 = (C0 dg xs (b + 1) : Int) := tabR_get _ hc3
        have hsw := hj.sw_le
        have hzl := hj.fi.perm.length_eq
        by_cases hc4 : pl b < C0 dg xs (b + 1)
        · have hcd4 : decide ((pl b : Int) < (C0 dg xs (b + 1) : Int)) = true := by simp; omega
          obtain ⟨r1, r2, r3, r4⟩ := hj.fi.room hdg hc3 hc4
          obtain ⟨g, hg, hst⟩ := hj.step hdg hc3 hc4
          have hmem := hj.fi.perm.mem_iff.mp (getD_mem r1)
          have hk := validB_mem hv hmem
          have hcall := digit_l (zs.getD (pl b) 0) B place hk hb hp
          rw [hdq _ hmem] at hcall
          obtain ⟨d, hde⟩ : ∃ d, d = dg (zs.getD (pl b) 0) := ⟨_, rfl⟩
          rw [← hde] at r2 r3 r4 hst hcall
          have hnd := hj.fi.nval d r2
          have hplb := C0_le dg xs (d + 1)
          by_cases hdb : d = b
          · subst hdb
            have hne : ((d : Int) != (d : Int)) = false := by simp
            rw [fStep_same hde.symm] at hst
            simp (dsimp := false) only [hnb, hen, hcd4, Int.toNat_natCast, go_sem, Nat.reduceAdd, Nat.reduceBEq, Nat.reduceEqDiff, Nat.reduceLT, Nat.reduceLeDiff, reduceCtorEq, ↓reduceIte]
            repeat (refine And.intro (by first | exact True.intro | omega | kernel_rfl | (simp only [List.length_set, List.length_append, List.length_take, List.length_replicate, List.length_cons, true_and, and_true, List.length_nil, tabR_length]; omega)) ?_)
            repeat (refine And.intro (by first | exact True.intro | omega | kernel_rfl | (simp only [List.length_set, List.length_append, List.length_take, List.length_replicate, List.length_cons, true_and, and_true, List.length_nil, tabR_length]; omega)) ?_)
            refine ⟨_, (hcall).lift [] (by decide) (by simp) (by simp [RS.slot, List.map_cons, List.map_nil, rowsLe, rowLe, slotsLe, tvLe, TV.ren, AV.ren, C.ren, Dat.ren, Row.ren, TV.hs, AV.hs, C.hs, Dat.hs, get_cons, get_nil, zipSlots, List.getD_cons_zero, List.getD_cons_succ, List.getD_nil, -List.getD_eq_getElem?_getD]) (by simp [RS.slot, List.map_cons, List.map_nil, rowsLe, rowLe, slotsLe, tvLe, TV.ren, AV.ren, C.ren, Dat.ren, Row.ren, TV.hs, AV.hs, C.hs, Dat.hs, get_cons, get_nil, zipSlots, List.getD_cons_zero, List.getD_cons_succ, List.getD_nil, -List.getD_eq_getElem?_getD]) (by simp [RS.slot, List.map_cons, List.map_nil, rowsLe, rowLe, slotsLe, tvLe, TV.ren, AV.ren, C.ren, Dat.ren, Row.ren, TV.hs, AV.hs, C.hs, Dat.hs, get_cons, get_nil, zipSlots, List.getD_cons_zero, List.getD_cons_succ, List.getD_nil, -List.getD_eq_getElem?_getD]) rfl ?_⟩
            rintro _ _ ⟨rfl, rfl⟩
            refine ⟨by simp [ownIn, Row.own], ?_⟩
            simp (dsimp := false) only [hne, hnb, Int.toNat_natCast, liftT, liftH, putBack, freshR, ownIn, Row.own, Row.ren, TV.ren, AV.ren, C.ren, Dat.ren, List.drop_succ_cons, List.drop_nil, List.getD_cons_zero, List.getD_cons_succ, List.getD_nil, go_sem, Nat.reduceAdd, Nat.reduceBEq, Nat.reduceEqDiff, Nat.reduceLT, Nat.reduceLeDiff, reduceCtorEq, ↓reduceIte]
            repeat (refine And.intro (by first | exact True.intro | omega | kernel_rfl | (simp only [List.length_set, List.length_append, List.length_take, List.length_replicate, List.length_cons, true_and, and_true, List.length_nil, tabR_length]; omega)) ?_)
            refine ⟨(g, zs, nx.set d (nx.getD d 0 + 1), (fun e => if e = d then pl e + 1 else pl e), sw), [0, 1, 2, 3], ?_, weak_of (by decide) (by simp [RS.slot, List.map_cons, List.map_nil, rowsLe, rowLe, slotsLe, tvLe, TV.ren, AV.ren, C.ren, Dat.ren, Row.ren, TV.hs, AV.hs, C.hs, Dat.hs, get_cons, get_nil, zipSlots, List.getD_cons_zero, List.getD_cons_succ, List.getD_nil, -List.getD_eq_getElem?_getD, hnb])⟩
            dsimp only
            exact ⟨⟨hst, by rw [List.length_set]; exact hnl, by omega⟩, by omega⟩
          · have hne : ((d : Int) != (b : Int)) = true := by simp; omega
            rw [fStep_diff hde.symm hdb] at hst
            have hsc : (zs.set (pl b) (zs.getD (pl d) 0)).set (pl d) (zs.getD (pl b) 0) = swp zs (pl b) (pl d) := rfl
            simp (dsimp := false) only [hnb, hen, hcd4, Int.toNat_natCast, go_sem, Nat.reduceAdd, Nat.reduceBEq, Nat.reduceEqDiff, Nat.reduceLT, Nat.reduceLeDiff, reduceCtorEq, ↓reduceIte]
            repeat (refine And.intro (by first | exact True.intro | omega | kernel_rfl | (simp only [List.length_set, List.length_append, List.length_take, List.length_replicate, List.length_cons, true_and, and_true, List.length_nil, tabR_length]; omega)) ?_)
            repeat (refine And.intro (by first | exact True.intro | omega | kernel_rfl | (simp only [List.length_set, List.length_append, List.length_take, List.length_replicate, List.length_cons, true_and, and_true, List.length_nil, tabR_length]; omega)) ?_)
            refine ⟨_, (hcall).lift [] (by decide) (by simp) (by simp [RS.slot, List.map_cons, List.map_nil, rowsLe, rowLe, slotsLe, tvLe, TV.ren, AV.ren, C.ren, Dat.ren, Row.ren, TV.hs, AV.hs, C.hs, Dat.hs, get_cons, get_nil, zipSlots, List.getD_cons_zero, List.getD_cons_succ, List.getD_nil, -List.getD_eq_getElem?_getD]) (by simp [RS.slot, List.map_cons, List.map_nil, rowsLe, rowLe, slotsLe, tvLe, TV.ren, AV.ren, C.ren, Dat.ren, Row.ren, TV.hs, AV.hs, C.hs, Dat.hs, get_cons, get_nil, zipSlots, List.getD_cons_zero, List.getD_cons_succ, List.getD_nil, -List.getD_eq_getElem?_getD]) (by simp [RS.slot, List.map_cons, List.map_nil, rowsLe, rowLe, slotsLe, tvLe, TV.ren, AV.ren, C.ren, Dat.ren, Row.ren, TV.hs, AV.hs, C.hs, Dat.hs, get_cons, get_nil, zipSlots, List.getD_cons_zero, List.getD_cons_succ, List.getD_nil, -List.getD_eq_getElem?_getD]) rfl ?_⟩
            rintro _ _ ⟨rfl, rfl⟩
            refine ⟨by simp [ownIn, Row.own], ?_⟩
            simp (dsimp := false) only [hne, hnb, hnd, Int.toNat_natCast, liftT, liftH, putBack, freshR, ownIn, Row.own, Row.ren, TV.ren, AV.ren, C.ren, Dat.ren, List.drop_succ_cons, List.drop_nil, List.getD_cons_zero, List.getD_cons_succ, List.getD_nil, go_sem, Nat.reduceAdd, Nat.reduceBEq, Nat.reduceEqDiff, Nat.reduceLT, Nat.reduceLeDiff, reduceCtorEq, ↓reduceIte]
            repeat (refine And.intro (by first | exact True.intro | omega | kernel_rfl | (simp only [List.length_set, List.length_append, List.length_take, List.length_replicate, List.length_cons, true_and, and_true, List.length_nil, tabR_length]; omega)) ?_)
            refine ⟨(g, swp zs (pl b) (pl d), nx.set d (nx.getD d 0 + 1), (fun e => if e = d then pl e + 1 else pl e), sw + 1), [0, 1, 2, 3], ?_, weak_of (by decide) (by simp [RS.slot, List.map_cons, List.map_nil, rowsLe, rowLe, slotsLe, tvLe, TV.ren, AV.ren, C.ren, Dat.ren, Row.ren, TV.hs, AV.hs, C.hs, Dat.hs, get_cons, get_nil, zipSlots, List.getD_cons_zero, List.getD_cons_succ, List.getD_nil, -List.getD_eq_getElem?_getD, hnd, hsc])⟩
            dsimp only
            exact ⟨⟨hst, by rw [List.length_set]; exact hnl, by omega⟩, by omega⟩
        · have hcd4 : decide ((pl b : Int) < (C0 dg xs (b + 1) : Int)) = false := by simp; omega
          obtain ⟨g, hg, hst⟩ := hj.out hc3 hc4
          simp (dsimp := false) only [hnb, hen, hcd4, Int.toNat_natCast, go_sem, Nat.reduceAdd, Nat.reduceBEq, Nat.reduceEqDiff, Nat.reduceLT, Nat.reduceLeDiff, reduceCtorEq, ↓reduceIte]
          repeat (refine And.intro (by first | exact True.intro | omega | kernel_rfl | (simp only [List.length_set, List.length_append, List.length_take, List.length_replicate, List.length_cons, true_and, and_true, List.length_nil, tabR_length]; omega)) ?_)
          refine hQ2 _ _ _ ?_
          simp (dsimp := false) only [go_sem, Nat.reduceAdd, Nat.reduceBEq, Nat.reduceEqDiff, Nat.reduceLT, Nat.reduceLeDiff, reduceCtorEq, ↓reduceIte]
          repeat (refine And.intro (by first | exact True.intro | omega | kernel_rfl | (simp only [List.length_set, List.length_append, List.length_take, List.length_replicate, List.length_cons, true_and, and_true, List.length_nil, tabR_length]; omega)) ?_)
          refine ⟨(g, b + 1, zs, nx, pl, sw), [0, 1, 2, 3], ?_, weak_of (by decide) (by simp [RS.slot, List.map_cons, List.map_nil, rowsLe, rowLe, slotsLe, tvLe, TV.ren, AV.ren, C.ren, Dat.ren, Row.ren, TV.hs, AV.hs, C.hs, Dat.hs, get_cons, get_nil, zipSlots, List.getD_cons_zero, List.getD_cons_succ, List.getD_nil, -List.getD_eq_getElem?_getD])⟩
          dsimp only
          exact ⟨⟨hst, hnl⟩, by omega⟩
      · have hcd3 : decide ((b : Int) < B) = false := by simp; omega
        have hfin := hj0.done hc3
        simp (dsimp := false) only [hcd3, go_sem, Nat.reduceAdd, Nat.reduceBEq, Nat.reduceEqDiff, Nat.reduceLT, Nat.reduceLeDiff, reduceCtorEq, ↓reduceIte]
        refine hQ _ _ _ ?_
        simp (dsimp := false) only [go_sem, Nat.reduceAdd, Nat.reduceBEq, Nat.reduceEqDiff, Nat.reduceLT, Nat.reduceLeDiff, reduceCtorEq, ↓reduceIte]
        rw [hfin]
        refine afin [0, 3] [aS 1 xs.length, aI sw0, aB true] [rI xs, oI zs0] (by simp) rfl (weak_of (by decide) (by simp [RS.slot, List.map_cons, List.map_nil, rowsLe, rowLe, slotsLe, tvLe, TV.ren, AV.ren, C.ren, Dat.ren, Row.ren, TV.hs, AV.hs, C.hs, Dat.hs, get_cons, get_nil, zipSlots, List.getD_cons_zero, List.getD_cons_succ, List.getD_nil, -List.getD_eq_getElem?_getD])) (by simp [rtv])
theorem flagF_len {xs : List Int} {base place : Int} (h : flOk xs base place = true) : (flagF (dgN base place) base.toNat xs).1.length = xs.length := by
  obtain ⟨hv, h2, hb, hp, B, rfl, hB2, hB⟩ := flOk_t h
  rw [Int.toNat_natCast]
  exact (flagF_ok (fun x hx => (dgN_eq (validB_mem hv hx) hb).2)).1.length_eq
theorem iFlagPass_k (xs : List Int) (base place : Int) (hx : xs.length ≤ 281474976710656) (h : flOk xs base place = true) : ACalls Try.prog 16 [tS 0 xs.length, tI base, tI place] [] [rI xs] (fun t H => t = .tup [aS 1 (flagF (dgN base place) base.toNat xs).1.length, aI (flagF (dgN base place) base.toNat xs).2, aB true] ∧ H = [rI xs, oI (flagF (dgN base place) base.toNat xs).1]) := by
  rw [flagF_len h]; exact iFlagPass_t xs base place hx h
theorem sFlagPass_k (xs : List Int) (base place : Int) (hx : xs.length ≤ 281474976710656) (h : flOk xs base place = true) : ACalls Try.prog 14 [tS 0 xs.length, tI base, tI place] [] [rI xs] (fun t H => t = .tup [aS 1 (flagF (dgN base place) base.toNat xs).1.length, aI (flagF (dgN base place) base.toNat xs).2, aB true] ∧ H = [rI xs, oI (flagF (dgN base place) base.toNat xs).1]) := by
  rw [flagF_len h]; exact sFlagPass_t xs base place hx h
end Go.Proofs.Ytpoappgfmjnioaa
