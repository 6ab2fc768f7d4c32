/- Contract: the reference's sorted copy. -/
import Derived.Test.YtfkokcmnmmfcbaaPlSort
import Derived.Test.YtfkokcmnmmfcbaaOwn
set_option linter.unusedSimpArgs false
set_option linter.unusedVariables false
set_option linter.unusedSectionVars false
namespace Go.Proofs.Ytfkokcmnmmfcbaa
open Go Go.Ax
set_option maxRecDepth 10000
set_option maxHeartbeats 1000000

theorem pred_nat (c : Nat) : ((c + 1 : Nat) : Int) - 1 = (c : Int) := by omega
theorem seg_eq {xs : List Int} {o n : Nat} (h : o + n ≤ xs.length) : (xs.drop o).take n = seg xs o n := by
  refine list_ext_getD (by rw [seg_len]; simp; omega) (fun i hi => ?_)
  have hi' : i < n := by simp at hi; omega
  rw [seg_get _ _ hi']
  simp only [List.getD_eq_getElem?_getD, List.getElem?_take, List.getElem?_drop, if_pos hi']
theorem srt_step {zs : List Int} {k i : Nat} (hi : i < zs.length) (hk : k + 1 ≤ i) (h : ∀ p q, p < q → q ≤ i → q ≠ k + 1 → zs.getD p 0 ≤ zs.getD q 0) (hlt : zs.getD (k + 1) 0 < zs.getD k 0) :
    ∀ p q, p < q → q ≤ i → q ≠ k → (swp zs k (k + 1)).getD p 0 ≤ (swp zs k (k + 1)).getD q 0 := fun p q hpq hq hqk => by
  rw [swp_get _ _ (by omega) (by omega), swp_get _ _ (by omega) (by omega)]
  by_cases e1 : p = k + 1
  · rw [if_pos e1, if_neg (by omega), if_neg (by omega)]; exact h k q (by omega) hq (by omega)
  · rw [if_neg e1]
    by_cases e2 : p = k
    · rw [if_pos e2]
      by_cases e3 : q = k + 1
      · rw [if_pos e3]; omega
      · rw [if_neg e3, if_neg hqk]
        have := h k q (by omega) hq e3
        omega
    · rw [if_neg e2]
      by_cases e3 : q = k + 1
      · rw [if_pos e3]; exact h p k (by omega) (by omega) (by omega)
      · rw [if_neg e3, if_neg hqk]; exact h p q hpq hq e3
theorem srt_end {zs : List Int} {k i : Nat} (h : ∀ p q, p < q → q ≤ i → q ≠ k → zs.getD p 0 ≤ zs.getD q 0) (hk : k = 0 ∨ zs.getD (k - 1) 0 ≤ zs.getD k 0) (hki : k ≤ i) : SSeg 0 (i + 1) zs := fun p q hpq hq => by
  rw [Nat.zero_add, Nat.zero_add]
  by_cases e : q = k
  · subst e
    rcases hk with h0 | h0
    · omega
    · by_cases e2 : p = q - 1
      · subst e2; exact h0
      · have := h p (q - 1) (by omega) (by omega) (by omega); omega
  · exact h p q hpq (by omega) e

theorem l2Sorted_l (xs : List Int) (o n : Nat) (hl : o + n ≤ xs.length) (hN : n ≤ 281474976710) : ACalls Try.prog 31 [tO 0 o n] [] [rI xs] (fun t H => t = tS 1 n ∧ H = [rI xs, oI (srtL (seg xs o n))]) := by
  have hown := l1Own_part xs o n hl hN
  rw [seg_eq hl] at hown
  obtain ⟨ys, hys⟩ : ∃ ys, ys = seg xs o n := ⟨_, rfl⟩
  have hyl : ys.length = n := by rw [hys, seg_len]
  rw [← hys] at hown ⊢
  refine afun (fun i => match i with | 6 => some ⟨[], .op 0 .held (.op 1 .held (.op 2 .held (.op 3 .held (.op 4 .held (.op 5 .held (.op 6 .held (.op 7 .now (.op 8 .held (.op 9 .held (.op 10 .held (.op 11 .now (.op 12 .held (.op 13 .held .nil)))))))))))))⟩ | _ => none) [2] 1 Try.func31 rfl rfl mix (by kernel_rfl) (by kernel_rfl) (by simp [Try.f31]) rfl (by simp [msOwn, ownAll, Row.own]) ?_
  simp (dsimp := false) only [go_sem, Nat.reduceAdd, Nat.reduceBEq, Nat.reduceEqDiff, Nat.reduceLT, Nat.reduceLeDiff, reduceCtorEq, ↓reduceIte]
  repeat (refine And.intro (by first | exact True.intro | omega | kernel_rfl | (simp only [List.length_set, List.length_append, List.length_take, List.length_replicate, List.length_cons, true_and, and_true, List.length_nil, tabR_length]; omega)) ?_)
  refine ⟨_, (hown).lift [0] (by decide) (by simp) (by simp [RS.slot, List.map_cons, List.map_nil, rowsLe, rowLe, slotsLe, tvLe, TV.ren, AV.ren, C.ren, Dat.ren, Row.ren, TV.hs, AV.hs, C.hs, Dat.hs, get_cons, get_nil, zipSlots, List.getD_cons_zero, List.getD_cons_succ, List.getD_nil, -List.getD_eq_getElem?_getD]) (by simp [RS.slot, List.map_cons, List.map_nil, rowsLe, rowLe, slotsLe, tvLe, TV.ren, AV.ren, C.ren, Dat.ren, Row.ren, TV.hs, AV.hs, C.hs, Dat.hs, get_cons, get_nil, zipSlots, List.getD_cons_zero, List.getD_cons_succ, List.getD_nil, -List.getD_eq_getElem?_getD]) (by simp [RS.slot, List.map_cons, List.map_nil, rowsLe, rowLe, slotsLe, tvLe, TV.ren, AV.ren, C.ren, Dat.ren, Row.ren, TV.hs, AV.hs, C.hs, Dat.hs, get_cons, get_nil, zipSlots, List.getD_cons_zero, List.getD_cons_succ, List.getD_nil, -List.getD_eq_getElem?_getD]) rfl ?_⟩
  rintro _ _ ⟨rfl, rfl⟩
  refine ⟨by simp [ownIn, Row.own], ?_⟩
  simp (dsimp := false) only [liftT, liftH, putBack, freshR, ownIn, Row.own, Row.ren, TV.ren, AV.ren, C.ren, Dat.ren, List.drop_succ_cons, List.drop_nil, List.getD_cons_zero, List.getD_cons_succ, List.getD_nil, go_sem, Nat.reduceAdd, Nat.reduceBEq, Nat.reduceEqDiff, Nat.reduceLT, Nat.reduceLeDiff, reduceCtorEq, ↓reduceIte]
  refine aloopQ (σ := Nat × List Int) (fun s => ([(3, tS 1 n), (4, tI (s.1 + 1 : Nat))], [rI xs, oI s.2])) (fun s => s.1 ≤ n - 1 ∧ PS 0 n ys s.2 ∧ SSeg 0 (s.1 + 1) s.2) (fun s => n - s.1) (0, ys) ([0, 1]) ⟨Nat.zero_le _, PS.refl _ _ _, fun i j h1 h2 => by omega⟩ (weak_of (by decide) (by simp [RS.slot, List.map_cons, List.map_nil, rowsLe, rowLe, slotsLe, tvLe, TV.ren, AV.ren, C.ren, Dat.ren, Row.ren, TV.hs, AV.hs, C.hs, Dat.hs, get_cons, get_nil, zipSlots, List.getD_cons_zero, List.getD_cons_succ, List.getD_nil, -List.getD_eq_getElem?_getD])) ?_
  rintro Q hQ ⟨m, zs0⟩ ⟨hm, hps0, hss0⟩
  simp only at hm hps0 hss0
  by_cases hi : m + 1 < n
  · have hid : decide (((m + 1 : Nat) : Int) < n) = true := by simp; omega
    have hin0 : ∀ p q, p < q → q ≤ m + 1 → q ≠ m + 1 → zs0.getD p 0 ≤ zs0.getD q 0 := fun p q h1 h2 h3 => by
      have := hss0 p q h1 (by omega)
      rwa [Nat.zero_add, Nat.zero_add] at this
    simp (dsimp := false) only [hid, go_sem, Nat.reduceAdd, Nat.reduceBEq, Nat.reduceEqDiff, Nat.reduceLT, Nat.reduceLeDiff, reduceCtorEq, ↓reduceIte]
    repeat (refine And.intro (by first | exact True.intro | omega | kernel_rfl | (simp only [List.length_set, List.length_append, List.length_take, List.length_replicate, List.length_cons, true_and, and_true, List.length_nil, tabR_length]; omega)) ?_)
    refine aloopQ (σ := Nat × List Int) (fun t => ([(3, tS 1 n), (4, tI (m + 1 : Nat)), (5, tI t.1)], [rI xs, oI t.2])) (fun t => t.1 ≤ m + 1 ∧ PS 0 n ys t.2 ∧ ∀ p q, p < q → q ≤ m + 1 → q ≠ t.1 → t.2.getD p 0 ≤ t.2.getD q 0) (fun t => t.1) (m + 1, zs0) ([0, 1]) ⟨Nat.le_refl _, hps0, hin0⟩ (weak_of (by decide) (by simp [RS.slot, List.map_cons, List.map_nil, rowsLe, rowLe, slotsLe, tvLe, TV.ren, AV.ren, C.ren, Dat.ren, Row.ren, TV.hs, AV.hs, C.hs, Dat.hs, get_cons, get_nil, zipSlots, List.getD_cons_zero, List.getD_cons_succ, List.getD_nil, -List.getD_eq_getElem?_getD])) ?_
    rintro Q2 hQ2 ⟨k, zs⟩ ⟨hk, hps, hss⟩
    simp only at hk hps hss
    have hzl : zs.length = n := by rw [hps.len, hyl]
    match k, hk, hss with
    | 0, hk, hss =>
      have d1 : decide (0 < ((0 : Nat) : Int)) = false := rfl
      simp (dsimp := false) only [d1, go_sem, Nat.reduceAdd, Nat.reduceBEq, Nat.reduceEqDiff, Nat.reduceLT, Nat.reduceLeDiff, reduceCtorEq, ↓reduceIte]
      refine hQ2 _ _ _ ?_
      simp (dsimp := false) only [go_sem, Nat.reduceAdd, Nat.reduceBEq, Nat.reduceEqDiff, Nat.reduceLT, Nat.reduceLeDiff, reduceCtorEq, ↓reduceIte]
      repeat (refine And.intro (by first | exact True.intro | omega | kernel_rfl | (simp only [List.length_set, List.length_append, List.length_take, List.length_replicate, List.length_cons, true_and, and_true, List.length_nil, tabR_length]; omega)) ?_)
      refine ⟨(m + 1, zs), [0, 1], ?_, weak_of (by decide) (by simp [RS.slot, List.map_cons, List.map_nil, rowsLe, rowLe, slotsLe, tvLe, TV.ren, AV.ren, C.ren, Dat.ren, Row.ren, TV.hs, AV.hs, C.hs, Dat.hs, get_cons, get_nil, zipSlots, List.getD_cons_zero, List.getD_cons_succ, List.getD_nil, -List.getD_eq_getElem?_getD, ])⟩
      dsimp only
      exact ⟨⟨by omega, hps, srt_end hss (.inl rfl) (by omega)⟩, by omega⟩
    | k + 1, hk, hss =>
      have d1 : decide (0 < ((k + 1 : Nat) : Int)) = true := decide_eq_true (by omega)
      by_cases hlt : zs.getD (k + 1) 0 < zs.getD k 0
      · simp (dsimp := false) only [d1, hlt, pred_nat, decide_true, go_sem, Nat.reduceAdd, Nat.reduceBEq, Nat.reduceEqDiff, Nat.reduceLT, Nat.reduceLeDiff, reduceCtorEq, ↓reduceIte]
        repeat (refine And.intro (by first | exact True.intro | omega | kernel_rfl | (simp only [List.length_set, List.length_append, List.length_take, List.length_replicate, List.length_cons, true_and, and_true, List.length_nil, tabR_length]; omega)) ?_)
        rw [show ((zs).set (k) ((zs).getD (k + 1) 0)).set (k + 1) ((zs).getD (k) 0) = swp (zs) (k) (k + 1) from rfl]
        refine ⟨(k, swp zs k (k + 1)), [0, 1], ?_, weak_of (by decide) (by simp [RS.slot, List.map_cons, List.map_nil, rowsLe, rowLe, slotsLe, tvLe, TV.ren, AV.ren, C.ren, Dat.ren, Row.ren, TV.hs, AV.hs, C.hs, Dat.hs, get_cons, get_nil, zipSlots, List.getD_cons_zero, List.getD_cons_succ, List.getD_nil, -List.getD_eq_getElem?_getD, ])⟩
        dsimp only
        have := PS.swp (zs := zs) (o := 0) (n := n) (i := k) (k := k + 1) (by omega) (by omega) (by omega)
        rw [Nat.zero_add, Nat.zero_add] at this
        exact ⟨⟨by omega, hps.trans this, srt_step (by omega) (by omega) hss hlt⟩, by omega⟩
      · simp (dsimp := false) only [d1, hlt, pred_nat, decide_false, go_sem, Nat.reduceAdd, Nat.reduceBEq, Nat.reduceEqDiff, Nat.reduceLT, Nat.reduceLeDiff, reduceCtorEq, ↓reduceIte]
        repeat (refine And.intro (by first | exact True.intro | omega | kernel_rfl | (simp only [List.length_set, List.length_append, List.length_take, List.length_replicate, List.length_cons, true_and, and_true, List.length_nil, tabR_length]; omega)) ?_)
        refine hQ2 _ _ _ ?_
        simp (dsimp := false) only [go_sem, Nat.reduceAdd, Nat.reduceBEq, Nat.reduceEqDiff, Nat.reduceLT, Nat.reduceLeDiff, reduceCtorEq, ↓reduceIte]
        repeat (refine And.intro (by first | exact True.intro | omega | kernel_rfl | (simp only [List.length_set, List.length_append, List.length_take, List.length_replicate, List.length_cons, true_and, and_true, List.length_nil, tabR_length]; omega)) ?_)
        refine ⟨(m + 1, zs), [0, 1], ?_, weak_of (by decide) (by simp [RS.slot, List.map_cons, List.map_nil, rowsLe, rowLe, slotsLe, tvLe, TV.ren, AV.ren, C.ren, Dat.ren, Row.ren, TV.hs, AV.hs, C.hs, Dat.hs, get_cons, get_nil, zipSlots, List.getD_cons_zero, List.getD_cons_succ, List.getD_nil, -List.getD_eq_getElem?_getD, ])⟩
        dsimp only
        exact ⟨⟨by omega, hps, srt_end hss (.inr (by rw [Nat.add_sub_cancel]; omega)) (by omega)⟩, by omega⟩
  · have hid : decide (((m + 1 : Nat) : Int) < n) = false := by simp; omega
    have hzl : zs0.length = n := by rw [hps0.len, hyl]
    have e : zs0 = srtL ys := srtL_unique (PS.whole (by rw [hyl]; exact hps0)) (fun i j h1 h2 => hss0 i j h1 (by omega))
    simp (dsimp := false) only [hid, go_sem, Nat.reduceAdd, Nat.reduceBEq, Nat.reduceEqDiff, Nat.reduceLT, Nat.reduceLeDiff, reduceCtorEq, ↓reduceIte]
    refine hQ _ _ _ ?_
    simp (dsimp := false) only [go_sem, Nat.reduceAdd, Nat.reduceBEq, Nat.reduceEqDiff, Nat.reduceLT, Nat.reduceLeDiff, reduceCtorEq, ↓reduceIte]
    rw [← e]
    refine afin [0, 1] [aS 1 n] [rI xs, oI zs0] (by simp) rfl (weak_of (by decide) (by simp [RS.slot, List.map_cons, List.map_nil, rowsLe, rowLe, slotsLe, tvLe, TV.ren, AV.ren, C.ren, Dat.ren, Row.ren, TV.hs, AV.hs, C.hs, Dat.hs, get_cons, get_nil, zipSlots, List.getD_cons_zero, List.getD_cons_succ, List.getD_nil, -List.getD_eq_getElem?_getD])) (by simp [rtv])
end Go.Proofs.Ytfkokcmnmmfcbaa
