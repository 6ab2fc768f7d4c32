/- Contracts: radix passes and sorts, and counting sort. -/
import Derived.Test.YtlejmdbjckmfoaaStq
set_option linter.unusedSimpArgs false
set_option linter.unusedVariables false
set_option linter.unusedSectionVars false
namespace Go.Proofs.Ytlejmdbjckmfoaa
open Go Go.Ax
set_option maxRecDepth 10000
set_option maxHeartbeats 1000000

theorem insB_cut {α : Type} (d : α) {κ : α → Int} {x : α} : ∀ {ys : List α} {k : Nat}, ys.Pairwise (fun a b => κ a ≤ κ b) → k ≤ ys.length → (∀ q, k ≤ q → q < ys.length → κ x < κ (ys.getD q d)) → (k = 0 ∨ κ (ys.getD (k - 1) d) ≤ κ x) → insB κ x ys = ys.take k ++ ([x] ++ ys.drop k)
  | [], k, _, hk, _, _ => by
    have : k = 0 := by simpa using hk
    subst this; rfl
  | y :: ys, 0, _, _, h, _ => by
    have := h 0 (Nat.le_refl _) (by simp)
    rw [List.getD_cons_zero] at this
    rw [insB, if_pos this]; rfl
  | y :: ys, k + 1, hp, hk, h, hl => by
    have hp' := List.pairwise_cons.mp hp
    have hl2 : κ (( y :: ys).getD k d) ≤ κ x := by
      rcases hl with h0 | h0
      · omega
      · exact h0
    have hy : ¬ κ x < κ y := by
      cases k with
      | zero => rw [List.getD_cons_zero] at hl2; omega
      | succ k =>
        rw [List.getD_cons_succ] at hl2
        have := hp'.1 _ (memD d (show k < ys.length by simp at hk; omega))
        omega
    rw [insB, if_neg hy, insB_cut d (k := k) hp'.2 (by simpa using hk) (fun q h1 h2 => by
      have := h (q + 1) (by omega) (by simp; omega)
      rwa [List.getD_cons_succ] at this) (by
      cases k with
      | zero => exact .inl rfl
      | succ k => right; rw [List.getD_cons_succ] at hl2; exact hl2)]
    rfl

theorem l8Pass_l (rs : List (Int × Int)) (B P : Int) (hb : inB B 2 256 = true) (hp : inB P 0 17 = true) (hk : ∀ i, i < rs.length → keyB (rs.getD i (0, 0)).1 = true) (hN : rs.length ≤ 64) :
    ACalls Try.prog 64 [tR 0 rs.length, tI B, tI P] [] [rR rs] (fun t H => t = tR 1 rs.length ∧ H = [rR rs, oR (stbF (kD B P) rs)]) := by
  refine afun (fun i => match i with | 6 => some ⟨[], .op 0 .held (.op 1 .held (.op 2 .held (.op 3 .held (.op 4 .held (.op 5 .held (.op 6 .held (.op 7 .held (.op 8 .now (.op 9 .held (.op 10 .held (.op 12 .held (.op 13 .held (.op 14 .held (.op 15 .held (.op 17 .held (.op 18 .held (.op 16 .held (.op 11 .only (.op 19 .only (.op 20 .held (.op 21 .held .nil)))))))))))))))))))))⟩ | 8 => some ⟨[], .op 1 .held (.op 2 .held (.op 3 .held (.op 5 .held (.op 6 .held (.op 7 .held (.op 11 .held (.op 12 .held (.op 13 .held (.op 8 .held (.two 0 9 (.two 4 9 (.op 9 .only (.op 10 .only (.op 14 .only (.op 15 .held .nil)))) (.op 4 .only (.op 10 .only (.op 14 .only (.op 15 .held .nil))))) (.op 0 .only (.op 4 .only (.op 10 .only (.op 14 .only (.op 15 .held .nil)))))))))))))))⟩ | _ => none) [6] 1 Try.func64 rfl rfl mix (by kernel_rfl) (by kernel_rfl) (by simp [Try.f64]) rfl (by simp [msOwn, ownAll, Row.own]) ?_
  simp (dsimp := false) only [go_sem, Nat.reduceAdd, Nat.reduceBEq, Nat.reduceEqDiff, Nat.reduceLT, Nat.reduceLeDiff, reduceCtorEq, ↓reduceIte]
  refine aloopQ (σ := Nat) (fun i => ([(0, tR 0 rs.length), (1, tI B), (2, tI P), (7, tR 1 i), (8, tI i)], [rR rs, oR (stbF (kD B P) (rs.take i))])) (fun i => i ≤ rs.length) (fun i => rs.length - i) 0 [0, 1] (by omega) (weak_of (by decide) (by simp [RS.slot, List.map_cons, List.map_nil, rowsLe, rowLe, slotsLe, tvLe, TV.ren, AV.ren, C.ren, Dat.ren, Row.ren, TV.hs, AV.hs, C.hs, Dat.hs, get_cons, get_nil, zipSlots, List.getD_cons_zero, List.getD_cons_succ, List.getD_nil, -List.getD_eq_getElem?_getD, List.take_zero, show stbF (kD B P) [] = [] from rfl])) ?_
  rintro Q hQ i hi
  obtain ⟨ys, hys⟩ : ∃ ys, ys = stbF (kD B P) (rs.take i) := ⟨_, rfl⟩
  have hyl : ys.length = i := by rw [hys, stbF_len]; simp; omega
  have hpw : ys.Pairwise (fun a b => kD B P a ≤ kD B P b) := by rw [hys]; exact stbF_pw _ _
  have hyk : ∀ q, q < ys.length → keyB (ys.getD q (0, 0)).1 = true := fun q hq => by
    have hm := memD ((0, 0) : Int × Int) hq
    have hm2 : ys.getD q (0, 0) ∈ rs.take i := by
      rw [hys] at hm ⊢
      have h3 : ys.getD q (0, 0) ∈ kf (kD B P) (kD B P (ys.getD q (0, 0))) (stbF (kD B P) (rs.take i)) := by
        rw [← hys]; unfold kf; rw [List.mem_filter]; exact ⟨memD _ hq, by simp⟩
      rw [stbF_kf] at h3
      rw [hys] at h3
      exact (List.mem_filter.mp h3).1
    obtain ⟨j, hj, e⟩ := List.mem_iff_getElem.mp (List.mem_of_mem_take hm2)
    have := hk j hj
    rw [← e]
    simpa [List.getD_eq_getElem?_getD, hj] using this
  rw [← hys]
  by_cases hc : i < rs.length
  · have hcd : decide ((i : Int) < rs.length) = true := by simp; omega
    have hkx := hk i hc
    simp (dsimp := false) only [hcd, go_sem, Nat.reduceAdd, Nat.reduceBEq, Nat.reduceEqDiff, Nat.reduceLT, Nat.reduceLeDiff, reduceCtorEq, ↓reduceIte]
    refine aloopQ (σ := Nat) (fun k => ([(0, tR 0 rs.length), (1, tI B), (2, tI P), (7, tR 1 i), (8, tI i), (9, tI k)], [rR rs, oR ys])) (fun k => k ≤ i ∧ ∀ q, k ≤ q → q < ys.length → kD B P (rs.getD i (0, 0)) < kD B P (ys.getD q (0, 0))) (fun k => k) i [0, 1] ⟨Nat.le_refl _, fun q h1 h2 => by omega⟩ (weak_of (by decide) (by simp [RS.slot, List.map_cons, List.map_nil, rowsLe, rowLe, slotsLe, tvLe, TV.ren, AV.ren, C.ren, Dat.ren, Row.ren, TV.hs, AV.hs, C.hs, Dat.hs, get_cons, get_nil, zipSlots, List.getD_cons_zero, List.getD_cons_succ, List.getD_nil, -List.getD_eq_getElem?_getD])) ?_
    rintro Q2 hQ2 k ⟨hki, hgt⟩
    have hfin : (k = 0 ∨ kD B P (ys.getD (k - 1) (0, 0)) ≤ kD B P (rs.getD i (0, 0))) → stbF (kD B P) (rs.take (i + 1)) = ys.take k ++ ([rs.getD i (0, 0)] ++ ys.drop k) := fun h => by
      have e : rs.take (i + 1) = rs.take i ++ [rs.getD i (0, 0)] := by
        rw [List.take_add_one]
        simp [List.getD_eq_getElem?_getD, hc]
      rw [e, stbF_snoc, ← hys]
      exact insB_cut _ hpw (by omega) hgt h
    have hl1 : (ys.take k).length = k := by simp; omega
    have hl2 : (ys.take k ++ [rs.getD i (0, 0)]).length = k + 1 := by simp; omega
    have ei : (i : Int) + 1 = ((i + 1 : Nat) : Int) := by omega
    have hfin2 : (k = 0 ∨ kD B P (ys.getD (k - 1) (0, 0)) ≤ kD B P (rs.getD i (0, 0))) → stbF (kD B P) (rs.take (i + 1)) = (ys.take k ++ [rs.getD i (0, 0)]) ++ (ys.drop k).take (i - k) := fun h => by
      have e : (ys.drop k).take (i - k) = ys.drop k := List.take_of_length_le (by simp; omega)
      rw [hfin h, List.append_assoc, e]
    have hlen : k + 1 + (i - k) = i + 1 := by omega
    by_cases hk0 : 0 < k
    · obtain ⟨j, rfl⟩ : ∃ j, k = j + 1 := ⟨k - 1, by omega⟩
      have d1 : decide (0 < ((j + 1 : Nat) : Int)) = true := decide_eq_true (by omega)
      have ek : ((j + 1 : Nat) : Int) - 1 = (j : Int) := by omega
      have hkj := hyk j (by omega)
      by_cases hlt : kD B P (rs.getD i (0, 0)) < kD B P (ys.getD j (0, 0))
      · have d2 : decide (digitF (rs.getD i (0, 0)).1 B P < digitF (ys.getD j (0, 0)).1 B P) = true := decide_eq_true hlt
        simp (dsimp := false) only [d1, ek, Int.toNat_natCast, go_sem, Nat.reduceAdd, Nat.reduceBEq, Nat.reduceEqDiff, Nat.reduceLT, Nat.reduceLeDiff, reduceCtorEq, ↓reduceIte]
        repeat (refine And.intro (by first | exact True.intro | omega | kernel_rfl | (simp only [List.length_set, List.length_append, List.length_take, List.length_replicate, List.length_cons, true_and, and_true, List.length_nil, tabR_length]; omega)) ?_)
        repeat (refine And.intro (by first | exact True.intro | omega | kernel_rfl | (simp only [List.length_set, List.length_append, List.length_take, List.length_replicate, List.length_cons, true_and, and_true, List.length_nil, tabR_length]; omega)) ?_)
        refine ⟨_, And.intro ?_ ((l8Digit_l (ys.getD j (0, 0)).1 B P hkj hb hp).lift [] (by decide) (by simp) (by simp [RS.slot, List.map_cons, List.map_nil, rowsLe, rowLe, slotsLe, tvLe, TV.ren, AV.ren, C.ren, Dat.ren, Row.ren, TV.hs, AV.hs, C.hs, Dat.hs, get_cons, get_nil, zipSlots, List.getD_cons_zero, List.getD_cons_succ, List.getD_nil, -List.getD_eq_getElem?_getD]) (by simp [RS.slot, List.map_cons, List.map_nil, rowsLe, rowLe, slotsLe, tvLe, TV.ren, AV.ren, C.ren, Dat.ren, Row.ren, TV.hs, AV.hs, C.hs, Dat.hs, get_cons, get_nil, zipSlots, List.getD_cons_zero, List.getD_cons_succ, List.getD_nil, -List.getD_eq_getElem?_getD]) (by simp [RS.slot, List.map_cons, List.map_nil, rowsLe, rowLe, slotsLe, tvLe, TV.ren, AV.ren, C.ren, Dat.ren, Row.ren, TV.hs, AV.hs, C.hs, Dat.hs, get_cons, get_nil, zipSlots, List.getD_cons_zero, List.getD_cons_succ, List.getD_nil, -List.getD_eq_getElem?_getD]) rfl ?_)⟩
        · simp [msIn]
        rintro _ _ ⟨rfl, rfl⟩
        refine ⟨by simp [ownIn, Row.own], ?_⟩
        simp (dsimp := false) only [d2, ek, Int.toNat_natCast, liftT, liftH, putBack, freshR, ownIn, Row.own, Row.ren, TV.ren, AV.ren, C.ren, Dat.ren, List.drop_succ_cons, List.drop_nil, List.getD_cons_zero, List.getD_cons_succ, List.getD_nil, go_sem, Nat.reduceAdd, Nat.reduceBEq, Nat.reduceEqDiff, Nat.reduceLT, Nat.reduceLeDiff, reduceCtorEq, ↓reduceIte]
        repeat (refine And.intro (by first | exact True.intro | omega | kernel_rfl | (simp only [List.length_set, List.length_append, List.length_take, List.length_replicate, List.length_cons, true_and, and_true, List.length_nil, tabR_length]; omega)) ?_)
        repeat (refine And.intro (by first | exact True.intro | omega | kernel_rfl | (simp only [List.length_set, List.length_append, List.length_take, List.length_replicate, List.length_cons, true_and, and_true, List.length_nil, tabR_length]; omega)) ?_)
        refine ⟨_, And.intro ?_ ((l8Digit_l (rs.getD i (0, 0)).1 B P hkx hb hp).lift [] (by decide) (by simp) (by simp [RS.slot, List.map_cons, List.map_nil, rowsLe, rowLe, slotsLe, tvLe, TV.ren, AV.ren, C.ren, Dat.ren, Row.ren, TV.hs, AV.hs, C.hs, Dat.hs, get_cons, get_nil, zipSlots, List.getD_cons_zero, List.getD_cons_succ, List.getD_nil, -List.getD_eq_getElem?_getD]) (by simp [RS.slot, List.map_cons, List.map_nil, rowsLe, rowLe, slotsLe, tvLe, TV.ren, AV.ren, C.ren, Dat.ren, Row.ren, TV.hs, AV.hs, C.hs, Dat.hs, get_cons, get_nil, zipSlots, List.getD_cons_zero, List.getD_cons_succ, List.getD_nil, -List.getD_eq_getElem?_getD]) (by simp [RS.slot, List.map_cons, List.map_nil, rowsLe, rowLe, slotsLe, tvLe, TV.ren, AV.ren, C.ren, Dat.ren, Row.ren, TV.hs, AV.hs, C.hs, Dat.hs, get_cons, get_nil, zipSlots, List.getD_cons_zero, List.getD_cons_succ, List.getD_nil, -List.getD_eq_getElem?_getD]) rfl ?_)⟩
        · simp [msIn]
        rintro _ _ ⟨rfl, rfl⟩
        refine ⟨by simp [ownIn, Row.own], ?_⟩
        simp (dsimp := false) only [d2, ek, Int.toNat_natCast, liftT, liftH, putBack, freshR, ownIn, Row.own, Row.ren, TV.ren, AV.ren, C.ren, Dat.ren, List.drop_succ_cons, List.drop_nil, List.getD_cons_zero, List.getD_cons_succ, List.getD_nil, go_sem, Nat.reduceAdd, Nat.reduceBEq, Nat.reduceEqDiff, Nat.reduceLT, Nat.reduceLeDiff, reduceCtorEq, ↓reduceIte]
        repeat (refine And.intro (by first | exact True.intro | omega | kernel_rfl | (simp only [List.length_set, List.length_append, List.length_take, List.length_replicate, List.length_cons, true_and, and_true, List.length_nil, tabR_length]; omega)) ?_)
        refine ⟨j, [0, 1], ?_, weak_of (by decide) (by simp [RS.slot, List.map_cons, List.map_nil, rowsLe, rowLe, slotsLe, tvLe, TV.ren, AV.ren, C.ren, Dat.ren, Row.ren, TV.hs, AV.hs, C.hs, Dat.hs, get_cons, get_nil, zipSlots, List.getD_cons_zero, List.getD_cons_succ, List.getD_nil, -List.getD_eq_getElem?_getD])⟩
        refine ⟨⟨by omega, fun q h1 h2 => ?_⟩, by omega⟩
        by_cases e : q = j
        · subst e; exact hlt
        · exact hgt q (by omega) h2
      · have d2 : decide (digitF (rs.getD i (0, 0)).1 B P < digitF (ys.getD j (0, 0)).1 B P) = false := decide_eq_false hlt
        have hf := hfin2 (.inr (by show kD B P (ys.getD j (0, 0)) ≤ _; omega))
        simp (dsimp := false) only [d1, ek, Int.toNat_natCast, go_sem, Nat.reduceAdd, Nat.reduceBEq, Nat.reduceEqDiff, Nat.reduceLT, Nat.reduceLeDiff, reduceCtorEq, ↓reduceIte]
        repeat (refine And.intro (by first | exact True.intro | omega | kernel_rfl | (simp only [List.length_set, List.length_append, List.length_take, List.length_replicate, List.length_cons, true_and, and_true, List.length_nil, tabR_length]; omega)) ?_)
        repeat (refine And.intro (by first | exact True.intro | omega | kernel_rfl | (simp only [List.length_set, List.length_append, List.length_take, List.length_replicate, List.length_cons, true_and, and_true, List.length_nil, tabR_length]; omega)) ?_)
        refine ⟨_, And.intro ?_ ((l8Digit_l (ys.getD j (0, 0)).1 B P hkj hb hp).lift [] (by decide) (by simp) (by simp [RS.slot, List.map_cons, List.map_nil, rowsLe, rowLe, slotsLe, tvLe, TV.ren, AV.ren, C.ren, Dat.ren, Row.ren, TV.hs, AV.hs, C.hs, Dat.hs, get_cons, get_nil, zipSlots, List.getD_cons_zero, List.getD_cons_succ, List.getD_nil, -List.getD_eq_getElem?_getD]) (by simp [RS.slot, List.map_cons, List.map_nil, rowsLe, rowLe, slotsLe, tvLe, TV.ren, AV.ren, C.ren, Dat.ren, Row.ren, TV.hs, AV.hs, C.hs, Dat.hs, get_cons, get_nil, zipSlots, List.getD_cons_zero, List.getD_cons_succ, List.getD_nil, -List.getD_eq_getElem?_getD]) (by simp [RS.slot, List.map_cons, List.map_nil, rowsLe, rowLe, slotsLe, tvLe, TV.ren, AV.ren, C.ren, Dat.ren, Row.ren, TV.hs, AV.hs, C.hs, Dat.hs, get_cons, get_nil, zipSlots, List.getD_cons_zero, List.getD_cons_succ, List.getD_nil, -List.getD_eq_getElem?_getD]) rfl ?_)⟩
        · simp [msIn]
        rintro _ _ ⟨rfl, rfl⟩
        refine ⟨by simp [ownIn, Row.own], ?_⟩
        simp (dsimp := false) only [d2, ek, Int.toNat_natCast, liftT, liftH, putBack, freshR, ownIn, Row.own, Row.ren, TV.ren, AV.ren, C.ren, Dat.ren, List.drop_succ_cons, List.drop_nil, List.getD_cons_zero, List.getD_cons_succ, List.getD_nil, go_sem, Nat.reduceAdd, Nat.reduceBEq, Nat.reduceEqDiff, Nat.reduceLT, Nat.reduceLeDiff, reduceCtorEq, ↓reduceIte]
        repeat (refine And.intro (by first | exact True.intro | omega | kernel_rfl | (simp only [List.length_set, List.length_append, List.length_take, List.length_replicate, List.length_cons, true_and, and_true, List.length_nil, tabR_length]; omega)) ?_)
        repeat (refine And.intro (by first | exact True.intro | omega | kernel_rfl | (simp only [List.length_set, List.length_append, List.length_take, List.length_replicate, List.length_cons, true_and, and_true, List.length_nil, tabR_length]; omega)) ?_)
        refine ⟨_, And.intro ?_ ((l8Digit_l (rs.getD i (0, 0)).1 B P hkx hb hp).lift [] (by decide) (by simp) (by simp [RS.slot, List.map_cons, List.map_nil, rowsLe, rowLe, slotsLe, tvLe, TV.ren, AV.ren, C.ren, Dat.ren, Row.ren, TV.hs, AV.hs, C.hs, Dat.hs, get_cons, get_nil, zipSlots, List.getD_cons_zero, List.getD_cons_succ, List.getD_nil, -List.getD_eq_getElem?_getD]) (by simp [RS.slot, List.map_cons, List.map_nil, rowsLe, rowLe, slotsLe, tvLe, TV.ren, AV.ren, C.ren, Dat.ren, Row.ren, TV.hs, AV.hs, C.hs, Dat.hs, get_cons, get_nil, zipSlots, List.getD_cons_zero, List.getD_cons_succ, List.getD_nil, -List.getD_eq_getElem?_getD]) (by simp [RS.slot, List.map_cons, List.map_nil, rowsLe, rowLe, slotsLe, tvLe, TV.ren, AV.ren, C.ren, Dat.ren, Row.ren, TV.hs, AV.hs, C.hs, Dat.hs, get_cons, get_nil, zipSlots, List.getD_cons_zero, List.getD_cons_succ, List.getD_nil, -List.getD_eq_getElem?_getD]) rfl ?_)⟩
        · simp [msIn]
        rintro _ _ ⟨rfl, rfl⟩
        refine ⟨by simp [ownIn, Row.own], ?_⟩
        simp (dsimp := false) only [d2, ek, Int.toNat_natCast, liftT, liftH, putBack, freshR, ownIn, Row.own, Row.ren, TV.ren, AV.ren, C.ren, Dat.ren, List.drop_succ_cons, List.drop_nil, List.getD_cons_zero, List.getD_cons_succ, List.getD_nil, go_sem, Nat.reduceAdd, Nat.reduceBEq, Nat.reduceEqDiff, Nat.reduceLT, Nat.reduceLeDiff, reduceCtorEq, ↓reduceIte]
        refine hQ2 _ _ _ ?_
        simp (dsimp := false) only [Int.toNat_natCast, ei, go_sem, Nat.reduceAdd, Nat.reduceBEq, Nat.reduceEqDiff, Nat.reduceLT, Nat.reduceLeDiff, reduceCtorEq, ↓reduceIte]
        repeat' apply And.intro
        all_goals first | exact True.intro | omega | (simp only [List.length_take, List.length_drop, List.length_append, List.length_cons, List.length_nil]; omega) | (refine ⟨i + 1, [0, 6], ?_, weak_of (by decide) (by simp [RS.slot, List.map_cons, List.map_nil, rowsLe, rowLe, slotsLe, tvLe, TV.ren, AV.ren, C.ren, Dat.ren, Row.ren, TV.hs, AV.hs, C.hs, Dat.hs, get_cons, get_nil, zipSlots, List.getD_cons_zero, List.getD_cons_succ, List.getD_nil, -List.getD_eq_getElem?_getD, hf, hlen])⟩; exact ⟨by omega, by omega⟩)
    · have d1 : decide (0 < (k : Int)) = false := decide_eq_false (by omega)
      have hf := hfin2 (.inl (by omega))
      simp (dsimp := false) only [d1, go_sem, Nat.reduceAdd, Nat.reduceBEq, Nat.reduceEqDiff, Nat.reduceLT, Nat.reduceLeDiff, reduceCtorEq, ↓reduceIte]
      refine hQ2 _ _ _ ?_
      simp (dsimp := false) only [Int.toNat_natCast, ei, go_sem, Nat.reduceAdd, Nat.reduceBEq, Nat.reduceEqDiff, Nat.reduceLT, Nat.reduceLeDiff, reduceCtorEq, ↓reduceIte]
      repeat' apply And.intro
      all_goals first | exact True.intro | omega | (simp only [List.length_take, List.length_drop, List.length_append, List.length_cons, List.length_nil]; omega) | (refine ⟨i + 1, [0, 6], ?_, weak_of (by decide) (by simp [RS.slot, List.map_cons, List.map_nil, rowsLe, rowLe, slotsLe, tvLe, TV.ren, AV.ren, C.ren, Dat.ren, Row.ren, TV.hs, AV.hs, C.hs, Dat.hs, get_cons, get_nil, zipSlots, List.getD_cons_zero, List.getD_cons_succ, List.getD_nil, -List.getD_eq_getElem?_getD, hf, hlen])⟩; exact ⟨by omega, by omega⟩)
  · have hcd : decide ((i : Int) < rs.length) = false := by simp; omega
    have e : rs.take i = rs := List.take_of_length_le (by omega)
    rw [e] at hys
    have e2 : i = rs.length := by omega
    simp (dsimp := false) only [hcd, go_sem, Nat.reduceAdd, Nat.reduceBEq, Nat.reduceEqDiff, Nat.reduceLT, Nat.reduceLeDiff, reduceCtorEq, ↓reduceIte]
    refine hQ _ _ _ ?_
    simp (dsimp := false) only [go_sem, Nat.reduceAdd, Nat.reduceBEq, Nat.reduceEqDiff, Nat.reduceLT, Nat.reduceLeDiff, reduceCtorEq, ↓reduceIte]
    subst e2
    refine afin [0, 1] [aR 1 rs.length] [rR rs, oR (stbF (kD B P) rs)] (by simp) rfl (weak_of (by decide) (by simp [RS.slot, List.map_cons, List.map_nil, rowsLe, rowLe, slotsLe, tvLe, TV.ren, AV.ren, C.ren, Dat.ren, Row.ren, TV.hs, AV.hs, C.hs, Dat.hs, get_cons, get_nil, zipSlots, List.getD_cons_zero, List.getD_cons_succ, List.getD_nil, -List.getD_eq_getElem?_getD, hys])) (by simp [rtv, hys, -List.getD_eq_getElem?_getD])
end Go.Proofs.Ytlejmdbjckmfoaa
