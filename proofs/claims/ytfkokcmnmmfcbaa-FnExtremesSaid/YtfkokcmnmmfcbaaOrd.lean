/- Contract: the laws' sorted copy. -/
import Derived.Test.YtfkokcmnmmfcbaaPlSort
import Derived.Test.YtfkokcmnmmfcbaaLaw
set_option linter.unusedSimpArgs false
set_option linter.unusedVariables false
set_option linter.unusedSectionVars false
namespace Go.Proofs.Ytfkokcmnmmfcbaa
open Go Go.Ax
set_option maxRecDepth 10000
set_option maxHeartbeats 1000000

theorem pred_natO (c : Nat) : ((c + 1 : Nat) : Int) - 1 = (c : Int) := by omega
theorem insZ_le {k : Nat} {x : Int} {zs : List Int} (h : zs.getD k 0 ≤ x) : insIn 0 x (k + 1) zs = (zs, k + 1) := insIn_le (by rw [Nat.zero_add]; exact h)
theorem insZ_gt {k : Nat} {x : Int} {zs : List Int} (h : ¬ zs.getD k 0 ≤ x) : insIn 0 x (k + 1) zs = insIn 0 x k (zs.set (k + 1) (zs.getD k 0)) := by
  have := insIn_gt (o := 0) (k := k) (x := x) (zs := zs) (by rw [Nat.zero_add]; exact h)
  rwa [Nat.zero_add, Nat.zero_add] at this

theorem vOrdered_l (xs : List Int) (hx : xs.length ≤ 281474976710) : ACalls Try.prog 11 [tS 0 xs.length] [] [rI xs] (fun t H => t = tS 1 xs.length ∧ H = [rI xs, oI (srtL xs)]) := by
  obtain ⟨n, hn⟩ : ∃ n, n = xs.length := ⟨_, rfl⟩
  rw [← hn] at hx ⊢
  refine afun (fun _ => none) [2] 1 Try.func11 rfl rfl mix (by kernel_rfl) (by kernel_rfl) (by simp [Try.f11]) rfl (by simp [msOwn, ownAll, Row.own]) ?_
  simp (dsimp := false) only [go_sem, Nat.reduceAdd, Nat.reduceBEq, Nat.reduceEqDiff, Nat.reduceLT, Nat.reduceLeDiff, reduceCtorEq, ↓reduceIte]
  repeat (refine And.intro (by first | exact True.intro | omega | kernel_rfl | (simp only [List.length_set, List.length_append, List.length_take, List.length_replicate, List.length_cons, true_and, and_true, List.length_nil, tabR_length]; omega)) ?_)
  have htk : xs.take n = xs := by rw [hn, List.take_length]
  simp only [htk]
  refine aloopQ (σ := Nat × List Int) (fun s => ([(3, tS 1 n), (4, tI (s.1 + 1 : Nat))], [rI xs, oI s.2])) (fun s => s.1 ≤ n - 1 ∧ PS 0 n xs s.2 ∧ SSeg 0 (s.1 + 1) s.2) (fun s => n - s.1) (0, xs) ([0, 2]) ⟨Nat.zero_le _, PS.refl _ _ _, fun i j h1 h2 => by omega⟩ (weak_of (by decide) (by simp [RS.slot, List.map_cons, List.map_nil, rowsLe, rowLe, slotsLe, tvLe, TV.ren, AV.ren, C.ren, Dat.ren, Row.ren, TV.hs, AV.hs, C.hs, Dat.hs, get_cons, get_nil, zipSlots, List.getD_cons_zero, List.getD_cons_succ, List.getD_nil, -List.getD_eq_getElem?_getD])) ?_
  rintro Q hQ ⟨m, z⟩ ⟨hm, hps, hss⟩
  simp only at hm hps hss
  have hzl : z.length = n := by rw [hps.len, hn]
  by_cases hi : m + 1 < n
  · have hid : decide (((m + 1 : Nat) : Int) < n) = true := decide_eq_true (by omega)
    obtain ⟨x, hxe⟩ : ∃ x, x = z.getD (m + 1) 0 := ⟨_, rfl⟩
    have hw : z = z.set (0 + (m + 1)) x := by
      apply list_ext_getD
      · simp
      · intro q _
        rw [getD_setq _ (by omega), Nat.zero_add]; split
        · rename_i e; rw [e, hxe]
        · rfl
    obtain ⟨P, hP⟩ : ∃ P, P = insIn 0 x (m + 1) z := ⟨_, rfl⟩
    have hok := insIn_ok 0 (m + 1) x (m + 1) z z (Nat.le_refl _) (by omega) hw (fun p q hpq hq hp hqk => hss p q hpq (by omega)) (fun q h1 h2 => by omega)
    rw [← hP, Nat.zero_add] at hok
    simp (dsimp := false) only [hid, ← hxe, go_sem, Nat.reduceAdd, Nat.reduceBEq, Nat.reduceEqDiff, Nat.reduceLT, Nat.reduceLeDiff, reduceCtorEq, ↓reduceIte]
    repeat (refine And.intro (by first | exact True.intro | omega | kernel_rfl | (simp only [List.length_set, List.length_append, List.length_take, List.length_replicate, List.length_cons, true_and, and_true, List.length_nil, tabR_length]; omega)) ?_)
    refine aloopQ (σ := Nat × List Int) (fun t => ([(3, tS 1 n), (4, tI (m + 1 : Nat)), (5, tI x), (6, tI t.1)], [rI xs, oI t.2])) (fun t => t.1 ≤ m + 1 ∧ t.2.length = n ∧ insIn 0 x t.1 t.2 = P) (fun t => t.1) (m + 1, z) ([0, 1]) ⟨Nat.le_refl _, hzl, hP.symm⟩ (weak_of (by decide) (by simp [RS.slot, List.map_cons, List.map_nil, rowsLe, rowLe, slotsLe, tvLe, TV.ren, AV.ren, C.ren, Dat.ren, Row.ren, TV.hs, AV.hs, C.hs, Dat.hs, get_cons, get_nil, zipSlots, List.getD_cons_zero, List.getD_cons_succ, List.getD_nil, -List.getD_eq_getElem?_getD])) ?_
    rintro Q2 hQ2 ⟨k, zs⟩ ⟨h1, h2, h3⟩
    simp only at h1 h2 h3
    match k, h1, h3 with
    | 0, h1, h3 =>
      rw [insIn] at h3
      have d1 : decide (0 < ((0 : Nat) : Int)) = false := rfl
      rw [← h3] at hok
      simp (dsimp := false) only [d1, go_sem, Nat.reduceAdd, Nat.reduceBEq, Nat.reduceEqDiff, Nat.reduceLT, Nat.reduceLeDiff, reduceCtorEq, ↓reduceIte]
      refine hQ2 _ _ _ ?_
      simp (dsimp := false) only [go_sem, Nat.reduceAdd, Nat.reduceBEq, Nat.reduceEqDiff, Nat.reduceLT, Nat.reduceLeDiff, reduceCtorEq, ↓reduceIte]
      repeat (refine And.intro (by first | exact True.intro | omega | kernel_rfl | (simp only [List.length_set, List.length_append, List.length_take, List.length_replicate, List.length_cons, true_and, and_true, List.length_nil, tabR_length]; omega)) ?_)
      refine ⟨(m + 1, zs.set 0 x), [0, 1], ?_, weak_of (by decide) (by simp [RS.slot, List.map_cons, List.map_nil, rowsLe, rowLe, slotsLe, tvLe, TV.ren, AV.ren, C.ren, Dat.ren, Row.ren, TV.hs, AV.hs, C.hs, Dat.hs, get_cons, get_nil, zipSlots, List.getD_cons_zero, List.getD_cons_succ, List.getD_nil, -List.getD_eq_getElem?_getD, ])⟩
      dsimp only
      exact ⟨⟨by omega, hps.trans (hok.1.up (Nat.le_refl _) (by omega)), hok.2.1⟩, by omega⟩
    | k + 1, h1, h3 =>
      have d1 : decide (0 < ((k + 1 : Nat) : Int)) = true := decide_eq_true (by omega)
      by_cases hle : zs.getD k 0 ≤ x
      · have d2 : decide (x < zs.getD k 0) = false := decide_eq_false (by omega)
        rw [insZ_le hle] at h3
        rw [← h3] at hok
        simp (dsimp := false) only [d1, d2, pred_natO, go_sem, Nat.reduceAdd, Nat.reduceBEq, Nat.reduceEqDiff, Nat.reduceLT, Nat.reduceLeDiff, reduceCtorEq, ↓reduceIte]
        repeat (refine And.intro (by first | exact True.intro | omega | kernel_rfl | (simp only [List.length_set, List.length_append, List.length_take, List.length_replicate, List.length_cons, true_and, and_true, List.length_nil, tabR_length]; omega)) ?_)
        refine hQ2 _ _ _ ?_
        simp (dsimp := false) only [go_sem, Nat.reduceAdd, Nat.reduceBEq, Nat.reduceEqDiff, Nat.reduceLT, Nat.reduceLeDiff, reduceCtorEq, ↓reduceIte]
        repeat (refine And.intro (by first | exact True.intro | omega | kernel_rfl | (simp only [List.length_set, List.length_append, List.length_take, List.length_replicate, List.length_cons, true_and, and_true, List.length_nil, tabR_length]; omega)) ?_)
        refine ⟨(m + 1, zs.set (k + 1) x), [0, 1], ?_, weak_of (by decide) (by simp [RS.slot, List.map_cons, List.map_nil, rowsLe, rowLe, slotsLe, tvLe, TV.ren, AV.ren, C.ren, Dat.ren, Row.ren, TV.hs, AV.hs, C.hs, Dat.hs, get_cons, get_nil, zipSlots, List.getD_cons_zero, List.getD_cons_succ, List.getD_nil, -List.getD_eq_getElem?_getD, ])⟩
        dsimp only
        exact ⟨⟨by omega, hps.trans (hok.1.up (Nat.le_refl _) (by omega)), hok.2.1⟩, by omega⟩
      · have d2 : decide (x < zs.getD k 0) = true := decide_eq_true (by omega)
        rw [insZ_gt hle] at h3
        simp (dsimp := false) only [d1, d2, pred_natO, go_sem, Nat.reduceAdd, Nat.reduceBEq, Nat.reduceEqDiff, Nat.reduceLT, Nat.reduceLeDiff, reduceCtorEq, ↓reduceIte]
        repeat (refine And.intro (by first | exact True.intro | omega | kernel_rfl | (simp only [List.length_set, List.length_append, List.length_take, List.length_replicate, List.length_cons, true_and, and_true, List.length_nil, tabR_length]; omega)) ?_)
        refine ⟨(k, zs.set (k + 1) (zs.getD k 0)), [0, 1], ?_, weak_of (by decide) (by simp [RS.slot, List.map_cons, List.map_nil, rowsLe, rowLe, slotsLe, tvLe, TV.ren, AV.ren, C.ren, Dat.ren, Row.ren, TV.hs, AV.hs, C.hs, Dat.hs, get_cons, get_nil, zipSlots, List.getD_cons_zero, List.getD_cons_succ, List.getD_nil, -List.getD_eq_getElem?_getD, ])⟩
        dsimp only
        exact ⟨⟨by omega, by simpa using h2, h3⟩, by omega⟩
  · have hid : decide (((m + 1 : Nat) : Int) < n) = false := decide_eq_false (by omega)
    have e : z = srtL xs := srtL_unique (PS.whole (by rw [← hn]; exact hps)) (fun i j h1 h2 => hss i j h1 (by omega))
    simp (dsimp := false) only [hid, go_sem, Nat.reduceAdd, Nat.reduceBEq, Nat.reduceEqDiff, Nat.reduceLT, Nat.reduceLeDiff, reduceCtorEq, ↓reduceIte]
    refine hQ _ _ _ ?_
    simp (dsimp := false) only [go_sem, Nat.reduceAdd, Nat.reduceBEq, Nat.reduceEqDiff, Nat.reduceLT, Nat.reduceLeDiff, reduceCtorEq, ↓reduceIte]
    rw [← e]
    refine afin [0, 1] [aS 1 n] [rI xs, oI z] (by simp) rfl (weak_of (by decide) (by simp [RS.slot, List.map_cons, List.map_nil, rowsLe, rowLe, slotsLe, tvLe, TV.ren, AV.ren, C.ren, Dat.ren, Row.ren, TV.hs, AV.hs, C.hs, Dat.hs, get_cons, get_nil, zipSlots, List.getD_cons_zero, List.getD_cons_succ, List.getD_nil, -List.getD_eq_getElem?_getD])) (by simp [rtv])
end Go.Proofs.Ytfkokcmnmmfcbaa
