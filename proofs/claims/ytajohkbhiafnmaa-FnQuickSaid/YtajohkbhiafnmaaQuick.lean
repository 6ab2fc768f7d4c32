/- Contracts: insertion, quicksort, in the program and in the reference. -/
import Derived.Test.YtajohkbhiafnmaaIns
import Derived.Test.YtajohkbhiafnmaaPart
import Derived.Test.YtajohkbhiafnmaaHeaps
import Derived.Test.YtajohkbhiafnmaaMed
import Derived.Test.YtajohkbhiafnmaaMedi
set_option linter.unusedSimpArgs false
set_option linter.unusedVariables false
set_option linter.unusedSectionVars false
namespace Go.Proofs.Ytajohkbhiafnmaa
open Go Go.Ax
set_option maxRecDepth 10000
set_option maxHeartbeats 1000000

theorem quick_l (small : Nat) : ∀ (limit o n : Nat) (zs : List Int), o + n ≤ zs.length → n ≤ 64 → limit ≤ 65 →
    ACalls Try.prog 85 [tO 0 o n, tI small, tI limit] [0] [oI zs] (fun t H => t = .tup [aI (qF small limit o n zs).2.1, aI (qF small limit o n zs).2.2] ∧ H = [oI (qF small limit o n zs).1]) := by
  intro limit
  induction limit with
  | zero =>
    intro o n zs hn hN hL
    refine afun (fun _ => none) [6, 7] 1 Try.func85 rfl rfl mix (by kernel_rfl) (by kernel_rfl) (by simp [Try.f85]) rfl (by simp [msOwn, ownAll, Row.own]) ?_
    by_cases hs : n ≤ small
    · have hd : decide ((n : Int) ≤ small) = true := by simp; omega
      rw [qF_small hs]
      simp (dsimp := false) only [hd, go_sem, Nat.reduceAdd, Nat.reduceBEq, Nat.reduceEqDiff, Nat.reduceLT, Nat.reduceLeDiff, reduceCtorEq, ↓reduceIte]
      repeat (refine And.intro (by first | exact True.intro | omega | kernel_rfl | (simp only [List.length_set, List.length_append, List.length_take, List.length_replicate, List.length_cons, true_and, and_true, List.length_nil, tabR_length]; omega)) ?_)
      refine ⟨_, (gapped_l o n zs hn hN).lift [0] (by decide) (by simp) (by simp [RS.slot, List.map_cons, List.map_nil, rowsLe, rowLe, slotsLe, tvLe, TV.ren, AV.ren, C.ren, Dat.ren, Row.ren, TV.hs, AV.hs, C.hs, Dat.hs, get_cons, get_nil, zipSlots, List.getD_cons_zero, List.getD_cons_succ, List.getD_nil, -List.getD_eq_getElem?_getD]) (by simp [RS.slot, List.map_cons, List.map_nil, rowsLe, rowLe, slotsLe, tvLe, TV.ren, AV.ren, C.ren, Dat.ren, Row.ren, TV.hs, AV.hs, C.hs, Dat.hs, get_cons, get_nil, zipSlots, List.getD_cons_zero, List.getD_cons_succ, List.getD_nil, -List.getD_eq_getElem?_getD]) (by simp [RS.slot, List.map_cons, List.map_nil, rowsLe, rowLe, slotsLe, tvLe, TV.ren, AV.ren, C.ren, Dat.ren, Row.ren, TV.hs, AV.hs, C.hs, Dat.hs, get_cons, get_nil, zipSlots, List.getD_cons_zero, List.getD_cons_succ, List.getD_nil, -List.getD_eq_getElem?_getD]) rfl ?_⟩
      rintro _ _ ⟨c, v, rfl, rfl⟩
      refine ⟨by simp [ownIn, Row.own], ?_⟩
      simp (dsimp := false) only [hd, liftT, liftH, putBack, freshR, ownIn, Row.own, Row.ren, TV.ren, AV.ren, C.ren, Dat.ren, List.drop_succ_cons, List.drop_nil, List.getD_cons_zero, List.getD_cons_succ, List.getD_nil, go_sem, Nat.reduceAdd, Nat.reduceBEq, Nat.reduceEqDiff, Nat.reduceLT, Nat.reduceLeDiff, reduceCtorEq, ↓reduceIte]
      refine afin [0] [aI 0, aI 0] [oI (insAll o (n - 1) zs)] (by simp) rfl (weak_of (by decide) (by simp [RS.slot, List.map_cons, List.map_nil, rowsLe, rowLe, slotsLe, tvLe, TV.ren, AV.ren, C.ren, Dat.ren, Row.ren, TV.hs, AV.hs, C.hs, Dat.hs, get_cons, get_nil, zipSlots, List.getD_cons_zero, List.getD_cons_succ, List.getD_nil, -List.getD_eq_getElem?_getD])) (by simp [rtv])
    · have hd : decide ((n : Int) ≤ small) = false := by simp; omega
      have hz : (((0 : Nat) : Int) == 0) = true := rfl
      rw [qF_heap hs]
      simp (dsimp := false) only [hd, hz, go_sem, Nat.reduceAdd, Nat.reduceBEq, Nat.reduceEqDiff, Nat.reduceLT, Nat.reduceLeDiff, reduceCtorEq, ↓reduceIte]
      repeat (refine And.intro (by first | exact True.intro | omega | kernel_rfl | (simp only [List.length_set, List.length_append, List.length_take, List.length_replicate, List.length_cons, true_and, and_true, List.length_nil, tabR_length]; omega)) ?_)
      refine ⟨_, (heapSort_l 2 o n zs (by omega) hn hN).lift [0] (by decide) (by simp) (by simp [RS.slot, List.map_cons, List.map_nil, rowsLe, rowLe, slotsLe, tvLe, TV.ren, AV.ren, C.ren, Dat.ren, Row.ren, TV.hs, AV.hs, C.hs, Dat.hs, get_cons, get_nil, zipSlots, List.getD_cons_zero, List.getD_cons_succ, List.getD_nil, -List.getD_eq_getElem?_getD]) (by simp [RS.slot, List.map_cons, List.map_nil, rowsLe, rowLe, slotsLe, tvLe, TV.ren, AV.ren, C.ren, Dat.ren, Row.ren, TV.hs, AV.hs, C.hs, Dat.hs, get_cons, get_nil, zipSlots, List.getD_cons_zero, List.getD_cons_succ, List.getD_nil, -List.getD_eq_getElem?_getD]) (by simp [RS.slot, List.map_cons, List.map_nil, rowsLe, rowLe, slotsLe, tvLe, TV.ren, AV.ren, C.ren, Dat.ren, Row.ren, TV.hs, AV.hs, C.hs, Dat.hs, get_cons, get_nil, zipSlots, List.getD_cons_zero, List.getD_cons_succ, List.getD_nil, -List.getD_eq_getElem?_getD]) rfl ?_⟩
      rintro _ _ ⟨rfl, rfl⟩
      refine ⟨by simp [ownIn, Row.own], ?_⟩
      simp (dsimp := false) only [hd, liftT, liftH, putBack, freshR, ownIn, Row.own, Row.ren, TV.ren, AV.ren, C.ren, Dat.ren, List.drop_succ_cons, List.drop_nil, List.getD_cons_zero, List.getD_cons_succ, List.getD_nil, go_sem, Nat.reduceAdd, Nat.reduceBEq, Nat.reduceEqDiff, Nat.reduceLT, Nat.reduceLeDiff, reduceCtorEq, ↓reduceIte]
      refine afin [0] [aI 0, aI 1] [oI (hsortF 2 o n zs).1] (by simp) rfl (weak_of (by decide) (by simp [RS.slot, List.map_cons, List.map_nil, rowsLe, rowLe, slotsLe, tvLe, TV.ren, AV.ren, C.ren, Dat.ren, Row.ren, TV.hs, AV.hs, C.hs, Dat.hs, get_cons, get_nil, zipSlots, List.getD_cons_zero, List.getD_cons_succ, List.getD_nil, -List.getD_eq_getElem?_getD])) (by simp [rtv])
  | succ l ih =>
    intro o n zs hn hN hL
    refine afun (fun _ => none) [6, 7] 1 Try.func85 rfl rfl mix (by kernel_rfl) (by kernel_rfl) (by simp [Try.f85]) rfl (by simp [msOwn, ownAll, Row.own]) ?_
    by_cases hs : n ≤ small
    · have hd : decide ((n : Int) ≤ small) = true := by simp; omega
      rw [qF_small hs]
      simp (dsimp := false) only [hd, go_sem, Nat.reduceAdd, Nat.reduceBEq, Nat.reduceEqDiff, Nat.reduceLT, Nat.reduceLeDiff, reduceCtorEq, ↓reduceIte]
      repeat (refine And.intro (by first | exact True.intro | omega | kernel_rfl | (simp only [List.length_set, List.length_append, List.length_take, List.length_replicate, List.length_cons, true_and, and_true, List.length_nil, tabR_length]; omega)) ?_)
      refine ⟨_, (gapped_l o n zs hn hN).lift [0] (by decide) (by simp) (by simp [RS.slot, List.map_cons, List.map_nil, rowsLe, rowLe, slotsLe, tvLe, TV.ren, AV.ren, C.ren, Dat.ren, Row.ren, TV.hs, AV.hs, C.hs, Dat.hs, get_cons, get_nil, zipSlots, List.getD_cons_zero, List.getD_cons_succ, List.getD_nil, -List.getD_eq_getElem?_getD]) (by simp [RS.slot, List.map_cons, List.map_nil, rowsLe, rowLe, slotsLe, tvLe, TV.ren, AV.ren, C.ren, Dat.ren, Row.ren, TV.hs, AV.hs, C.hs, Dat.hs, get_cons, get_nil, zipSlots, List.getD_cons_zero, List.getD_cons_succ, List.getD_nil, -List.getD_eq_getElem?_getD]) (by simp [RS.slot, List.map_cons, List.map_nil, rowsLe, rowLe, slotsLe, tvLe, TV.ren, AV.ren, C.ren, Dat.ren, Row.ren, TV.hs, AV.hs, C.hs, Dat.hs, get_cons, get_nil, zipSlots, List.getD_cons_zero, List.getD_cons_succ, List.getD_nil, -List.getD_eq_getElem?_getD]) rfl ?_⟩
      rintro _ _ ⟨c, v, rfl, rfl⟩
      refine ⟨by simp [ownIn, Row.own], ?_⟩
      simp (dsimp := false) only [hd, liftT, liftH, putBack, freshR, ownIn, Row.own, Row.ren, TV.ren, AV.ren, C.ren, Dat.ren, List.drop_succ_cons, List.drop_nil, List.getD_cons_zero, List.getD_cons_succ, List.getD_nil, go_sem, Nat.reduceAdd, Nat.reduceBEq, Nat.reduceEqDiff, Nat.reduceLT, Nat.reduceLeDiff, reduceCtorEq, ↓reduceIte]
      refine afin [0] [aI 0, aI 0] [oI (insAll o (n - 1) zs)] (by simp) rfl (weak_of (by decide) (by simp [RS.slot, List.map_cons, List.map_nil, rowsLe, rowLe, slotsLe, tvLe, TV.ren, AV.ren, C.ren, Dat.ren, Row.ren, TV.hs, AV.hs, C.hs, Dat.hs, get_cons, get_nil, zipSlots, List.getD_cons_zero, List.getD_cons_succ, List.getD_nil, -List.getD_eq_getElem?_getD])) (by simp [rtv])
    · have hd : decide ((n : Int) ≤ small) = false := by simp; omega
      have hz : (((l + 1 : Nat) : Int) == 0) = false := by simp; omega
      have hn1 : 1 ≤ n := by omega
      have h1 := pivV_mid hn hn1
      obtain ⟨h2, h3, h4⟩ := tway_bd o n (pivV zs o n) zs
      have hm := medI_bd (fun i => zs.getD (o + i) 0) hn1
      have hq := qF_go (l := l) hs (show tway o n (pivV zs o n) zs = ((tway o n (pivV zs o n) zs).1, (tway o n (pivV zs o n) zs).2.1, (tway o n (pivV zs o n) zs).2.2) from rfl)
      have htw := threeWay_l zs o n (pivV zs o n) hn hN
      obtain ⟨lt, hlt⟩ : ∃ lt, lt = (tway o n (pivV zs o n) zs).1 := ⟨_, rfl⟩
      obtain ⟨gt, hgt⟩ : ∃ gt, gt = (tway o n (pivV zs o n) zs).2.1 := ⟨_, rfl⟩
      obtain ⟨zs1, hz1⟩ : ∃ zs1, zs1 = (tway o n (pivV zs o n) zs).2.2 := ⟨_, rfl⟩
      rw [← hlt, ← hgt] at h1
      rw [← hgt] at h3
      rw [← hz1] at h4
      rw [← hlt, ← hgt, ← hz1] at hq
      rw [← hlt, ← hgt, ← hz1] at htw
      have b1 := qF_bd small l o lt zs1 (by omega)
      have b2 := qF_bd small l (o + gt) (n - gt) (qF small l o lt zs1).1 (by rw [qF_len]; omega)
      rw [hq]
      simp (dsimp := false) only [hd, hz, go_sem, Nat.reduceAdd, Nat.reduceBEq, Nat.reduceEqDiff, Nat.reduceLT, Nat.reduceLeDiff, reduceCtorEq, ↓reduceIte]
      repeat (refine And.intro (by first | exact True.intro | omega | kernel_rfl | (simp only [List.length_set, List.length_append, List.length_take, List.length_replicate, List.length_cons, true_and, and_true, List.length_nil, tabR_length]; omega)) ?_)
      refine ⟨_, (medianIndex_l zs o n hn1 (by omega) hN).lift [0] (by decide) (by simp) (by simp [RS.slot, List.map_cons, List.map_nil, rowsLe, rowLe, slotsLe, tvLe, TV.ren, AV.ren, C.ren, Dat.ren, Row.ren, TV.hs, AV.hs, C.hs, Dat.hs, get_cons, get_nil, zipSlots, List.getD_cons_zero, List.getD_cons_succ, List.getD_nil, -List.getD_eq_getElem?_getD]) (by simp [RS.slot, List.map_cons, List.map_nil, rowsLe, rowLe, slotsLe, tvLe, TV.ren, AV.ren, C.ren, Dat.ren, Row.ren, TV.hs, AV.hs, C.hs, Dat.hs, get_cons, get_nil, zipSlots, List.getD_cons_zero, List.getD_cons_succ, List.getD_nil, -List.getD_eq_getElem?_getD]) (by simp [RS.slot, List.map_cons, List.map_nil, rowsLe, rowLe, slotsLe, tvLe, TV.ren, AV.ren, C.ren, Dat.ren, Row.ren, TV.hs, AV.hs, C.hs, Dat.hs, get_cons, get_nil, zipSlots, List.getD_cons_zero, List.getD_cons_succ, List.getD_nil, -List.getD_eq_getElem?_getD]) rfl ?_⟩
      rintro _ _ ⟨rfl, rfl⟩
      refine ⟨by simp [ownIn, Row.own], ?_⟩
      simp (dsimp := false) only [hd, liftT, liftH, putBack, freshR, ownIn, Row.own, Row.ren, TV.ren, AV.ren, C.ren, Dat.ren, List.drop_succ_cons, List.drop_nil, List.getD_cons_zero, List.getD_cons_succ, List.getD_nil, go_sem, Nat.reduceAdd, Nat.reduceBEq, Nat.reduceEqDiff, Nat.reduceLT, Nat.reduceLeDiff, reduceCtorEq, ↓reduceIte]
      repeat (refine And.intro (by first | exact True.intro | omega | kernel_rfl | (simp only [List.length_set, List.length_append, List.length_take, List.length_replicate, List.length_cons, true_and, and_true, List.length_nil, tabR_length]; omega)) ?_)
      rw [show zs.getD (o + (medI (fun i => zs.getD (o + i) 0) n).toNat) 0 = pivV zs o n from rfl]
      repeat (refine And.intro (by first | exact True.intro | omega | kernel_rfl | (simp only [List.length_set, List.length_append, List.length_take, List.length_replicate, List.length_cons, true_and, and_true, List.length_nil, tabR_length]; omega)) ?_)
      refine ⟨_, (htw).lift [0] (by decide) (by simp) (by simp [RS.slot, List.map_cons, List.map_nil, rowsLe, rowLe, slotsLe, tvLe, TV.ren, AV.ren, C.ren, Dat.ren, Row.ren, TV.hs, AV.hs, C.hs, Dat.hs, get_cons, get_nil, zipSlots, List.getD_cons_zero, List.getD_cons_succ, List.getD_nil, -List.getD_eq_getElem?_getD]) (by simp [RS.slot, List.map_cons, List.map_nil, rowsLe, rowLe, slotsLe, tvLe, TV.ren, AV.ren, C.ren, Dat.ren, Row.ren, TV.hs, AV.hs, C.hs, Dat.hs, get_cons, get_nil, zipSlots, List.getD_cons_zero, List.getD_cons_succ, List.getD_nil, -List.getD_eq_getElem?_getD]) (by simp [RS.slot, List.map_cons, List.map_nil, rowsLe, rowLe, slotsLe, tvLe, TV.ren, AV.ren, C.ren, Dat.ren, Row.ren, TV.hs, AV.hs, C.hs, Dat.hs, get_cons, get_nil, zipSlots, List.getD_cons_zero, List.getD_cons_succ, List.getD_nil, -List.getD_eq_getElem?_getD]) rfl ?_⟩
      rintro _ _ ⟨rfl, rfl⟩
      refine ⟨by simp [ownIn, Row.own], ?_⟩
      simp (dsimp := false) only [Nat.sub_zero, Int.toNat_zero, liftT, liftH, putBack, freshR, ownIn, Row.own, Row.ren, TV.ren, AV.ren, C.ren, Dat.ren, List.drop_succ_cons, List.drop_nil, List.getD_cons_zero, List.getD_cons_succ, List.getD_nil, go_sem, Nat.reduceAdd, Nat.reduceBEq, Nat.reduceEqDiff, Nat.reduceLT, Nat.reduceLeDiff, reduceCtorEq, ↓reduceIte]
      repeat (refine And.intro (by first | exact True.intro | omega | kernel_rfl | (simp only [List.length_set, List.length_append, List.length_take, List.length_replicate, List.length_cons, true_and, and_true, List.length_nil, tabR_length]; omega)) ?_)
      repeat (refine And.intro (by first | exact True.intro | omega | kernel_rfl | (simp only [List.length_set, List.length_append, List.length_take, List.length_replicate, List.length_cons, true_and, and_true, List.length_nil, tabR_length]; omega)) ?_)
      refine ⟨_, (ih o lt zs1 (by omega) (by omega) (by omega)).lift [0] (by decide) (by simp) (by simp [RS.slot, List.map_cons, List.map_nil, rowsLe, rowLe, slotsLe, tvLe, TV.ren, AV.ren, C.ren, Dat.ren, Row.ren, TV.hs, AV.hs, C.hs, Dat.hs, get_cons, get_nil, zipSlots, List.getD_cons_zero, List.getD_cons_succ, List.getD_nil, -List.getD_eq_getElem?_getD]) (by simp [RS.slot, List.map_cons, List.map_nil, rowsLe, rowLe, slotsLe, tvLe, TV.ren, AV.ren, C.ren, Dat.ren, Row.ren, TV.hs, AV.hs, C.hs, Dat.hs, get_cons, get_nil, zipSlots, List.getD_cons_zero, List.getD_cons_succ, List.getD_nil, -List.getD_eq_getElem?_getD]) (by simp [RS.slot, List.map_cons, List.map_nil, rowsLe, rowLe, slotsLe, tvLe, TV.ren, AV.ren, C.ren, Dat.ren, Row.ren, TV.hs, AV.hs, C.hs, Dat.hs, get_cons, get_nil, zipSlots, List.getD_cons_zero, List.getD_cons_succ, List.getD_nil, -List.getD_eq_getElem?_getD]) rfl ?_⟩
      rintro _ _ ⟨rfl, rfl⟩
      refine ⟨by simp [ownIn, Row.own], ?_⟩
      simp (dsimp := false) only [hd, nat_pred, liftT, liftH, putBack, freshR, ownIn, Row.own, Row.ren, TV.ren, AV.ren, C.ren, Dat.ren, List.drop_succ_cons, List.drop_nil, List.getD_cons_zero, List.getD_cons_succ, List.getD_nil, go_sem, Nat.reduceAdd, Nat.reduceBEq, Nat.reduceEqDiff, Nat.reduceLT, Nat.reduceLeDiff, reduceCtorEq, ↓reduceIte]
      repeat (refine And.intro (by first | exact True.intro | omega | kernel_rfl | (simp only [List.length_set, List.length_append, List.length_take, List.length_replicate, List.length_cons, true_and, and_true, List.length_nil, tabR_length]; omega)) ?_)
      repeat (refine And.intro (by first | exact True.intro | omega | kernel_rfl | (simp only [List.length_set, List.length_append, List.length_take, List.length_replicate, List.length_cons, true_and, and_true, List.length_nil, tabR_length]; omega)) ?_)
      refine ⟨_, (ih (o + gt) (n - gt) (qF small l o lt zs1).1 (by rw [qF_len]; omega) (by omega) (by omega)).lift [0] (by decide) (by simp) (by simp [RS.slot, List.map_cons, List.map_nil, rowsLe, rowLe, slotsLe, tvLe, TV.ren, AV.ren, C.ren, Dat.ren, Row.ren, TV.hs, AV.hs, C.hs, Dat.hs, get_cons, get_nil, zipSlots, List.getD_cons_zero, List.getD_cons_succ, List.getD_nil, -List.getD_eq_getElem?_getD]) (by simp [RS.slot, List.map_cons, List.map_nil, rowsLe, rowLe, slotsLe, tvLe, TV.ren, AV.ren, C.ren, Dat.ren, Row.ren, TV.hs, AV.hs, C.hs, Dat.hs, get_cons, get_nil, zipSlots, List.getD_cons_zero, List.getD_cons_succ, List.getD_nil, -List.getD_eq_getElem?_getD]) (by simp [RS.slot, List.map_cons, List.map_nil, rowsLe, rowLe, slotsLe, tvLe, TV.ren, AV.ren, C.ren, Dat.ren, Row.ren, TV.hs, AV.hs, C.hs, Dat.hs, get_cons, get_nil, zipSlots, List.getD_cons_zero, List.getD_cons_succ, List.getD_nil, -List.getD_eq_getElem?_getD]) rfl ?_⟩
      rintro _ _ ⟨rfl, rfl⟩
      refine ⟨by simp [ownIn, Row.own], ?_⟩
      simp (dsimp := false) only [hd, nat_pred, liftT, liftH, putBack, freshR, ownIn, Row.own, Row.ren, TV.ren, AV.ren, C.ren, Dat.ren, List.drop_succ_cons, List.drop_nil, List.getD_cons_zero, List.getD_cons_succ, List.getD_nil, go_sem, Nat.reduceAdd, Nat.reduceBEq, Nat.reduceEqDiff, Nat.reduceLT, Nat.reduceLeDiff, reduceCtorEq, ↓reduceIte]
      repeat (refine And.intro (by first | exact True.intro | omega | kernel_rfl | (simp only [List.length_set, List.length_append, List.length_take, List.length_replicate, List.length_cons, true_and, and_true, List.length_nil, tabR_length]; omega)) ?_)
      refine afin [0] [aI (1 + (qF small l o lt zs1).2.1 + (qF small l (o + gt) (n - gt) (qF small l o lt zs1).1).2.1 : Nat), aI ((qF small l o lt zs1).2.2 + (qF small l (o + gt) (n - gt) (qF small l o lt zs1).1).2.2 : Nat)] [oI (qF small l (o + gt) (n - gt) (qF small l o lt zs1).1).1] (by simp) rfl (weak_of (by decide) (by simp [RS.slot, List.map_cons, List.map_nil, rowsLe, rowLe, slotsLe, tvLe, TV.ren, AV.ren, C.ren, Dat.ren, Row.ren, TV.hs, AV.hs, C.hs, Dat.hs, get_cons, get_nil, zipSlots, List.getD_cons_zero, List.getD_cons_succ, List.getD_nil, -List.getD_eq_getElem?_getD, Int.natCast_add])) (by simp [rtv, Int.natCast_add, -List.getD_eq_getElem?_getD])

theorem l7Quick_l : ∀ (n limit o : Nat) (zs : List Int), n ≤ limit → o + n ≤ zs.length → n ≤ 64 →
    ACalls Try.prog 86 [tO 0 o n] [0] [oI zs] (fun t H => t = tI (qF 1 limit o n zs).2.1 ∧ H = [oI (qF 1 limit o n zs).1]) := by
  intro n
  induction n using Nat.strongRecOn with
  | _ n ih =>
    intro limit o zs hlim hn hN
    refine afun (fun i => match i with | 4 => some ⟨[0], .op 0 .held (.op 1 .held (.op 2 .held (.op 5 .held (.op 6 .held (.op 7 .held (.op 3 .only (.op 4 .held (.op 8 .only (.op 9 .held (.op 10 .held .nil))))))))))⟩ | _ => none) [2] 1 Try.func86 rfl rfl mix (by kernel_rfl) (by kernel_rfl) (by simp [Try.f86]) rfl (by simp [msOwn, ownAll, Row.own]) ?_
    by_cases hs : n ≤ 1
    · have hd : decide ((n : Int) < 2) = true := by simp; omega
      have e0 : n - 1 = 0 := by omega
      rw [qF_small hs, e0, show insAll o 0 zs = zs from rfl]
      simp (dsimp := false) only [hd, go_sem, Nat.reduceAdd, Nat.reduceBEq, Nat.reduceEqDiff, Nat.reduceLT, Nat.reduceLeDiff, reduceCtorEq, ↓reduceIte]
      refine afin [0] [aI 0] [oI zs] (by simp) rfl (weak_of (by decide) (by simp [RS.slot, List.map_cons, List.map_nil, rowsLe, rowLe, slotsLe, tvLe, TV.ren, AV.ren, C.ren, Dat.ren, Row.ren, TV.hs, AV.hs, C.hs, Dat.hs, get_cons, get_nil, zipSlots, List.getD_cons_zero, List.getD_cons_succ, List.getD_nil, -List.getD_eq_getElem?_getD])) (by simp [rtv])
    · have hd : decide ((n : Int) < 2) = false := by simp; omega
      obtain ⟨l, rfl⟩ : ∃ l, limit = l + 1 := ⟨limit - 1, by omega⟩
      have hn1 : 1 ≤ n := by omega
      have h1 := pivV_mid hn hn1
      obtain ⟨h2, h3, h4⟩ := tway_bd o n (pivV zs o n) zs
      have hm := medI_bd (fun i => zs.getD (o + i) 0) hn1
      have hq := qF_go (l := l) hs (show tway o n (pivV zs o n) zs = ((tway o n (pivV zs o n) zs).1, (tway o n (pivV zs o n) zs).2.1, (tway o n (pivV zs o n) zs).2.2) from rfl)
      have htw := l7Three_l zs o n (pivV zs o n) hn hN
      obtain ⟨lt, hlt⟩ : ∃ lt, lt = (tway o n (pivV zs o n) zs).1 := ⟨_, rfl⟩
      obtain ⟨gt, hgt⟩ : ∃ gt, gt = (tway o n (pivV zs o n) zs).2.1 := ⟨_, rfl⟩
      obtain ⟨zs1, hz1⟩ : ∃ zs1, zs1 = (tway o n (pivV zs o n) zs).2.2 := ⟨_, rfl⟩
      rw [← hlt, ← hgt] at h1
      rw [← hgt] at h3
      rw [← hz1] at h4
      rw [← hlt, ← hgt, ← hz1] at hq
      rw [← hlt, ← hgt, ← hz1] at htw
      have b1 := qF_bd 1 l o lt zs1 (by omega)
      have b2 := qF_bd 1 l (o + gt) (n - gt) (qF 1 l o lt zs1).1 (by rw [qF_len]; omega)
      rw [hq]
      simp (dsimp := false) only [hd, go_sem, Nat.reduceAdd, Nat.reduceBEq, Nat.reduceEqDiff, Nat.reduceLT, Nat.reduceLeDiff, reduceCtorEq, ↓reduceIte]
      repeat (refine And.intro (by first | exact True.intro | omega | kernel_rfl | (simp only [List.length_set, List.length_append, List.length_take, List.length_replicate, List.length_cons, true_and, and_true, List.length_nil, tabR_length]; omega)) ?_)
      refine ⟨_, (l7Median_l zs o n hn1 (by omega) hN).lift [0] (by decide) (by simp) (by simp [RS.slot, List.map_cons, List.map_nil, rowsLe, rowLe, slotsLe, tvLe, TV.ren, AV.ren, C.ren, Dat.ren, Row.ren, TV.hs, AV.hs, C.hs, Dat.hs, get_cons, get_nil, zipSlots, List.getD_cons_zero, List.getD_cons_succ, List.getD_nil, -List.getD_eq_getElem?_getD]) (by simp [RS.slot, List.map_cons, List.map_nil, rowsLe, rowLe, slotsLe, tvLe, TV.ren, AV.ren, C.ren, Dat.ren, Row.ren, TV.hs, AV.hs, C.hs, Dat.hs, get_cons, get_nil, zipSlots, List.getD_cons_zero, List.getD_cons_succ, List.getD_nil, -List.getD_eq_getElem?_getD]) (by simp [RS.slot, List.map_cons, List.map_nil, rowsLe, rowLe, slotsLe, tvLe, TV.ren, AV.ren, C.ren, Dat.ren, Row.ren, TV.hs, AV.hs, C.hs, Dat.hs, get_cons, get_nil, zipSlots, List.getD_cons_zero, List.getD_cons_succ, List.getD_nil, -List.getD_eq_getElem?_getD]) rfl ?_⟩
      rintro _ _ ⟨rfl, rfl⟩
      refine ⟨by simp [ownIn, Row.own], ?_⟩
      simp (dsimp := false) only [hd, liftT, liftH, putBack, freshR, ownIn, Row.own, Row.ren, TV.ren, AV.ren, C.ren, Dat.ren, List.drop_succ_cons, List.drop_nil, List.getD_cons_zero, List.getD_cons_succ, List.getD_nil, go_sem, Nat.reduceAdd, Nat.reduceBEq, Nat.reduceEqDiff, Nat.reduceLT, Nat.reduceLeDiff, reduceCtorEq, ↓reduceIte]
      repeat (refine And.intro (by first | exact True.intro | omega | kernel_rfl | (simp only [List.length_set, List.length_append, List.length_take, List.length_replicate, List.length_cons, true_and, and_true, List.length_nil, tabR_length]; omega)) ?_)
      rw [show zs.getD (o + (medI (fun i => zs.getD (o + i) 0) n).toNat) 0 = pivV zs o n from rfl]
      repeat (refine And.intro (by first | exact True.intro | omega | kernel_rfl | (simp only [List.length_set, List.length_append, List.length_take, List.length_replicate, List.length_cons, true_and, and_true, List.length_nil, tabR_length]; omega)) ?_)
      refine ⟨_, (htw).lift [0] (by decide) (by simp) (by simp [RS.slot, List.map_cons, List.map_nil, rowsLe, rowLe, slotsLe, tvLe, TV.ren, AV.ren, C.ren, Dat.ren, Row.ren, TV.hs, AV.hs, C.hs, Dat.hs, get_cons, get_nil, zipSlots, List.getD_cons_zero, List.getD_cons_succ, List.getD_nil, -List.getD_eq_getElem?_getD]) (by simp [RS.slot, List.map_cons, List.map_nil, rowsLe, rowLe, slotsLe, tvLe, TV.ren, AV.ren, C.ren, Dat.ren, Row.ren, TV.hs, AV.hs, C.hs, Dat.hs, get_cons, get_nil, zipSlots, List.getD_cons_zero, List.getD_cons_succ, List.getD_nil, -List.getD_eq_getElem?_getD]) (by simp [RS.slot, List.map_cons, List.map_nil, rowsLe, rowLe, slotsLe, tvLe, TV.ren, AV.ren, C.ren, Dat.ren, Row.ren, TV.hs, AV.hs, C.hs, Dat.hs, get_cons, get_nil, zipSlots, List.getD_cons_zero, List.getD_cons_succ, List.getD_nil, -List.getD_eq_getElem?_getD]) rfl ?_⟩
      rintro _ _ ⟨rfl, rfl⟩
      refine ⟨by simp [ownIn, Row.own], ?_⟩
      simp (dsimp := false) only [Nat.sub_zero, Int.toNat_zero, liftT, liftH, putBack, freshR, ownIn, Row.own, Row.ren, TV.ren, AV.ren, C.ren, Dat.ren, List.drop_succ_cons, List.drop_nil, List.getD_cons_zero, List.getD_cons_succ, List.getD_nil, go_sem, Nat.reduceAdd, Nat.reduceBEq, Nat.reduceEqDiff, Nat.reduceLT, Nat.reduceLeDiff, reduceCtorEq, ↓reduceIte]
      repeat (refine And.intro (by first | exact True.intro | omega | kernel_rfl | (simp only [List.length_set, List.length_append, List.length_take, List.length_replicate, List.length_cons, true_and, and_true, List.length_nil, tabR_length]; omega)) ?_)
      repeat (refine And.intro (by first | exact True.intro | omega | kernel_rfl | (simp only [List.length_set, List.length_append, List.length_take, List.length_replicate, List.length_cons, true_and, and_true, List.length_nil, tabR_length]; omega)) ?_)
      refine ⟨_, And.intro ?_ ((ih lt (by omega) l o zs1 (by omega) (by omega) (by omega)).lift [0] (by decide) (by simp) (by simp [RS.slot, List.map_cons, List.map_nil, rowsLe, rowLe, slotsLe, tvLe, TV.ren, AV.ren, C.ren, Dat.ren, Row.ren, TV.hs, AV.hs, C.hs, Dat.hs, get_cons, get_nil, zipSlots, List.getD_cons_zero, List.getD_cons_succ, List.getD_nil, -List.getD_eq_getElem?_getD]) (by simp [RS.slot, List.map_cons, List.map_nil, rowsLe, rowLe, slotsLe, tvLe, TV.ren, AV.ren, C.ren, Dat.ren, Row.ren, TV.hs, AV.hs, C.hs, Dat.hs, get_cons, get_nil, zipSlots, List.getD_cons_zero, List.getD_cons_succ, List.getD_nil, -List.getD_eq_getElem?_getD]) (by simp [RS.slot, List.map_cons, List.map_nil, rowsLe, rowLe, slotsLe, tvLe, TV.ren, AV.ren, C.ren, Dat.ren, Row.ren, TV.hs, AV.hs, C.hs, Dat.hs, get_cons, get_nil, zipSlots, List.getD_cons_zero, List.getD_cons_succ, List.getD_nil, -List.getD_eq_getElem?_getD]) rfl ?_)⟩
      · simp [msIn]
      rintro _ _ ⟨rfl, rfl⟩
      refine ⟨by simp [ownIn, Row.own], ?_⟩
      simp (dsimp := false) only [hd, nat_pred, liftT, liftH, putBack, freshR, ownIn, Row.own, Row.ren, TV.ren, AV.ren, C.ren, Dat.ren, List.drop_succ_cons, List.drop_nil, List.getD_cons_zero, List.getD_cons_succ, List.getD_nil, go_sem, Nat.reduceAdd, Nat.reduceBEq, Nat.reduceEqDiff, Nat.reduceLT, Nat.reduceLeDiff, reduceCtorEq, ↓reduceIte]
      repeat (refine And.intro (by first | exact True.intro | omega | kernel_rfl | (simp only [List.length_set, List.length_append, List.length_take, List.length_replicate, List.length_cons, true_and, and_true, List.length_nil, tabR_length]; omega)) ?_)
      repeat (refine And.intro (by first | exact True.intro | omega | kernel_rfl | (simp only [List.length_set, List.length_append, List.length_take, List.length_replicate, List.length_cons, true_and, and_true, List.length_nil, tabR_length]; omega)) ?_)
      refine ⟨_, And.intro ?_ ((ih (n - gt) (by omega) l (o + gt) (qF 1 l o lt zs1).1 (by omega) (by rw [qF_len]; omega) (by omega)).lift [0] (by decide) (by simp) (by simp [RS.slot, List.map_cons, List.map_nil, rowsLe, rowLe, slotsLe, tvLe, TV.ren, AV.ren, C.ren, Dat.ren, Row.ren, TV.hs, AV.hs, C.hs, Dat.hs, get_cons, get_nil, zipSlots, List.getD_cons_zero, List.getD_cons_succ, List.getD_nil, -List.getD_eq_getElem?_getD]) (by simp [RS.slot, List.map_cons, List.map_nil, rowsLe, rowLe, slotsLe, tvLe, TV.ren, AV.ren, C.ren, Dat.ren, Row.ren, TV.hs, AV.hs, C.hs, Dat.hs, get_cons, get_nil, zipSlots, List.getD_cons_zero, List.getD_cons_succ, List.getD_nil, -List.getD_eq_getElem?_getD]) (by simp [RS.slot, List.map_cons, List.map_nil, rowsLe, rowLe, slotsLe, tvLe, TV.ren, AV.ren, C.ren, Dat.ren, Row.ren, TV.hs, AV.hs, C.hs, Dat.hs, get_cons, get_nil, zipSlots, List.getD_cons_zero, List.getD_cons_succ, List.getD_nil, -List.getD_eq_getElem?_getD]) rfl ?_)⟩
      · simp [msIn]
      rintro _ _ ⟨rfl, rfl⟩
      refine ⟨by simp [ownIn, Row.own], ?_⟩
      simp (dsimp := false) only [hd, nat_pred, liftT, liftH, putBack, freshR, ownIn, Row.own, Row.ren, TV.ren, AV.ren, C.ren, Dat.ren, List.drop_succ_cons, List.drop_nil, List.getD_cons_zero, List.getD_cons_succ, List.getD_nil, go_sem, Nat.reduceAdd, Nat.reduceBEq, Nat.reduceEqDiff, Nat.reduceLT, Nat.reduceLeDiff, reduceCtorEq, ↓reduceIte]
      repeat (refine And.intro (by first | exact True.intro | omega | kernel_rfl | (simp only [List.length_set, List.length_append, List.length_take, List.length_replicate, List.length_cons, true_and, and_true, List.length_nil, tabR_length]; omega)) ?_)
      refine afin [0] [aI (1 + (qF 1 l o lt zs1).2.1 + (qF 1 l (o + gt) (n - gt) (qF 1 l o lt zs1).1).2.1 : Nat)] [oI (qF 1 l (o + gt) (n - gt) (qF 1 l o lt zs1).1).1] (by simp) rfl (weak_of (by decide) (by simp [RS.slot, List.map_cons, List.map_nil, rowsLe, rowLe, slotsLe, tvLe, TV.ren, AV.ren, C.ren, Dat.ren, Row.ren, TV.hs, AV.hs, C.hs, Dat.hs, get_cons, get_nil, zipSlots, List.getD_cons_zero, List.getD_cons_succ, List.getD_nil, -List.getD_eq_getElem?_getD, Int.natCast_add])) (by simp [rtv, Int.natCast_add, -List.getD_eq_getElem?_getD])

/-! ### QuickSort -/
theorem iQuickSort_f (xs : List Int) (hx : xs.length ≤ 281474976710) (hv : validB xs = false) : ACalls Try.prog 25 [tS 0 xs.length] [] [rI xs] (fun t H => t = .tup [aN, aI 0, aB false] ∧ H = [rI xs]) := by
  refine afun (fun _ => none) [2, 3, 4] 1 Try.func25 rfl rfl mix (by kernel_rfl) (by kernel_rfl) (by simp [Try.f25]) rfl (by simp [msOwn, ownAll, Row.own]) ?_
  simp (dsimp := false) only [go_sem, Nat.reduceAdd, Nat.reduceBEq, Nat.reduceEqDiff, Nat.reduceLT, Nat.reduceLeDiff, reduceCtorEq, ↓reduceIte]
  repeat (refine And.intro (by first | exact True.intro | omega | kernel_rfl | (simp only [List.length_set, List.length_append, List.length_take, List.length_replicate, List.length_cons, true_and, and_true, List.length_nil, tabR_length]; omega)) ?_)
  refine ⟨_, (isValidList_l xs (by omega)).lift [0] (by decide) (by simp) (by simp [RS.slot, List.map_cons, List.map_nil, rowsLe, rowLe, slotsLe, tvLe, TV.ren, AV.ren, C.ren, Dat.ren, Row.ren, TV.hs, AV.hs, C.hs, Dat.hs, get_cons, get_nil, zipSlots, List.getD_cons_zero, List.getD_cons_succ, List.getD_nil, -List.getD_eq_getElem?_getD]) (by simp [RS.slot, List.map_cons, List.map_nil, rowsLe, rowLe, slotsLe, tvLe, TV.ren, AV.ren, C.ren, Dat.ren, Row.ren, TV.hs, AV.hs, C.hs, Dat.hs, get_cons, get_nil, zipSlots, List.getD_cons_zero, List.getD_cons_succ, List.getD_nil, -List.getD_eq_getElem?_getD]) (by simp [RS.slot, List.map_cons, List.map_nil, rowsLe, rowLe, slotsLe, tvLe, TV.ren, AV.ren, C.ren, Dat.ren, Row.ren, TV.hs, AV.hs, C.hs, Dat.hs, get_cons, get_nil, zipSlots, List.getD_cons_zero, List.getD_cons_succ, List.getD_nil, -List.getD_eq_getElem?_getD]) rfl ?_⟩
  rintro _ _ ⟨rfl, rfl⟩
  refine ⟨by simp [ownIn, Row.own], ?_⟩
  simp (dsimp := false) only [hv, liftT, liftH, putBack, freshR, ownIn, Row.own, Row.ren, TV.ren, AV.ren, C.ren, Dat.ren, List.drop_succ_cons, List.drop_nil, List.getD_cons_zero, List.getD_cons_succ, List.getD_nil, go_sem, Nat.reduceAdd, Nat.reduceBEq, Nat.reduceEqDiff, Nat.reduceLT, Nat.reduceLeDiff, reduceCtorEq, ↓reduceIte]
  refine afin [0] [aN, aI 0, aB false] [rI xs] (by simp) rfl (weak_of (by decide) (by simp [RS.slot, List.map_cons, List.map_nil, rowsLe, rowLe, slotsLe, tvLe, TV.ren, AV.ren, C.ren, Dat.ren, Row.ren, TV.hs, AV.hs, C.hs, Dat.hs, get_cons, get_nil, zipSlots, List.getD_cons_zero, List.getD_cons_succ, List.getD_nil, -List.getD_eq_getElem?_getD])) (by simp [rtv])
theorem sQuickSort_f (xs : List Int) (hx : xs.length ≤ 281474976710) (hv : validB xs = false) : ACalls Try.prog 26 [tS 0 xs.length] [] [rI xs] (fun t H => t = .tup [aS 1 0, aI 0, aB false] ∧ H = [rI xs, oI []]) := by
  refine afun (fun _ => none) [2, 3, 4] 1 Try.func26 rfl rfl mix (by kernel_rfl) (by kernel_rfl) (by simp [Try.f26]) rfl (by simp [msOwn, ownAll, Row.own]) ?_
  simp (dsimp := false) only [go_sem, Nat.reduceAdd, Nat.reduceBEq, Nat.reduceEqDiff, Nat.reduceLT, Nat.reduceLeDiff, reduceCtorEq, ↓reduceIte]
  repeat (refine And.intro (by first | exact True.intro | omega | kernel_rfl | (simp only [List.length_set, List.length_append, List.length_take, List.length_replicate, List.length_cons, true_and, and_true, List.length_nil, tabR_length]; omega)) ?_)
  refine ⟨_, (l2List_l xs (by omega)).lift [0] (by decide) (by simp) (by simp [RS.slot, List.map_cons, List.map_nil, rowsLe, rowLe, slotsLe, tvLe, TV.ren, AV.ren, C.ren, Dat.ren, Row.ren, TV.hs, AV.hs, C.hs, Dat.hs, get_cons, get_nil, zipSlots, List.getD_cons_zero, List.getD_cons_succ, List.getD_nil, -List.getD_eq_getElem?_getD]) (by simp [RS.slot, List.map_cons, List.map_nil, rowsLe, rowLe, slotsLe, tvLe, TV.ren, AV.ren, C.ren, Dat.ren, Row.ren, TV.hs, AV.hs, C.hs, Dat.hs, get_cons, get_nil, zipSlots, List.getD_cons_zero, List.getD_cons_succ, List.getD_nil, -List.getD_eq_getElem?_getD]) (by simp [RS.slot, List.map_cons, List.map_nil, rowsLe, rowLe, slotsLe, tvLe, TV.ren, AV.ren, C.ren, Dat.ren, Row.ren, TV.hs, AV.hs, C.hs, Dat.hs, get_cons, get_nil, zipSlots, List.getD_cons_zero, List.getD_cons_succ, List.getD_nil, -List.getD_eq_getElem?_getD]) rfl ?_⟩
  rintro _ _ ⟨rfl, rfl⟩
  refine ⟨by simp [ownIn, Row.own], ?_⟩
  simp (dsimp := false) only [hv, liftT, liftH, putBack, freshR, ownIn, Row.own, Row.ren, TV.ren, AV.ren, C.ren, Dat.ren, List.drop_succ_cons, List.drop_nil, List.getD_cons_zero, List.getD_cons_succ, List.getD_nil, go_sem, Nat.reduceAdd, Nat.reduceBEq, Nat.reduceEqDiff, Nat.reduceLT, Nat.reduceLeDiff, reduceCtorEq, ↓reduceIte]
  refine afin [0, 1] [aS 1 0, aI 0, aB false] [rI xs, oI []] (by simp) rfl (weak_of (by decide) (by simp [RS.slot, List.map_cons, List.map_nil, rowsLe, rowLe, slotsLe, tvLe, TV.ren, AV.ren, C.ren, Dat.ren, Row.ren, TV.hs, AV.hs, C.hs, Dat.hs, get_cons, get_nil, zipSlots, List.getD_cons_zero, List.getD_cons_succ, List.getD_nil, -List.getD_eq_getElem?_getD])) (by simp [rtv])
theorem iQuickSort_t (xs : List Int) (hx : xs.length ≤ 281474976710) (hv : validB xs = true) : ACalls Try.prog 25 [tS 0 xs.length] [] [rI xs] (fun t H => t = .tup [aS 1 xs.length, aI (qF 1 65 0 xs.length xs).2.1, aB true] ∧ H = [rI xs, oI (qF 1 65 0 xs.length xs).1]) := by
  have h64 := validB_len hv
  refine afun (fun _ => none) [2, 3, 4] 1 Try.func25 rfl rfl mix (by kernel_rfl) (by kernel_rfl) (by simp [Try.f25]) rfl (by simp [msOwn, ownAll, Row.own]) ?_
  simp (dsimp := false) only [go_sem, Nat.reduceAdd, Nat.reduceBEq, Nat.reduceEqDiff, Nat.reduceLT, Nat.reduceLeDiff, reduceCtorEq, ↓reduceIte]
  repeat (refine And.intro (by first | exact True.intro | omega | kernel_rfl | (simp only [List.length_set, List.length_append, List.length_take, List.length_replicate, List.length_cons, true_and, and_true, List.length_nil, tabR_length]; omega)) ?_)
  refine ⟨_, (isValidList_l xs (by omega)).lift [0] (by decide) (by simp) (by simp [RS.slot, List.map_cons, List.map_nil, rowsLe, rowLe, slotsLe, tvLe, TV.ren, AV.ren, C.ren, Dat.ren, Row.ren, TV.hs, AV.hs, C.hs, Dat.hs, get_cons, get_nil, zipSlots, List.getD_cons_zero, List.getD_cons_succ, List.getD_nil, -List.getD_eq_getElem?_getD]) (by simp [RS.slot, List.map_cons, List.map_nil, rowsLe, rowLe, slotsLe, tvLe, TV.ren, AV.ren, C.ren, Dat.ren, Row.ren, TV.hs, AV.hs, C.hs, Dat.hs, get_cons, get_nil, zipSlots, List.getD_cons_zero, List.getD_cons_succ, List.getD_nil, -List.getD_eq_getElem?_getD]) (by simp [RS.slot, List.map_cons, List.map_nil, rowsLe, rowLe, slotsLe, tvLe, TV.ren, AV.ren, C.ren, Dat.ren, Row.ren, TV.hs, AV.hs, C.hs, Dat.hs, get_cons, get_nil, zipSlots, List.getD_cons_zero, List.getD_cons_succ, List.getD_nil, -List.getD_eq_getElem?_getD]) rfl ?_⟩
  rintro _ _ ⟨rfl, rfl⟩
  refine ⟨by simp [ownIn, Row.own], ?_⟩
  simp (dsimp := false) only [hv, liftT, liftH, putBack, freshR, ownIn, Row.own, Row.ren, TV.ren, AV.ren, C.ren, Dat.ren, List.drop_succ_cons, List.drop_nil, List.getD_cons_zero, List.getD_cons_succ, List.getD_nil, go_sem, Nat.reduceAdd, Nat.reduceBEq, Nat.reduceEqDiff, Nat.reduceLT, Nat.reduceLeDiff, reduceCtorEq, ↓reduceIte]
  repeat (refine And.intro (by first | exact True.intro | omega | kernel_rfl | (simp only [List.length_set, List.length_append, List.length_take, List.length_replicate, List.length_cons, true_and, and_true, List.length_nil, tabR_length]; omega)) ?_)
  refine ⟨_, (copyOf_l xs hx).lift [0] (by decide) (by simp) (by simp [RS.slot, List.map_cons, List.map_nil, rowsLe, rowLe, slotsLe, tvLe, TV.ren, AV.ren, C.ren, Dat.ren, Row.ren, TV.hs, AV.hs, C.hs, Dat.hs, get_cons, get_nil, zipSlots, List.getD_cons_zero, List.getD_cons_succ, List.getD_nil, -List.getD_eq_getElem?_getD]) (by simp [RS.slot, List.map_cons, List.map_nil, rowsLe, rowLe, slotsLe, tvLe, TV.ren, AV.ren, C.ren, Dat.ren, Row.ren, TV.hs, AV.hs, C.hs, Dat.hs, get_cons, get_nil, zipSlots, List.getD_cons_zero, List.getD_cons_succ, List.getD_nil, -List.getD_eq_getElem?_getD]) (by simp [RS.slot, List.map_cons, List.map_nil, rowsLe, rowLe, slotsLe, tvLe, TV.ren, AV.ren, C.ren, Dat.ren, Row.ren, TV.hs, AV.hs, C.hs, Dat.hs, get_cons, get_nil, zipSlots, List.getD_cons_zero, List.getD_cons_succ, List.getD_nil, -List.getD_eq_getElem?_getD]) rfl ?_⟩
  rintro _ _ ⟨rfl, rfl⟩
  refine ⟨by simp [ownIn, Row.own], ?_⟩
  simp (dsimp := false) only [hv, liftT, liftH, putBack, freshR, ownIn, Row.own, Row.ren, TV.ren, AV.ren, C.ren, Dat.ren, List.drop_succ_cons, List.drop_nil, List.getD_cons_zero, List.getD_cons_succ, List.getD_nil, go_sem, Nat.reduceAdd, Nat.reduceBEq, Nat.reduceEqDiff, Nat.reduceLT, Nat.reduceLeDiff, reduceCtorEq, ↓reduceIte]
  repeat (refine And.intro (by first | exact True.intro | omega | kernel_rfl | (simp only [List.length_set, List.length_append, List.length_take, List.length_replicate, List.length_cons, true_and, and_true, List.length_nil, tabR_length]; omega)) ?_)
  refine ⟨_, (quick_l 1 65 0 xs.length xs (by omega) h64 (by omega)).lift [1] (by decide) (by simp) (by simp [RS.slot, List.map_cons, List.map_nil, rowsLe, rowLe, slotsLe, tvLe, TV.ren, AV.ren, C.ren, Dat.ren, Row.ren, TV.hs, AV.hs, C.hs, Dat.hs, get_cons, get_nil, zipSlots, List.getD_cons_zero, List.getD_cons_succ, List.getD_nil, -List.getD_eq_getElem?_getD]) (by simp [RS.slot, List.map_cons, List.map_nil, rowsLe, rowLe, slotsLe, tvLe, TV.ren, AV.ren, C.ren, Dat.ren, Row.ren, TV.hs, AV.hs, C.hs, Dat.hs, get_cons, get_nil, zipSlots, List.getD_cons_zero, List.getD_cons_succ, List.getD_nil, -List.getD_eq_getElem?_getD]) (by simp [RS.slot, List.map_cons, List.map_nil, rowsLe, rowLe, slotsLe, tvLe, TV.ren, AV.ren, C.ren, Dat.ren, Row.ren, TV.hs, AV.hs, C.hs, Dat.hs, get_cons, get_nil, zipSlots, List.getD_cons_zero, List.getD_cons_succ, List.getD_nil, -List.getD_eq_getElem?_getD]) rfl ?_⟩
  rintro _ _ ⟨rfl, rfl⟩
  refine ⟨by simp [ownIn, Row.own], ?_⟩
  simp (dsimp := false) only [hv, liftT, liftH, putBack, freshR, ownIn, Row.own, Row.ren, TV.ren, AV.ren, C.ren, Dat.ren, List.drop_succ_cons, List.drop_nil, List.getD_cons_zero, List.getD_cons_succ, List.getD_nil, go_sem, Nat.reduceAdd, Nat.reduceBEq, Nat.reduceEqDiff, Nat.reduceLT, Nat.reduceLeDiff, reduceCtorEq, ↓reduceIte]
  refine afin [0, 1] [aS 1 xs.length, aI (qF 1 65 0 xs.length xs).2.1, aB true] [rI xs, oI (qF 1 65 0 xs.length xs).1] (by simp) rfl (weak_of (by decide) (by simp [RS.slot, List.map_cons, List.map_nil, rowsLe, rowLe, slotsLe, tvLe, TV.ren, AV.ren, C.ren, Dat.ren, Row.ren, TV.hs, AV.hs, C.hs, Dat.hs, get_cons, get_nil, zipSlots, List.getD_cons_zero, List.getD_cons_succ, List.getD_nil, -List.getD_eq_getElem?_getD])) (by simp [rtv])
theorem sQuickSort_t (xs : List Int) (hx : xs.length ≤ 281474976710) (hv : validB xs = true) : ACalls Try.prog 26 [tS 0 xs.length] [] [rI xs] (fun t H => t = .tup [aS 1 xs.length, aI (qF 1 65 0 xs.length xs).2.1, aB true] ∧ H = [rI xs, oI (qF 1 65 0 xs.length xs).1]) := by
  have h64 := validB_len hv
  refine afun (fun _ => none) [2, 3, 4] 1 Try.func26 rfl rfl mix (by kernel_rfl) (by kernel_rfl) (by simp [Try.f26]) rfl (by simp [msOwn, ownAll, Row.own]) ?_
  simp (dsimp := false) only [go_sem, Nat.reduceAdd, Nat.reduceBEq, Nat.reduceEqDiff, Nat.reduceLT, Nat.reduceLeDiff, reduceCtorEq, ↓reduceIte]
  repeat (refine And.intro (by first | exact True.intro | omega | kernel_rfl | (simp only [List.length_set, List.length_append, List.length_take, List.length_replicate, List.length_cons, true_and, and_true, List.length_nil, tabR_length]; omega)) ?_)
  refine ⟨_, (l2List_l xs (by omega)).lift [0] (by decide) (by simp) (by simp [RS.slot, List.map_cons, List.map_nil, rowsLe, rowLe, slotsLe, tvLe, TV.ren, AV.ren, C.ren, Dat.ren, Row.ren, TV.hs, AV.hs, C.hs, Dat.hs, get_cons, get_nil, zipSlots, List.getD_cons_zero, List.getD_cons_succ, List.getD_nil, -List.getD_eq_getElem?_getD]) (by simp [RS.slot, List.map_cons, List.map_nil, rowsLe, rowLe, slotsLe, tvLe, TV.ren, AV.ren, C.ren, Dat.ren, Row.ren, TV.hs, AV.hs, C.hs, Dat.hs, get_cons, get_nil, zipSlots, List.getD_cons_zero, List.getD_cons_succ, List.getD_nil, -List.getD_eq_getElem?_getD]) (by simp [RS.slot, List.map_cons, List.map_nil, rowsLe, rowLe, slotsLe, tvLe, TV.ren, AV.ren, C.ren, Dat.ren, Row.ren, TV.hs, AV.hs, C.hs, Dat.hs, get_cons, get_nil, zipSlots, List.getD_cons_zero, List.getD_cons_succ, List.getD_nil, -List.getD_eq_getElem?_getD]) rfl ?_⟩
  rintro _ _ ⟨rfl, rfl⟩
  refine ⟨by simp [ownIn, Row.own], ?_⟩
  simp (dsimp := false) only [hv, liftT, liftH, putBack, freshR, ownIn, Row.own, Row.ren, TV.ren, AV.ren, C.ren, Dat.ren, List.drop_succ_cons, List.drop_nil, List.getD_cons_zero, List.getD_cons_succ, List.getD_nil, go_sem, Nat.reduceAdd, Nat.reduceBEq, Nat.reduceEqDiff, Nat.reduceLT, Nat.reduceLeDiff, reduceCtorEq, ↓reduceIte]
  repeat (refine And.intro (by first | exact True.intro | omega | kernel_rfl | (simp only [List.length_set, List.length_append, List.length_take, List.length_replicate, List.length_cons, true_and, and_true, List.length_nil, tabR_length]; omega)) ?_)
  refine ⟨_, (l1Own_l xs hx).lift [0] (by decide) (by simp) (by simp [RS.slot, List.map_cons, List.map_nil, rowsLe, rowLe, slotsLe, tvLe, TV.ren, AV.ren, C.ren, Dat.ren, Row.ren, TV.hs, AV.hs, C.hs, Dat.hs, get_cons, get_nil, zipSlots, List.getD_cons_zero, List.getD_cons_succ, List.getD_nil, -List.getD_eq_getElem?_getD]) (by simp [RS.slot, List.map_cons, List.map_nil, rowsLe, rowLe, slotsLe, tvLe, TV.ren, AV.ren, C.ren, Dat.ren, Row.ren, TV.hs, AV.hs, C.hs, Dat.hs, get_cons, get_nil, zipSlots, List.getD_cons_zero, List.getD_cons_succ, List.getD_nil, -List.getD_eq_getElem?_getD]) (by simp [RS.slot, List.map_cons, List.map_nil, rowsLe, rowLe, slotsLe, tvLe, TV.ren, AV.ren, C.ren, Dat.ren, Row.ren, TV.hs, AV.hs, C.hs, Dat.hs, get_cons, get_nil, zipSlots, List.getD_cons_zero, List.getD_cons_succ, List.getD_nil, -List.getD_eq_getElem?_getD]) rfl ?_⟩
  rintro _ _ ⟨rfl, rfl⟩
  refine ⟨by simp [ownIn, Row.own], ?_⟩
  simp (dsimp := false) only [hv, liftT, liftH, putBack, freshR, ownIn, Row.own, Row.ren, TV.ren, AV.ren, C.ren, Dat.ren, List.drop_succ_cons, List.drop_nil, List.getD_cons_zero, List.getD_cons_succ, List.getD_nil, go_sem, Nat.reduceAdd, Nat.reduceBEq, Nat.reduceEqDiff, Nat.reduceLT, Nat.reduceLeDiff, reduceCtorEq, ↓reduceIte]
  repeat (refine And.intro (by first | exact True.intro | omega | kernel_rfl | (simp only [List.length_set, List.length_append, List.length_take, List.length_replicate, List.length_cons, true_and, and_true, List.length_nil, tabR_length]; omega)) ?_)
  refine ⟨_, (l7Quick_l xs.length 65 0 xs (by omega) (by omega) h64).lift [1] (by decide) (by simp) (by simp [RS.slot, List.map_cons, List.map_nil, rowsLe, rowLe, slotsLe, tvLe, TV.ren, AV.ren, C.ren, Dat.ren, Row.ren, TV.hs, AV.hs, C.hs, Dat.hs, get_cons, get_nil, zipSlots, List.getD_cons_zero, List.getD_cons_succ, List.getD_nil, -List.getD_eq_getElem?_getD]) (by simp [RS.slot, List.map_cons, List.map_nil, rowsLe, rowLe, slotsLe, tvLe, TV.ren, AV.ren, C.ren, Dat.ren, Row.ren, TV.hs, AV.hs, C.hs, Dat.hs, get_cons, get_nil, zipSlots, List.getD_cons_zero, List.getD_cons_succ, List.getD_nil, -List.getD_eq_getElem?_getD]) (by simp [RS.slot, List.map_cons, List.map_nil, rowsLe, rowLe, slotsLe, tvLe, TV.ren, AV.ren, C.ren, Dat.ren, Row.ren, TV.hs, AV.hs, C.hs, Dat.hs, get_cons, get_nil, zipSlots, List.getD_cons_zero, List.getD_cons_succ, List.getD_nil, -List.getD_eq_getElem?_getD]) rfl ?_⟩
  rintro _ _ ⟨rfl, rfl⟩
  refine ⟨by simp [ownIn, Row.own], ?_⟩
  simp (dsimp := false) only [hv, liftT, liftH, putBack, freshR, ownIn, Row.own, Row.ren, TV.ren, AV.ren, C.ren, Dat.ren, List.drop_succ_cons, List.drop_nil, List.getD_cons_zero, List.getD_cons_succ, List.getD_nil, go_sem, Nat.reduceAdd, Nat.reduceBEq, Nat.reduceEqDiff, Nat.reduceLT, Nat.reduceLeDiff, reduceCtorEq, ↓reduceIte]
  refine afin [0, 1] [aS 1 xs.length, aI (qF 1 65 0 xs.length xs).2.1, aB true] [rI xs, oI (qF 1 65 0 xs.length xs).1] (by simp) rfl (weak_of (by decide) (by simp [RS.slot, List.map_cons, List.map_nil, rowsLe, rowLe, slotsLe, tvLe, TV.ren, AV.ren, C.ren, Dat.ren, Row.ren, TV.hs, AV.hs, C.hs, Dat.hs, get_cons, get_nil, zipSlots, List.getD_cons_zero, List.getD_cons_succ, List.getD_nil, -List.getD_eq_getElem?_getD])) (by simp [rtv])
end Go.Proofs.Ytajohkbhiafnmaa
