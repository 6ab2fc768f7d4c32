/- Contracts: the permutation that sorts a list stably, its inverse, and what it is laid on. -/
import Derived.Test.YtlejmdbjckmfoaaCmp
import Derived.Test.YtlejmdbjckmfoaaPlPrm
import Derived.Test.YtlejmdbjckmfoaaStI
set_option linter.unusedSimpArgs false
set_option linter.unusedVariables false
set_option linter.unusedSectionVars false
namespace Go.Proofs.Ytlejmdbjckmfoaa
open Go Go.Ax
set_option maxRecDepth 10000
set_option maxHeartbeats 1000000

theorem cmpI_neg (a b : Int) : cmpI a b < 0 ↔ a < b := by unfold cmpI; split <;> (try split) <;> omega

theorem sortCl_l (ls zs : List Int) (x y : Int) (hx : 0 ≤ x ∧ x < ls.length) (hy : 0 ≤ y ∧ y < ls.length) (hN : ls.length ≤ 281474976710656) :
    ACalls Try.prog 88 [tI x, tI y, .a (.c (.ptr 2 0 0))] [] [rI zs, rI ls, bL ls.length] (fun t H => t = tI (cmpI (ky ls x) (ky ls y)) ∧ H = [rI zs, rI ls, bL ls.length]) := by
  refine afun (fun i => match i with | 1 => some ⟨[], .op 0 .now (.op 1 .held (.op 2 .held (.op 3 .now (.op 4 .now (.op 5 .held (.op 6 .held (.op 7 .now (.op 8 .only (.op 9 .held .nil)))))))))⟩ | _ => none) [5] 3 Try.func88 rfl rfl mix (by kernel_rfl) (by kernel_rfl) (by simp [Try.f88]) rfl (by simp [msOwn, ownAll, Row.own]) ?_
  simp (dsimp := false) only [go_sem, Nat.reduceAdd, Nat.reduceBEq, Nat.reduceEqDiff, Nat.reduceLT, Nat.reduceLeDiff, reduceCtorEq, ↓reduceIte]
  repeat (refine And.intro (by first | exact True.intro | omega | kernel_rfl | (simp only [List.length_set, List.length_append, List.length_take, List.length_replicate, List.length_cons, true_and, and_true, List.length_nil, tabR_length]; omega)) ?_)
  repeat (refine And.intro (by first | exact True.intro | omega | kernel_rfl | (simp only [List.length_set, List.length_append, List.length_take, List.length_replicate, List.length_cons, true_and, and_true, List.length_nil, tabR_length]; omega)) ?_)
  refine ⟨_, And.intro ?_ ((compare_l (ky ls x) (ky ls y)).lift [] (by decide) (by simp) (by simp [RS.slot, List.map_cons, List.map_nil, rowsLe, rowLe, slotsLe, tvLe, TV.ren, AV.ren, C.ren, Dat.ren, Row.ren, TV.hs, AV.hs, C.hs, Dat.hs, get_cons, get_nil, zipSlots, List.getD_cons_zero, List.getD_cons_succ, List.getD_nil, -List.getD_eq_getElem?_getD]) (by simp [RS.slot, List.map_cons, List.map_nil, rowsLe, rowLe, slotsLe, tvLe, TV.ren, AV.ren, C.ren, Dat.ren, Row.ren, TV.hs, AV.hs, C.hs, Dat.hs, get_cons, get_nil, zipSlots, List.getD_cons_zero, List.getD_cons_succ, List.getD_nil, -List.getD_eq_getElem?_getD]) (by simp [RS.slot, List.map_cons, List.map_nil, rowsLe, rowLe, slotsLe, tvLe, TV.ren, AV.ren, C.ren, Dat.ren, Row.ren, TV.hs, AV.hs, C.hs, Dat.hs, get_cons, get_nil, zipSlots, List.getD_cons_zero, List.getD_cons_succ, List.getD_nil, -List.getD_eq_getElem?_getD]) rfl ?_)⟩
  · simp [msIn]
  rintro _ _ ⟨rfl, rfl⟩
  refine ⟨by simp [ownIn, Row.own], ?_⟩
  simp (dsimp := false) only [Int.toNat_natCast, liftT, liftH, putBack, freshR, ownIn, Row.own, Row.ren, TV.ren, AV.ren, C.ren, Dat.ren, List.drop_succ_cons, List.drop_nil, List.getD_cons_zero, List.getD_cons_succ, List.getD_nil, go_sem, Nat.reduceAdd, Nat.reduceBEq, Nat.reduceEqDiff, Nat.reduceLT, Nat.reduceLeDiff, reduceCtorEq, ↓reduceIte]
  refine afin [0, 1, 2] [aI (cmpI (ky ls x) (ky ls y))] [rI zs, rI ls, bL ls.length] (by simp) rfl (weak_of (by decide) (by simp [RS.slot, List.map_cons, List.map_nil, rowsLe, rowLe, slotsLe, tvLe, TV.ren, AV.ren, C.ren, Dat.ren, Row.ren, TV.hs, AV.hs, C.hs, Dat.hs, get_cons, get_nil, zipSlots, List.getD_cons_zero, List.getD_cons_succ, List.getD_nil, -List.getD_eq_getElem?_getD])) (by simp [rtv])

/-- The box of a captured list, own. -/
abbrev oL (n : Nat) : Row := .r true (.cells 1 [.sl 1 0 0 n])
theorem sorting_l (ls : List Int) (hN : ls.length ≤ 17179869184) : ACalls Try.prog 52 [tS 0 ls.length] [] [rI ls] (fun t H => t = tS 1 ls.length ∧ H = [rI ls, oI (prm ls)]) := by
  have hsrt := sortStable_i ls (κ := ky ls) (ok := fun x => 0 ≤ x ∧ x < ls.length) (cv := fun x y => cmpI (ky ls x) (ky ls y)) (fun x y _ _ => cmpI_neg _ _) 88 (fun zs x y hx hy => sortCl_l ls zs x y hx hy (by omega)) (idL ls.length) (by rw [idL_len]; omega) (fun i hi => by
    rw [idL_len] at hi
    rw [idL_get hi]; omega)
  rw [idL_len] at hsrt
  refine afun (fun _ => none) [2] 1 Try.func52 rfl rfl mix (by kernel_rfl) (by kernel_rfl) (by simp [Try.f52]) rfl (by simp [msOwn, ownAll, Row.own]) ?_
  simp (dsimp := false) only [go_sem, Nat.reduceAdd, Nat.reduceBEq, Nat.reduceEqDiff, Nat.reduceLT, Nat.reduceLeDiff, reduceCtorEq, ↓reduceIte]
  refine aloop (σ := Nat) (fun i => ([(1, .a (.c (.ptr 1 0 0))), (3, tS 2 i), (7, tI ls.length), (8, tI i)], [rI ls, oL ls.length, oI (idL i)])) (fun i => i ≤ ls.length) (fun i => ls.length - i) 0 [0, 1, 2] (by omega) (weak_of (by decide) (by simp [RS.slot, List.map_cons, List.map_nil, rowsLe, rowLe, slotsLe, tvLe, TV.ren, AV.ren, C.ren, Dat.ren, Row.ren, TV.hs, AV.hs, C.hs, Dat.hs, get_cons, get_nil, zipSlots, List.getD_cons_zero, List.getD_cons_succ, List.getD_nil, -List.getD_eq_getElem?_getD, idL])) ?_
  intro i hi
  have hl := idL_len i
  by_cases hc : i < ls.length
  · have hcd : decide ((i : Int) < ls.length) = true := by simp; omega
    have e := idL_succ i
    simp (dsimp := false) only [hcd, hl, go_sem, Nat.reduceAdd, Nat.reduceBEq, Nat.reduceEqDiff, Nat.reduceLT, Nat.reduceLeDiff, reduceCtorEq, ↓reduceIte]
    repeat (refine And.intro (by first | exact True.intro | omega | kernel_rfl | (simp only [List.length_set, List.length_append, List.length_take, List.length_replicate, List.length_cons, true_and, and_true, List.length_nil, tabR_length]; omega)) ?_)
    refine ⟨i + 1, [0, 1, 4], ?_, weak_of (by decide) (by simp [RS.slot, List.map_cons, List.map_nil, rowsLe, rowLe, slotsLe, tvLe, TV.ren, AV.ren, C.ren, Dat.ren, Row.ren, TV.hs, AV.hs, C.hs, Dat.hs, get_cons, get_nil, zipSlots, List.getD_cons_zero, List.getD_cons_succ, List.getD_nil, -List.getD_eq_getElem?_getD, e])⟩
    omega
  · have hcd : decide ((i : Int) < ls.length) = false := by simp; omega
    have e : i = ls.length := by omega
    subst e
    simp (dsimp := false) only [hcd, go_sem, Nat.reduceAdd, Nat.reduceBEq, Nat.reduceEqDiff, Nat.reduceLT, Nat.reduceLeDiff, reduceCtorEq, ↓reduceIte]
    repeat (refine And.intro (by first | exact True.intro | omega | kernel_rfl | (simp only [List.length_set, List.length_append, List.length_take, List.length_replicate, List.length_cons, true_and, and_true, List.length_nil, tabR_length]; omega)) ?_)
    refine ⟨_, (hsrt).lift [2, 0, 1] (by decide) (by simp) (by simp [RS.slot, List.map_cons, List.map_nil, rowsLe, rowLe, slotsLe, tvLe, TV.ren, AV.ren, C.ren, Dat.ren, Row.ren, TV.hs, AV.hs, C.hs, Dat.hs, get_cons, get_nil, zipSlots, List.getD_cons_zero, List.getD_cons_succ, List.getD_nil, -List.getD_eq_getElem?_getD]) (by simp [RS.slot, List.map_cons, List.map_nil, rowsLe, rowLe, slotsLe, tvLe, TV.ren, AV.ren, C.ren, Dat.ren, Row.ren, TV.hs, AV.hs, C.hs, Dat.hs, get_cons, get_nil, zipSlots, List.getD_cons_zero, List.getD_cons_succ, List.getD_nil, -List.getD_eq_getElem?_getD]) (by simp [RS.slot, List.map_cons, List.map_nil, rowsLe, rowLe, slotsLe, tvLe, TV.ren, AV.ren, C.ren, Dat.ren, Row.ren, TV.hs, AV.hs, C.hs, Dat.hs, get_cons, get_nil, zipSlots, List.getD_cons_zero, List.getD_cons_succ, List.getD_nil, -List.getD_eq_getElem?_getD]) rfl ?_⟩
    rintro _ _ ⟨rfl, rfl⟩
    refine ⟨by simp [ownIn, Row.own], ?_⟩
    simp (dsimp := false) only [liftT, liftH, putBack, freshR, ownIn, Row.own, Row.ren, TV.ren, AV.ren, C.ren, Dat.ren, List.drop_succ_cons, List.drop_nil, List.getD_cons_zero, List.getD_cons_succ, List.getD_nil, go_sem, Nat.reduceAdd, Nat.reduceBEq, Nat.reduceEqDiff, Nat.reduceLT, Nat.reduceLeDiff, reduceCtorEq, ↓reduceIte]
    refine afin [0, 2] [aS 1 ls.length] [rI ls, oI (prm ls)] (by simp) rfl (weak_of (by decide) (by simp [RS.slot, List.map_cons, List.map_nil, rowsLe, rowLe, slotsLe, tvLe, TV.ren, AV.ren, C.ren, Dat.ren, Row.ren, TV.hs, AV.hs, C.hs, Dat.hs, get_cons, get_nil, zipSlots, List.getD_cons_zero, List.getD_cons_succ, List.getD_nil, -List.getD_eq_getElem?_getD, prm])) (by simp [rtv, prm, -List.getD_eq_getElem?_getD])

theorem inverse_l (ls : List Int) (hN : ls.length ≤ 17179869184) : ACalls Try.prog 67 [tS 0 ls.length] [] [rI (prm ls)] (fun t H => t = tS 1 ls.length ∧ H = [rI (prm ls), oI (rkL ls)]) := by
  have hpl := prm_len ls
  refine afun (fun _ => none) [2] 1 Try.func67 rfl rfl mix (by kernel_rfl) (by kernel_rfl) (by simp [Try.f67]) rfl (by simp [msOwn, ownAll, Row.own]) ?_
  simp (dsimp := false) only [go_sem, Nat.reduceAdd, Nat.reduceBEq, Nat.reduceEqDiff, Nat.reduceLT, Nat.reduceLeDiff, reduceCtorEq, ↓reduceIte]
  repeat (refine And.intro (by first | exact True.intro | omega | kernel_rfl | (simp only [List.length_set, List.length_append, List.length_take, List.length_replicate, List.length_cons, true_and, and_true, List.length_nil, tabR_length]; omega)) ?_)
  refine aloop (σ := Nat × List Int) (fun s => ([(3, tS 1 ls.length), (9, tS 0 ls.length), (10, tI ls.length), (11, tI s.1)], [rI (prm ls), oI s.2])) (fun s => s.1 ≤ ls.length ∧ s.2.length = ls.length ∧ ∀ r, r < s.1 → s.2.getD ((prm ls).getD r 0).toNat 0 = (r : Int)) (fun s => ls.length - s.1) (0, List.replicate ls.length 0) [0, 1] ⟨by omega, by simp, fun r h => by dsimp only at h; omega⟩ (weak_of (by decide) (by simp [RS.slot, List.map_cons, List.map_nil, rowsLe, rowLe, slotsLe, tvLe, TV.ren, AV.ren, C.ren, Dat.ren, Row.ren, TV.hs, AV.hs, C.hs, Dat.hs, get_cons, get_nil, zipSlots, List.getD_cons_zero, List.getD_cons_succ, List.getD_nil, -List.getD_eq_getElem?_getD, Int.toNat_natCast])) ?_
  rintro ⟨i, zs⟩ ⟨hi, hzl, hz⟩
  simp only at hi hzl hz
  by_cases hc : i < ls.length
  · have hcd : decide ((i : Int) < ls.length) = true := by simp; omega
    have hp := prm_get hc
    simp (dsimp := false) only [hcd, hpl, Int.toNat_natCast, go_sem, Nat.reduceAdd, Nat.reduceBEq, Nat.reduceEqDiff, Nat.reduceLT, Nat.reduceLeDiff, reduceCtorEq, ↓reduceIte]
    repeat (refine And.intro (by first | exact True.intro | omega | kernel_rfl | (simp only [List.length_set, List.length_append, List.length_take, List.length_replicate, List.length_cons, true_and, and_true, List.length_nil, tabR_length]; omega)) ?_)
    refine ⟨(i + 1, zs.set ((prm ls).getD i 0).toNat (i : Int)), [0, 1], ?_, weak_of (by decide) (by simp [RS.slot, List.map_cons, List.map_nil, rowsLe, rowLe, slotsLe, tvLe, TV.ren, AV.ren, C.ren, Dat.ren, Row.ren, TV.hs, AV.hs, C.hs, Dat.hs, get_cons, get_nil, zipSlots, List.getD_cons_zero, List.getD_cons_succ, List.getD_nil, -List.getD_eq_getElem?_getD])⟩
    dsimp only
    refine ⟨⟨by omega, by simp [hzl], fun r hr => ?_⟩, by omega⟩
    by_cases e : r = i
    · subst e
      simp only [List.getD_eq_getElem?_getD (l := zs.set _ _)]
      rw [List.getElem?_set_self (by omega)]; rfl
    · have hne : ((prm ls).getD i 0).toNat ≠ ((prm ls).getD r 0).toNat := fun h => e (prm_inj (ls := ls) (q := r) (r := i) (by omega) (by omega) (by have h1 := prm_get (ls := ls) (r := r) (by omega); omega))
      simp only [List.getD_eq_getElem?_getD (l := zs.set _ _)]
      rw [List.getElem?_set_ne hne, ← List.getD_eq_getElem?_getD]
      exact hz r (by omega)
  · have hcd : decide ((i : Int) < ls.length) = false := by simp; omega
    have e : i = ls.length := by omega
    subst e
    have hr := inv_rk hzl hz
    subst hr
    simp (dsimp := false) only [hcd, go_sem, Nat.reduceAdd, Nat.reduceBEq, Nat.reduceEqDiff, Nat.reduceLT, Nat.reduceLeDiff, reduceCtorEq, ↓reduceIte]
    refine afin [0, 1] [aS 1 ls.length] [rI (prm ls), oI (rkL ls)] (by simp) rfl (weak_of (by decide) (by simp [RS.slot, List.map_cons, List.map_nil, rowsLe, rowLe, slotsLe, tvLe, TV.ren, AV.ren, C.ren, Dat.ren, Row.ren, TV.hs, AV.hs, C.hs, Dat.hs, get_cons, get_nil, zipSlots, List.getD_cons_zero, List.getD_cons_succ, List.getD_nil, -List.getD_eq_getElem?_getD])) (by simp [rtv])

theorem apply_l (ps ls : List Int) (k : Nat) (hk : k ≤ ps.length) (hok : ∀ i, i < ps.length → 0 ≤ ps.getD i 0 ∧ ps.getD i 0 < ls.length) (hN : ps.length ≤ 17179869184) :
    ACalls Try.prog 53 [tS 0 k, tS 1 ls.length] [] [rI ps, rI ls] (fun t H => t = tS 2 k ∧ H = [rI ps, rI ls, oI ((ps.take k).map (ky ls))]) := by
  refine afun (fun _ => none) [4] 2 Try.func53 rfl rfl mix (by kernel_rfl) (by kernel_rfl) (by simp [Try.f53]) rfl (by simp [msOwn, ownAll, Row.own]) ?_
  simp (dsimp := false) only [go_sem, Nat.reduceAdd, Nat.reduceBEq, Nat.reduceEqDiff, Nat.reduceLT, Nat.reduceLeDiff, reduceCtorEq, ↓reduceIte]
  refine aloop (σ := Nat) (fun i => ([(1, tS 1 ls.length), (5, tS 2 i), (9, tS 0 k), (10, tI k), (11, tI i)], [rI ps, rI ls, oI ((ps.take i).map (ky ls))])) (fun i => i ≤ k) (fun i => k - i) 0 [0, 1, 2] (by omega) (weak_of (by decide) (by simp [RS.slot, List.map_cons, List.map_nil, rowsLe, rowLe, slotsLe, tvLe, TV.ren, AV.ren, C.ren, Dat.ren, Row.ren, TV.hs, AV.hs, C.hs, Dat.hs, get_cons, get_nil, zipSlots, List.getD_cons_zero, List.getD_cons_succ, List.getD_nil, -List.getD_eq_getElem?_getD])) ?_
  intro i hi
  have hl : ((ps.take i).map (ky ls)).length = i := by simp; omega
  by_cases hc : i < k
  · have hcd : decide ((i : Int) < k) = true := by simp; omega
    have hp := hok i (by omega)
    have e : (ps.take (i + 1)).map (ky ls) = (ps.take i).map (ky ls) ++ [ky ls (ps.getD i 0)] := by
      rw [List.take_add_one, List.map_append]
      simp [List.getD_eq_getElem?_getD, show i < ps.length by omega]
    simp (dsimp := false) only [hcd, hl, Int.toNat_natCast, go_sem, Nat.reduceAdd, Nat.reduceBEq, Nat.reduceEqDiff, Nat.reduceLT, Nat.reduceLeDiff, reduceCtorEq, ↓reduceIte]
    repeat (refine And.intro (by first | exact True.intro | omega | kernel_rfl | (simp only [List.length_set, List.length_append, List.length_take, List.length_replicate, List.length_cons, true_and, and_true, List.length_nil, tabR_length]; omega)) ?_)
    refine ⟨i + 1, [0, 1, 4], ?_, weak_of (by decide) (by simp [RS.slot, List.map_cons, List.map_nil, rowsLe, rowLe, slotsLe, tvLe, TV.ren, AV.ren, C.ren, Dat.ren, Row.ren, TV.hs, AV.hs, C.hs, Dat.hs, get_cons, get_nil, zipSlots, List.getD_cons_zero, List.getD_cons_succ, List.getD_nil, -List.getD_eq_getElem?_getD, e])⟩
    omega
  · have hcd : decide ((i : Int) < k) = false := by simp; omega
    have e : i = k := by omega
    subst e
    simp (dsimp := false) only [hcd, go_sem, Nat.reduceAdd, Nat.reduceBEq, Nat.reduceEqDiff, Nat.reduceLT, Nat.reduceLeDiff, reduceCtorEq, ↓reduceIte]
    refine afin [0, 1, 2] [aS 2 i] [rI ps, rI ls, oI ((ps.take i).map (ky ls))] (by simp) rfl (weak_of (by decide) (by simp [RS.slot, List.map_cons, List.map_nil, rowsLe, rowLe, slotsLe, tvLe, TV.ren, AV.ren, C.ren, Dat.ren, Row.ren, TV.hs, AV.hs, C.hs, Dat.hs, get_cons, get_nil, zipSlots, List.getD_cons_zero, List.getD_cons_succ, List.getD_nil, -List.getD_eq_getElem?_getD])) (by simp [rtv])
end Go.Proofs.Ytlejmdbjckmfoaa
