/- Contracts: selection by splitting. -/
import Derived.Test.YtlejmdbjckmfoaaPlSel
set_option linter.unusedSimpArgs false
set_option linter.unusedVariables false
set_option linter.unusedSectionVars false
namespace Go.Proofs.Ytlejmdbjckmfoaa
open Go Go.Ax
set_option maxRecDepth 10000
set_option maxHeartbeats 1000000

def rankOk (xs : List Int) (k : Int) : Bool := validB xs && inB k 0 ((xs.length : Int) - 1)
theorem rankOk_t {xs : List Int} {k : Int} (h : rankOk xs k = true) : validB xs = true ∧ ∃ K : Nat, k = (K : Int) ∧ K < xs.length := by
  simp only [rankOk, Bool.and_eq_true] at h
  have h2 := h.2
  simp only [inB, Bool.and_eq_true, decide_eq_true_eq] at h2
  exact ⟨h.1, k.toNat, by omega, by omega⟩

theorem isRank_l (xs : List Int) (k : Int) (hx : xs.length ≤ 281474976710656) : ACalls Try.prog 74 [tS 0 xs.length, tI k] [] [rI xs] (fun t H => t = tB (rankOk xs k) ∧ H = [rI xs]) := by
  refine afun (fun _ => none) [4] 1 Try.func74 rfl rfl mix (by kernel_rfl) (by kernel_rfl) (by simp [Try.f74]) rfl (by simp [msOwn, ownAll, Row.own]) ?_
  simp (dsimp := false) only [go_sem, Nat.reduceAdd, Nat.reduceBEq, Nat.reduceEqDiff, Nat.reduceLT, Nat.reduceLeDiff, reduceCtorEq, ↓reduceIte]
  repeat (refine And.intro (by first | exact True.intro | omega | kernel_rfl | (simp only [List.length_set, List.length_append, List.length_take, List.length_replicate, List.length_cons, true_and, and_true, List.length_nil, tabR_length]; omega)) ?_)
  refine ⟨_, (isValidList_l xs hx).lift [0] (by decide) (by simp) (by simp [rowsLe, rowLe, slotsLe, tvLe, TV.ren, AV.ren, C.ren, Dat.ren, Row.ren, TV.hs, AV.hs, C.hs, Dat.hs, get_cons, get_nil, zipSlots, List.getD_cons_zero, List.getD_cons_succ, List.getD_nil, -List.getD_eq_getElem?_getD]) (by simp [rowsLe, rowLe, slotsLe, tvLe, TV.ren, AV.ren, C.ren, Dat.ren, Row.ren, TV.hs, AV.hs, C.hs, Dat.hs, get_cons, get_nil, zipSlots, List.getD_cons_zero, List.getD_cons_succ, List.getD_nil, -List.getD_eq_getElem?_getD]) (by simp [rowsLe, rowLe, slotsLe, tvLe, TV.ren, AV.ren, C.ren, Dat.ren, Row.ren, TV.hs, AV.hs, C.hs, Dat.hs, get_cons, get_nil, zipSlots, List.getD_cons_zero, List.getD_cons_succ, List.getD_nil, -List.getD_eq_getElem?_getD]) rfl ?_⟩
  rintro _ _ ⟨rfl, rfl⟩
  refine ⟨by simp [ownIn, Row.own], ?_⟩
  simp (dsimp := false) only [liftT, liftH, putBack, freshR, ownIn, Row.own, Row.ren, TV.ren, AV.ren, C.ren, Dat.ren, List.drop_succ_cons, List.drop_nil, List.getD_cons_zero, List.getD_cons_succ, List.getD_nil, go_sem, Nat.reduceAdd, Nat.reduceBEq, Nat.reduceEqDiff, Nat.reduceLT, Nat.reduceLeDiff, reduceCtorEq, ↓reduceIte]
  cases hv : validB xs
  · simp (dsimp := false) only [go_sem, Nat.reduceAdd, Nat.reduceBEq, Nat.reduceEqDiff, Nat.reduceLT, Nat.reduceLeDiff, reduceCtorEq, ↓reduceIte]
    refine afin [0] [aB false] [rI xs] (by simp) rfl (weak_of (by decide) (by simp [rowsLe, rowLe, slotsLe, tvLe, TV.ren, AV.ren, C.ren, Dat.ren, Row.ren, TV.hs, AV.hs, C.hs, Dat.hs, get_cons, get_nil, zipSlots, List.getD_cons_zero, List.getD_cons_succ, List.getD_nil, -List.getD_eq_getElem?_getD, rankOk, hv])) (by simp [rtv, rankOk, hv, -List.getD_eq_getElem?_getD])
  · simp (dsimp := false) only [go_sem, Nat.reduceAdd, Nat.reduceBEq, Nat.reduceEqDiff, Nat.reduceLT, Nat.reduceLeDiff, reduceCtorEq, ↓reduceIte]
    repeat (refine And.intro (by first | exact True.intro | omega | kernel_rfl | (simp only [List.length_set, List.length_append, List.length_take, List.length_replicate, List.length_cons, true_and, and_true, List.length_nil, tabR_length]; omega)) ?_)
    refine ⟨_, (in_l k 0 ((xs.length : Int) - 1)).lift [] (by decide) (by simp) (by simp [rowsLe, rowLe, slotsLe, tvLe, TV.ren, AV.ren, C.ren, Dat.ren, Row.ren, TV.hs, AV.hs, C.hs, Dat.hs, get_cons, get_nil, zipSlots, List.getD_cons_zero, List.getD_cons_succ, List.getD_nil, -List.getD_eq_getElem?_getD]) (by simp [rowsLe, rowLe, slotsLe, tvLe, TV.ren, AV.ren, C.ren, Dat.ren, Row.ren, TV.hs, AV.hs, C.hs, Dat.hs, get_cons, get_nil, zipSlots, List.getD_cons_zero, List.getD_cons_succ, List.getD_nil, -List.getD_eq_getElem?_getD]) (by simp [rowsLe, rowLe, slotsLe, tvLe, TV.ren, AV.ren, C.ren, Dat.ren, Row.ren, TV.hs, AV.hs, C.hs, Dat.hs, get_cons, get_nil, zipSlots, List.getD_cons_zero, List.getD_cons_succ, List.getD_nil, -List.getD_eq_getElem?_getD]) rfl ?_⟩
    rintro _ _ ⟨rfl, rfl⟩
    refine ⟨by simp [ownIn, Row.own], ?_⟩
    simp (dsimp := false) only [liftT, liftH, putBack, freshR, ownIn, Row.own, Row.ren, TV.ren, AV.ren, C.ren, Dat.ren, List.drop_succ_cons, List.drop_nil, List.getD_cons_zero, List.getD_cons_succ, List.getD_nil, go_sem, Nat.reduceAdd, Nat.reduceBEq, Nat.reduceEqDiff, Nat.reduceLT, Nat.reduceLeDiff, reduceCtorEq, ↓reduceIte]
    refine afin [0] [aB (inB k 0 ((xs.length : Int) - 1))] [rI xs] (by simp) rfl (weak_of (by decide) (by simp [rowsLe, rowLe, slotsLe, tvLe, TV.ren, AV.ren, C.ren, Dat.ren, Row.ren, TV.hs, AV.hs, C.hs, Dat.hs, get_cons, get_nil, zipSlots, List.getD_cons_zero, List.getD_cons_succ, List.getD_nil, -List.getD_eq_getElem?_getD, rankOk, hv])) (by simp [rtv, rankOk, hv, -List.getD_eq_getElem?_getD])

theorem three_step {xs : List Int} {x : Int} {k : Nat} : (qL x (xs.getD k 0) = true ∧ qM x x (xs.getD k 0) = false ∧ qG x x (xs.getD k 0) = false ∧ decide (xs.getD k 0 < x) = true) ∨
    (qL x (xs.getD k 0) = false ∧ qM x x (xs.getD k 0) = false ∧ qG x x (xs.getD k 0) = true ∧ decide (xs.getD k 0 < x) = false ∧ decide (x < xs.getD k 0) = true) ∨
    (qL x (xs.getD k 0) = false ∧ qM x x (xs.getD k 0) = true ∧ qG x x (xs.getD k 0) = false ∧ decide (xs.getD k 0 < x) = false ∧ decide (x < xs.getD k 0) = false) := by
  unfold qL qM qG
  cases decide (xs.getD k 0 < x) <;> cases decide (x < xs.getD k 0) <;> simp

theorem split_l (xs : List Int) (x : Int) (h64 : xs.length ≤ 64) : ACalls Try.prog 75 [tS 0 xs.length, tI x] [] [rI xs] (fun t H => t = .tup [aS 1 (lessL x xs).length, aS 2 (sameL x xs).length, aS 3 (moreL x xs).length] ∧ H = [rI xs, oI (lessL x xs), oI (sameL x xs), oI (moreL x xs)]) := by
  unfold lessL sameL moreL
  rw [← selF_all (qL x) xs, ← selF_all (qM x x) xs, ← selF_all (qG x x) xs]
  refine afun (fun _ => none) [4, 5, 6] 1 Try.func75 rfl rfl mix (by kernel_rfl) (by kernel_rfl) (by simp [Try.f75]) rfl (by simp [msOwn, ownAll, Row.own]) ?_
  simp (dsimp := false) only [go_sem, Nat.reduceAdd, Nat.reduceBEq, Nat.reduceEqDiff, Nat.reduceLT, Nat.reduceLeDiff, reduceCtorEq, ↓reduceIte]
  refine aloop (σ := Nat) (fun k => ([(1, tI x), (7, tS 1 (selF (qL x) xs k).length), (8, tS 2 (selF (qM x x) xs k).length), (9, tS 3 (selF (qG x x) xs k).length), (15, tS 0 xs.length), (16, tI xs.length), (17, tI k)], [rI xs, oI (selF (qL x) xs k), oI (selF (qM x x) xs k), oI (selF (qG x x) xs k)])) (fun k => k ≤ xs.length) (fun k => xs.length - k) 0 [0, 1, 2, 3] (by omega) (weak_of (by decide) (by simp [rowsLe, rowLe, slotsLe, tvLe, TV.ren, AV.ren, C.ren, Dat.ren, Row.ren, TV.hs, AV.hs, C.hs, Dat.hs, get_cons, get_nil, zipSlots, List.getD_cons_zero, List.getD_cons_succ, List.getD_nil, -List.getD_eq_getElem?_getD, selF])) ?_
  intro k hk
  have b1 := selF_len (qL x) xs k
  have b2 := selF_len (qM x x) xs k
  have b3 := selF_len (qG x x) xs k
  by_cases hc : k < xs.length
  · have hcd : decide ((k : Int) < xs.length) = true := by simp; omega
    rcases three_step (xs := xs) (x := x) (k := k) with ⟨a1, a2, a3, a4⟩ | ⟨a1, a2, a3, a4, a5⟩ | ⟨a1, a2, a3, a4, a5⟩
    · have e1 := selF_t a1
      have e2 := selF_f a2
      have e3 := selF_f a3
      simp (dsimp := false) only [hcd, a4, go_sem, Nat.reduceAdd, Nat.reduceBEq, Nat.reduceEqDiff, Nat.reduceLT, Nat.reduceLeDiff, reduceCtorEq, ↓reduceIte]
      repeat (refine And.intro (by first | exact True.intro | omega | kernel_rfl | (simp only [List.length_set, List.length_append, List.length_take, List.length_replicate, List.length_cons, true_and, and_true, List.length_nil, tabR_length]; omega)) ?_)
      refine ⟨k + 1, [0, 5, 2, 3], ?_, weak_of (by decide) (by simp [rowsLe, rowLe, slotsLe, tvLe, TV.ren, AV.ren, C.ren, Dat.ren, Row.ren, TV.hs, AV.hs, C.hs, Dat.hs, get_cons, get_nil, zipSlots, List.getD_cons_zero, List.getD_cons_succ, List.getD_nil, -List.getD_eq_getElem?_getD, e1, e2, e3])⟩
      omega
    · have e1 := selF_f a1
      have e2 := selF_f a2
      have e3 := selF_t a3
      simp (dsimp := false) only [hcd, a4, a5, go_sem, Nat.reduceAdd, Nat.reduceBEq, Nat.reduceEqDiff, Nat.reduceLT, Nat.reduceLeDiff, reduceCtorEq, ↓reduceIte]
      repeat (refine And.intro (by first | exact True.intro | omega | kernel_rfl | (simp only [List.length_set, List.length_append, List.length_take, List.length_replicate, List.length_cons, true_and, and_true, List.length_nil, tabR_length]; omega)) ?_)
      refine ⟨k + 1, [0, 1, 2, 5], ?_, weak_of (by decide) (by simp [rowsLe, rowLe, slotsLe, tvLe, TV.ren, AV.ren, C.ren, Dat.ren, Row.ren, TV.hs, AV.hs, C.hs, Dat.hs, get_cons, get_nil, zipSlots, List.getD_cons_zero, List.getD_cons_succ, List.getD_nil, -List.getD_eq_getElem?_getD, e1, e2, e3])⟩
      omega
    · have e1 := selF_f a1
      have e2 := selF_t a2
      have e3 := selF_f a3
      simp (dsimp := false) only [hcd, a4, a5, go_sem, Nat.reduceAdd, Nat.reduceBEq, Nat.reduceEqDiff, Nat.reduceLT, Nat.reduceLeDiff, reduceCtorEq, ↓reduceIte]
      repeat (refine And.intro (by first | exact True.intro | omega | kernel_rfl | (simp only [List.length_set, List.length_append, List.length_take, List.length_replicate, List.length_cons, true_and, and_true, List.length_nil, tabR_length]; omega)) ?_)
      refine ⟨k + 1, [0, 1, 5, 3], ?_, weak_of (by decide) (by simp [rowsLe, rowLe, slotsLe, tvLe, TV.ren, AV.ren, C.ren, Dat.ren, Row.ren, TV.hs, AV.hs, C.hs, Dat.hs, get_cons, get_nil, zipSlots, List.getD_cons_zero, List.getD_cons_succ, List.getD_nil, -List.getD_eq_getElem?_getD, e1, e2, e3])⟩
      omega
  · have hcd : decide ((k : Int) < xs.length) = false := by simp; omega
    have ek : k = xs.length := by omega
    subst ek
    simp (dsimp := false) only [hcd, go_sem, Nat.reduceAdd, Nat.reduceBEq, Nat.reduceEqDiff, Nat.reduceLT, Nat.reduceLeDiff, reduceCtorEq, ↓reduceIte]
    refine afin [0, 1, 2, 3] [aS 1 (selF (qL x) xs xs.length).length, aS 2 (selF (qM x x) xs xs.length).length, aS 3 (selF (qG x x) xs xs.length).length] [rI xs, oI (selF (qL x) xs xs.length), oI (selF (qM x x) xs xs.length), oI (selF (qG x x) xs xs.length)] (by simp) rfl (weak_of (by decide) (by simp [rowsLe, rowLe, slotsLe, tvLe, TV.ren, AV.ren, C.ren, Dat.ren, Row.ren, TV.hs, AV.hs, C.hs, Dat.hs, get_cons, get_nil, zipSlots, List.getD_cons_zero, List.getD_cons_succ, List.getD_nil, -List.getD_eq_getElem?_getD])) (by simp [rtv])

/-- The list at hand: the one that came in, or one's own. -/
def curV (xs : List Int) : Option (List Int) → TV
  | none => tS 0 xs.length
  | some ys => tS 1 ys.length
def curH (xs : List Int) : Option (List Int) → Hp
  | none => [rI xs]
  | some ys => [rI xs, oI ys]

theorem selectBy_l (ch : List Int → Int) (g : FuncId) (hg : ∀ ys : List Int, 1 ≤ ys.length → ys.length ≤ 64 → ACalls Try.prog g [tS 0 ys.length] [] [rI ys] (fun t H => t = tI (ch ys) ∧ H = [rI ys]))
    (hch : ∀ ys : List Int, 1 ≤ ys.length → ch ys ∈ ys) (xs : List Int) (h64 : xs.length ≤ 64) (K : Nat) (hK : K < xs.length) :
    ACalls Try.prog 77 [tS 0 xs.length, tI K, tF g []] [] [rI xs] (fun t H => t = .tup [aI (selB ch xs.length xs K).1, aI (selB ch xs.length xs K).2.1, aI (selB ch xs.length xs K).2.2] ∧ H = [rI xs]) := by
  obtain ⟨T, hT⟩ : ∃ T, T = selB ch xs.length xs K := ⟨_, rfl⟩
  have hTb : T.2.1 ≤ xs.length ∧ T.2.2 ≤ xs.length * 64 := by rw [hT]; exact selB_bd ch _ _ _ h64
  rw [← hT]
  refine afun (fun _ => none) [6, 7, 8] 1 Try.func77 rfl rfl mix (by kernel_rfl) (by kernel_rfl) (by simp [Try.f77]) rfl (by simp [msOwn, ownAll, Row.own]) ?_
  simp (dsimp := false) only [go_sem, Nat.reduceAdd, Nat.reduceBEq, Nat.reduceEqDiff, Nat.reduceLT, Nat.reduceLeDiff, reduceCtorEq, ↓reduceIte]
  refine aloop (σ := Option (List Int) × Nat × Nat × Nat × Nat) (fun s => ([(0, curV xs s.1), (1, tI s.2.2.1), (2, tF g []), (9, tI s.2.2.2.1), (10, tI s.2.2.2.2)], curH xs s.1)) (fun s => (s.1.getD xs).length ≤ 64 ∧ s.2.2.1 < (s.1.getD xs).length ∧ (s.1.getD xs).length ≤ s.2.1 ∧ s.2.2.2.2 + (selB ch s.2.1 (s.1.getD xs) s.2.2.1).2.1 = T.2.1 + 1 ∧ s.2.2.2.1 + (selB ch s.2.1 (s.1.getD xs) s.2.2.1).2.2 = T.2.2 ∧ (selB ch s.2.1 (s.1.getD xs) s.2.2.1).1 = T.1) (fun s => s.2.1) (none, xs.length, K, 0, 1) [0] ⟨h64, hK, Nat.le_refl _, by rw [hT]; simp; omega, by rw [hT]; simp, by rw [hT]; rfl⟩ (weak_of (by decide) (by simp [rowsLe, rowLe, slotsLe, tvLe, TV.ren, AV.ren, C.ren, Dat.ren, Row.ren, TV.hs, AV.hs, C.hs, Dat.hs, get_cons, get_nil, zipSlots, List.getD_cons_zero, List.getD_cons_succ, List.getD_nil, -List.getD_eq_getElem?_getD, curV, curH])) ?_
  rintro ⟨cur, f, k, c, r⟩ ⟨j1, j2, j3, j4, j5, j6⟩
  simp only at j1 j2 j3 j4 j5 j6
  obtain ⟨ys, hys⟩ : ∃ ys, ys = cur.getD xs := ⟨_, rfl⟩
  rw [← hys] at j1 j2 j3 j4 j5 j6
  obtain ⟨f, rfl⟩ : ∃ g, f = g + 1 := ⟨f - 1, by omega⟩
  have e3 := three_len (ch ys) ys
  have esp := same_pos (hch ys (by omega))
  obtain ⟨x, hxe⟩ : ∃ x, x = ch ys := ⟨_, rfl⟩
  have hgy := hg ys (by omega) j1
  have hsp := split_l ys x j1
  rw [← hxe] at e3 esp hgy
  cases cur with
  | none =>
    simp only [Option.getD_none] at hys
    subst hys
    simp (dsimp := false) only [curV, curH, go_sem, Nat.reduceAdd, Nat.reduceBEq, Nat.reduceEqDiff, Nat.reduceLT, Nat.reduceLeDiff, reduceCtorEq, ↓reduceIte]
    repeat (refine And.intro (by first | exact True.intro | omega | kernel_rfl | (simp only [List.length_set, List.length_append, List.length_take, List.length_replicate, List.length_cons, true_and, and_true, List.length_nil, tabR_length]; omega)) ?_)
    refine ⟨_, (hgy).lift [0] (by decide) (by simp) (by simp [rowsLe, rowLe, slotsLe, tvLe, TV.ren, AV.ren, C.ren, Dat.ren, Row.ren, TV.hs, AV.hs, C.hs, Dat.hs, get_cons, get_nil, zipSlots, List.getD_cons_zero, List.getD_cons_succ, List.getD_nil, -List.getD_eq_getElem?_getD]) (by simp [rowsLe, rowLe, slotsLe, tvLe, TV.ren, AV.ren, C.ren, Dat.ren, Row.ren, TV.hs, AV.hs, C.hs, Dat.hs, get_cons, get_nil, zipSlots, List.getD_cons_zero, List.getD_cons_succ, List.getD_nil, -List.getD_eq_getElem?_getD]) (by simp [rowsLe, rowLe, slotsLe, tvLe, TV.ren, AV.ren, C.ren, Dat.ren, Row.ren, TV.hs, AV.hs, C.hs, Dat.hs, get_cons, get_nil, zipSlots, List.getD_cons_zero, List.getD_cons_succ, List.getD_nil, -List.getD_eq_getElem?_getD]) rfl ?_⟩
    rintro _ _ ⟨rfl, rfl⟩
    refine ⟨by simp [ownIn, Row.own], ?_⟩
    simp (dsimp := false) only [curV, liftT, liftH, putBack, freshR, ownIn, Row.own, Row.ren, TV.ren, AV.ren, C.ren, Dat.ren, List.drop_succ_cons, List.drop_nil, List.getD_cons_zero, List.getD_cons_succ, List.getD_nil, go_sem, Nat.reduceAdd, Nat.reduceBEq, Nat.reduceEqDiff, Nat.reduceLT, Nat.reduceLeDiff, reduceCtorEq, ↓reduceIte]
    repeat (refine And.intro (by first | exact True.intro | omega | kernel_rfl | (simp only [List.length_set, List.length_append, List.length_take, List.length_replicate, List.length_cons, true_and, and_true, List.length_nil, tabR_length]; omega)) ?_)
    refine ⟨_, (hsp).lift [0] (by decide) (by simp) (by simp [rowsLe, rowLe, slotsLe, tvLe, TV.ren, AV.ren, C.ren, Dat.ren, Row.ren, TV.hs, AV.hs, C.hs, Dat.hs, get_cons, get_nil, zipSlots, List.getD_cons_zero, List.getD_cons_succ, List.getD_nil, -List.getD_eq_getElem?_getD]) (by simp [rowsLe, rowLe, slotsLe, tvLe, TV.ren, AV.ren, C.ren, Dat.ren, Row.ren, TV.hs, AV.hs, C.hs, Dat.hs, get_cons, get_nil, zipSlots, List.getD_cons_zero, List.getD_cons_succ, List.getD_nil, -List.getD_eq_getElem?_getD]) (by simp [rowsLe, rowLe, slotsLe, tvLe, TV.ren, AV.ren, C.ren, Dat.ren, Row.ren, TV.hs, AV.hs, C.hs, Dat.hs, get_cons, get_nil, zipSlots, List.getD_cons_zero, List.getD_cons_succ, List.getD_nil, -List.getD_eq_getElem?_getD]) rfl ?_⟩
    rintro _ _ ⟨rfl, rfl⟩
    refine ⟨by simp [ownIn, Row.own], ?_⟩
    simp (dsimp := false) only [curV, liftT, liftH, putBack, freshR, ownIn, Row.own, Row.ren, TV.ren, AV.ren, C.ren, Dat.ren, List.drop_succ_cons, List.drop_nil, List.getD_cons_zero, List.getD_cons_succ, List.getD_nil, go_sem, Nat.reduceAdd, Nat.reduceBEq, Nat.reduceEqDiff, Nat.reduceLT, Nat.reduceLeDiff, reduceCtorEq, ↓reduceIte]
    by_cases c1 : k < (lessL x ys).length
    · have d1 : decide ((k : Int) < (lessL x ys).length) = true := by simp; omega
      rw [selB_lt (by rw [← hxe]; exact c1), ← hxe] at j4 j5 j6
      simp only at j4 j5 j6
      simp (dsimp := false) only [d1, go_sem, Nat.reduceAdd, Nat.reduceBEq, Nat.reduceEqDiff, Nat.reduceLT, Nat.reduceLeDiff, reduceCtorEq, ↓reduceIte]
      repeat (refine And.intro (by first | exact True.intro | omega | kernel_rfl | (simp only [List.length_set, List.length_append, List.length_take, List.length_replicate, List.length_cons, true_and, and_true, List.length_nil, tabR_length]; omega)) ?_)
      have ec : ((c + (ys.length - 1) : Nat) : Int) = (c : Int) + ((ys.length : Int) - 1) := by omega
      refine ⟨(some (lessL x ys), f, k, c + (ys.length - 1), r + 1), [0, 1], ?_, weak_of (by decide) (by simp [rowsLe, rowLe, slotsLe, tvLe, TV.ren, AV.ren, C.ren, Dat.ren, Row.ren, TV.hs, AV.hs, C.hs, Dat.hs, get_cons, get_nil, zipSlots, List.getD_cons_zero, List.getD_cons_succ, List.getD_nil, -List.getD_eq_getElem?_getD, curV, curH, ec])⟩
      · dsimp only [Option.getD_some]; exact ⟨⟨by omega, c1, by omega, by omega, by omega, j6⟩, by omega⟩
    · have d1 : decide ((k : Int) < (lessL x ys).length) = false := by simp; omega
      by_cases c2 : k < (lessL x ys).length + (sameL x ys).length
      · have d2 : decide ((k : Int) < ((lessL x ys).length : Int) + (sameL x ys).length) = true := by simp; omega
        rw [selB_eq (by rw [← hxe]; exact c1) (by rw [← hxe]; exact c2), ← hxe] at j4 j5 j6
        simp only at j4 j5 j6
        simp (dsimp := false) only [d1, d2, go_sem, Nat.reduceAdd, Nat.reduceBEq, Nat.reduceEqDiff, Nat.reduceLT, Nat.reduceLeDiff, reduceCtorEq, ↓reduceIte]
        repeat (refine And.intro (by first | exact True.intro | omega | kernel_rfl | (simp only [List.length_set, List.length_append, List.length_take, List.length_replicate, List.length_cons, true_and, and_true, List.length_nil, tabR_length]; omega)) ?_)
        have e1 : T.2.1 = r := by omega
        have e2 : (T.2.2 : Int) = (c : Int) + ((ys.length : Int) - 1) := by omega
        refine afin [0] [aI x, aI r, aI ((c : Int) + ((ys.length : Int) - 1))] [rI ys] (by simp) rfl (weak_of (by decide) (by simp [rowsLe, rowLe, slotsLe, tvLe, TV.ren, AV.ren, C.ren, Dat.ren, Row.ren, TV.hs, AV.hs, C.hs, Dat.hs, get_cons, get_nil, zipSlots, List.getD_cons_zero, List.getD_cons_succ, List.getD_nil, -List.getD_eq_getElem?_getD, e1, e2, j6])) (by simp [rtv, e1, e2, j6, -List.getD_eq_getElem?_getD])
      · have d2 : decide ((k : Int) < ((lessL x ys).length : Int) + (sameL x ys).length) = false := by simp; omega
        rw [selB_gt (by rw [← hxe]; exact c1) (by rw [← hxe]; exact c2), ← hxe] at j4 j5 j6
        simp only at j4 j5 j6
        simp (dsimp := false) only [d1, d2, go_sem, Nat.reduceAdd, Nat.reduceBEq, Nat.reduceEqDiff, Nat.reduceLT, Nat.reduceLeDiff, reduceCtorEq, ↓reduceIte]
        repeat (refine And.intro (by first | exact True.intro | omega | kernel_rfl | (simp only [List.length_set, List.length_append, List.length_take, List.length_replicate, List.length_cons, true_and, and_true, List.length_nil, tabR_length]; omega)) ?_)
        have ek : ((k - (lessL x ys).length - (sameL x ys).length : Nat) : Int) = (k : Int) - (lessL x ys).length - (sameL x ys).length := by omega
        have ec : ((c + (ys.length - 1) : Nat) : Int) = (c : Int) + ((ys.length : Int) - 1) := by omega
        refine ⟨(some (moreL x ys), f, k - (lessL x ys).length - (sameL x ys).length, c + (ys.length - 1), r + 1), [0, 3], ?_, weak_of (by decide) (by simp [rowsLe, rowLe, slotsLe, tvLe, TV.ren, AV.ren, C.ren, Dat.ren, Row.ren, TV.hs, AV.hs, C.hs, Dat.hs, get_cons, get_nil, zipSlots, List.getD_cons_zero, List.getD_cons_succ, List.getD_nil, -List.getD_eq_getElem?_getD, curV, curH, ek, ec])⟩
        · dsimp only [Option.getD_some]; exact ⟨⟨by omega, by omega, by omega, by omega, by omega, j6⟩, by omega⟩
  | some zs =>
    simp only [Option.getD_some] at hys
    subst hys
    simp (dsimp := false) only [curV, curH, go_sem, Nat.reduceAdd, Nat.reduceBEq, Nat.reduceEqDiff, Nat.reduceLT, Nat.reduceLeDiff, reduceCtorEq, ↓reduceIte]
    repeat (refine And.intro (by first | exact True.intro | omega | kernel_rfl | (simp only [List.length_set, List.length_append, List.length_take, List.length_replicate, List.length_cons, true_and, and_true, List.length_nil, tabR_length]; omega)) ?_)
    refine ⟨_, (hgy).lift [1] (by decide) (by simp) (by simp [rowsLe, rowLe, slotsLe, tvLe, TV.ren, AV.ren, C.ren, Dat.ren, Row.ren, TV.hs, AV.hs, C.hs, Dat.hs, get_cons, get_nil, zipSlots, List.getD_cons_zero, List.getD_cons_succ, List.getD_nil, -List.getD_eq_getElem?_getD]) (by simp [rowsLe, rowLe, slotsLe, tvLe, TV.ren, AV.ren, C.ren, Dat.ren, Row.ren, TV.hs, AV.hs, C.hs, Dat.hs, get_cons, get_nil, zipSlots, List.getD_cons_zero, List.getD_cons_succ, List.getD_nil, -List.getD_eq_getElem?_getD]) (by simp [rowsLe, rowLe, slotsLe, tvLe, TV.ren, AV.ren, C.ren, Dat.ren, Row.ren, TV.hs, AV.hs, C.hs, Dat.hs, get_cons, get_nil, zipSlots, List.getD_cons_zero, List.getD_cons_succ, List.getD_nil, -List.getD_eq_getElem?_getD]) rfl ?_⟩
    rintro _ _ ⟨rfl, rfl⟩
    refine ⟨by simp [ownIn, Row.own], ?_⟩
    simp (dsimp := false) only [curV, liftT, liftH, putBack, freshR, ownIn, Row.own, Row.ren, TV.ren, AV.ren, C.ren, Dat.ren, List.drop_succ_cons, List.drop_nil, List.getD_cons_zero, List.getD_cons_succ, List.getD_nil, go_sem, Nat.reduceAdd, Nat.reduceBEq, Nat.reduceEqDiff, Nat.reduceLT, Nat.reduceLeDiff, reduceCtorEq, ↓reduceIte]
    repeat (refine And.intro (by first | exact True.intro | omega | kernel_rfl | (simp only [List.length_set, List.length_append, List.length_take, List.length_replicate, List.length_cons, true_and, and_true, List.length_nil, tabR_length]; omega)) ?_)
    refine ⟨_, (hsp).lift [1] (by decide) (by simp) (by simp [rowsLe, rowLe, slotsLe, tvLe, TV.ren, AV.ren, C.ren, Dat.ren, Row.ren, TV.hs, AV.hs, C.hs, Dat.hs, get_cons, get_nil, zipSlots, List.getD_cons_zero, List.getD_cons_succ, List.getD_nil, -List.getD_eq_getElem?_getD]) (by simp [rowsLe, rowLe, slotsLe, tvLe, TV.ren, AV.ren, C.ren, Dat.ren, Row.ren, TV.hs, AV.hs, C.hs, Dat.hs, get_cons, get_nil, zipSlots, List.getD_cons_zero, List.getD_cons_succ, List.getD_nil, -List.getD_eq_getElem?_getD]) (by simp [rowsLe, rowLe, slotsLe, tvLe, TV.ren, AV.ren, C.ren, Dat.ren, Row.ren, TV.hs, AV.hs, C.hs, Dat.hs, get_cons, get_nil, zipSlots, List.getD_cons_zero, List.getD_cons_succ, List.getD_nil, -List.getD_eq_getElem?_getD]) rfl ?_⟩
    rintro _ _ ⟨rfl, rfl⟩
    refine ⟨by simp [ownIn, Row.own], ?_⟩
    simp (dsimp := false) only [curV, liftT, liftH, putBack, freshR, ownIn, Row.own, Row.ren, TV.ren, AV.ren, C.ren, Dat.ren, List.drop_succ_cons, List.drop_nil, List.getD_cons_zero, List.getD_cons_succ, List.getD_nil, go_sem, Nat.reduceAdd, Nat.reduceBEq, Nat.reduceEqDiff, Nat.reduceLT, Nat.reduceLeDiff, reduceCtorEq, ↓reduceIte]
    by_cases c1 : k < (lessL x ys).length
    · have d1 : decide ((k : Int) < (lessL x ys).length) = true := by simp; omega
      rw [selB_lt (by rw [← hxe]; exact c1), ← hxe] at j4 j5 j6
      simp only at j4 j5 j6
      simp (dsimp := false) only [d1, go_sem, Nat.reduceAdd, Nat.reduceBEq, Nat.reduceEqDiff, Nat.reduceLT, Nat.reduceLeDiff, reduceCtorEq, ↓reduceIte]
      repeat (refine And.intro (by first | exact True.intro | omega | kernel_rfl | (simp only [List.length_set, List.length_append, List.length_take, List.length_replicate, List.length_cons, true_and, and_true, List.length_nil, tabR_length]; omega)) ?_)
      have ec : ((c + (ys.length - 1) : Nat) : Int) = (c : Int) + ((ys.length : Int) - 1) := by omega
      refine ⟨(some (lessL x ys), f, k, c + (ys.length - 1), r + 1), [0, 2], ?_, weak_of (by decide) (by simp [rowsLe, rowLe, slotsLe, tvLe, TV.ren, AV.ren, C.ren, Dat.ren, Row.ren, TV.hs, AV.hs, C.hs, Dat.hs, get_cons, get_nil, zipSlots, List.getD_cons_zero, List.getD_cons_succ, List.getD_nil, -List.getD_eq_getElem?_getD, curV, curH, ec])⟩
      · dsimp only [Option.getD_some]; exact ⟨⟨by omega, c1, by omega, by omega, by omega, j6⟩, by omega⟩
    · have d1 : decide ((k : Int) < (lessL x ys).length) = false := by simp; omega
      by_cases c2 : k < (lessL x ys).length + (sameL x ys).length
      · have d2 : decide ((k : Int) < ((lessL x ys).length : Int) + (sameL x ys).length) = true := by simp; omega
        rw [selB_eq (by rw [← hxe]; exact c1) (by rw [← hxe]; exact c2), ← hxe] at j4 j5 j6
        simp only at j4 j5 j6
        simp (dsimp := false) only [d1, d2, go_sem, Nat.reduceAdd, Nat.reduceBEq, Nat.reduceEqDiff, Nat.reduceLT, Nat.reduceLeDiff, reduceCtorEq, ↓reduceIte]
        repeat (refine And.intro (by first | exact True.intro | omega | kernel_rfl | (simp only [List.length_set, List.length_append, List.length_take, List.length_replicate, List.length_cons, true_and, and_true, List.length_nil, tabR_length]; omega)) ?_)
        have e1 : T.2.1 = r := by omega
        have e2 : (T.2.2 : Int) = (c : Int) + ((ys.length : Int) - 1) := by omega
        refine afin [0] [aI x, aI r, aI ((c : Int) + ((ys.length : Int) - 1))] [rI xs] (by simp) rfl (weak_of (by decide) (by simp [rowsLe, rowLe, slotsLe, tvLe, TV.ren, AV.ren, C.ren, Dat.ren, Row.ren, TV.hs, AV.hs, C.hs, Dat.hs, get_cons, get_nil, zipSlots, List.getD_cons_zero, List.getD_cons_succ, List.getD_nil, -List.getD_eq_getElem?_getD, e1, e2, j6])) (by simp [rtv, e1, e2, j6, -List.getD_eq_getElem?_getD])
      · have d2 : decide ((k : Int) < ((lessL x ys).length : Int) + (sameL x ys).length) = false := by simp; omega
        rw [selB_gt (by rw [← hxe]; exact c1) (by rw [← hxe]; exact c2), ← hxe] at j4 j5 j6
        simp only at j4 j5 j6
        simp (dsimp := false) only [d1, d2, go_sem, Nat.reduceAdd, Nat.reduceBEq, Nat.reduceEqDiff, Nat.reduceLT, Nat.reduceLeDiff, reduceCtorEq, ↓reduceIte]
        repeat (refine And.intro (by first | exact True.intro | omega | kernel_rfl | (simp only [List.length_set, List.length_append, List.length_take, List.length_replicate, List.length_cons, true_and, and_true, List.length_nil, tabR_length]; omega)) ?_)
        have ek : ((k - (lessL x ys).length - (sameL x ys).length : Nat) : Int) = (k : Int) - (lessL x ys).length - (sameL x ys).length := by omega
        have ec : ((c + (ys.length - 1) : Nat) : Int) = (c : Int) + ((ys.length : Int) - 1) := by omega
        refine ⟨(some (moreL x ys), f, k - (lessL x ys).length - (sameL x ys).length, c + (ys.length - 1), r + 1), [0, 4], ?_, weak_of (by decide) (by simp [rowsLe, rowLe, slotsLe, tvLe, TV.ren, AV.ren, C.ren, Dat.ren, Row.ren, TV.hs, AV.hs, C.hs, Dat.hs, get_cons, get_nil, zipSlots, List.getD_cons_zero, List.getD_cons_succ, List.getD_nil, -List.getD_eq_getElem?_getD, curV, curH, ek, ec])⟩
        · dsimp only [Option.getD_some]; exact ⟨⟨by omega, by omega, by omega, by omega, by omega, j6⟩, by omega⟩

/-! ### QuickSelect -/
def fst0 (ys : List Int) : Int := ys.getD 0 0
theorem fst0_mem (ys : List Int) (h : 1 ≤ ys.length) : fst0 ys ∈ ys := getD_mem h
theorem qs1_l (ys : List Int) (h1 : 1 ≤ ys.length) : ACalls Try.prog 78 [tS 0 ys.length] [] [rI ys] (fun t H => t = tI (fst0 ys) ∧ H = [rI ys]) := by
  refine afun (fun _ => none) [2] 1 Try.func78 rfl rfl mix (by kernel_rfl) (by kernel_rfl) (by simp [Try.f78]) rfl (by simp [msOwn, ownAll, Row.own]) ?_
  simp (dsimp := false) only [go_sem, Nat.reduceAdd, Nat.reduceBEq, Nat.reduceEqDiff, Nat.reduceLT, Nat.reduceLeDiff, reduceCtorEq, ↓reduceIte]
  repeat (refine And.intro (by first | exact True.intro | omega | kernel_rfl | (simp only [List.length_set, List.length_append, List.length_take, List.length_replicate, List.length_cons, true_and, and_true, List.length_nil, tabR_length]; omega)) ?_)
  refine afin [0] [aI (ys.getD 0 0)] [rI ys] (by simp) rfl (weak_of (by decide) (by simp [rowsLe, rowLe, slotsLe, tvLe, TV.ren, AV.ren, C.ren, Dat.ren, Row.ren, TV.hs, AV.hs, C.hs, Dat.hs, get_cons, get_nil, zipSlots, List.getD_cons_zero, List.getD_cons_succ, List.getD_nil, -List.getD_eq_getElem?_getD, fst0])) (by simp [rtv, fst0, -List.getD_eq_getElem?_getD])

def qselV (xs : List Int) (k : Int) : List AV := cond (rankOk xs k) [aI (selB fst0 xs.length xs k.toNat).1, aI (selB fst0 xs.length xs k.toNat).2.2, aB true] [aI 0, aI 0, aB false]

theorem iQuickSelect_l (xs : List Int) (k : Int) (hx : xs.length ≤ 281474976710) : ACalls Try.prog 40 [tS 0 xs.length, tI k] [] [rI xs] (fun t H => t = .tup (qselV xs k) ∧ H = [rI xs]) := by
  refine afun (fun _ => none) [4, 5, 6] 1 Try.func40 rfl rfl mix (by kernel_rfl) (by kernel_rfl) (by simp [Try.f40]) rfl (by simp [msOwn, ownAll, Row.own]) ?_
  simp (dsimp := false) only [go_sem, Nat.reduceAdd, Nat.reduceBEq, Nat.reduceEqDiff, Nat.reduceLT, Nat.reduceLeDiff, reduceCtorEq, ↓reduceIte]
  repeat (refine And.intro (by first | exact True.intro | omega | kernel_rfl | (simp only [List.length_set, List.length_append, List.length_take, List.length_replicate, List.length_cons, true_and, and_true, List.length_nil, tabR_length]; omega)) ?_)
  refine ⟨_, (isRank_l xs k (by omega)).lift [0] (by decide) (by simp) (by simp [rowsLe, rowLe, slotsLe, tvLe, TV.ren, AV.ren, C.ren, Dat.ren, Row.ren, TV.hs, AV.hs, C.hs, Dat.hs, get_cons, get_nil, zipSlots, List.getD_cons_zero, List.getD_cons_succ, List.getD_nil, -List.getD_eq_getElem?_getD]) (by simp [rowsLe, rowLe, slotsLe, tvLe, TV.ren, AV.ren, C.ren, Dat.ren, Row.ren, TV.hs, AV.hs, C.hs, Dat.hs, get_cons, get_nil, zipSlots, List.getD_cons_zero, List.getD_cons_succ, List.getD_nil, -List.getD_eq_getElem?_getD]) (by simp [rowsLe, rowLe, slotsLe, tvLe, TV.ren, AV.ren, C.ren, Dat.ren, Row.ren, TV.hs, AV.hs, C.hs, Dat.hs, get_cons, get_nil, zipSlots, List.getD_cons_zero, List.getD_cons_succ, List.getD_nil, -List.getD_eq_getElem?_getD]) rfl ?_⟩
  rintro _ _ ⟨rfl, rfl⟩
  refine ⟨by simp [ownIn, Row.own], ?_⟩
  simp (dsimp := false) only [liftT, liftH, putBack, freshR, ownIn, Row.own, Row.ren, TV.ren, AV.ren, C.ren, Dat.ren, List.drop_succ_cons, List.drop_nil, List.getD_cons_zero, List.getD_cons_succ, List.getD_nil, go_sem, Nat.reduceAdd, Nat.reduceBEq, Nat.reduceEqDiff, Nat.reduceLT, Nat.reduceLeDiff, reduceCtorEq, ↓reduceIte]
  refine ⟨fun h => ?_, fun h => ?_⟩
  · refine afin [0] [aI 0, aI 0, aB false] [rI xs] (by simp) rfl (weak_of (by decide) (by simp [rowsLe, rowLe, slotsLe, tvLe, TV.ren, AV.ren, C.ren, Dat.ren, Row.ren, TV.hs, AV.hs, C.hs, Dat.hs, get_cons, get_nil, zipSlots, List.getD_cons_zero, List.getD_cons_succ, List.getD_nil, -List.getD_eq_getElem?_getD])) (by simp only [rtv, qselV, nt h, cond_false, and_self])
  · obtain ⟨hv, K, rfl, hK⟩ := rankOk_t (nf h)
    have h64 := validB_len hv
    repeat (refine And.intro (by first | exact True.intro | omega | kernel_rfl | (simp only [List.length_set, List.length_append, List.length_take, List.length_replicate, List.length_cons, true_and, and_true, List.length_nil, tabR_length]; omega)) ?_)
    refine ⟨_, (selectBy_l fst0 _ (fun ys h1 _ => qs1_l ys h1) fst0_mem xs h64 K hK).lift [0] (by decide) (by simp) (by simp [rowsLe, rowLe, slotsLe, tvLe, TV.ren, AV.ren, C.ren, Dat.ren, Row.ren, TV.hs, AV.hs, C.hs, Dat.hs, get_cons, get_nil, zipSlots, List.getD_cons_zero, List.getD_cons_succ, List.getD_nil, -List.getD_eq_getElem?_getD]) (by simp [rowsLe, rowLe, slotsLe, tvLe, TV.ren, AV.ren, C.ren, Dat.ren, Row.ren, TV.hs, AV.hs, C.hs, Dat.hs, get_cons, get_nil, zipSlots, List.getD_cons_zero, List.getD_cons_succ, List.getD_nil, -List.getD_eq_getElem?_getD]) (by simp [rowsLe, rowLe, slotsLe, tvLe, TV.ren, AV.ren, C.ren, Dat.ren, Row.ren, TV.hs, AV.hs, C.hs, Dat.hs, get_cons, get_nil, zipSlots, List.getD_cons_zero, List.getD_cons_succ, List.getD_nil, -List.getD_eq_getElem?_getD]) rfl ?_⟩
    rintro _ _ ⟨rfl, rfl⟩
    refine ⟨by simp [ownIn, Row.own], ?_⟩
    simp (dsimp := false) only [liftT, liftH, putBack, freshR, ownIn, Row.own, Row.ren, TV.ren, AV.ren, C.ren, Dat.ren, List.drop_succ_cons, List.drop_nil, List.getD_cons_zero, List.getD_cons_succ, List.getD_nil, go_sem, Nat.reduceAdd, Nat.reduceBEq, Nat.reduceEqDiff, Nat.reduceLT, Nat.reduceLeDiff, reduceCtorEq, ↓reduceIte]
    refine afin [0] [aI (selB fst0 xs.length xs K).1, aI (selB fst0 xs.length xs K).2.2, aB true] [rI xs] (by simp) rfl (weak_of (by decide) (by simp [rowsLe, rowLe, slotsLe, tvLe, TV.ren, AV.ren, C.ren, Dat.ren, Row.ren, TV.hs, AV.hs, C.hs, Dat.hs, get_cons, get_nil, zipSlots, List.getD_cons_zero, List.getD_cons_succ, List.getD_nil, -List.getD_eq_getElem?_getD])) (by simp only [rtv, qselV, nf h, cond_true, Int.toNat_natCast, and_self])

end Go.Proofs.Ytlejmdbjckmfoaa
