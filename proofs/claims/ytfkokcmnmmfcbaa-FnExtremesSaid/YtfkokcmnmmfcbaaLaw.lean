/- Contracts of the laws' helpers on slices of int: toIntS, eqIntS, markIntS, heldIntS. -/
import Derived.Test.YtfkokcmnmmfcbaaAxTy
import Derived.Test.YtfkokcmnmmfcbaaPl
set_option linter.unusedSimpArgs false
set_option linter.unusedVariables false
set_option linter.unusedSectionVars false
namespace Go.Proofs.Ytfkokcmnmmfcbaa
open Go Go.Ax
set_option maxRecDepth 10000

/-- toIntS: a copy in new memory. -/
theorem toIntS_ok (xs : List Int) (hb : 8 * xs.length ≤ 281474976710656) : ACalls Try.prog 6 [tS 0 xs.length] [] [rI xs] (fun t H => t = tS 1 xs.length ∧ H = [rI xs, oI xs]) := by
  refine afun (fun _ => none) [2] 1 Try.func6 rfl rfl mix (by kernel_rfl) (by kernel_rfl) (by simp [Try.f6]) rfl (by simp [msOwn, ownAll, Row.own]) ?_
  simp (dsimp := false) only [go_sem, Nat.reduceAdd, Nat.reduceBEq, Nat.reduceEqDiff, Nat.reduceLT, Nat.reduceLeDiff, reduceCtorEq, ↓reduceIte]
  refine ⟨by omega, ?_⟩
  refine aloop (σ := Nat) (fun k => ([(0, tS 0 xs.length), (3, tS 1 xs.length), (4, tI k)], [rI xs, oI (xs.take k ++ List.replicate (xs.length - k) 0)])) (fun k => k ≤ xs.length) (fun k => xs.length - k) 0 [0, 1] (by omega) (weak_of (by decide) (by simp [RS.slot, List.map_cons, List.map_nil, rowsLe, rowLe, slotsLe, tvLe, TV.ren, AV.ren, C.ren, Dat.ren, Row.ren, TV.hs, AV.hs, C.hs, Dat.hs, get_cons, get_nil, zipSlots, List.getD_cons_zero, List.getD_cons_succ, List.getD_nil, -List.getD_eq_getElem?_getD])) ?_
  intro k hk
  simp (dsimp := false) only [go_sem, Nat.reduceAdd, Nat.reduceBEq, Nat.reduceEqDiff, Nat.reduceLT, Nat.reduceLeDiff, reduceCtorEq, ↓reduceIte]
  refine ⟨fun h => ?_, fun h => ?_⟩
  · have h' : k < xs.length := by simpa using h
    refine ⟨by omega, by omega, by omega, by simp; omega, by omega, k + 1, [0, 1], by omega, weak_of (by decide) ?_⟩
    simp [RS.slot, List.map_cons, List.map_nil, rowsLe, rowLe, slotsLe, tvLe, TV.ren, AV.ren, C.ren, Dat.ren, Row.ren, TV.hs, AV.hs, C.hs, Dat.hs, get_cons, get_nil, zipSlots, List.getD_cons_zero, List.getD_cons_succ, List.getD_nil, -List.getD_eq_getElem?_getD]
    exact set_copy xs 0 k h'
  · have h' : k = xs.length := by simp at h; omega
    subst h'
    refine afin [0, 1] [aS 1 xs.length] [rI xs, oI xs] (by simp) rfl (weak_of (by decide) (by simp [RS.slot, List.map_cons, List.map_nil, rowsLe, rowLe, slotsLe, tvLe, TV.ren, AV.ren, C.ren, Dat.ren, Row.ren, TV.hs, AV.hs, C.hs, Dat.hs, get_cons, get_nil, zipSlots, List.getD_cons_zero, List.getD_cons_succ, List.getD_nil, -List.getD_eq_getElem?_getD])) (by simp [rtv])

/-- eqIntS: equal lists. -/
theorem eqIntS_ok (xs ys : List Int) (n m : Nat) (hn : n ≤ xs.length) (hm : m ≤ ys.length) (hx : n ≤ 281474976710656) : ACalls Try.prog 8 [tS 0 n, tS 1 m] [] [rI xs, rI ys] (fun t H => t = tB (decide (xs.take n = ys.take m)) ∧ H = [rI xs, rI ys]) := by
  refine afun (fun i => match i with | 6 => some ⟨[], .op 0 .held (.op 1 .held (.op 2 .held (.op 3 .now (.op 4 .held (.op 5 .held (.op 6 .held (.op 7 .now (.op 8 .held .nil))))))))⟩ | _ => none) [4] 2 Try.func8 rfl rfl mix (by kernel_rfl) (by kernel_rfl) (by simp [Try.f8]) rfl (by simp [msOwn, ownAll, Row.own]) ?_
  simp (dsimp := false) only [go_sem, Nat.reduceAdd, Nat.reduceBEq, Nat.reduceEqDiff, Nat.reduceLT, Nat.reduceLeDiff, reduceCtorEq, ↓reduceIte]
  refine ⟨fun h => ?_, fun h => ?_⟩
  · have h' : n ≠ m := by simp at h; omega
    have : ¬ xs.take n = ys.take m := fun e => h' (by have := congrArg List.length e; simpa [Nat.min_eq_left hn, Nat.min_eq_left hm] using this)
    refine afin [0, 1] [aB false] [rI xs, rI ys] (by simp) rfl (weak_of (by decide) (by simp [RS.slot, List.map_cons, List.map_nil, rowsLe, rowLe, slotsLe, tvLe, TV.ren, AV.ren, C.ren, Dat.ren, Row.ren, TV.hs, AV.hs, C.hs, Dat.hs, get_cons, get_nil, zipSlots, List.getD_cons_zero, List.getD_cons_succ, List.getD_nil, -List.getD_eq_getElem?_getD, this])) (by simp [rtv, this, -List.getD_eq_getElem?_getD])
  · have h' : n = m := by simp at h; omega
    subst h'
    refine aloop (σ := Nat) (fun k => ([(0, tS 0 n), (1, tS 1 n), (5, tI k)], [rI xs, rI ys])) (fun k => k ≤ n ∧ xs.take k = ys.take k) (fun k => n - k) 0 [0, 1] ⟨by omega, by simp⟩ (weak_of (by decide) (by simp [RS.slot, List.map_cons, List.map_nil, rowsLe, rowLe, slotsLe, tvLe, TV.ren, AV.ren, C.ren, Dat.ren, Row.ren, TV.hs, AV.hs, C.hs, Dat.hs, get_cons, get_nil, zipSlots, List.getD_cons_zero, List.getD_cons_succ, List.getD_nil, -List.getD_eq_getElem?_getD])) ?_
    rintro k ⟨hk, he⟩
    simp (dsimp := false) only [go_sem, Nat.reduceAdd, Nat.reduceBEq, Nat.reduceEqDiff, Nat.reduceLT, Nat.reduceLeDiff, reduceCtorEq, ↓reduceIte]
    refine ⟨fun h => ?_, fun h => ?_⟩
    · have h1 : k < n := by simpa using h
      repeat (refine And.intro (by first | exact True.intro | omega | kernel_rfl | (simp only [List.length_set, List.length_append, List.length_take, List.length_replicate, List.length_cons, true_and, and_true, List.length_nil, tabR_length]; omega)) ?_)
      refine ⟨fun h => ?_, fun h => ?_⟩
      · have h2 : ¬ xs.take n = ys.take n := ne_take h1 hn hm (by simpa using h)
        refine afin [0, 1] [aB false] [rI xs, rI ys] (by simp) rfl (weak_of (by decide) (by simp [RS.slot, List.map_cons, List.map_nil, rowsLe, rowLe, slotsLe, tvLe, TV.ren, AV.ren, C.ren, Dat.ren, Row.ren, TV.hs, AV.hs, C.hs, Dat.hs, get_cons, get_nil, zipSlots, List.getD_cons_zero, List.getD_cons_succ, List.getD_nil, -List.getD_eq_getElem?_getD, h2])) (by simp [rtv, h2, -List.getD_eq_getElem?_getD])
      · have h2 : xs.getD k 0 = ys.getD k 0 := by simpa using h
        repeat (refine And.intro (by first | exact True.intro | omega | kernel_rfl | (simp only [List.length_set, List.length_append, List.length_take, List.length_replicate, List.length_cons, true_and, and_true, List.length_nil, tabR_length]; omega)) ?_)
        refine ⟨k + 1, [0, 1], ?_, weak_of (by decide) (by simp [RS.slot, List.map_cons, List.map_nil, rowsLe, rowLe, slotsLe, tvLe, TV.ren, AV.ren, C.ren, Dat.ren, Row.ren, TV.hs, AV.hs, C.hs, Dat.hs, get_cons, get_nil, zipSlots, List.getD_cons_zero, List.getD_cons_succ, List.getD_nil, -List.getD_eq_getElem?_getD])⟩
        exact ⟨⟨by omega, take_succ_eq (by omega) (by omega) he h2⟩, by omega⟩
    · have h1 : n = k := by simp at h; omega
      subst h1
      refine afin [0, 1] [aB true] [rI xs, rI ys] (by simp) rfl (weak_of (by decide) (by simp [RS.slot, List.map_cons, List.map_nil, rowsLe, rowLe, slotsLe, tvLe, TV.ren, AV.ren, C.ren, Dat.ren, Row.ren, TV.hs, AV.hs, C.hs, Dat.hs, get_cons, get_nil, zipSlots, List.getD_cons_zero, List.getD_cons_succ, List.getD_nil, -List.getD_eq_getElem?_getD, he])) (by simp [rtv, he, -List.getD_eq_getElem?_getD])

theorem eqIntS_same (xs : List Int) (hx : xs.length ≤ 281474976710656) : ACalls Try.prog 8 [tS 0 xs.length, tS 1 xs.length] [] [rI xs, rI xs] (fun t H => t = tB true ∧ H = [rI xs, rI xs]) :=
  (eqIntS_ok xs xs _ _ (Nat.le_refl _) (Nat.le_refl _) hx).mono fun t H h => by simpa using h

theorem eqIntS_pre (xs : List Int) (n : Nat) (hn : n ≤ xs.length) (hx : n ≤ 281474976710656) : ACalls Try.prog 8 [tS 0 n, tS 1 n] [] [rI xs, rI xs] (fun t H => t = tB true ∧ H = [rI xs, rI xs]) :=
  (eqIntS_ok xs xs n n hn hn hx).mono fun t H h => by simpa using h

theorem eqIntS_nn : ACalls Try.prog 8 [tN, tN] [] [] (fun t H => t = tB true ∧ H = []) := by
  refine afun (fun i => match i with | 6 => some ⟨[], .op 0 .held (.op 1 .held (.op 2 .held (.op 3 .now (.op 4 .held (.op 5 .held (.op 6 .held (.op 7 .now (.op 8 .held .nil))))))))⟩ | _ => none) [4] 0 Try.func8 rfl rfl mix (by kernel_rfl) (by kernel_rfl) (by simp [Try.f8]) rfl (by simp [msOwn, ownAll, Row.own]) ?_
  simp (dsimp := false) only [go_sem, Nat.reduceAdd, Nat.reduceBEq, Nat.reduceEqDiff, Nat.reduceLT, Nat.reduceLeDiff, reduceCtorEq, ↓reduceIte]
  refine aloop (σ := Nat) (fun k => ([(0, tN), (1, tN), (5, tI 0)], [])) (fun k => True) (fun k => 0) 0 [] trivial (weak_of (by decide) (by simp [RS.slot, List.map_cons, List.map_nil, rowsLe, rowLe, slotsLe, tvLe, TV.ren, AV.ren, C.ren, Dat.ren, Row.ren, TV.hs, AV.hs, C.hs, Dat.hs, get_cons, get_nil, zipSlots, List.getD_cons_zero, List.getD_cons_succ, List.getD_nil, -List.getD_eq_getElem?_getD])) ?_
  intro _ _
  simp (dsimp := false) only [Int.natCast_zero, Int.lt_irrefl, decide_false, go_sem, Nat.reduceAdd, Nat.reduceBEq, Nat.reduceEqDiff, Nat.reduceLT, Nat.reduceLeDiff, reduceCtorEq, ↓reduceIte]
  refine afin [] [aB true] [] (by simp) rfl (weak_of (by decide) (by simp [RS.slot, List.map_cons, List.map_nil, rowsLe, rowLe, slotsLe, tvLe, TV.ren, AV.ren, C.ren, Dat.ren, Row.ren, TV.hs, AV.hs, C.hs, Dat.hs, get_cons, get_nil, zipSlots, List.getD_cons_zero, List.getD_cons_succ, List.getD_nil, -List.getD_eq_getElem?_getD])) (by simp [rtv])

theorem eqIntS_ne : ACalls Try.prog 8 [tN, tS 0 0] [] [rI []] (fun t H => t = tB true ∧ H = [rI []]) := by
  refine afun (fun i => match i with | 6 => some ⟨[], .op 0 .held (.op 1 .held (.op 2 .held (.op 3 .now (.op 4 .held (.op 5 .held (.op 6 .held (.op 7 .now (.op 8 .held .nil))))))))⟩ | _ => none) [4] 1 Try.func8 rfl rfl mix (by kernel_rfl) (by kernel_rfl) (by simp [Try.f8]) rfl (by simp [msOwn, ownAll, Row.own]) ?_
  simp (dsimp := false) only [Int.ofNat_zero, Int.natCast_zero, go_sem, Nat.reduceAdd, Nat.reduceBEq, Nat.reduceEqDiff, Nat.reduceLT, Nat.reduceLeDiff, reduceCtorEq, ↓reduceIte]
  refine aloop (σ := Nat) (fun k => ([(0, tN), (1, tS 0 0), (5, tI 0)], [rI []])) (fun k => True) (fun k => 0) 0 [0] trivial (weak_of (by decide) (by simp [RS.slot, List.map_cons, List.map_nil, rowsLe, rowLe, slotsLe, tvLe, TV.ren, AV.ren, C.ren, Dat.ren, Row.ren, TV.hs, AV.hs, C.hs, Dat.hs, get_cons, get_nil, zipSlots, List.getD_cons_zero, List.getD_cons_succ, List.getD_nil, -List.getD_eq_getElem?_getD])) ?_
  intro _ _
  simp (dsimp := false) only [Int.natCast_zero, Int.lt_irrefl, decide_false, go_sem, Nat.reduceAdd, Nat.reduceBEq, Nat.reduceEqDiff, Nat.reduceLT, Nat.reduceLeDiff, reduceCtorEq, ↓reduceIte]
  refine afin [0] [aB true] [rI []] (by simp) rfl (weak_of (by decide) (by simp [RS.slot, List.map_cons, List.map_nil, rowsLe, rowLe, slotsLe, tvLe, TV.ren, AV.ren, C.ren, Dat.ren, Row.ren, TV.hs, AV.hs, C.hs, Dat.hs, get_cons, get_nil, zipSlots, List.getD_cons_zero, List.getD_cons_succ, List.getD_nil, -List.getD_eq_getElem?_getD])) (by simp [rtv])

end Go.Proofs.Ytfkokcmnmmfcbaa
