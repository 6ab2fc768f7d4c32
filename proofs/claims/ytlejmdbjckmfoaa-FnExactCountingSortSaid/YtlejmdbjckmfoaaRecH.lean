/- Contracts: the laws' helpers on results that are records. -/
import Derived.Test.YtlejmdbjckmfoaaRec
set_option linter.unusedSimpArgs false
set_option linter.unusedVariables false
set_option linter.unusedSectionVars false
namespace Go.Proofs.Ytlejmdbjckmfoaa
open Go Go.Ax
set_option maxRecDepth 10000
set_option maxHeartbeats 1000000

/-- The records with the marks of the first n laid in. -/
def mkR (rs : List (Int × Int)) (k : Int) (n : Nat) : List (Int × Int) := (List.range n).map (fun (i : Nat) => (k + 2 * (i : Int), k + 2 * (i : Int) + 1)) ++ rs.drop n
theorem mkR_len {rs : List (Int × Int)} {k : Int} {n : Nat} (h : n ≤ rs.length) : (mkR rs k n).length = rs.length := by simp [mkR]; omega
theorem mkR_zero (rs : List (Int × Int)) (k : Int) : mkR rs k 0 = rs := by simp [mkR]
theorem mkR_get {rs : List (Int × Int)} {k : Int} {n i : Nat} (h : i < n) : (mkR rs k n).getD i (0, 0) = (k + 2 * (i : Int), k + 2 * (i : Int) + 1) := by
  simp [mkR, List.getD_eq_getElem?_getD, List.getElem?_append, h]
theorem mkR_set {rs : List (Int × Int)} {k : Int} {n : Nat} (h : n < rs.length) (x : Int × Int) : ((mkR rs k n).set n x).set n (k + 2 * (n : Int), k + 2 * (n : Int) + 1) = mkR rs k (n + 1) := by
  rw [List.set_set]
  unfold mkR
  have e : (rs.drop n).set 0 (k + 2 * (n : Int), k + 2 * (n : Int) + 1) = (k + 2 * (n : Int), k + 2 * (n : Int) + 1) :: rs.drop (n + 1) := by rw [List.drop_eq_getElem_cons h]; rfl
  rw [List.set_append_right _ _ (by simp), List.range_succ, List.map_append]
  simp [e]
theorem markRecordS_mk (rs : List (Int × Int)) (k : Int) (hx : rs.length ≤ 281474976710) (h0 : 0 ≤ k) (h1 : k ≤ 281474976710656) : ACalls Try.prog 25 [tR 0 rs.length, tI k] [0] [oR rs] (fun t H => t = tI (k + 2 * (rs.length : Int)) ∧ H = [oR (mkR rs k rs.length)]) := by
  refine afun (fun _ => none) [4] 1 Try.func25 rfl rfl mix (by kernel_rfl) (by kernel_rfl) (by simp [Try.f25]) rfl (by simp [msOwn, ownAll, Row.own]) ?_
  simp (dsimp := false) only [go_sem, Nat.reduceAdd, Nat.reduceBEq, Nat.reduceEqDiff, Nat.reduceLT, Nat.reduceLeDiff, reduceCtorEq, ↓reduceIte]
  refine aloop (σ := Nat) (fun i => ([(0, tR 0 rs.length), (1, tI (k + 2 * (i : Int))), (5, tI i)], [oR (mkR rs k i)])) (fun i => i ≤ rs.length) (fun i => rs.length - i) 0 [0] (by omega) (weak_of (by decide) (by simp [RS.slot, List.map_cons, List.map_nil, rowsLe, rowLe, slotsLe, tvLe, TV.ren, AV.ren, C.ren, Dat.ren, Row.ren, TV.hs, AV.hs, C.hs, Dat.hs, get_cons, get_nil, zipSlots, List.getD_cons_zero, List.getD_cons_succ, List.getD_nil, -List.getD_eq_getElem?_getD, mkR_zero])) ?_
  intro i hi
  have hl := mkR_len (k := k) hi
  by_cases hc : i < rs.length
  · have hcd : decide ((i : Int) < rs.length) = true := by simp; omega
    have hs := mkR_set (k := k) hc (k + 2 * (i : Int), ((mkR rs k i).getD i (0, 0)).2)
    have hg : (((mkR rs k i).set i (k + 2 * (i : Int), ((mkR rs k i).getD i (0, 0)).2)).getD i (0, 0)).1 = k + 2 * (i : Int) := by
      simp only [List.getD_eq_getElem?_getD (l := List.set _ _ _)]
      rw [List.getElem?_set_self (by omega)]; rfl
    simp (dsimp := false) only [hcd, hg, Int.toNat_natCast, go_sem, Nat.reduceAdd, Nat.reduceBEq, Nat.reduceEqDiff, Nat.reduceLT, Nat.reduceLeDiff, reduceCtorEq, ↓reduceIte]
    repeat (refine And.intro (by first | exact True.intro | omega | kernel_rfl | (simp only [List.length_set, List.length_append, List.length_take, List.length_replicate, List.length_cons, true_and, and_true, List.length_nil, tabR_length]; omega)) ?_)
    rw [List.set_set, Int.add_assoc] at hs
    refine ⟨i + 1, [0], ?_, weak_of (by decide) (by simp [RS.slot, List.map_cons, List.map_nil, rowsLe, rowLe, slotsLe, tvLe, TV.ren, AV.ren, C.ren, Dat.ren, Row.ren, TV.hs, AV.hs, C.hs, Dat.hs, get_cons, get_nil, zipSlots, List.getD_cons_zero, List.getD_cons_succ, List.getD_nil, -List.getD_eq_getElem?_getD, hs, List.set_set, Int.add_assoc, show (2 : Int) * ((i : Int) + 1) = 2 * i + 2 by omega])⟩
    omega
  · have hcd : decide ((i : Int) < rs.length) = false := by simp; omega
    have e : i = rs.length := by omega
    subst e
    simp (dsimp := false) only [hcd, go_sem, Nat.reduceAdd, Nat.reduceBEq, Nat.reduceEqDiff, Nat.reduceLT, Nat.reduceLeDiff, reduceCtorEq, ↓reduceIte]
    refine afin [0] [aI (k + 2 * (rs.length : Int))] [oR (mkR rs k rs.length)] (by simp) rfl (weak_of (by decide) (by simp [RS.slot, List.map_cons, List.map_nil, rowsLe, rowLe, slotsLe, tvLe, TV.ren, AV.ren, C.ren, Dat.ren, Row.ren, TV.hs, AV.hs, C.hs, Dat.hs, get_cons, get_nil, zipSlots, List.getD_cons_zero, List.getD_cons_succ, List.getD_nil, -List.getD_eq_getElem?_getD])) (by simp [rtv])
theorem heldRecordS_mk (rs : List (Int × Int)) (k : Int) (hx : rs.length ≤ 281474976710) (h0 : 0 ≤ k) (h1 : k ≤ 281474976710656) : ACalls Try.prog 26 [tR 0 rs.length, tI k] [] [rR (mkR rs k rs.length)] (fun t H => t = tI (k + 2 * (rs.length : Int)) ∧ H = [rR (mkR rs k rs.length)]) := by
  refine afun (fun _ => none) [4] 1 Try.func26 rfl rfl mix (by kernel_rfl) (by kernel_rfl) (by simp [Try.f26]) rfl (by simp [msOwn, ownAll, Row.own]) ?_
  simp (dsimp := false) only [go_sem, Nat.reduceAdd, Nat.reduceBEq, Nat.reduceEqDiff, Nat.reduceLT, Nat.reduceLeDiff, reduceCtorEq, ↓reduceIte]
  have hl := mkR_len (rs := rs) (k := k) (Nat.le_refl _)
  refine aloop (σ := Nat) (fun i => ([(0, tR 0 rs.length), (1, tI (k + 2 * (i : Int))), (5, tI i)], [rR (mkR rs k rs.length)])) (fun i => i ≤ rs.length) (fun i => rs.length - i) 0 [0] (by omega) (weak_of (by decide) (by simp [RS.slot, List.map_cons, List.map_nil, rowsLe, rowLe, slotsLe, tvLe, TV.ren, AV.ren, C.ren, Dat.ren, Row.ren, TV.hs, AV.hs, C.hs, Dat.hs, get_cons, get_nil, zipSlots, List.getD_cons_zero, List.getD_cons_succ, List.getD_nil, -List.getD_eq_getElem?_getD])) ?_
  intro i hi
  by_cases hc : i < rs.length
  · have hcd : decide ((i : Int) < rs.length) = true := by simp; omega
    have hg := mkR_get (rs := rs) (k := k) hc
    have e1 : ((mkR rs k rs.length).getD i (0, 0)).1 = k + 2 * (i : Int) := by rw [hg]
    have e2 : ((mkR rs k rs.length).getD i (0, 0)).2 = k + 2 * (i : Int) + 1 := by rw [hg]
    simp (dsimp := false) only [hcd, e1, e2, bne_self_eq_false, Int.toNat_natCast, go_sem, Nat.reduceAdd, Nat.reduceBEq, Nat.reduceEqDiff, Nat.reduceLT, Nat.reduceLeDiff, reduceCtorEq, ↓reduceIte]
    repeat (refine And.intro (by first | exact True.intro | omega | kernel_rfl | (simp only [List.length_set, List.length_append, List.length_take, List.length_replicate, List.length_cons, true_and, and_true, List.length_nil, tabR_length]; omega)) ?_)
    refine ⟨i + 1, [0], ?_, weak_of (by decide) (by simp [RS.slot, List.map_cons, List.map_nil, rowsLe, rowLe, slotsLe, tvLe, TV.ren, AV.ren, C.ren, Dat.ren, Row.ren, TV.hs, AV.hs, C.hs, Dat.hs, get_cons, get_nil, zipSlots, List.getD_cons_zero, List.getD_cons_succ, List.getD_nil, -List.getD_eq_getElem?_getD, Int.add_assoc, show (2 : Int) * ((i : Int) + 1) = 2 * i + 2 by omega])⟩
    omega
  · have hcd : decide ((i : Int) < rs.length) = false := by simp; omega
    have e : i = rs.length := by omega
    simp (dsimp := false) only [hcd, go_sem, Nat.reduceAdd, Nat.reduceBEq, Nat.reduceEqDiff, Nat.reduceLT, Nat.reduceLeDiff, reduceCtorEq, ↓reduceIte]
    refine afin [0] [aI (k + 2 * (rs.length : Int))] [rR (mkR rs k rs.length)] (by simp) rfl (weak_of (by decide) (by simp [RS.slot, List.map_cons, List.map_nil, rowsLe, rowLe, slotsLe, tvLe, TV.ren, AV.ren, C.ren, Dat.ren, Row.ren, TV.hs, AV.hs, C.hs, Dat.hs, get_cons, get_nil, zipSlots, List.getD_cons_zero, List.getD_cons_succ, List.getD_nil, -List.getD_eq_getElem?_getD, e])) (by simp [rtv, e, -List.getD_eq_getElem?_getD])
theorem eqRecordS_nn : ACalls Try.prog 24 [tN, tN] [] [] (fun t H => t = tB true ∧ H = []) := by
  refine afun (fun i => match i with | 6 => some ⟨[], .op 0 .held (.op 1 .held (.op 2 .held (.op 3 .now (.op 4 .held (.op 5 .held (.op 6 .held (.op 7 .now (.op 8 .only (.op 9 .held .nil)))))))))⟩ | _ => none) [4] 0 Try.func24 rfl rfl mix (by kernel_rfl) (by kernel_rfl) (by simp [Try.f24]) rfl (by simp [msOwn, ownAll, Row.own]) ?_
  simp (dsimp := false) only [go_sem, Nat.reduceAdd, Nat.reduceBEq, Nat.reduceEqDiff, Nat.reduceLT, Nat.reduceLeDiff, reduceCtorEq, ↓reduceIte]
  refine aloop (σ := Unit) (fun i => ([(0, tN), (1, tN), (5, tI 0)], [])) (fun i => True) (fun i => 0) () [] trivial (weak_of (by decide) (by simp [RS.slot, List.map_cons, List.map_nil, rowsLe, rowLe, slotsLe, tvLe, TV.ren, AV.ren, C.ren, Dat.ren, Row.ren, TV.hs, AV.hs, C.hs, Dat.hs, get_cons, get_nil, zipSlots, List.getD_cons_zero, List.getD_cons_succ, List.getD_nil, -List.getD_eq_getElem?_getD])) ?_
  intro _ _
  simp (dsimp := false) only [Int.natCast_zero, Int.lt_irrefl, decide_false, go_sem, Nat.reduceAdd, Nat.reduceBEq, Nat.reduceEqDiff, Nat.reduceLT, Nat.reduceLeDiff, reduceCtorEq, ↓reduceIte]
  refine afin [] [aB true] [] (by simp) rfl (weak_of (by decide) (by simp [RS.slot, List.map_cons, List.map_nil, rowsLe, rowLe, slotsLe, tvLe, TV.ren, AV.ren, C.ren, Dat.ren, Row.ren, TV.hs, AV.hs, C.hs, Dat.hs, get_cons, get_nil, zipSlots, List.getD_cons_zero, List.getD_cons_succ, List.getD_nil, -List.getD_eq_getElem?_getD])) (by simp [rtv])
theorem markRecordS_n (k : Int) : ACalls Try.prog 25 [tN, tI k] [] [] (fun t H => t = tI k ∧ H = []) := by
  refine afun (fun _ => none) [4] 0 Try.func25 rfl rfl mix (by kernel_rfl) (by kernel_rfl) (by simp [Try.f25]) rfl (by simp [msOwn, ownAll, Row.own]) ?_
  simp (dsimp := false) only [go_sem, Nat.reduceAdd, Nat.reduceBEq, Nat.reduceEqDiff, Nat.reduceLT, Nat.reduceLeDiff, reduceCtorEq, ↓reduceIte]
  refine aloop (σ := Unit) (fun i => ([(0, tN), (1, tI k), (5, tI 0)], [])) (fun i => True) (fun i => 0) () [] trivial (weak_of (by decide) (by simp [RS.slot, List.map_cons, List.map_nil, rowsLe, rowLe, slotsLe, tvLe, TV.ren, AV.ren, C.ren, Dat.ren, Row.ren, TV.hs, AV.hs, C.hs, Dat.hs, get_cons, get_nil, zipSlots, List.getD_cons_zero, List.getD_cons_succ, List.getD_nil, -List.getD_eq_getElem?_getD])) ?_
  intro _ _
  simp (dsimp := false) only [Int.natCast_zero, Int.lt_irrefl, decide_false, go_sem, Nat.reduceAdd, Nat.reduceBEq, Nat.reduceEqDiff, Nat.reduceLT, Nat.reduceLeDiff, reduceCtorEq, ↓reduceIte]
  refine afin [] [aI k] [] (by simp) rfl (weak_of (by decide) (by simp [RS.slot, List.map_cons, List.map_nil, rowsLe, rowLe, slotsLe, tvLe, TV.ren, AV.ren, C.ren, Dat.ren, Row.ren, TV.hs, AV.hs, C.hs, Dat.hs, get_cons, get_nil, zipSlots, List.getD_cons_zero, List.getD_cons_succ, List.getD_nil, -List.getD_eq_getElem?_getD])) (by simp [rtv])
theorem heldRecordS_n (k : Int) : ACalls Try.prog 26 [tN, tI k] [] [] (fun t H => t = tI k ∧ H = []) := by
  refine afun (fun _ => none) [4] 0 Try.func26 rfl rfl mix (by kernel_rfl) (by kernel_rfl) (by simp [Try.f26]) rfl (by simp [msOwn, ownAll, Row.own]) ?_
  simp (dsimp := false) only [go_sem, Nat.reduceAdd, Nat.reduceBEq, Nat.reduceEqDiff, Nat.reduceLT, Nat.reduceLeDiff, reduceCtorEq, ↓reduceIte]
  refine aloop (σ := Unit) (fun i => ([(0, tN), (1, tI k), (5, tI 0)], [])) (fun i => True) (fun i => 0) () [] trivial (weak_of (by decide) (by simp [RS.slot, List.map_cons, List.map_nil, rowsLe, rowLe, slotsLe, tvLe, TV.ren, AV.ren, C.ren, Dat.ren, Row.ren, TV.hs, AV.hs, C.hs, Dat.hs, get_cons, get_nil, zipSlots, List.getD_cons_zero, List.getD_cons_succ, List.getD_nil, -List.getD_eq_getElem?_getD])) ?_
  intro _ _
  simp (dsimp := false) only [Int.natCast_zero, Int.lt_irrefl, decide_false, go_sem, Nat.reduceAdd, Nat.reduceBEq, Nat.reduceEqDiff, Nat.reduceLT, Nat.reduceLeDiff, reduceCtorEq, ↓reduceIte]
  refine afin [] [aI k] [] (by simp) rfl (weak_of (by decide) (by simp [RS.slot, List.map_cons, List.map_nil, rowsLe, rowLe, slotsLe, tvLe, TV.ren, AV.ren, C.ren, Dat.ren, Row.ren, TV.hs, AV.hs, C.hs, Dat.hs, get_cons, get_nil, zipSlots, List.getD_cons_zero, List.getD_cons_succ, List.getD_nil, -List.getD_eq_getElem?_getD])) (by simp [rtv])
end Go.Proofs.Ytlejmdbjckmfoaa
