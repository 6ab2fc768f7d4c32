/- Contracts: the helpers of the laws over drawn arguments. -/
import Derived.Test.YtpoappgfmjnioaaAxTyC
import Derived.Test.YtpoappgfmjnioaaCur
import Derived.Test.YtpoappgfmjnioaaLaw
set_option linter.unusedSimpArgs false
set_option linter.unusedVariables false
set_option linter.unusedSectionVars false
namespace Go.Proofs.Ytpoappgfmjnioaa
open Go Go.Ax
set_option maxRecDepth 10000
set_option maxHeartbeats 1000000

theorem vBig_l (cs : List Int) (hl : cs.length ≤ 9223372036854775807) : ACalls Try.prog 20 [tS 0 cs.length] [] [rU8 cs] (fun t H => ∃ b : Bool, (b = false → cs.length ≤ 65536) ∧ t = tB b ∧ H = [rU8 cs]) := by
  refine afun (fun _ => none) [2] 1 Try.func20 rfl rfl mix (by kernel_rfl) (by kernel_rfl) (by simp [Try.f20]) rfl (by simp [msOwn, ownAll, Row.own]) ?_
  simp (dsimp := false) only [go_sem, Nat.reduceAdd, Nat.reduceBEq, Nat.reduceEqDiff, Nat.reduceLT, Nat.reduceLeDiff, reduceCtorEq, ↓reduceIte]
  repeat (refine And.intro (by first | exact True.intro | omega | kernel_rfl | (simp only [List.length_set, List.length_append, List.length_take, List.length_replicate, List.length_cons, true_and, and_true, List.length_nil, tabR_length]; omega)) ?_)
  obtain ⟨b, hb⟩ : ∃ b, b = decide (65536 < (cs.length : Int)) := ⟨_, rfl⟩
  have hb2 : b = false → cs.length ≤ 65536 := fun h => by rw [h] at hb; have := of_decide_eq_false hb.symm; omega
  rw [← hb]
  clear hb
  refine afin [0] [aB b] [rU8 cs] (by simp) rfl (weak_of (by decide) (by simp [RS.slot, List.map_cons, List.map_nil, rowsLe, rowLe, slotsLe, tvLe, TV.ren, AV.ren, C.ren, Dat.ren, Row.ren, TV.hs, AV.hs, C.hs, Dat.hs, get_cons, get_nil, zipSlots, List.getD_cons_zero, List.getD_cons_succ, List.getD_nil, -List.getD_eq_getElem?_getD])) (by exact ⟨b, hb2, rfl, rfl⟩)

theorem vAt_l (cs : List Int) (i : Nat) (hc : U8s cs) (hl : cs.length ≤ 65536) (hi : i ≤ 65536) : ACalls Try.prog 22 [tS 0 cs.length, tI i] [] [rU8 cs] (fun t H => ∃ b : Nat, b ≤ 255 ∧ t = tI b ∧ H = [rU8 cs]) := by
  refine afun (fun _ => none) [4] 1 Try.func22 rfl rfl mix (by kernel_rfl) (by kernel_rfl) (by simp [Try.f22]) rfl (by simp [msOwn, ownAll, Row.own]) ?_
  by_cases h : i < cs.length
  · have hd : decide ((i : Int) < cs.length) = true := by simp; omega
    have hb := hc i h
    obtain ⟨b, hbe⟩ : ∃ b : Nat, cs.getD i 0 = (b : Int) := ⟨(cs.getD i 0).toNat, by omega⟩
    rw [hbe] at hb
    simp (dsimp := false) only [hd, hbe, go_sem, Nat.reduceAdd, Nat.reduceBEq, Nat.reduceEqDiff, Nat.reduceLT, Nat.reduceLeDiff, reduceCtorEq, ↓reduceIte]
    repeat (refine And.intro (by first | exact True.intro | omega | kernel_rfl | (simp only [List.length_set, List.length_append, List.length_take, List.length_replicate, List.length_cons, true_and, and_true, List.length_nil, tabR_length]; omega)) ?_)
    refine afin [0] [aI b] [rU8 cs] (by simp) rfl (weak_of (by decide) (by simp [RS.slot, List.map_cons, List.map_nil, rowsLe, rowLe, slotsLe, tvLe, TV.ren, AV.ren, C.ren, Dat.ren, Row.ren, TV.hs, AV.hs, C.hs, Dat.hs, get_cons, get_nil, zipSlots, List.getD_cons_zero, List.getD_cons_succ, List.getD_nil, -List.getD_eq_getElem?_getD])) (by exact ⟨b, by omega, rfl, rfl⟩)
  · have hd : decide ((i : Int) < cs.length) = false := by simp; omega
    have e : ((i : Int) * 7 + (cs.length : Int)).tmod 256 = (((i * 7 + cs.length) % 256 : Nat) : Int) := by
      rw [Int.tmod_eq_emod_of_nonneg (by omega)]; omega
    simp (dsimp := false) only [hd, e, go_sem, Nat.reduceAdd, Nat.reduceBEq, Nat.reduceEqDiff, Nat.reduceLT, Nat.reduceLeDiff, reduceCtorEq, ↓reduceIte]
    repeat (refine And.intro (by first | exact True.intro | omega | kernel_rfl | (simp only [List.length_set, List.length_append, List.length_take, List.length_replicate, List.length_cons, true_and, and_true, List.length_nil, tabR_length]; omega)) ?_)
    refine afin [0] [aI ((i * 7 + cs.length) % 256 : Nat)] [rU8 cs] (by simp) rfl (weak_of (by decide) (by simp [RS.slot, List.map_cons, List.map_nil, rowsLe, rowLe, slotsLe, tvLe, TV.ren, AV.ren, C.ren, Dat.ren, Row.ren, TV.hs, AV.hs, C.hs, Dat.hs, get_cons, get_nil, zipSlots, List.getD_cons_zero, List.getD_cons_succ, List.getD_nil, -List.getD_eq_getElem?_getD])) (by exact ⟨(i * 7 + cs.length) % 256, by omega, rfl, rfl⟩)

/-- vInts: equal lists. -/
theorem vInts_l (xs ys : List Int) (n m : Nat) (hn : n ≤ xs.length) (hm : m ≤ ys.length) (hx : n ≤ 281474976710656) : ACalls Try.prog 23 [tS 0 n, tS 1 m] [] [rI xs, rI ys] (fun t H => t = tB (decide (xs.take n = ys.take m)) ∧ H = [rI xs, rI ys]) := by
  refine afun (fun i => match i with | 6 => some ⟨[], .op 0 .held (.op 1 .held (.op 2 .held (.op 3 .now (.op 4 .held (.op 5 .held (.op 6 .held (.op 7 .now (.op 8 .held .nil))))))))⟩ | _ => none) [4] 2 Try.func23 rfl rfl mix (by kernel_rfl) (by kernel_rfl) (by simp [Try.f23]) rfl (by simp [msOwn, ownAll, Row.own]) ?_
  by_cases h' : n = m
  · subst h'
    have hne : (((n : Int) != (n : Int))) = false := by simp
    simp (dsimp := false) only [hne, go_sem, Nat.reduceAdd, Nat.reduceBEq, Nat.reduceEqDiff, Nat.reduceLT, Nat.reduceLeDiff, reduceCtorEq, ↓reduceIte]
    refine aloop (σ := Nat) (fun k => ([(0, tS 0 n), (1, tS 1 n), (5, tI k)], [rI xs, rI ys])) (fun k => k ≤ n ∧ xs.take k = ys.take k) (fun k => n - k) 0 ([0, 1]) ⟨by omega, by simp⟩ (weak_of (by decide) (by simp [RS.slot, List.map_cons, List.map_nil, rowsLe, rowLe, slotsLe, tvLe, TV.ren, AV.ren, C.ren, Dat.ren, Row.ren, TV.hs, AV.hs, C.hs, Dat.hs, get_cons, get_nil, zipSlots, List.getD_cons_zero, List.getD_cons_succ, List.getD_nil, -List.getD_eq_getElem?_getD])) ?_
    rintro k ⟨hk, he⟩
    by_cases h1 : k < n
    · have hd : decide ((k : Int) < n) = true := decide_eq_true (by omega)
      simp (dsimp := false) only [hd, go_sem, Nat.reduceAdd, Nat.reduceBEq, Nat.reduceEqDiff, Nat.reduceLT, Nat.reduceLeDiff, reduceCtorEq, ↓reduceIte]
      repeat (refine And.intro (by first | exact True.intro | omega | kernel_rfl | (simp only [List.length_set, List.length_append, List.length_take, List.length_replicate, List.length_cons, true_and, and_true, List.length_nil, tabR_length]; omega)) ?_)
      refine ⟨fun h => ?_, fun h => ?_⟩
      · have h2 : ¬ xs.take n = ys.take n := ne_take h1 hn hm (by simpa using h)
        refine afin [0, 1] [aB false] [rI xs, rI ys] (by simp) rfl (weak_of (by decide) (by simp [RS.slot, List.map_cons, List.map_nil, rowsLe, rowLe, slotsLe, tvLe, TV.ren, AV.ren, C.ren, Dat.ren, Row.ren, TV.hs, AV.hs, C.hs, Dat.hs, get_cons, get_nil, zipSlots, List.getD_cons_zero, List.getD_cons_succ, List.getD_nil, -List.getD_eq_getElem?_getD, h2])) (by simp [rtv, h2, -List.getD_eq_getElem?_getD])
      · have h2 : xs.getD k 0 = ys.getD k 0 := by simpa using h
        repeat (refine And.intro (by first | exact True.intro | omega | kernel_rfl | (simp only [List.length_set, List.length_append, List.length_take, List.length_replicate, List.length_cons, true_and, and_true, List.length_nil, tabR_length]; omega)) ?_)
        refine ⟨k + 1, [0, 1], ?_, weak_of (by decide) (by simp [RS.slot, List.map_cons, List.map_nil, rowsLe, rowLe, slotsLe, tvLe, TV.ren, AV.ren, C.ren, Dat.ren, Row.ren, TV.hs, AV.hs, C.hs, Dat.hs, get_cons, get_nil, zipSlots, List.getD_cons_zero, List.getD_cons_succ, List.getD_nil, -List.getD_eq_getElem?_getD])⟩
        exact ⟨⟨by omega, take_succ_eq (by omega) (by omega) he h2⟩, by omega⟩
    · have h1 : n = k := by omega
      subst h1
      have hd : decide ((n : Int) < n) = false := decide_eq_false (by omega)
      simp (dsimp := false) only [hd, go_sem, Nat.reduceAdd, Nat.reduceBEq, Nat.reduceEqDiff, Nat.reduceLT, Nat.reduceLeDiff, reduceCtorEq, ↓reduceIte]
      refine afin [0, 1] [aB true] [rI xs, rI ys] (by simp) rfl (weak_of (by decide) (by simp [RS.slot, List.map_cons, List.map_nil, rowsLe, rowLe, slotsLe, tvLe, TV.ren, AV.ren, C.ren, Dat.ren, Row.ren, TV.hs, AV.hs, C.hs, Dat.hs, get_cons, get_nil, zipSlots, List.getD_cons_zero, List.getD_cons_succ, List.getD_nil, -List.getD_eq_getElem?_getD, he])) (by simp [rtv, he, -List.getD_eq_getElem?_getD])
  · have : ¬ xs.take n = ys.take m := fun e => h' (by have := congrArg List.length e; simpa [Nat.min_eq_left hn, Nat.min_eq_left hm] using this)
    have hne : (((n : Int) != (m : Int))) = true := by rw [bne_iff_ne]; omega
    simp (dsimp := false) only [hne, go_sem, Nat.reduceAdd, Nat.reduceBEq, Nat.reduceEqDiff, Nat.reduceLT, Nat.reduceLeDiff, reduceCtorEq, ↓reduceIte]
    refine afin [0, 1] [aB false] [rI xs, rI ys] (by simp) rfl (weak_of (by decide) (by simp [RS.slot, List.map_cons, List.map_nil, rowsLe, rowLe, slotsLe, tvLe, TV.ren, AV.ren, C.ren, Dat.ren, Row.ren, TV.hs, AV.hs, C.hs, Dat.hs, get_cons, get_nil, zipSlots, List.getD_cons_zero, List.getD_cons_succ, List.getD_nil, -List.getD_eq_getElem?_getD, this])) (by simp [rtv, this, -List.getD_eq_getElem?_getD])
theorem vInts_same (xs : List Int) (hx : xs.length ≤ 281474976710656) : ACalls Try.prog 23 [tS 0 xs.length, tS 1 xs.length] [] [rI xs, rI xs] (fun t H => t = tB true ∧ H = [rI xs, rI xs]) :=
  (vInts_l xs xs _ _ (Nat.le_refl _) (Nat.le_refl _) hx).mono fun t H h => by simpa using h
theorem vInts_pre (xs : List Int) (n : Nat) (hn : n ≤ xs.length) (hx : n ≤ 281474976710656) : ACalls Try.prog 23 [tS 0 n, tS 1 n] [] [rI xs, rI xs] (fun t H => t = tB true ∧ H = [rI xs, rI xs]) :=
  (vInts_l xs xs n n hn hn hx).mono fun t H h => by simpa using h
theorem vInts_ne : ACalls Try.prog 23 [tN, tS 0 0] [] [rI []] (fun t H => t = tB true ∧ H = [rI []]) := by
  refine afun (fun i => match i with | 6 => some ⟨[], .op 0 .held (.op 1 .held (.op 2 .held (.op 3 .now (.op 4 .held (.op 5 .held (.op 6 .held (.op 7 .now (.op 8 .held .nil))))))))⟩ | _ => none) [4] 1 Try.func23 rfl rfl mix (by kernel_rfl) (by kernel_rfl) (by simp [Try.f23]) rfl (by simp [msOwn, ownAll, Row.own]) ?_
  simp (dsimp := false) only [Int.ofNat_zero, Int.natCast_zero, go_sem, Nat.reduceAdd, Nat.reduceBEq, Nat.reduceEqDiff, Nat.reduceLT, Nat.reduceLeDiff, reduceCtorEq, ↓reduceIte]
  refine aloop (σ := Nat) (fun k => ([(0, tN), (1, tS 0 0), (5, tI 0)], [rI []])) (fun k => True) (fun k => 0) 0 ([0]) trivial (weak_of (by decide) (by simp [RS.slot, List.map_cons, List.map_nil, rowsLe, rowLe, slotsLe, tvLe, TV.ren, AV.ren, C.ren, Dat.ren, Row.ren, TV.hs, AV.hs, C.hs, Dat.hs, get_cons, get_nil, zipSlots, List.getD_cons_zero, List.getD_cons_succ, List.getD_nil, -List.getD_eq_getElem?_getD])) ?_
  intro _ _
  simp (dsimp := false) only [Int.natCast_zero, Int.lt_irrefl, decide_false, go_sem, Nat.reduceAdd, Nat.reduceBEq, Nat.reduceEqDiff, Nat.reduceLT, Nat.reduceLeDiff, reduceCtorEq, ↓reduceIte]
  refine afin [0] [aB true] [rI []] (by simp) rfl (weak_of (by decide) (by simp [RS.slot, List.map_cons, List.map_nil, rowsLe, rowLe, slotsLe, tvLe, TV.ren, AV.ren, C.ren, Dat.ren, Row.ren, TV.hs, AV.hs, C.hs, Dat.hs, get_cons, get_nil, zipSlots, List.getD_cons_zero, List.getD_cons_succ, List.getD_nil, -List.getD_eq_getElem?_getD])) (by simp [rtv])
theorem vInts_nn : ACalls Try.prog 23 [tN, tN] [] [] (fun t H => t = tB true ∧ H = []) := by
  refine afun (fun i => match i with | 6 => some ⟨[], .op 0 .held (.op 1 .held (.op 2 .held (.op 3 .now (.op 4 .held (.op 5 .held (.op 6 .held (.op 7 .now (.op 8 .held .nil))))))))⟩ | _ => none) [4] 0 Try.func23 rfl rfl mix (by kernel_rfl) (by kernel_rfl) (by simp [Try.f23]) rfl (by simp [msOwn, ownAll, Row.own]) ?_
  simp (dsimp := false) only [go_sem, Nat.reduceAdd, Nat.reduceBEq, Nat.reduceEqDiff, Nat.reduceLT, Nat.reduceLeDiff, reduceCtorEq, ↓reduceIte]
  refine aloop (σ := Nat) (fun k => ([(0, tN), (1, tN), (5, tI 0)], [])) (fun k => True) (fun k => 0) 0 ([]) trivial (weak_of (by decide) (by simp [RS.slot, List.map_cons, List.map_nil, rowsLe, rowLe, slotsLe, tvLe, TV.ren, AV.ren, C.ren, Dat.ren, Row.ren, TV.hs, AV.hs, C.hs, Dat.hs, get_cons, get_nil, zipSlots, List.getD_cons_zero, List.getD_cons_succ, List.getD_nil, -List.getD_eq_getElem?_getD])) ?_
  intro _ _
  simp (dsimp := false) only [Int.natCast_zero, Int.lt_irrefl, decide_false, go_sem, Nat.reduceAdd, Nat.reduceBEq, Nat.reduceEqDiff, Nat.reduceLT, Nat.reduceLeDiff, reduceCtorEq, ↓reduceIte]
  refine afin [] [aB true] [] (by simp) rfl (weak_of (by decide) (by simp [RS.slot, List.map_cons, List.map_nil, rowsLe, rowLe, slotsLe, tvLe, TV.ren, AV.ren, C.ren, Dat.ren, Row.ren, TV.hs, AV.hs, C.hs, Dat.hs, get_cons, get_nil, zipSlots, List.getD_cons_zero, List.getD_cons_succ, List.getD_nil, -List.getD_eq_getElem?_getD])) (by simp [rtv])
end Go.Proofs.Ytpoappgfmjnioaa
