/- Contracts: the validity of merge trees, in the reference. -/
import Derived.Test.YtpoappgfmjnioaaMtC
import Derived.Test.YtpoappgfmjnioaaMtB
set_option linter.unusedSimpArgs false
set_option linter.unusedVariables false
set_option linter.unusedSectionVars false
set_option linter.unnecessarySimpa false
namespace Go.Proofs.Ytpoappgfmjnioaa
open Go Go.Ax
set_option maxRecDepth 10000
set_option maxHeartbeats 1000000

/-! ### The levels of a list's tree -/

def mtDep (n : Nat) : Nat := if n ≤ 1 then 0 else if n ≤ 2 then 1 else if n ≤ 4 then 2 else if n ≤ 8 then 3 else if n ≤ 16 then 4 else if n ≤ 32 then 5 else 6
theorem mtDep_ok {n : Nat} (h : n ≤ 64) : mtDep n ≤ 6 ∧ (∀ d, d < mtDep n → 2 ^ d < n) ∧ n ≤ 2 ^ mtDep n := by
  unfold mtDep
  repeat' split
  all_goals
    refine ⟨by omega, fun d hd => ?_, by omega⟩
    have hc : d = 0 ∨ d = 1 ∨ d = 2 ∨ d = 3 ∨ d = 4 ∨ d = 5 := by omega
    rcases hc with rfl | rfl | rfl | rfl | rfl | rfl <;> omega
def lvAt (xs : List Int) (d : Nat) : List Int := if d = 0 then xs else lvF xs (2 ^ d)
theorem lvAt_len (xs : List Int) (d : Nat) : (lvAt xs d).length = xs.length := by
  unfold lvAt
  split
  · rfl
  · exact lvF_len (Nat.one_le_two_pow)
def lvs (xs : List Int) : List (List Int) := (List.range (mtDep xs.length + 1)).map (lvAt xs)
theorem lvs_len (xs : List Int) : (lvs xs).length = mtDep xs.length + 1 := by simp [lvs]
theorem lvs_at {xs : List Int} {d : Nat} (h : d ≤ mtDep xs.length) : (lvs xs)[d]? = some (lvAt xs d) := by
  rw [lvs, List.getElem?_map, List.getElem?_range (by omega)]; rfl
theorem mtH_lvs (xs : List Int) (D : Nat) (hD : D ≤ 6) : mtH xs D = rI xs :: nst true true 1 ((List.range (D + 1)).map (lvAt xs)) := by
  have e0 : lvAt xs 0 = xs := rfl
  have e1 : lvAt xs 1 = lvF xs 2 := rfl
  have e2 : lvAt xs 2 = lvF xs 4 := rfl
  have e3 : lvAt xs 3 = lvF xs 8 := rfl
  have e4 : lvAt xs 4 = lvF xs 16 := rfl
  have e5 : lvAt xs 5 = lvF xs 32 := rfl
  have e6 : lvAt xs 6 = lvF xs 64 := rfl
  have q1 := lvF_len (xs := xs) (s := 2) (by omega)
  have q2 := lvF_len (xs := xs) (s := 4) (by omega)
  have q3 := lvF_len (xs := xs) (s := 8) (by omega)
  have q4 := lvF_len (xs := xs) (s := 16) (by omega)
  have q5 := lvF_len (xs := xs) (s := 32) (by omega)
  have q6 := lvF_len (xs := xs) (s := 64) (by omega)
  have hc : D = 0 ∨ D = 1 ∨ D = 2 ∨ D = 3 ∨ D = 4 ∨ D = 5 ∨ D = 6 := by omega
  rcases hc with rfl | rfl | rfl | rfl | rfl | rfl | rfl <;>
    simp [mtH, nst, nsC, List.range_succ, e0, e1, e2, e3, e4, e5, e6, q1, q2, q3, q4, q5, q6]
theorem l10Build_n (xs : List Int) (hx : xs.length ≤ 64) : ACalls Try.prog 71 [tS 0 xs.length] [] [rI xs] (fun t H => t = tMt 1 (lvs xs).length ∧ H = rI xs :: nst true true 1 (lvs xs)) := by
  obtain ⟨h1, h2, h3⟩ := mtDep_ok hx
  have h := l10Build_l xs (mtDep xs.length) h1 hx h2 h3
  rw [mtH_lvs xs _ h1] at h
  rw [lvs_len]
  exact h
theorem mergeTree_n (xs : List Int) (hx : xs.length ≤ 64) : ACalls Try.prog 72 [tS 0 xs.length] [] [rI xs] (fun t H => t = tMt 1 (lvs xs).length ∧ H = rI xs :: nst true true 1 (lvs xs)) := by
  obtain ⟨h1, h2, h3⟩ := mtDep_ok hx
  have h := mergeTree_l xs (mtDep xs.length) h1 hx h2 h3
  rw [mtH_lvs xs _ h1] at h
  rw [lvs_len]
  exact h

/-! ### Calls on one list, in any heap -/

theorem one_g {k : FuncId} {G : Hp} {h : Nat} {o : Bool} {xs : List Int} {v : TV} {is : List Int} (hG : G[h]? = some (rwI o xs)) (hv : ∀ ρ, v.ren ρ = v) (hl : ACalls Try.prog k (tS 0 xs.length :: is.map tI) [] [rI xs] (fun t H => t = v ∧ H = [rI xs])) :
    ACalls Try.prog k (tS h xs.length :: is.map tI) [] G (fun t G' => t = v ∧ G' = G) := by
  have hl' : ACalls Try.prog k (tS 0 xs.length :: is.map tI) [] [rI xs] (fun t H => t = v ∧ H = [rI xs] ++ []) := hl
  refine (ACalls.liftN hl' [h] (by simp [Row.own]) (by simp) (by simp) rfl ?_ ?_ ?_).mono ?_
  · intro i h' row h1 h2
    match i, h1, h2 with
    | 0, h1, h2 =>
      simp at h1 h2; subst h1; subst h2
      rw [hG]; exact ⟨getlt hG, rowLe_rw⟩
  · simp only [List.map_cons, List.map_map, TV.ren, AV.ren, C.ren]
    congr 1
  · intro t ht h hh
    simp only [List.mem_cons, List.mem_map] at ht
    rcases ht with rfl | ⟨x, _, rfl⟩ <;> simp [TV.hs, AV.hs, C.hs] at hh
    subst hh; simp
  · rintro t G' ⟨rfl, rfl⟩
    exact ⟨hv _, by simp⟩
theorem mt_lift {k : FuncId} {G : Hp} {h : Nat} {o : Bool} {xs : List Int} {ps : List (List Int)} (hl : ACalls Try.prog k [tS 0 xs.length] [] [rI xs] (fun t H => t = tMt 1 ps.length ∧ H = rI xs :: nst true true 1 ps))
    (hG : G[h]? = some (rwI o xs)) : ACalls Try.prog k [tS h xs.length] [] G (fun t G' => t = tMt G.length ps.length ∧ G' = G ++ nst true true G.length ps) := by
  have hl' : ACalls Try.prog k [tS 0 xs.length] [] [rI xs] (fun t H => t = tMt 1 ps.length ∧ H = [rI xs] ++ nst true true 1 ps) := hl
  refine (ACalls.liftN hl' [h] (by simp [Row.own]) nst_own (by simp) rfl ?_ (by simp [TV.ren, AV.ren, C.ren]) (by simp [TV.hs, AV.hs, C.hs])).mono ?_
  · intro i h' row h1 h2
    match i, h1, h2 with
    | 0, h1, h2 =>
      simp at h1 h2; subst h1; subst h2
      rw [hG]; exact ⟨getlt hG, rowLe_rw⟩
  · rintro t G' ⟨rfl, rfl⟩
    refine ⟨?_, by rw [nst_fresh (ρ := [h]) (b := 1) rfl]⟩
    simp only [TV.ren, List.map_cons, List.map_nil, AV.ren, C.ren, List.singleton_append, List.getD_cons_succ, freshR_range, nst_len]
    rw [range'_getD (by omega)]; rfl
theorem nst_end (G : Hp) (ps : List (List Int)) : Nst true true (G ++ nst true true G.length ps) G.length ps := by
  have := Nst.at true true G [] ps
  simpa using this
theorem two_g {k : FuncId} {G : Hp} {a b : Nat} {o o' : Bool} {xs ys : List Int} {v : Value} (hA : G[a]? = some (rwI o xs)) (hB : G[b]? = some (rwI o' ys)) (hab : a ≠ b)
    (hl : ACalls Try.prog k [tS 0 xs.length, tS 1 ys.length] [] [rI xs, rI ys] (fun t H => t = .a (.c (.v v)) ∧ H = [rI xs, rI ys])) :
    ACalls Try.prog k [tS a xs.length, tS b ys.length] [] G (fun t G' => t = .a (.c (.v v)) ∧ G' = G) := by
  have hl' : ACalls Try.prog k [tS 0 xs.length, tS 1 ys.length] [] [rI xs, rI ys] (fun t H => t = .a (.c (.v v)) ∧ H = [rI xs, rI ys] ++ []) := hl
  refine (ACalls.liftN hl' [a, b] (by simp [Row.own]) (by simp [Row.own]) (by simp [hab]) rfl ?_ (by simp [TV.ren, AV.ren, C.ren]) (by simp [TV.hs, AV.hs, C.hs])).mono ?_
  · intro i h' row h1 h2
    match i, h1, h2 with
    | 0, h1, h2 =>
      simp at h1 h2; subst h1; subst h2
      rw [hA]; exact ⟨getlt hA, rowLe_rw⟩
    | 1, h1, h2 =>
      simp at h1 h2; subst h1; subst h2
      rw [hB]; exact ⟨getlt hB, rowLe_rw⟩
  · rintro t G' ⟨rfl, rfl⟩
    simp [TV.ren, AV.ren, C.ren]

theorem l1Same_s (xs ys : List Int) (hx : xs.length ≤ 281474976710656) : ACalls Try.prog 90 [tS 0 xs.length, tS 1 ys.length] [] [rI xs, rI ys] (fun t H => t = tB (decide (xs = ys)) ∧ H = [rI xs, rI ys]) := by
  refine afun (fun i => match i with | 6 => some ⟨[], .op 0 .held (.op 1 .held (.op 2 .held (.op 3 .now (.op 4 .held (.op 5 .held (.op 6 .held (.op 7 .now (.op 8 .held .nil))))))))⟩ | _ => none) [4] 2 Try.func90 rfl rfl mix (by kernel_rfl) (by kernel_rfl) (by simp [Try.f90]) rfl (by simp [msOwn, ownAll, Row.own]) ?_
  simp (dsimp := false) only [go_sem, Nat.reduceAdd, Nat.reduceBEq, Nat.reduceEqDiff, Nat.reduceLT, Nat.reduceLeDiff, reduceCtorEq, ↓reduceIte]
  refine ⟨fun h => ?_, fun h => ?_⟩
  · have h' : xs.length ≠ ys.length := by simp at h; omega
    have : ¬ xs = ys := fun e => h' (by rw [e])
    refine afin [0, 1] [aB false] [rI xs, rI ys] (by simp) rfl (weak_of (by decide) (by simp [RS.slot, List.map_cons, List.map_nil, rowsLe, rowLe, slotsLe, tvLe, TV.ren, AV.ren, C.ren, Dat.ren, Row.ren, TV.hs, AV.hs, C.hs, Dat.hs, get_cons, get_nil, zipSlots, List.getD_cons_zero, List.getD_cons_succ, List.getD_nil, -List.getD_eq_getElem?_getD, this])) (by simp [rtv, this, -List.getD_eq_getElem?_getD])
  · have h' : xs.length = ys.length := by simp at h; omega
    refine aloop (σ := Nat) (fun k => ([(0, tS 0 xs.length), (1, tS 1 ys.length), (5, tI k)], [rI xs, rI ys])) (fun k => k ≤ xs.length ∧ xs.take k = ys.take k) (fun k => xs.length - k) 0 ([0, 1]) ⟨by omega, by simp⟩ (weak_of (by decide) (by simp [RS.slot, List.map_cons, List.map_nil, rowsLe, rowLe, slotsLe, tvLe, TV.ren, AV.ren, C.ren, Dat.ren, Row.ren, TV.hs, AV.hs, C.hs, Dat.hs, get_cons, get_nil, zipSlots, List.getD_cons_zero, List.getD_cons_succ, List.getD_nil, -List.getD_eq_getElem?_getD])) ?_
    rintro k ⟨hk, he⟩
    simp (dsimp := false) only [go_sem, Nat.reduceAdd, Nat.reduceBEq, Nat.reduceEqDiff, Nat.reduceLT, Nat.reduceLeDiff, reduceCtorEq, ↓reduceIte]
    refine ⟨fun h => ?_, fun h => ?_⟩
    · have h1 : k < xs.length := by simpa using h
      repeat (refine And.intro (by first | exact True.intro | omega | kernel_rfl | (simp only [List.length_set, List.length_append, List.length_take, List.length_replicate, List.length_cons, true_and, and_true, List.length_nil, tabR_length]; omega)) ?_)
      refine ⟨fun h => ?_, fun h => ?_⟩
      · have h2 : ¬ xs = ys := fun e => by subst e; simp at h
        refine afin [0, 1] [aB false] [rI xs, rI ys] (by simp) rfl (weak_of (by decide) (by simp [RS.slot, List.map_cons, List.map_nil, rowsLe, rowLe, slotsLe, tvLe, TV.ren, AV.ren, C.ren, Dat.ren, Row.ren, TV.hs, AV.hs, C.hs, Dat.hs, get_cons, get_nil, zipSlots, List.getD_cons_zero, List.getD_cons_succ, List.getD_nil, -List.getD_eq_getElem?_getD, h2])) (by simp [rtv, h2, -List.getD_eq_getElem?_getD])
      · have h2 : xs.getD k 0 = ys.getD k 0 := by simpa using h
        repeat (refine And.intro (by first | exact True.intro | omega | kernel_rfl | (simp only [List.length_set, List.length_append, List.length_take, List.length_replicate, List.length_cons, true_and, and_true, List.length_nil, tabR_length]; omega)) ?_)
        refine ⟨k + 1, [0, 1], ?_, weak_of (by decide) (by simp [RS.slot, List.map_cons, List.map_nil, rowsLe, rowLe, slotsLe, tvLe, TV.ren, AV.ren, C.ren, Dat.ren, Row.ren, TV.hs, AV.hs, C.hs, Dat.hs, get_cons, get_nil, zipSlots, List.getD_cons_zero, List.getD_cons_succ, List.getD_nil, -List.getD_eq_getElem?_getD])⟩
        exact ⟨⟨by omega, take_succ_eq (by omega) (by omega) he h2⟩, by omega⟩
    · have h1 : k = xs.length := by simp at h; omega
      subst h1
      have h2 : xs = ys := by
        rw [List.take_of_length_le (Nat.le_refl _), List.take_of_length_le (by omega)] at he; exact he
      refine afin [0, 1] [aB true] [rI xs, rI ys] (by simp) rfl (weak_of (by decide) (by simp [RS.slot, List.map_cons, List.map_nil, rowsLe, rowLe, slotsLe, tvLe, TV.ren, AV.ren, C.ren, Dat.ren, Row.ren, TV.hs, AV.hs, C.hs, Dat.hs, get_cons, get_nil, zipSlots, List.getD_cons_zero, List.getD_cons_succ, List.getD_nil, -List.getD_eq_getElem?_getD, h2])) (by simp [rtv, h2, -List.getD_eq_getElem?_getD])
theorem equal_s (xs ys : List Int) (hx : xs.length ≤ 281474976710656) : ACalls Try.prog 77 [tS 0 xs.length, tS 1 ys.length] [] [rI xs, rI ys] (fun t H => t = tB (decide (xs = ys)) ∧ H = [rI xs, rI ys]) := by
  refine afun (fun i => match i with | 6 => some ⟨[], .op 0 .held (.op 1 .held (.op 2 .held (.op 3 .now (.op 4 .held (.op 5 .held (.op 6 .held (.op 7 .now (.op 8 .held .nil))))))))⟩ | _ => none) [4] 2 Try.func77 rfl rfl mix (by kernel_rfl) (by kernel_rfl) (by simp [Try.f77]) rfl (by simp [msOwn, ownAll, Row.own]) ?_
  simp (dsimp := false) only [go_sem, Nat.reduceAdd, Nat.reduceBEq, Nat.reduceEqDiff, Nat.reduceLT, Nat.reduceLeDiff, reduceCtorEq, ↓reduceIte]
  refine ⟨fun h => ?_, fun h => ?_⟩
  · have h' : xs.length ≠ ys.length := by simp at h; omega
    have : ¬ xs = ys := fun e => h' (by rw [e])
    refine afin [0, 1] [aB false] [rI xs, rI ys] (by simp) rfl (weak_of (by decide) (by simp [RS.slot, List.map_cons, List.map_nil, rowsLe, rowLe, slotsLe, tvLe, TV.ren, AV.ren, C.ren, Dat.ren, Row.ren, TV.hs, AV.hs, C.hs, Dat.hs, get_cons, get_nil, zipSlots, List.getD_cons_zero, List.getD_cons_succ, List.getD_nil, -List.getD_eq_getElem?_getD, this])) (by simp [rtv, this, -List.getD_eq_getElem?_getD])
  · have h' : xs.length = ys.length := by simp at h; omega
    refine aloop (σ := Nat) (fun k => ([(0, tS 0 xs.length), (1, tS 1 ys.length), (12, tI xs.length), (13, tI k)], [rI xs, rI ys])) (fun k => k ≤ xs.length ∧ xs.take k = ys.take k) (fun k => xs.length - k) 0 ([0, 1]) ⟨by omega, by simp⟩ (weak_of (by decide) (by simp [RS.slot, List.map_cons, List.map_nil, rowsLe, rowLe, slotsLe, tvLe, TV.ren, AV.ren, C.ren, Dat.ren, Row.ren, TV.hs, AV.hs, C.hs, Dat.hs, get_cons, get_nil, zipSlots, List.getD_cons_zero, List.getD_cons_succ, List.getD_nil, -List.getD_eq_getElem?_getD])) ?_
    rintro k ⟨hk, he⟩
    simp (dsimp := false) only [go_sem, Nat.reduceAdd, Nat.reduceBEq, Nat.reduceEqDiff, Nat.reduceLT, Nat.reduceLeDiff, reduceCtorEq, ↓reduceIte]
    refine ⟨fun h => ?_, fun h => ?_⟩
    · have h1 : k < xs.length := by simpa using h
      repeat (refine And.intro (by first | exact True.intro | omega | kernel_rfl | (simp only [List.length_set, List.length_append, List.length_take, List.length_replicate, List.length_cons, true_and, and_true, List.length_nil, tabR_length]; omega)) ?_)
      refine ⟨fun h => ?_, fun h => ?_⟩
      · have h2 : ¬ xs = ys := fun e => by subst e; simp at h
        refine afin [0, 1] [aB false] [rI xs, rI ys] (by simp) rfl (weak_of (by decide) (by simp [RS.slot, List.map_cons, List.map_nil, rowsLe, rowLe, slotsLe, tvLe, TV.ren, AV.ren, C.ren, Dat.ren, Row.ren, TV.hs, AV.hs, C.hs, Dat.hs, get_cons, get_nil, zipSlots, List.getD_cons_zero, List.getD_cons_succ, List.getD_nil, -List.getD_eq_getElem?_getD, h2])) (by simp [rtv, h2, -List.getD_eq_getElem?_getD])
      · have h2 : xs.getD k 0 = ys.getD k 0 := by simpa using h
        repeat (refine And.intro (by first | exact True.intro | omega | kernel_rfl | (simp only [List.length_set, List.length_append, List.length_take, List.length_replicate, List.length_cons, true_and, and_true, List.length_nil, tabR_length]; omega)) ?_)
        refine ⟨k + 1, [0, 1], ?_, weak_of (by decide) (by simp [RS.slot, List.map_cons, List.map_nil, rowsLe, rowLe, slotsLe, tvLe, TV.ren, AV.ren, C.ren, Dat.ren, Row.ren, TV.hs, AV.hs, C.hs, Dat.hs, get_cons, get_nil, zipSlots, List.getD_cons_zero, List.getD_cons_succ, List.getD_nil, -List.getD_eq_getElem?_getD])⟩
        exact ⟨⟨by omega, take_succ_eq (by omega) (by omega) he h2⟩, by omega⟩
    · have h1 : k = xs.length := by simp at h; omega
      subst h1
      have h2 : xs = ys := by
        rw [List.take_of_length_le (Nat.le_refl _), List.take_of_length_le (by omega)] at he; exact he
      refine afin [0, 1] [aB true] [rI xs, rI ys] (by simp) rfl (weak_of (by decide) (by simp [RS.slot, List.map_cons, List.map_nil, rowsLe, rowLe, slotsLe, tvLe, TV.ren, AV.ren, C.ren, Dat.ren, Row.ren, TV.hs, AV.hs, C.hs, Dat.hs, get_cons, get_nil, zipSlots, List.getD_cons_zero, List.getD_cons_succ, List.getD_nil, -List.getD_eq_getElem?_getD, h2])) (by simp [rtv, h2, -List.getD_eq_getElem?_getD])
theorem sameC_s (xs ys : List Int) (hx : xs.length ≤ 281474976710656) : ACalls Try.prog 76 [tS 0 xs.length, tS 1 ys.length] [] [rI xs, rI ys] (fun t H => t = tB (decide (xs = ys)) ∧ H = [rI xs, rI ys]) := by
  refine afun (fun _ => none) [4] 2 Try.func76 rfl rfl mix (by kernel_rfl) (by kernel_rfl) (by simp [Try.f76]) rfl (by simp [msOwn, ownAll, Row.own]) ?_
  simp (dsimp := false) only [go_sem, Nat.reduceAdd, Nat.reduceBEq, Nat.reduceEqDiff, Nat.reduceLT, Nat.reduceLeDiff, reduceCtorEq, ↓reduceIte]
  repeat (refine And.intro (by first | exact True.intro | omega | kernel_rfl | (simp only [List.length_set, List.length_append, List.length_take, List.length_replicate, List.length_cons, true_and, and_true, List.length_nil, tabR_length]; omega)) ?_)
  refine ⟨_, (equal_s xs ys hx).lift [0, 1] (by decide) (by simp) (by simp [RS.slot, List.map_cons, List.map_nil, rowsLe, rowLe, slotsLe, tvLe, TV.ren, AV.ren, C.ren, Dat.ren, Row.ren, TV.hs, AV.hs, C.hs, Dat.hs, get_cons, get_nil, zipSlots, List.getD_cons_zero, List.getD_cons_succ, List.getD_nil, -List.getD_eq_getElem?_getD]) (by simp [RS.slot, List.map_cons, List.map_nil, rowsLe, rowLe, slotsLe, tvLe, TV.ren, AV.ren, C.ren, Dat.ren, Row.ren, TV.hs, AV.hs, C.hs, Dat.hs, get_cons, get_nil, zipSlots, List.getD_cons_zero, List.getD_cons_succ, List.getD_nil, -List.getD_eq_getElem?_getD]) (by simp [RS.slot, List.map_cons, List.map_nil, rowsLe, rowLe, slotsLe, tvLe, TV.ren, AV.ren, C.ren, Dat.ren, Row.ren, TV.hs, AV.hs, C.hs, Dat.hs, get_cons, get_nil, zipSlots, List.getD_cons_zero, List.getD_cons_succ, List.getD_nil, -List.getD_eq_getElem?_getD]) rfl ?_⟩
  rintro _ _ ⟨rfl, rfl⟩
  refine ⟨by simp [ownIn, Row.own], ?_⟩
  simp (dsimp := false) only [liftT, liftH, putBack, freshR, ownIn, Row.own, Row.ren, TV.ren, AV.ren, C.ren, Dat.ren, List.drop_succ_cons, List.drop_nil, List.getD_cons_zero, List.getD_cons_succ, List.getD_nil, go_sem, Nat.reduceAdd, Nat.reduceBEq, Nat.reduceEqDiff, Nat.reduceLT, Nat.reduceLeDiff, reduceCtorEq, ↓reduceIte]
  refine afin [0, 1] [aB (decide (xs = ys))] [rI xs, rI ys] (by simp) rfl (weak_of (by decide) (by simp [RS.slot, List.map_cons, List.map_nil, rowsLe, rowLe, slotsLe, tvLe, TV.ren, AV.ren, C.ren, Dat.ren, Row.ren, TV.hs, AV.hs, C.hs, Dat.hs, get_cons, get_nil, zipSlots, List.getD_cons_zero, List.getD_cons_succ, List.getD_nil, -List.getD_eq_getElem?_getD])) (by simp [rtv])

/-! ### Valid trees, in the reference -/

def tvB : List (List Int) → Bool
  | [] => false
  | x :: r => validB x && decide (lvs x = x :: r)
theorem tvB_nil {xss : List (List Int)} (h : xss.length = 0) : tvB xss = false := by
  cases xss with
  | nil => rfl
  | cons x r => simp at h
theorem tvB_at {xss : List (List Int)} {x : List Int} (h : xss[0]? = some x) : tvB xss = (validB x && decide (lvs x = xss)) := by
  cases xss with
  | nil => simp at h
  | cons y r => simp at h; subst h; rfl

/-- A tree's box and a second tree's, made beside it: closed. -/
theorem mt_cl {G : Hp} {n L : Nat} {ys : List (List Int)} (hcl : Cl G) (hN0 : 0 < G.length) : Cl (((G ++ [cR [cSl 0 n]]) ++ nst true true (G.length + 1) ys) ++ [cR [cSl (G.length + 1) L]]) := by
  refine cl_app (cl_app (cl_app hcl ?_) ?_) ?_
  · intro r hr h hh
    simp at hr; subst hr
    simp [Row.hs, Dat.hs, C.hs] at hh
    subst hh; simp
  · intro r hr h hh
    rw [List.length_append, nst_len, List.length_append]
    simp only [nst, List.mem_cons, List.mem_map] at hr
    rcases hr with rfl | ⟨x, _, rfl⟩
    · simp only [Row.hs, Dat.hs, List.mem_flatMap] at hh
      obtain ⟨c, hc, hh⟩ := hh
      have := nsC_hs _ _ c hc h hh
      simp; omega
    · simp [Row.hs, Dat.hs] at hh
  · intro r hr h hh
    simp at hr; subst hr
    simp [Row.hs, Dat.hs, C.hs] at hh
    subst hh
    simp [nst_len]

theorem l10Tree_s (xss : List (List Int)) (hx : xss.length ≤ 281474976710656) (hr : ∀ x ∈ xss, x.length ≤ 281474976710656) :
    ACalls Try.prog 74 [tMt 0 xss.length] [] (nst false false 0 xss) (fun t H => t = tB (tvB xss) ∧ H = nst false false 0 xss) := by
  have hN : Nst false false (nst false false 0 xss) 0 xss := nst_pre [] xss
  have hl := nst_len false false 0 xss
  have hcl := nst_cl false false xss
  have hro := nst_ro (b := 0) (xss := xss)
  generalize nst false false 0 xss = G at *
  have hN0 : 0 < G.length := by omega
  have q0 := lkn G (cR [cSl 0 xss.length])
  have x1 : Ext G (G ++ [cR [cSl 0 xss.length]]) := Ext.app _ _
  have n1 : Nst false false (G ++ [cR [cSl 0 xss.length]]) 0 xss := hN.ext x1
  have l1 : (G ++ [cR [cSl 0 xss.length]]).length = G.length + 1 := by simp
  have g0 : (G ++ [cR [cSl 0 xss.length]])[0]? = some (.r false (.cells 1 (nsC 1 xss))) := n1.cells
  refine afun (fun i => match i with | 9 => some ⟨[], .op 0 .held (.op 1 .now (.op 2 .held (.op 3 .held (.op 4 .now (.op 5 .held (.op 6 .now (.op 7 .held (.op 8 .held (.op 9 .now (.op 10 .only (.op 11 .held .nil)))))))))))⟩ | _ => none) [2] G.length Try.func74 rfl rfl mix (by kernel_rfl) (by kernel_rfl) (by simp [Try.f74]) rfl (⟨trivial, ownAll_ro hro⟩) ?_
  by_cases hn : xss.length = 0
  · have hd : ((xss.length : Int) == 0) = true := by rw [beq_iff_eq]; omega
    have e := tvB_nil hn
    simp (dsimp := false) only [q0, hd, go_sem, Nat.reduceAdd, Nat.reduceBEq, Nat.reduceEqDiff, Nat.reduceLT, Nat.reduceLeDiff, reduceCtorEq, ↓reduceIte]
    refine afin (List.range G.length) [aB false] G (by simp) rfl (wk_ext (Nat.le_refl _) hcl x1 (by simp [slId, get_cons, get_nil, TV.hs, AV.hs, C.hs, RS.slot, zipSlots])) (by simp [rtv, e])
  have hd : ((xss.length : Int) == 0) = false := by rw [beq_eq_false_iff_ne]; omega
  obtain ⟨x, hx0⟩ : ∃ x, xss[0]? = some x := ⟨_, List.getElem?_eq_getElem (by omega)⟩
  have hxl := hr x (List.mem_of_getElem? hx0)
  have c0 : (nsC 1 xss)[0]? = some (.sl 1 (1 + 0) 0 x.length) := nsC_at hx0
  have r1 := n1.rows 0 x hx0
  have eT := tvB_at hx0
  have hl2 : ACalls Try.prog 52 (tS 0 x.length :: ([] : List Int).map tI) [] [rI x] (fun t H => t = tB (validB x) ∧ H = [rI x]) := l2List_l x hxl
  have hl2g := one_g (is := []) r1 (fun _ => rfl) hl2
  have hlt : decide ((0 : Int) < (xss.length : Int)) = true := decide_eq_true (by omega)
  simp (dsimp := false) only [q0, hd, g0, c0, Int.toNat_zero, go_sem, Nat.reduceAdd, Nat.reduceBEq, Nat.reduceEqDiff, Nat.reduceLT, Nat.reduceLeDiff, reduceCtorEq, ↓reduceIte]
  cases hv : validB x
  · rw [hv] at hl2g eT
    repeat (refine And.intro (by first | exact True.intro | omega | kernel_rfl | (simp only [List.length_set, List.length_append, List.length_take, List.length_replicate, List.length_cons, true_and, and_true, List.length_nil, tabR_length]; omega)) ?_)
    refine ⟨_, (hl2g).mono ?_⟩
    rintro _ G9 ⟨rfl, h9⟩
    have h9 := h9.symm
    subst h9
    simp (dsimp := false) only [hd, go_sem, Nat.reduceAdd, Nat.reduceBEq, Nat.reduceEqDiff, Nat.reduceLT, Nat.reduceLeDiff, reduceCtorEq, ↓reduceIte]
    refine afin (List.range G.length) [aB false] G (by simp) rfl (wk_ext (Nat.le_refl _) hcl x1 (by simp [slId, get_cons, get_nil, TV.hs, AV.hs, C.hs, RS.slot, zipSlots])) (by simp [rtv, eT])
  rw [hv] at hl2g eT
  have h64 := validB_len hv
  repeat (refine And.intro (by first | exact True.intro | omega | kernel_rfl | (simp only [List.length_set, List.length_append, List.length_take, List.length_replicate, List.length_cons, true_and, and_true, List.length_nil, tabR_length]; omega)) ?_)
  refine ⟨_, (hl2g).mono ?_⟩
  rintro _ G9 ⟨rfl, h9⟩
  have h9 := h9.symm
  subst h9
  simp (dsimp := false) only [hd, q0, g0, c0, Int.toNat_zero, go_sem, Nat.reduceAdd, Nat.reduceBEq, Nat.reduceEqDiff, Nat.reduceLT, Nat.reduceLeDiff, reduceCtorEq, ↓reduceIte]
  repeat (refine And.intro (by first | exact True.intro | omega | kernel_rfl | (simp only [List.length_set, List.length_append, List.length_take, List.length_replicate, List.length_cons, true_and, and_true, List.length_nil, tabR_length]; omega)) ?_)
  refine ⟨_, (mt_lift (l10Build_n x h64) r1).mono ?_⟩
  rintro _ G2 ⟨rfl, e2⟩
  have x2 : Ext (G ++ [cR [cSl 0 xss.length]]) G2 := by rw [e2]; exact Ext.app _ _
  have l2 : G2.length = G.length + 1 + ((lvs x).length + 1) := by rw [e2, List.length_append, nst_len, l1]
  have n2 : Nst true true G2 (G.length + 1) (lvs x) := by rw [e2, ← l1]; exact nst_end _ _
  have hclo : Cl (G2 ++ [cR [cSl (G.length + 1) (lvs x).length]]) := by rw [e2, l1]; exact mt_cl hcl hN0
  rw [l1] at e2
  have qz : (G2 ++ [cR [cN]])[G2.length]? = some (cR [cN]) := lkn _ _
  have qs : (G2 ++ [cR [cN]]).set G2.length (cR [cSl (G.length + 1) (lvs x).length]) = G2 ++ [cR [cSl (G.length + 1) (lvs x).length]] := by
    rw [List.set_append_right _ _ (Nat.le_refl _), Nat.sub_self]; rfl
  have x3 : Ext G (G2 ++ [cR [cSl (G.length + 1) (lvs x).length]]) := (x1.trans x2).trans (Ext.app _ _)
  have m3 : Nst false false (G2 ++ [cR [cSl (G.length + 1) (lvs x).length]]) 0 xss := hN.ext x3
  have n3 : Nst true true (G2 ++ [cR [cSl (G.length + 1) (lvs x).length]]) (G.length + 1) (lvs x) := n2.ext (Ext.app _ _)
  have q3 : (G2 ++ [cR [cSl (G.length + 1) (lvs x).length]])[G2.length]? = some (cR [cSl (G.length + 1) (lvs x).length]) := lkn _ _
  have q4 : (G2 ++ [cR [cSl (G.length + 1) (lvs x).length]])[G.length]? = some (cR [cSl 0 xss.length]) := lkp (x2 _ _ q0)
  have l3 : (G2 ++ [cR [cSl (G.length + 1) (lvs x).length]]).length = G2.length + 1 := by simp
  simp (dsimp := false) only [l1, hd, qz, qs, List.length_cons, List.length_nil, List.take_succ_cons, List.take_zero, go_sem, Nat.reduceAdd, Nat.reduceBEq, Nat.reduceEqDiff, Nat.reduceLT, Nat.reduceLeDiff, reduceCtorEq, ↓reduceIte]
  generalize (G2 ++ [cR [cSl (G.length + 1) (lvs x).length]]) = G3 at *
  have k0 : G3[0]? = some (.r false (.cells 1 (nsC 1 xss))) := m3.cells
  have k1 : G3[G.length + 1]? = some (.r true (.cells 1 (nsC (G.length + 1 + 1) (lvs x)))) := n3.cells
  by_cases hL : (lvs x).length = xss.length
  · have hdL : (((lvs x).length : Int) != (xss.length : Int)) = false := by rw [bne_eq_false_iff_eq]; omega
    simp (dsimp := false) only [q3, q4, hdL, go_sem, Nat.reduceAdd, Nat.reduceBEq, Nat.reduceEqDiff, Nat.reduceLT, Nat.reduceLeDiff, reduceCtorEq, ↓reduceIte]
    refine aloop (σ := Nat) (fun d => ([(1, .a (.c (.ptr G.length 0 0))), (3, .a (.c (.ptr G2.length 0 0))), (4, tI d)], G3)) (fun d => d ≤ xss.length ∧ (lvs x).take d = xss.take d) (fun d => xss.length - d) 0 (List.range G3.length) ⟨by omega, by simp⟩ (wk_id (by omega) hclo (by simp [slId, get_cons, get_nil, TV.hs, AV.hs, C.hs]; omega)) ?_
    rintro d ⟨hdn, hdt⟩
    by_cases hc : d < xss.length
    · have hcd : decide ((d : Int) < (xss.length : Int)) = true := decide_eq_true (by omega)
      obtain ⟨z, hz⟩ : ∃ z, xss[d]? = some z := ⟨_, List.getElem?_eq_getElem hc⟩
      obtain ⟨y, hy⟩ : ∃ y, (lvs x)[d]? = some y := ⟨_, List.getElem?_eq_getElem (by omega)⟩
      have cz := nsC_at (b := 1) hz
      have cy := nsC_at (b := G.length + 1 + 1) hy
      have hyl : y.length ≤ 281474976710656 := by
        rw [lvs_at (by rw [lvs_len] at hL; omega)] at hy
        cases hy
        rw [lvAt_len]; omega
      have hc1 := two_g (n3.rows d y hy) (m3.rows d z hz) (by omega) (l1Same_s y z hyl)
      simp (dsimp := false) only [hcd, q3, q4, k0, k1, cz, cy, Int.toNat_natCast, go_sem, Nat.reduceAdd, Nat.reduceBEq, Nat.reduceEqDiff, Nat.reduceLT, Nat.reduceLeDiff, reduceCtorEq, ↓reduceIte]
      by_cases hyz : y = z
      · have hdy : decide (y = z) = true := decide_eq_true hyz
        rw [hdy] at hc1
        rw [show 0 + 1 + d = 1 + d by omega] at hc1
        repeat (refine And.intro (by first | exact True.intro | omega | kernel_rfl | (simp only [List.length_set, List.length_append, List.length_take, List.length_replicate, List.length_cons, true_and, and_true, List.length_nil, tabR_length]; omega)) ?_)
        refine ⟨_, And.intro ?_ ((hc1).mono ?_)⟩
        · simp [msIn]
        rintro _ G9 ⟨rfl, h9⟩
        have h9 := h9.symm
        subst h9
        refine ⟨sameFrom_refl _ _ _, ?_⟩
        simp (dsimp := false) only [hcd, go_sem, Nat.reduceAdd, Nat.reduceBEq, Nat.reduceEqDiff, Nat.reduceLT, Nat.reduceLeDiff, reduceCtorEq, ↓reduceIte]
        repeat (refine And.intro (by first | exact True.intro | omega | kernel_rfl | (simp only [List.length_set, List.length_append, List.length_take, List.length_replicate, List.length_cons, true_and, and_true, List.length_nil, tabR_length]; omega)) ?_)
        subst hyz
        refine ⟨d + 1, List.range G3.length, ⟨⟨by omega, ?_⟩, by omega⟩, wk_id (by omega) hclo (by simp [slId, get_cons, get_nil, TV.hs, AV.hs, C.hs]; omega)⟩
        rw [take_snoc hy, take_snoc hz, hdt]
      · have hdy : decide (y = z) = false := decide_eq_false hyz
        rw [hdy] at hc1
        rw [show 0 + 1 + d = 1 + d by omega] at hc1
        have e : decide (lvs x = xss) = false := decide_eq_false fun e => hyz (by rw [e, hz] at hy; exact (Option.some.inj hy).symm)
        repeat (refine And.intro (by first | exact True.intro | omega | kernel_rfl | (simp only [List.length_set, List.length_append, List.length_take, List.length_replicate, List.length_cons, true_and, and_true, List.length_nil, tabR_length]; omega)) ?_)
        refine ⟨_, And.intro ?_ ((hc1).mono ?_)⟩
        · simp [msIn]
        rintro _ G9 ⟨rfl, h9⟩
        have h9 := h9.symm
        subst h9
        refine ⟨sameFrom_refl _ _ _, ?_⟩
        simp (dsimp := false) only [hcd, go_sem, Nat.reduceAdd, Nat.reduceBEq, Nat.reduceEqDiff, Nat.reduceLT, Nat.reduceLeDiff, reduceCtorEq, ↓reduceIte]
        refine afin (List.range G.length) [aB false] G (by simp) rfl (wk_ext (Nat.le_refl _) hcl x3 (by simp [slId, get_cons, get_nil, TV.hs, AV.hs, C.hs, RS.slot, zipSlots])) (by simp [rtv, eT, e])
    · have hcd : decide ((d : Int) < (xss.length : Int)) = false := decide_eq_false (by omega)
      have e : decide (lvs x = xss) = true := decide_eq_true (by
        rw [List.take_of_length_le (by omega), List.take_of_length_le (by omega)] at hdt; exact hdt)
      simp (dsimp := false) only [hcd, q3, q4, go_sem, Nat.reduceAdd, Nat.reduceBEq, Nat.reduceEqDiff, Nat.reduceLT, Nat.reduceLeDiff, reduceCtorEq, ↓reduceIte]
      refine afin (List.range G.length) [aB true] G (by simp) rfl (wk_ext (Nat.le_refl _) hcl x3 (by simp [slId, get_cons, get_nil, TV.hs, AV.hs, C.hs, RS.slot, zipSlots])) (by simp [rtv, eT, e])
  · have hdL : (((lvs x).length : Int) != (xss.length : Int)) = true := by rw [bne_iff_ne]; omega
    have e : decide (lvs x = xss) = false := decide_eq_false fun e => hL (by rw [e])
    simp (dsimp := false) only [q3, q4, hdL, go_sem, Nat.reduceAdd, Nat.reduceBEq, Nat.reduceEqDiff, Nat.reduceLT, Nat.reduceLeDiff, reduceCtorEq, ↓reduceIte]
    refine afin (List.range G.length) [aB false] G (by simp) rfl (wk_ext (Nat.le_refl _) hcl x3 (by simp [slId, get_cons, get_nil, TV.hs, AV.hs, C.hs, RS.slot, zipSlots])) (by simp [rtv, eT, e])
end Go.Proofs.Ytpoappgfmjnioaa
