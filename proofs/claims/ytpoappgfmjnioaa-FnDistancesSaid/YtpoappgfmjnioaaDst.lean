/- Contracts: the orders that the law on distances draws. -/
import Derived.Test.YtpoappgfmjnioaaPlDist
import Derived.Test.YtpoappgfmjnioaaPerm
import Derived.Test.YtpoappgfmjnioaaVl
set_option linter.unusedSimpArgs false
set_option linter.unusedVariables false
set_option linter.unusedSectionVars false
namespace Go.Proofs.Ytpoappgfmjnioaa
open Go Go.Ax
set_option maxRecDepth 10000
set_option maxHeartbeats 1000000

/-- A list of the numbers below n is valid for the program. -/
theorem seenR_ex {xs : List Int} {j : Nat} : ∀ k, (seenR xs k).getD j false = true → ∃ i, i < k ∧ (xs.getD i 0).toNat = j
  | 0, h => by
    exfalso
    simp only [seenR, List.getD_eq_getElem?_getD, List.getElem?_replicate] at h
    split at h <;> simp at h
  | k + 1, h => by
    by_cases e : (xs.getD k 0).toNat = j
    · exact ⟨k, by omega, e⟩
    · have h2 : (seenR xs k).getD j false = true := by
        simp only [seenR, List.getD_eq_getElem?_getD (l := List.set _ _ _)] at h
        rw [List.getElem?_set_ne e, ← List.getD_eq_getElem?_getD] at h
        exact h
      obtain ⟨i, hi, he⟩ := seenR_ex k h2
      exact ⟨i, by omega, he⟩
theorem allR_all {p : Nat → Bool} : ∀ n, (∀ i, i < n → p i = true) → allR p n = true
  | 0, _ => rfl
  | n + 1, h => by rw [allR, allR_all n (fun i hi => h i (by omega)), h n (by omega)]; rfl
theorem pm_permB {ps : List Int} {n : Nat} (h : ps.Perm (idL n)) (hn : n ≤ 64) : permB ps = true := by
  have hl := pm_len h
  unfold permB
  rw [Bool.and_eq_true]
  refine ⟨decide_eq_true (by omega), allR_all _ (fun i hi => ?_)⟩
  have hb := pm_bd h (i := i) (by omega)
  unfold stepOK
  rw [decide_eq_true hb.1, decide_eq_true (show ps.getD i 0 ≤ (ps.length : Int) - 1 by omega)]
  cases hs : (seenR ps i).getD (ps.getD i 0).toNat false
  · rfl
  · exfalso
    obtain ⟨k, hk, he⟩ := seenR_ex i hs
    have hb2 := pm_bd h (i := k) (by omega)
    exact pm_ne h (i := k) (k := i) (by omega) (by omega) (by omega) (by omega)

theorem ins_perm {ps : List Int} {n k : Nat} (h : ps.Perm (idL n)) : (ps.take k ++ [(n : Int)] ++ ps.drop k).Perm (idL (n + 1)) := by
  rw [idL_succ]
  refine List.Perm.trans ?_ (h.append_right _)
  rw [List.append_assoc]
  refine (List.Perm.append_left _ List.perm_append_comm).trans ?_
  rw [← List.append_assoc, List.take_append_drop]

theorem rOrder_l (cs : List Int) (n : Nat) (hc : U8s cs) (hl : cs.length ≤ 65536) (hn : n ≤ 9) :
    ACalls Try.prog 26 [tS 0 cs.length, tI n] [] [rU8 cs] (fun t H => ∃ ps : List Int, ps.Perm (idL n) ∧ t = tS 1 n ∧ H = [rU8 cs, oI ps]) := by
  refine afun (fun i => match i with | 6 => some ⟨[], .op 1 .held (.op 2 .held (.op 3 .held (.op 5 .held (.op 8 .held (.op 9 .held (.op 10 .held (.two 0 6 (.two 4 6 (.op 6 .only (.op 7 .only (.op 11 .only (.op 12 .held .nil)))) (.op 4 .only (.op 7 .only (.op 11 .only (.op 12 .held .nil))))) (.op 0 .only (.op 4 .only (.op 7 .only (.op 11 .only (.op 12 .held .nil))))))))))))⟩ | _ => none) [4] 1 Try.func26 rfl rfl mix (by kernel_rfl) (by kernel_rfl) (by simp [Try.f26]) rfl (by simp [msOwn, ownAll, Row.own]) ?_
  simp (dsimp := false) only [go_sem, Nat.reduceAdd, Nat.reduceBEq, Nat.reduceEqDiff, Nat.reduceLT, Nat.reduceLeDiff, reduceCtorEq, ↓reduceIte]
  refine aloopQ (σ := Nat × List Int) (fun s => ([(0, tS 0 cs.length), (1, tI n), (5, tS 1 s.1), (6, tI s.1)], [rU8 cs, oI s.2])) (fun s => s.1 ≤ n ∧ s.2.Perm (idL s.1)) (fun s => n - s.1) (0, []) [0, 1] ⟨by omega, List.Perm.refl _⟩ (weak_of (by decide) (by simp [RS.slot, List.map_cons, List.map_nil, rowsLe, rowLe, slotsLe, tvLe, TV.ren, AV.ren, C.ren, Dat.ren, Row.ren, TV.hs, AV.hs, C.hs, Dat.hs, get_cons, get_nil, zipSlots, List.getD_cons_zero, List.getD_cons_succ, List.getD_nil, -List.getD_eq_getElem?_getD])) ?_
  rintro Q hQ ⟨i, ps⟩ ⟨hi, hp⟩
  simp only at hi hp
  have hpl := pm_len hp
  by_cases hc2 : i < n
  · have hcd : decide ((i : Int) < n) = true := by simp; omega
    have ei : (i : Int) + 1 = ((i + 1 : Nat) : Int) := by omega
    simp (dsimp := false) only [hcd, go_sem, Nat.reduceAdd, Nat.reduceBEq, Nat.reduceEqDiff, Nat.reduceLT, Nat.reduceLeDiff, reduceCtorEq, ↓reduceIte]
    repeat (refine And.intro (by first | exact True.intro | omega | kernel_rfl | (simp only [List.length_set, List.length_append, List.length_take, List.length_replicate, List.length_cons, true_and, and_true, List.length_nil, tabR_length]; omega)) ?_)
    refine ⟨_, (vAt_l cs i hc hl (by omega)).lift [0] (by decide) (by simp) (by simp [RS.slot, List.map_cons, List.map_nil, rowsLe, rowLe, slotsLe, tvLe, TV.ren, AV.ren, C.ren, Dat.ren, Row.ren, TV.hs, AV.hs, C.hs, Dat.hs, get_cons, get_nil, zipSlots, List.getD_cons_zero, List.getD_cons_succ, List.getD_nil, -List.getD_eq_getElem?_getD]) (by simp [RS.slot, List.map_cons, List.map_nil, rowsLe, rowLe, slotsLe, tvLe, TV.ren, AV.ren, C.ren, Dat.ren, Row.ren, TV.hs, AV.hs, C.hs, Dat.hs, get_cons, get_nil, zipSlots, List.getD_cons_zero, List.getD_cons_succ, List.getD_nil, -List.getD_eq_getElem?_getD]) (by simp [RS.slot, List.map_cons, List.map_nil, rowsLe, rowLe, slotsLe, tvLe, TV.ren, AV.ren, C.ren, Dat.ren, Row.ren, TV.hs, AV.hs, C.hs, Dat.hs, get_cons, get_nil, zipSlots, List.getD_cons_zero, List.getD_cons_succ, List.getD_nil, -List.getD_eq_getElem?_getD]) rfl ?_⟩
    rintro _ _ ⟨u, hu, rfl, rfl⟩
    refine ⟨by simp [ownIn, Row.own], ?_⟩
    simp (dsimp := false) only [ei, liftT, liftH, putBack, freshR, ownIn, Row.own, Row.ren, TV.ren, AV.ren, C.ren, Dat.ren, List.drop_succ_cons, List.drop_nil, List.getD_cons_zero, List.getD_cons_succ, List.getD_nil, go_sem, Nat.reduceAdd, Nat.reduceBEq, Nat.reduceEqDiff, Nat.reduceLT, Nat.reduceLeDiff, reduceCtorEq, ↓reduceIte]
    obtain ⟨k, hk⟩ : ∃ k, k = u % (i + 1) := ⟨_, rfl⟩
    have hki : k ≤ i := by have := Nat.mod_lt u (show i + 1 > 0 by omega); omega
    have e1 : (u : Int).tmod ((i + 1 : Nat) : Int) = (k : Int) := by rw [Int.tmod_eq_emod_of_nonneg (by omega), hk]; rfl
    have hl1 : (ps.take k).length = k := by simp; omega
    have hl2 : (ps.take k ++ [(i : Int)]).length = k + 1 := by simp; omega
    have hf : (ps.take k ++ [(i : Int)]) ++ (ps.drop k).take (i - k) = ps.take k ++ [(i : Int)] ++ ps.drop k := by
      have e9 : (ps.drop k).take (i - k) = ps.drop k := List.take_of_length_le (by rw [List.length_drop]; omega)
      rw [e9]
    have hlen : k + 1 + (i - k) = i + 1 := by omega
    have hpm := ins_perm (k := k) hp
    simp (dsimp := false) only [e1, ei, Int.toNat_natCast, Int.natCast_zero, Int.toNat_zero, Nat.sub_zero, go_sem, Nat.reduceAdd, Nat.reduceBEq, Nat.reduceEqDiff, Nat.reduceLT, Nat.reduceLeDiff, reduceCtorEq, ↓reduceIte]
    repeat' apply And.intro
    all_goals first | exact True.intro | omega | (simp only [List.length_take, List.length_drop, List.length_append, List.length_cons, List.length_nil]; omega) | (refine ⟨(i + 1, ps.take k ++ [(i : Int)] ++ ps.drop k), [0, 6], ?_, weak_of (by decide) (by simp [RS.slot, List.map_cons, List.map_nil, rowsLe, rowLe, slotsLe, tvLe, TV.ren, AV.ren, C.ren, Dat.ren, Row.ren, TV.hs, AV.hs, C.hs, Dat.hs, get_cons, get_nil, zipSlots, List.getD_cons_zero, List.getD_cons_succ, List.getD_nil, -List.getD_eq_getElem?_getD, hf, hlen])⟩; dsimp only; exact ⟨⟨by omega, hpm⟩, by omega⟩)
  · have hcd : decide ((i : Int) < n) = false := by simp; omega
    have e : i = n := by omega
    subst e
    simp (dsimp := false) only [hcd, go_sem, Nat.reduceAdd, Nat.reduceBEq, Nat.reduceEqDiff, Nat.reduceLT, Nat.reduceLeDiff, reduceCtorEq, ↓reduceIte]
    refine hQ _ _ _ ?_
    simp (dsimp := false) only [go_sem, Nat.reduceAdd, Nat.reduceBEq, Nat.reduceEqDiff, Nat.reduceLT, Nat.reduceLeDiff, reduceCtorEq, ↓reduceIte]
    refine afin [0, 1] [aS 1 i] [rU8 cs, oI ps] (by simp) rfl (weak_of (by decide) (by simp [RS.slot, List.map_cons, List.map_nil, rowsLe, rowLe, slotsLe, tvLe, TV.ren, AV.ren, C.ren, Dat.ren, Row.ren, TV.hs, AV.hs, C.hs, Dat.hs, get_cons, get_nil, zipSlots, List.getD_cons_zero, List.getD_cons_succ, List.getD_nil, -List.getD_eq_getElem?_getD])) (by exact ⟨ps, hp, rfl, rfl⟩)

theorem by_u8 : byt Try.prog 5 = some 1 := by kernel_rfl
theorem vCut_l (cs : List Int) (m : Nat) (hc : U8s cs) (hl : cs.length ≤ 65536) (hm : m ≤ 255) (hm1 : 1 ≤ m) :
    ACalls Try.prog 27 [tS 0 cs.length, tI m] [] [rU8 cs] (fun t H => ∃ ds : List Int, U8s ds ∧ ds.length ≤ 65536 ∧ t = tS 1 ds.length ∧ H = [rU8 cs, .r true (.ints .u8 ds)]) := by
  obtain ⟨k, hk⟩ : ∃ k, k = min m cs.length := ⟨_, rfl⟩
  have hw : IntKind.u8.wrap (k : Int) = (k : Int) := by rw [IntKind.wrap_u8]; omega
  have hds : U8s (cs.drop k ++ [(k : Int)]) := fun i hi => by
    by_cases h1 : i < (cs.drop k).length
    · have := hc (k + i) (by simp at h1; omega)
      simp only [List.getD_eq_getElem?_getD, List.getElem?_append_left h1, List.getElem?_drop] at this ⊢
      exact this
    · have h2 : i = (cs.drop k).length := by simp at hi h1 ⊢; omega
      subst h2
      simp only [List.getD_eq_getElem?_getD, List.getElem?_append_right (Nat.le_refl _), Nat.sub_self, List.getElem?_cons_zero, Option.getD_some]
      omega
  have hdl : (cs.drop k ++ [(k : Int)]).length = cs.length - k + 1 := by simp
  have e9 : (cs.drop k).take (cs.length - k) = cs.drop k := List.take_of_length_le (by rw [List.length_drop]; exact Nat.le_refl _)
  have hdl2 : (cs.drop k).length = cs.length - k := List.length_drop ..
  have h65 : cs.length - k + 1 ≤ 65536 := by
    by_cases h0 : cs.length = 0
    · omega
    · omega
  refine afun (fun _ => none) [4] 1 Try.func27 rfl rfl mix (by kernel_rfl) (by kernel_rfl) (by simp [Try.f27]) rfl (by simp [msOwn, ownAll, Row.own]) ?_
  by_cases h : (cs.length : Int) < (m : Int)
  · have hd : decide ((cs.length : Int) < (m : Int)) = true := decide_eq_true h
    have ek : k = cs.length := by omega
    rw [ek] at hw e9 hdl hds hdl2 h65
    simp (dsimp := false) only [hd, hw, by_u8, Int.toNat_natCast, go_sem, Nat.reduceAdd, Nat.reduceBEq, Nat.reduceEqDiff, Nat.reduceLT, Nat.reduceLeDiff, reduceCtorEq, ↓reduceIte]
    repeat (refine And.intro (by first | exact True.intro | omega | kernel_rfl | (simp only [List.length_set, List.length_append, List.length_take, List.length_replicate, List.length_cons, true_and, and_true, List.length_nil, tabR_length]; omega)) ?_)
    have hd1 : U8s [(cs.length : Int)] := by
      have : cs.drop cs.length ++ [(cs.length : Int)] = [(cs.length : Int)] := by simp
      rw [← this]; exact hds
    refine afin [0, 4] [.c (.sl 1 1 0 1)] [rU8 cs, .r true (.ints .u8 [(cs.length : Int)])] (by simp) rfl (weak_of (by decide) (by simp [RS.slot, List.map_cons, List.map_nil, rowsLe, rowLe, slotsLe, tvLe, TV.ren, AV.ren, C.ren, Dat.ren, Row.ren, TV.hs, AV.hs, C.hs, Dat.hs, get_cons, get_nil, zipSlots, List.getD_cons_zero, List.getD_cons_succ, List.getD_nil, -List.getD_eq_getElem?_getD])) (by exact ⟨[(cs.length : Int)], hd1, by simp, rfl, rfl⟩)
  · have hd : decide ((cs.length : Int) < (m : Int)) = false := decide_eq_false h
    have ek : k = m := by omega
    rw [ek] at hw e9 hdl hds hdl2 h65
    simp (dsimp := false) only [hd, hw, by_u8, Int.toNat_natCast, go_sem, Nat.reduceAdd, Nat.reduceBEq, Nat.reduceEqDiff, Nat.reduceLT, Nat.reduceLeDiff, reduceCtorEq, ↓reduceIte]
    repeat (refine And.intro (by first | exact True.intro | omega | kernel_rfl | (simp only [List.length_set, List.length_append, List.length_take, List.length_replicate, List.length_cons, true_and, and_true, List.length_nil, tabR_length]; omega)) ?_)
    simp only [e9]
    refine afin [0, 4] [.c (.sl 1 1 0 (cs.length - m + 1))] [rU8 cs, .r true (.ints .u8 (cs.drop m ++ [(m : Int)]))] (by simp) rfl (weak_of (by decide) (by simp [RS.slot, List.map_cons, List.map_nil, rowsLe, rowLe, slotsLe, tvLe, TV.ren, AV.ren, C.ren, Dat.ren, Row.ren, TV.hs, AV.hs, C.hs, Dat.hs, get_cons, get_nil, zipSlots, List.getD_cons_zero, List.getD_cons_succ, List.getD_nil, -List.getD_eq_getElem?_getD])) (by exact ⟨_, hds, by rw [hdl]; omega, by rw [hdl]; rfl, rfl⟩)
end Go.Proofs.Ytpoappgfmjnioaa
