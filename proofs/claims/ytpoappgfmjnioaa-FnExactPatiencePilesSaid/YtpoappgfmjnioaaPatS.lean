/- Contracts: patience piles in the reference. -/
import Derived.Test.YtpoappgfmjnioaaPat
set_option linter.unusedSimpArgs false
set_option linter.unusedVariables false
set_option linter.unusedSectionVars false
set_option linter.unnecessarySimpa false
namespace Go.Proofs.Ytpoappgfmjnioaa
open Go Go.Ax
set_option maxRecDepth 10000
set_option maxHeartbeats 1000000

abbrev cR (cs : List C) : Row := .r true (.cells 1 cs)
abbrev cSl (h n : Nat) : C := .sl 1 h 0 n

theorem sPat_t (xs : List Int) (hx : xs.length ≤ 281474976710656) (hv : validB xs = true) : ACalls Try.prog 32 [tS 0 xs.length] [] [rI xs]
    (fun t H => t = .tup [aSS 1 (pil xs xs.length).length, aB true] ∧ H = rI xs :: nst true true 1 (pil xs xs.length)) := by
  have h64 := validB_len hv
  refine afun (fun i => match i with | 8 => some ⟨[], .op 0 .held (.op 1 .held (.op 2 .held (.op 3 .held (.op 4 .held (.op 5 .held (.op 6 .held (.op 7 .held (.op 8 .now (.op 9 .held (.op 10 .held (.op 11 .held (.op 12 .now (.op 13 .held (.op 14 .held (.op 15 .held (.op 16 .now (.op 17 .held (.op 18 .held (.op 19 .held (.op 20 .now (.op 21 .held (.op 22 .held .nil))))))))))))))))))))))⟩ | 12 => some ⟨[], .free (.op 0 .held (.op 1 .held (.op 2 .held (.op 3 .held (.op 4 .held (.op 6 .held (.op 7 .held (.op 8 .held (.op 9 .held (.two 5 10 (.op 10 .only (.op 11 .only (.op 12 .held (.op 13 .only .nil)))) (.op 5 .only (.op 11 .only (.op 12 .held (.op 13 .only .nil))))))))))))))⟩ | _ => none) [2, 3] 1 Try.func32 rfl rfl mix (by kernel_rfl) (by kernel_rfl) (by simp [Try.f32]) rfl (by simp [msOwn, ownAll, Row.own]) ?_
  simp (dsimp := false) only [go_sem, Nat.reduceAdd, Nat.reduceBEq, Nat.reduceEqDiff, Nat.reduceLT, Nat.reduceLeDiff, reduceCtorEq, ↓reduceIte]
  repeat (refine And.intro (by first | exact True.intro | omega | kernel_rfl | (simp only [List.length_set, List.length_append, List.length_take, List.length_replicate, List.length_cons, true_and, and_true, List.length_nil, tabR_length]; omega)) ?_)
  refine ⟨_, (l2List_l xs hx).lift [0] (by decide) (by simp) (by simp [RS.slot, List.map_cons, List.map_nil, rowsLe, rowLe, slotsLe, tvLe, TV.ren, AV.ren, C.ren, Dat.ren, Row.ren, TV.hs, AV.hs, C.hs, Dat.hs, get_cons, get_nil, zipSlots, List.getD_cons_zero, List.getD_cons_succ, List.getD_nil, -List.getD_eq_getElem?_getD]) (by simp [RS.slot, List.map_cons, List.map_nil, rowsLe, rowLe, slotsLe, tvLe, TV.ren, AV.ren, C.ren, Dat.ren, Row.ren, TV.hs, AV.hs, C.hs, Dat.hs, get_cons, get_nil, zipSlots, List.getD_cons_zero, List.getD_cons_succ, List.getD_nil, -List.getD_eq_getElem?_getD]) (by simp [RS.slot, List.map_cons, List.map_nil, rowsLe, rowLe, slotsLe, tvLe, TV.ren, AV.ren, C.ren, Dat.ren, Row.ren, TV.hs, AV.hs, C.hs, Dat.hs, get_cons, get_nil, zipSlots, List.getD_cons_zero, List.getD_cons_succ, List.getD_nil, -List.getD_eq_getElem?_getD]) rfl ?_⟩
  rintro _ _ ⟨rfl, rfl⟩
  refine ⟨by simp [ownIn, Row.own], ?_⟩
  simp (dsimp := false) only [hv, liftT, liftH, putBack, freshR, ownIn, Row.own, Row.ren, TV.ren, AV.ren, C.ren, Dat.ren, List.drop_succ_cons, List.drop_nil, List.getD_cons_zero, List.getD_cons_succ, List.getD_nil, go_sem, Nat.reduceAdd, Nat.reduceBEq, Nat.reduceEqDiff, Nat.reduceLT, Nat.reduceLeDiff, reduceCtorEq, ↓reduceIte]
  repeat (refine And.intro (by first | exact True.intro | omega | kernel_rfl | (simp only [List.length_set, List.length_append, List.length_take, List.length_replicate, List.length_cons, true_and, and_true, List.length_nil, tabR_length]; omega)) ?_)
  refine aloop (σ := Nat) (fun i => ([(0, tS 0 xs.length), (4, tSS 1 (pil xs i).length), (5, tI i)], rI xs :: nst true true 1 (pil xs i))) (fun i => i ≤ xs.length) (fun i => xs.length - i) 0 ([0, 1]) (by omega) (weak_of (by decide) (by simp [RS.slot, List.map_cons, List.map_nil, rowsLe, rowLe, slotsLe, tvLe, TV.ren, AV.ren, C.ren, Dat.ren, Row.ren, TV.hs, AV.hs, C.hs, Dat.hs, get_cons, get_nil, zipSlots, List.getD_cons_zero, List.getD_cons_succ, List.getD_nil, -List.getD_eq_getElem?_getD, nst, nsC, pil])) ?_
  intro i hi
  have hne := pil_ne xs i
  have hpl := pil_len xs i
  have hpt := pil_tot xs i
  have hstep : pil xs (i + 1) = pilS (pil xs i) (xs.getD i 0) := rfl
  by_cases hc : i < xs.length
  · have hcd : decide ((i : Int) < (xs.length : Int)) = true := decide_eq_true (by omega)
    dsimp only
    have hN := pilc (xs := xs) (ps := pil xs i)
    have hcl := pil_cl xs (pil xs i)
    have hl : (rI xs :: nst true true 1 (pil xs i)).length = (pil xs i).length + 2 := by rw [List.length_cons, nst_len]
    have g0 : (rI xs :: nst true true 1 (pil xs i))[0]? = some (rI xs) := rfl
    generalize hps : pil xs i = ps at *
    generalize hx0 : xs.getD i 0 = x at *
    generalize hG : (rI xs :: nst true true 1 ps) = G at *
    have g1 : G[1]? = some (.r true (.cells 1 (nsC 2 ps))) := hN.cells
    have gR : ∀ k q, ps[k]? = some q → G[2 + k]? = some (oI q) := fun k q h => hN.rows k q h
    have hN0 : 0 < G.length := by omega
    have hN1 : 1 < G.length := by omega
    simp (dsimp := false) only [hcd, go_sem, Nat.reduceAdd, Nat.reduceBEq, Nat.reduceEqDiff, Nat.reduceLT, Nat.reduceLeDiff, reduceCtorEq, ↓reduceIte]
    repeat (refine And.intro (by first | exact True.intro | omega | kernel_rfl | (simp only [List.length_set, List.length_append, List.length_take, List.length_replicate, List.length_cons, true_and, and_true, List.length_nil, tabR_length]; omega)) ?_)
    refine aloopQ (σ := Nat) (fun k => ([(0, tS 0 xs.length), (4, tSS 1 ps.length), (5, tI i), (6, tI k)], G)) (fun k => k ≤ ps.length ∧ ∀ j q, j < k → ps[j]? = some q → lasI q < x) (fun k => ps.length - k) 0 (List.range G.length) ⟨by omega, fun j q h => by omega⟩ (wk_id (by omega) hcl (by simp [slId, get_cons, get_nil, TV.hs, AV.hs, C.hs, RS.slot, zipSlots, hN0, hN1])) ?_
    rintro Q hQ k ⟨hk, hq⟩
    by_cases hkl : k < ps.length
    · have hcd1 : decide ((k : Int) < (ps.length : Int)) = true := decide_eq_true (by omega)
      have hqe : ((k : Int) == (ps.length : Int)) = false := by rw [beq_eq_false_iff_ne]; omega
      obtain ⟨p, hp⟩ : ∃ p, ps[k]? = some p := ⟨_, List.getElem?_eq_getElem hkl⟩
      have hpb := tot_mem (List.mem_of_getElem? hp)
      have hpn : 0 < p.length := List.length_pos_iff.2 (hne p (List.mem_of_getElem? hp))
      have c0 := nsC_at (b := 2) hp
      have gp := gR k p hp
      simp (dsimp := false) only [hcd1, g0, g1, c0, gp, hx0, Int.toNat_natCast, go_sem, Nat.reduceAdd, Nat.reduceBEq, Nat.reduceEqDiff, Nat.reduceLT, Nat.reduceLeDiff, reduceCtorEq, ↓reduceIte]
      repeat (refine And.intro (by first | exact True.intro | omega | kernel_rfl | (simp only [List.length_set, List.length_append, List.length_take, List.length_replicate, List.length_cons, true_and, and_true, List.length_nil, tabR_length]; omega)) ?_)
      refine ⟨fun h => ?_, fun h => ?_⟩
      · have h1 : lasI p < x := of_decide_eq_true h
        repeat (refine And.intro (by first | exact True.intro | omega | kernel_rfl | (simp only [List.length_set, List.length_append, List.length_take, List.length_replicate, List.length_cons, true_and, and_true, List.length_nil, tabR_length]; omega)) ?_)
        refine ⟨k + 1, List.range G.length, ⟨⟨by omega, fun j q hj hjq => ?_⟩, by omega⟩, wk_id (by omega) hcl (by simp [slId, get_cons, get_nil, TV.hs, AV.hs, C.hs, RS.slot, zipSlots, hN0, hN1])⟩
        by_cases e : j = k
        · subst e; rw [hp] at hjq; cases hjq; exact h1
        · exact hq j q (by omega) hjq
      · have h1 : ¬ lasI p < x := of_decide_eq_false h
        have hK := pilK_eq hq hp h1
        refine hQ _ _ _ ?_
        simp (dsimp := false) only [hqe, go_sem, Nat.reduceAdd, Nat.reduceBEq, Nat.reduceEqDiff, Nat.reduceLT, Nat.reduceLeDiff, reduceCtorEq, ↓reduceIte]
        refine WX_at [1, 2 + k] ?_ ?_
        · simp [msOwn, g1, gp]
        have a0 : (G ++ [oI [x]])[1]? = some (.r true (.cells 1 (nsC 2 ps))) := lkp g1
        have a1 : (G ++ [oI [x]])[2 + k]? = some (oI p) := lkp gp
        have a2 : (G ++ [oI [x]])[G.length]? = some (oI [x]) := lkn G _
        have a3 : ((G ++ [oI [x]]).set (2 + k) .dead ++ [oI (p ++ [x])])[1]? = some (.r true (.cells 1 (nsC 2 ps))) := lkp (lks (lkp g1) (by omega))
        have hks : k < (nsC 2 ps).length := by rw [nsC_len]; exact hkl
        have s1 : SF [1, 2 + k] G (G ++ [oI [x]]) := (SF.refl _ G).app _
        have s2 : SF [1, 2 + k] G ((G ++ [oI [x]]).set (2 + k) .dead ++ [oI (p ++ [x])]) := (s1.set _ (by simp)).app _
        have s3 : ∀ r, SF [1, 2 + k] G (((G ++ [oI [x]]).set (2 + k) .dead ++ [oI (p ++ [x])]).set 1 r) := fun r => s2.set _ (by simp)
        have s1' := s1.same
        have s2' := s2.same
        have s3' := fun r => (s3 r).same
        simp (dsimp := false) only [g0, g1, c0, gp, hx0, Int.toNat_natCast, a0, a1, a2, a3, hks, s1', s2', s3', List.take_succ_cons, List.take_zero, List.length_append, List.length_set, go_sem, Nat.reduceAdd, Nat.reduceBEq, Nat.reduceEqDiff, Nat.reduceLT, Nat.reduceLeDiff, reduceCtorEq, ↓reduceIte]
        repeat (refine And.intro (by first | exact True.intro | omega | kernel_rfl | (simp only [List.length_set, List.length_append, List.length_take, List.length_replicate, List.length_cons, true_and, and_true, List.length_nil, tabR_length]; omega)) ?_)
        have e9 : pil xs (i + 1) = ps.set k (p ++ [x]) := by
          rw [hstep, pilS, hK, if_pos hkl]
          have : ps.getD k [] = p := by rw [List.getD_eq_getElem?_getD, hp]; rfl
          rw [this]
        have w0 : (((G ++ [oI [x]]).set (2 + k) .dead ++ [oI (p ++ [x])]).set 1 (.r true (.cells 1 ((nsC 2 ps).set k (.sl 1 (G.length + 1) 0 (p.length + 1))))))[0]? = some (rI xs) := lks (lkp (lks (lkp g0) (by omega))) (by omega)
        have w1 : (((G ++ [oI [x]]).set (2 + k) .dead ++ [oI (p ++ [x])]).set 1 (.r true (.cells 1 ((nsC 2 ps).set k (.sl 1 (G.length + 1) 0 (p.length + 1))))))[1]? = some (.r true (.cells 1 ((nsC 2 ps).set k (.sl 1 (G.length + 1) 0 (p.length + 1))))) := List.getElem?_set_self (by simp)
        have w2 : (((G ++ [oI [x]]).set (2 + k) .dead ++ [oI (p ++ [x])]).set 1 (.r true (.cells 1 ((nsC 2 ps).set k (.sl 1 (G.length + 1) 0 (p.length + 1))))))[G.length + 1]? = some (oI (p ++ [x])) := by
          refine lks ?_ (by omega)
          have := lkn ((G ++ [oI [x]]).set (2 + k) .dead) (oI (p ++ [x]))
          simpa using this
        have w3 : ∀ (j : Nat) q, j ≠ k → ps[j]? = some q → (((G ++ [oI [x]]).set (2 + k) .dead ++ [oI (p ++ [x])]).set 1 (.r true (.cells 1 ((nsC 2 ps).set k (.sl 1 (G.length + 1) 0 (p.length + 1))))))[2 + j]? = some (oI q) := fun j q hj hq' => lks (lkp (lks (lkp (gR j q hq')) (by omega))) (by omega)
        refine And.intro ?_ ?_
        · repeat (refine And.intro (by first | exact True.intro | omega | kernel_rfl | (simp only [List.length_set, List.length_append, List.length_take, List.length_replicate, List.length_cons, true_and, and_true, List.length_nil, tabR_length]; omega)) ?_)
          refine ⟨i + 1, [0] ++ 1 :: (List.range' 2 ps.length).set k (G.length + 1), ⟨by omega, by omega⟩, ?_⟩
          rw [e9]
          exact wk_grow rfl hp w0 w1 rfl w2 w3 (by omega) rfl (by simp [RS.slot, List.map_cons, List.map_nil, rowsLe, rowLe, slotsLe, tvLe, TV.ren, AV.ren, C.ren, Dat.ren, Row.ren, TV.hs, AV.hs, C.hs, Dat.hs, get_cons, get_nil, zipSlots, List.getD_cons_zero, List.getD_cons_succ, List.getD_nil, -List.getD_eq_getElem?_getD])
        · repeat (refine And.intro (by first | exact True.intro | omega | kernel_rfl | (simp only [List.length_set, List.length_append, List.length_take, List.length_replicate, List.length_cons, true_and, and_true, List.length_nil, tabR_length]; omega)) ?_)
          refine ⟨i + 1, [0] ++ 1 :: (List.range' 2 ps.length).set k (G.length + 1), ⟨by omega, by omega⟩, ?_⟩
          rw [e9]
          exact wk_grow rfl hp w0 w1 rfl w2 w3 (by omega) rfl (by simp [RS.slot, List.map_cons, List.map_nil, rowsLe, rowLe, slotsLe, tvLe, TV.ren, AV.ren, C.ren, Dat.ren, Row.ren, TV.hs, AV.hs, C.hs, Dat.hs, get_cons, get_nil, zipSlots, List.getD_cons_zero, List.getD_cons_succ, List.getD_nil, -List.getD_eq_getElem?_getD])
    · have hke : k = ps.length := by omega
      subst hke
      have hcd1 : decide ((ps.length : Int) < (ps.length : Int)) = false := decide_eq_false (by omega)
      have hqe : ((ps.length : Int) == (ps.length : Int)) = true := by simp
      have hK := pilK_end hq
      simp (dsimp := false) only [hcd1, go_sem, Nat.reduceAdd, Nat.reduceBEq, Nat.reduceEqDiff, Nat.reduceLT, Nat.reduceLeDiff, reduceCtorEq, ↓reduceIte]
      refine hQ _ _ _ ?_
      have hone := nsC_one 2 ps
      have htk : ((nsC 2 ps).drop 0).take ps.length = nsC 2 ps := by rw [List.drop_zero]; exact List.take_of_length_le (by rw [nsC_len]; exact Nat.le_refl _)
      have a1 : ((G ++ [oI []]) ++ [cR [cSl G.length 0]])[1]? = some (cR (nsC 2 ps)) := lkp (lkp g1)
      have a2 : ((G ++ [oI []]) ++ [cR [cSl G.length 0]])[G.length + 1]? = some (cR [cSl G.length 0]) := by
        have := lkn (G ++ [oI []]) (cR [cSl G.length 0])
        simpa using this
      simp (dsimp := false) only [hqe, g1, a1, a2, hone, nsC_len, List.take_succ_cons, List.take_zero, List.length_append, List.length_set, List.all_cons, List.all_nil, Bool.and_self, go_sem, Nat.reduceAdd, Nat.reduceBEq, Nat.reduceEqDiff, Nat.reduceLT, Nat.reduceLeDiff, reduceCtorEq, ↓reduceIte]
      have b0 : (((G ++ [oI []]) ++ [cR [cSl G.length 0]]).set 1 Row.dead ++ [cR (nsC 2 ps ++ [cSl G.length 0])])[0]? = some (rI xs) := lkp (lks (lkp (lkp g0)) (by omega))
      have b1 : (((G ++ [oI []]) ++ [cR [cSl G.length 0]]).set 1 Row.dead ++ [cR (nsC 2 ps ++ [cSl G.length 0])])[G.length + 2]? = some (cR (nsC 2 ps ++ [cSl G.length 0])) := by
        have := lkn (((G ++ [oI []]) ++ [cR [cSl G.length 0]]).set 1 Row.dead) (cR (nsC 2 ps ++ [cSl G.length 0]))
        simpa using this
      have b2 : (((G ++ [oI []]) ++ [cR [cSl G.length 0]]).set 1 Row.dead ++ [cR (nsC 2 ps ++ [cSl G.length 0])])[G.length]? = some (oI []) := lkp (lks (lkp (lkn G _)) (by omega))
      have b3 : ∀ j q, ps[j]? = some q → (((G ++ [oI []]) ++ [cR [cSl G.length 0]]).set 1 Row.dead ++ [cR (nsC 2 ps ++ [cSl G.length 0])])[2 + j]? = some (oI q) := fun j q h => lkp (lks (lkp (lkp (gR j q h))) (by omega))
      have b4 : (((G ++ [oI []]) ++ [cR [cSl G.length 0]]).set 1 Row.dead ++ [cR (nsC 2 ps ++ [cSl G.length 0])]).length = G.length + 3 := by simp
      generalize (((G ++ [oI []]) ++ [cR [cSl G.length 0]]).set 1 Row.dead ++ [cR (nsC 2 ps ++ [cSl G.length 0])]) = G1 at *
      repeat (refine And.intro (by first | exact True.intro | omega | kernel_rfl | (simp only [List.length_set, List.length_append, List.length_take, List.length_replicate, List.length_cons, true_and, and_true, List.length_nil, tabR_length]; omega)) ?_)
      have c0 : (nsC 2 ps ++ [cSl G.length 0])[ps.length]? = some (cSl G.length 0) := by
        rw [List.getElem?_append_right (by rw [nsC_len]; exact Nat.le_refl _), nsC_len, Nat.sub_self]; rfl
      have hcl2 : (nsC 2 ps ++ [cSl G.length 0]).length = ps.length + 1 := by rw [List.length_append, nsC_len]; rfl
      have hset : (nsC 2 ps ++ [cSl G.length 0]).set ps.length (cSl (G1.length + 1) 1) = nsC 2 ps ++ [cSl (G1.length + 1) 1] := by
        rw [List.set_append_right _ _ (by rw [nsC_len]; exact Nat.le_refl _), nsC_len, Nat.sub_self]; rfl
      refine WX_at [G.length + 2, G.length] ?_ ?_
      · simp [msOwn, b1, b2]
      have d1 : (G1 ++ [oI [x]])[G.length]? = some (oI []) := lkp b2
      have d2 : (G1 ++ [oI [x]])[G1.length]? = some (oI [x]) := lkn G1 _
      have d4 : (G1 ++ [oI [x]])[G.length + 2]? = some (cR (nsC 2 ps ++ [cSl G.length 0])) := lkp b1
      have d3 : ((G1 ++ [oI [x]]).set G.length Row.dead ++ [oI [x]])[G.length + 2]? = some (cR (nsC 2 ps ++ [cSl G.length 0])) := lkp (lks (lkp b1) (by omega))
      have hks : ps.length < ps.length + 1 := by omega
      have s1 : SF [G.length + 2, G.length] G1 (G1 ++ [oI [x]]) := (SF.refl _ G1).app _
      have s2 : SF [G.length + 2, G.length] G1 ((G1 ++ [oI [x]]).set G.length Row.dead ++ [oI [x]]) := (s1.set _ (by simp)).app _
      have s3 : ∀ r, SF [G.length + 2, G.length] G1 (((G1 ++ [oI [x]]).set G.length Row.dead ++ [oI [x]]).set (G.length + 2) r) := fun r => s2.set _ (by simp)
      have s1' := s1.same
      have s2' := s2.same
      have s3' := fun r => (s3 r).same
      have hcd3 : decide ((ps.length : Int) < ((ps.length + 1 : Nat) : Int)) = true := decide_eq_true (by omega)
      simp (dsimp := false) only [b0, b1, b2, c0, hx0, Int.toNat_natCast, d1, d2, d3, d4, hcl2, hset, hks, s1', s2', s3', List.take_succ_cons, List.take_zero, List.length_append, List.length_set, go_sem, Nat.reduceAdd, Nat.reduceBEq, Nat.reduceEqDiff, Nat.reduceLT, Nat.reduceLeDiff, reduceCtorEq, ↓reduceIte]
      repeat (refine And.intro (by first | exact True.intro | omega | kernel_rfl | (simp only [List.length_set, List.length_append, List.length_take, List.length_replicate, List.length_cons, true_and, and_true, List.length_nil, tabR_length]; omega)) ?_)
      have e9 : pil xs (i + 1) = ps ++ [[x]] := by rw [hstep, pilS, hK, if_neg (by omega)]
      have w0 : (((G1 ++ [oI [x]]).set G.length Row.dead ++ [oI [x]]).set (G.length + 1 + 1) (cR (nsC 2 ps ++ [cSl (G1.length + 1) 1])))[0]? = some (rI xs) := lks (lkp (lks (lkp b0) (by omega))) (by omega)
      have w1 : (((G1 ++ [oI [x]]).set G.length Row.dead ++ [oI [x]]).set (G.length + 1 + 1) (cR (nsC 2 ps ++ [cSl (G1.length + 1) 1])))[G.length + 1 + 1]? = some (cR (nsC 2 ps ++ [cSl (G1.length + 1) 1])) := List.getElem?_set_self (by simp; omega)
      have w2 : (((G1 ++ [oI [x]]).set G.length Row.dead ++ [oI [x]]).set (G.length + 1 + 1) (cR (nsC 2 ps ++ [cSl (G1.length + 1) 1])))[G1.length + 1]? = some (oI [x]) := by
        refine lks ?_ (by omega)
        have := lkn ((G1 ++ [oI [x]]).set G.length Row.dead) (oI [x])
        simpa using this
      have w3 : ∀ (j : Nat) q, ps[j]? = some q → (((G1 ++ [oI [x]]).set G.length Row.dead ++ [oI [x]]).set (G.length + 1 + 1) (cR (nsC 2 ps ++ [cSl (G1.length + 1) 1])))[2 + j]? = some (oI q) := fun j q hq' => by
        have hj := getlt (G := ps.map rI) (h := j) (r := rI q) (by rw [List.getElem?_map, hq']; rfl)
        rw [List.length_map] at hj
        exact lks (lkp (lks (lkp (b3 j q hq')) (by omega))) (by omega)
      refine And.intro ?_ ?_
      · repeat (refine And.intro (by first | exact True.intro | omega | kernel_rfl | (simp only [List.length_set, List.length_append, List.length_take, List.length_replicate, List.length_cons, true_and, and_true, List.length_nil, tabR_length]; omega)) ?_)
        refine ⟨i + 1, [0] ++ (G.length + 1 + 1) :: (List.range' 2 ps.length ++ [G1.length + 1]), ⟨by omega, by omega⟩, ?_⟩
        rw [e9]
        exact wk_new rfl w0 w1 rfl w2 w3 (by omega) (by omega) (by omega) (by simp [RS.slot, List.map_cons, List.map_nil, rowsLe, rowLe, slotsLe, tvLe, TV.ren, AV.ren, C.ren, Dat.ren, Row.ren, TV.hs, AV.hs, C.hs, Dat.hs, get_cons, get_nil, zipSlots, List.getD_cons_zero, List.getD_cons_succ, List.getD_nil, -List.getD_eq_getElem?_getD])
      · repeat (refine And.intro (by first | exact True.intro | omega | kernel_rfl | (simp only [List.length_set, List.length_append, List.length_take, List.length_replicate, List.length_cons, true_and, and_true, List.length_nil, tabR_length]; omega)) ?_)
        refine ⟨i + 1, [0] ++ (G.length + 1 + 1) :: (List.range' 2 ps.length ++ [G1.length + 1]), ⟨by omega, by omega⟩, ?_⟩
        rw [e9]
        exact wk_new rfl w0 w1 rfl w2 w3 (by omega) (by omega) (by omega) (by simp [RS.slot, List.map_cons, List.map_nil, rowsLe, rowLe, slotsLe, tvLe, TV.ren, AV.ren, C.ren, Dat.ren, Row.ren, TV.hs, AV.hs, C.hs, Dat.hs, get_cons, get_nil, zipSlots, List.getD_cons_zero, List.getD_cons_succ, List.getD_nil, -List.getD_eq_getElem?_getD])
  · have hie : i = xs.length := by omega
    subst hie
    have hcd : decide ((xs.length : Int) < (xs.length : Int)) = false := decide_eq_false (by omega)
    simp (dsimp := false) only [hcd, go_sem, Nat.reduceAdd, Nat.reduceBEq, Nat.reduceEqDiff, Nat.reduceLT, Nat.reduceLeDiff, reduceCtorEq, ↓reduceIte]
    refine afin (List.range (rI xs :: nst true true 1 (pil xs xs.length)).length) [aSS 1 (pil xs xs.length).length, aB true] _ (by simp) rfl (wk_id (by simp) (pil_cl xs _) (by simp [slId, get_cons, get_nil, TV.hs, AV.hs, C.hs, RS.slot, zipSlots, nst_len])) ⟨by simp [rtv], rfl⟩
end Go.Proofs.Ytpoappgfmjnioaa
