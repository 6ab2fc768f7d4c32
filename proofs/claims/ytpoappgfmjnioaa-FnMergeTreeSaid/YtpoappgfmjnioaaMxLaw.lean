/- The walk of the law on merge trees. -/
import Derived.Test.YtpoappgfmjnioaaMxA
import Derived.Test.YtpoappgfmjnioaaWfB
set_option linter.unusedSimpArgs false
set_option linter.unusedVariables false
set_option linter.unusedSectionVars false
set_option linter.unnecessarySimpa false
namespace Go.Proofs.Ytpoappgfmjnioaa
open Go Go.Ax
set_option maxRecDepth 10000
set_option maxHeartbeats 1000000
attribute [-go_sem] awp_seq

theorem law_FnMergeTree (cs : List Int) (hc : U8s cs) (hL : cs.length ≤ 9223372036854775807) : ACalls Try.prog 11 [tS 0 cs.length] [] [rU8 cs] (fun t _ => t = tB true) := by
  refine afun (fun _ => none) [2] 1 Try.func11 rfl rfl mix (by kernel_rfl) (by kernel_rfl) (by simp [Try.f11]) rfl (by simp [msOwn, ownAll, Row.own]) ?_
  simp (dsimp := false) only [awp_seq, go_sem, Nat.reduceAdd, Nat.reduceBEq, Nat.reduceEqDiff, Nat.reduceLT, Nat.reduceLeDiff, reduceCtorEq, ↓reduceIte]
  repeat (refine And.intro (by first | exact True.intro | omega | kernel_rfl | (simp only [List.length_set, List.length_append, List.length_take, List.length_replicate, List.length_cons, true_and, and_true, List.length_nil, tabR_length]; omega)) ?_)
  refine ⟨_, (vBig_l cs hL).lift [0] (by decide) (by simp) (by simp [RS.slot, List.map_cons, List.map_nil, rowsLe, rowLe, slotsLe, tvLe, TV.ren, AV.ren, C.ren, Dat.ren, Row.ren, TV.hs, AV.hs, C.hs, Dat.hs, get_cons, get_nil, zipSlots, List.getD_cons_zero, List.getD_cons_succ, List.getD_nil, -List.getD_eq_getElem?_getD]) (by simp [RS.slot, List.map_cons, List.map_nil, rowsLe, rowLe, slotsLe, tvLe, TV.ren, AV.ren, C.ren, Dat.ren, Row.ren, TV.hs, AV.hs, C.hs, Dat.hs, get_cons, get_nil, zipSlots, List.getD_cons_zero, List.getD_cons_succ, List.getD_nil, -List.getD_eq_getElem?_getD]) (by simp [RS.slot, List.map_cons, List.map_nil, rowsLe, rowLe, slotsLe, tvLe, TV.ren, AV.ren, C.ren, Dat.ren, Row.ren, TV.hs, AV.hs, C.hs, Dat.hs, get_cons, get_nil, zipSlots, List.getD_cons_zero, List.getD_cons_succ, List.getD_nil, -List.getD_eq_getElem?_getD]) rfl ?_⟩
  rintro _ _ ⟨b, hb, rfl, rfl⟩
  refine ⟨by simp [ownIn, Row.own], ?_⟩
  simp (dsimp := false) only [hL, liftT, liftH, putBack, freshR, ownIn, Row.own, Row.ren, TV.ren, AV.ren, C.ren, Dat.ren, List.drop_succ_cons, List.drop_nil, List.getD_cons_zero, List.getD_cons_succ, List.getD_nil, go_sem, Nat.reduceAdd, Nat.reduceBEq, Nat.reduceEqDiff, Nat.reduceLT, Nat.reduceLeDiff, reduceCtorEq, ↓reduceIte]
  repeat (simp (dsimp := false) only [awp_seq]; try simp (dsimp := false) only [hL, go_sem, Nat.reduceAdd, Nat.reduceBEq, Nat.reduceEqDiff, Nat.reduceLT, Nat.reduceLeDiff, reduceCtorEq, ↓reduceIte])
  refine ⟨fun h => ?_, fun h => ?_⟩
  · try simp (dsimp := false) only [awp_seq, go_sem, Nat.reduceAdd, Nat.reduceBEq, Nat.reduceEqDiff, Nat.reduceLT, Nat.reduceLeDiff, reduceCtorEq, ↓reduceIte]
    refine afin [0] [aB true] [rU8 cs] (by simp) rfl (weak_of (by decide) (by simp [RS.slot, List.map_cons, List.map_nil, rowsLe, rowLe, slotsLe, tvLe, TV.ren, AV.ren, C.ren, Dat.ren, Row.ren, TV.hs, AV.hs, C.hs, Dat.hs, get_cons, get_nil, zipSlots, List.getD_cons_zero, List.getD_cons_succ, List.getD_nil, -List.getD_eq_getElem?_getD])) (by simp [rtv])
  have hl : cs.length ≤ 65536 := hb h
  try simp (dsimp := false) only [awp_seq, go_sem, Nat.reduceAdd, Nat.reduceBEq, Nat.reduceEqDiff, Nat.reduceLT, Nat.reduceLeDiff, reduceCtorEq, ↓reduceIte]
  repeat (refine And.intro (by first | exact True.intro | omega | kernel_rfl | (simp only [List.length_set, List.length_append, List.length_take, List.length_replicate, List.length_cons, true_and, and_true, List.length_nil, tabR_length]; omega)) ?_)
  refine ⟨_, (vList_l cs hc hl).lift [0] (by decide) (by simp) (by simp [RS.slot, List.map_cons, List.map_nil, rowsLe, rowLe, slotsLe, tvLe, TV.ren, AV.ren, C.ren, Dat.ren, Row.ren, TV.hs, AV.hs, C.hs, Dat.hs, get_cons, get_nil, zipSlots, List.getD_cons_zero, List.getD_cons_succ, List.getD_nil, -List.getD_eq_getElem?_getD]) (by simp [RS.slot, List.map_cons, List.map_nil, rowsLe, rowLe, slotsLe, tvLe, TV.ren, AV.ren, C.ren, Dat.ren, Row.ren, TV.hs, AV.hs, C.hs, Dat.hs, get_cons, get_nil, zipSlots, List.getD_cons_zero, List.getD_cons_succ, List.getD_nil, -List.getD_eq_getElem?_getD]) (by simp [RS.slot, List.map_cons, List.map_nil, rowsLe, rowLe, slotsLe, tvLe, TV.ren, AV.ren, C.ren, Dat.ren, Row.ren, TV.hs, AV.hs, C.hs, Dat.hs, get_cons, get_nil, zipSlots, List.getD_cons_zero, List.getD_cons_succ, List.getD_nil, -List.getD_eq_getElem?_getD]) rfl ?_⟩
  rintro _ _ ⟨xs, hv, rfl, rfl⟩
  refine ⟨by simp [ownIn, Row.own], ?_⟩
  simp (dsimp := false) only [hl, liftT, liftH, putBack, freshR, ownIn, Row.own, Row.ren, TV.ren, AV.ren, C.ren, Dat.ren, List.drop_succ_cons, List.drop_nil, List.getD_cons_zero, List.getD_cons_succ, List.getD_nil, go_sem, Nat.reduceAdd, Nat.reduceBEq, Nat.reduceEqDiff, Nat.reduceLT, Nat.reduceLeDiff, reduceCtorEq, ↓reduceIte]
  repeat (simp (dsimp := false) only [awp_seq]; try simp (dsimp := false) only [hl, go_sem, Nat.reduceAdd, Nat.reduceBEq, Nat.reduceEqDiff, Nat.reduceLT, Nat.reduceLeDiff, reduceCtorEq, ↓reduceIte])
  have h64 := validB_len hv
  have hD := mtDep_ok h64
  -- the tree
  repeat (refine And.intro (by first | exact True.intro | omega | kernel_rfl | (simp only [List.length_set, List.length_append, List.length_take, List.length_replicate, List.length_cons, true_and, and_true, List.length_nil, tabR_length]; omega)) ?_)
  refine ⟨_, (build_g (h := 1) hv (by rfl : ([rU8 cs, oI xs] : Hp)[1]? = some (rwI true xs))).mono ?_⟩
  rintro _ G ⟨rfl, eG⟩
  simp (dsimp := false) only [hl, go_sem, Nat.reduceAdd, Nat.reduceBEq, Nat.reduceEqDiff, Nat.reduceLT, Nat.reduceLeDiff, reduceCtorEq, ↓reduceIte]
  repeat (simp (dsimp := false) only [awp_seq]; try simp (dsimp := false) only [hl, go_sem, Nat.reduceAdd, Nat.reduceBEq, Nat.reduceEqDiff, Nat.reduceLT, Nat.reduceLeDiff, reduceCtorEq, ↓reduceIte])
  have x0 : Ext [rU8 cs, oI xs] G := by rw [eG]; exact Ext.app _ _
  have hN : Nst true true G 2 (lvs xs) := by rw [eG]; exact nst_end _ _
  have lG : G.length = 2 + ((lvs xs).length + 1) := by rw [eG, List.length_append, nst_len]; rfl
  have hcl : Cl G := by
    rw [eG]
    exact cl_app (fun r hr h hh => by
      simp at hr
      rcases hr with rfl | rfl <;> simp [Row.hs, Dat.hs] at hh) (fun r hr h hh => by
      rw [List.length_append, nst_len]
      simp only [nst, List.mem_cons, List.mem_map] at hr
      rcases hr with rfl | ⟨x, _, rfl⟩
      · simp only [Row.hs, Dat.hs, List.mem_flatMap] at hh
        obtain ⟨c, hc, hh⟩ := hh
        have := nsC_hs _ _ c hc h hh
        simp at this ⊢; omega
      · simp [Row.hs, Dat.hs] at hh)
  clear eG
  have qz : (G ++ [cR [cN]])[G.length]? = some (cR [cN]) := lkn _ _
  have qs : (G ++ [cR [cN]]).set G.length (cR [cSl 2 (lvs xs).length]) = G ++ [cR [cSl 2 (lvs xs).length]] := by
    rw [List.set_append_right _ _ (Nat.le_refl _), Nat.sub_self]; rfl
  simp (dsimp := false) only [qz, qs, List.length_cons, List.length_nil, List.take_succ_cons, List.take_zero, go_sem, Nat.reduceAdd, Nat.reduceBEq, Nat.reduceEqDiff, Nat.reduceLT, Nat.reduceLeDiff, reduceCtorEq, ↓reduceIte]
  have x1 : Ext G (G ++ [cR [cSl 2 (lvs xs).length]]) := Ext.app _ _
  have nN : Nst true true (G ++ [cR [cSl 2 (lvs xs).length]]) 2 (lvs xs) := hN.ext x1
  have q0 : (G ++ [cR [cSl 2 (lvs xs).length]])[G.length]? = some (cR [cSl 2 (lvs xs).length]) := lkn _ _
  have hclB : Cl (G ++ [cR [cSl 2 (lvs xs).length]]) := cl_app hcl fun r hr h hh => by
    simp at hr; subst hr
    simp [Row.hs, Dat.hs, C.hs] at hh
    subst hh; simp; omega
  have lB : (G ++ [cR [cSl 2 (lvs xs).length]]).length = G.length + 1 := by simp
  have hcl := hclB
  clear hclB
  try simp (dsimp := false) only [q0, List.length_cons, List.length_nil, List.take_succ_cons, List.take_zero, go_sem, Nat.reduceAdd, Nat.reduceBEq, Nat.reduceEqDiff, Nat.reduceLT, Nat.reduceLeDiff, reduceCtorEq, ↓reduceIte]
  generalize hG1 : G ++ [cR [cSl 2 (lvs xs).length]] = G1 at *
  have xB : Ext [rU8 cs, oI xs] G1 := x0.trans x1
  have k0 : G1[0]? = some (rU8 cs) := xB 0 _ rfl
  have k1 : G1[1]? = some (rwI true xs) := xB 1 _ rfl
  have k2 : G1[2]? = some (.r true (.cells 1 (nsC 3 (lvs xs)))) := nN.cells
  have k3 : G1[3]? = some (rwI true xs) := nN.rows 0 xs (lvs_0 xs)
  have c0 : (nsC 3 (lvs xs))[0]? = some (.sl 1 (3 + 0) 0 xs.length) := nsC_at (lvs_0 xs)
  have hLl := lvs_len xs
  have dL : (((lvs xs).length : Int) == 0) = false := by rw [beq_eq_false_iff_ne]; omega
  have dL2 : decide ((0 : Int) < ((lvs xs).length : Int)) = true := decide_eq_true (by omega)
  repeat (refine And.intro (by first | exact True.intro | omega | kernel_rfl | (simp only [List.length_set, List.length_append, List.length_take, List.length_replicate, List.length_cons, true_and, and_true, List.length_nil, tabR_length]; omega)) ?_)
  refine ⟨_, (val_g nN hv).mono ?_⟩
  rintro _ G0 ⟨rfl, h9⟩
  have h9 := h9.symm
  subst h9
  simp (dsimp := false) only [q0, k2, c0, dL, Int.toNat_zero, List.length_cons, List.length_nil, List.take_succ_cons, List.take_zero, go_sem, Nat.reduceAdd, Nat.reduceBEq, Nat.reduceEqDiff, Nat.reduceLT, Nat.reduceLeDiff, reduceCtorEq, ↓reduceIte]
  repeat (simp (dsimp := false) only [awp_seq]; try simp (dsimp := false) only [q0, k2, c0, dL, Int.toNat_zero, List.length_cons, List.length_nil, List.take_succ_cons, List.take_zero, go_sem, Nat.reduceAdd, Nat.reduceBEq, Nat.reduceEqDiff, Nat.reduceLT, Nat.reduceLeDiff, reduceCtorEq, ↓reduceIte])
  repeat (refine And.intro (by first | exact True.intro | omega | kernel_rfl | (simp only [List.length_set, List.length_append, List.length_take, List.length_replicate, List.length_cons, true_and, and_true, List.length_nil, tabR_length]; omega)) ?_)
  repeat (refine And.intro (by first | exact True.intro | omega | kernel_rfl | (simp only [List.length_set, List.length_append, List.length_take, List.length_replicate, List.length_cons, true_and, and_true, List.length_nil, tabR_length]; omega)) ?_)
  refine ⟨_, (same_g k3 k1 (by omega) (by omega)).mono ?_⟩
  rintro _ G0 ⟨rfl, h9⟩
  have h9 := h9.symm
  subst h9
  simp (dsimp := false) only [q0, go_sem, Nat.reduceAdd, Nat.reduceBEq, Nat.reduceEqDiff, Nat.reduceLT, Nat.reduceLeDiff, reduceCtorEq, ↓reduceIte]
  repeat (simp (dsimp := false) only [awp_seq]; try simp (dsimp := false) only [q0, go_sem, Nat.reduceAdd, Nat.reduceBEq, Nat.reduceEqDiff, Nat.reduceLT, Nat.reduceLeDiff, reduceCtorEq, ↓reduceIte])
  repeat (refine And.intro (by first | exact True.intro | omega | kernel_rfl | (simp only [List.length_set, List.length_append, List.length_take, List.length_replicate, List.length_cons, true_and, and_true, List.length_nil, tabR_length]; omega)) ?_)
  -- the places
  have a0 : ACalls Try.prog 22 [tS 0 cs.length, tI 0] [] G1 (fun t G' => t = tI (vAtV cs 0) ∧ G' = G1) := at_g 0 k0 hc hl (by omega)
  have a1 : ACalls Try.prog 22 [tS 0 cs.length, tI 1] [] G1 (fun t G' => t = tI (vAtV cs 1) ∧ G' = G1) := at_g 1 k0 hc hl (by omega)
  have a2 : ACalls Try.prog 22 [tS 0 cs.length, tI 2] [] G1 (fun t G' => t = tI (vAtV cs 2) ∧ G' = G1) := at_g 2 k0 hc hl (by omega)
  have a3 : ACalls Try.prog 22 [tS 0 cs.length, tI 3] [] G1 (fun t G' => t = tI (vAtV cs 3) ∧ G' = G1) := at_g 3 k0 hc hl (by omega)
  have b0 := vAtV_le cs 0 hc
  have b1 := vAtV_le cs 1 hc
  have b2 := vAtV_le cs 2 hc
  have b3 := vAtV_le cs 3 hc
  generalize vAtV cs 0 = u0 at *
  generalize vAtV cs 1 = u1 at *
  generalize vAtV cs 2 = u2 at *
  generalize vAtV cs 3 = u3 at *
  obtain ⟨n, hn⟩ : ∃ n, n = xs.length := ⟨_, rfl⟩
  obtain ⟨A, hA⟩ : ∃ A, A = u0 % (n + 1) := ⟨_, rfl⟩
  have hAn : A ≤ n := by have := Nat.mod_lt u0 (show 0 < n + 1 by omega); omega
  obtain ⟨X, hX⟩ : ∃ X, X = u1 % (n - A + 1) := ⟨_, rfl⟩
  have hXn : X ≤ n - A := by have := Nat.mod_lt u1 (show 0 < n - A + 1 by omega); omega
  obtain ⟨B, hB⟩ : ∃ B, B = A + X := ⟨_, rfl⟩
  obtain ⟨Y, hY⟩ : ∃ Y, Y = u2 % (B - A + 1) := ⟨_, rfl⟩
  have hYn : Y ≤ B - A := by have := Nat.mod_lt u2 (show 0 < B - A + 1 by omega); omega
  obtain ⟨M, hM⟩ : ∃ M, M = A + Y := ⟨_, rfl⟩
  obtain ⟨K, hK⟩ : ∃ K, K = u3 % 8 := ⟨_, rfl⟩
  have e1 : (xs.length : Int) + 1 = ((n + 1 : Nat) : Int) := by omega
  have r1 : (u0 : Int).tmod ((n + 1 : Nat) : Int) = (A : Int) := by rw [tm_n, ← hA]
  have e2 : (xs.length : Int) - (A : Int) = ((n - A : Nat) : Int) := by omega
  have e3 : ((n - A : Nat) : Int) + 1 = ((n - A + 1 : Nat) : Int) := by omega
  have r2 : (u1 : Int).tmod ((n - A + 1 : Nat) : Int) = (X : Int) := by rw [tm_n, ← hX]
  have e4 : (A : Int) + (X : Int) = (B : Int) := by omega
  have e5 : (B : Int) - (A : Int) = ((B - A : Nat) : Int) := by omega
  have e6 : ((B - A : Nat) : Int) + 1 = ((B - A + 1 : Nat) : Int) := by omega
  have r3 : (u2 : Int).tmod ((B - A + 1 : Nat) : Int) = (Y : Int) := by rw [tm_n, ← hY]
  have e7 : (A : Int) + (Y : Int) = (M : Int) := by omega
  have r4 : (u3 : Int).tmod 8 = (K : Int) := by rw [hK]; exact tm_n u3 8
  have hBn : B ≤ xs.length := by omega
  have hAM : A ≤ M := by omega
  have hMB : M ≤ B := by omega
  have hAB : A ≤ B := by omega
  repeat (refine And.intro (by first | exact True.intro | omega | kernel_rfl | (simp only [List.length_set, List.length_append, List.length_take, List.length_replicate, List.length_cons, true_and, and_true, List.length_nil, tabR_length]; omega)) ?_)
  refine ⟨_, (a0).mono ?_⟩
  rintro _ G0 ⟨rfl, h9⟩
  have h9 := h9.symm
  subst h9
  simp (dsimp := false) only [e1, r1, go_sem, Nat.reduceAdd, Nat.reduceBEq, Nat.reduceEqDiff, Nat.reduceLT, Nat.reduceLeDiff, reduceCtorEq, ↓reduceIte]
  repeat (simp (dsimp := false) only [awp_seq]; try simp (dsimp := false) only [e1, r1, go_sem, Nat.reduceAdd, Nat.reduceBEq, Nat.reduceEqDiff, Nat.reduceLT, Nat.reduceLeDiff, reduceCtorEq, ↓reduceIte])
  repeat (refine And.intro (by first | exact True.intro | omega | kernel_rfl | (simp only [List.length_set, List.length_append, List.length_take, List.length_replicate, List.length_cons, true_and, and_true, List.length_nil, tabR_length]; omega)) ?_)
  repeat (refine And.intro (by first | exact True.intro | omega | kernel_rfl | (simp only [List.length_set, List.length_append, List.length_take, List.length_replicate, List.length_cons, true_and, and_true, List.length_nil, tabR_length]; omega)) ?_)
  refine ⟨_, (a1).mono ?_⟩
  rintro _ G0 ⟨rfl, h9⟩
  have h9 := h9.symm
  subst h9
  simp (dsimp := false) only [e2, e3, r2, e4, go_sem, Nat.reduceAdd, Nat.reduceBEq, Nat.reduceEqDiff, Nat.reduceLT, Nat.reduceLeDiff, reduceCtorEq, ↓reduceIte]
  repeat (simp (dsimp := false) only [awp_seq]; try simp (dsimp := false) only [e2, e3, r2, e4, go_sem, Nat.reduceAdd, Nat.reduceBEq, Nat.reduceEqDiff, Nat.reduceLT, Nat.reduceLeDiff, reduceCtorEq, ↓reduceIte])
  repeat (refine And.intro (by first | exact True.intro | omega | kernel_rfl | (simp only [List.length_set, List.length_append, List.length_take, List.length_replicate, List.length_cons, true_and, and_true, List.length_nil, tabR_length]; omega)) ?_)
  repeat (refine And.intro (by first | exact True.intro | omega | kernel_rfl | (simp only [List.length_set, List.length_append, List.length_take, List.length_replicate, List.length_cons, true_and, and_true, List.length_nil, tabR_length]; omega)) ?_)
  refine ⟨_, (a2).mono ?_⟩
  rintro _ G0 ⟨rfl, h9⟩
  have h9 := h9.symm
  subst h9
  simp (dsimp := false) only [e5, e6, r3, e7, go_sem, Nat.reduceAdd, Nat.reduceBEq, Nat.reduceEqDiff, Nat.reduceLT, Nat.reduceLeDiff, reduceCtorEq, ↓reduceIte]
  repeat (simp (dsimp := false) only [awp_seq]; try simp (dsimp := false) only [e5, e6, r3, e7, go_sem, Nat.reduceAdd, Nat.reduceBEq, Nat.reduceEqDiff, Nat.reduceLT, Nat.reduceLeDiff, reduceCtorEq, ↓reduceIte])
  repeat (refine And.intro (by first | exact True.intro | omega | kernel_rfl | (simp only [List.length_set, List.length_append, List.length_take, List.length_replicate, List.length_cons, true_and, and_true, List.length_nil, tabR_length]; omega)) ?_)
  repeat (refine And.intro (by first | exact True.intro | omega | kernel_rfl | (simp only [List.length_set, List.length_append, List.length_take, List.length_replicate, List.length_cons, true_and, and_true, List.length_nil, tabR_length]; omega)) ?_)
  refine ⟨_, (a3).mono ?_⟩
  rintro _ G0 ⟨rfl, h9⟩
  have h9 := h9.symm
  subst h9
  simp (dsimp := false) only [r4, q0, List.length_cons, List.length_nil, List.take_succ_cons, List.take_zero, go_sem, Nat.reduceAdd, Nat.reduceBEq, Nat.reduceEqDiff, Nat.reduceLT, Nat.reduceLeDiff, reduceCtorEq, ↓reduceIte]
  repeat (simp (dsimp := false) only [awp_seq]; try simp (dsimp := false) only [r4, q0, List.length_cons, List.length_nil, List.take_succ_cons, List.take_zero, go_sem, Nat.reduceAdd, Nat.reduceBEq, Nat.reduceEqDiff, Nat.reduceLT, Nat.reduceLeDiff, reduceCtorEq, ↓reduceIte])
  repeat (refine And.intro (by first | exact True.intro | omega | kernel_rfl | (simp only [List.length_set, List.length_append, List.length_take, List.length_replicate, List.length_cons, true_and, and_true, List.length_nil, tabR_length]; omega)) ?_)
  -- the counts
  have n1 := cnt_g nN hv (K : Int) hAM (by omega : M ≤ xs.length)
  have n2 := cnt_g nN hv (K : Int) hMB hBn
  have n3 := cnt_g nN hv (K : Int) hAB hBn
  have hsum : cntB K (seg xs A (M - A)) + cntB K (seg xs M (B - M)) = cntB K (seg xs A (B - A)) := by
    have := seg_split xs A (M - A) (B - M)
    rw [show M - A + (B - M) = B - A by omega, show A + (M - A) = M by omega] at this
    rw [this, cntB_app]
  have hcut := nbN_cut (n := xs.length) (D := mtDep xs.length) hMB hBn (B - A) A (Nat.le_refl _) hAM
  have hfew := nbN_few (n := xs.length) (D := mtDep xs.length) hBn hD.2.2 A
  rw [← hLl] at hfew
  have t1 := cntB_le K (seg xs A (M - A))
  have t2 := cntB_le K (seg xs M (B - M))
  rw [seg_len] at t1 t2
  have t3 := nbN_few (n := xs.length) (D := mtDep xs.length) (show M ≤ xs.length by omega) hD.2.2 A
  have t4 := nbN_few (n := xs.length) (D := mtDep xs.length) hBn hD.2.2 M
  generalize cntB K (seg xs A (M - A)) = ca at *
  generalize cntB K (seg xs M (B - M)) = cb at *
  generalize cntB K (seg xs A (B - A)) = cc at *
  generalize nbN xs.length (mtDep xs.length) M A = na at *
  generalize nbN xs.length (mtDep xs.length) B M = nb at *
  generalize nbN xs.length (mtDep xs.length) B A = nc at *
  have s1 : (ca : Int) + (cb : Int) = (cc : Int) := by omega
  have s2 : decide ((na : Int) + (nb : Int) < (nc : Int)) = false := decide_eq_false (by omega)
  have s3 : decide ((2 : Int) * ((lvs xs).length : Int) < (nc : Int)) = false := decide_eq_false (by omega)
  repeat (refine And.intro (by first | exact True.intro | omega | kernel_rfl | (simp only [List.length_set, List.length_append, List.length_take, List.length_replicate, List.length_cons, true_and, and_true, List.length_nil, tabR_length]; omega)) ?_)
  refine ⟨_, (n1).mono ?_⟩
  rintro _ G0 ⟨rfl, h9⟩
  have h9 := h9.symm
  subst h9
  simp (dsimp := false) only [q0, List.length_cons, List.length_nil, List.take_succ_cons, List.take_zero, go_sem, Nat.reduceAdd, Nat.reduceBEq, Nat.reduceEqDiff, Nat.reduceLT, Nat.reduceLeDiff, reduceCtorEq, ↓reduceIte]
  repeat (simp (dsimp := false) only [awp_seq]; try simp (dsimp := false) only [q0, List.length_cons, List.length_nil, List.take_succ_cons, List.take_zero, go_sem, Nat.reduceAdd, Nat.reduceBEq, Nat.reduceEqDiff, Nat.reduceLT, Nat.reduceLeDiff, reduceCtorEq, ↓reduceIte])
  repeat (refine And.intro (by first | exact True.intro | omega | kernel_rfl | (simp only [List.length_set, List.length_append, List.length_take, List.length_replicate, List.length_cons, true_and, and_true, List.length_nil, tabR_length]; omega)) ?_)
  repeat (refine And.intro (by first | exact True.intro | omega | kernel_rfl | (simp only [List.length_set, List.length_append, List.length_take, List.length_replicate, List.length_cons, true_and, and_true, List.length_nil, tabR_length]; omega)) ?_)
  refine ⟨_, (n2).mono ?_⟩
  rintro _ G0 ⟨rfl, h9⟩
  have h9 := h9.symm
  subst h9
  simp (dsimp := false) only [q0, List.length_cons, List.length_nil, List.take_succ_cons, List.take_zero, go_sem, Nat.reduceAdd, Nat.reduceBEq, Nat.reduceEqDiff, Nat.reduceLT, Nat.reduceLeDiff, reduceCtorEq, ↓reduceIte]
  repeat (simp (dsimp := false) only [awp_seq]; try simp (dsimp := false) only [q0, List.length_cons, List.length_nil, List.take_succ_cons, List.take_zero, go_sem, Nat.reduceAdd, Nat.reduceBEq, Nat.reduceEqDiff, Nat.reduceLT, Nat.reduceLeDiff, reduceCtorEq, ↓reduceIte])
  repeat (refine And.intro (by first | exact True.intro | omega | kernel_rfl | (simp only [List.length_set, List.length_append, List.length_take, List.length_replicate, List.length_cons, true_and, and_true, List.length_nil, tabR_length]; omega)) ?_)
  repeat (refine And.intro (by first | exact True.intro | omega | kernel_rfl | (simp only [List.length_set, List.length_append, List.length_take, List.length_replicate, List.length_cons, true_and, and_true, List.length_nil, tabR_length]; omega)) ?_)
  refine ⟨_, (n3).mono ?_⟩
  rintro _ G0 ⟨rfl, h9⟩
  have h9 := h9.symm
  subst h9
  simp (dsimp := false) only [q0, s1, s2, s3, bne_self_eq_false, List.length_cons, List.length_nil, List.take_succ_cons, List.take_zero, go_sem, Nat.reduceAdd, Nat.reduceBEq, Nat.reduceEqDiff, Nat.reduceLT, Nat.reduceLeDiff, reduceCtorEq, ↓reduceIte]
  repeat (simp (dsimp := false) only [awp_seq]; try simp (dsimp := false) only [q0, s1, s2, s3, bne_self_eq_false, List.length_cons, List.length_nil, List.take_succ_cons, List.take_zero, go_sem, Nat.reduceAdd, Nat.reduceBEq, Nat.reduceEqDiff, Nat.reduceLT, Nat.reduceLeDiff, reduceCtorEq, ↓reduceIte])
  repeat (refine And.intro (by first | exact True.intro | omega | kernel_rfl | (simp only [List.length_set, List.length_append, List.length_take, List.length_replicate, List.length_cons, true_and, and_true, List.length_nil, tabR_length]; omega)) ?_)
  have hGl : G.length < G1.length := by omega
  refine aloopQ (σ := Nat) (fun k => ([(4, .a (.c (.ptr G.length 0 0))), (6, tI A), (7, tI B), (19, tI k)], G1)) (fun k => k ≤ B - A) (fun k => B - A - k) 0 (List.range G1.length) (Nat.zero_le _) (wk_id (by omega) hcl (by simp [slId, get_cons, get_nil, TV.hs, AV.hs, C.hs, RS.slot, zipSlots, hGl])) ?_
  rintro Q hQ k hk
  by_cases hkb : k < B - A
  · have dk : decide ((k : Int) < ((B - A : Nat) : Int)) = true := decide_eq_true (by omega)
    have c1 := kth_g nN hv hAB hBn hkb
    have c2 := cnt_g nN hv ((srtL (seg xs A (B - A))).getD k 0) hAB hBn
    have c3 := cnt_g nN hv ((srtL (seg xs A (B - A))).getD k 0 + 1) hAB hBn
    have hv2 := kth_bd hv hBn hkb
    obtain ⟨w1, w2⟩ := cnt_rank (ys := seg xs A (B - A)) (k := k) (by rw [seg_len]; exact hkb)
    generalize (srtL (seg xs A (B - A))).getD k 0 = v at *
    generalize cntB v (seg xs A (B - A)) = lo at *
    generalize cntB (v + 1) (seg xs A (B - A)) = hi at *
    generalize nbN xs.length (mtDep xs.length) B A = bb at *
    have d1 : decide ((k : Int) < (lo : Int)) = false := decide_eq_false (by omega)
    have d2 : decide ((hi : Int) ≤ (k : Int)) = false := decide_eq_false (by omega)
    simp (dsimp := false) only [e5, dk, q0, List.length_cons, List.length_nil, List.take_succ_cons, List.take_zero, go_sem, Nat.reduceAdd, Nat.reduceBEq, Nat.reduceEqDiff, Nat.reduceLT, Nat.reduceLeDiff, reduceCtorEq, ↓reduceIte]
    repeat (simp (dsimp := false) only [awp_seq]; try simp (dsimp := false) only [e5, dk, q0, List.length_cons, List.length_nil, List.take_succ_cons, List.take_zero, go_sem, Nat.reduceAdd, Nat.reduceBEq, Nat.reduceEqDiff, Nat.reduceLT, Nat.reduceLeDiff, reduceCtorEq, ↓reduceIte])
    repeat (refine And.intro (by first | exact True.intro | omega | kernel_rfl | (simp only [List.length_set, List.length_append, List.length_take, List.length_replicate, List.length_cons, true_and, and_true, List.length_nil, tabR_length]; omega)) ?_)
    repeat (refine And.intro (by first | exact True.intro | omega | kernel_rfl | (simp only [List.length_set, List.length_append, List.length_take, List.length_replicate, List.length_cons, true_and, and_true, List.length_nil, tabR_length]; omega)) ?_)
    refine ⟨_, (c1).mono ?_⟩
    rintro _ G0 ⟨rfl, h9⟩
    have h9 := h9.symm
    subst h9
    simp (dsimp := false) only [q0, List.length_cons, List.length_nil, List.take_succ_cons, List.take_zero, go_sem, Nat.reduceAdd, Nat.reduceBEq, Nat.reduceEqDiff, Nat.reduceLT, Nat.reduceLeDiff, reduceCtorEq, ↓reduceIte]
    repeat (simp (dsimp := false) only [awp_seq]; try simp (dsimp := false) only [q0, List.length_cons, List.length_nil, List.take_succ_cons, List.take_zero, go_sem, Nat.reduceAdd, Nat.reduceBEq, Nat.reduceEqDiff, Nat.reduceLT, Nat.reduceLeDiff, reduceCtorEq, ↓reduceIte])
    repeat (refine And.intro (by first | exact True.intro | omega | kernel_rfl | (simp only [List.length_set, List.length_append, List.length_take, List.length_replicate, List.length_cons, true_and, and_true, List.length_nil, tabR_length]; omega)) ?_)
    repeat (refine And.intro (by first | exact True.intro | omega | kernel_rfl | (simp only [List.length_set, List.length_append, List.length_take, List.length_replicate, List.length_cons, true_and, and_true, List.length_nil, tabR_length]; omega)) ?_)
    refine ⟨_, (c2).mono ?_⟩
    rintro _ G0 ⟨rfl, h9⟩
    have h9 := h9.symm
    subst h9
    simp (dsimp := false) only [q0, List.length_cons, List.length_nil, List.take_succ_cons, List.take_zero, go_sem, Nat.reduceAdd, Nat.reduceBEq, Nat.reduceEqDiff, Nat.reduceLT, Nat.reduceLeDiff, reduceCtorEq, ↓reduceIte]
    repeat (simp (dsimp := false) only [awp_seq]; try simp (dsimp := false) only [q0, List.length_cons, List.length_nil, List.take_succ_cons, List.take_zero, go_sem, Nat.reduceAdd, Nat.reduceBEq, Nat.reduceEqDiff, Nat.reduceLT, Nat.reduceLeDiff, reduceCtorEq, ↓reduceIte])
    repeat (refine And.intro (by first | exact True.intro | omega | kernel_rfl | (simp only [List.length_set, List.length_append, List.length_take, List.length_replicate, List.length_cons, true_and, and_true, List.length_nil, tabR_length]; omega)) ?_)
    repeat (refine And.intro (by first | exact True.intro | omega | kernel_rfl | (simp only [List.length_set, List.length_append, List.length_take, List.length_replicate, List.length_cons, true_and, and_true, List.length_nil, tabR_length]; omega)) ?_)
    refine ⟨_, (c3).mono ?_⟩
    rintro _ G0 ⟨rfl, h9⟩
    have h9 := h9.symm
    subst h9
    simp (dsimp := false) only [q0, d1, d2, List.length_cons, List.length_nil, List.take_succ_cons, List.take_zero, go_sem, Nat.reduceAdd, Nat.reduceBEq, Nat.reduceEqDiff, Nat.reduceLT, Nat.reduceLeDiff, reduceCtorEq, ↓reduceIte]
    repeat (simp (dsimp := false) only [awp_seq]; try simp (dsimp := false) only [q0, d1, d2, List.length_cons, List.length_nil, List.take_succ_cons, List.take_zero, go_sem, Nat.reduceAdd, Nat.reduceBEq, Nat.reduceEqDiff, Nat.reduceLT, Nat.reduceLeDiff, reduceCtorEq, ↓reduceIte])
    repeat (refine And.intro (by first | exact True.intro | omega | kernel_rfl | (simp only [List.length_set, List.length_append, List.length_take, List.length_replicate, List.length_cons, true_and, and_true, List.length_nil, tabR_length]; omega)) ?_)
    refine ⟨k + 1, List.range G1.length, ⟨by omega, by omega⟩, wk_id (by omega) hcl (by simp [slId, get_cons, get_nil, TV.hs, AV.hs, C.hs, RS.slot, zipSlots, hGl])⟩
  · have dk : decide ((k : Int) < ((B - A : Nat) : Int)) = false := decide_eq_false (by omega)
    have c4 := kth_no nN hv hAB
    simp (dsimp := false) only [e5, dk, go_sem, Nat.reduceAdd, Nat.reduceBEq, Nat.reduceEqDiff, Nat.reduceLT, Nat.reduceLeDiff, reduceCtorEq, ↓reduceIte]
    repeat (simp (dsimp := false) only [awp_seq]; try simp (dsimp := false) only [e5, dk, go_sem, Nat.reduceAdd, Nat.reduceBEq, Nat.reduceEqDiff, Nat.reduceLT, Nat.reduceLeDiff, reduceCtorEq, ↓reduceIte])
    repeat (refine And.intro (by first | exact True.intro | omega | kernel_rfl | (simp only [List.length_set, List.length_append, List.length_take, List.length_replicate, List.length_cons, true_and, and_true, List.length_nil, tabR_length]; omega)) ?_)
    refine hQ _ _ _ ?_
    simp (dsimp := false) only [e5, q0, List.length_cons, List.length_nil, List.take_succ_cons, List.take_zero, go_sem, Nat.reduceAdd, Nat.reduceBEq, Nat.reduceEqDiff, Nat.reduceLT, Nat.reduceLeDiff, reduceCtorEq, ↓reduceIte]
    repeat (simp (dsimp := false) only [awp_seq]; try simp (dsimp := false) only [e5, q0, List.length_cons, List.length_nil, List.take_succ_cons, List.take_zero, go_sem, Nat.reduceAdd, Nat.reduceBEq, Nat.reduceEqDiff, Nat.reduceLT, Nat.reduceLeDiff, reduceCtorEq, ↓reduceIte])
    repeat (refine And.intro (by first | exact True.intro | omega | kernel_rfl | (simp only [List.length_set, List.length_append, List.length_take, List.length_replicate, List.length_cons, true_and, and_true, List.length_nil, tabR_length]; omega)) ?_)
    repeat (refine And.intro (by first | exact True.intro | omega | kernel_rfl | (simp only [List.length_set, List.length_append, List.length_take, List.length_replicate, List.length_cons, true_and, and_true, List.length_nil, tabR_length]; omega)) ?_)
    refine ⟨_, (c4).mono ?_⟩
    rintro _ G0 ⟨rfl, h9⟩
    have h9 := h9.symm
    subst h9
    simp (dsimp := false) only [e5, go_sem, Nat.reduceAdd, Nat.reduceBEq, Nat.reduceEqDiff, Nat.reduceLT, Nat.reduceLeDiff, reduceCtorEq, ↓reduceIte]
    repeat (simp (dsimp := false) only [awp_seq]; try simp (dsimp := false) only [e5, go_sem, Nat.reduceAdd, Nat.reduceBEq, Nat.reduceEqDiff, Nat.reduceLT, Nat.reduceLeDiff, reduceCtorEq, ↓reduceIte])
    repeat (refine And.intro (by first | exact True.intro | omega | kernel_rfl | (simp only [List.length_set, List.length_append, List.length_take, List.length_replicate, List.length_cons, true_and, and_true, List.length_nil, tabR_length]; omega)) ?_)
    refine afin (List.range 1) [aB true] [rU8 cs] (by simp) rfl (wk_ext (G := [rU8 cs]) (Nat.le_refl _) (fun r hr h hh => by simp at hr; subst hr; simp [Row.hs, Dat.hs] at hh) (fun h r e => xB h r (by match h, e with | 0, e => exact e)) (by simp [slId, get_cons, get_nil, TV.hs, AV.hs, C.hs, RS.slot, zipSlots])) (by simp [rtv])
end Go.Proofs.Ytpoappgfmjnioaa
