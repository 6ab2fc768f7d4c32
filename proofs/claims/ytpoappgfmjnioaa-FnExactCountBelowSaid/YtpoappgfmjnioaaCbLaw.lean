/- The walk of the law on CountBelow. -/
import Derived.Test.YtpoappgfmjnioaaCbS
set_option linter.unusedSimpArgs false
set_option linter.unusedVariables false
set_option linter.unusedSectionVars false
set_option linter.unnecessarySimpa false
namespace Go.Proofs.Ytpoappgfmjnioaa
open Go Go.Ax
set_option maxRecDepth 10000
set_option maxHeartbeats 1000000
attribute [-go_sem] awp_seq

theorem law_CountBelow (xss : List (List Int)) (a b k : Int) (hx : xss.length ≤ 9223372036854775807) (hr : ∀ x ∈ xss, x.length ≤ 9223372036854775807) :
    ACalls Try.prog 13 [tMt 0 xss.length, tI a, tI b, tI k] [] (nst false false 0 xss) (fun t _ => t = tB true) := by
  obtain ⟨ri, rj, rb, hV⟩ : ∃ (i j : Int) (o : Bool), cntM xss a b k = [aI i, aI j, aB o] := by
    unfold cntM
    cases rngB xss a b
    · exact ⟨_, _, _, rfl⟩
    · exact ⟨_, _, _, rfl⟩
  have hN : Nst false false (nst false false 0 xss) 0 xss := nst_pre [] xss
  have hl := nst_len false false 0 xss
  have hcl := nst_cl false false xss
  have hro := nst_ro (b := 0) (xss := xss)
  have hz := szMt_s xss hx hr
  generalize hG : nst false false 0 xss = G at *
  have hN0 : 0 < G.length := by omega
  have q1 := lkn G (cR [cSl 0 xss.length])
  have x1 : Ext G (G ++ [cR [cSl 0 xss.length]]) := Ext.app _ _
  have n1 : Nst false false (G ++ [cR [cSl 0 xss.length]]) 0 xss := hN.ext x1
  have l1 : (G ++ [cR [cSl 0 xss.length]]).length = G.length + 1 := by simp
  have hz' := ACalls.liftM [1048576] n1 (fun _ => rfl) (by rw [hG]; exact hz)
  simp only [List.map_cons, List.map_nil] at hz'
  refine afun (fun i => match i with | 10 => some ⟨[], .op 1 .now (.op 0 .held (.op 2 .only (.op 3 .only (.op 4 .held .nil))))⟩ | _ => none) [8] G.length Try.func13 rfl rfl mix (by kernel_rfl) (by kernel_rfl) (by simp [Try.f13]) rfl (⟨trivial, ownAll_ro hro⟩) ?_
  simp (dsimp := false) only [awp_seq, q1, List.length_cons, List.length_nil, List.take_succ_cons, List.take_zero, go_sem, Nat.reduceAdd, Nat.reduceBEq, Nat.reduceEqDiff, Nat.reduceLT, Nat.reduceLeDiff, reduceCtorEq, ↓reduceIte]
  generalize hG1 : G ++ [cR [cSl 0 xss.length]] = G1 at *
  rcases szR_neg xss 1048576 (by omega) with hneg | ⟨hpos, hpos2⟩
  · have hd : decide (szR 1048576 xss < 0) = true := decide_eq_true (by omega)
    repeat (refine And.intro (by first | exact True.intro | omega | kernel_rfl | (simp only [List.length_set, List.length_append, List.length_take, List.length_replicate, List.length_cons, true_and, and_true, List.length_nil, tabR_length]; omega)) ?_)
    refine ⟨_, (hz').mono ?_⟩
    rintro _ G0 ⟨rfl, h9⟩
    have h9 := h9.symm
    subst h9
    simp (dsimp := false) only [hd, go_sem, Nat.reduceAdd, Nat.reduceBEq, Nat.reduceEqDiff, Nat.reduceLT, Nat.reduceLeDiff, reduceCtorEq, ↓reduceIte]
    repeat (simp (dsimp := false) only [awp_seq]; try simp (dsimp := false) only [hd, go_sem, Nat.reduceAdd, Nat.reduceBEq, Nat.reduceEqDiff, Nat.reduceLT, Nat.reduceLeDiff, reduceCtorEq, ↓reduceIte])
    refine afin (List.range G.length) [aB true] G (by simp) rfl (wk_ext (Nat.le_refl _) hcl x1 (by simp [slId, get_cons, get_nil, TV.hs, AV.hs, C.hs, RS.slot, zipSlots])) (by simp [rtv])
  have hd : decide (szR 1048576 xss < 0) = false := decide_eq_false (by omega)
  have hxs : xss.length ≤ 1048576 := by omega
  have hr8 : ∀ x ∈ xss, 8 * x.length ≤ 281474976710656 := fun x hx => by have := tot_mem hx; omega
  have hr1 : ∀ x ∈ xss, x.length ≤ 281474976710656 := fun x hx => by have := tot_mem hx; omega
  have hT : ∀ {H : Hp} {c : Nat} {o o' : Bool}, Nst o o' H c xss → ACalls Try.prog 46 [tMt c xss.length] [] H (fun t G' => t = tMt H.length xss.length ∧ G' = H ++ nst true true H.length xss) := fun h => toMt_g h hxs hr8
  repeat (refine And.intro (by first | exact True.intro | omega | kernel_rfl | (simp only [List.length_set, List.length_append, List.length_take, List.length_replicate, List.length_cons, true_and, and_true, List.length_nil, tabR_length]; omega)) ?_)
  refine ⟨_, (hz').mono ?_⟩
  rintro _ G0 ⟨rfl, h9⟩
  have h9 := h9.symm
  subst h9
  simp (dsimp := false) only [hd, q1, List.length_cons, List.length_nil, List.take_succ_cons, List.take_zero, go_sem, Nat.reduceAdd, Nat.reduceBEq, Nat.reduceEqDiff, Nat.reduceLT, Nat.reduceLeDiff, reduceCtorEq, ↓reduceIte]
  repeat (simp (dsimp := false) only [awp_seq]; try simp (dsimp := false) only [hd, q1, List.length_cons, List.length_nil, List.take_succ_cons, List.take_zero, go_sem, Nat.reduceAdd, Nat.reduceBEq, Nat.reduceEqDiff, Nat.reduceLT, Nat.reduceLeDiff, reduceCtorEq, ↓reduceIte])
  -- the reference's copy
  repeat (refine And.intro (by first | exact True.intro | omega | kernel_rfl | (simp only [List.length_set, List.length_append, List.length_take, List.length_replicate, List.length_cons, true_and, and_true, List.length_nil, tabR_length]; omega)) ?_)
  refine ⟨_, (hT n1).mono ?_⟩
  rintro _ G2 ⟨rfl, e2⟩
  simp (dsimp := false) only [hd, go_sem, Nat.reduceAdd, Nat.reduceBEq, Nat.reduceEqDiff, Nat.reduceLT, Nat.reduceLeDiff, reduceCtorEq, ↓reduceIte]
  repeat (simp (dsimp := false) only [awp_seq]; try simp (dsimp := false) only [hd, go_sem, Nat.reduceAdd, Nat.reduceBEq, Nat.reduceEqDiff, Nat.reduceLT, Nat.reduceLeDiff, reduceCtorEq, ↓reduceIte])
  have x2 : Ext G1 G2 := by rw [e2]; exact Ext.app _ _
  have l2 : G2.length = G1.length + (xss.length + 1) := by rw [e2, List.length_append, nst_len]
  have c2 : Nst true true G2 G1.length xss := by rw [e2]; exact nst_end _ _
  clear e2
  have hS := ACalls.liftM [a, b, k] c2 (fun _ => rfl) (by have h := sCb_s xss a b k (by omega) hr1; rw [hV] at h; exact h)
  simp only [List.map_cons, List.map_nil] at hS
  have q2 := x2 _ _ q1
  repeat (refine And.intro (by first | exact True.intro | omega | kernel_rfl | (simp only [List.length_set, List.length_append, List.length_take, List.length_replicate, List.length_cons, true_and, and_true, List.length_nil, tabR_length]; omega)) ?_)
  refine ⟨_, (hS).mono ?_⟩
  rintro _ G0 ⟨rfl, h9⟩
  have h9 := h9.symm
  subst h9
  simp (dsimp := false) only [q2, List.length_cons, List.length_nil, List.take_succ_cons, List.take_zero, go_sem, Nat.reduceAdd, Nat.reduceBEq, Nat.reduceEqDiff, Nat.reduceLT, Nat.reduceLeDiff, reduceCtorEq, ↓reduceIte]
  repeat (simp (dsimp := false) only [awp_seq]; try simp (dsimp := false) only [q2, List.length_cons, List.length_nil, List.take_succ_cons, List.take_zero, go_sem, Nat.reduceAdd, Nat.reduceBEq, Nat.reduceEqDiff, Nat.reduceLT, Nat.reduceLeDiff, reduceCtorEq, ↓reduceIte])
  -- the program's copy
  repeat (refine And.intro (by first | exact True.intro | omega | kernel_rfl | (simp only [List.length_set, List.length_append, List.length_take, List.length_replicate, List.length_cons, true_and, and_true, List.length_nil, tabR_length]; omega)) ?_)
  refine ⟨_, (hT (n1.ext x2)).mono ?_⟩
  rintro _ G3 ⟨rfl, e3⟩
  simp (dsimp := false) only [hd, go_sem, Nat.reduceAdd, Nat.reduceBEq, Nat.reduceEqDiff, Nat.reduceLT, Nat.reduceLeDiff, reduceCtorEq, ↓reduceIte]
  repeat (simp (dsimp := false) only [awp_seq]; try simp (dsimp := false) only [hd, go_sem, Nat.reduceAdd, Nat.reduceBEq, Nat.reduceEqDiff, Nat.reduceLT, Nat.reduceLeDiff, reduceCtorEq, ↓reduceIte])
  have x3 : Ext G2 G3 := by rw [e3]; exact Ext.app _ _
  have l3 : G3.length = G2.length + (xss.length + 1) := by rw [e3, List.length_append, nst_len]
  have c3 : Nst true true G3 G2.length xss := by rw [e3]; exact nst_end _ _
  clear e3
  have qz : (G3 ++ [cR [cN]])[G3.length]? = some (cR [cN]) := lkn _ _
  have qs : (G3 ++ [cR [cN]]).set G3.length (cR [cSl G2.length xss.length]) = G3 ++ [cR [cSl G2.length xss.length]] := by
    rw [List.set_append_right _ _ (Nat.le_refl _), Nat.sub_self]; rfl
  have x4 : Ext G3 (G3 ++ [cR [cSl G2.length xss.length]]) := Ext.app _ _
  have c4 : Nst true true (G3 ++ [cR [cSl G2.length xss.length]]) G2.length xss := c3.ext x4
  have l4 : (G3 ++ [cR [cSl G2.length xss.length]]).length = G3.length + 1 := by simp
  have q4 : (G3 ++ [cR [cSl G2.length xss.length]])[G3.length]? = some (cR [cSl G2.length xss.length]) := lkn _ _
  have q5 : (G3 ++ [cR [cSl G2.length xss.length]])[G.length]? = some (cR [cSl 0 xss.length]) := x4 _ _ (x3 _ _ q2)
  have n4 : Nst false false (G3 ++ [cR [cSl G2.length xss.length]]) 0 xss := n1.ext (x2.trans (x3.trans x4))
  simp (dsimp := false) only [qz, qs, List.length_cons, List.length_nil, List.take_succ_cons, List.take_zero, go_sem, Nat.reduceAdd, Nat.reduceBEq, Nat.reduceEqDiff, Nat.reduceLT, Nat.reduceLeDiff, reduceCtorEq, ↓reduceIte]
  repeat (simp (dsimp := false) only [awp_seq]; try simp (dsimp := false) only [qz, qs, q4, q5, List.length_cons, List.length_nil, List.take_succ_cons, List.take_zero, go_sem, Nat.reduceAdd, Nat.reduceBEq, Nat.reduceEqDiff, Nat.reduceLT, Nat.reduceLeDiff, reduceCtorEq, ↓reduceIte])
  generalize hG4 : G3 ++ [cR [cSl G2.length xss.length]] = G4 at *
  have hI := ACalls.liftM [a, b, k] c4 (fun _ => rfl) (by have h := iCb_s xss a b k (by omega) hr1; rw [hV] at h; exact h)
  simp only [List.map_cons, List.map_nil] at hI
  try simp (dsimp := false) only [q4, q5, List.length_cons, List.length_nil, List.take_succ_cons, List.take_zero, go_sem, Nat.reduceAdd, Nat.reduceBEq, Nat.reduceEqDiff, Nat.reduceLT, Nat.reduceLeDiff, reduceCtorEq, ↓reduceIte]
  repeat (refine And.intro (by first | exact True.intro | omega | kernel_rfl | (simp only [List.length_set, List.length_append, List.length_take, List.length_replicate, List.length_cons, true_and, and_true, List.length_nil, tabR_length]; omega)) ?_)
  refine ⟨_, (hI).mono ?_⟩
  rintro _ G0 ⟨rfl, h9⟩
  have h9 := h9.symm
  subst h9
  simp (dsimp := false) only [q4, q5, bne_self_eq_false, List.length_cons, List.length_nil, List.take_succ_cons, List.take_zero, go_sem, Nat.reduceAdd, Nat.reduceBEq, Nat.reduceEqDiff, Nat.reduceLT, Nat.reduceLeDiff, reduceCtorEq, ↓reduceIte]
  repeat (simp (dsimp := false) only [awp_seq]; try simp (dsimp := false) only [q4, q5, bne_self_eq_false, List.length_cons, List.length_nil, List.take_succ_cons, List.take_zero, go_sem, Nat.reduceAdd, Nat.reduceBEq, Nat.reduceEqDiff, Nat.reduceLT, Nat.reduceLeDiff, reduceCtorEq, ↓reduceIte])
  repeat (refine And.intro (by first | exact True.intro | omega | kernel_rfl | (simp only [List.length_set, List.length_append, List.length_take, List.length_replicate, List.length_cons, true_and, and_true, List.length_nil, tabR_length]; omega)) ?_)
  refine ⟨_, And.intro ?_ ((hT n4).mono ?_)⟩
  · simp [msIn]
  rintro _ G5 ⟨rfl, e5⟩
  refine ⟨by rw [e5]; exact sameFrom_app _ _ _ _, ?_⟩
  simp (dsimp := false) only [q4, go_sem, Nat.reduceAdd, Nat.reduceBEq, Nat.reduceEqDiff, Nat.reduceLT, Nat.reduceLeDiff, reduceCtorEq, ↓reduceIte]
  repeat (simp (dsimp := false) only [awp_seq]; try simp (dsimp := false) only [q4, go_sem, Nat.reduceAdd, Nat.reduceBEq, Nat.reduceEqDiff, Nat.reduceLT, Nat.reduceLeDiff, reduceCtorEq, ↓reduceIte])
  have x5 : Ext G4 G5 := by rw [e5]; exact Ext.app _ _
  have c5 : Nst true true G5 G4.length xss := by rw [e5]; exact nst_end _ _
  have s5 : sameFrom [] 0 G4 G5 := by rw [e5]; exact sameFrom_app _ _ _ _
  clear e5
  have hE := eqMt_g (c4.ext x5) c5 (by omega) (by omega) hr1
  repeat (refine And.intro (by first | exact True.intro | omega | kernel_rfl | (simp only [List.length_set, List.length_append, List.length_take, List.length_replicate, List.length_cons, true_and, and_true, List.length_nil, tabR_length]; omega)) ?_)
  refine ⟨_, And.intro ?_ ((hE).mono ?_)⟩
  · simp [msIn]
  rintro _ G0 ⟨rfl, h9⟩
  have h9 := h9.symm
  subst h9
  refine ⟨s5, ?_⟩
  simp (dsimp := false) only [q4, Bool.not_true, go_sem, Nat.reduceAdd, Nat.reduceBEq, Nat.reduceEqDiff, Nat.reduceLT, Nat.reduceLeDiff, reduceCtorEq, ↓reduceIte]
  repeat (simp (dsimp := false) only [awp_seq]; try simp (dsimp := false) only [q4, Bool.not_true, go_sem, Nat.reduceAdd, Nat.reduceBEq, Nat.reduceEqDiff, Nat.reduceLT, Nat.reduceLeDiff, reduceCtorEq, ↓reduceIte])
  refine afin (List.range G.length) [aB true] G (by simp) rfl (wk_ext (Nat.le_refl _) hcl (x1.trans (x2.trans (x3.trans (x4.trans x5)))) (by simp [slId, get_cons, get_nil, TV.hs, AV.hs, C.hs, RS.slot, zipSlots])) (by simp [rtv])
end Go.Proofs.Ytpoappgfmjnioaa
