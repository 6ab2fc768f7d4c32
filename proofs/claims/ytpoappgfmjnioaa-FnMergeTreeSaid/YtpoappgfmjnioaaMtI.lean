/- Contracts: the validity of merge trees, in the program. -/
import Derived.Test.YtpoappgfmjnioaaMtV
set_option linter.unusedSimpArgs false
set_option linter.unusedVariables false
set_option linter.unusedSectionVars false
set_option linter.unnecessarySimpa false
namespace Go.Proofs.Ytpoappgfmjnioaa
open Go Go.Ax
set_option maxRecDepth 10000
set_option maxHeartbeats 1000000

theorem eqF_s (xss yss : List (List Int)) (hx : xss.length ≤ 281474976710656) (hr : ∀ x ∈ xss, x.length ≤ 281474976710656) :
    ACalls Try.prog 78 [tSS 0 xss.length, tSS 1 yss.length, .a (.c (.fn 76 []))] [] (nst2 xss yss) (fun t H => t = tB (decide (xss = yss)) ∧ H = nst2 xss yss) := by
  have hl := nst2_len xss yss
  have h0 : (nst2 xss yss)[0]? = some (.r false (.cells 1 (nsC 2 xss))) := rfl
  have h1 : (nst2 xss yss)[1]? = some (.r false (.cells 1 (nsC (2 + xss.length) yss))) := rfl
  have hcl := nst2_cl xss yss
  have hA := fun i x h => nst2_a (xss := xss) (yss := yss) (i := i) (x := x) h
  have hB := fun i x h => nst2_b (xss := xss) (yss := yss) (i := i) (x := x) h
  have hro := nst2_ro (xss := xss) (yss := yss)
  generalize nst2 xss yss = G at *
  have hN0 : 0 < G.length := by omega
  have hN1 : 1 < G.length := by omega
  refine afun (fun _ => none) [6] G.length Try.func78 rfl rfl mix (by kernel_rfl) (by kernel_rfl) (by simp [Try.f78]) rfl (⟨trivial, ownAll_ro hro⟩) ?_
  simp (dsimp := false) only [go_sem, Nat.reduceAdd, Nat.reduceBEq, Nat.reduceEqDiff, Nat.reduceLT, Nat.reduceLeDiff, reduceCtorEq, ↓reduceIte]
  by_cases hL : xss.length = yss.length
  · have hd : ((xss.length : Int) != (yss.length : Int)) = false := by rw [bne_eq_false_iff_eq]; omega
    simp (dsimp := false) only [hd, go_sem, Nat.reduceAdd, Nat.reduceBEq, Nat.reduceEqDiff, Nat.reduceLT, Nat.reduceLeDiff, reduceCtorEq, ↓reduceIte]
    refine aloop (σ := Nat) (fun i => ([(1, tSS 1 yss.length), (2, .a (.c (.fn 76 []))), (15, tSS 0 xss.length), (16, tI xss.length), (17, tI i)], G)) (fun i => i ≤ xss.length ∧ xss.take i = yss.take i) (fun i => xss.length - i) 0 (List.range G.length) ⟨by omega, by simp⟩ (wk_id (by omega) hcl (by simp [slId, get_cons, get_nil, TV.hs, AV.hs, C.hs, RS.slot, zipSlots, hN0, hN1])) ?_
    rintro i ⟨hi, he⟩
    by_cases hc : i < xss.length
    · have hcd : decide ((i : Int) < (xss.length : Int)) = true := decide_eq_true (by omega)
      obtain ⟨x, hxi⟩ : ∃ x, xss[i]? = some x := ⟨_, List.getElem?_eq_getElem hc⟩
      obtain ⟨y, hyi⟩ : ∃ y, yss[i]? = some y := ⟨_, List.getElem?_eq_getElem (by omega)⟩
      have hxl := hr x (List.mem_of_getElem? hxi)
      have c0 := nsC_at (b := 2) hxi
      have c1 := nsC_at (b := 2 + xss.length) hyi
      have hc1 := two_g (hA i x hxi) (hB i y hyi) (by omega) (sameC_s x y hxl)
      simp (dsimp := false) only [hcd, h0, h1, c0, c1, Int.toNat_natCast, go_sem, Nat.reduceAdd, Nat.reduceBEq, Nat.reduceEqDiff, Nat.reduceLT, Nat.reduceLeDiff, reduceCtorEq, ↓reduceIte]
      by_cases hxy : x = y
      · rw [decide_eq_true hxy] at hc1
        repeat (refine And.intro (by first | exact True.intro | omega | kernel_rfl | (simp only [List.length_set, List.length_append, List.length_take, List.length_replicate, List.length_cons, true_and, and_true, List.length_nil, tabR_length]; omega)) ?_)
        refine ⟨_, (hc1).mono ?_⟩
        rintro _ G9 ⟨rfl, h9⟩
        have h9 := h9.symm
        subst h9
        simp (dsimp := false) only [hcd, go_sem, Nat.reduceAdd, Nat.reduceBEq, Nat.reduceEqDiff, Nat.reduceLT, Nat.reduceLeDiff, reduceCtorEq, ↓reduceIte]
        repeat (refine And.intro (by first | exact True.intro | omega | kernel_rfl | (simp only [List.length_set, List.length_append, List.length_take, List.length_replicate, List.length_cons, true_and, and_true, List.length_nil, tabR_length]; omega)) ?_)
        subst hxy
        refine ⟨i + 1, List.range G.length, ⟨⟨by omega, by rw [take_snoc hxi, take_snoc hyi, he]⟩, by omega⟩, wk_id (by omega) hcl (by simp [slId, get_cons, get_nil, TV.hs, AV.hs, C.hs, RS.slot, zipSlots, hN0, hN1])⟩
      · rw [decide_eq_false hxy] at hc1
        have e : ¬ xss = yss := fun e => hxy (by rw [e, hyi] at hxi; exact (Option.some.inj hxi).symm)
        repeat (refine And.intro (by first | exact True.intro | omega | kernel_rfl | (simp only [List.length_set, List.length_append, List.length_take, List.length_replicate, List.length_cons, true_and, and_true, List.length_nil, tabR_length]; omega)) ?_)
        refine ⟨_, (hc1).mono ?_⟩
        rintro _ G9 ⟨rfl, h9⟩
        have h9 := h9.symm
        subst h9
        simp (dsimp := false) only [hcd, go_sem, Nat.reduceAdd, Nat.reduceBEq, Nat.reduceEqDiff, Nat.reduceLT, Nat.reduceLeDiff, reduceCtorEq, ↓reduceIte]
        repeat (refine And.intro (by first | exact True.intro | omega | kernel_rfl | (simp only [List.length_set, List.length_append, List.length_take, List.length_replicate, List.length_cons, true_and, and_true, List.length_nil, tabR_length]; omega)) ?_)
        refine afin (List.range G.length) [aB false] G (by simp) rfl (wk_id (by omega) hcl (by simp [slId, get_cons, get_nil, TV.hs, AV.hs, C.hs, RS.slot, zipSlots, hN0, hN1])) (by simp [rtv, e])
    · have hcd : decide ((i : Int) < (xss.length : Int)) = false := decide_eq_false (by omega)
      have e : xss = yss := by
        rw [List.take_of_length_le (by omega), List.take_of_length_le (by omega)] at he; exact he
      simp (dsimp := false) only [hcd, go_sem, Nat.reduceAdd, Nat.reduceBEq, Nat.reduceEqDiff, Nat.reduceLT, Nat.reduceLeDiff, reduceCtorEq, ↓reduceIte]
      refine afin (List.range G.length) [aB true] G (by simp) rfl (wk_id (by omega) hcl (by simp [slId, get_cons, get_nil, TV.hs, AV.hs, C.hs, RS.slot, zipSlots, hN0, hN1])) (by simp [rtv, e])
  · have hd : ((xss.length : Int) != (yss.length : Int)) = true := by rw [bne_iff_ne]; omega
    have e : ¬ xss = yss := fun e => hL (by rw [e])
    simp (dsimp := false) only [hd, go_sem, Nat.reduceAdd, Nat.reduceBEq, Nat.reduceEqDiff, Nat.reduceLT, Nat.reduceLeDiff, reduceCtorEq, ↓reduceIte]
    refine afin (List.range G.length) [aB false] G (by simp) rfl (wk_id (by omega) hcl (by simp [slId, get_cons, get_nil, TV.hs, AV.hs, C.hs, RS.slot, zipSlots, hN0, hN1])) (by simp [rtv, e])
theorem eqF_g {G : Hp} {o1 o1' o2 o2' : Bool} {a b : Nat} {xss yss : List (List Int)} (hA : Nst o1 o1' G a xss) (hB : Nst o2 o2' G b yss) (hd : a + xss.length < b ∨ b + yss.length < a) (hx : xss.length ≤ 281474976710656) (hr : ∀ x ∈ xss, x.length ≤ 281474976710656) :
    ACalls Try.prog 78 [tSS a xss.length, tSS b yss.length, .a (.c (.fn 76 []))] [] G (fun t G' => t = tB (decide (xss = yss)) ∧ G' = G) := by
  obtain ⟨ρ, h1, h2, h3, h4, h5, h6⟩ := nst2_rho hA hB hd
  have hl := eqF_s xss yss hx hr
  have hl' : ACalls Try.prog 78 [tSS 0 xss.length, tSS 1 yss.length, .a (.c (.fn 76 []))] [] (nst2 xss yss) (fun t H' => t = tB (decide (xss = yss)) ∧ H' = nst2 xss yss ++ []) := by simpa using hl
  refine (ACalls.liftN hl' ρ nst2_ro (by simp) h1 h2 h3 ?_ ?_).mono ?_
  · simp only [List.map_cons, List.map_nil, TV.ren, AV.ren, C.ren, h4, h5]
  · intro t ht h hh
    simp only [List.mem_cons, List.not_mem_nil, or_false] at ht
    rcases ht with rfl | rfl | rfl <;> simp [TV.hs, AV.hs, C.hs] at hh <;> omega
  · rintro t G' ⟨rfl, rfl⟩
    exact ⟨rfl, by simp⟩

theorem sIsValidMt_s (xss : List (List Int)) (hx : xss.length ≤ 281474976710656) (hr : ∀ x ∈ xss, x.length ≤ 281474976710656) :
    ACalls Try.prog 45 [tMt 0 xss.length] [] (nst false false 0 xss) (fun t H => t = tB (tvB xss) ∧ H = nst false false 0 xss) := by
  have hN : Nst false false (nst false false 0 xss) 0 xss := nst_pre [] xss
  have hcl := nst_cl false false xss
  have hro := nst_ro (b := 0) (xss := xss)
  have hs := l10Tree_s xss hx hr
  generalize hG : nst false false 0 xss = G at *
  have q0 := lkn G (cR [cSl 0 xss.length])
  have x1 : Ext G (G ++ [cR [cSl 0 xss.length]]) := Ext.app _ _
  have hs' := ACalls.liftM [] (hN.ext x1) (fun _ => rfl) (by rw [hG]; exact hs)
  refine afun (fun _ => none) [2] G.length Try.func45 rfl rfl mix (by kernel_rfl) (by kernel_rfl) (by simp [Try.f45]) rfl (⟨trivial, ownAll_ro hro⟩) ?_
  simp (dsimp := false) only [q0, List.length_cons, List.length_nil, List.take_succ_cons, List.take_zero, go_sem, Nat.reduceAdd, Nat.reduceBEq, Nat.reduceEqDiff, Nat.reduceLT, Nat.reduceLeDiff, reduceCtorEq, ↓reduceIte]
  repeat (refine And.intro (by first | exact True.intro | omega | kernel_rfl | (simp only [List.length_set, List.length_append, List.length_take, List.length_replicate, List.length_cons, true_and, and_true, List.length_nil, tabR_length]; omega)) ?_)
  refine ⟨_, (hs').mono ?_⟩
  rintro _ G9 ⟨rfl, h9⟩
  have h9 := h9.symm
  subst h9
  simp (dsimp := false) only [q0, go_sem, Nat.reduceAdd, Nat.reduceBEq, Nat.reduceEqDiff, Nat.reduceLT, Nat.reduceLeDiff, reduceCtorEq, ↓reduceIte]
  refine afin (List.range G.length) [aB (tvB xss)] G (by simp) rfl (wk_ext (Nat.le_refl _) hcl x1 (by simp [slId, get_cons, get_nil, TV.hs, AV.hs, C.hs, RS.slot, zipSlots])) (by simp [rtv])

theorem iIsValidMt_s (xss : List (List Int)) (hx : xss.length ≤ 281474976710656) (hr : ∀ x ∈ xss, x.length ≤ 281474976710656) :
    ACalls Try.prog 47 [tMt 0 xss.length] [] (nst false false 0 xss) (fun t H => t = tB (tvB xss) ∧ H = nst false false 0 xss) := by
  have hN : Nst false false (nst false false 0 xss) 0 xss := nst_pre [] xss
  have hl := nst_len false false 0 xss
  have hcl := nst_cl false false xss
  have hro := nst_ro (b := 0) (xss := xss)
  generalize nst false false 0 xss = G at *
  have hN0 : 0 < G.length := by omega
  have q0 := lkn G (cR [cSl 0 xss.length])
  have x1 : Ext G (G ++ [cR [cSl 0 xss.length]]) := Ext.app _ _
  have n1 : Nst false false (G ++ [cR [cSl 0 xss.length]]) 0 xss := hN.ext x1
  have l1 : (G ++ [cR [cSl 0 xss.length]]).length = G.length + 1 := by simp
  have g0 : (G ++ [cR [cSl 0 xss.length]])[0]? = some (.r false (.cells 1 (nsC 1 xss))) := n1.cells
  refine afun (fun i => match i with | 4 => some ⟨[], .op 0 .held (.op 2 .held (.op 3 .now (.op 4 .held (.op 5 .now (.op 8 .held (.op 1 .held (.op 6 .only (.op 7 .held (.op 9 .only (.op 10 .held .nil))))))))))⟩ | _ => none) [2] G.length Try.func47 rfl rfl mix (by kernel_rfl) (by kernel_rfl) (by simp [Try.f47]) rfl (⟨trivial, ownAll_ro hro⟩) ?_
  by_cases hn : xss.length = 0
  · have hd : ((xss.length : Int) == 0) = true := by rw [beq_iff_eq]; omega
    have e := tvB_nil hn
    simp (dsimp := false) only [q0, hd, go_sem, Nat.reduceAdd, Nat.reduceBEq, Nat.reduceEqDiff, Nat.reduceLT, Nat.reduceLeDiff, reduceCtorEq, ↓reduceIte]
    refine afin (List.range G.length) [aB false] G (by simp) rfl (wk_ext (Nat.le_refl _) hcl x1 (by simp [slId, get_cons, get_nil, TV.hs, AV.hs, C.hs, RS.slot, zipSlots])) (by simp [rtv, e])
  have hd : ((xss.length : Int) == 0) = false := by rw [beq_eq_false_iff_ne]; omega
  obtain ⟨x, hx0⟩ : ∃ x, xss[0]? = some x := ⟨_, List.getElem?_eq_getElem (by omega)⟩
  have hxl := hr x (List.mem_of_getElem? hx0)
  have c0 : (nsC 1 xss)[0]? = some (.sl 1 (1 + 0) 0 x.length) := nsC_at hx0
  have r1 := n1.rows 0 x hx0
  have eT := tvB_at hx0
  have hl2 : ACalls Try.prog 56 (tS 0 x.length :: ([] : List Int).map tI) [] [rI x] (fun t H => t = tB (validB x) ∧ H = [rI x]) := isValidList_l x hxl
  have hl2g := one_g (is := []) r1 (fun _ => rfl) hl2
  simp (dsimp := false) only [q0, hd, g0, c0, Int.toNat_zero, go_sem, Nat.reduceAdd, Nat.reduceBEq, Nat.reduceEqDiff, Nat.reduceLT, Nat.reduceLeDiff, reduceCtorEq, ↓reduceIte]
  cases hv : validB x
  · rw [hv] at hl2g eT
    repeat (refine And.intro (by first | exact True.intro | omega | kernel_rfl | (simp only [List.length_set, List.length_append, List.length_take, List.length_replicate, List.length_cons, true_and, and_true, List.length_nil, tabR_length]; omega)) ?_)
    refine ⟨_, (hl2g).mono ?_⟩
    rintro _ G9 ⟨rfl, h9⟩
    have h9 := h9.symm
    subst h9
    simp (dsimp := false) only [hd, go_sem, Nat.reduceAdd, Nat.reduceBEq, Nat.reduceEqDiff, Nat.reduceLT, Nat.reduceLeDiff, reduceCtorEq, ↓reduceIte]
    refine afin (List.range G.length) [aB false] G (by simp) rfl (wk_ext (Nat.le_refl _) hcl x1 (by simp [slId, get_cons, get_nil, TV.hs, AV.hs, C.hs, RS.slot, zipSlots])) (by simp [rtv, eT])
  rw [hv] at hl2g eT
  have h64 := validB_len hv
  repeat (refine And.intro (by first | exact True.intro | omega | kernel_rfl | (simp only [List.length_set, List.length_append, List.length_take, List.length_replicate, List.length_cons, true_and, and_true, List.length_nil, tabR_length]; omega)) ?_)
  refine ⟨_, (hl2g).mono ?_⟩
  rintro _ G9 ⟨rfl, h9⟩
  have h9 := h9.symm
  subst h9
  simp (dsimp := false) only [hd, q0, g0, c0, Int.toNat_zero, go_sem, Nat.reduceAdd, Nat.reduceBEq, Nat.reduceEqDiff, Nat.reduceLT, Nat.reduceLeDiff, reduceCtorEq, ↓reduceIte]
  repeat (refine And.intro (by first | exact True.intro | omega | kernel_rfl | (simp only [List.length_set, List.length_append, List.length_take, List.length_replicate, List.length_cons, true_and, and_true, List.length_nil, tabR_length]; omega)) ?_)
  refine ⟨_, And.intro ?_ ((mt_lift (mergeTree_n x h64) r1).mono ?_)⟩
  · simp [msIn]
  rintro _ G2 ⟨rfl, e2⟩
  have x2 : Ext (G ++ [cR [cSl 0 xss.length]]) G2 := by rw [e2]; exact Ext.app _ _
  have l2 : G2.length = G.length + 1 + ((lvs x).length + 1) := by rw [e2, List.length_append, nst_len, l1]
  have n2 : Nst true true G2 (G.length + 1) (lvs x) := by rw [e2, ← l1]; exact nst_end _ _
  have m2 : Nst false false G2 0 xss := n1.ext x2
  have s2 : sameFrom [] 0 (G ++ [cR [cSl 0 xss.length]]) G2 := by rw [e2]; exact sameFrom_app _ _ _ _
  refine ⟨s2, ?_⟩
  have hF := eqF_g m2 n2 (by omega) hx hr
  simp (dsimp := false) only [l1, go_sem, Nat.reduceAdd, Nat.reduceBEq, Nat.reduceEqDiff, Nat.reduceLT, Nat.reduceLeDiff, reduceCtorEq, ↓reduceIte]
  repeat (refine And.intro (by first | exact True.intro | omega | kernel_rfl | (simp only [List.length_set, List.length_append, List.length_take, List.length_replicate, List.length_cons, true_and, and_true, List.length_nil, tabR_length]; omega)) ?_)
  refine ⟨_, And.intro ?_ (hF.mono ?_)⟩
  · simp [msIn]
  rintro _ G3 ⟨rfl, e3⟩
  have e3 := e3.symm
  subst e3
  refine ⟨s2, ?_⟩
  have e : decide (xss = lvs x) = decide (lvs x = xss) := by
    by_cases h : xss = lvs x
    · rw [decide_eq_true h, decide_eq_true h.symm]
    · rw [decide_eq_false h, decide_eq_false fun h' => h h'.symm]
  simp (dsimp := false) only [go_sem, Nat.reduceAdd, Nat.reduceBEq, Nat.reduceEqDiff, Nat.reduceLT, Nat.reduceLeDiff, reduceCtorEq, ↓reduceIte]
  refine afin (List.range G.length) [aB (decide (xss = lvs x))] G (by simp) rfl (wk_ext (Nat.le_refl _) hcl (x1.trans x2) (by simp [slId, get_cons, get_nil, TV.hs, AV.hs, C.hs, RS.slot, zipSlots])) ⟨by rw [eT, ← e]; simp [rtv], rfl⟩
end Go.Proofs.Ytpoappgfmjnioaa
