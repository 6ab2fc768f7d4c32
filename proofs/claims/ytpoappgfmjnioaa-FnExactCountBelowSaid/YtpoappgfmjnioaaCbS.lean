/- Contracts: counting below a key over a range of a merge tree, in the reference. -/
import Derived.Test.YtpoappgfmjnioaaCb
set_option linter.unusedSimpArgs false
set_option linter.unusedVariables false
set_option linter.unusedSectionVars false
set_option linter.unnecessarySimpa false
namespace Go.Proofs.Ytpoappgfmjnioaa
open Go Go.Ax
set_option maxRecDepth 10000
set_option maxHeartbeats 1000000

theorem sCb_s (xss : List (List Int)) (a b k : Int) (hx : xss.length ≤ 281474976710656) (hr : ∀ x ∈ xss, x.length ≤ 281474976710656) :
    ACalls Try.prog 51 [tMt 0 xss.length, tI a, tI b, tI k] [] (nst false false 0 xss) (fun t H => t = .tup (cntM xss a b k) ∧ H = nst false false 0 xss) := by
  have hN : Nst false false (nst false false 0 xss) 0 xss := nst_pre [] xss
  have hl := nst_len false false 0 xss
  have hclG := nst_cl false false xss
  have hro := nst_ro (b := 0) (xss := xss)
  have hs := sRng_s xss a b hx hr
  generalize hG : nst false false 0 xss = G at *
  have hN0 : 0 < G.length := by omega
  have q0 := lkn G (cR [cSl 0 xss.length])
  have x1 : Ext G (G ++ [cR [cSl 0 xss.length]]) := Ext.app _ _
  have n1 : Nst false false (G ++ [cR [cSl 0 xss.length]]) 0 xss := hN.ext x1
  have l1 : (G ++ [cR [cSl 0 xss.length]]).length = G.length + 1 := by simp
  have g0 : (G ++ [cR [cSl 0 xss.length]])[0]? = some (.r false (.cells 1 (nsC 1 xss))) := n1.cells
  have hcl := bx_cl (n := xss.length) hclG hN0
  have hs' := ACalls.liftM [a, b] n1 (fun _ => rfl) (by rw [hG]; exact hs)
  simp only [List.map_nil, List.map_cons] at hs'
  refine afun (fun _ => none) [8, 9, 10] G.length Try.func51 rfl rfl mix (by kernel_rfl) (by kernel_rfl) (by simp [Try.f51]) rfl (⟨trivial, ownAll_ro hro⟩) ?_
  cases hv : rngB xss a b
  · rw [hv] at hs'
    simp (dsimp := false) only [q0, List.length_cons, List.length_nil, List.take_succ_cons, List.take_zero, go_sem, Nat.reduceAdd, Nat.reduceBEq, Nat.reduceEqDiff, Nat.reduceLT, Nat.reduceLeDiff, reduceCtorEq, ↓reduceIte]
    repeat (refine And.intro (by first | exact True.intro | omega | kernel_rfl | (simp only [List.length_set, List.length_append, List.length_take, List.length_replicate, List.length_cons, true_and, and_true, List.length_nil, tabR_length]; omega)) ?_)
    refine ⟨_, (hs').mono ?_⟩
    rintro _ G9 ⟨rfl, h9⟩
    have h9 := h9.symm
    subst h9
    simp (dsimp := false) only [q0, go_sem, Nat.reduceAdd, Nat.reduceBEq, Nat.reduceEqDiff, Nat.reduceLT, Nat.reduceLeDiff, reduceCtorEq, ↓reduceIte]
    refine afin (List.range G.length) [aI 0, aI 0, aB false] G (by simp) rfl (wk_ext (Nat.le_refl _) hclG x1 (by simp [slId, get_cons, get_nil, TV.hs, AV.hs, C.hs, RS.slot, zipSlots])) (by simp [rtv, cntM, hv])
  obtain ⟨x, A, B, hx0, hvx, hlv, rfl, rfl, hAB, hBx, h64⟩ := rngB_t hv
  have hxl := lt_of_get hx0
  have c0 : (nsC 1 xss)[0]? = some (.sl 1 (1 + 0) 0 x.length) := nsC_at hx0
  have r1 : (G ++ [cR [cSl 0 xss.length]])[1]? = some (.r false (.ints .i64 x)) := n1.rows 0 x hx0
  rw [hv] at hs'
  have eh := head_at hx0
  have hD6 := (mtDep_ok h64).1
  have hLn : xss.length = mtDep x.length + 1 := by rw [← hlv, lvs_len]
  obtain ⟨D, hD⟩ : ∃ D, D = xss.length - 1 := ⟨_, rfl⟩
  obtain ⟨T, hT⟩ : ∃ T, T = cbT x B D k B A 0 0 := ⟨_, rfl⟩
  have eM : cntM xss A B k = [aI T.1, aI T.2, aB true] := by simp only [cntM, hv, cond_true, eh, Int.toNat_natCast, ← hD, ← hT]
  simp (dsimp := false) only [q0, List.length_cons, List.length_nil, List.take_succ_cons, List.take_zero, go_sem, Nat.reduceAdd, Nat.reduceBEq, Nat.reduceEqDiff, Nat.reduceLT, Nat.reduceLeDiff, reduceCtorEq, ↓reduceIte]
  repeat (refine And.intro (by first | exact True.intro | omega | kernel_rfl | (simp only [List.length_set, List.length_append, List.length_take, List.length_replicate, List.length_cons, true_and, and_true, List.length_nil, tabR_length]; omega)) ?_)
  refine ⟨_, (hs').mono ?_⟩
  rintro _ G9 ⟨rfl, h9⟩
  have h9 := h9.symm
  subst h9
  simp (dsimp := false) only [q0, g0, c0, Int.toNat_zero, List.length_cons, List.length_nil, List.take_succ_cons, List.take_zero, go_sem, Nat.reduceAdd, Nat.reduceBEq, Nat.reduceEqDiff, Nat.reduceLT, Nat.reduceLeDiff, reduceCtorEq, ↓reduceIte]
  generalize hG1 : G ++ [cR [cSl 0 xss.length]] = G1 at *
  have hGl : G.length < G1.length := by omega
  have hN1 : 0 < G1.length := by omega
  repeat (refine And.intro (by first | exact True.intro | omega | kernel_rfl | (simp only [List.length_set, List.length_append, List.length_take, List.length_replicate, List.length_cons, true_and, and_true, List.length_nil, tabR_length]; omega)) ?_)
  refine aloopQ (σ := Nat × Nat × Nat × Nat) (fun s => ([(2, tI B), (3, tI k), (4, .a (.c (.ptr G.length 0 0))), (11, tI s.2.2.1), (12, tI s.2.2.2), (13, tI s.2.1)], G1)) (fun s => cbT x B D k s.1 s.2.1 s.2.2.1 s.2.2.2 = T ∧ B ≤ s.2.1 + s.1 ∧ s.2.1 ≤ B ∧ s.2.2.1 ≤ s.2.1 ∧ s.2.2.2 ≤ s.2.1) (fun s => s.1) (B, A, 0, 0) (List.range G1.length) ⟨hT.symm, by dsimp only; omega, hAB, Nat.zero_le _, Nat.zero_le _⟩ (wk_id (by omega) hcl (by simp [slId, get_cons, get_nil, TV.hs, AV.hs, C.hs, RS.slot, zipSlots, hN1, hGl])) ?_
  rintro Q hQ ⟨g, p, c, bl⟩ ⟨j1, j2, j3, j4, j5⟩
  simp only at j1 j2 j3 j4 j5
  by_cases hp : p < B
  · have hcd : decide ((p : Int) < (B : Int)) = true := decide_eq_true (by omega)
    obtain ⟨g, rfl⟩ : ∃ g', g = g' + 1 := ⟨g - 1, by omega⟩
    rw [cbT_step hp] at j1
    simp (dsimp := false) only [hcd, q0, go_sem, Nat.reduceAdd, Nat.reduceBEq, Nat.reduceEqDiff, Nat.reduceLT, Nat.reduceLeDiff, reduceCtorEq, ↓reduceIte]
    repeat (refine And.intro (by first | exact True.intro | omega | kernel_rfl | (simp only [List.length_set, List.length_append, List.length_take, List.length_replicate, List.length_cons, true_and, and_true, List.length_nil, tabR_length]; omega)) ?_)
    refine aloopQ (σ := Nat) (fun e => ([(2, tI B), (3, tI k), (4, .a (.c (.ptr G.length 0 0))), (11, tI c), (12, tI bl), (13, tI p), (14, tI (2 ^ e : Nat)), (15, tI (e + 1 : Nat))], G1)) (fun e => e ≤ D ∧ okD x.length B p e = true) (fun e => D - e) 0 (List.range G1.length) ⟨Nat.zero_le _, okD_0 hp⟩ (wk_id (by omega) hcl (by simp [slId, get_cons, get_nil, TV.hs, AV.hs, C.hs, RS.slot, zipSlots, hN1, hGl])) ?_
    rintro Q2 hQ2 d ⟨hd, hok⟩
    -- the way on, the block's size known
    have hw1 : 1 ≤ 2 ^ d := Nat.one_le_two_pow
    have hw2 : 2 ^ d ≤ 2 ^ 6 := Nat.pow_le_pow_right (by omega) (by omega)
    obtain ⟨w, hw⟩ : ∃ w, w = 2 ^ d := ⟨_, rfl⟩
    rw [← hw] at hw1 hw2
    have ws : 2 ^ (d + 1) = 2 * w := by rw [Nat.pow_succ, hw]; omega
    -- the three exits
    have ea : (p : Int) + (w : Int) = ((p + w : Nat) : Int) := by omega
    have e2 : (2 : Int) * (w : Int) = ((2 * w : Nat) : Int) := by omega
    have et := tm_n p (2 * w)
    have ea2 : (p : Int) + ((2 * w : Nat) : Int) = ((p + 2 * w : Nat) : Int) := by omega
    have em : min ((p + 2 * w : Nat) : Int) (x.length : Int) = ((min (p + 2 * w) x.length : Nat) : Int) := by omega
    have hw0 : ((2 * w : Nat) : Int) ≠ 0 := by omega
    by_cases hdD : d < D
    · have hdd : decide (((d + 1 : Nat) : Int) < (xss.length : Int)) = true := decide_eq_true (by omega)
      by_cases hm : p % (2 * w) = 0
      · have dm : (((p % (2 * w) : Nat) : Int) != 0) = false := by rw [bne_eq_false_iff_eq]; omega
        have hL2 := pure_g (G := G1) (l1Least_l ((p + 2 * w : Nat) : Int) (x.length : Int)) (by simp [TV.hs, AV.hs, C.hs]) (by simp [TV.ren, AV.ren, C.ren])
        rw [em] at hL2
        by_cases hb : min (p + 2 * w) x.length ≤ B
        · have db : decide ((B : Int) < ((min (p + 2 * w) x.length : Nat) : Int)) = false := decide_eq_false (by omega)
          have hok2 : okD x.length B p (d + 1) = true := by rw [okD, ws, hm]; simp [hb]
          simp (dsimp := false) only [← hw, hdd, q0, g0, c0, e2, et, dm, ea2, Int.toNat_zero, List.length_cons, List.length_nil, List.take_succ_cons, List.take_zero, go_sem, Nat.reduceAdd, Nat.reduceBEq, Nat.reduceEqDiff, Nat.reduceLT, Nat.reduceLeDiff, reduceCtorEq, ↓reduceIte]
          repeat (refine And.intro (by first | exact True.intro | omega | kernel_rfl | (simp only [List.length_set, List.length_append, List.length_take, List.length_replicate, List.length_cons, true_and, and_true, List.length_nil, tabR_length]; omega)) ?_)
          repeat (refine And.intro (by first | exact True.intro | omega | kernel_rfl | (simp only [List.length_set, List.length_append, List.length_take, List.length_replicate, List.length_cons, true_and, and_true, List.length_nil, tabR_length]; omega)) ?_)
          refine ⟨_, (hL2).mono ?_⟩
          rintro _ G9 ⟨rfl, h9⟩
          have h9 := h9.symm
          subst h9
          simp (dsimp := false) only [db, e2, go_sem, Nat.reduceAdd, Nat.reduceBEq, Nat.reduceEqDiff, Nat.reduceLT, Nat.reduceLeDiff, reduceCtorEq, ↓reduceIte]
          repeat (refine And.intro (by first | exact True.intro | omega | kernel_rfl | (simp only [List.length_set, List.length_append, List.length_take, List.length_replicate, List.length_cons, true_and, and_true, List.length_nil, tabR_length]; omega)) ?_)
          refine ⟨d + 1, List.range G1.length, ⟨⟨by omega, hok2⟩, by omega⟩, wk_id (by omega) hcl (by simp [slId, get_cons, get_nil, TV.hs, AV.hs, C.hs, RS.slot, zipSlots, hN1, hGl, ws, Int.add_assoc])⟩
        · have db : decide ((B : Int) < ((min (p + 2 * w) x.length : Nat) : Int)) = true := decide_eq_true (by omega)
          have hok2 : okD x.length B p (d + 1) = false := by rw [okD, ws, hm]; simp [hb]
          have hdt := topD_stop hok hok2 D hd
          simp (dsimp := false) only [← hw, hdd, q0, g0, c0, e2, et, dm, ea2, Int.toNat_zero, List.length_cons, List.length_nil, List.take_succ_cons, List.take_zero, go_sem, Nat.reduceAdd, Nat.reduceBEq, Nat.reduceEqDiff, Nat.reduceLT, Nat.reduceLeDiff, reduceCtorEq, ↓reduceIte]
          repeat (refine And.intro (by first | exact True.intro | omega | kernel_rfl | (simp only [List.length_set, List.length_append, List.length_take, List.length_replicate, List.length_cons, true_and, and_true, List.length_nil, tabR_length]; omega)) ?_)
          repeat (refine And.intro (by first | exact True.intro | omega | kernel_rfl | (simp only [List.length_set, List.length_append, List.length_take, List.length_replicate, List.length_cons, true_and, and_true, List.length_nil, tabR_length]; omega)) ?_)
          refine ⟨_, (hL2).mono ?_⟩
          rintro _ G9 ⟨rfl, h9⟩
          have h9 := h9.symm
          subst h9
          simp (dsimp := false) only [db, e2, go_sem, Nat.reduceAdd, Nat.reduceBEq, Nat.reduceEqDiff, Nat.reduceLT, Nat.reduceLeDiff, reduceCtorEq, ↓reduceIte]
          have he : min (p + w) B = endD x.length B D p := by unfold endD; rw [hdt, ← hw]
          obtain ⟨e, hE⟩ : ∃ e, e = endD x.length B D p := ⟨_, rfl⟩
          have hee := endD_gt (n := x.length) (D := D) hp
          rw [← hE] at he hee j1
          have em2 : min ((p + w : Nat) : Int) (B : Int) = (e : Int) := by omega
          have hL := pure_g (G := G1) (l1Least_l ((p + w : Nat) : Int) (B : Int)) (by simp [TV.hs, AV.hs, C.hs]) (by simp [TV.ren, AV.ren, C.ren])
          rw [em2] at hL
          refine hQ2 _ _ _ ?_
          simp (dsimp := false) only [← hw, ea, go_sem, Nat.reduceAdd, Nat.reduceBEq, Nat.reduceEqDiff, Nat.reduceLT, Nat.reduceLeDiff, reduceCtorEq, ↓reduceIte]
          repeat (refine And.intro (by first | exact True.intro | omega | kernel_rfl | (simp only [List.length_set, List.length_append, List.length_take, List.length_replicate, List.length_cons, true_and, and_true, List.length_nil, tabR_length]; omega)) ?_)
          repeat (refine And.intro (by first | exact True.intro | omega | kernel_rfl | (simp only [List.length_set, List.length_append, List.length_take, List.length_replicate, List.length_cons, true_and, and_true, List.length_nil, tabR_length]; omega)) ?_)
          refine ⟨_, (hL).mono ?_⟩
          rintro _ G9 ⟨rfl, h9⟩
          have h9 := h9.symm
          subst h9
          simp (dsimp := false) only [ea, go_sem, Nat.reduceAdd, Nat.reduceBEq, Nat.reduceEqDiff, Nat.reduceLT, Nat.reduceLeDiff, reduceCtorEq, ↓reduceIte]
          refine aloopQ (σ := Nat) (fun i => ([(2, tI B), (3, tI k), (4, .a (.c (.ptr G.length 0 0))), (11, tI (c + cntB k (seg x p i) : Nat)), (12, tI bl), (13, tI (p + i : Nat)), (16, tI e)], G1)) (fun i => i ≤ e - p) (fun i => e - p - i) 0 (List.range G1.length) (Nat.zero_le _) (wk_id (by omega) hcl (by simp [slId, get_cons, get_nil, TV.hs, AV.hs, C.hs, RS.slot, zipSlots, hN1, hGl, cntB_nil])) ?_
          rintro Q3 hQ3 i hi
          have hcl3 := cntB_le k (seg x p i)
          rw [seg_len] at hcl3
          by_cases hie : i < e - p
          · have hid : decide (((p + i : Nat) : Int) < (e : Int)) = true := decide_eq_true (by omega)
            by_cases hk : x.getD (p + i) 0 < k
            · have hkd : decide (x.getD (p + i) 0 < k) = true := decide_eq_true hk
              have hy1 := cntB_yes hk
              simp (dsimp := false) only [hid, hkd, q0, g0, c0, r1, Int.toNat_zero, Int.toNat_natCast, go_sem, Nat.reduceAdd, Nat.reduceBEq, Nat.reduceEqDiff, Nat.reduceLT, Nat.reduceLeDiff, reduceCtorEq, ↓reduceIte]
              repeat (refine And.intro (by first | exact True.intro | omega | kernel_rfl | (simp only [List.length_set, List.length_append, List.length_take, List.length_replicate, List.length_cons, true_and, and_true, List.length_nil, tabR_length]; omega)) ?_)
              refine ⟨i + 1, List.range G1.length, ⟨by omega, by omega⟩, wk_id (by omega) hcl (by simp [slId, get_cons, get_nil, TV.hs, AV.hs, C.hs, RS.slot, zipSlots, hN1, hGl, hy1, Int.add_assoc])⟩
            · have hkd : decide (x.getD (p + i) 0 < k) = false := decide_eq_false hk
              have hy1 := cntB_no hk
              simp (dsimp := false) only [hid, hkd, q0, g0, c0, r1, Int.toNat_zero, Int.toNat_natCast, go_sem, Nat.reduceAdd, Nat.reduceBEq, Nat.reduceEqDiff, Nat.reduceLT, Nat.reduceLeDiff, reduceCtorEq, ↓reduceIte]
              repeat (refine And.intro (by first | exact True.intro | omega | kernel_rfl | (simp only [List.length_set, List.length_append, List.length_take, List.length_replicate, List.length_cons, true_and, and_true, List.length_nil, tabR_length]; omega)) ?_)
              refine ⟨i + 1, List.range G1.length, ⟨by omega, by omega⟩, wk_id (by omega) hcl (by simp [slId, get_cons, get_nil, TV.hs, AV.hs, C.hs, RS.slot, zipSlots, hN1, hGl, hy1, Int.add_assoc])⟩
          · have hid : decide (((p + i : Nat) : Int) < (e : Int)) = false := decide_eq_false (by omega)
            have hie2 : i = e - p := by omega
            have hpe : p + (e - p) = e := by omega
            subst hie2
            rw [hpe] at hid
            simp (dsimp := false) only [hpe, hid, go_sem, Nat.reduceAdd, Nat.reduceBEq, Nat.reduceEqDiff, Nat.reduceLT, Nat.reduceLeDiff, reduceCtorEq, ↓reduceIte]
            refine hQ3 _ _ _ ?_
            simp (dsimp := false) only [go_sem, Nat.reduceAdd, Nat.reduceBEq, Nat.reduceEqDiff, Nat.reduceLT, Nat.reduceLeDiff, reduceCtorEq, ↓reduceIte]
            repeat (refine And.intro (by first | exact True.intro | omega | kernel_rfl | (simp only [List.length_set, List.length_append, List.length_take, List.length_replicate, List.length_cons, true_and, and_true, List.length_nil, tabR_length]; omega)) ?_)
            refine ⟨(g, e, c + cntB k (seg x p (e - p)), bl + 1), List.range G1.length, ⟨⟨j1, ?_, ?_, ?_, ?_⟩, ?_⟩, wk_id (by omega) hcl (by simp [slId, get_cons, get_nil, TV.hs, AV.hs, C.hs, RS.slot, zipSlots, hN1, hGl])⟩ <;> (dsimp only; omega)
      · have dm : (((p % (2 * w) : Nat) : Int) != 0) = true := by rw [bne_iff_ne]; omega
        have hok2 : okD x.length B p (d + 1) = false := by rw [okD, ws]; simp [hm]
        have hdt := topD_stop hok hok2 D hd
        simp (dsimp := false) only [← hw, hdd, q0, g0, c0, e2, et, dm, ea2, Int.toNat_zero, List.length_cons, List.length_nil, List.take_succ_cons, List.take_zero, go_sem, Nat.reduceAdd, Nat.reduceBEq, Nat.reduceEqDiff, Nat.reduceLT, Nat.reduceLeDiff, reduceCtorEq, ↓reduceIte]
        repeat (refine And.intro (by first | exact True.intro | omega | kernel_rfl | (simp only [List.length_set, List.length_append, List.length_take, List.length_replicate, List.length_cons, true_and, and_true, List.length_nil, tabR_length]; omega)) ?_)
        have he : min (p + w) B = endD x.length B D p := by unfold endD; rw [hdt, ← hw]
        obtain ⟨e, hE⟩ : ∃ e, e = endD x.length B D p := ⟨_, rfl⟩
        have hee := endD_gt (n := x.length) (D := D) hp
        rw [← hE] at he hee j1
        have em2 : min ((p + w : Nat) : Int) (B : Int) = (e : Int) := by omega
        have hL := pure_g (G := G1) (l1Least_l ((p + w : Nat) : Int) (B : Int)) (by simp [TV.hs, AV.hs, C.hs]) (by simp [TV.ren, AV.ren, C.ren])
        rw [em2] at hL
        refine hQ2 _ _ _ ?_
        simp (dsimp := false) only [← hw, ea, go_sem, Nat.reduceAdd, Nat.reduceBEq, Nat.reduceEqDiff, Nat.reduceLT, Nat.reduceLeDiff, reduceCtorEq, ↓reduceIte]
        repeat (refine And.intro (by first | exact True.intro | omega | kernel_rfl | (simp only [List.length_set, List.length_append, List.length_take, List.length_replicate, List.length_cons, true_and, and_true, List.length_nil, tabR_length]; omega)) ?_)
        repeat (refine And.intro (by first | exact True.intro | omega | kernel_rfl | (simp only [List.length_set, List.length_append, List.length_take, List.length_replicate, List.length_cons, true_and, and_true, List.length_nil, tabR_length]; omega)) ?_)
        refine ⟨_, (hL).mono ?_⟩
        rintro _ G9 ⟨rfl, h9⟩
        have h9 := h9.symm
        subst h9
        simp (dsimp := false) only [ea, go_sem, Nat.reduceAdd, Nat.reduceBEq, Nat.reduceEqDiff, Nat.reduceLT, Nat.reduceLeDiff, reduceCtorEq, ↓reduceIte]
        refine aloopQ (σ := Nat) (fun i => ([(2, tI B), (3, tI k), (4, .a (.c (.ptr G.length 0 0))), (11, tI (c + cntB k (seg x p i) : Nat)), (12, tI bl), (13, tI (p + i : Nat)), (16, tI e)], G1)) (fun i => i ≤ e - p) (fun i => e - p - i) 0 (List.range G1.length) (Nat.zero_le _) (wk_id (by omega) hcl (by simp [slId, get_cons, get_nil, TV.hs, AV.hs, C.hs, RS.slot, zipSlots, hN1, hGl, cntB_nil])) ?_
        rintro Q3 hQ3 i hi
        have hcl3 := cntB_le k (seg x p i)
        rw [seg_len] at hcl3
        by_cases hie : i < e - p
        · have hid : decide (((p + i : Nat) : Int) < (e : Int)) = true := decide_eq_true (by omega)
          by_cases hk : x.getD (p + i) 0 < k
          · have hkd : decide (x.getD (p + i) 0 < k) = true := decide_eq_true hk
            have hy1 := cntB_yes hk
            simp (dsimp := false) only [hid, hkd, q0, g0, c0, r1, Int.toNat_zero, Int.toNat_natCast, go_sem, Nat.reduceAdd, Nat.reduceBEq, Nat.reduceEqDiff, Nat.reduceLT, Nat.reduceLeDiff, reduceCtorEq, ↓reduceIte]
            repeat (refine And.intro (by first | exact True.intro | omega | kernel_rfl | (simp only [List.length_set, List.length_append, List.length_take, List.length_replicate, List.length_cons, true_and, and_true, List.length_nil, tabR_length]; omega)) ?_)
            refine ⟨i + 1, List.range G1.length, ⟨by omega, by omega⟩, wk_id (by omega) hcl (by simp [slId, get_cons, get_nil, TV.hs, AV.hs, C.hs, RS.slot, zipSlots, hN1, hGl, hy1, Int.add_assoc])⟩
          · have hkd : decide (x.getD (p + i) 0 < k) = false := decide_eq_false hk
            have hy1 := cntB_no hk
            simp (dsimp := false) only [hid, hkd, q0, g0, c0, r1, Int.toNat_zero, Int.toNat_natCast, go_sem, Nat.reduceAdd, Nat.reduceBEq, Nat.reduceEqDiff, Nat.reduceLT, Nat.reduceLeDiff, reduceCtorEq, ↓reduceIte]
            repeat (refine And.intro (by first | exact True.intro | omega | kernel_rfl | (simp only [List.length_set, List.length_append, List.length_take, List.length_replicate, List.length_cons, true_and, and_true, List.length_nil, tabR_length]; omega)) ?_)
            refine ⟨i + 1, List.range G1.length, ⟨by omega, by omega⟩, wk_id (by omega) hcl (by simp [slId, get_cons, get_nil, TV.hs, AV.hs, C.hs, RS.slot, zipSlots, hN1, hGl, hy1, Int.add_assoc])⟩
        · have hid : decide (((p + i : Nat) : Int) < (e : Int)) = false := decide_eq_false (by omega)
          have hie2 : i = e - p := by omega
          have hpe : p + (e - p) = e := by omega
          subst hie2
          rw [hpe] at hid
          simp (dsimp := false) only [hpe, hid, go_sem, Nat.reduceAdd, Nat.reduceBEq, Nat.reduceEqDiff, Nat.reduceLT, Nat.reduceLeDiff, reduceCtorEq, ↓reduceIte]
          refine hQ3 _ _ _ ?_
          simp (dsimp := false) only [go_sem, Nat.reduceAdd, Nat.reduceBEq, Nat.reduceEqDiff, Nat.reduceLT, Nat.reduceLeDiff, reduceCtorEq, ↓reduceIte]
          repeat (refine And.intro (by first | exact True.intro | omega | kernel_rfl | (simp only [List.length_set, List.length_append, List.length_take, List.length_replicate, List.length_cons, true_and, and_true, List.length_nil, tabR_length]; omega)) ?_)
          refine ⟨(g, e, c + cntB k (seg x p (e - p)), bl + 1), List.range G1.length, ⟨⟨j1, ?_, ?_, ?_, ?_⟩, ?_⟩, wk_id (by omega) hcl (by simp [slId, get_cons, get_nil, TV.hs, AV.hs, C.hs, RS.slot, zipSlots, hN1, hGl])⟩ <;> (dsimp only; omega)
    · have hdd : decide (((d + 1 : Nat) : Int) < (xss.length : Int)) = false := decide_eq_false (by omega)
      have hdD2 : d = D := by omega
      have hdt : topD x.length B p D = d := by rw [← hdD2]; exact topD_here hok
      simp (dsimp := false) only [← hw, hdd, q0, g0, c0, List.length_cons, List.length_nil, List.take_succ_cons, List.take_zero, go_sem, Nat.reduceAdd, Nat.reduceBEq, Nat.reduceEqDiff, Nat.reduceLT, Nat.reduceLeDiff, reduceCtorEq, ↓reduceIte]
      repeat (refine And.intro (by first | exact True.intro | omega | kernel_rfl | (simp only [List.length_set, List.length_append, List.length_take, List.length_replicate, List.length_cons, true_and, and_true, List.length_nil, tabR_length]; omega)) ?_)
      have he : min (p + w) B = endD x.length B D p := by unfold endD; rw [hdt, ← hw]
      obtain ⟨e, hE⟩ : ∃ e, e = endD x.length B D p := ⟨_, rfl⟩
      have hee := endD_gt (n := x.length) (D := D) hp
      rw [← hE] at he hee j1
      have em2 : min ((p + w : Nat) : Int) (B : Int) = (e : Int) := by omega
      have hL := pure_g (G := G1) (l1Least_l ((p + w : Nat) : Int) (B : Int)) (by simp [TV.hs, AV.hs, C.hs]) (by simp [TV.ren, AV.ren, C.ren])
      rw [em2] at hL
      refine hQ2 _ _ _ ?_
      simp (dsimp := false) only [← hw, ea, go_sem, Nat.reduceAdd, Nat.reduceBEq, Nat.reduceEqDiff, Nat.reduceLT, Nat.reduceLeDiff, reduceCtorEq, ↓reduceIte]
      repeat (refine And.intro (by first | exact True.intro | omega | kernel_rfl | (simp only [List.length_set, List.length_append, List.length_take, List.length_replicate, List.length_cons, true_and, and_true, List.length_nil, tabR_length]; omega)) ?_)
      repeat (refine And.intro (by first | exact True.intro | omega | kernel_rfl | (simp only [List.length_set, List.length_append, List.length_take, List.length_replicate, List.length_cons, true_and, and_true, List.length_nil, tabR_length]; omega)) ?_)
      refine ⟨_, (hL).mono ?_⟩
      rintro _ G9 ⟨rfl, h9⟩
      have h9 := h9.symm
      subst h9
      simp (dsimp := false) only [ea, go_sem, Nat.reduceAdd, Nat.reduceBEq, Nat.reduceEqDiff, Nat.reduceLT, Nat.reduceLeDiff, reduceCtorEq, ↓reduceIte]
      refine aloopQ (σ := Nat) (fun i => ([(2, tI B), (3, tI k), (4, .a (.c (.ptr G.length 0 0))), (11, tI (c + cntB k (seg x p i) : Nat)), (12, tI bl), (13, tI (p + i : Nat)), (16, tI e)], G1)) (fun i => i ≤ e - p) (fun i => e - p - i) 0 (List.range G1.length) (Nat.zero_le _) (wk_id (by omega) hcl (by simp [slId, get_cons, get_nil, TV.hs, AV.hs, C.hs, RS.slot, zipSlots, hN1, hGl, cntB_nil])) ?_
      rintro Q3 hQ3 i hi
      have hcl3 := cntB_le k (seg x p i)
      rw [seg_len] at hcl3
      by_cases hie : i < e - p
      · have hid : decide (((p + i : Nat) : Int) < (e : Int)) = true := decide_eq_true (by omega)
        by_cases hk : x.getD (p + i) 0 < k
        · have hkd : decide (x.getD (p + i) 0 < k) = true := decide_eq_true hk
          have hy1 := cntB_yes hk
          simp (dsimp := false) only [hid, hkd, q0, g0, c0, r1, Int.toNat_zero, Int.toNat_natCast, go_sem, Nat.reduceAdd, Nat.reduceBEq, Nat.reduceEqDiff, Nat.reduceLT, Nat.reduceLeDiff, reduceCtorEq, ↓reduceIte]
          repeat (refine And.intro (by first | exact True.intro | omega | kernel_rfl | (simp only [List.length_set, List.length_append, List.length_take, List.length_replicate, List.length_cons, true_and, and_true, List.length_nil, tabR_length]; omega)) ?_)
          refine ⟨i + 1, List.range G1.length, ⟨by omega, by omega⟩, wk_id (by omega) hcl (by simp [slId, get_cons, get_nil, TV.hs, AV.hs, C.hs, RS.slot, zipSlots, hN1, hGl, hy1, Int.add_assoc])⟩
        · have hkd : decide (x.getD (p + i) 0 < k) = false := decide_eq_false hk
          have hy1 := cntB_no hk
          simp (dsimp := false) only [hid, hkd, q0, g0, c0, r1, Int.toNat_zero, Int.toNat_natCast, go_sem, Nat.reduceAdd, Nat.reduceBEq, Nat.reduceEqDiff, Nat.reduceLT, Nat.reduceLeDiff, reduceCtorEq, ↓reduceIte]
          repeat (refine And.intro (by first | exact True.intro | omega | kernel_rfl | (simp only [List.length_set, List.length_append, List.length_take, List.length_replicate, List.length_cons, true_and, and_true, List.length_nil, tabR_length]; omega)) ?_)
          refine ⟨i + 1, List.range G1.length, ⟨by omega, by omega⟩, wk_id (by omega) hcl (by simp [slId, get_cons, get_nil, TV.hs, AV.hs, C.hs, RS.slot, zipSlots, hN1, hGl, hy1, Int.add_assoc])⟩
      · have hid : decide (((p + i : Nat) : Int) < (e : Int)) = false := decide_eq_false (by omega)
        have hie2 : i = e - p := by omega
        have hpe : p + (e - p) = e := by omega
        subst hie2
        rw [hpe] at hid
        simp (dsimp := false) only [hpe, hid, go_sem, Nat.reduceAdd, Nat.reduceBEq, Nat.reduceEqDiff, Nat.reduceLT, Nat.reduceLeDiff, reduceCtorEq, ↓reduceIte]
        refine hQ3 _ _ _ ?_
        simp (dsimp := false) only [go_sem, Nat.reduceAdd, Nat.reduceBEq, Nat.reduceEqDiff, Nat.reduceLT, Nat.reduceLeDiff, reduceCtorEq, ↓reduceIte]
        repeat (refine And.intro (by first | exact True.intro | omega | kernel_rfl | (simp only [List.length_set, List.length_append, List.length_take, List.length_replicate, List.length_cons, true_and, and_true, List.length_nil, tabR_length]; omega)) ?_)
        refine ⟨(g, e, c + cntB k (seg x p (e - p)), bl + 1), List.range G1.length, ⟨⟨j1, ?_, ?_, ?_, ?_⟩, ?_⟩, wk_id (by omega) hcl (by simp [slId, get_cons, get_nil, TV.hs, AV.hs, C.hs, RS.slot, zipSlots, hN1, hGl])⟩ <;> (dsimp only; omega)
  · have hcd : decide ((p : Int) < (B : Int)) = false := decide_eq_false (by omega)
    rw [cbT_end hp] at j1
    simp (dsimp := false) only [hcd, go_sem, Nat.reduceAdd, Nat.reduceBEq, Nat.reduceEqDiff, Nat.reduceLT, Nat.reduceLeDiff, reduceCtorEq, ↓reduceIte]
    refine hQ _ _ _ ?_
    simp (dsimp := false) only [go_sem, Nat.reduceAdd, Nat.reduceBEq, Nat.reduceEqDiff, Nat.reduceLT, Nat.reduceLeDiff, reduceCtorEq, ↓reduceIte]
    refine afin (List.range G.length) [aI c, aI bl, aB true] G (by simp) rfl (wk_ext (Nat.le_refl _) hclG x1 (by simp [slId, get_cons, get_nil, TV.hs, AV.hs, C.hs, RS.slot, zipSlots])) ⟨by rw [eM, ← j1]; rfl, rfl⟩
end Go.Proofs.Ytpoappgfmjnioaa
