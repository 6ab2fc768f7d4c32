/- Contracts: counting below a key over a range of a merge tree. -/
import Derived.Test.YtpoappgfmjnioaaPlCb
set_option linter.unusedSimpArgs false
set_option linter.unusedVariables false
set_option linter.unusedSectionVars false
set_option linter.unnecessarySimpa false
namespace Go.Proofs.Ytpoappgfmjnioaa
open Go Go.Ax
set_option maxRecDepth 10000
set_option maxHeartbeats 1000000

def cntM (xss : List (List Int)) (a b k : Int) : List AV := cond (rngB xss a b) [aI (cbT (xss.headD []) b.toNat (xss.length - 1) k b.toNat a.toNat 0 0).1, aI (cbT (xss.headD []) b.toNat (xss.length - 1) k b.toNat a.toNat 0 0).2, aB true] [aI 0, aI 0, aB false]
theorem pw_i (d : Nat) : (1 : Int) * 2 ^ d = ((2 ^ d : Nat) : Int) := by rw [Int.one_mul, Int.natCast_pow]; rfl
theorem shl_i (d : Nat) : ashift .shl .i64 1 (d : Int) = some (((0 : Int) ≤ (d : Int) ∧ (d : Int) < 64) ∧ inI64 ((2 ^ d : Nat) : Int), tI ((2 ^ d : Nat) : Int)) := by
  show some (((0 : Int) ≤ (d : Int) ∧ (d : Int) < 64) ∧ inI64 (1 * 2 ^ (d : Int).toNat), tI (1 * 2 ^ (d : Int).toNat)) = _
  rw [Int.toNat_natCast, pw_i]
theorem tm_n (p w : Nat) : (p : Int).tmod (w : Int) = ((p % w : Nat) : Int) := by simp [Int.tmod_eq_emod_of_nonneg]
theorem bx_cl {G : Hp} {n : Nat} (hcl : Cl G) (h0 : 0 < G.length) : Cl (G ++ [cR [cSl 0 n]]) := cl_app hcl fun r hr h hh => by
  simp at hr; subst hr
  simp [Row.hs, Dat.hs, C.hs] at hh
  subst hh; simp

theorem iCb_s (xss : List (List Int)) (a b k : Int) (hx : xss.length ≤ 281474976710656) (hr : ∀ x ∈ xss, x.length ≤ 281474976710656) :
    ACalls Try.prog 48 [tMt 0 xss.length, tI a, tI b, tI k] [] (nst false false 0 xss) (fun t H => t = .tup (cntM xss a b k) ∧ H = nst false false 0 xss) := by
  have hN : Nst false false (nst false false 0 xss) 0 xss := nst_pre [] xss
  have hl := nst_len false false 0 xss
  have hclG := nst_cl false false xss
  have hro := nst_ro (b := 0) (xss := xss)
  have hs := iRng_s xss a b hx hr
  generalize hG : nst false false 0 xss = G at *
  have hN0 : 0 < G.length := by omega
  have q0 := lkn G (cR [cSl 0 xss.length])
  have x1 : Ext G (G ++ [cR [cSl 0 xss.length]]) := Ext.app _ _
  have n1 : Nst false false (G ++ [cR [cSl 0 xss.length]]) 0 xss := hN.ext x1
  have l1 : (G ++ [cR [cSl 0 xss.length]]).length = G.length + 1 := by simp
  have g0 : (G ++ [cR [cSl 0 xss.length]])[0]? = some (.r false (.cells 1 (nsC 1 xss))) := n1.cells
  have hcl := bx_cl (n := xss.length) hclG hN0
  have hs' := ACalls.liftM [a, b] n1 (fun _ => rfl) (by rw [hG]; exact hs)
  simp only [List.map_nil, List.map_cons] at hs'
  refine afun (fun _ => none) [8, 9, 10] G.length Try.func48 rfl rfl mix (by kernel_rfl) (by kernel_rfl) (by simp [Try.f48]) rfl (⟨trivial, ownAll_ro hro⟩) ?_
  cases hv : rngB xss a b
  · rw [hv] at hs'
    simp (dsimp := false) only [q0, List.length_cons, List.length_nil, List.take_succ_cons, List.take_zero, go_sem, Nat.reduceAdd, Nat.reduceBEq, Nat.reduceEqDiff, Nat.reduceLT, Nat.reduceLeDiff, reduceCtorEq, ↓reduceIte]
    repeat (refine And.intro (by first | exact True.intro | omega | kernel_rfl | (simp only [List.length_set, List.length_append, List.length_take, List.length_replicate, List.length_cons, true_and, and_true, List.length_nil, tabR_length]; omega)) ?_)
    refine ⟨_, (hs').mono ?_⟩
    rintro _ G9 ⟨rfl, h9⟩
    have h9 := h9.symm
    subst h9
    simp (dsimp := false) only [q0, go_sem, Nat.reduceAdd, Nat.reduceBEq, Nat.reduceEqDiff, Nat.reduceLT, Nat.reduceLeDiff, reduceCtorEq, ↓reduceIte]
    refine afin (List.range G.length) [aI 0, aI 0, aB false] G (by simp) rfl (wk_ext (Nat.le_refl _) hclG x1 (by simp [slId, get_cons, get_nil, TV.hs, AV.hs, C.hs, RS.slot, zipSlots])) (by simp [rtv, cntM, hv])
  obtain ⟨x, A, B, hx0, hvx, hlv, rfl, rfl, hAB, hBx, h64⟩ := rngB_t hv
  have hxl := lt_of_get hx0
  have c0 : (nsC 1 xss)[0]? = some (.sl 1 (1 + 0) 0 x.length) := nsC_at hx0
  rw [hv] at hs'
  have eh := head_at hx0
  have hD6 := (mtDep_ok h64).1
  have hLn : xss.length = mtDep x.length + 1 := by rw [← hlv, lvs_len]
  obtain ⟨D, hD⟩ : ∃ D, D = xss.length - 1 := ⟨_, rfl⟩
  have eD : (xss.length : Int) - 1 = (D : Int) := by omega
  obtain ⟨T, hT⟩ : ∃ T, T = cbT x B D k B A 0 0 := ⟨_, rfl⟩
  have eM : cntM xss A B k = [aI T.1, aI T.2, aB true] := by simp only [cntM, hv, cond_true, eh, Int.toNat_natCast, ← hD, ← hT]
  simp (dsimp := false) only [q0, List.length_cons, List.length_nil, List.take_succ_cons, List.take_zero, go_sem, Nat.reduceAdd, Nat.reduceBEq, Nat.reduceEqDiff, Nat.reduceLT, Nat.reduceLeDiff, reduceCtorEq, ↓reduceIte]
  repeat (refine And.intro (by first | exact True.intro | omega | kernel_rfl | (simp only [List.length_set, List.length_append, List.length_take, List.length_replicate, List.length_cons, true_and, and_true, List.length_nil, tabR_length]; omega)) ?_)
  refine ⟨_, (hs').mono ?_⟩
  rintro _ G9 ⟨rfl, h9⟩
  have h9 := h9.symm
  subst h9
  simp (dsimp := false) only [q0, g0, c0, Int.toNat_zero, List.length_cons, List.length_nil, List.take_succ_cons, List.take_zero, go_sem, Nat.reduceAdd, Nat.reduceBEq, Nat.reduceEqDiff, Nat.reduceLT, Nat.reduceLeDiff, reduceCtorEq, ↓reduceIte]
  generalize hG1 : G ++ [cR [cSl 0 xss.length]] = G1 at *
  have hGl : G.length < G1.length := by omega
  have hN1 : 0 < G1.length := by omega
  repeat (refine And.intro (by first | exact True.intro | omega | kernel_rfl | (simp only [List.length_set, List.length_append, List.length_take, List.length_replicate, List.length_cons, true_and, and_true, List.length_nil, tabR_length]; omega)) ?_)
  refine aloopQ (σ := Nat × Nat × Nat × Nat) (fun s => ([(1, tI s.2.1), (2, tI B), (3, tI k), (4, .a (.c (.ptr G.length 0 0))), (11, tI x.length), (12, tI s.2.2.1), (13, tI s.2.2.2)], G1)) (fun s => cbT x B D k s.1 s.2.1 s.2.2.1 s.2.2.2 = T ∧ B ≤ s.2.1 + s.1 ∧ s.2.1 ≤ B ∧ s.2.2.1 ≤ s.2.1 ∧ s.2.2.2 ≤ s.2.1) (fun s => s.1) (B, A, 0, 0) (List.range G1.length) ⟨hT.symm, by dsimp only; omega, hAB, Nat.zero_le _, Nat.zero_le _⟩ (wk_id (by omega) hcl (by simp [slId, get_cons, get_nil, TV.hs, AV.hs, C.hs, RS.slot, zipSlots, hN1, hGl])) ?_
  rintro Q hQ ⟨g, p, c, bl⟩ ⟨j1, j2, j3, j4, j5⟩
  simp only at j1 j2 j3 j4 j5
  by_cases hp : p < B
  · have hcd : decide ((p : Int) < (B : Int)) = true := decide_eq_true (by omega)
    obtain ⟨g, rfl⟩ : ∃ g', g = g' + 1 := ⟨g - 1, by omega⟩
    rw [cbT_step hp] at j1
    simp (dsimp := false) only [hcd, q0, eD, go_sem, Nat.reduceAdd, Nat.reduceBEq, Nat.reduceEqDiff, Nat.reduceLT, Nat.reduceLeDiff, reduceCtorEq, ↓reduceIte]
    repeat (refine And.intro (by first | exact True.intro | omega | kernel_rfl | (simp only [List.length_set, List.length_append, List.length_take, List.length_replicate, List.length_cons, true_and, and_true, List.length_nil, tabR_length]; omega)) ?_)
    refine aloopQ (σ := Nat) (fun d => ([(1, tI p), (2, tI B), (3, tI k), (4, .a (.c (.ptr G.length 0 0))), (11, tI x.length), (12, tI c), (13, tI bl), (14, tI d)], G1)) (fun d => d ≤ D ∧ topD x.length B p d = topD x.length B p D) (fun d => d) D (List.range G1.length) ⟨Nat.le_refl _, rfl⟩ (wk_id (by omega) hcl (by simp [slId, get_cons, get_nil, TV.hs, AV.hs, C.hs, RS.slot, zipSlots, hN1, hGl])) ?_
    rintro Q2 hQ2 d ⟨hd, htd⟩
    have ew := shl_i d
    have hw1 : 1 ≤ 2 ^ d := Nat.one_le_two_pow
    have hw2 : 2 ^ d ≤ 2 ^ 6 := Nat.pow_le_pow_right (by omega) (by omega)
    obtain ⟨w, hw⟩ : ∃ w, w = 2 ^ d := ⟨_, rfl⟩
    rw [← hw] at ew hw1 hw2
    have et := tm_n p w
    have ea : (p : Int) + (w : Int) = ((p + w : Nat) : Int) := by omega
    have em : min ((p + w : Nat) : Int) (x.length : Int) = ((min (p + w) x.length : Nat) : Int) := by omega
    have hw0 : (w : Int) ≠ 0 := by omega
    by_cases hm : p % w = 0
    · have dm : (((p % w : Nat) : Int) != 0) = false := by rw [bne_eq_false_iff_eq]; omega
      by_cases hb : min (p + w) x.length ≤ B
      · have db : decide ((B : Int) < ((min (p + w) x.length : Nat) : Int)) = false := decide_eq_false (by omega)
        have hok : okD x.length B p d = true := by rw [okD, ← hw, hm]; simp [hb]
        have hdt : topD x.length B p D = d := by rw [← htd, topD_here hok]
        have he : min (p + w) x.length = endD x.length B D p := by rw [hw, ← hdt]; exact endD_eq hp hBx
        obtain ⟨y, hy⟩ : ∃ y, y = lvAt x d := ⟨_, rfl⟩
        have hyx : xss[d]? = some y := by rw [← hlv, hy]; exact lvs_at (by omega)
        have hyl : y.length = x.length := by rw [hy, lvAt_len]
        have hcn : cntB k (seg y p (min (p + w) x.length - p)) = cntB k (seg x p (min (p + w) x.length - p)) := by rw [hy, hw]; exact lvAt_cnt x k (by rw [← hw]; exact hm) (by omega)
        have hee := endD_gt (n := x.length) (D := D) hp
        rw [he] at hcn em
        have cd : (nsC 1 xss)[d]? = some (.sl 1 (1 + d) 0 y.length) := nsC_at hyx
        have rd : G1[1 + d]? = some (.r false (.ints .i64 y)) := by have := n1.rows d y hyx; rwa [show 0 + 1 + d = 1 + d by omega] at this
        have hd1 : 1 + d < G1.length := by omega
        rw [he] at db
        obtain ⟨e, hE⟩ : ∃ e, e = endD x.length B D p := ⟨_, rfl⟩
        rw [← hE] at hcn em db hee j1
        simp (dsimp := false) only [ew, et, ea, em, dm, db, Int.toNat_natCast, go_sem, Nat.reduceAdd, Nat.reduceBEq, Nat.reduceEqDiff, Nat.reduceLT, Nat.reduceLeDiff, reduceCtorEq, ↓reduceIte]
        repeat (refine And.intro (by first | exact True.intro | omega | kernel_rfl | (simp only [List.length_set, List.length_append, List.length_take, List.length_replicate, List.length_cons, true_and, and_true, List.length_nil, tabR_length]; omega)) ?_)
        refine hQ2 _ _ _ ?_
        simp (dsimp := false) only [ew, ea, em, q0, g0, cd, Int.toNat_natCast, Nat.zero_add, go_sem, Nat.reduceAdd, Nat.reduceBEq, Nat.reduceEqDiff, Nat.reduceLT, Nat.reduceLeDiff, reduceCtorEq, ↓reduceIte]
        repeat (refine And.intro (by first | exact True.intro | omega | kernel_rfl | (simp only [List.length_set, List.length_append, List.length_take, List.length_replicate, List.length_cons, true_and, and_true, List.length_nil, tabR_length]; omega)) ?_)
        refine aloopQ (σ := Nat) (fun i => ([(2, tI B), (3, tI k), (4, .a (.c (.ptr G.length 0 0))), (11, tI x.length), (12, tI (c + cntB k (seg y p i) : Nat)), (13, tI bl), (15, tI e), (65, tO (1 + d) p (e - p)), (66, tI (e - p : Nat)), (67, tI i)], G1)) (fun i => i ≤ e - p) (fun i => e - p - i) 0 (List.range G1.length) (Nat.zero_le _) (wk_id (by omega) hcl (by simp [slId, get_cons, get_nil, TV.hs, AV.hs, C.hs, RS.slot, zipSlots, hN1, hGl, hd1, cntB_nil])) ?_
        rintro Q3 hQ3 i hi
        have hcl3 := cntB_le k (seg y p i)
        rw [seg_len] at hcl3
        by_cases hie : i < e - p
        · have hid : decide ((i : Int) < ((e - p : Nat) : Int)) = true := decide_eq_true (by omega)
          by_cases hk : y.getD (p + i) 0 < k
          · have hkd : decide (y.getD (p + i) 0 < k) = true := decide_eq_true hk
            have hy1 := cntB_yes hk
            simp (dsimp := false) only [hid, hkd, rd, Int.toNat_natCast, go_sem, Nat.reduceAdd, Nat.reduceBEq, Nat.reduceEqDiff, Nat.reduceLT, Nat.reduceLeDiff, reduceCtorEq, ↓reduceIte]
            repeat (refine And.intro (by first | exact True.intro | omega | kernel_rfl | (simp only [List.length_set, List.length_append, List.length_take, List.length_replicate, List.length_cons, true_and, and_true, List.length_nil, tabR_length]; omega)) ?_)
            refine ⟨i + 1, List.range G1.length, ⟨by omega, by omega⟩, wk_id (by omega) hcl (by simp [slId, get_cons, get_nil, TV.hs, AV.hs, C.hs, RS.slot, zipSlots, hN1, hGl, hd1, hy1, Int.add_assoc])⟩
          · have hkd : decide (y.getD (p + i) 0 < k) = false := decide_eq_false hk
            have hy1 := cntB_no hk
            simp (dsimp := false) only [hid, hkd, rd, Int.toNat_natCast, go_sem, Nat.reduceAdd, Nat.reduceBEq, Nat.reduceEqDiff, Nat.reduceLT, Nat.reduceLeDiff, reduceCtorEq, ↓reduceIte]
            repeat (refine And.intro (by first | exact True.intro | omega | kernel_rfl | (simp only [List.length_set, List.length_append, List.length_take, List.length_replicate, List.length_cons, true_and, and_true, List.length_nil, tabR_length]; omega)) ?_)
            refine ⟨i + 1, List.range G1.length, ⟨by omega, by omega⟩, wk_id (by omega) hcl (by simp [slId, get_cons, get_nil, TV.hs, AV.hs, C.hs, RS.slot, zipSlots, hN1, hGl, hd1, hy1])⟩
        · have hid : decide ((i : Int) < ((e - p : Nat) : Int)) = false := decide_eq_false (by omega)
          have hie2 : i = e - p := by omega
          subst hie2
          simp (dsimp := false) only [hid, go_sem, Nat.reduceAdd, Nat.reduceBEq, Nat.reduceEqDiff, Nat.reduceLT, Nat.reduceLeDiff, reduceCtorEq, ↓reduceIte]
          refine hQ3 _ _ _ ?_
          simp (dsimp := false) only [go_sem, Nat.reduceAdd, Nat.reduceBEq, Nat.reduceEqDiff, Nat.reduceLT, Nat.reduceLeDiff, reduceCtorEq, ↓reduceIte]
          repeat (refine And.intro (by first | exact True.intro | omega | kernel_rfl | (simp only [List.length_set, List.length_append, List.length_take, List.length_replicate, List.length_cons, true_and, and_true, List.length_nil, tabR_length]; omega)) ?_)
          refine ⟨(g, e, c + cntB k (seg x p (e - p)), bl + 1), List.range G1.length, ⟨⟨j1, ?_, ?_, ?_, ?_⟩, ?_⟩, wk_id (by omega) hcl (by simp [slId, get_cons, get_nil, TV.hs, AV.hs, C.hs, RS.slot, zipSlots, hN1, hGl, hd1, hcn])⟩ <;> (dsimp only; omega)
      · have db : decide ((B : Int) < ((min (p + w) x.length : Nat) : Int)) = true := decide_eq_true (by omega)
        have hok : okD x.length B p d = false := by rw [okD, ← hw, hm]; simp [hb]
        obtain ⟨d, rfl⟩ : ∃ d', d = d' + 1 := by
          cases d with
          | zero => rw [okD_0 hp] at hok; cases hok
          | succ d => exact ⟨d, rfl⟩
        rw [topD_next hok] at htd
        simp (dsimp := false) only [ew, et, ea, em, dm, db, Int.toNat_natCast, go_sem, Nat.reduceAdd, Nat.reduceBEq, Nat.reduceEqDiff, Nat.reduceLT, Nat.reduceLeDiff, reduceCtorEq, ↓reduceIte]
        repeat (refine And.intro (by first | exact True.intro | omega | kernel_rfl | (simp only [List.length_set, List.length_append, List.length_take, List.length_replicate, List.length_cons, true_and, and_true, List.length_nil, tabR_length]; omega)) ?_)
        refine ⟨d, List.range G1.length, ⟨⟨by omega, htd⟩, by omega⟩, wk_id (by omega) hcl (by simp [slId, get_cons, get_nil, TV.hs, AV.hs, C.hs, RS.slot, zipSlots, hN1, hGl, pred_nat])⟩
    · have dm : (((p % w : Nat) : Int) != 0) = true := by rw [bne_iff_ne]; omega
      have hok : okD x.length B p d = false := by rw [okD, ← hw]; simp [hm]
      obtain ⟨d, rfl⟩ : ∃ d', d = d' + 1 := by
        cases d with
        | zero => rw [okD_0 hp] at hok; cases hok
        | succ d => exact ⟨d, rfl⟩
      rw [topD_next hok] at htd
      simp (dsimp := false) only [ew, et, ea, em, dm, Int.toNat_natCast, go_sem, Nat.reduceAdd, Nat.reduceBEq, Nat.reduceEqDiff, Nat.reduceLT, Nat.reduceLeDiff, reduceCtorEq, ↓reduceIte]
      repeat (refine And.intro (by first | exact True.intro | omega | kernel_rfl | (simp only [List.length_set, List.length_append, List.length_take, List.length_replicate, List.length_cons, true_and, and_true, List.length_nil, tabR_length]; omega)) ?_)
      refine ⟨d, List.range G1.length, ⟨⟨by omega, htd⟩, by omega⟩, wk_id (by omega) hcl (by simp [slId, get_cons, get_nil, TV.hs, AV.hs, C.hs, RS.slot, zipSlots, hN1, hGl, pred_nat])⟩
  · have hcd : decide ((p : Int) < (B : Int)) = false := decide_eq_false (by omega)
    rw [cbT_end hp] at j1
    simp (dsimp := false) only [hcd, go_sem, Nat.reduceAdd, Nat.reduceBEq, Nat.reduceEqDiff, Nat.reduceLT, Nat.reduceLeDiff, reduceCtorEq, ↓reduceIte]
    refine hQ _ _ _ ?_
    simp (dsimp := false) only [go_sem, Nat.reduceAdd, Nat.reduceBEq, Nat.reduceEqDiff, Nat.reduceLT, Nat.reduceLeDiff, reduceCtorEq, ↓reduceIte]
    refine afin (List.range G.length) [aI c, aI bl, aB true] G (by simp) rfl (wk_ext (Nat.le_refl _) hclG x1 (by simp [slId, get_cons, get_nil, TV.hs, AV.hs, C.hs, RS.slot, zipSlots])) ⟨by rw [eM, ← j1]; rfl, rfl⟩
end Go.Proofs.Ytpoappgfmjnioaa
