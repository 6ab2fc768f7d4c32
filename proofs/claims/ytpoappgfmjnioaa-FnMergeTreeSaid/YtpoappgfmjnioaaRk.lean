/- Contracts: ranges of merge trees and their elements by rank. -/
import Derived.Test.YtpoappgfmjnioaaMtI
set_option linter.unusedSimpArgs false
set_option linter.unusedVariables false
set_option linter.unusedSectionVars false
set_option linter.unnecessarySimpa false
namespace Go.Proofs.Ytpoappgfmjnioaa
open Go Go.Ax
set_option maxRecDepth 10000
set_option maxHeartbeats 1000000

def rngB (xss : List (List Int)) (a b : Int) : Bool := tvB xss && (decide (0 ≤ a) && (decide (a ≤ b) && decide (b ≤ ((xss.headD []).length : Int))))
theorem rngB_f {xss : List (List Int)} {a b : Int} (h : tvB xss = false) : rngB xss a b = false := by rw [rngB, h]; rfl
theorem rngB_at {xss : List (List Int)} {a b : Int} {x : List Int} (h : tvB xss = true) (hx : xss[0]? = some x) : rngB xss a b = (decide (0 ≤ a) && (decide (a ≤ b) && decide (b ≤ (x.length : Int)))) := by
  cases xss with
  | nil => simp at hx
  | cons y r => simp at hx; subst hx; rw [rngB, h]; rfl
theorem tvB_t {xss : List (List Int)} (h : tvB xss = true) : ∃ x, xss[0]? = some x ∧ validB x = true ∧ lvs x = xss ∧ 0 < xss.length := by
  cases xss with
  | nil => simp [tvB] at h
  | cons y r =>
    simp only [tvB, Bool.and_eq_true, decide_eq_true_eq] at h
    exact ⟨y, rfl, h.1, h.2, by simp⟩
/-- A range, in numbers. -/
theorem rngB_t {xss : List (List Int)} {a b : Int} (h : rngB xss a b = true) : ∃ (x : List Int) (A B : Nat), xss[0]? = some x ∧ validB x = true ∧ lvs x = xss ∧ a = (A : Int) ∧ b = (B : Int) ∧ A ≤ B ∧ B ≤ x.length ∧ x.length ≤ 64 := by
  cases hv : tvB xss
  · rw [rngB_f hv] at h; cases h
  · obtain ⟨x, h0, h1, h2, _⟩ := tvB_t hv
    rw [rngB_at hv h0] at h
    simp only [Bool.and_eq_true, decide_eq_true_eq] at h
    exact ⟨x, a.toNat, b.toNat, h0, h1, h2, by omega, by omega, by omega, by omega, validB_len h1⟩

theorem iRng_s (xss : List (List Int)) (a b : Int) (hx : xss.length ≤ 281474976710656) (hr : ∀ x ∈ xss, x.length ≤ 281474976710656) :
    ACalls Try.prog 79 [tMt 0 xss.length, tI a, tI b] [] (nst false false 0 xss) (fun t H => t = tB (rngB xss a b) ∧ H = nst false false 0 xss) := by
  have hN : Nst false false (nst false false 0 xss) 0 xss := nst_pre [] xss
  have hl := nst_len false false 0 xss
  have hcl := nst_cl false false xss
  have hro := nst_ro (b := 0) (xss := xss)
  have hs := iIsValidMt_s xss hx hr
  generalize hG : nst false false 0 xss = G at *
  have hN0 : 0 < G.length := by omega
  have q0 := lkn G (cR [cSl 0 xss.length])
  have x1 : Ext G (G ++ [cR [cSl 0 xss.length]]) := Ext.app _ _
  have n1 : Nst false false (G ++ [cR [cSl 0 xss.length]]) 0 xss := hN.ext x1
  have g0 : (G ++ [cR [cSl 0 xss.length]])[0]? = some (.r false (.cells 1 (nsC 1 xss))) := n1.cells
  have hs' := ACalls.liftM [] n1 (fun _ => rfl) (by rw [hG]; exact hs)
  simp only [List.map_nil] at hs'
  refine afun (fun _ => none) [6] G.length Try.func79 rfl rfl mix (by kernel_rfl) (by kernel_rfl) (by simp [Try.f79]) rfl (⟨trivial, ownAll_ro hro⟩) ?_
  cases hv : tvB xss
  · rw [hv] at hs'
    simp (dsimp := false) only [q0, List.length_cons, List.length_nil, List.take_succ_cons, List.take_zero, go_sem, Nat.reduceAdd, Nat.reduceBEq, Nat.reduceEqDiff, Nat.reduceLT, Nat.reduceLeDiff, reduceCtorEq, ↓reduceIte]
    repeat (refine And.intro (by first | exact True.intro | omega | kernel_rfl | (simp only [List.length_set, List.length_append, List.length_take, List.length_replicate, List.length_cons, true_and, and_true, List.length_nil, tabR_length]; omega)) ?_)
    refine ⟨_, (hs').mono ?_⟩
    rintro _ G9 ⟨rfl, h9⟩
    have h9 := h9.symm
    subst h9
    simp (dsimp := false) only [q0, go_sem, Nat.reduceAdd, Nat.reduceBEq, Nat.reduceEqDiff, Nat.reduceLT, Nat.reduceLeDiff, reduceCtorEq, ↓reduceIte]
    refine afin (List.range G.length) [aB false] G (by simp) rfl (wk_ext (Nat.le_refl _) hcl x1 (by simp [slId, get_cons, get_nil, TV.hs, AV.hs, C.hs, RS.slot, zipSlots])) (by simp [rtv, rngB_f hv])
  · obtain ⟨x, hx0, _, _, hxp⟩ := tvB_t hv
    have hlt : decide ((0 : Int) < (xss.length : Int)) = true := decide_eq_true (by omega)
    have c0 : (nsC 1 xss)[0]? = some (.sl 1 (1 + 0) 0 x.length) := nsC_at hx0
    have eT := rngB_at (a := a) (b := b) hv hx0
    rw [hv] at hs'
    cases h1 : decide (0 ≤ a) <;> cases h2 : decide (a ≤ b) <;> cases h3 : decide (b ≤ (x.length : Int)) <;>
    · simp (dsimp := false) only [h1, h2, h3, q0, List.length_cons, List.length_nil, List.take_succ_cons, List.take_zero, go_sem, Nat.reduceAdd, Nat.reduceBEq, Nat.reduceEqDiff, Nat.reduceLT, Nat.reduceLeDiff, reduceCtorEq, ↓reduceIte]
      repeat (refine And.intro (by first | exact True.intro | omega | kernel_rfl | (simp only [List.length_set, List.length_append, List.length_take, List.length_replicate, List.length_cons, true_and, and_true, List.length_nil, tabR_length]; omega)) ?_)
      refine ⟨_, (hs').mono ?_⟩
      rintro _ G9 ⟨rfl, h9⟩
      have h9 := h9.symm
      subst h9
      simp (dsimp := false) only [q0, h1, h2, h3, g0, c0, Int.toNat_zero, List.length_cons, List.length_nil, List.take_succ_cons, List.take_zero, go_sem, Nat.reduceAdd, Nat.reduceBEq, Nat.reduceEqDiff, Nat.reduceLT, Nat.reduceLeDiff, reduceCtorEq, ↓reduceIte]
      repeat (refine And.intro (by first | exact True.intro | omega | kernel_rfl | (simp only [List.length_set, List.length_append, List.length_take, List.length_replicate, List.length_cons, true_and, and_true, List.length_nil, tabR_length]; omega)) ?_)
      refine afin (List.range G.length) [aB (rngB xss a b)] G (by simp) rfl (wk_ext (Nat.le_refl _) hcl x1 (by simp [slId, get_cons, get_nil, TV.hs, AV.hs, C.hs, RS.slot, zipSlots, eT, h1, h2, h3])) (by simp [rtv])
theorem sRng_s (xss : List (List Int)) (a b : Int) (hx : xss.length ≤ 281474976710656) (hr : ∀ x ∈ xss, x.length ≤ 281474976710656) :
    ACalls Try.prog 80 [tMt 0 xss.length, tI a, tI b] [] (nst false false 0 xss) (fun t H => t = tB (rngB xss a b) ∧ H = nst false false 0 xss) := by
  have hN : Nst false false (nst false false 0 xss) 0 xss := nst_pre [] xss
  have hl := nst_len false false 0 xss
  have hcl := nst_cl false false xss
  have hro := nst_ro (b := 0) (xss := xss)
  have hs := l10Tree_s xss hx hr
  generalize hG : nst false false 0 xss = G at *
  have hN0 : 0 < G.length := by omega
  have q0 := lkn G (cR [cSl 0 xss.length])
  have x1 : Ext G (G ++ [cR [cSl 0 xss.length]]) := Ext.app _ _
  have n1 : Nst false false (G ++ [cR [cSl 0 xss.length]]) 0 xss := hN.ext x1
  have g0 : (G ++ [cR [cSl 0 xss.length]])[0]? = some (.r false (.cells 1 (nsC 1 xss))) := n1.cells
  have hs' := ACalls.liftM [] n1 (fun _ => rfl) (by rw [hG]; exact hs)
  simp only [List.map_nil] at hs'
  refine afun (fun _ => none) [6] G.length Try.func80 rfl rfl mix (by kernel_rfl) (by kernel_rfl) (by simp [Try.f80]) rfl (⟨trivial, ownAll_ro hro⟩) ?_
  cases hv : tvB xss
  · rw [hv] at hs'
    simp (dsimp := false) only [q0, List.length_cons, List.length_nil, List.take_succ_cons, List.take_zero, go_sem, Nat.reduceAdd, Nat.reduceBEq, Nat.reduceEqDiff, Nat.reduceLT, Nat.reduceLeDiff, reduceCtorEq, ↓reduceIte]
    repeat (refine And.intro (by first | exact True.intro | omega | kernel_rfl | (simp only [List.length_set, List.length_append, List.length_take, List.length_replicate, List.length_cons, true_and, and_true, List.length_nil, tabR_length]; omega)) ?_)
    refine ⟨_, (hs').mono ?_⟩
    rintro _ G9 ⟨rfl, h9⟩
    have h9 := h9.symm
    subst h9
    simp (dsimp := false) only [q0, go_sem, Nat.reduceAdd, Nat.reduceBEq, Nat.reduceEqDiff, Nat.reduceLT, Nat.reduceLeDiff, reduceCtorEq, ↓reduceIte]
    refine afin (List.range G.length) [aB false] G (by simp) rfl (wk_ext (Nat.le_refl _) hcl x1 (by simp [slId, get_cons, get_nil, TV.hs, AV.hs, C.hs, RS.slot, zipSlots])) (by simp [rtv, rngB_f hv])
  · obtain ⟨x, hx0, _, _, hxp⟩ := tvB_t hv
    have hlt : decide ((0 : Int) < (xss.length : Int)) = true := decide_eq_true (by omega)
    have c0 : (nsC 1 xss)[0]? = some (.sl 1 (1 + 0) 0 x.length) := nsC_at hx0
    have eT := rngB_at (a := a) (b := b) hv hx0
    rw [hv] at hs'
    cases h1 : decide (0 ≤ a) <;> cases h2 : decide (a ≤ b) <;> cases h3 : decide (b ≤ (x.length : Int)) <;>
    · simp (dsimp := false) only [h1, h2, h3, q0, List.length_cons, List.length_nil, List.take_succ_cons, List.take_zero, go_sem, Nat.reduceAdd, Nat.reduceBEq, Nat.reduceEqDiff, Nat.reduceLT, Nat.reduceLeDiff, reduceCtorEq, ↓reduceIte]
      repeat (refine And.intro (by first | exact True.intro | omega | kernel_rfl | (simp only [List.length_set, List.length_append, List.length_take, List.length_replicate, List.length_cons, true_and, and_true, List.length_nil, tabR_length]; omega)) ?_)
      refine ⟨_, (hs').mono ?_⟩
      rintro _ G9 ⟨rfl, h9⟩
      have h9 := h9.symm
      subst h9
      simp (dsimp := false) only [q0, h1, h2, h3, g0, c0, Int.toNat_zero, List.length_cons, List.length_nil, List.take_succ_cons, List.take_zero, go_sem, Nat.reduceAdd, Nat.reduceBEq, Nat.reduceEqDiff, Nat.reduceLT, Nat.reduceLeDiff, reduceCtorEq, ↓reduceIte]
      repeat (refine And.intro (by first | exact True.intro | omega | kernel_rfl | (simp only [List.length_set, List.length_append, List.length_take, List.length_replicate, List.length_cons, true_and, and_true, List.length_nil, tabR_length]; omega)) ?_)
      refine afin (List.range G.length) [aB (rngB xss a b)] G (by simp) rfl (wk_ext (Nat.le_refl _) hcl x1 (by simp [slId, get_cons, get_nil, TV.hs, AV.hs, C.hs, RS.slot, zipSlots, eT, h1, h2, h3])) (by simp [rtv])

/-- A call on a part of one list, in any heap. -/
theorem part_g {k : FuncId} {G : Hp} {h : Nat} {o' : Bool} {xs : List Int} {o n : Nat} {ys : List Int} (hG : G[h]? = some (rwI o' xs))
    (hl : ACalls Try.prog k [tO 0 o n] [] [rI xs] (fun t H => t = tS 1 n ∧ H = [rI xs, oI ys])) : ACalls Try.prog k [tO h o n] [] G (fun t G' => t = tS G.length n ∧ G' = G ++ [oI ys]) := by
  have hl' : ACalls Try.prog k [tO 0 o n] [] [rI xs] (fun t H => t = tS 1 n ∧ H = [rI xs] ++ [oI ys]) := hl
  refine (ACalls.liftN hl' [h] (by simp [Row.own]) (by simp [Row.own]) (by simp) rfl ?_ (by simp [TV.ren, AV.ren, C.ren]) (by simp [TV.hs, AV.hs, C.hs])).mono ?_
  · intro i h' row h1 h2
    match i, h1, h2 with
    | 0, h1, h2 =>
      simp at h1 h2; subst h1; subst h2
      rw [hG]; exact ⟨getlt hG, rowLe_rw⟩
  · rintro t G' ⟨rfl, rfl⟩
    simp [TV.ren, AV.ren, C.ren, Row.ren, Dat.ren, freshR]
/-- A pure call, in any heap. -/
theorem pure_g {k : FuncId} {G : Hp} {args : List TV} {v : Value} (hl : ACalls Try.prog k args [] [] (fun t H => t = .a (.c (.v v)) ∧ H = [])) (hhs : ∀ t ∈ args, t.hs = []) (har : ∀ ρ, args.map (TV.ren ρ) = args) :
    ACalls Try.prog k args [] G (fun t G' => t = .a (.c (.v v)) ∧ G' = G) := by
  have hl' : ACalls Try.prog k args [] [] (fun t H => t = .a (.c (.v v)) ∧ H = [] ++ []) := hl
  refine (ACalls.liftN hl' [] (by simp) (by simp) (by simp) rfl (by simp) (by rw [har]) (fun t ht h hh => by rw [hhs t ht] at hh; simp at hh)).mono ?_
  rintro t G' ⟨rfl, rfl⟩
  simp [TV.ren, AV.ren, C.ren]

def kthM (xss : List (List Int)) (a b k : Int) : List AV := cond (rngB xss a b && inB k 0 (b - a - 1)) [aI ((srtL (seg (xss.headD []) a.toNat (b.toNat - a.toNat))).getD k.toNat 0), aB true] [aI 0, aB false]
theorem head_at {xss : List (List Int)} {x : List Int} (h : xss[0]? = some x) : xss.headD [] = x := by
  cases xss with
  | nil => simp at h
  | cons y r => simp at h; subst h; rfl

theorem iKth_s (xss : List (List Int)) (a b k : Int) (hx : xss.length ≤ 281474976710656) (hr : ∀ x ∈ xss, x.length ≤ 281474976710656) :
    ACalls Try.prog 49 [tMt 0 xss.length, tI a, tI b, tI k] [] (nst false false 0 xss) (fun t H => t = .tup (kthM xss a b k) ∧ H = nst false false 0 xss) := by
  have hN : Nst false false (nst false false 0 xss) 0 xss := nst_pre [] xss
  have hl := nst_len false false 0 xss
  have hcl := nst_cl false false xss
  have hro := nst_ro (b := 0) (xss := xss)
  have hs := iRng_s xss a b hx hr
  generalize hG : nst false false 0 xss = G at *
  have hN0 : 0 < G.length := by omega
  have q0 := lkn G (cR [cSl 0 xss.length])
  have x1 : Ext G (G ++ [cR [cSl 0 xss.length]]) := Ext.app _ _
  have n1 : Nst false false (G ++ [cR [cSl 0 xss.length]]) 0 xss := hN.ext x1
  have l1 : (G ++ [cR [cSl 0 xss.length]]).length = G.length + 1 := by simp
  have g0 : (G ++ [cR [cSl 0 xss.length]])[0]? = some (.r false (.cells 1 (nsC 1 xss))) := n1.cells
  have hs' := ACalls.liftM [a, b] n1 (fun _ => rfl) (by rw [hG]; exact hs)
  simp only [List.map_nil, List.map_cons] at hs'
  refine afun (fun _ => none) [8, 9] G.length Try.func49 rfl rfl mix (by kernel_rfl) (by kernel_rfl) (by simp [Try.f49]) rfl (⟨trivial, ownAll_ro hro⟩) ?_
  cases hv : rngB xss a b
  · rw [hv] at hs'
    simp (dsimp := false) only [q0, List.length_cons, List.length_nil, List.take_succ_cons, List.take_zero, go_sem, Nat.reduceAdd, Nat.reduceBEq, Nat.reduceEqDiff, Nat.reduceLT, Nat.reduceLeDiff, reduceCtorEq, ↓reduceIte]
    repeat (refine And.intro (by first | exact True.intro | omega | kernel_rfl | (simp only [List.length_set, List.length_append, List.length_take, List.length_replicate, List.length_cons, true_and, and_true, List.length_nil, tabR_length]; omega)) ?_)
    refine ⟨_, (hs').mono ?_⟩
    rintro _ G9 ⟨rfl, h9⟩
    have h9 := h9.symm
    subst h9
    simp (dsimp := false) only [q0, go_sem, Nat.reduceAdd, Nat.reduceBEq, Nat.reduceEqDiff, Nat.reduceLT, Nat.reduceLeDiff, reduceCtorEq, ↓reduceIte]
    refine afin (List.range G.length) [aI 0, aB false] G (by simp) rfl (wk_ext (Nat.le_refl _) hcl x1 (by simp [slId, get_cons, get_nil, TV.hs, AV.hs, C.hs, RS.slot, zipSlots])) (by simp [rtv, kthM, hv])
  obtain ⟨x, A, B, hx0, hvx, hlv, rfl, rfl, hAB, hBx, h64⟩ := rngB_t hv
  have hxl := lt_of_get hx0
  have c0 : (nsC 1 xss)[0]? = some (.sl 1 (1 + 0) 0 x.length) := nsC_at hx0
  have r1 := n1.rows 0 x hx0
  have hin := pure_g (G := G ++ [cR [cSl 0 xss.length]]) (in_l k 0 ((B : Int) - (A : Int) - 1)) (by simp [TV.hs, AV.hs, C.hs]) (by simp [TV.ren, AV.ren, C.ren])
  rw [hv] at hs'
  have eh := head_at hx0
  simp (dsimp := false) only [q0, List.length_cons, List.length_nil, List.take_succ_cons, List.take_zero, go_sem, Nat.reduceAdd, Nat.reduceBEq, Nat.reduceEqDiff, Nat.reduceLT, Nat.reduceLeDiff, reduceCtorEq, ↓reduceIte]
  cases hk : inB k 0 ((B : Int) - (A : Int) - 1)
  · rw [hk] at hin
    repeat (refine And.intro (by first | exact True.intro | omega | kernel_rfl | (simp only [List.length_set, List.length_append, List.length_take, List.length_replicate, List.length_cons, true_and, and_true, List.length_nil, tabR_length]; omega)) ?_)
    refine ⟨_, (hs').mono ?_⟩
    rintro _ G9 ⟨rfl, h9⟩
    have h9 := h9.symm
    subst h9
    simp (dsimp := false) only [q0, List.length_cons, List.length_nil, List.take_succ_cons, List.take_zero, go_sem, Nat.reduceAdd, Nat.reduceBEq, Nat.reduceEqDiff, Nat.reduceLT, Nat.reduceLeDiff, reduceCtorEq, ↓reduceIte]
    repeat (refine And.intro (by first | exact True.intro | omega | kernel_rfl | (simp only [List.length_set, List.length_append, List.length_take, List.length_replicate, List.length_cons, true_and, and_true, List.length_nil, tabR_length]; omega)) ?_)
    refine ⟨_, (hin).mono ?_⟩
    rintro _ G9 ⟨rfl, h9⟩
    have h9 := h9.symm
    subst h9
    simp (dsimp := false) only [q0, go_sem, Nat.reduceAdd, Nat.reduceBEq, Nat.reduceEqDiff, Nat.reduceLT, Nat.reduceLeDiff, reduceCtorEq, ↓reduceIte]
    refine afin (List.range G.length) [aI 0, aB false] G (by simp) rfl (wk_ext (Nat.le_refl _) hcl x1 (by simp [slId, get_cons, get_nil, TV.hs, AV.hs, C.hs, RS.slot, zipSlots])) (by simp [rtv, kthM, hv, hk])
  · rw [hk] at hin
    have hkk : 0 ≤ k ∧ k ≤ (B : Int) - (A : Int) - 1 := by simpa [inB] using hk
    have hS := part_g r1 (sorted_l x A (B - A) (by omega) (by omega))
    have hsl : (srtL (seg x A (B - A))).length = B - A := by rw [srtL_len, seg_len]
    repeat (refine And.intro (by first | exact True.intro | omega | kernel_rfl | (simp only [List.length_set, List.length_append, List.length_take, List.length_replicate, List.length_cons, true_and, and_true, List.length_nil, tabR_length]; omega)) ?_)
    refine ⟨_, (hs').mono ?_⟩
    rintro _ G9 ⟨rfl, h9⟩
    have h9 := h9.symm
    subst h9
    simp (dsimp := false) only [q0, List.length_cons, List.length_nil, List.take_succ_cons, List.take_zero, go_sem, Nat.reduceAdd, Nat.reduceBEq, Nat.reduceEqDiff, Nat.reduceLT, Nat.reduceLeDiff, reduceCtorEq, ↓reduceIte]
    repeat (refine And.intro (by first | exact True.intro | omega | kernel_rfl | (simp only [List.length_set, List.length_append, List.length_take, List.length_replicate, List.length_cons, true_and, and_true, List.length_nil, tabR_length]; omega)) ?_)
    refine ⟨_, (hin).mono ?_⟩
    rintro _ G9 ⟨rfl, h9⟩
    have h9 := h9.symm
    subst h9
    simp (dsimp := false) only [q0, g0, c0, Int.toNat_zero, List.length_cons, List.length_nil, List.take_succ_cons, List.take_zero, go_sem, Nat.reduceAdd, Nat.reduceBEq, Nat.reduceEqDiff, Nat.reduceLT, Nat.reduceLeDiff, reduceCtorEq, ↓reduceIte]
    have q2 := lkn (G ++ [cR [cSl 0 xss.length]]) (oI (srtL (seg x A (B - A))))
    rw [show 0 + 1 + 0 = 1 by rfl] at hS
    repeat (refine And.intro (by first | exact True.intro | omega | kernel_rfl | (simp only [List.length_set, List.length_append, List.length_take, List.length_replicate, List.length_cons, true_and, and_true, List.length_nil, tabR_length]; omega)) ?_)
    refine ⟨_, hS.mono ?_⟩
    rintro _ G2 ⟨rfl, e2⟩
    subst e2
    simp (dsimp := false) only [q2, List.length_cons, List.length_nil, List.take_succ_cons, List.take_zero, hsl, go_sem, Nat.reduceAdd, Nat.reduceBEq, Nat.reduceEqDiff, Nat.reduceLT, Nat.reduceLeDiff, reduceCtorEq, ↓reduceIte]
    repeat (refine And.intro (by first | exact True.intro | omega | kernel_rfl | (simp only [List.length_set, List.length_append, List.length_take, List.length_replicate, List.length_cons, true_and, and_true, List.length_nil, tabR_length]; omega)) ?_)
    refine afin (List.range G.length) [aI ((srtL (seg x A (B - A))).getD k.toNat 0), aB true] G (by simp) rfl (wk_ext (Nat.le_refl _) hcl (x1.trans (Ext.app _ _)) (by simp [slId, get_cons, get_nil, TV.hs, AV.hs, C.hs, RS.slot, zipSlots])) ⟨by simp only [rtv, kthM, hv, hk, eh, Bool.and_self, cond_true, Int.toNat_natCast], rfl⟩
theorem sKth_s (xss : List (List Int)) (a b k : Int) (hx : xss.length ≤ 281474976710656) (hr : ∀ x ∈ xss, x.length ≤ 281474976710656) :
    ACalls Try.prog 50 [tMt 0 xss.length, tI a, tI b, tI k] [] (nst false false 0 xss) (fun t H => t = .tup (kthM xss a b k) ∧ H = nst false false 0 xss) := by
  have hN : Nst false false (nst false false 0 xss) 0 xss := nst_pre [] xss
  have hl := nst_len false false 0 xss
  have hcl := nst_cl false false xss
  have hro := nst_ro (b := 0) (xss := xss)
  have hs := sRng_s xss a b hx hr
  generalize hG : nst false false 0 xss = G at *
  have hN0 : 0 < G.length := by omega
  have q0 := lkn G (cR [cSl 0 xss.length])
  have x1 : Ext G (G ++ [cR [cSl 0 xss.length]]) := Ext.app _ _
  have n1 : Nst false false (G ++ [cR [cSl 0 xss.length]]) 0 xss := hN.ext x1
  have l1 : (G ++ [cR [cSl 0 xss.length]]).length = G.length + 1 := by simp
  have g0 : (G ++ [cR [cSl 0 xss.length]])[0]? = some (.r false (.cells 1 (nsC 1 xss))) := n1.cells
  have hs' := ACalls.liftM [a, b] n1 (fun _ => rfl) (by rw [hG]; exact hs)
  simp only [List.map_nil, List.map_cons] at hs'
  refine afun (fun _ => none) [8, 9] G.length Try.func50 rfl rfl mix (by kernel_rfl) (by kernel_rfl) (by simp [Try.f50]) rfl (⟨trivial, ownAll_ro hro⟩) ?_
  cases hv : rngB xss a b
  · rw [hv] at hs'
    simp (dsimp := false) only [q0, List.length_cons, List.length_nil, List.take_succ_cons, List.take_zero, go_sem, Nat.reduceAdd, Nat.reduceBEq, Nat.reduceEqDiff, Nat.reduceLT, Nat.reduceLeDiff, reduceCtorEq, ↓reduceIte]
    repeat (refine And.intro (by first | exact True.intro | omega | kernel_rfl | (simp only [List.length_set, List.length_append, List.length_take, List.length_replicate, List.length_cons, true_and, and_true, List.length_nil, tabR_length]; omega)) ?_)
    refine ⟨_, (hs').mono ?_⟩
    rintro _ G9 ⟨rfl, h9⟩
    have h9 := h9.symm
    subst h9
    simp (dsimp := false) only [q0, go_sem, Nat.reduceAdd, Nat.reduceBEq, Nat.reduceEqDiff, Nat.reduceLT, Nat.reduceLeDiff, reduceCtorEq, ↓reduceIte]
    refine afin (List.range G.length) [aI 0, aB false] G (by simp) rfl (wk_ext (Nat.le_refl _) hcl x1 (by simp [slId, get_cons, get_nil, TV.hs, AV.hs, C.hs, RS.slot, zipSlots])) (by simp [rtv, kthM, hv])
  obtain ⟨x, A, B, hx0, hvx, hlv, rfl, rfl, hAB, hBx, h64⟩ := rngB_t hv
  have hxl := lt_of_get hx0
  have c0 : (nsC 1 xss)[0]? = some (.sl 1 (1 + 0) 0 x.length) := nsC_at hx0
  have r1 := n1.rows 0 x hx0
  have hin := pure_g (G := G ++ [cR [cSl 0 xss.length]]) (l1In_l k 0 ((B : Int) - (A : Int) - 1)) (by simp [TV.hs, AV.hs, C.hs]) (by simp [TV.ren, AV.ren, C.ren])
  rw [hv] at hs'
  have eh := head_at hx0
  simp (dsimp := false) only [q0, List.length_cons, List.length_nil, List.take_succ_cons, List.take_zero, go_sem, Nat.reduceAdd, Nat.reduceBEq, Nat.reduceEqDiff, Nat.reduceLT, Nat.reduceLeDiff, reduceCtorEq, ↓reduceIte]
  cases hk : inB k 0 ((B : Int) - (A : Int) - 1)
  · rw [hk] at hin
    repeat (refine And.intro (by first | exact True.intro | omega | kernel_rfl | (simp only [List.length_set, List.length_append, List.length_take, List.length_replicate, List.length_cons, true_and, and_true, List.length_nil, tabR_length]; omega)) ?_)
    refine ⟨_, (hs').mono ?_⟩
    rintro _ G9 ⟨rfl, h9⟩
    have h9 := h9.symm
    subst h9
    simp (dsimp := false) only [q0, List.length_cons, List.length_nil, List.take_succ_cons, List.take_zero, go_sem, Nat.reduceAdd, Nat.reduceBEq, Nat.reduceEqDiff, Nat.reduceLT, Nat.reduceLeDiff, reduceCtorEq, ↓reduceIte]
    repeat (refine And.intro (by first | exact True.intro | omega | kernel_rfl | (simp only [List.length_set, List.length_append, List.length_take, List.length_replicate, List.length_cons, true_and, and_true, List.length_nil, tabR_length]; omega)) ?_)
    refine ⟨_, (hin).mono ?_⟩
    rintro _ G9 ⟨rfl, h9⟩
    have h9 := h9.symm
    subst h9
    simp (dsimp := false) only [q0, go_sem, Nat.reduceAdd, Nat.reduceBEq, Nat.reduceEqDiff, Nat.reduceLT, Nat.reduceLeDiff, reduceCtorEq, ↓reduceIte]
    refine afin (List.range G.length) [aI 0, aB false] G (by simp) rfl (wk_ext (Nat.le_refl _) hcl x1 (by simp [slId, get_cons, get_nil, TV.hs, AV.hs, C.hs, RS.slot, zipSlots])) (by simp [rtv, kthM, hv, hk])
  · rw [hk] at hin
    have hkk : 0 ≤ k ∧ k ≤ (B : Int) - (A : Int) - 1 := by simpa [inB] using hk
    have hS := part_g r1 (l2Sorted_l x A (B - A) (by omega) (by omega))
    have hsl : (srtL (seg x A (B - A))).length = B - A := by rw [srtL_len, seg_len]
    repeat (refine And.intro (by first | exact True.intro | omega | kernel_rfl | (simp only [List.length_set, List.length_append, List.length_take, List.length_replicate, List.length_cons, true_and, and_true, List.length_nil, tabR_length]; omega)) ?_)
    refine ⟨_, (hs').mono ?_⟩
    rintro _ G9 ⟨rfl, h9⟩
    have h9 := h9.symm
    subst h9
    simp (dsimp := false) only [q0, List.length_cons, List.length_nil, List.take_succ_cons, List.take_zero, go_sem, Nat.reduceAdd, Nat.reduceBEq, Nat.reduceEqDiff, Nat.reduceLT, Nat.reduceLeDiff, reduceCtorEq, ↓reduceIte]
    repeat (refine And.intro (by first | exact True.intro | omega | kernel_rfl | (simp only [List.length_set, List.length_append, List.length_take, List.length_replicate, List.length_cons, true_and, and_true, List.length_nil, tabR_length]; omega)) ?_)
    refine ⟨_, (hin).mono ?_⟩
    rintro _ G9 ⟨rfl, h9⟩
    have h9 := h9.symm
    subst h9
    simp (dsimp := false) only [q0, g0, c0, Int.toNat_zero, List.length_cons, List.length_nil, List.take_succ_cons, List.take_zero, go_sem, Nat.reduceAdd, Nat.reduceBEq, Nat.reduceEqDiff, Nat.reduceLT, Nat.reduceLeDiff, reduceCtorEq, ↓reduceIte]
    have q2 := lkn (G ++ [cR [cSl 0 xss.length]]) (oI (srtL (seg x A (B - A))))
    rw [show 0 + 1 + 0 = 1 by rfl] at hS
    repeat (refine And.intro (by first | exact True.intro | omega | kernel_rfl | (simp only [List.length_set, List.length_append, List.length_take, List.length_replicate, List.length_cons, true_and, and_true, List.length_nil, tabR_length]; omega)) ?_)
    refine ⟨_, hS.mono ?_⟩
    rintro _ G2 ⟨rfl, e2⟩
    subst e2
    simp (dsimp := false) only [q2, List.length_cons, List.length_nil, List.take_succ_cons, List.take_zero, hsl, go_sem, Nat.reduceAdd, Nat.reduceBEq, Nat.reduceEqDiff, Nat.reduceLT, Nat.reduceLeDiff, reduceCtorEq, ↓reduceIte]
    repeat (refine And.intro (by first | exact True.intro | omega | kernel_rfl | (simp only [List.length_set, List.length_append, List.length_take, List.length_replicate, List.length_cons, true_and, and_true, List.length_nil, tabR_length]; omega)) ?_)
    refine afin (List.range G.length) [aI ((srtL (seg x A (B - A))).getD k.toNat 0), aB true] G (by simp) rfl (wk_ext (Nat.le_refl _) hcl (x1.trans (Ext.app _ _)) (by simp [slId, get_cons, get_nil, TV.hs, AV.hs, C.hs, RS.slot, zipSlots])) ⟨by simp only [rtv, kthM, hv, hk, eh, Bool.and_self, cond_true, Int.toNat_natCast], rfl⟩
end Go.Proofs.Ytpoappgfmjnioaa
