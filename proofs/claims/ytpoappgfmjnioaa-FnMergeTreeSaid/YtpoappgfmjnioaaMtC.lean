/- Contracts: merge trees with a symbolic number of levels: their copy, their equality. -/
import Derived.Test.YtpoappgfmjnioaaMtN
set_option linter.unusedSimpArgs false
set_option linter.unusedVariables false
set_option linter.unusedSectionVars false
set_option linter.unnecessarySimpa false
namespace Go.Proofs.Ytpoappgfmjnioaa
open Go Go.Ax
set_option maxRecDepth 10000
set_option maxHeartbeats 1000000
abbrev cN : C := .v (.slice none 0 0)

/-- The copy, i rows of it laid. -/
def cpy (G : Hp) (xss : List (List Int)) (i : Nat) : Hp := G ++ (cR (nsC (G.length + 1) (xss.take i) ++ List.replicate (xss.length - i) cN) :: (xss.take i).map oI)
theorem cpy_len (G : Hp) (xss : List (List Int)) (i : Nat) (hi : i ≤ xss.length) : (cpy G xss i).length = G.length + 1 + i := by simp [cpy]; omega
theorem cpy_cells (G : Hp) (xss : List (List Int)) (i : Nat) : (cpy G xss i)[G.length]? = some (cR (nsC (G.length + 1) (xss.take i) ++ List.replicate (xss.length - i) cN)) := by
  rw [cpy, List.getElem?_append_right (Nat.le_refl _), Nat.sub_self]; rfl
theorem cpy_end (G : Hp) (xss : List (List Int)) : cpy G xss xss.length = G ++ nst true true G.length xss := by
  have : xss.take xss.length = xss := List.take_of_length_le (Nat.le_refl _)
  rw [cpy, this, Nat.sub_self]; simp [nst]
theorem take_snoc {xss : List (List Int)} {i : Nat} {x : List Int} (h : xss[i]? = some x) : xss.take (i + 1) = xss.take i ++ [x] := by rw [List.take_add_one, h]; rfl
theorem lt_of_get {α : Type} {l : List α} {i : Nat} {x : α} (h : l[i]? = some x) : i < l.length := by
  rcases Nat.lt_or_ge i l.length with h' | h'
  · exact h'
  · rw [List.getElem?_eq_none h'] at h; cases h
theorem cpy_step {G : Hp} {xss : List (List Int)} {i : Nat} {x : List Int} (h : xss[i]? = some x) :
    (cpy G xss i ++ [oI x]).set G.length (cR ((nsC (G.length + 1) (xss.take i) ++ List.replicate (xss.length - i) cN).set i (cSl (cpy G xss i).length x.length))) = cpy G xss (i + 1) := by
  have hi := lt_of_get h
  have hl := cpy_len G xss i (by omega)
  rw [hl]
  have e1 : (nsC (G.length + 1) (xss.take i) ++ List.replicate (xss.length - i) cN).set i (cSl (G.length + 1 + i) x.length) = nsC (G.length + 1) (xss.take (i + 1)) ++ List.replicate (xss.length - (i + 1)) cN := by
    have hn : (nsC (G.length + 1) (xss.take i)).length = i := by rw [nsC_len, List.length_take]; omega
    rw [List.set_append_right _ _ (by omega), hn, Nat.sub_self, show xss.length - i = (xss.length - (i + 1)) + 1 by omega, List.replicate_succ, List.set_cons_zero, take_snoc h, nsC_app, List.length_take, Nat.min_eq_left (by omega)]
    simp [nsC]
  rw [e1]
  simp only [cpy]
  rw [List.append_assoc, List.set_append_right _ _ (Nat.le_refl _), Nat.sub_self, List.cons_append, List.set_cons_zero, take_snoc h, List.map_append]
  rfl
theorem cpy_ext {G : Hp} {xss : List (List Int)} {i : Nat} : Ext G (cpy G xss i) := Ext.app _ _
theorem cpy_cl {G : Hp} {xss : List (List Int)} {i : Nat} (hi : i ≤ xss.length) (hG : Cl G) : Cl (cpy G xss i) := by
  have hl := cpy_len G xss i hi
  refine cl_app hG fun r hr h hh => ?_
  change h < (cpy G xss i).length
  simp only [List.mem_cons, List.mem_map] at hr
  rcases hr with rfl | ⟨x, _, rfl⟩
  · simp only [Row.hs, Dat.hs, List.mem_flatMap, List.mem_append] at hh
    obtain ⟨c, hc, hh⟩ := hh
    rcases hc with hc | hc
    · have := nsC_hs _ _ c hc h hh
      rw [List.length_take] at this; omega
    · have := List.eq_of_mem_replicate hc
      subst this; simp [C.hs] at hh
  · simp [Row.hs, Dat.hs] at hh

theorem toSS_s (xss : List (List Int)) (hx : xss.length ≤ 1048576) (hr : ∀ x ∈ xss, 8 * x.length ≤ 281474976710656) :
    ACalls Try.prog 75 [tSS 0 xss.length] [] (nst false false 0 xss) (fun t H => t = tSS (xss.length + 1) xss.length ∧ H = nst false false 0 xss ++ nst true true (xss.length + 1) xss) := by
  have hl := nst_len false false 0 xss
  have g0 : (nst false false 0 xss)[0]? = some (.r false (.cells 1 (nsC 1 xss))) := rfl
  have hcl := nst_cl false false xss
  have hA : ∀ i x, xss[i]? = some x → (nst false false 0 xss)[1 + i]? = some (rI x) := fun i x h => by
    rw [Nat.add_comm 1 i, nst, List.getElem?_cons_succ, List.getElem?_map, h]; rfl
  have hro := nst_ro (b := 0) (xss := xss)
  generalize nst false false 0 xss = G at *
  have hN0 : 0 < G.length := by omega
  refine afun (fun _ => none) [2] G.length Try.func75 rfl rfl mix (by kernel_rfl) (by kernel_rfl) (by simp [Try.f75]) rfl (⟨trivial, ownAll_ro hro⟩) ?_
  simp (dsimp := false) only [go_sem, Nat.reduceAdd, Nat.reduceBEq, Nat.reduceEqDiff, Nat.reduceLT, Nat.reduceLeDiff, reduceCtorEq, ↓reduceIte]
  repeat (refine And.intro (by first | exact True.intro | omega | kernel_rfl | (simp only [List.length_set, List.length_append, List.length_take, List.length_replicate, List.length_cons, true_and, and_true, List.length_nil, tabR_length]; omega)) ?_)
  have e0 : G ++ [cR (List.replicate xss.length cN)] = cpy G xss 0 := by simp [cpy, nsC]
  simp only [e0]
  have hwk : ∀ (i : Nat) (f : F), i ≤ xss.length → slId (cpy G xss i).length f [(0, tSS 0 xss.length), (3, tSS G.length xss.length), (4, tI i)] → Weak G.length (List.range (cpy G xss i).length) f (cpy G xss i) [(0, tSS 0 xss.length), (3, tSS G.length xss.length), (4, tI i)] (cpy G xss i) := fun i f hi hs =>
    wk_id (by rw [cpy_len G xss i hi]; omega) (cpy_cl hi hcl) hs
  refine aloop (σ := Nat) (fun i => ([(0, tSS 0 xss.length), (3, tSS G.length xss.length), (4, tI i)], cpy G xss i)) (fun i => i ≤ xss.length) (fun i => xss.length - i) 0 (List.range (cpy G xss 0).length) (Nat.zero_le _) (hwk 0 _ (Nat.zero_le _) (by simp [slId, get_cons, get_nil, TV.hs, AV.hs, C.hs, cpy_len])) ?_
  intro i hi
  have hcl' := cpy_len G xss i hi
  by_cases hc : i < xss.length
  · have hcd : decide ((i : Int) < (xss.length : Int)) = true := decide_eq_true (by omega)
    obtain ⟨x, hxi⟩ : ∃ x, xss[i]? = some x := ⟨_, List.getElem?_eq_getElem hc⟩
    have hxl := hr x (List.mem_of_getElem? hxi)
    have c0 := nsC_at (b := 1) hxi
    have q0 : (cpy G xss i)[0]? = some (.r false (.cells 1 (nsC 1 xss))) := cpy_ext _ _ g0
    have q1 : (cpy G xss i)[1 + i]? = some (rI x) := cpy_ext _ _ (hA i x hxi)
    have q2 : (cpy G xss i ++ [oI x])[G.length]? = some (cR (nsC (G.length + 1) (xss.take i) ++ List.replicate (xss.length - i) cN)) := lkp (cpy_cells G xss i)
    have q3 : i < (nsC (G.length + 1) (xss.take i) ++ List.replicate (xss.length - i) cN).length := by rw [List.length_append, nsC_len, List.length_take, List.length_replicate]; omega
    have q4 := cpy_step (G := G) hxi
    simp (dsimp := false) only [hcd, q0, c0, Int.toNat_natCast, go_sem, Nat.reduceAdd, Nat.reduceBEq, Nat.reduceEqDiff, Nat.reduceLT, Nat.reduceLeDiff, reduceCtorEq, ↓reduceIte]
    repeat (refine And.intro (by first | exact True.intro | omega | kernel_rfl | (simp only [List.length_set, List.length_append, List.length_take, List.length_replicate, List.length_cons, true_and, and_true, List.length_nil, tabR_length]; omega)) ?_)
    refine ⟨_, (toIntS_g q1 hxl).mono ?_⟩
    rintro _ G9 ⟨rfl, h9⟩
    have h9 := h9.symm
    subst h9
    simp (dsimp := false) only [hcd, q2, q3, q4, Int.toNat_natCast, go_sem, Nat.reduceAdd, Nat.reduceBEq, Nat.reduceEqDiff, Nat.reduceLT, Nat.reduceLeDiff, reduceCtorEq, ↓reduceIte]
    repeat (refine And.intro (by first | exact True.intro | omega | kernel_rfl | (simp only [List.length_set, List.length_append, List.length_take, List.length_replicate, List.length_cons, true_and, and_true, List.length_nil, tabR_length]; omega)) ?_)
    have hcl2 := cpy_len G xss (i + 1) (by omega)
    refine ⟨i + 1, List.range (cpy G xss (i + 1)).length, ⟨by omega, by omega⟩, hwk (i + 1) _ (by omega) (by simp [slId, get_cons, get_nil, TV.hs, AV.hs, C.hs]; omega)⟩
  · have hcd : decide ((i : Int) < (xss.length : Int)) = false := decide_eq_false (by omega)
    have hie : i = xss.length := by omega
    subst hie
    simp (dsimp := false) only [hcd, go_sem, Nat.reduceAdd, Nat.reduceBEq, Nat.reduceEqDiff, Nat.reduceLT, Nat.reduceLeDiff, reduceCtorEq, ↓reduceIte]
    refine afin (List.range (cpy G xss xss.length).length) [aSS (xss.length + 1) xss.length] (cpy G xss xss.length) (by simp) rfl (wk_id (by omega) (cpy_cl (Nat.le_refl _) hcl) (by simp [slId, get_cons, get_nil, TV.hs, AV.hs, C.hs, RS.slot, zipSlots, hl]; omega)) ⟨by simp [rtv], by rw [cpy_end, hl]⟩

/-! ### What a function leaves: its own rows and a new group -/

theorem C.ren_of {ρ : List Nat} {c : C} (h : ∀ x ∈ c.hs, ρ.getD x 0 = x) : c.ren ρ = c := by
  cases c with
  | any => rfl
  | v x => rfl
  | sl e g o n => simp only [C.ren]; rw [h g (by simp [C.hs])]
  | ptr g i s => simp only [C.ren]; rw [h g (by simp [C.hs])]
  | fn f cs =>
    simp only [C.ren]
    congr 1
    refine (List.map_congr_left fun x hx => ?_).trans (List.map_id _)
    rw [h x.1 (by simp only [C.hs, List.mem_map]; exact ⟨x, hx, rfl⟩)]; rfl
theorem rowLe_self {ρ : List Nat} {row : Row} (h : ∀ x ∈ Row.hs row, ρ.getD x 0 = x ∧ x < ρ.length) : rowLe ρ row (some row) := by
  cases row with
  | dead => trivial
  | r o d =>
    refine ⟨id, ?_, fun x hx => (h x hx).2⟩
    cases d with
    | cells n cs =>
      simp only [Dat.ren]
      congr 1
      refine ((List.map_congr_left fun x hx => ?_).trans (List.map_id _)).symm
      exact C.ren_of fun y hy => (h y (by simp only [Row.hs, Dat.hs, List.mem_flatMap]; exact ⟨x, hx, hy⟩)).1
    | _ => rfl
theorem grp_get {G : Hp} {c n : Nat} : (∀ x, x < G.length → (List.range G.length ++ List.range' c n).getD x 0 = x) ∧ (∀ i, i < n → (List.range G.length ++ List.range' c n).getD (G.length + i) 0 = c + i) ∧ (List.range G.length ++ List.range' c n).length = G.length + n := by
  refine ⟨fun x hx => ?_, fun i hi => ?_, by simp⟩
  · rw [List.getD_eq_getElem?_getD, List.getElem?_append_left (by simpa using hx), List.getElem?_range hx]; rfl
  · rw [List.getD_eq_getElem?_getD, List.getElem?_append_right (by simp), List.length_range, show G.length + i - G.length = i by omega, List.getElem?_range' hi]; simp
theorem wk_grp {m c : Nat} {f f' : F} {G H : Hp} {xss : List (List Int)} (hm : m ≤ G.length) (hcl : Cl G) (he : Ext G H) (hN : Nst true true H c xss) (hc : G.length ≤ c)
    (hs : slotsLe (List.range G.length ++ List.range' c (xss.length + 1)) f f') : Weak m (List.range G.length ++ List.range' c (xss.length + 1)) f H f' (G ++ nst true true G.length xss) := by
  obtain ⟨g1, g2, g3⟩ := grp_get (G := G) (c := c) (n := xss.length + 1)
  have hlt := hN.lt
  refine ⟨?_, List.nodup_append.2 ⟨List.nodup_range, List.nodup_range', fun a ha b hb => ?_⟩, fun h hh => ?_, rowsLe_of (by rw [g3, List.length_append, nst_len]) fun i h row h1 h2 => ?_, hs⟩
  · rw [List.take_append_of_le_length (by simpa using hm), List.take_range, Nat.min_eq_left hm]
  · rw [List.mem_range] at ha
    rw [List.mem_range'_1] at hb
    omega
  · rcases List.mem_append.1 hh with h1 | h1
    · rw [List.mem_range] at h1
      exact getlt (he h _ (List.getElem?_eq_getElem h1))
    · rw [List.mem_range'_1] at h1; omega
  · rcases Nat.lt_or_ge i G.length with hi | hi
    · rw [List.getElem?_append_left (by simpa using hi), List.getElem?_range hi] at h1
      cases h1
      rw [List.getElem?_append_left hi] at h2
      rw [he i row h2]
      refine rowLe_self fun x hx => ?_
      have := hcl row (List.mem_of_getElem? h2) x hx
      exact ⟨g1 x this, by omega⟩
    · obtain ⟨j, rfl⟩ : ∃ j, i = G.length + j := ⟨i - G.length, by omega⟩
      rw [List.getElem?_append_right (by omega), show G.length + j - G.length = j by omega] at h2
      have hj := getlt h2
      rw [nst_len] at hj
      have e := g2 j hj
      rw [List.getD_eq_getElem?_getD, h1] at e
      have e : h = c + j := e
      subst e
      cases j with
      | zero =>
        simp only [nst, List.getElem?_cons_zero, Option.some.injEq] at h2
        subst h2
        change rowLe _ _ (H[c]?)
        rw [hN.cells]
        refine ⟨id, ?_, ?_⟩
        · simp only [Dat.ren]; rw [nsC_ren _ (G.length + 1) (c + 1) xss (fun i hi => by rw [show G.length + 1 + i = G.length + (i + 1) by omega, g2 (i + 1) (by omega)]; omega)]
        · intro h hh
          simp only [Dat.hs, List.mem_flatMap] at hh
          obtain ⟨x, hx, hh⟩ := hh
          have := nsC_hs _ _ x hx h hh
          omega
      | succ j =>
        simp only [nst, List.getElem?_cons_succ, List.getElem?_map, Option.map_eq_some_iff] at h2
        obtain ⟨x, hx, rfl⟩ := h2
        rw [show c + (j + 1) = c + 1 + j by omega, hN.rows j x hx]
        exact ⟨id, rfl, by simp [Dat.hs]⟩

/-- A call that reads one group and makes another. -/
theorem ACalls.liftG {P : Program} {k : FuncId} {args gargs : List TV} {G : Hp} {t0 : TV} {o o' : Bool} {c : Nat} {xss yss : List (List Int)} (hN : Nst o o' G c xss)
    (hl : ACalls P k args [] (nst false false 0 xss) (fun t H' => t = t0 ∧ H' = nst false false 0 xss ++ nst true true (xss.length + 1) yss))
    (hargs : gargs = args.map (TV.ren (List.range' c (xss.length + 1)))) (hhs : ∀ t ∈ args, ∀ h ∈ t.hs, h < xss.length + 1) :
    ACalls P k gargs [] G (fun t G' => t = t0.ren (List.range' c (xss.length + 1) ++ List.range' G.length (yss.length + 1)) ∧ G' = G ++ nst true true G.length yss) := by
  refine (ACalls.lift1 hN hl nst_own hargs hhs).mono ?_
  rintro t G' ⟨rfl, rfl⟩
  refine ⟨by rw [freshR_range, nst_len], by rw [nst_fresh (by simp)]⟩
theorem grp_ren {G : Hp} {c n m : Nat} : (List.range' c (n + 1) ++ List.range' G.length (m + 1)).getD (n + 1) 0 = G.length := by
  rw [List.getD_eq_getElem?_getD, List.getElem?_append_right (by simp), List.length_range', Nat.sub_self, List.getElem?_range' (by omega)]; simp
theorem toSS_g {G : Hp} {xss : List (List Int)} {c : Nat} {o o' : Bool} (hN : Nst o o' G c xss) (hx : xss.length ≤ 1048576) (hr : ∀ x ∈ xss, 8 * x.length ≤ 281474976710656) :
    ACalls Try.prog 75 [tSS c xss.length] [] G (fun t G' => t = tSS G.length xss.length ∧ G' = G ++ nst true true G.length xss) := by
  refine (ACalls.liftG hN (toSS_s xss hx hr) ?_ ?_).mono ?_
  · simp only [List.map_cons, List.map_nil, TV.ren, AV.ren, C.ren]
    rw [range'_getD (by omega)]; rfl
  · intro t ht h hh
    simp only [List.mem_cons, List.not_mem_nil, or_false] at ht
    subst ht; simp [TV.hs, AV.hs, C.hs] at hh; omega
  · rintro t G' ⟨rfl, rfl⟩
    refine ⟨?_, rfl⟩
    simp only [TV.ren, AV.ren, C.ren, grp_ren]

theorem toMt_s (xss : List (List Int)) (hx : xss.length ≤ 1048576) (hr : ∀ x ∈ xss, 8 * x.length ≤ 281474976710656) :
    ACalls Try.prog 46 [tMt 0 xss.length] [] (nst false false 0 xss) (fun t H => t = tMt (xss.length + 1) xss.length ∧ H = nst false false 0 xss ++ nst true true (xss.length + 1) xss) := by
  have hN : Nst false false (nst false false 0 xss) 0 xss := nst_pre [] xss
  have hl := nst_len false false 0 xss
  have hcl := nst_cl false false xss
  have hro := nst_ro (b := 0) (xss := xss)
  generalize nst false false 0 xss = G at *
  refine afunC (fun _ => none) [.c 2 49] G.length Try.func46 rfl rfl mix (by kernel_rfl) (by kernel_rfl) (by simp [Try.f46, RS.slot]) rfl (⟨trivial, ownAll_ro hro⟩) ?_
  have q0 := lkn G (cR [cSl 0 xss.length])
  have q1 : ((G ++ [cR [cSl 0 xss.length]]) ++ [cR [cN]])[G.length]? = some (cR [cSl 0 xss.length]) := lkp q0
  have q2 : (((G ++ [cR [cSl 0 xss.length]]) ++ [cR [cN]]) ++ [cR [cN]])[G.length]? = some (cR [cSl 0 xss.length]) := lkp q1
  simp (dsimp := false) only [q0, q1, q2, List.length_append, go_sem, Nat.reduceAdd, Nat.reduceBEq, Nat.reduceEqDiff, Nat.reduceLT, Nat.reduceLeDiff, reduceCtorEq, ↓reduceIte]
  have n3 : Nst false false (((G ++ [cR [cSl 0 xss.length]]) ++ [cR [cN]]) ++ [cR [cN]]) 0 xss := ((hN.ext (Ext.app _ _)).ext (Ext.app _ _)).ext (Ext.app _ _)
  have l3 : (((G ++ [cR [cSl 0 xss.length]]) ++ [cR [cN]]) ++ [cR [cN]]).length = G.length + 3 := by simp
  have x3 : Ext G (((G ++ [cR [cSl 0 xss.length]]) ++ [cR [cN]]) ++ [cR [cN]]) := ((Ext.app _ _).trans (Ext.app _ _)).trans (Ext.app _ _)
  have q3 : (((G ++ [cR [cSl 0 xss.length]]) ++ [cR [cN]]) ++ [cR [cN]])[G.length + 1]? = some (cR [cN]) := by
    have := lkn (G ++ [cR [cSl 0 xss.length]]) (cR [cN])
    refine lkp ?_
    simpa using this
  have q4 : (((G ++ [cR [cSl 0 xss.length]]) ++ [cR [cN]]) ++ [cR [cN]])[G.length + 1 + 1]? = some (cR [cN]) := by
    have := lkn ((G ++ [cR [cSl 0 xss.length]]) ++ [cR [cN]]) (cR [cN])
    rwa [show ((G ++ [cR [cSl 0 xss.length]]) ++ [cR [cN]]).length = G.length + 1 + 1 by simp] at this
  clear q0 q1 q2
  generalize (((G ++ [cR [cSl 0 xss.length]]) ++ [cR [cN]]) ++ [cR [cN]]) = G3 at *
  refine ⟨_, (toSS_g n3 hx hr).mono ?_⟩
  rintro _ G4 ⟨rfl, e4⟩
  have x4 : Ext G3 G4 := by rw [e4]; exact Ext.app _ _
  have l4 : G4.length = G3.length + (xss.length + 1) := by rw [e4, List.length_append, nst_len]
  have n4 : Nst true true G4 G3.length xss := by have := Nst.at true true G3 [] xss; rw [e4]; simpa using this
  clear e4
  have r3 := x4 _ _ q3
  have r4 := x4 _ _ q4
  have r5 : (G4.set (G.length + 1 + 1) (cR [cSl G3.length xss.length]))[G.length + 1 + 1]? = some (cR [cSl G3.length xss.length]) := List.getElem?_set_self (by omega)
  have r6 : (G4.set (G.length + 1 + 1) (cR [cSl G3.length xss.length]))[G.length + 1]? = some (cR [cN]) := lks r3 (by omega)
  have r7 : ((G4.set (G.length + 1 + 1) (cR [cSl G3.length xss.length])).set (G.length + 1) (cR [cSl G3.length xss.length]))[G.length + 1]? = some (cR [cSl G3.length xss.length]) := List.getElem?_set_self (by simp; omega)
  simp (dsimp := false) only [r3, r4, r5, r6, r7, List.length_cons, List.length_nil, List.take_succ_cons, List.take_zero, go_sem, Nat.reduceAdd, Nat.reduceBEq, Nat.reduceEqDiff, Nat.reduceLT, Nat.reduceLeDiff, reduceCtorEq, ↓reduceIte]
  obtain ⟨g1, g2, g3⟩ := grp_get (G := G) (c := G3.length) (n := xss.length + 1)
  have x5 : Ext G ((G4.set (G.length + 1 + 1) (cR [cSl G3.length xss.length])).set (G.length + 1) (cR [cSl G3.length xss.length])) := fun h r e => by
    have := getlt e
    exact lks (lks (x4 _ _ (x3 _ _ e)) (by omega)) (by omega)
  have n5 : Nst true true ((G4.set (G.length + 1 + 1) (cR [cSl G3.length xss.length])).set (G.length + 1) (cR [cSl G3.length xss.length])) G3.length xss :=
    ⟨lks (lks n4.cells (by omega)) (by omega), fun i x hx => lks (lks (n4.rows i x hx) (by omega)) (by omega)⟩
  have gd := g2 0 (by omega)
  rw [Nat.add_zero, Nat.add_zero] at gd
  rw [← hl]
  refine afin (List.range G.length ++ List.range' G3.length (xss.length + 1)) [aMt G.length xss.length] _ (by simp) rfl (wk_grp (Nat.le_refl _) hcl x5 n5 (by omega) ?_) ⟨by simp [rtv], rfl⟩
  simp [slotsLe, tvLe, TV.ren, AV.ren, C.ren, TV.hs, AV.hs, C.hs, get_cons, get_nil, zipSlots, RS.slot, -List.getD_eq_getElem?_getD]
  exact gd.symm
theorem toMt_g {G : Hp} {xss : List (List Int)} {c : Nat} {o o' : Bool} (hN : Nst o o' G c xss) (hx : xss.length ≤ 1048576) (hr : ∀ x ∈ xss, 8 * x.length ≤ 281474976710656) :
    ACalls Try.prog 46 [tMt c xss.length] [] G (fun t G' => t = tMt G.length xss.length ∧ G' = G ++ nst true true G.length xss) := by
  refine (ACalls.liftG hN (toMt_s xss hx hr) ?_ ?_).mono ?_
  · simp only [List.map_cons, List.map_nil, TV.ren, AV.ren, C.ren]
    rw [range'_getD (by omega)]; rfl
  · intro t ht h hh
    simp only [List.mem_cons, List.not_mem_nil, or_false] at ht
    subst ht; simp [TV.hs, AV.hs, C.hs] at hh; omega
  · rintro t G' ⟨rfl, rfl⟩
    refine ⟨?_, rfl⟩
    simp only [TV.ren, AV.ren, C.ren, List.map_cons, List.map_nil, grp_ren]

/-! ### Equal -/

/-- A call that reads two groups, by arguments that name them. -/
theorem ACalls.lift2M {P : Program} {k : FuncId} {G : Hp} {v : Value} {o1 o1' o2 o2' : Bool} {a b : Nat} {xss yss : List (List Int)} (hA : Nst o1 o1' G a xss) (hB : Nst o2 o2' G b yss) (hd : a + xss.length < b ∨ b + yss.length < a)
    (hl : ACalls P k [tMt 0 xss.length, tMt 1 yss.length] [] (nst2 xss yss) (fun t H' => t = .a (.c (.v v)) ∧ H' = nst2 xss yss)) :
    ACalls P k [tMt a xss.length, tMt b yss.length] [] G (fun t G' => t = .a (.c (.v v)) ∧ G' = G) := by
  obtain ⟨ρ, h1, h2, h3, h4, h5, h6⟩ := nst2_rho hA hB hd
  have hl' : ACalls P k [tMt 0 xss.length, tMt 1 yss.length] [] (nst2 xss yss) (fun t H' => t = .a (.c (.v v)) ∧ H' = nst2 xss yss ++ []) := by simpa using hl
  refine (ACalls.liftN hl' ρ nst2_ro (by simp) h1 h2 h3 ?_ ?_).mono ?_
  · simp only [List.map_cons, List.map_nil, TV.ren, AV.ren, C.ren, h4, h5]
  · intro t ht h hh
    simp only [List.mem_cons, List.not_mem_nil, or_false] at ht
    rcases ht with rfl | rfl <;> simp [TV.hs, AV.hs, C.hs] at hh <;> omega
  · rintro t G' ⟨rfl, rfl⟩
    exact ⟨rfl, by simp⟩
theorem eqMt_s (xss : List (List Int)) (hx : xss.length ≤ 281474976710656) (hr : ∀ x ∈ xss, x.length ≤ 281474976710656) :
    ACalls Try.prog 41 [tMt 0 xss.length, tMt 1 xss.length] [] (nst2 xss xss) (fun t H => t = tB true ∧ H = nst2 xss xss) := by
  have hl := nst2_len xss xss
  have hcl := nst2_cl xss xss
  have hro := nst2_ro (xss := xss) (yss := xss)
  have hs := eqSS_s xss hx hr
  have hlift : ∀ H, Ext (nst2 xss xss) H → ACalls Try.prog 34 [tSS 0 xss.length, tSS 1 xss.length] [] H (fun t G' => t = tB true ∧ G' = H) := fun H he => by
    have hl' : ACalls Try.prog 34 [tSS 0 xss.length, tSS 1 xss.length] [] (nst2 xss xss) (fun t H' => t = tB true ∧ H' = nst2 xss xss ++ []) := by simpa using hs
    refine (ACalls.liftN hl' (List.range (nst2 xss xss).length) nst2_ro (by simp) List.nodup_range (by simp) ?_ ?_ ?_).mono ?_
    · intro i h row h1 h2
      have hi := getlt h2
      rw [List.getElem?_range hi] at h1
      cases h1
      have e := he _ _ h2
      refine ⟨getlt e, ?_⟩
      rw [e]
      refine rowLe_self fun x hx => ?_
      have := hcl row (List.mem_of_getElem? h2) x hx
      exact ⟨by simp [List.getD, this], by simpa using this⟩
    · simp only [List.map_cons, List.map_nil, TV.ren, AV.ren, C.ren]
      have key : ∀ x, x < (nst2 xss xss).length → (List.range (nst2 xss xss).length).getD x 0 = x := fun x hx => by simp [List.getD, hx]
      rw [key 0 (by omega), key 1 (by omega)]
    · intro t ht h hh
      simp only [List.mem_cons, List.not_mem_nil, or_false] at ht
      rcases ht with rfl | rfl <;> simp [TV.hs, AV.hs, C.hs] at hh <;> simp <;> omega
    · rintro t G' ⟨rfl, rfl⟩
      exact ⟨rfl, by simp⟩
  generalize nst2 xss xss = G at *
  refine afun (fun _ => none) [4] G.length Try.func41 rfl rfl mix (by kernel_rfl) (by kernel_rfl) (by simp [Try.f41]) rfl (⟨trivial, ownAll_ro hro⟩) ?_
  have q0 : ((G ++ [cR [cSl 0 xss.length]]) ++ [cR [cSl 1 xss.length]])[G.length]? = some (cR [cSl 0 xss.length]) := lkp (lkn _ _)
  have q1 : ((G ++ [cR [cSl 0 xss.length]]) ++ [cR [cSl 1 xss.length]])[G.length + 1]? = some (cR [cSl 1 xss.length]) := by
    have := lkn (G ++ [cR [cSl 0 xss.length]]) (cR [cSl 1 xss.length])
    simpa using this
  simp (dsimp := false) only [q0, q1, List.length_append, go_sem, Nat.reduceAdd, Nat.reduceBEq, Nat.reduceEqDiff, Nat.reduceLT, Nat.reduceLeDiff, reduceCtorEq, ↓reduceIte]
  repeat (refine And.intro (by first | exact True.intro | omega | kernel_rfl | (simp only [List.length_set, List.length_append, List.length_take, List.length_replicate, List.length_cons, true_and, and_true, List.length_nil, tabR_length]; omega)) ?_)
  refine ⟨_, (hlift _ ((Ext.app _ _).trans (Ext.app _ _))).mono ?_⟩
  rintro _ G9 ⟨rfl, h9⟩
  have h9 := h9.symm
  subst h9
  simp (dsimp := false) only [bne_self_eq_false, go_sem, Nat.reduceAdd, Nat.reduceBEq, Nat.reduceEqDiff, Nat.reduceLT, Nat.reduceLeDiff, reduceCtorEq, ↓reduceIte]
  refine afin (List.range G.length) [aB true] G (by simp) rfl (wk_ext (Nat.le_refl _) hcl ((Ext.app _ _).trans (Ext.app _ _)) (by simp [slId, get_cons, get_nil, TV.hs, AV.hs, C.hs, RS.slot, zipSlots])) (by simp [rtv])
theorem eqMt_g {G : Hp} {xss : List (List Int)} {a b : Nat} {o1 o1' o2 o2' : Bool} (hA : Nst o1 o1' G a xss) (hB : Nst o2 o2' G b xss) (hd : a + xss.length < b ∨ b + xss.length < a) (hx : xss.length ≤ 281474976710656) (hr : ∀ x ∈ xss, x.length ≤ 281474976710656) :
    ACalls Try.prog 41 [tMt a xss.length, tMt b xss.length] [] G (fun t G' => t = tB true ∧ G' = G) :=
  ACalls.lift2M hA hB hd (eqMt_s xss hx hr)
end Go.Proofs.Ytpoappgfmjnioaa
