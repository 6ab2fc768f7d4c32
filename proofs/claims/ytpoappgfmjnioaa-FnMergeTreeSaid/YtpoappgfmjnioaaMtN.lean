/- Contracts: merge trees with a symbolic number of levels: their size, their copy, their equality. -/
import Derived.Test.YtpoappgfmjnioaaNsS
import Derived.Test.YtpoappgfmjnioaaMtL
set_option linter.unusedSimpArgs false
set_option linter.unusedVariables false
set_option linter.unusedSectionVars false
set_option linter.unnecessarySimpa false
namespace Go.Proofs.Ytpoappgfmjnioaa
open Go Go.Ax
set_option maxRecDepth 10000
set_option maxHeartbeats 1000000
theorem u_lmt : Try.prog.underlying 54 = some (.struct (fieldsOf Try.prog 54)) := by kernel_rfl
theorem lmt_f0 : (fieldsOf Try.prog 54)[0]? = some (fieldAt Try.prog 54 0) := by kernel_rfl
theorem lmt_s0 : sz Try.prog (fieldAt Try.prog 54 0).type = some 1 := by kernel_rfl
theorem lmt_o0 : (fieldAt Try.prog 54 0).offset = 0 := by kernel_rfl
theorem lmt_a0 : isAggB Try.prog (fieldAt Try.prog 54 0).type = some false := by kernel_rfl
theorem sz_lmt : sz Try.prog 54 = some 1 := by kernel_rfl
theorem zr_lmt : zr Try.prog 54 = some (.agg #[.slice none 0 0]) := by kernel_rfl
theorem ag_lmt : isAggB Try.prog 54 = some true := by kernel_rfl
attribute [go_sem] u_lmt lmt_f0 lmt_s0 lmt_o0 lmt_a0 sz_lmt zr_lmt ag_lmt


/-- A call that reads one tree and numbers. -/
theorem ACalls.liftM {P : Program} {k : FuncId} {G : Hp} {v : TV} {o o' : Bool} {c : Nat} {xss : List (List Int)} (is : List Int) (hN : Nst o o' G c xss) (hv : ∀ ρ, v.ren ρ = v)
    (hl : ACalls P k (tMt 0 xss.length :: is.map tI) [] (nst false false 0 xss) (fun t H' => t = v ∧ H' = nst false false 0 xss)) :
    ACalls P k (tMt c xss.length :: is.map tI) [] G (fun t G' => t = v ∧ G' = G) := by
  refine (ACalls.lift1 hN (X := []) (t0 := v) (args := tMt 0 xss.length :: is.map tI) (by simpa using hl) (by simp) ?_ ?_).mono ?_
  · simp only [List.map_cons, TV.ren, AV.ren, List.map_nil, C.ren, List.map_map]
    rw [range'_getD (by omega)]
    congr 1
  · intro t ht h hh
    simp only [List.mem_cons, List.mem_map] at ht
    rcases ht with rfl | ⟨x, _, rfl⟩
    · simp [TV.hs, AV.hs, C.hs] at hh; omega
    · simp [TV.hs, AV.hs, C.hs] at hh
  · rintro t G' ⟨rfl, rfl⟩
    exact ⟨hv _, by simp⟩
theorem ACalls.liftSS {P : Program} {k : FuncId} {G : Hp} {v : TV} {o o' : Bool} {c : Nat} {xss : List (List Int)} (is : List Int) (hN : Nst o o' G c xss) (hv : ∀ ρ, v.ren ρ = v)
    (hl : ACalls P k (tSS 0 xss.length :: is.map tI) [] (nst false false 0 xss) (fun t H' => t = v ∧ H' = nst false false 0 xss)) :
    ACalls P k (tSS c xss.length :: is.map tI) [] G (fun t G' => t = v ∧ G' = G) := by
  refine (ACalls.lift1 hN (X := []) (t0 := v) (args := tSS 0 xss.length :: is.map tI) (by simpa using hl) (by simp) ?_ ?_).mono ?_
  · simp only [List.map_cons, TV.ren, AV.ren, List.map_nil, C.ren, List.map_map]
    rw [range'_getD (by omega)]
    congr 1
  · intro t ht h hh
    simp only [List.mem_cons, List.mem_map] at ht
    rcases ht with rfl | ⟨x, _, rfl⟩
    · simp [TV.hs, AV.hs, C.hs] at hh; omega
    · simp [TV.hs, AV.hs, C.hs] at hh
  · rintro t G' ⟨rfl, rfl⟩
    exact ⟨hv _, by simp⟩

/-! ### Size -/

def szL (left : Int) : List (List Int) → Int
  | [] => left
  | x :: xss => if left - x.length < 0 then -1 else szL (left - x.length) xss
def szR (left : Int) (xss : List (List Int)) : Int := if left - xss.length < 0 then -1 else szL (left - xss.length) xss
theorem szL_neg : ∀ (xss : List (List Int)) (left : Int), 0 ≤ left → szL left xss = -1 ∨ (szL left xss = left - tot xss ∧ 0 ≤ szL left xss)
  | [], left, h => .inr (by simp [szL, tot, h])
  | x :: xss, left, h => by
    rw [szL]
    split
    · exact .inl rfl
    · rcases szL_neg xss (left - x.length) (by omega) with h1 | ⟨h1, h2⟩
      · exact .inl h1
      · exact .inr ⟨by rw [h1]; simp only [tot]; omega, h2⟩
theorem szR_neg (xss : List (List Int)) (left : Int) (h : 0 ≤ left) : szR left xss = -1 ∨ (szR left xss = left - xss.length - tot xss ∧ 0 ≤ szR left xss) := by
  rw [szR]
  split
  · exact .inl rfl
  · exact szL_neg xss _ (by omega)
theorem szL_drop {xss : List (List Int)} {i : Nat} {x : List Int} (h : xss[i]? = some x) (left : Int) : szL left (xss.drop i) = if left - x.length < 0 then -1 else szL (left - x.length) (xss.drop (i + 1)) := by
  have hi := getlt (G := xss.map rI) (h := i) (r := rI x) (by rw [List.getElem?_map, h]; rfl)
  rw [List.length_map] at hi
  rw [List.drop_eq_getElem_cons hi]
  have e : xss[i] = x := by have := List.getElem?_eq_getElem hi; rw [h] at this; exact (Option.some.inj this).symm
  rw [e, szL]

theorem szIntS_s (xs : List Int) (k : Int) (hk : 0 ≤ k) (hk2 : k ≤ 281474976710656) (hx : xs.length ≤ 9223372036854775807) : ACalls Try.prog 89 [tS 0 xs.length, tI k] [] [rI xs] (fun t H => t = tI (if k - (xs.length : Int) < 0 then -1 else k - (xs.length : Int)) ∧ H = [rI xs]) := by
  refine afun (fun _ => none) [4] 1 Try.func89 rfl rfl mix (by kernel_rfl) (by kernel_rfl) (by simp [Try.f89]) rfl (by simp [msOwn, ownAll, Row.own]) ?_
  simp (dsimp := false) only [go_sem, Nat.reduceAdd, Nat.reduceBEq, Nat.reduceEqDiff, Nat.reduceLT, Nat.reduceLeDiff, reduceCtorEq, ↓reduceIte]
  by_cases h : k - (xs.length : Int) < 0
  · have hd : decide (k - (xs.length : Int) < 0) = true := decide_eq_true h
    simp (dsimp := false) only [hd, go_sem, Nat.reduceAdd, Nat.reduceBEq, Nat.reduceEqDiff, Nat.reduceLT, Nat.reduceLeDiff, reduceCtorEq, ↓reduceIte]
    repeat (refine And.intro (by first | exact True.intro | omega | kernel_rfl | (simp only [List.length_set, List.length_append, List.length_take, List.length_replicate, List.length_cons, true_and, and_true, List.length_nil, tabR_length]; omega)) ?_)
    refine afin [0] [aI (-1)] [rI xs] (by simp) rfl (weak_of (by decide) (by simp [RS.slot, List.map_cons, List.map_nil, rowsLe, rowLe, slotsLe, tvLe, TV.ren, AV.ren, C.ren, Dat.ren, Row.ren, TV.hs, AV.hs, C.hs, Dat.hs, get_cons, get_nil, zipSlots, List.getD_cons_zero, List.getD_cons_succ, List.getD_nil, -List.getD_eq_getElem?_getD, h])) (by simp [rtv, h, -List.getD_eq_getElem?_getD])
  · have hd : decide (k - (xs.length : Int) < 0) = false := decide_eq_false h
    simp (dsimp := false) only [hd, go_sem, Nat.reduceAdd, Nat.reduceBEq, Nat.reduceEqDiff, Nat.reduceLT, Nat.reduceLeDiff, reduceCtorEq, ↓reduceIte]
    repeat (refine And.intro (by first | exact True.intro | omega | kernel_rfl | (simp only [List.length_set, List.length_append, List.length_take, List.length_replicate, List.length_cons, true_and, and_true, List.length_nil, tabR_length]; omega)) ?_)
    refine afin [0] [aI (k - (xs.length : Int))] [rI xs] (by simp) rfl (weak_of (by decide) (by simp [RS.slot, List.map_cons, List.map_nil, rowsLe, rowLe, slotsLe, tvLe, TV.ren, AV.ren, C.ren, Dat.ren, Row.ren, TV.hs, AV.hs, C.hs, Dat.hs, get_cons, get_nil, zipSlots, List.getD_cons_zero, List.getD_cons_succ, List.getD_nil, -List.getD_eq_getElem?_getD, h])) (by simp [rtv, h, -List.getD_eq_getElem?_getD])
theorem szIntS_g {G : Hp} {a : Nat} {o : Bool} {xs : List Int} {k : Int} (hA : G[a]? = some (rwI o xs)) (hk : 0 ≤ k) (hk2 : k ≤ 281474976710656) (hx : xs.length ≤ 9223372036854775807) :
    ACalls Try.prog 89 [tS a xs.length, tI k] [] G (fun t G' => t = tI (if k - (xs.length : Int) < 0 then -1 else k - (xs.length : Int)) ∧ G' = G) := by
  have hl : ACalls Try.prog 89 [tS 0 xs.length, tI k] [] [rI xs] (fun t H => t = tI (if k - (xs.length : Int) < 0 then -1 else k - (xs.length : Int)) ∧ H = [rI xs] ++ []) := szIntS_s xs k hk hk2 hx
  refine (ACalls.liftN hl [a] (by simp [Row.own]) (by simp [Row.own]) (by simp) rfl ?_ (by simp [TV.ren, AV.ren, C.ren]) (by simp [TV.hs, AV.hs, C.hs])).mono ?_
  · intro i h' row h1 h2
    match i, h1, h2 with
    | 0, h1, h2 =>
      simp at h1 h2; subst h1; subst h2
      rw [hA]; exact ⟨getlt hA, rowLe_rw⟩
  · rintro t G' ⟨rfl, rfl⟩
    simp [TV.ren, AV.ren, C.ren]

theorem szSS_s (xss : List (List Int)) (hx : xss.length ≤ 9223372036854775807) (hr : ∀ x ∈ xss, x.length ≤ 9223372036854775807) :
    ACalls Try.prog 73 (tSS 0 xss.length :: [(1048576 : Int)].map tI) [] (nst false false 0 xss) (fun t H => t = tI (szR 1048576 xss) ∧ H = nst false false 0 xss) := by
  have hl := nst_len false false 0 xss
  have g0 : (nst false false 0 xss)[0]? = some (.r false (.cells 1 (nsC 1 xss))) := rfl
  have hcl := nst_cl false false xss
  have hA : ∀ i x, xss[i]? = some x → (nst false false 0 xss)[1 + i]? = some (rI x) := fun i x h => by
    rw [Nat.add_comm 1 i, nst, List.getElem?_cons_succ, List.getElem?_map, h]; rfl
  have hro := nst_ro (b := 0) (xss := xss)
  generalize nst false false 0 xss = G at *
  have hN0 : 0 < G.length := by omega
  simp only [List.map_cons, List.map_nil]
  refine afun (fun _ => none) [4] G.length Try.func73 rfl rfl mix (by kernel_rfl) (by kernel_rfl) (by simp [Try.f73]) rfl (⟨trivial, ownAll_ro hro⟩) ?_
  simp (dsimp := false) only [go_sem, Nat.reduceAdd, Nat.reduceBEq, Nat.reduceEqDiff, Nat.reduceLT, Nat.reduceLeDiff, reduceCtorEq, ↓reduceIte]
  by_cases hn : (1048576 : Int) - xss.length < 0
  · have hd : decide ((1048576 : Int) - (xss.length : Int) < 0) = true := decide_eq_true hn
    have e : szR 1048576 xss = -1 := by rw [szR, if_pos hn]
    simp (dsimp := false) only [hd, go_sem, Nat.reduceAdd, Nat.reduceBEq, Nat.reduceEqDiff, Nat.reduceLT, Nat.reduceLeDiff, reduceCtorEq, ↓reduceIte]
    repeat (refine And.intro (by first | exact True.intro | omega | kernel_rfl | (simp only [List.length_set, List.length_append, List.length_take, List.length_replicate, List.length_cons, true_and, and_true, List.length_nil, tabR_length]; omega)) ?_)
    refine afin (List.range G.length) [aI (-1)] G (by simp) rfl (wk_id (by omega) hcl (by simp [slId, get_cons, get_nil, TV.hs, AV.hs, C.hs, RS.slot, zipSlots, hN0])) (by simp [rtv, e])
  have hd : decide ((1048576 : Int) - (xss.length : Int) < 0) = false := decide_eq_false hn
  have e0 : szR 1048576 xss = szL (1048576 - xss.length) xss := by rw [szR, if_neg hn]
  simp (dsimp := false) only [hd, go_sem, Nat.reduceAdd, Nat.reduceBEq, Nat.reduceEqDiff, Nat.reduceLT, Nat.reduceLeDiff, reduceCtorEq, ↓reduceIte]
  repeat (refine And.intro (by first | exact True.intro | omega | kernel_rfl | (simp only [List.length_set, List.length_append, List.length_take, List.length_replicate, List.length_cons, true_and, and_true, List.length_nil, tabR_length]; omega)) ?_)
  refine aloop (σ := Nat × Int) (fun t => ([(0, tSS 0 xss.length), (1, tI t.2), (5, tI t.1)], G)) (fun t => t.1 ≤ xss.length ∧ 0 ≤ t.2 ∧ t.2 ≤ 1048576 ∧ szL t.2 (xss.drop t.1) = szR 1048576 xss) (fun t => xss.length - t.1) (0, 1048576 - (xss.length : Int)) (List.range G.length) ⟨by omega, by dsimp only; omega, by dsimp only; omega, by rw [e0]; rfl⟩ (wk_id (by omega) hcl (by simp [slId, get_cons, get_nil, TV.hs, AV.hs, C.hs, RS.slot, zipSlots, hN0])) ?_
  rintro ⟨i, left⟩ ⟨hi, j1, j2, j3⟩
  simp only at hi j1 j2 j3
  by_cases hc : i < xss.length
  · have hcd : decide ((i : Int) < (xss.length : Int)) = true := decide_eq_true (by omega)
    obtain ⟨x, hxi⟩ : ∃ x, xss[i]? = some x := ⟨_, List.getElem?_eq_getElem hc⟩
    have hxl := hr x (List.mem_of_getElem? hxi)
    have c0 := nsC_at (b := 1) hxi
    rw [szL_drop hxi] at j3
    simp (dsimp := false) only [hcd, g0, c0, Int.toNat_natCast, go_sem, Nat.reduceAdd, Nat.reduceBEq, Nat.reduceEqDiff, Nat.reduceLT, Nat.reduceLeDiff, reduceCtorEq, ↓reduceIte]
    by_cases hm : left - (x.length : Int) < 0
    · rw [if_pos hm] at j3
      have hz : (if left - (x.length : Int) < 0 then (-1 : Int) else left - (x.length : Int)) = -1 := if_pos hm
      repeat (refine And.intro (by first | exact True.intro | omega | kernel_rfl | (simp only [List.length_set, List.length_append, List.length_take, List.length_replicate, List.length_cons, true_and, and_true, List.length_nil, tabR_length]; omega)) ?_)
      refine ⟨_, (szIntS_g (hA i x hxi) j1 (by omega) hxl).mono ?_⟩
      rintro _ G9 ⟨rfl, h9⟩
      have h9 := h9.symm
      subst h9
      simp (dsimp := false) only [hcd, hz, show decide ((-1 : Int) < 0) = true from rfl, go_sem, Nat.reduceAdd, Nat.reduceBEq, Nat.reduceEqDiff, Nat.reduceLT, Nat.reduceLeDiff, reduceCtorEq, ↓reduceIte]
      repeat (refine And.intro (by first | exact True.intro | omega | kernel_rfl | (simp only [List.length_set, List.length_append, List.length_take, List.length_replicate, List.length_cons, true_and, and_true, List.length_nil, tabR_length]; omega)) ?_)
      refine afin (List.range G.length) [aI (-1)] G (by simp) rfl (wk_id (by omega) hcl (by simp [slId, get_cons, get_nil, TV.hs, AV.hs, C.hs, RS.slot, zipSlots, hN0])) (by simp [rtv, j3])
    · rw [if_neg hm] at j3
      have hz : (if left - (x.length : Int) < 0 then (-1 : Int) else left - (x.length : Int)) = left - (x.length : Int) := if_neg hm
      have hd3 : decide (left - (x.length : Int) < 0) = false := decide_eq_false hm
      repeat (refine And.intro (by first | exact True.intro | omega | kernel_rfl | (simp only [List.length_set, List.length_append, List.length_take, List.length_replicate, List.length_cons, true_and, and_true, List.length_nil, tabR_length]; omega)) ?_)
      refine ⟨_, (szIntS_g (hA i x hxi) j1 (by omega) hxl).mono ?_⟩
      rintro _ G9 ⟨rfl, h9⟩
      have h9 := h9.symm
      subst h9
      simp (dsimp := false) only [hcd, hz, hd3, go_sem, Nat.reduceAdd, Nat.reduceBEq, Nat.reduceEqDiff, Nat.reduceLT, Nat.reduceLeDiff, reduceCtorEq, ↓reduceIte]
      repeat (refine And.intro (by first | exact True.intro | omega | kernel_rfl | (simp only [List.length_set, List.length_append, List.length_take, List.length_replicate, List.length_cons, true_and, and_true, List.length_nil, tabR_length]; omega)) ?_)
      refine ⟨(i + 1, left - x.length), List.range G.length, ⟨⟨by dsimp only; omega, by dsimp only; omega, by dsimp only; omega, j3⟩, by dsimp only; omega⟩, wk_id (by omega) hcl (by simp [slId, get_cons, get_nil, TV.hs, AV.hs, C.hs, RS.slot, zipSlots, hN0])⟩
  · have hcd : decide ((i : Int) < (xss.length : Int)) = false := decide_eq_false (by omega)
    have e : left = szR 1048576 xss := by rw [List.drop_of_length_le (by omega)] at j3; exact j3
    subst e
    simp (dsimp := false) only [hcd, go_sem, Nat.reduceAdd, Nat.reduceBEq, Nat.reduceEqDiff, Nat.reduceLT, Nat.reduceLeDiff, reduceCtorEq, ↓reduceIte]
    refine afin (List.range G.length) [aI (szR 1048576 xss)] G (by simp) rfl (wk_id (by omega) hcl (by simp [slId, get_cons, get_nil, TV.hs, AV.hs, C.hs, RS.slot, zipSlots, hN0])) (by simp [rtv])

theorem szMt_s (xss : List (List Int)) (hx : xss.length ≤ 9223372036854775807) (hr : ∀ x ∈ xss, x.length ≤ 9223372036854775807) :
    ACalls Try.prog 44 (tMt 0 xss.length :: [(1048576 : Int)].map tI) [] (nst false false 0 xss) (fun t H => t = tI (szR 1048576 xss) ∧ H = nst false false 0 xss) := by
  have hN : Nst false false (nst false false 0 xss) 0 xss := nst_pre [] xss
  have hl := nst_len false false 0 xss
  have hcl := nst_cl false false xss
  have hro := nst_ro (b := 0) (xss := xss)
  generalize nst false false 0 xss = G at *
  have hN0 : 0 < G.length := by omega
  have hn := lkn G (cR [cSl 0 xss.length])
  have hN' : Nst false false (G ++ [cR [cSl 0 xss.length]]) 0 xss := hN.ext (Ext.app _ _)
  have hc := szSS_s xss hx hr
  simp only [List.map_cons, List.map_nil] at hc ⊢
  refine afun (fun _ => none) [4] G.length Try.func44 rfl rfl mix (by kernel_rfl) (by kernel_rfl) (by simp [Try.f44]) rfl (⟨trivial, ownAll_ro hro⟩) ?_
  simp (dsimp := false) only [hn, go_sem, Nat.reduceAdd, Nat.reduceBEq, Nat.reduceEqDiff, Nat.reduceLT, Nat.reduceLeDiff, reduceCtorEq, ↓reduceIte]
  rcases szR_neg xss 1048576 (by omega) with h | ⟨h1, h2⟩
  · have hd : decide (szR 1048576 xss < 0) = true := decide_eq_true (by omega)
    repeat (refine And.intro (by first | exact True.intro | omega | kernel_rfl | (simp only [List.length_set, List.length_append, List.length_take, List.length_replicate, List.length_cons, true_and, and_true, List.length_nil, tabR_length]; omega)) ?_)
    refine ⟨_, (ACalls.liftSS [1048576] hN' (fun _ => rfl) hc).mono ?_⟩
    rintro _ G9 ⟨rfl, h9⟩
    have h9 := h9.symm
    subst h9
    simp (dsimp := false) only [hd, go_sem, Nat.reduceAdd, Nat.reduceBEq, Nat.reduceEqDiff, Nat.reduceLT, Nat.reduceLeDiff, reduceCtorEq, ↓reduceIte]
    refine afin (List.range G.length) [aI (-1)] G (by simp) rfl (wk_ext (Nat.le_refl _) hcl (Ext.app _ _) (by simp [slId, get_cons, get_nil, TV.hs, AV.hs, C.hs, RS.slot, zipSlots])) (by simp [rtv, h])
  · have hd : decide (szR 1048576 xss < 0) = false := decide_eq_false (by omega)
    repeat (refine And.intro (by first | exact True.intro | omega | kernel_rfl | (simp only [List.length_set, List.length_append, List.length_take, List.length_replicate, List.length_cons, true_and, and_true, List.length_nil, tabR_length]; omega)) ?_)
    refine ⟨_, (ACalls.liftSS [1048576] hN' (fun _ => rfl) hc).mono ?_⟩
    rintro _ G9 ⟨rfl, h9⟩
    have h9 := h9.symm
    subst h9
    simp (dsimp := false) only [hd, go_sem, Nat.reduceAdd, Nat.reduceBEq, Nat.reduceEqDiff, Nat.reduceLT, Nat.reduceLeDiff, reduceCtorEq, ↓reduceIte]
    refine afin (List.range G.length) [aI (szR 1048576 xss)] G (by simp) rfl (wk_ext (Nat.le_refl _) hcl (Ext.app _ _) (by simp [slId, get_cons, get_nil, TV.hs, AV.hs, C.hs, RS.slot, zipSlots])) (by simp [rtv])
end Go.Proofs.Ytpoappgfmjnioaa
