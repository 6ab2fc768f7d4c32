/- Contracts: patience piles in the program. -/
import Derived.Test.YtpoappgfmjnioaaPatS
set_option linter.unusedSimpArgs false
set_option linter.unusedVariables false
set_option linter.unusedSectionVars false
set_option linter.unnecessarySimpa false
namespace Go.Proofs.Ytpoappgfmjnioaa
open Go Go.Ax
set_option maxRecDepth 10000
set_option maxHeartbeats 1000000

abbrev bxI (o : Bool) (x : Int) : Row := .r o (.cells 1 [.v (.int .i64 x)])

theorem patC_s (p : List Int) (x : Int) (hp : 0 < p.length) (hpl : p.length ≤ 281474976710656) :
    ACalls Try.prog 68 [tS 0 p.length, .a (.c (.ptr 1 0 0))] [] [rI p, bxI false x] (fun t H => t = tB (decide (x ≤ lasI p)) ∧ H = [rI p, bxI false x]) := by
  refine afun (fun i => match i with | 1 => some ⟨[], .op 0 .held (.op 1 .held (.op 2 .held (.op 3 .held (.op 4 .held (.op 5 .now (.op 6 .now (.op 7 .held (.op 8 .held .nil))))))))⟩ | _ => none) [3] 2 Try.func68 rfl rfl mix (by kernel_rfl) (by kernel_rfl) (by simp [Try.f68]) rfl (by simp [msOwn, ownAll, Row.own]) ?_
  simp (dsimp := false) only [go_sem, Nat.reduceAdd, Nat.reduceBEq, Nat.reduceEqDiff, Nat.reduceLT, Nat.reduceLeDiff, reduceCtorEq, ↓reduceIte]
  repeat (refine And.intro (by first | exact True.intro | omega | kernel_rfl | (simp only [List.length_set, List.length_append, List.length_take, List.length_replicate, List.length_cons, true_and, and_true, List.length_nil, tabR_length]; omega)) ?_)
  have e : lasI p = p.getD (p.length - 1) 0 := by unfold lasI; congr 1; omega
  refine afin [0, 1] [aB (decide (x ≤ lasI p))] [rI p, bxI false x] (by simp) rfl (weak_of (by decide) (by simp [RS.slot, List.map_cons, List.map_nil, rowsLe, rowLe, slotsLe, tvLe, TV.ren, AV.ren, C.ren, Dat.ren, Row.ren, TV.hs, AV.hs, C.hs, Dat.hs, get_cons, get_nil, zipSlots, List.getD_cons_zero, List.getD_cons_succ, List.getD_nil, -List.getD_eq_getElem?_getD, e])) (by simp [rtv, e, -List.getD_eq_getElem?_getD])
theorem patC_g {G : Hp} {a b : Nat} {o o' : Bool} {p : List Int} {x : Int} (hA : G[a]? = some (rwI o p)) (hB : G[b]? = some (bxI o' x)) (hab : a ≠ b) (hp : 0 < p.length) (hpl : p.length ≤ 281474976710656) :
    ACalls Try.prog 68 [tS a p.length, .a (.c (.ptr b 0 0))] [] G (fun t G' => t = tB (decide (x ≤ lasI p)) ∧ G' = G) := by
  have hl : ACalls Try.prog 68 [tS 0 p.length, .a (.c (.ptr 1 0 0))] [] [rI p, bxI false x] (fun t H => t = tB (decide (x ≤ lasI p)) ∧ H = [rI p, bxI false x] ++ []) := patC_s p x hp hpl
  refine (ACalls.liftN hl [a, b] (by simp [Row.own]) (by simp [Row.own]) (by simp [hab]) rfl ?_ (by simp [TV.ren, AV.ren, C.ren]) (by simp [TV.hs, AV.hs, C.hs])).mono ?_
  · intro i h' row h1 h2
    match i, h1, h2 with
    | 0, h1, h2 =>
      simp at h1 h2; subst h1; subst h2
      rw [hA]; exact ⟨getlt hA, rowLe_rw⟩
    | 1, h1, h2 =>
      simp at h1 h2; subst h1; subst h2
      rw [hB]; exact ⟨getlt hB, by simp, by simp [Dat.ren, C.ren], by simp [Dat.hs, C.hs]⟩
  · rintro t G' ⟨rfl, rfl⟩
    simp [TV.ren, AV.ren, C.ren]

/-- What the library's search returns. -/
def pilX (x : Int) (ps : List (List Int)) : Int := if pilK x ps < ps.length then (pilK x ps : Int) else -1

theorem patIx_s (ps : List (List Int)) (x : Int) (hne : ∀ p ∈ ps, p ≠ []) (hx : ps.length ≤ 281474976710656) (hr : ∀ p ∈ ps, p.length ≤ 281474976710656) :
    ACalls Try.prog 67 [tSS 0 ps.length, .a (.c (.fn 68 [(ps.length + 1, 0, 0)]))] [] (nst false false 0 ps ++ [bxI false x])
      (fun t H => t = tI (pilX x ps) ∧ H = nst false false 0 ps ++ [bxI false x]) := by
  have hl : (nst false false 0 ps ++ [bxI false x]).length = ps.length + 2 := by rw [List.length_append, nst_len]; rfl
  have g0 : (nst false false 0 ps ++ [bxI false x])[0]? = some (.r false (.cells 1 (nsC 1 ps))) := rfl
  have gb : (nst false false 0 ps ++ [bxI false x])[ps.length + 1]? = some (bxI false x) := by
    have := lkn (nst false false 0 ps) (bxI false x)
    rwa [nst_len] at this
  have hA : ∀ i p, ps[i]? = some p → (nst false false 0 ps ++ [bxI false x])[1 + i]? = some (rI p) := fun i p h => by
    refine lkp ?_
    rw [Nat.add_comm 1 i, nst, List.getElem?_cons_succ, List.getElem?_map, h]; rfl
  have hro : ∀ r ∈ (nst false false 0 ps ++ [bxI false x]), r.own = false := by
    intro r hr
    rcases List.mem_append.1 hr with h | h
    · exact nst_ro r h
    · simp at h; subst h; rfl
  have hcl : Cl (nst false false 0 ps ++ [bxI false x]) := by
    intro r hr h hh
    rcases List.mem_append.1 hr with h1 | h1
    · have := nst_cl false false ps r h1 h hh
      rw [List.length_append]; omega
    · simp at h1; subst h1; simp [Row.hs, Dat.hs, C.hs] at hh
  generalize (nst false false 0 ps ++ [bxI false x]) = G at *
  have hN0 : 0 < G.length := by omega
  have hN1 : ps.length + 1 < G.length := by omega
  refine afun (fun _ => none) [4] G.length Try.func67 rfl rfl mix (by kernel_rfl) (by kernel_rfl) (by simp [Try.f67]) rfl (⟨trivial, ownAll_ro hro⟩) ?_
  simp (dsimp := false) only [go_sem, Nat.reduceAdd, Nat.reduceBEq, Nat.reduceEqDiff, Nat.reduceLT, Nat.reduceLeDiff, reduceCtorEq, ↓reduceIte]
  refine aloop (σ := Nat) (fun k => ([(0, tSS 0 ps.length), (1, .a (.c (.fn 68 [(ps.length + 1, 0, 0)]))), (7, tI ps.length), (8, tI k)], G)) (fun k => k ≤ ps.length ∧ ∀ j q, j < k → ps[j]? = some q → lasI q < x) (fun k => ps.length - k) 0 (List.range G.length) ⟨by omega, fun j q h => by omega⟩ (wk_id (by omega) hcl (by simp [slId, get_cons, get_nil, TV.hs, AV.hs, C.hs, RS.slot, zipSlots, hN0, hN1])) ?_
  rintro k ⟨hk, hq⟩
  by_cases hkl : k < ps.length
  · have hcd : decide ((k : Int) < (ps.length : Int)) = true := decide_eq_true (by omega)
    obtain ⟨p, hp⟩ : ∃ p, ps[k]? = some p := ⟨_, List.getElem?_eq_getElem hkl⟩
    have hm := List.mem_of_getElem? hp
    have hpn : 0 < p.length := List.length_pos_iff.2 (hne p hm)
    have c0 := nsC_at (b := 1) hp
    simp (dsimp := false) only [hcd, g0, c0, Int.toNat_natCast, go_sem, Nat.reduceAdd, Nat.reduceBEq, Nat.reduceEqDiff, Nat.reduceLT, Nat.reduceLeDiff, reduceCtorEq, ↓reduceIte]
    repeat (refine And.intro (by first | exact True.intro | omega | kernel_rfl | (simp only [List.length_set, List.length_append, List.length_take, List.length_replicate, List.length_cons, true_and, and_true, List.length_nil, tabR_length]; omega)) ?_)
    refine ⟨_, (patC_g (hA k p hp) gb (by omega) hpn (hr p hm)).mono ?_⟩
    rintro _ G9 ⟨rfl, h9⟩
    have h9 := h9.symm
    subst h9
    simp (dsimp := false) only [hcd, go_sem, Nat.reduceAdd, Nat.reduceBEq, Nat.reduceEqDiff, Nat.reduceLT, Nat.reduceLeDiff, reduceCtorEq, ↓reduceIte]
    refine ⟨fun h => ?_, fun h => ?_⟩
    · have h1 : ¬ lasI p < x := by have := of_decide_eq_true h; omega
      have hK := pilK_eq hq hp h1
      have e : pilX x ps = (k : Int) := by rw [pilX, hK, if_pos hkl]
      repeat (refine And.intro (by first | exact True.intro | omega | kernel_rfl | (simp only [List.length_set, List.length_append, List.length_take, List.length_replicate, List.length_cons, true_and, and_true, List.length_nil, tabR_length]; omega)) ?_)
      refine afin (List.range G.length) [aI k] G (by simp) rfl (wk_id (by omega) hcl (by simp [slId, get_cons, get_nil, TV.hs, AV.hs, C.hs, RS.slot, zipSlots, hN0, hN1])) (by simp [rtv, e])
    · have h1 : lasI p < x := by have := of_decide_eq_false h; omega
      repeat (refine And.intro (by first | exact True.intro | omega | kernel_rfl | (simp only [List.length_set, List.length_append, List.length_take, List.length_replicate, List.length_cons, true_and, and_true, List.length_nil, tabR_length]; omega)) ?_)
      refine ⟨k + 1, List.range G.length, ⟨⟨by omega, fun j q hj hjq => ?_⟩, by omega⟩, wk_id (by omega) hcl (by simp [slId, get_cons, get_nil, TV.hs, AV.hs, C.hs, RS.slot, zipSlots, hN0, hN1])⟩
      by_cases e : j = k
      · subst e; rw [hp] at hjq; cases hjq; exact h1
      · exact hq j q (by omega) hjq
  · have hke : k = ps.length := by omega
    subst hke
    have hcd : decide ((ps.length : Int) < (ps.length : Int)) = false := decide_eq_false (by omega)
    have hK := pilK_end hq
    have e : pilX x ps = -1 := by rw [pilX, hK, if_neg (by omega)]
    simp (dsimp := false) only [hcd, go_sem, Nat.reduceAdd, Nat.reduceBEq, Nat.reduceEqDiff, Nat.reduceLT, Nat.reduceLeDiff, reduceCtorEq, ↓reduceIte]
    refine afin (List.range G.length) [aI (-1)] G (by simp) rfl (wk_id (by omega) hcl (by simp [slId, get_cons, get_nil, TV.hs, AV.hs, C.hs, RS.slot, zipSlots, hN0, hN1])) (by simp [rtv, e])

theorem patIx_g {G : Hp} {c b : Nat} {o o' ob : Bool} {ps : List (List Int)} {x : Int} (hN : Nst o o' G c ps) (hB : G[b]? = some (bxI ob x)) (hb : b = c + ps.length + 1) (hne : ∀ p ∈ ps, p ≠ []) (hx : ps.length ≤ 281474976710656) (hr : ∀ p ∈ ps, p.length ≤ 281474976710656) :
    ACalls Try.prog 67 [tSS c ps.length, .a (.c (.fn 68 [(b, 0, 0)]))] [] G (fun t G' => t = tI (pilX x ps) ∧ G' = G) := by
  subst hb
  have hl : ACalls Try.prog 67 [tSS 0 ps.length, .a (.c (.fn 68 [(ps.length + 1, 0, 0)]))] [] (nst false false 0 ps ++ [bxI false x])
      (fun t H => t = tI (pilX x ps) ∧ H = (nst false false 0 ps ++ [bxI false x]) ++ []) := by simpa using patIx_s ps x hne hx hr
  refine (ACalls.liftN hl (List.range' c (ps.length + 2)) ?_ (by simp) List.nodup_range' (by simp [nst_len]) ?_ ?_ ?_).mono ?_
  · intro r hr
    rcases List.mem_append.1 hr with h | h
    · exact nst_ro r h
    · simp at h; subst h; rfl
  · intro i h row h1 h2
    rcases Nat.lt_or_ge i (ps.length + 1) with hi | hi
    · rw [List.getElem?_append_left (by rw [nst_len]; exact hi)] at h2
      exact nst_rowsN (by simp) (by simp) hN (by omega) i h row h1 h2
    · have hi2 := getlt h2
      rw [List.length_append, nst_len] at hi2
      have : i = ps.length + 1 := by simp at hi2; omega
      subst this
      have h3 := lkn (nst false false 0 ps) (bxI false x)
      rw [nst_len, h2] at h3
      cases h3
      rw [List.getElem?_range' (by omega)] at h1
      have e : h = c + ps.length + 1 := by simp at h1; omega
      subst e
      rw [hB]
      exact ⟨getlt hB, by simp, by simp [Dat.ren, C.ren], by simp [Dat.hs, C.hs]⟩
  · simp only [List.map_cons, List.map_nil, TV.ren, AV.ren, C.ren]
    rw [range'_getD (by omega), range'_getD (by omega)]; rfl
  · intro t ht h hh
    simp only [List.mem_cons, List.not_mem_nil, or_false] at ht
    rcases ht with rfl | rfl <;> simp [TV.hs, AV.hs, C.hs] at hh <;> simp <;> omega
  · rintro t G' ⟨rfl, rfl⟩
    exact ⟨rfl, by simp⟩

theorem iPat_t (xs : List Int) (hx : xs.length ≤ 281474976710656) (hv : validB xs = true) : ACalls Try.prog 33 [tS 0 xs.length] [] [rI xs]
    (fun t H => t = .tup [aSS 1 (pil xs xs.length).length, aB true] ∧ H = rI xs :: nst true true 1 (pil xs xs.length)) := by
  have h64 := validB_len hv
  refine afun (fun i => match i with | 10 => some ⟨[], .free (.op 0 .held (.op 1 .held (.op 2 .held (.op 3 .held (.op 4 .held (.op 6 .held (.two 5 7 (.op 7 .only (.op 8 .only (.op 9 .held (.op 10 .only .nil)))) (.op 5 .only (.op 8 .only (.op 9 .held (.op 10 .only .nil)))))))))))⟩ | _ => none) [2, 3] 1 Try.func33 rfl rfl mix (by kernel_rfl) (by kernel_rfl) (by simp [Try.f33]) rfl (by simp [msOwn, ownAll, Row.own]) ?_
  simp (dsimp := false) only [go_sem, Nat.reduceAdd, Nat.reduceBEq, Nat.reduceEqDiff, Nat.reduceLT, Nat.reduceLeDiff, reduceCtorEq, ↓reduceIte]
  repeat (refine And.intro (by first | exact True.intro | omega | kernel_rfl | (simp only [List.length_set, List.length_append, List.length_take, List.length_replicate, List.length_cons, true_and, and_true, List.length_nil, tabR_length]; omega)) ?_)
  refine ⟨_, (isValidList_l xs hx).lift [0] (by decide) (by simp) (by simp [RS.slot, List.map_cons, List.map_nil, rowsLe, rowLe, slotsLe, tvLe, TV.ren, AV.ren, C.ren, Dat.ren, Row.ren, TV.hs, AV.hs, C.hs, Dat.hs, get_cons, get_nil, zipSlots, List.getD_cons_zero, List.getD_cons_succ, List.getD_nil, -List.getD_eq_getElem?_getD]) (by simp [RS.slot, List.map_cons, List.map_nil, rowsLe, rowLe, slotsLe, tvLe, TV.ren, AV.ren, C.ren, Dat.ren, Row.ren, TV.hs, AV.hs, C.hs, Dat.hs, get_cons, get_nil, zipSlots, List.getD_cons_zero, List.getD_cons_succ, List.getD_nil, -List.getD_eq_getElem?_getD]) (by simp [RS.slot, List.map_cons, List.map_nil, rowsLe, rowLe, slotsLe, tvLe, TV.ren, AV.ren, C.ren, Dat.ren, Row.ren, TV.hs, AV.hs, C.hs, Dat.hs, get_cons, get_nil, zipSlots, List.getD_cons_zero, List.getD_cons_succ, List.getD_nil, -List.getD_eq_getElem?_getD]) rfl ?_⟩
  rintro _ _ ⟨rfl, rfl⟩
  refine ⟨by simp [ownIn, Row.own], ?_⟩
  simp (dsimp := false) only [hv, liftT, liftH, putBack, freshR, ownIn, Row.own, Row.ren, TV.ren, AV.ren, C.ren, Dat.ren, List.drop_succ_cons, List.drop_nil, List.getD_cons_zero, List.getD_cons_succ, List.getD_nil, go_sem, Nat.reduceAdd, Nat.reduceBEq, Nat.reduceEqDiff, Nat.reduceLT, Nat.reduceLeDiff, reduceCtorEq, ↓reduceIte]
  repeat (refine And.intro (by first | exact True.intro | omega | kernel_rfl | (simp only [List.length_set, List.length_append, List.length_take, List.length_replicate, List.length_cons, true_and, and_true, List.length_nil, tabR_length]; omega)) ?_)
  refine aloop (σ := Nat) (fun i => ([(4, tSS 1 (pil xs i).length), (12, tS 0 xs.length), (13, tI xs.length), (14, tI i)], rI xs :: nst true true 1 (pil xs i))) (fun i => i ≤ xs.length) (fun i => xs.length - i) 0 ([0, 1]) (by omega) (weak_of (by decide) (by simp [RS.slot, List.map_cons, List.map_nil, rowsLe, rowLe, slotsLe, tvLe, TV.ren, AV.ren, C.ren, Dat.ren, Row.ren, TV.hs, AV.hs, C.hs, Dat.hs, get_cons, get_nil, zipSlots, List.getD_cons_zero, List.getD_cons_succ, List.getD_nil, -List.getD_eq_getElem?_getD, nst, nsC, pil])) ?_
  intro i hi
  have hne := pil_ne xs i
  have hpl := pil_len xs i
  have hpt := pil_tot xs i
  have hstep : pil xs (i + 1) = pilS (pil xs i) (xs.getD i 0) := rfl
  by_cases hc : i < xs.length
  · have hcd : decide ((i : Int) < (xs.length : Int)) = true := decide_eq_true (by omega)
    dsimp only
    have hN := pilc (xs := xs) (ps := pil xs i)
    have hl : (rI xs :: nst true true 1 (pil xs i)).length = (pil xs i).length + 2 := by rw [List.length_cons, nst_len]
    have g0 : (rI xs :: nst true true 1 (pil xs i))[0]? = some (rI xs) := rfl
    generalize hps : pil xs i = ps at *
    generalize hx0 : xs.getD i 0 = x at *
    generalize hG : (rI xs :: nst true true 1 ps) = G at *
    have g1 : G[1]? = some (.r true (.cells 1 (nsC 2 ps))) := hN.cells
    have gR : ∀ k q, ps[k]? = some q → G[2 + k]? = some (oI q) := fun k q h => hN.rows k q h
    have hz : ∀ z, (G ++ [bxI true z])[G.length]? = some (bxI true z) := fun z => lkn G _
    have hzs : (G ++ [bxI true 0]).set G.length (bxI true x) = G ++ [bxI true x] := by
      rw [List.set_append_right _ _ (Nat.le_refl _), Nat.sub_self]; rfl
    simp (dsimp := false) only [hcd, g0, hx0, hz, hzs, Int.toNat_natCast, go_sem, Nat.reduceAdd, Nat.reduceBEq, Nat.reduceEqDiff, Nat.reduceLT, Nat.reduceLeDiff, reduceCtorEq, ↓reduceIte]
    repeat (refine And.intro (by first | exact True.intro | omega | kernel_rfl | (simp only [List.length_set, List.length_append, List.length_take, List.length_replicate, List.length_cons, true_and, and_true, List.length_nil, tabR_length]; omega)) ?_)
    have g0' : (G ++ [bxI true x])[0]? = some (rI xs) := lkp g0
    have g1' : (G ++ [bxI true x])[1]? = some (.r true (.cells 1 (nsC 2 ps))) := lkp g1
    have gR' : ∀ k q, ps[k]? = some q → (G ++ [bxI true x])[2 + k]? = some (oI q) := fun k q h => lkp (gR k q h)
    have gb : (G ++ [bxI true x])[G.length]? = some (bxI true x) := lkn G _
    have hN' : Nst true true (G ++ [bxI true x]) 1 ps := hN.ext (Ext.app _ _)
    have hl' : (G ++ [bxI true x]).length = G.length + 1 := by simp
    generalize hG2 : G ++ [bxI true x] = G2 at *
    repeat (refine And.intro (by first | exact True.intro | omega | kernel_rfl | (simp only [List.length_set, List.length_append, List.length_take, List.length_replicate, List.length_cons, true_and, and_true, List.length_nil, tabR_length]; omega)) ?_)
    refine ⟨_, (patIx_g hN' gb (by omega) hne (by omega) (fun p hp => by have := tot_mem hp; omega)).mono ?_⟩
    rintro _ G9 ⟨rfl, h9⟩
    have h9 := h9.symm
    subst h9
    simp (dsimp := false) only [hcd, go_sem, Nat.reduceAdd, Nat.reduceBEq, Nat.reduceEqDiff, Nat.reduceLT, Nat.reduceLeDiff, reduceCtorEq, ↓reduceIte]
    by_cases hkl : pilK x ps < ps.length
    · have eX : pilX x ps = ((pilK x ps : Nat) : Int) := by rw [pilX, if_pos hkl]
      have hK : pilK x ps = pilK x ps := rfl
      generalize hk : pilK x ps = k at *
      have hd2 : decide ((k : Int) < 0) = false := decide_eq_false (by omega)
      obtain ⟨p, hp⟩ : ∃ p, ps[k]? = some p := ⟨_, List.getElem?_eq_getElem hkl⟩
      have hpb := tot_mem (List.mem_of_getElem? hp)
      have c0 := nsC_at (b := 2) hp
      have gp := gR' k p hp
      simp (dsimp := false) only [eX, hd2, go_sem, Nat.reduceAdd, Nat.reduceBEq, Nat.reduceEqDiff, Nat.reduceLT, Nat.reduceLeDiff, reduceCtorEq, ↓reduceIte]
      refine WX_at [1, 2 + k] ?_ ?_
      · simp [msOwn, g1', gp]
      have a0 : (G2 ++ [oI [x]])[1]? = some (.r true (.cells 1 (nsC 2 ps))) := lkp g1'
      have a1 : (G2 ++ [oI [x]])[2 + k]? = some (oI p) := lkp gp
      have a2 : (G2 ++ [oI [x]])[G2.length]? = some (oI [x]) := lkn G2 _
      have a3 : ((G2 ++ [oI [x]]).set (2 + k) Row.dead ++ [oI (p ++ [x])])[1]? = some (.r true (.cells 1 (nsC 2 ps))) := lkp (lks (lkp g1') (by omega))
      have hks : k < (nsC 2 ps).length := by rw [nsC_len]; exact hkl
      have s1 : SF [1, 2 + k] G2 (G2 ++ [oI [x]]) := (SF.refl _ G2).app _
      have s2 : SF [1, 2 + k] G2 ((G2 ++ [oI [x]]).set (2 + k) Row.dead ++ [oI (p ++ [x])]) := (s1.set _ (by simp)).app _
      have s3 : ∀ r, SF [1, 2 + k] G2 (((G2 ++ [oI [x]]).set (2 + k) Row.dead ++ [oI (p ++ [x])]).set 1 r) := fun r => s2.set _ (by simp)
      have s1' := s1.same
      have s2' := s2.same
      have s3' := fun r => (s3 r).same
      simp (dsimp := false) only [g0', g1', c0, gp, gb, Int.toNat_natCast, a0, a1, a2, a3, hks, s1', s2', s3', List.take_succ_cons, List.take_zero, List.length_append, List.length_set, go_sem, Nat.reduceAdd, Nat.reduceBEq, Nat.reduceEqDiff, Nat.reduceLT, Nat.reduceLeDiff, reduceCtorEq, ↓reduceIte]
      repeat (refine And.intro (by first | exact True.intro | omega | kernel_rfl | (simp only [List.length_set, List.length_append, List.length_take, List.length_replicate, List.length_cons, true_and, and_true, List.length_nil, tabR_length]; omega)) ?_)
      have e9 : pil xs (i + 1) = ps.set k (p ++ [x]) := by
        rw [hstep, pilS, hk, if_pos hkl]
        have : ps.getD k [] = p := by rw [List.getD_eq_getElem?_getD, hp]; rfl
        rw [this]
      have w0 : (((G2 ++ [oI [x]]).set (2 + k) Row.dead ++ [oI (p ++ [x])]).set 1 (cR ((nsC 2 ps).set k (cSl (G2.length + 1) (p.length + 1)))))[0]? = some (rI xs) := lks (lkp (lks (lkp g0') (by omega))) (by omega)
      have w1 : (((G2 ++ [oI [x]]).set (2 + k) Row.dead ++ [oI (p ++ [x])]).set 1 (cR ((nsC 2 ps).set k (cSl (G2.length + 1) (p.length + 1)))))[1]? = some (cR ((nsC 2 ps).set k (cSl (G2.length + 1) (p.length + 1)))) := List.getElem?_set_self (by simp)
      have w2 : (((G2 ++ [oI [x]]).set (2 + k) Row.dead ++ [oI (p ++ [x])]).set 1 (cR ((nsC 2 ps).set k (cSl (G2.length + 1) (p.length + 1)))))[G2.length + 1]? = some (oI (p ++ [x])) := by
        refine lks ?_ (by omega)
        have := lkn ((G2 ++ [oI [x]]).set (2 + k) Row.dead) (oI (p ++ [x]))
        simpa using this
      have w3 : ∀ (j : Nat) q, j ≠ k → ps[j]? = some q → (((G2 ++ [oI [x]]).set (2 + k) Row.dead ++ [oI (p ++ [x])]).set 1 (cR ((nsC 2 ps).set k (cSl (G2.length + 1) (p.length + 1)))))[2 + j]? = some (oI q) := fun j q hj hq' => lks (lkp (lks (lkp (gR' j q hq')) (by omega))) (by omega)
      refine And.intro ?_ ?_
      · repeat (refine And.intro (by first | exact True.intro | omega | kernel_rfl | (simp only [List.length_set, List.length_append, List.length_take, List.length_replicate, List.length_cons, true_and, and_true, List.length_nil, tabR_length]; omega)) ?_)
        refine ⟨i + 1, [0] ++ 1 :: (List.range' 2 ps.length).set k (G2.length + 1), ⟨by omega, by omega⟩, ?_⟩
        rw [e9]
        exact wk_grow rfl hp w0 w1 rfl w2 w3 (by omega) rfl (by simp [RS.slot, List.map_cons, List.map_nil, rowsLe, rowLe, slotsLe, tvLe, TV.ren, AV.ren, C.ren, Dat.ren, Row.ren, TV.hs, AV.hs, C.hs, Dat.hs, get_cons, get_nil, zipSlots, List.getD_cons_zero, List.getD_cons_succ, List.getD_nil, -List.getD_eq_getElem?_getD])
      · repeat (refine And.intro (by first | exact True.intro | omega | kernel_rfl | (simp only [List.length_set, List.length_append, List.length_take, List.length_replicate, List.length_cons, true_and, and_true, List.length_nil, tabR_length]; omega)) ?_)
        refine ⟨i + 1, [0] ++ 1 :: (List.range' 2 ps.length).set k (G2.length + 1), ⟨by omega, by omega⟩, ?_⟩
        rw [e9]
        exact wk_grow rfl hp w0 w1 rfl w2 w3 (by omega) rfl (by simp [RS.slot, List.map_cons, List.map_nil, rowsLe, rowLe, slotsLe, tvLe, TV.ren, AV.ren, C.ren, Dat.ren, Row.ren, TV.hs, AV.hs, C.hs, Dat.hs, get_cons, get_nil, zipSlots, List.getD_cons_zero, List.getD_cons_succ, List.getD_nil, -List.getD_eq_getElem?_getD])
    · have eX : pilX x ps = -1 := by rw [pilX, if_neg hkl]
      have hone := nsC_one 2 ps
      have a1 : ((G2 ++ [oI [x]]) ++ [cR [cSl G2.length 1]])[1]? = some (cR (nsC 2 ps)) := lkp (lkp g1')
      have a2 : ((G2 ++ [oI [x]]) ++ [cR [cSl G2.length 1]])[G2.length + 1]? = some (cR [cSl G2.length 1]) := by
        have := lkn (G2 ++ [oI [x]]) (cR [cSl G2.length 1])
        simpa using this
      simp (dsimp := false) only [eX, show decide ((-1 : Int) < 0) = true from rfl, gb, g1', a1, a2, hone, nsC_len, List.take_succ_cons, List.take_zero, List.length_append, List.length_set, List.all_cons, List.all_nil, Bool.and_self, go_sem, Nat.reduceAdd, Nat.reduceBEq, Nat.reduceEqDiff, Nat.reduceLT, Nat.reduceLeDiff, reduceCtorEq, ↓reduceIte]
      repeat (refine And.intro (by first | exact True.intro | omega | kernel_rfl | (simp only [List.length_set, List.length_append, List.length_take, List.length_replicate, List.length_cons, true_and, and_true, List.length_nil, tabR_length]; omega)) ?_)
      have e9 : pil xs (i + 1) = ps ++ [[x]] := by rw [hstep, pilS, if_neg hkl]
      have w0 : (((G2 ++ [oI [x]]) ++ [cR [cSl G2.length 1]]).set 1 Row.dead ++ [cR (nsC 2 ps ++ [cSl G2.length 1])])[0]? = some (rI xs) := lkp (lks (lkp (lkp g0')) (by omega))
      have w1 : (((G2 ++ [oI [x]]) ++ [cR [cSl G2.length 1]]).set 1 Row.dead ++ [cR (nsC 2 ps ++ [cSl G2.length 1])])[G2.length + 1 + 1]? = some (cR (nsC 2 ps ++ [cSl G2.length 1])) := by
        have := lkn (((G2 ++ [oI [x]]) ++ [cR [cSl G2.length 1]]).set 1 Row.dead) (cR (nsC 2 ps ++ [cSl G2.length 1]))
        simpa using this
      have w2 : (((G2 ++ [oI [x]]) ++ [cR [cSl G2.length 1]]).set 1 Row.dead ++ [cR (nsC 2 ps ++ [cSl G2.length 1])])[G2.length]? = some (oI [x]) := lkp (lks (lkp (lkn G2 _)) (by omega))
      have w3 : ∀ (j : Nat) q, ps[j]? = some q → (((G2 ++ [oI [x]]) ++ [cR [cSl G2.length 1]]).set 1 Row.dead ++ [cR (nsC 2 ps ++ [cSl G2.length 1])])[2 + j]? = some (oI q) := fun j q hq' => lkp (lks (lkp (lkp (gR' j q hq'))) (by omega))
      refine ⟨i + 1, [0] ++ (G2.length + 1 + 1) :: (List.range' 2 ps.length ++ [G2.length]), ⟨by omega, by omega⟩, ?_⟩
      rw [e9]
      exact wk_new rfl w0 w1 rfl w2 w3 (by omega) (by omega) (by omega) (by simp [RS.slot, List.map_cons, List.map_nil, rowsLe, rowLe, slotsLe, tvLe, TV.ren, AV.ren, C.ren, Dat.ren, Row.ren, TV.hs, AV.hs, C.hs, Dat.hs, get_cons, get_nil, zipSlots, List.getD_cons_zero, List.getD_cons_succ, List.getD_nil, -List.getD_eq_getElem?_getD])
  · have hie : i = xs.length := by omega
    subst hie
    have hcd : decide ((xs.length : Int) < (xs.length : Int)) = false := decide_eq_false (by omega)
    simp (dsimp := false) only [hcd, go_sem, Nat.reduceAdd, Nat.reduceBEq, Nat.reduceEqDiff, Nat.reduceLT, Nat.reduceLeDiff, reduceCtorEq, ↓reduceIte]
    refine afin (List.range (rI xs :: nst true true 1 (pil xs xs.length)).length) [aSS 1 (pil xs xs.length).length, aB true] _ (by simp) rfl (wk_id (by simp) (pil_cl xs _) (by simp [slId, get_cons, get_nil, TV.hs, AV.hs, C.hs, RS.slot, zipSlots, nst_len])) ⟨by simp [rtv], rfl⟩

theorem sPat_f (xs : List Int) (hx : xs.length ≤ 281474976710656) (hv : validB xs = false) : ACalls Try.prog 32 [tS 0 xs.length] [] [rI xs] (fun t H => t = .tup [aN, aB false] ∧ H = [rI xs]) := by
  refine afun (fun i => match i with | 8 => some ⟨[], .op 0 .held (.op 1 .held (.op 2 .held (.op 3 .held (.op 4 .held (.op 5 .held (.op 6 .held (.op 7 .held (.op 8 .now (.op 9 .held (.op 10 .held (.op 11 .held (.op 12 .now (.op 13 .held (.op 14 .held (.op 15 .held (.op 16 .now (.op 17 .held (.op 18 .held (.op 19 .held (.op 20 .now (.op 21 .held (.op 22 .held .nil))))))))))))))))))))))⟩ | 12 => some ⟨[], .op 0 .held (.op 1 .held (.op 2 .held (.op 3 .held (.op 4 .held (.op 6 .held (.op 7 .held (.op 8 .held (.op 9 .now (.op 5 .held (.op 10 .only (.op 11 .only (.op 12 .held (.op 13 .only .nil)))))))))))))⟩ | _ => none) [2, 3] 1 Try.func32 rfl rfl mix (by kernel_rfl) (by kernel_rfl) (by simp [Try.f32]) rfl (by simp [msOwn, ownAll, Row.own]) ?_
  simp (dsimp := false) only [go_sem, Nat.reduceAdd, Nat.reduceBEq, Nat.reduceEqDiff, Nat.reduceLT, Nat.reduceLeDiff, reduceCtorEq, ↓reduceIte]
  repeat (refine And.intro (by first | exact True.intro | omega | kernel_rfl | (simp only [List.length_set, List.length_append, List.length_take, List.length_replicate, List.length_cons, true_and, and_true, List.length_nil, tabR_length]; omega)) ?_)
  refine ⟨_, (l2List_l xs hx).lift [0] (by decide) (by simp) (by simp [RS.slot, List.map_cons, List.map_nil, rowsLe, rowLe, slotsLe, tvLe, TV.ren, AV.ren, C.ren, Dat.ren, Row.ren, TV.hs, AV.hs, C.hs, Dat.hs, get_cons, get_nil, zipSlots, List.getD_cons_zero, List.getD_cons_succ, List.getD_nil, -List.getD_eq_getElem?_getD]) (by simp [RS.slot, List.map_cons, List.map_nil, rowsLe, rowLe, slotsLe, tvLe, TV.ren, AV.ren, C.ren, Dat.ren, Row.ren, TV.hs, AV.hs, C.hs, Dat.hs, get_cons, get_nil, zipSlots, List.getD_cons_zero, List.getD_cons_succ, List.getD_nil, -List.getD_eq_getElem?_getD]) (by simp [RS.slot, List.map_cons, List.map_nil, rowsLe, rowLe, slotsLe, tvLe, TV.ren, AV.ren, C.ren, Dat.ren, Row.ren, TV.hs, AV.hs, C.hs, Dat.hs, get_cons, get_nil, zipSlots, List.getD_cons_zero, List.getD_cons_succ, List.getD_nil, -List.getD_eq_getElem?_getD]) rfl ?_⟩
  rintro _ _ ⟨rfl, rfl⟩
  refine ⟨by simp [ownIn, Row.own], ?_⟩
  simp (dsimp := false) only [hv, liftT, liftH, putBack, freshR, ownIn, Row.own, Row.ren, TV.ren, AV.ren, C.ren, Dat.ren, List.drop_succ_cons, List.drop_nil, List.getD_cons_zero, List.getD_cons_succ, List.getD_nil, go_sem, Nat.reduceAdd, Nat.reduceBEq, Nat.reduceEqDiff, Nat.reduceLT, Nat.reduceLeDiff, reduceCtorEq, ↓reduceIte]
  refine afin [0] [aN, aB false] [rI xs] (by simp) rfl (weak_of (by decide) (by simp [RS.slot, List.map_cons, List.map_nil, rowsLe, rowLe, slotsLe, tvLe, TV.ren, AV.ren, C.ren, Dat.ren, Row.ren, TV.hs, AV.hs, C.hs, Dat.hs, get_cons, get_nil, zipSlots, List.getD_cons_zero, List.getD_cons_succ, List.getD_nil, -List.getD_eq_getElem?_getD])) (by simp [rtv])
theorem iPat_f (xs : List Int) (hx : xs.length ≤ 281474976710656) (hv : validB xs = false) : ACalls Try.prog 33 [tS 0 xs.length] [] [rI xs] (fun t H => t = .tup [aN, aB false] ∧ H = [rI xs]) := by
  refine afun (fun i => match i with | 10 => some ⟨[], .op 0 .held (.op 1 .held (.op 2 .held (.op 3 .held (.op 4 .held (.op 6 .now (.op 5 .held (.op 7 .only (.op 8 .only (.op 9 .held (.op 10 .only .nil))))))))))⟩ | _ => none) [2, 3] 1 Try.func33 rfl rfl mix (by kernel_rfl) (by kernel_rfl) (by simp [Try.f33]) rfl (by simp [msOwn, ownAll, Row.own]) ?_
  simp (dsimp := false) only [go_sem, Nat.reduceAdd, Nat.reduceBEq, Nat.reduceEqDiff, Nat.reduceLT, Nat.reduceLeDiff, reduceCtorEq, ↓reduceIte]
  repeat (refine And.intro (by first | exact True.intro | omega | kernel_rfl | (simp only [List.length_set, List.length_append, List.length_take, List.length_replicate, List.length_cons, true_and, and_true, List.length_nil, tabR_length]; omega)) ?_)
  refine ⟨_, (isValidList_l xs hx).lift [0] (by decide) (by simp) (by simp [RS.slot, List.map_cons, List.map_nil, rowsLe, rowLe, slotsLe, tvLe, TV.ren, AV.ren, C.ren, Dat.ren, Row.ren, TV.hs, AV.hs, C.hs, Dat.hs, get_cons, get_nil, zipSlots, List.getD_cons_zero, List.getD_cons_succ, List.getD_nil, -List.getD_eq_getElem?_getD]) (by simp [RS.slot, List.map_cons, List.map_nil, rowsLe, rowLe, slotsLe, tvLe, TV.ren, AV.ren, C.ren, Dat.ren, Row.ren, TV.hs, AV.hs, C.hs, Dat.hs, get_cons, get_nil, zipSlots, List.getD_cons_zero, List.getD_cons_succ, List.getD_nil, -List.getD_eq_getElem?_getD]) (by simp [RS.slot, List.map_cons, List.map_nil, rowsLe, rowLe, slotsLe, tvLe, TV.ren, AV.ren, C.ren, Dat.ren, Row.ren, TV.hs, AV.hs, C.hs, Dat.hs, get_cons, get_nil, zipSlots, List.getD_cons_zero, List.getD_cons_succ, List.getD_nil, -List.getD_eq_getElem?_getD]) rfl ?_⟩
  rintro _ _ ⟨rfl, rfl⟩
  refine ⟨by simp [ownIn, Row.own], ?_⟩
  simp (dsimp := false) only [hv, liftT, liftH, putBack, freshR, ownIn, Row.own, Row.ren, TV.ren, AV.ren, C.ren, Dat.ren, List.drop_succ_cons, List.drop_nil, List.getD_cons_zero, List.getD_cons_succ, List.getD_nil, go_sem, Nat.reduceAdd, Nat.reduceBEq, Nat.reduceEqDiff, Nat.reduceLT, Nat.reduceLeDiff, reduceCtorEq, ↓reduceIte]
  refine afin [0] [aN, aB false] [rI xs] (by simp) rfl (weak_of (by decide) (by simp [RS.slot, List.map_cons, List.map_nil, rowsLe, rowLe, slotsLe, tvLe, TV.ren, AV.ren, C.ren, Dat.ren, Row.ren, TV.hs, AV.hs, C.hs, Dat.hs, get_cons, get_nil, zipSlots, List.getD_cons_zero, List.getD_cons_succ, List.getD_nil, -List.getD_eq_getElem?_getD])) (by simp [rtv])
end Go.Proofs.Ytpoappgfmjnioaa
