/- Contracts: the flag pass, in the reference and in the program. -/
import Derived.Test.YtpoappgfmjnioaaPlFlag
import Derived.Test.YtpoappgfmjnioaaVal
set_option linter.unusedSimpArgs false
set_option linter.unusedVariables false
set_option linter.unusedSectionVars false
namespace Go.Proofs.Ytpoappgfmjnioaa
open Go Go.Ax
set_option maxRecDepth 10000
set_option maxHeartbeats 1000000

def flOk (xs : List Int) (base place : Int) : Bool := validB xs && (inB base 2 256 && inB place 0 17)
theorem flOk_t {xs : List Int} {base place : Int} (h : flOk xs base place = true) : validB xs = true ∧ (inB base 2 256 && inB place 0 17) = true ∧ inB base 2 256 = true ∧ inB place 0 17 = true ∧ ∃ B : Nat, base = (B : Int) ∧ 2 ≤ B ∧ B ≤ 256 := by
  simp only [flOk, Bool.and_eq_true] at h
  have h2 := h.2.1
  simp only [inB, Bool.and_eq_true, decide_eq_true_eq] at h2
  exact ⟨h.1, by simp [h.2], h.2.1, h.2.2, base.toNat, by omega, by omega, by omega⟩
/-- The digit as a number. -/
def dgN (base place : Int) (x : Int) : Nat := (digitF x base place).toNat
theorem digitF_bd' {key base place : Int} (hk : inB key (-100000) 100000 = true) (hb : inB base 2 256 = true) : 0 ≤ digitF key base place ∧ digitF key base place < base := by
  simp only [inB, Bool.and_eq_true, decide_eq_true_eq] at hk hb
  have hd := (divs_bd (key + 100000) base (by omega) (by omega) (by omega) place.toNat).1
  unfold digitF
  rw [Int.tmod_eq_emod_of_nonneg hd]
  exact ⟨Int.emod_nonneg _ (by omega), Int.emod_lt_of_pos _ (by omega)⟩
theorem validB_mem {xs : List Int} (h : validB xs = true) {x : Int} (hx : x ∈ xs) : inB x (-100000) 100000 = true := by
  simp only [validB, Bool.and_eq_true, List.all_eq_true] at h
  exact h.2 x hx
theorem dgN_eq {B : Nat} {place x : Int} (hk : inB x (-100000) 100000 = true) (hb : inB (B : Int) 2 256 = true) : digitF x (B : Int) place = (dgN (B : Int) place x : Int) ∧ dgN (B : Int) place x < B := by
  have := digitF_bd' (place := place) hk hb
  unfold dgN
  omega

/-- The state of the pass. -/
structure FJ (dg : Int → Nat) (B : Nat) (xs : List Int) (f b : Nat) (zs nx : List Int) (pl : Nat → Nat) (sw : Nat) : Prop where
  fi : FI dg B xs zs nx pl
  run : fRun dg B (fun d => C0 dg xs (d + 1)) f b zs pl sw = flagF dg B xs
  fu : (B - b) + (xs.length - plN dg xs pl B) ≤ f
  sw : sw ≤ plN dg xs pl B
  bB : b ≤ B
theorem FJ.start {dg : Int → Nat} {B : Nat} {xs nx : List Int} (hn : B ≤ nx.length) (hv : ∀ d, d < B → nx.getD d 0 = (C0 dg xs d : Int)) : FJ dg B xs (B + xs.length) 0 xs nx (C0 dg xs) 0 :=
  ⟨FI.start dg B xs nx hn hv, rfl, by omega, by omega, by omega⟩
theorem FJ.sw_le {dg : Int → Nat} {B : Nat} {xs zs nx : List Int} {f b : Nat} {pl : Nat → Nat} {sw : Nat} (h : FJ dg B xs f b zs nx pl sw) : sw ≤ xs.length := by
  have h1 := plN_le h.fi B (Nat.le_refl _)
  have h2 := C0_le dg xs B
  have := h.sw
  omega
theorem FJ.done {dg : Int → Nat} {B : Nat} {xs zs nx : List Int} {f b : Nat} {pl : Nat → Nat} {sw : Nat} (h : FJ dg B xs f b zs nx pl sw) (hb : ¬ b < B) : flagF dg B xs = (zs, sw) := by
  rw [← h.run]
  cases f with
  | zero => rfl
  | succ f => rw [fRun, if_neg hb]
theorem FJ.out {dg : Int → Nat} {B : Nat} {xs zs nx : List Int} {f b : Nat} {pl : Nat → Nat} {sw : Nat} (h : FJ dg B xs f b zs nx pl sw) (hb : b < B) (hn : ¬ pl b < C0 dg xs (b + 1)) : ∃ g, f = g + 1 ∧ FJ dg B xs g (b + 1) zs nx pl sw := by
  have h1 := h.fu
  refine ⟨f - 1, by omega, h.fi, ?_, by omega, h.sw, by omega⟩
  have h2 := h.run
  rw [show f = (f - 1) + 1 by omega, fRun, if_pos hb, if_neg hn] at h2
  exact h2
theorem FJ.step {dg : Int → Nat} {B : Nat} {xs zs nx : List Int} {f b : Nat} {pl : Nat → Nat} {sw : Nat} (h : FJ dg B xs f b zs nx pl sw) (hB : ∀ x ∈ xs, dg x < B) (hb : b < B) (hn : pl b < C0 dg xs (b + 1)) :
    ∃ g, f = g + 1 ∧ FJ dg B xs g b (fStep dg b zs pl).1 (nx.set (dg (zs.getD (pl b) 0)) (nx.getD (dg (zs.getD (pl b) 0)) 0 + 1)) (fStep dg b zs pl).2.1 (sw + (fStep dg b zs pl).2.2) := by
  have h1 := h.fu
  obtain ⟨k1, k2, k3⟩ := h.fi.step hB hb hn
  have h5 := plN_le k1 B (Nat.le_refl _)
  have h6 := C0_le dg xs B
  have h7 := h.sw
  refine ⟨f - 1, by omega, k1, ?_, by omega, by omega, by omega⟩
  have h2 := h.run
  rw [show f = (f - 1) + 1 by omega, fRun, if_pos hb, if_pos hn] at h2
  exact h2

/-! ### Lists of values -/
theorem tabR_congr {f g : Nat → Int} {n : Nat} (h : ∀ q, q < n → f q = g q) : tabR f n = tabR g n := by
  unfold tabR
  apply List.map_congr_left
  intro q hq
  exact h q (by simpa using hq)
theorem tabR_set (f : Nat → Int) (n i : Nat) (v : Int) : (tabR f n).set i v = tabR (fun q => if q = i then v else f q) n := by
  apply List.ext_getElem?
  intro q
  rw [List.getElem?_set]
  unfold tabR
  simp only [List.length_map, List.length_range, List.getElem?_map, List.getElem?_range]
  by_cases hq : q < n
  · by_cases e : i = q
    · subst e; simp [hq]
    · rw [if_neg e]; simp [hq, Ne.symm e]
  · by_cases e : i = q
    · subst e; simp [hq]
    · rw [if_neg e]; simp [hq]
theorem tabR_eq {xs : List Int} {f : Nat → Int} (h : ∀ q, q < xs.length → xs.getD q 0 = f q) : xs = tabR f xs.length := by
  apply List.ext_getElem (by rw [tabR_length])
  intro q h1 h2
  have := h q h1
  simp only [List.getD_eq_getElem?_getD, List.getElem?_eq_getElem h1, Option.getD_some] at this
  rw [this]; simp [tabR]
theorem swp_commF (zs : List Int) {a b : Nat} (ha : a < zs.length) (hb : b < zs.length) : swp zs a b = swp zs b a := by
  apply List.ext_getElem (by rw [swp_len, swp_len])
  intro q h1 h2
  have e1 := swp_get' zs ha hb q
  have e2 := swp_get' zs hb ha q
  have : (swp zs a b).getD q 0 = (swp zs b a).getD q 0 := by
    rw [e1, e2]
    by_cases c1 : q = b
    · by_cases c2 : q = a
      · rw [if_pos c1, if_pos c2, ← c1, ← c2]
      · rw [if_pos c1, if_neg c2, if_pos c1]
    · by_cases c2 : q = a
      · rw [if_neg c1, if_pos c2, if_pos c2]
      · rw [if_neg c1, if_neg c2, if_neg c2, if_neg c1]
  simpa [List.getD_eq_getElem?_getD, h1, h2] using this
theorem replicate_tab (n : Nat) : List.replicate n (0 : Int) = tabR (fun _ => 0) n := by
  apply List.ext_getElem?
  intro q
  unfold tabR
  simp only [List.getElem?_replicate, List.getElem?_map, List.getElem?_range]
  by_cases h : q < n <;> simp [h]

theorem sFlagPass_f (xs : List Int) (base place : Int) (hx : xs.length ≤ 281474976710656) (h : flOk xs base place = false) : ACalls Try.prog 14 [tS 0 xs.length, tI base, tI place] [] [rI xs] (fun t H => t = .tup [aN, aI 0, aB false] ∧ H = [rI xs]) := by
  refine afun (fun i => match i with | 12 => some ⟨[1], .op 0 .held (.op 1 .held (.op 2 .held (.op 3 .held (.op 4 .held (.op 5 .held (.op 6 .held (.op 7 .now (.op 8 .held (.op 9 .held (.op 10 .held (.op 11 .now (.op 12 .held (.op 13 .held (.op 14 .only .nil))))))))))))))⟩ | 18 => some ⟨[], .op 0 .held (.op 1 .held (.op 2 .held (.op 3 .now (.op 4 .held (.op 5 .held (.op 6 .held (.op 7 .now (.op 8 .held .nil))))))))⟩ | 22 => some ⟨[1], .op 0 .held (.op 1 .held (.op 2 .held (.op 3 .held (.op 4 .now (.op 5 .held (.op 6 .held (.op 7 .held (.op 8 .held (.op 9 .now (.op 10 .held (.op 11 .now (.op 12 .held (.op 13 .only .nil)))))))))))))⟩ | _ => none) [6, 7, 8] 1 Try.func14 rfl rfl mix (by kernel_rfl) (by kernel_rfl) (by simp [Try.f14]) rfl (by simp [msOwn, ownAll, Row.own]) ?_
  simp (dsimp := false) only [go_sem, Nat.reduceAdd, Nat.reduceBEq, Nat.reduceEqDiff, Nat.reduceLT, Nat.reduceLeDiff, reduceCtorEq, ↓reduceIte]
  repeat (refine And.intro (by first | exact True.intro | omega | kernel_rfl | (simp only [List.length_set, List.length_append, List.length_take, List.length_replicate, List.length_cons, true_and, and_true, List.length_nil, tabR_length]; omega)) ?_)
  refine ⟨_, (l2List_l xs hx).lift [0] (by decide) (by simp) (by simp [RS.slot, List.map_cons, List.map_nil, rowsLe, rowLe, slotsLe, tvLe, TV.ren, AV.ren, C.ren, Dat.ren, Row.ren, TV.hs, AV.hs, C.hs, Dat.hs, get_cons, get_nil, zipSlots, List.getD_cons_zero, List.getD_cons_succ, List.getD_nil, -List.getD_eq_getElem?_getD]) (by simp [RS.slot, List.map_cons, List.map_nil, rowsLe, rowLe, slotsLe, tvLe, TV.ren, AV.ren, C.ren, Dat.ren, Row.ren, TV.hs, AV.hs, C.hs, Dat.hs, get_cons, get_nil, zipSlots, List.getD_cons_zero, List.getD_cons_succ, List.getD_nil, -List.getD_eq_getElem?_getD]) (by simp [RS.slot, List.map_cons, List.map_nil, rowsLe, rowLe, slotsLe, tvLe, TV.ren, AV.ren, C.ren, Dat.ren, Row.ren, TV.hs, AV.hs, C.hs, Dat.hs, get_cons, get_nil, zipSlots, List.getD_cons_zero, List.getD_cons_succ, List.getD_nil, -List.getD_eq_getElem?_getD]) rfl ?_⟩
  rintro _ _ ⟨rfl, rfl⟩
  refine ⟨by simp [ownIn, Row.own], ?_⟩
  simp (dsimp := false) only [liftT, liftH, putBack, freshR, ownIn, Row.own, Row.ren, TV.ren, AV.ren, C.ren, Dat.ren, List.drop_succ_cons, List.drop_nil, List.getD_cons_zero, List.getD_cons_succ, List.getD_nil, go_sem, Nat.reduceAdd, Nat.reduceBEq, Nat.reduceEqDiff, Nat.reduceLT, Nat.reduceLeDiff, reduceCtorEq, ↓reduceIte]
  cases hv : validB xs
  · simp (dsimp := false) only [go_sem, Nat.reduceAdd, Nat.reduceBEq, Nat.reduceEqDiff, Nat.reduceLT, Nat.reduceLeDiff, reduceCtorEq, ↓reduceIte]
    refine afin [0] [aN, aI 0, aB false] [rI xs] (by simp) rfl (weak_of (by decide) (by simp [RS.slot, List.map_cons, List.map_nil, rowsLe, rowLe, slotsLe, tvLe, TV.ren, AV.ren, C.ren, Dat.ren, Row.ren, TV.hs, AV.hs, C.hs, Dat.hs, get_cons, get_nil, zipSlots, List.getD_cons_zero, List.getD_cons_succ, List.getD_nil, -List.getD_eq_getElem?_getD])) (by simp [rtv])
  · simp (dsimp := false) only [go_sem, Nat.reduceAdd, Nat.reduceBEq, Nat.reduceEqDiff, Nat.reduceLT, Nat.reduceLeDiff, reduceCtorEq, ↓reduceIte]
    have h2 : (inB base 2 256 && inB place 0 17) = false := by simpa [flOk, hv] using h
    repeat (refine And.intro (by first | exact True.intro | omega | kernel_rfl | (simp only [List.length_set, List.length_append, List.length_take, List.length_replicate, List.length_cons, true_and, and_true, List.length_nil, tabR_length]; omega)) ?_)
    refine ⟨_, (l8Place_l base place).lift [] (by decide) (by simp) (by simp [RS.slot, List.map_cons, List.map_nil, rowsLe, rowLe, slotsLe, tvLe, TV.ren, AV.ren, C.ren, Dat.ren, Row.ren, TV.hs, AV.hs, C.hs, Dat.hs, get_cons, get_nil, zipSlots, List.getD_cons_zero, List.getD_cons_succ, List.getD_nil, -List.getD_eq_getElem?_getD]) (by simp [RS.slot, List.map_cons, List.map_nil, rowsLe, rowLe, slotsLe, tvLe, TV.ren, AV.ren, C.ren, Dat.ren, Row.ren, TV.hs, AV.hs, C.hs, Dat.hs, get_cons, get_nil, zipSlots, List.getD_cons_zero, List.getD_cons_succ, List.getD_nil, -List.getD_eq_getElem?_getD]) (by simp [RS.slot, List.map_cons, List.map_nil, rowsLe, rowLe, slotsLe, tvLe, TV.ren, AV.ren, C.ren, Dat.ren, Row.ren, TV.hs, AV.hs, C.hs, Dat.hs, get_cons, get_nil, zipSlots, List.getD_cons_zero, List.getD_cons_succ, List.getD_nil, -List.getD_eq_getElem?_getD]) rfl ?_⟩
    rintro _ _ ⟨rfl, rfl⟩
    refine ⟨by simp [ownIn, Row.own], ?_⟩
    simp (dsimp := false) only [h2, liftT, liftH, putBack, freshR, ownIn, Row.own, Row.ren, TV.ren, AV.ren, C.ren, Dat.ren, List.drop_succ_cons, List.drop_nil, List.getD_cons_zero, List.getD_cons_succ, List.getD_nil, go_sem, Nat.reduceAdd, Nat.reduceBEq, Nat.reduceEqDiff, Nat.reduceLT, Nat.reduceLeDiff, reduceCtorEq, ↓reduceIte]
    refine afin [0] [aN, aI 0, aB false] [rI xs] (by simp) rfl (weak_of (by decide) (by simp [RS.slot, List.map_cons, List.map_nil, rowsLe, rowLe, slotsLe, tvLe, TV.ren, AV.ren, C.ren, Dat.ren, Row.ren, TV.hs, AV.hs, C.hs, Dat.hs, get_cons, get_nil, zipSlots, List.getD_cons_zero, List.getD_cons_succ, List.getD_nil, -List.getD_eq_getElem?_getD])) (by simp [rtv])
theorem iFlagPass_f (xs : List Int) (base place : Int) (hx : xs.length ≤ 281474976710656) (h : flOk xs base place = false) : ACalls Try.prog 16 [tS 0 xs.length, tI base, tI place] [] [rI xs] (fun t H => t = .tup [aN, aI 0, aB false] ∧ H = [rI xs]) := by
  refine afun (fun i => match i with | 3 => some ⟨[], .op 0 .held (.op 2 .held (.two 1 3 (.op 4 .held (.op 3 .only (.op 5 .held .nil))) (.op 1 .only (.op 4 .held (.op 5 .held .nil)))))⟩ | 18 => some ⟨[], .op 0 .held (.op 1 .held (.op 2 .held (.op 3 .now (.op 4 .held (.op 5 .held (.op 6 .held (.op 7 .now (.op 8 .held .nil))))))))⟩ | 21 => some ⟨[3], .op 0 .held (.op 1 .held (.op 2 .held (.op 3 .held (.op 4 .now (.op 5 .held (.op 6 .held (.op 7 .held (.op 8 .held (.op 9 .now (.op 10 .held (.op 11 .held (.op 12 .held (.op 13 .held (.op 14 .now (.op 15 .held (.op 16 .now (.op 17 .held (.op 18 .held (.op 19 .held (.op 20 .held (.op 21 .now (.op 22 .held (.op 23 .now (.op 24 .held (.op 25 .only (.op 26 .held (.op 27 .only .nil)))))))))))))))))))))))))))⟩ | _ => none) [6, 7, 8] 1 Try.func16 rfl rfl mix (by kernel_rfl) (by kernel_rfl) (by simp [Try.f16]) rfl (by simp [msOwn, ownAll, Row.own]) ?_
  simp (dsimp := false) only [go_sem, Nat.reduceAdd, Nat.reduceBEq, Nat.reduceEqDiff, Nat.reduceLT, Nat.reduceLeDiff, reduceCtorEq, ↓reduceIte]
  repeat (refine And.intro (by first | exact True.intro | omega | kernel_rfl | (simp only [List.length_set, List.length_append, List.length_take, List.length_replicate, List.length_cons, true_and, and_true, List.length_nil, tabR_length]; omega)) ?_)
  refine ⟨_, (isValidList_l xs hx).lift [0] (by decide) (by simp) (by simp [RS.slot, List.map_cons, List.map_nil, rowsLe, rowLe, slotsLe, tvLe, TV.ren, AV.ren, C.ren, Dat.ren, Row.ren, TV.hs, AV.hs, C.hs, Dat.hs, get_cons, get_nil, zipSlots, List.getD_cons_zero, List.getD_cons_succ, List.getD_nil, -List.getD_eq_getElem?_getD]) (by simp [RS.slot, List.map_cons, List.map_nil, rowsLe, rowLe, slotsLe, tvLe, TV.ren, AV.ren, C.ren, Dat.ren, Row.ren, TV.hs, AV.hs, C.hs, Dat.hs, get_cons, get_nil, zipSlots, List.getD_cons_zero, List.getD_cons_succ, List.getD_nil, -List.getD_eq_getElem?_getD]) (by simp [RS.slot, List.map_cons, List.map_nil, rowsLe, rowLe, slotsLe, tvLe, TV.ren, AV.ren, C.ren, Dat.ren, Row.ren, TV.hs, AV.hs, C.hs, Dat.hs, get_cons, get_nil, zipSlots, List.getD_cons_zero, List.getD_cons_succ, List.getD_nil, -List.getD_eq_getElem?_getD]) rfl ?_⟩
  rintro _ _ ⟨rfl, rfl⟩
  refine ⟨by simp [ownIn, Row.own], ?_⟩
  simp (dsimp := false) only [liftT, liftH, putBack, freshR, ownIn, Row.own, Row.ren, TV.ren, AV.ren, C.ren, Dat.ren, List.drop_succ_cons, List.drop_nil, List.getD_cons_zero, List.getD_cons_succ, List.getD_nil, go_sem, Nat.reduceAdd, Nat.reduceBEq, Nat.reduceEqDiff, Nat.reduceLT, Nat.reduceLeDiff, reduceCtorEq, ↓reduceIte]
  cases hv : validB xs
  · simp (dsimp := false) only [go_sem, Nat.reduceAdd, Nat.reduceBEq, Nat.reduceEqDiff, Nat.reduceLT, Nat.reduceLeDiff, reduceCtorEq, ↓reduceIte]
    refine afin [0] [aN, aI 0, aB false] [rI xs] (by simp) rfl (weak_of (by decide) (by simp [RS.slot, List.map_cons, List.map_nil, rowsLe, rowLe, slotsLe, tvLe, TV.ren, AV.ren, C.ren, Dat.ren, Row.ren, TV.hs, AV.hs, C.hs, Dat.hs, get_cons, get_nil, zipSlots, List.getD_cons_zero, List.getD_cons_succ, List.getD_nil, -List.getD_eq_getElem?_getD])) (by simp [rtv])
  · simp (dsimp := false) only [go_sem, Nat.reduceAdd, Nat.reduceBEq, Nat.reduceEqDiff, Nat.reduceLT, Nat.reduceLeDiff, reduceCtorEq, ↓reduceIte]
    have h2 : (inB base 2 256 && inB place 0 17) = false := by simpa [flOk, hv] using h
    repeat (refine And.intro (by first | exact True.intro | omega | kernel_rfl | (simp only [List.length_set, List.length_append, List.length_take, List.length_replicate, List.length_cons, true_and, and_true, List.length_nil, tabR_length]; omega)) ?_)
    refine ⟨_, (isRadix_l base place).lift [] (by decide) (by simp) (by simp [RS.slot, List.map_cons, List.map_nil, rowsLe, rowLe, slotsLe, tvLe, TV.ren, AV.ren, C.ren, Dat.ren, Row.ren, TV.hs, AV.hs, C.hs, Dat.hs, get_cons, get_nil, zipSlots, List.getD_cons_zero, List.getD_cons_succ, List.getD_nil, -List.getD_eq_getElem?_getD]) (by simp [RS.slot, List.map_cons, List.map_nil, rowsLe, rowLe, slotsLe, tvLe, TV.ren, AV.ren, C.ren, Dat.ren, Row.ren, TV.hs, AV.hs, C.hs, Dat.hs, get_cons, get_nil, zipSlots, List.getD_cons_zero, List.getD_cons_succ, List.getD_nil, -List.getD_eq_getElem?_getD]) (by simp [RS.slot, List.map_cons, List.map_nil, rowsLe, rowLe, slotsLe, tvLe, TV.ren, AV.ren, C.ren, Dat.ren, Row.ren, TV.hs, AV.hs, C.hs, Dat.hs, get_cons, get_nil, zipSlots, List.getD_cons_zero, List.getD_cons_succ, List.getD_nil, -List.getD_eq_getElem?_getD]) rfl ?_⟩
    rintro _ _ ⟨rfl, rfl⟩
    refine ⟨by simp [ownIn, Row.own], ?_⟩
    simp (dsimp := false) only [h2, liftT, liftH, putBack, freshR, ownIn, Row.own, Row.ren, TV.ren, AV.ren, C.ren, Dat.ren, List.drop_succ_cons, List.drop_nil, List.getD_cons_zero, List.getD_cons_succ, List.getD_nil, go_sem, Nat.reduceAdd, Nat.reduceBEq, Nat.reduceEqDiff, Nat.reduceLT, Nat.reduceLeDiff, reduceCtorEq, ↓reduceIte]
    refine afin [0] [aN, aI 0, aB false] [rI xs] (by simp) rfl (weak_of (by decide) (by simp [RS.slot, List.map_cons, List.map_nil, rowsLe, rowLe, slotsLe, tvLe, TV.ren, AV.ren, C.ren, Dat.ren, Row.ren, TV.hs, AV.hs, C.hs, Dat.hs, get_cons, get_nil, zipSlots, List.getD_cons_zero, List.getD_cons_succ, List.getD_nil, -List.getD_eq_getElem?_getD])) (by simp [rtv])
end Go.Proofs.Ytpoappgfmjnioaa
