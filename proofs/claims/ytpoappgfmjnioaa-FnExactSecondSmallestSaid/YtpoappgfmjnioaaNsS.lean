/- Contracts: the laws' helpers on slices of slices, a symbolic number of them. -/
import Derived.Test.YtpoappgfmjnioaaNst
import Derived.Test.YtpoappgfmjnioaaVal
set_option linter.unusedSimpArgs false
set_option linter.unusedVariables false
set_option linter.unusedSectionVars false
namespace Go.Proofs.Ytpoappgfmjnioaa
open Go Go.Ax
set_option maxRecDepth 10000
set_option maxHeartbeats 1000000
theorem u_ss : Try.prog.underlying 41 = some (.slice 22) := by kernel_rfl
theorem ag_ss : isAggB Try.prog 41 = some false := by kernel_rfl
theorem sz_ss : sz Try.prog 41 = some 1 := by kernel_rfl
theorem sz_ints : sz Try.prog 22 = some 1 := by kernel_rfl
theorem by_ints : byt Try.prog 22 = some 24 := by kernel_rfl
theorem zr_ints : zr Try.prog 22 = some (.slice none 0 0) := by kernel_rfl
attribute [go_sem] u_ss ag_ss sz_ss sz_ints by_ints zr_ints

theorem ownAll_ro : ∀ {H : Hp} {i : Nat} {ms : List Nat}, (∀ r ∈ H, r.own = false) → ownAll i ms H
  | [], _, _, _ => trivial
  | r :: H, i, ms, h => ⟨fun ho => absurd ho (by rw [h r (by simp)]; simp), ownAll_ro fun x hx => h x (by simp [hx])⟩

/-! ### The flat ones, in any heap -/

theorem rowLe_rw {ρ : List Nat} {o : Bool} {xs : List Int} : rowLe ρ (rI xs) (some (rwI o xs)) := ⟨by simp, rfl, by simp [Dat.hs]⟩

theorem toIntS_g {G : Hp} {h : Nat} {o : Bool} {xs : List Int} (hG : G[h]? = some (rwI o xs)) (hb : 8 * xs.length ≤ 281474976710656) :
    ACalls Try.prog 15 [tS h xs.length] [] G (fun t G' => t = tS G.length xs.length ∧ G' = G ++ [oI xs]) := by
  have hl : ACalls Try.prog 15 [tS 0 xs.length] [] [rI xs] (fun t H => t = tS 1 xs.length ∧ H = [rI xs] ++ [oI xs]) := toIntS_ok xs hb
  refine (ACalls.liftN hl [h] (by simp [Row.own]) (by simp [Row.own]) (by simp) rfl ?_ (by simp [TV.ren, AV.ren, C.ren]) (by simp [TV.hs, AV.hs, C.hs])).mono ?_
  · intro i h' row h1 h2
    match i, h1, h2 with
    | 0, h1, h2 =>
      simp at h1 h2; subst h1; subst h2
      rw [hG]; exact ⟨getlt hG, rowLe_rw⟩
  · rintro t G' ⟨rfl, rfl⟩
    simp [TV.ren, AV.ren, C.ren, freshR, Row.ren, Dat.ren]

theorem eqIntS_g {G : Hp} {a b : Nat} {o o' : Bool} {xs : List Int} (hA : G[a]? = some (rwI o xs)) (hB : G[b]? = some (rwI o' xs)) (hab : a ≠ b) (hx : xs.length ≤ 281474976710656) :
    ACalls Try.prog 17 [tS a xs.length, tS b xs.length] [] G (fun t G' => t = tB true ∧ G' = G) := by
  have hl : ACalls Try.prog 17 [tS 0 xs.length, tS 1 xs.length] [] [rI xs, rI xs] (fun t H => t = tB true ∧ H = [rI xs, rI xs] ++ []) := eqIntS_same xs hx
  refine (ACalls.liftN hl [a, b] (by simp [Row.own]) (by simp [Row.own]) (by simp [hab]) rfl ?_ (by simp [TV.ren, AV.ren, C.ren]) (by simp [TV.hs, AV.hs, C.hs])).mono ?_
  · intro i h' row h1 h2
    match i, h1, h2 with
    | 0, h1, h2 =>
      simp at h1 h2; subst h1; subst h2
      rw [hA]; exact ⟨getlt hA, rowLe_rw⟩
    | 1, h1, h2 =>
      simp at h1 h2; subst h1; subst h2
      rw [hB]; exact ⟨getlt hB, rowLe_rw⟩
  · rintro t G' ⟨rfl, rfl⟩
    simp [TV.ren, AV.ren, C.ren]

theorem heldIntS_g {G : Hp} {a : Nat} {o : Bool} {xs : List Int} {n : Nat} {k : Int} (hA : G[a]? = some (rwI o (marked xs k n))) (hn : n ≤ xs.length) (hx : n ≤ 281474976710656) (h0 : 0 ≤ k) (h1 : k ≤ 281474976710656) :
    ACalls Try.prog 19 [tS a n, tI k] [] G (fun t G' => t = tI (k + n) ∧ G' = G) := by
  have hl : ACalls Try.prog 19 [tS 0 n, tI k] [] [rI (marked xs k n)] (fun t H => t = tI (k + n) ∧ H = [rI (marked xs k n)] ++ []) := heldIntS_ok xs n k hn hx h0 h1
  refine (ACalls.liftN hl [a] (by simp [Row.own]) (by simp [Row.own]) (by simp) rfl ?_ (by simp [TV.ren, AV.ren, C.ren]) (by simp [TV.hs, AV.hs, C.hs])).mono ?_
  · intro i h' row h1 h2
    match i, h1, h2 with
    | 0, h1, h2 =>
      simp at h1 h2; subst h1; subst h2
      rw [hA]; exact ⟨getlt hA, rowLe_rw⟩
  · rintro t G' ⟨rfl, rfl⟩
    simp [TV.ren, AV.ren, C.ren]

theorem markIntS_g {G : Hp} {a : Nat} {xs : List Int} {n : Nat} {k : Int} (hA : G[a]? = some (oI xs)) (hn : n ≤ xs.length) (hx : n ≤ 281474976710656) (h0 : 0 ≤ k) (h1 : k ≤ 281474976710656) :
    ACalls Try.prog 18 [tS a n, tI k] [a] G (fun t G' => t = tI (k + n) ∧ G' = G.set a (oI (marked xs k n))) := by
  refine (markIntS_ok xs n k hn hx h0 h1).lift [a] (by simp) (by simpa using getlt hA) ⟨?_, trivial⟩ (by simp [TV.ren, AV.ren, C.ren]) (by simp [TV.hs, AV.hs, C.hs]) rfl ?_
  · rw [hA]; exact ⟨id, rfl, by simp [Dat.hs]⟩
  · rintro t H' ⟨rfl, rfl⟩
    refine ⟨by simp [ownIn, Row.own], by simp [liftT, TV.ren, AV.ren, C.ren], ?_⟩
    simp [liftH, putBack, Row.own, Row.ren, Dat.ren]

/-! ### Equal -/

theorem eqSS_s (xss : List (List Int)) (hx : xss.length ≤ 281474976710656) (hr : ∀ x ∈ xss, x.length ≤ 281474976710656) :
    ACalls Try.prog 34 [tSS 0 xss.length, tSS 1 xss.length] [] (nst2 xss xss) (fun t H => t = tB true ∧ H = nst2 xss xss) := by
  have hl := nst2_len xss xss
  have h0 : (nst2 xss xss)[0]? = some (.r false (.cells 1 (nsC 2 xss))) := rfl
  have h1 : (nst2 xss xss)[1]? = some (.r false (.cells 1 (nsC (2 + xss.length) xss))) := rfl
  have hcl := nst2_cl xss xss
  have hA := fun i x h => nst2_a (xss := xss) (yss := xss) (i := i) (x := x) h
  have hB := fun i x h => nst2_b (xss := xss) (yss := xss) (i := i) (x := x) h
  have hro := nst2_ro (xss := xss) (yss := xss)
  generalize nst2 xss xss = G at *
  have hN0 : 0 < G.length := by omega
  have hN1 : 1 < G.length := by omega
  refine afun (fun i => match i with | 6 => some ⟨[], .op 0 .held (.op 1 .held (.op 2 .held (.op 3 .now (.op 4 .held (.op 5 .held (.op 6 .held (.op 7 .now (.op 8 .only (.op 9 .held .nil)))))))))⟩ | _ => none) [4] G.length Try.func34 rfl rfl mix (by kernel_rfl) (by kernel_rfl) (by simp [Try.f34]) rfl (⟨trivial, ownAll_ro hro⟩) ?_
  simp (dsimp := false) only [bne_self_eq_false, go_sem, Nat.reduceAdd, Nat.reduceBEq, Nat.reduceEqDiff, Nat.reduceLT, Nat.reduceLeDiff, reduceCtorEq, ↓reduceIte]
  refine aloop (σ := Nat) (fun i => ([(0, tSS 0 xss.length), (1, tSS 1 xss.length), (5, tI i)], G)) (fun i => i ≤ xss.length) (fun i => xss.length - i) 0 (List.range G.length) (by omega) (wk_id (by omega) hcl (by simp [slId, get_cons, get_nil, TV.hs, AV.hs, C.hs, RS.slot, zipSlots, hN0, hN1])) ?_
  intro i hi
  by_cases hc : i < xss.length
  · have hcd : decide ((i : Int) < (xss.length : Int)) = true := decide_eq_true (by omega)
    obtain ⟨x, hxi⟩ : ∃ x, xss[i]? = some x := ⟨_, List.getElem?_eq_getElem hc⟩
    have hxl := hr x (List.mem_of_getElem? hxi)
    have c0 := nsC_at (b := 2) hxi
    have c1 := nsC_at (b := 2 + xss.length) hxi
    simp (dsimp := false) only [hcd, h0, h1, c0, c1, Int.toNat_natCast, go_sem, Nat.reduceAdd, Nat.reduceBEq, Nat.reduceEqDiff, Nat.reduceLT, Nat.reduceLeDiff, reduceCtorEq, ↓reduceIte]
    repeat (refine And.intro (by first | exact True.intro | omega | kernel_rfl | (simp only [List.length_set, List.length_append, List.length_take, List.length_replicate, List.length_cons, true_and, and_true, List.length_nil, tabR_length]; omega)) ?_)
    refine ⟨_, And.intro ?_ ((eqIntS_g (hA i x hxi) (hB i x hxi) (by omega) hxl).mono ?_)⟩
    · simp [msIn]
    rintro _ G9 ⟨rfl, h9⟩
    have h9 := h9.symm
    subst h9
    refine ⟨sameFrom_refl _ _ _, ?_⟩
    simp (dsimp := false) only [hcd, go_sem, Nat.reduceAdd, Nat.reduceBEq, Nat.reduceEqDiff, Nat.reduceLT, Nat.reduceLeDiff, reduceCtorEq, ↓reduceIte]
    repeat (refine And.intro (by first | exact True.intro | omega | kernel_rfl | (simp only [List.length_set, List.length_append, List.length_take, List.length_replicate, List.length_cons, true_and, and_true, List.length_nil, tabR_length]; omega)) ?_)
    refine ⟨i + 1, List.range G.length, ⟨by omega, by omega⟩, wk_id (by omega) hcl (by simp [slId, get_cons, get_nil, TV.hs, AV.hs, C.hs, RS.slot, zipSlots, hN0, hN1])⟩
  · have hcd : decide ((i : Int) < (xss.length : Int)) = false := decide_eq_false (by omega)
    simp (dsimp := false) only [hcd, go_sem, Nat.reduceAdd, Nat.reduceBEq, Nat.reduceEqDiff, Nat.reduceLT, Nat.reduceLeDiff, reduceCtorEq, ↓reduceIte]
    refine afin (List.range G.length) [aB true] G (by simp) rfl (wk_id (by omega) hcl (by simp [slId, get_cons, get_nil, TV.hs, AV.hs, C.hs, RS.slot, zipSlots, hN0, hN1])) (by simp [rtv])
theorem eqSS_g {G : Hp} {xss : List (List Int)} {a b : Nat} {o1 o1' o2 o2' : Bool} (hA : Nst o1 o1' G a xss) (hB : Nst o2 o2' G b xss) (hd : a + xss.length < b ∨ b + xss.length < a) (hx : xss.length ≤ 281474976710656) (hr : ∀ x ∈ xss, x.length ≤ 281474976710656) :
    ACalls Try.prog 34 [tSS a xss.length, tSS b xss.length] [] G (fun t G' => t = tB true ∧ G' = G) :=
  ACalls.lift2 hA hB hd (eqSS_s xss hx hr)

/-! ### Marked and held -/

def tot : List (List Int) → Nat
  | [] => 0
  | x :: xss => x.length + tot xss
theorem tot_app : ∀ (a b : List (List Int)), tot (a ++ b) = tot a + tot b
  | [], b => by simp [tot]
  | x :: a, b => by simp [tot, tot_app a b]; omega
theorem tot_take {xss : List (List Int)} {i : Nat} {x : List Int} (h : xss[i]? = some x) : tot (xss.take (i + 1)) = tot (xss.take i) + x.length := by
  have hi := h
  rw [List.take_add_one, h, tot_app]; simp [tot]
theorem tot_le : ∀ (xss : List (List Int)) (i : Nat), tot (xss.take i) ≤ tot xss
  | [], i => by simp [tot]
  | x :: xss, 0 => by simp [tot]
  | x :: xss, i + 1 => by simp only [List.take_succ_cons, tot]; have := tot_le xss i; omega
theorem tot_mem {xss : List (List Int)} {x : List Int} (h : x ∈ xss) : x.length ≤ tot xss := by
  induction xss with
  | nil => simp at h
  | cons y ys ih =>
    simp only [tot]
    rcases List.mem_cons.1 h with rfl | h
    · omega
    · have := ih h; omega
/-- The groups' rows, marked one after the other. -/
def mkA : Int → List (List Int) → List (List Int)
  | _, [] => []
  | k, x :: xss => marked x k x.length :: mkA (k + x.length) xss
theorem mkA_len : ∀ (k : Int) (xss : List (List Int)), (mkA k xss).length = xss.length
  | _, [] => rfl
  | k, x :: xss => by simp [mkA, mkA_len _ xss]
theorem mkA_get : ∀ (k : Int) (xss : List (List Int)) (i : Nat) (x : List Int), xss[i]? = some x → (mkA k xss)[i]? = some (marked x (k + tot (xss.take i)) x.length)
  | _, [], i, x, h => by simp at h
  | k, y :: xss, 0, x, h => by simp at h; subst h; simp [mkA, tot]
  | k, y :: xss, i + 1, x, h => by
    simp only [mkA, List.getElem?_cons_succ, List.take_succ_cons, tot]
    rw [mkA_get _ xss i x (by simpa using h)]
    congr 2; omega
theorem nsC_mkA : ∀ (b : Nat) (k : Int) (xss : List (List Int)), nsC b (mkA k xss) = nsC b xss
  | _, _, [] => rfl
  | b, k, x :: xss => by simp only [mkA, nsC, nsC_mkA, marked_length (Nat.le_refl x.length)]
/-- The first i rows marked. -/
def mkU (k : Int) (xss : List (List Int)) (i : Nat) : List (List Int) := (mkA k xss).take i ++ xss.drop i
theorem nsC_take : ∀ (b : Nat) (xss : List (List Int)) (i : Nat), nsC b (xss.take i) = (nsC b xss).take i
  | _, [], i => by simp [nsC]
  | _, x :: xss, 0 => by simp [nsC]
  | b, x :: xss, i + 1 => by simp [nsC, nsC_take (b + 1) xss i]
theorem mkU_len {k : Int} {xss : List (List Int)} {i : Nat} : (mkU k xss i).length = xss.length := by
  simp only [mkU, List.length_append, List.length_take, List.length_drop, mkA_len]; omega
theorem nsC_mkU (b : Nat) (k : Int) (xss : List (List Int)) (i : Nat) : nsC b (mkU k xss i) = nsC b xss := by
  have h : xss = xss.take i ++ xss.drop i := (List.take_append_drop i xss).symm
  have hl : ((mkA k xss).take i).length = (xss.take i).length := by simp [mkA_len]
  rw [mkU, nsC_app, nsC_take, nsC_mkA, ← nsC_take, hl, ← nsC_app, ← h]
theorem mkU_at {k : Int} {xss : List (List Int)} {i : Nat} {x : List Int} (h : xss[i]? = some x) : (mkU k xss i)[i]? = some x := by
  have hi := getlt (G := xss.map rI) (h := i) (r := rI x) (by simp [h])
  rw [List.length_map] at hi
  rw [mkU, List.getElem?_append_right (by simp [mkA_len]; omega), List.getElem?_drop]
  simp only [List.length_take, mkA_len]
  rw [show i + (i - min i xss.length) = i by omega, h]
theorem mkU_set {k : Int} {xss : List (List Int)} {i : Nat} {x : List Int} (h : xss[i]? = some x) : (mkU k xss i).set i (marked x (k + tot (xss.take i)) x.length) = mkU k xss (i + 1) := by
  have hi := getlt (G := xss.map rI) (h := i) (r := rI x) (by simp [h])
  rw [List.length_map] at hi
  have hg := mkA_get k xss i x h
  refine List.ext_getElem? fun j => ?_
  simp only [mkU, List.getElem?_set, List.getElem?_append, List.length_take, List.length_append, List.length_drop, mkA_len, List.getElem?_take, List.getElem?_drop]
  by_cases e : i = j
  · subst e
    rw [if_pos rfl, if_pos (by omega), if_pos (by omega), if_pos (by omega), hg]
  · rw [if_neg e]
    by_cases e2 : j < i
    · rw [if_pos (by omega), if_pos (by omega), if_pos (by omega), if_pos (by omega)]
    · rw [if_neg (by omega), if_neg (by omega)]; congr 1; omega

theorem heldSS_s (xss : List (List Int)) (k : Int) (hx : xss.length ≤ 281474976710656) (ht : tot xss ≤ 281474976710656) (h0 : 0 ≤ k) (hk : k + tot xss ≤ 281474976710656) :
    ACalls Try.prog 36 [tSS 0 xss.length, tI k] [] (nst false false 0 (mkA k xss)) (fun t H => t = tI (k + tot xss) ∧ H = nst false false 0 (mkA k xss)) := by
  have hl := nst_len false false 0 (mkA k xss)
  have g0 : (nst false false 0 (mkA k xss))[0]? = some (.r false (.cells 1 (nsC 1 xss))) := by rw [← nsC_mkA 1 k xss]; rfl
  have hcl := nst_cl false false (mkA k xss)
  have hA : ∀ i x, xss[i]? = some x → (nst false false 0 (mkA k xss))[1 + i]? = some (rI (marked x (k + tot (xss.take i)) x.length)) := fun i x h => by
    rw [Nat.add_comm 1 i, nst, List.getElem?_cons_succ, List.getElem?_map, mkA_get k xss i x h]; rfl
  have hro := nst_ro (b := 0) (xss := mkA k xss)
  rw [mkA_len] at hl
  generalize nst false false 0 (mkA k xss) = G at *
  have hN0 : 0 < G.length := by omega
  refine afun (fun _ => none) [4] G.length Try.func36 rfl rfl mix (by kernel_rfl) (by kernel_rfl) (by simp [Try.f36]) rfl (⟨trivial, ownAll_ro hro⟩) ?_
  simp (dsimp := false) only [go_sem, Nat.reduceAdd, Nat.reduceBEq, Nat.reduceEqDiff, Nat.reduceLT, Nat.reduceLeDiff, reduceCtorEq, ↓reduceIte]
  refine aloop (σ := Nat) (fun i => ([(0, tSS 0 xss.length), (1, tI (k + (tot (xss.take i) : Nat))), (5, tI i)], G)) (fun i => i ≤ xss.length) (fun i => xss.length - i) 0 (List.range G.length) (by omega) (wk_id (by omega) hcl (by simp [slId, get_cons, get_nil, TV.hs, AV.hs, C.hs, RS.slot, zipSlots, hN0, List.take_zero, tot, Int.natCast_zero, Int.add_zero])) ?_
  intro i hi
  by_cases hc : i < xss.length
  · have hcd : decide ((i : Int) < (xss.length : Int)) = true := decide_eq_true (by omega)
    obtain ⟨x, hxi⟩ : ∃ x, xss[i]? = some x := ⟨_, List.getElem?_eq_getElem hc⟩
    have hxl := tot_mem (List.mem_of_getElem? hxi)
    have hti := tot_le xss (i + 1)
    have hts := tot_take hxi
    have c0 := nsC_at (b := 1) hxi
    have hd2 : decide (k + ((tot (xss.take i) : Nat) : Int) + (x.length : Int) < 0) = false := decide_eq_false (by omega)
    simp (dsimp := false) only [hcd, g0, c0, Int.toNat_natCast, go_sem, Nat.reduceAdd, Nat.reduceBEq, Nat.reduceEqDiff, Nat.reduceLT, Nat.reduceLeDiff, reduceCtorEq, ↓reduceIte]
    repeat (refine And.intro (by first | exact True.intro | omega | kernel_rfl | (simp only [List.length_set, List.length_append, List.length_take, List.length_replicate, List.length_cons, true_and, and_true, List.length_nil, tabR_length]; omega)) ?_)
    refine ⟨_, (heldIntS_g (hA i x hxi) (Nat.le_refl _) (by omega) (by omega) (by omega)).mono ?_⟩
    rintro _ G9 ⟨rfl, h9⟩
    have h9 := h9.symm
    subst h9
    simp (dsimp := false) only [hcd, hd2, go_sem, Nat.reduceAdd, Nat.reduceBEq, Nat.reduceEqDiff, Nat.reduceLT, Nat.reduceLeDiff, reduceCtorEq, ↓reduceIte]
    repeat (refine And.intro (by first | exact True.intro | omega | kernel_rfl | (simp only [List.length_set, List.length_append, List.length_take, List.length_replicate, List.length_cons, true_and, and_true, List.length_nil, tabR_length]; omega)) ?_)
    have e9 : k + ((tot (xss.take (i + 1)) : Nat) : Int) = k + ((tot (xss.take i) : Nat) : Int) + (x.length : Int) := by omega
    refine ⟨i + 1, List.range G.length, ⟨by omega, by omega⟩, wk_id (by omega) hcl (by simp [slId, get_cons, get_nil, TV.hs, AV.hs, C.hs, RS.slot, zipSlots, hN0, e9])⟩
  · have hcd : decide ((i : Int) < (xss.length : Int)) = false := decide_eq_false (by omega)
    have hti : xss.take i = xss := List.take_of_length_le (by omega)
    simp (dsimp := false) only [hcd, hti, go_sem, Nat.reduceAdd, Nat.reduceBEq, Nat.reduceEqDiff, Nat.reduceLT, Nat.reduceLeDiff, reduceCtorEq, ↓reduceIte]
    refine afin (List.range G.length) [aI (k + tot xss)] G (by simp) rfl (wk_id (by omega) hcl (by simp [slId, get_cons, get_nil, TV.hs, AV.hs, C.hs, RS.slot, zipSlots, hN0, hti])) (by simp [rtv])
theorem heldSS_g {G : Hp} {xss : List (List Int)} {a : Nat} {o o' : Bool} {k : Int} (hA : Nst o o' G a (mkA k xss)) (hx : xss.length ≤ 281474976710656) (ht : tot xss ≤ 281474976710656) (h0 : 0 ≤ k) (hk : k + tot xss ≤ 281474976710656) :
    ACalls Try.prog 36 [tSS a xss.length, tI k] [] G (fun t G' => t = tI (k + tot xss) ∧ G' = G) := by
  refine (ACalls.lift1 hA (X := []) (t0 := tI (k + tot xss)) (args := [tSS 0 xss.length, tI k]) ?_ (by simp) ?_ ?_).mono ?_
  · simpa using heldSS_s xss k hx ht h0 hk
  · simp [TV.ren, AV.ren, C.ren, range'_getD]
  · intro t ht' h hh
    simp only [List.mem_cons, List.not_mem_nil, or_false] at ht'
    rcases ht' with rfl | rfl <;> simp [TV.hs, AV.hs, C.hs] at hh <;> omega
  · rintro t G' ⟨rfl, rfl⟩
    simp [TV.ren, AV.ren, C.ren]

theorem ownAll_of : ∀ {H : Hp} {i : Nat} {ms : List Nat}, (∀ (j : Nat) r, H[j]? = some r → r.own = true → i + j ∈ ms) → ownAll i ms H
  | [], _, _, _ => trivial
  | r :: H, i, ms, h => ⟨fun ho => by have := h 0 r (by simp) ho; simpa using this, ownAll_of fun j r' hj ho => by have := h (j + 1) r' (by simpa using hj) ho; rwa [show i + 1 + j = i + (j + 1) by omega]⟩
theorem msOwn_of {H : Hp} : ∀ {ms : List Nat}, (∀ m ∈ ms, ∃ d, H[m]? = some (.r true d)) → msOwn H ms
  | [], _ => trivial
  | m :: ms, h => by
    obtain ⟨d, hd⟩ := h m (by simp)
    refine ⟨?_, msOwn_of fun x hx => h x (by simp [hx])⟩
    rw [hd]; trivial
theorem nst_ms (xss : List (List Int)) : msOwn (nst false true 0 xss) (List.range' 1 xss.length) ∧ ownAll 0 (List.range' 1 xss.length) (nst false true 0 xss) := by
  constructor
  · refine msOwn_of fun m hm => ?_
    rw [List.mem_range'_1] at hm
    obtain ⟨j, rfl⟩ : ∃ j, m = j + 1 := ⟨m - 1, by omega⟩
    exact ⟨_, by rw [nst, List.getElem?_cons_succ, List.getElem?_map, List.getElem?_eq_getElem (by omega)]; rfl⟩
  · refine ownAll_of fun j r hj ho => ?_
    have hjl := getlt hj
    rw [nst_len] at hjl
    cases j with
    | zero => simp only [nst, List.getElem?_cons_zero, Option.some.injEq] at hj; subst hj; simp [Row.own] at ho
    | succ j => rw [List.mem_range'_1]; omega

theorem markSS_s (xss : List (List Int)) (k : Int) (hx : xss.length ≤ 281474976710656) (ht : tot xss ≤ 281474976710656) (h0 : 0 ≤ k) (hk : k + tot xss ≤ 281474976710656) :
    ACalls Try.prog 35 [tSS 0 xss.length, tI k] (List.range' 1 xss.length) (nst false true 0 xss) (fun t H => t = tI (k + tot xss) ∧ H = nst false true 0 (mkA k xss)) := by
  refine afun (fun _ => none) [4] (nst false true 0 xss).length Try.func35 rfl rfl mix (by kernel_rfl) (by kernel_rfl) (by simp [Try.f35]) rfl (nst_ms xss) ?_
  simp (dsimp := false) only [go_sem, Nat.reduceAdd, Nat.reduceBEq, Nat.reduceEqDiff, Nat.reduceLT, Nat.reduceLeDiff, reduceCtorEq, ↓reduceIte]
  have e0 : mkU k xss 0 = xss := by simp [mkU]
  have en : mkU k xss xss.length = mkA k xss := by simp only [mkU, List.drop_length, List.append_nil]; exact List.take_of_length_le (by rw [mkA_len]; omega)
  have hcl := fun i => nst_cl false true (mkU k xss i)
  have hl : ∀ i, (nst false true 0 (mkU k xss i)).length = xss.length + 1 := fun i => by rw [nst_len, mkU_len]
  have g0 : ∀ i, (nst false true 0 (mkU k xss i))[0]? = some (.r false (.cells 1 (nsC 1 xss))) := fun i => by rw [← nsC_mkU 1 k xss i]; rfl
  have hA : ∀ i x, xss[i]? = some x → (nst false true 0 (mkU k xss i))[1 + i]? = some (oI x) := fun i x h => by
    rw [Nat.add_comm 1 i, nst, List.getElem?_cons_succ, List.getElem?_map, mkU_at h]; rfl
  have hS : ∀ i x, xss[i]? = some x → (nst false true 0 (mkU k xss i)).set (1 + i) (oI (marked x (k + ((tot (xss.take i) : Nat) : Int)) x.length)) = nst false true 0 (mkU k xss (i + 1)) := fun i x h => by
    rw [Nat.add_comm 1 i, nst, List.set_cons_succ, nst, nsC_mkU, nsC_mkU, ← mkU_set h, List.map_set]
  rw [show nst false true 0 xss = nst false true 0 (mkU k xss 0) by rw [e0]]
  obtain ⟨U, hU⟩ : ∃ U : Nat → Hp, U = fun i => nst false true 0 (mkU k xss i) := ⟨_, rfl⟩
  have hU' : ∀ i, nst false true 0 (mkU k xss i) = U i := fun i => by rw [hU]
  have hfin : U xss.length = nst false true 0 (mkA k xss) := by rw [← hU', en]
  simp only [hU'] at hcl hl g0 hA hS ⊢
  clear hU hU'
  have hN0 : ∀ i, 0 < (U i).length := fun i => by have := hl i; omega
  refine aloop (σ := Nat) (fun i => ([(0, tSS 0 xss.length), (1, tI (k + (tot (xss.take i) : Nat))), (5, tI i)], U i)) (fun i => i ≤ xss.length) (fun i => xss.length - i) 0 (List.range (U 0).length) (by omega) (wk_id (by simp [hl, nst_len, mkU_len]) (hcl 0) (by simp [slId, get_cons, get_nil, TV.hs, AV.hs, C.hs, RS.slot, zipSlots, hN0, List.take_zero, tot, Int.natCast_zero, Int.add_zero])) ?_
  intro i hi
  by_cases hc : i < xss.length
  · have hcd : decide ((i : Int) < (xss.length : Int)) = true := decide_eq_true (by omega)
    obtain ⟨x, hxi⟩ : ∃ x, xss[i]? = some x := ⟨_, List.getElem?_eq_getElem hc⟩
    have hxl := tot_mem (List.mem_of_getElem? hxi)
    have hti := tot_le xss (i + 1)
    have hts := tot_take hxi
    have c0 := nsC_at (b := 1) hxi
    simp (dsimp := false) only [hcd, g0 i, c0, Int.toNat_natCast, go_sem, Nat.reduceAdd, Nat.reduceBEq, Nat.reduceEqDiff, Nat.reduceLT, Nat.reduceLeDiff, reduceCtorEq, ↓reduceIte]
    repeat (refine And.intro (by first | exact True.intro | omega | kernel_rfl | (simp only [List.length_set, List.length_append, List.length_take, List.length_replicate, List.length_cons, true_and, and_true, List.length_nil, tabR_length]; omega)) ?_)
    refine ⟨_, (markIntS_g (hA i x hxi) (Nat.le_refl _) (by omega) (by omega) (by omega)).mono ?_⟩
    rintro _ G9 ⟨rfl, h9⟩
    rw [hS i x hxi] at h9
    have h9 := h9.symm
    subst h9
    simp (dsimp := false) only [hcd, go_sem, Nat.reduceAdd, Nat.reduceBEq, Nat.reduceEqDiff, Nat.reduceLT, Nat.reduceLeDiff, reduceCtorEq, ↓reduceIte]
    repeat (refine And.intro (by first | exact True.intro | omega | kernel_rfl | (simp only [List.length_set, List.length_append, List.length_take, List.length_replicate, List.length_cons, true_and, and_true, List.length_nil, tabR_length]; omega)) ?_)
    have e9 : k + ((tot (xss.take (i + 1)) : Nat) : Int) = k + ((tot (xss.take i) : Nat) : Int) + (x.length : Int) := by omega
    refine ⟨i + 1, List.range (U (i + 1)).length, ⟨by omega, by omega⟩, wk_id (by simp [hl, nst_len, mkU_len]) (hcl (i + 1)) (by simp [slId, get_cons, get_nil, TV.hs, AV.hs, C.hs, RS.slot, zipSlots, hN0, e9])⟩
  · have hcd : decide ((i : Int) < (xss.length : Int)) = false := decide_eq_false (by omega)
    have hie : i = xss.length := by omega
    subst hie
    have hti : xss.take xss.length = xss := List.take_of_length_le (by omega)
    simp (dsimp := false) only [hcd, hti, go_sem, Nat.reduceAdd, Nat.reduceBEq, Nat.reduceEqDiff, Nat.reduceLT, Nat.reduceLeDiff, reduceCtorEq, ↓reduceIte]
    refine afin (List.range (U xss.length).length) [aI (k + tot xss)] (U xss.length) (by simp) rfl (wk_id (by simp [hl, nst_len, mkU_len]) (hcl _) (by simp [slId, get_cons, get_nil, TV.hs, AV.hs, C.hs, RS.slot, zipSlots, hN0, hti])) ⟨by simp [rtv], hfin⟩
theorem markSS_g {G : Hp} {xss : List (List Int)} {c : Nat} {k : Int} (hN : Nst true true G c xss) (hx : xss.length ≤ 281474976710656) (ht : tot xss ≤ 281474976710656) (h0 : 0 ≤ k) (hk : k + tot xss ≤ 281474976710656) :
    ACalls Try.prog 35 [tSS c xss.length, tI k] (List.range' (c + 1) xss.length) G (fun t G' => t = tI (k + tot xss) ∧ Nst true true G' c (mkA k xss) ∧ G'.length = G.length ∧ ∀ (h : Nat) r, G[h]? = some r → (h < c ∨ c + xss.length < h) → G'[h]? = some r) := by
  have hlt := hN.lt
  refine (markSS_s xss k hx ht h0 hk).lift (List.range' c (xss.length + 1)) List.nodup_range' (fun h hh => by rw [List.mem_range'_1] at hh; omega)
    (rowsLe_of (by rw [nst_len]; simp) fun i h row h1 h2 => (nst_rowsG (by simp) (by simp) hN i h row h1 h2).2) (by simp [TV.ren, AV.ren, C.ren, range'_getD]) ?_ ?_ ?_
  · intro t ht' h hh
    simp only [List.mem_cons, List.not_mem_nil, or_false] at ht'
    rcases ht' with rfl | rfl <;> simp [TV.hs, AV.hs, C.hs] at hh <;> simp <;> omega
  · refine List.ext_getElem? fun j => ?_
    rw [List.getElem?_map]
    rcases Nat.lt_or_ge j xss.length with hj | hj
    · rw [List.getElem?_range' hj, List.getElem?_range' hj]
      simp only [Option.map_some]
      rw [range'_getD (by omega)]; congr 1; omega
    · rw [List.getElem?_eq_none (by simpa using hj), List.getElem?_eq_none (by simpa using hj)]; rfl
  · rintro t H' ⟨rfl, rfl⟩
    have hd : (nst false true 0 (mkA k xss)).drop (nst false true 0 xss).length = [] := List.drop_of_length_le (by rw [nst_len, nst_len, mkA_len]; omega)
    refine ⟨?_, by simp [liftT, TV.ren, AV.ren, C.ren], ?_⟩
    · have key : ∀ (a b : List (List Int)) (r : Row), r.own = false → a.length = b.length → ownIn (r :: a.map (rwI true)) (r :: b.map (rwI true)) := by
        intro a b r hr hab
        refine ⟨fun h => absurd h (by rw [hr]; simp), ?_⟩
        clear hr
        induction a generalizing b with
        | nil => cases b with
          | nil => trivial
          | cons y b => simp at hab
        | cons x a ih => cases b with
          | nil => simp at hab
          | cons y b => exact ⟨fun _ => .inr rfl, ih b (by simpa using hab)⟩
      simp only [nst]
      rw [nsC_mkA]
      exact key _ _ _ rfl (by rw [mkA_len])
    · simp only [liftH, hd, freshR, List.map_nil, List.append_nil]
      have hval : ∀ i x, xss[i]? = some x → (putBack (List.range' c (xss.length + 1)) (nst false true 0 xss) (nst false true 0 (mkA k xss)) (List.range' c (xss.length + 1)) G)[c + 1 + i]? = some (oI (marked x (k + ((tot (xss.take i) : Nat) : Int)) x.length)) := fun i x hx' => by
        have hi := getlt (G := xss.map rI) (h := i) (r := rI x) (by simp [hx'])
        rw [List.length_map] at hi
        have := pb_val (ρ' := List.range' c (xss.length + 1)) (ρ := List.range' c (xss.length + 1)) (H := nst false true 0 xss) (H' := nst false true 0 (mkA k xss)) (G := G) (i := i + 1) (g := c + 1 + i) (r := oI x) (r' := oI (marked x (k + ((tot (xss.take i) : Nat) : Int)) x.length)) List.nodup_range' (by rw [List.getElem?_range' (by omega)]; congr 1; omega) (by rw [nst, List.getElem?_cons_succ, List.getElem?_map, hx']; rfl) rfl (by rw [nst, List.getElem?_cons_succ, List.getElem?_map, mkA_get k xss i x hx']; rfl) (by omega)
        rw [this]; rfl
      have hkeep : ∀ g, (g < c + 1 ∨ c + xss.length < g) → (putBack (List.range' c (xss.length + 1)) (nst false true 0 xss) (nst false true 0 (mkA k xss)) (List.range' c (xss.length + 1)) G)[g]? = G[g]? := fun g hg => by
        refine pb_keep fun i r h1 h2 => ?_
        have hil := getlt h2
        rw [nst_len] at hil
        rw [List.getElem?_range' hil] at h1
        simp only [Option.some.injEq, Nat.one_mul] at h1
        have : i = 0 := by omega
        subst this
        simp only [nst, List.getElem?_cons_zero, Option.some.injEq] at h2
        subst h2; rfl
      refine ⟨⟨?_, ?_⟩, pb_len _ _ _ _ _, ?_⟩
      · rw [hkeep c (.inl (by omega)), nsC_mkA]; exact hN.cells
      · intro i x hx'
        have hi := getlt (G := (mkA k xss).map rI) (h := i) (r := rI x) (by simp [hx'])
        rw [List.length_map, mkA_len] at hi
        have hy := List.getElem?_eq_getElem hi
        rw [mkA_get k xss i _ hy] at hx'
        cases hx'
        exact hval i _ hy
      · intro h r hr hh
        rw [hkeep h (by omega)]; exact hr
end Go.Proofs.Ytpoappgfmjnioaa
