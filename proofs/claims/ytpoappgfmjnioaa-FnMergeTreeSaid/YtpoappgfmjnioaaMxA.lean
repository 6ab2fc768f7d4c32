/- Contracts on the tree of a list, in numbers, for the law on merge trees. -/
import Derived.Test.YtpoappgfmjnioaaPlMx
import Derived.Test.YtpoappgfmjnioaaCb
import Derived.Test.YtpoappgfmjnioaaVl
import Derived.Test.YtpoappgfmjnioaaVList
set_option linter.unusedSimpArgs false
set_option linter.unusedVariables false
set_option linter.unusedSectionVars false
set_option linter.unnecessarySimpa false
namespace Go.Proofs.Ytpoappgfmjnioaa
open Go Go.Ax
set_option maxRecDepth 10000
set_option maxHeartbeats 1000000

theorem lvs_0 (xs : List Int) : (lvs xs)[0]? = some xs := by
  rw [lvs_at (Nat.zero_le _)]; rfl
theorem tvB_lvs {xs : List Int} (h : validB xs = true) : tvB (lvs xs) = true := by
  rw [tvB_at (lvs_0 xs), h]; simp
theorem rngB_lvs {xs : List Int} (h : validB xs = true) {A B : Nat} (hAB : A ≤ B) (hB : B ≤ xs.length) : rngB (lvs xs) A B = true := by
  rw [rngB_at (tvB_lvs h) (lvs_0 xs), decide_eq_true (by omega), decide_eq_true (by omega), decide_eq_true (by omega)]; rfl
theorem cntM_v {xs : List Int} (h : validB xs = true) {A B : Nat} (k : Int) (hAB : A ≤ B) (hB : B ≤ xs.length) :
    cntM (lvs xs) A B k = [aI (cntB k (seg xs A (B - A)) : Nat), aI (nbN xs.length (mtDep xs.length) B A : Nat), aB true] := by
  rw [cntM, rngB_lvs h hAB hB, cond_true, head_at (lvs_0 xs), lvs_len, Int.toNat_natCast, Int.toNat_natCast, Nat.add_sub_cancel, cbT_val _ _ _ _ _ _ _ _ (by omega) hAB, Nat.zero_add, Nat.zero_add]
theorem kthM_v {xs : List Int} (h : validB xs = true) {A B k : Nat} (hAB : A ≤ B) (hB : B ≤ xs.length) (hk : k < B - A) :
    kthM (lvs xs) A B k = [aI ((srtL (seg xs A (B - A))).getD k 0), aB true] := by
  have : inB k 0 ((B : Int) - (A : Int) - 1) = true := by simp only [inB, Bool.and_eq_true, decide_eq_true_eq]; omega
  rw [kthM, rngB_lvs h hAB hB, this, head_at (lvs_0 xs), Int.toNat_natCast, Int.toNat_natCast, Int.toNat_natCast]; rfl
theorem kthM_no {xs : List Int} (A B : Nat) (hAB : A ≤ B) : kthM (lvs xs) A B ((B - A : Nat) : Int) = [aI 0, aB false] := by
  have : inB ((B - A : Nat) : Int) 0 ((B : Int) - (A : Int) - 1) = false := by
    simp only [inB, Bool.and_eq_false_iff, decide_eq_false_iff_not]; right; omega
  rw [kthM, this, Bool.and_false]; rfl
theorem lvs_mem {xs y : List Int} (h : y ∈ lvs xs) : y.length = xs.length := by
  simp only [lvs, List.mem_map] at h
  obtain ⟨d, _, rfl⟩ := h
  exact lvAt_len xs d
theorem valid_at {xs : List Int} (h : validB xs = true) {i : Nat} (hi : i < xs.length) : -100000 ≤ xs.getD i 0 ∧ xs.getD i 0 ≤ 100000 := by
  simp only [validB, Bool.and_eq_true, List.all_eq_true] at h
  have := h.2 (xs.getD i 0) (by rw [List.getD_eq_getElem?_getD, List.getElem?_eq_getElem hi]; exact List.getElem_mem hi)
  simpa [keyB, inB] using this
theorem kth_bd {xs : List Int} (h : validB xs = true) {A B k : Nat} (hB : B ≤ xs.length) (hk : k < B - A) : -100000 ≤ (srtL (seg xs A (B - A))).getD k 0 ∧ (srtL (seg xs A (B - A))).getD k 0 ≤ 100000 := by
  have hl := srtL_len (seg xs A (B - A))
  rw [seg_len] at hl
  have hm : (srtL (seg xs A (B - A))).getD k 0 ∈ srtL (seg xs A (B - A)) := by
    rw [List.getD_eq_getElem?_getD, List.getElem?_eq_getElem (by omega)]; exact List.getElem_mem _
  have hm2 := (srtL_perm (seg xs A (B - A))).mem_iff.1 hm
  obtain ⟨i, hi, e⟩ := mem_seg.1 hm2
  rw [← e]
  exact valid_at h (by omega)

/-! ### Calls in the heap of the law -/

theorem build_g {G : Hp} {h : Nat} {o : Bool} {xs : List Int} (hv : validB xs = true) (hG : G[h]? = some (rwI o xs)) :
    ACalls Try.prog 40 [tS h xs.length] [] G (fun t G' => t = .tup [aMt G.length (lvs xs).length, aB true] ∧ G' = G ++ nst true true G.length (lvs xs)) := by
  obtain ⟨h1, h2, h3⟩ := mtDep_ok (validB_len hv)
  have hl := iBuildMt_t xs (mtDep xs.length) hv h1 h2 h3
  rw [mtH_lvs xs _ h1] at hl
  have hl' : ACalls Try.prog 40 [tS 0 xs.length] [] [rI xs] (fun t H => t = .tup [aMt 1 (mtDep xs.length + 1), aB true] ∧ H = [rI xs] ++ nst true true 1 (lvs xs)) := hl
  refine (ACalls.liftN hl' [h] (by simp [Row.own]) nst_own (by simp) rfl ?_ (by simp [TV.ren, AV.ren, C.ren]) (by simp [TV.hs, AV.hs, C.hs])).mono ?_
  · intro i h' row h1 h2
    match i, h1, h2 with
    | 0, h1, h2 =>
      simp at h1 h2; subst h1; subst h2
      rw [hG]; exact ⟨getlt hG, rowLe_rw⟩
  · rintro t G' ⟨rfl, rfl⟩
    refine ⟨?_, by rw [nst_fresh (ρ := [h]) (b := 1) rfl]⟩
    simp only [TV.ren, List.map_cons, List.map_nil, AV.ren, C.ren, List.singleton_append, List.getD_cons_succ, freshR_range, nst_len]
    rw [range'_getD (by omega), lvs_len]; rfl
/-- vAt, its value said. -/
def vAtV (cs : List Int) (i : Nat) : Nat := if i < cs.length then (cs.getD i 0).toNat else (i * 7 + cs.length) % 256
theorem vAt_v (cs : List Int) (i : Nat) (hc : U8s cs) (hl : cs.length ≤ 65536) (hi : i ≤ 65536) : ACalls Try.prog 22 [tS 0 cs.length, tI i] [] [rU8 cs] (fun t H => t = tI (vAtV cs i) ∧ H = [rU8 cs]) := by
  refine afun (fun _ => none) [4] 1 Try.func22 rfl rfl mix (by kernel_rfl) (by kernel_rfl) (by simp [Try.f22]) rfl (by simp [msOwn, ownAll, Row.own]) ?_
  by_cases h : i < cs.length
  · have hd : decide ((i : Int) < cs.length) = true := by simp; omega
    have hb := hc i h
    have e : vAtV cs i = (cs.getD i 0).toNat := by rw [vAtV, if_pos h]
    obtain ⟨b, hbe⟩ : ∃ b : Nat, cs.getD i 0 = (b : Int) := ⟨(cs.getD i 0).toNat, by omega⟩
    rw [hbe, Int.toNat_natCast] at e
    rw [e]
    simp (dsimp := false) only [hd, hbe, go_sem, Nat.reduceAdd, Nat.reduceBEq, Nat.reduceEqDiff, Nat.reduceLT, Nat.reduceLeDiff, reduceCtorEq, ↓reduceIte]
    repeat (refine And.intro (by first | exact True.intro | omega | kernel_rfl | (simp only [List.length_set, List.length_append, List.length_take, List.length_replicate, List.length_cons, true_and, and_true, List.length_nil, tabR_length]; omega)) ?_)
    refine afin [0] [aI b] [rU8 cs] (by simp) rfl (weak_of (by decide) (by simp [RS.slot, List.map_cons, List.map_nil, rowsLe, rowLe, slotsLe, tvLe, TV.ren, AV.ren, C.ren, Dat.ren, Row.ren, TV.hs, AV.hs, C.hs, Dat.hs, get_cons, get_nil, zipSlots, List.getD_cons_zero, List.getD_cons_succ, List.getD_nil, -List.getD_eq_getElem?_getD])) (by simp [rtv])
  · have hd : decide ((i : Int) < cs.length) = false := by simp; omega
    have ev : vAtV cs i = (i * 7 + cs.length) % 256 := by rw [vAtV, if_neg h]
    have e : ((i : Int) * 7 + (cs.length : Int)).tmod 256 = (((i * 7 + cs.length) % 256 : Nat) : Int) := by
      rw [Int.tmod_eq_emod_of_nonneg (by omega)]; omega
    rw [ev]
    simp (dsimp := false) only [hd, e, go_sem, Nat.reduceAdd, Nat.reduceBEq, Nat.reduceEqDiff, Nat.reduceLT, Nat.reduceLeDiff, reduceCtorEq, ↓reduceIte]
    repeat (refine And.intro (by first | exact True.intro | omega | kernel_rfl | (simp only [List.length_set, List.length_append, List.length_take, List.length_replicate, List.length_cons, true_and, and_true, List.length_nil, tabR_length]; omega)) ?_)
    refine afin [0] [aI ((i * 7 + cs.length) % 256 : Nat)] [rU8 cs] (by simp) rfl (weak_of (by decide) (by simp [RS.slot, List.map_cons, List.map_nil, rowsLe, rowLe, slotsLe, tvLe, TV.ren, AV.ren, C.ren, Dat.ren, Row.ren, TV.hs, AV.hs, C.hs, Dat.hs, get_cons, get_nil, zipSlots, List.getD_cons_zero, List.getD_cons_succ, List.getD_nil, -List.getD_eq_getElem?_getD])) (by simp [rtv])
theorem vAtV_le (cs : List Int) (i : Nat) (hc : U8s cs) : vAtV cs i ≤ 255 := by
  unfold vAtV
  split
  · have := hc i (by assumption); omega
  · omega
theorem at_g {G : Hp} {cs : List Int} (i : Nat) (hG : G[0]? = some (rU8 cs)) (hc : U8s cs) (hl : cs.length ≤ 65536) (hi : i ≤ 65536) :
    ACalls Try.prog 22 [tS 0 cs.length, tI i] [] G (fun t G' => t = tI (vAtV cs i) ∧ G' = G) := by
  have h := vAt_v cs i hc hl hi
  have h' : ACalls Try.prog 22 [tS 0 cs.length, tI i] [] [rU8 cs] (fun t H => t = tI (vAtV cs i) ∧ H = [rU8 cs] ++ []) := h
  refine (ACalls.liftN h' [0] (by simp [Row.own]) (by simp) (by simp) rfl ?_ (by simp [TV.ren, AV.ren, C.ren]) (by simp [TV.hs, AV.hs, C.hs])).mono ?_
  · intro j h' row h1 h2
    match j, h1, h2 with
    | 0, h1, h2 =>
      simp at h1 h2; subst h1; subst h2
      rw [hG]; exact ⟨getlt hG, id, rfl, by simp [Dat.hs]⟩
  · rintro t G' ⟨rfl, rfl⟩
    simp [TV.ren, AV.ren, C.ren]
theorem same_g {G : Hp} {a b : Nat} {o o' : Bool} {xs : List Int} (hA : G[a]? = some (rwI o xs)) (hB : G[b]? = some (rwI o' xs)) (hab : a ≠ b) (hx : xs.length ≤ 281474976710656) :
    ACalls Try.prog 23 [tS a xs.length, tS b xs.length] [] G (fun t G' => t = tB true ∧ G' = G) := two_g hA hB hab (vInts_same xs hx)
theorem cnt_g {G : Hp} {c : Nat} {o o' : Bool} {xs : List Int} (hN : Nst o o' G c (lvs xs)) (hv : validB xs = true) {A B : Nat} (k : Int) (hAB : A ≤ B) (hB : B ≤ xs.length) :
    ACalls Try.prog 48 [tMt c (lvs xs).length, tI A, tI B, tI k] [] G (fun t G' => t = .tup [aI (cntB k (seg xs A (B - A)) : Nat), aI (nbN xs.length (mtDep xs.length) B A : Nat), aB true] ∧ G' = G) := by
  have h64 := validB_len hv
  have hD := (mtDep_ok h64).1
  have h := iCb_s (lvs xs) A B k (by rw [lvs_len]; omega) (fun x hx => by rw [lvs_mem hx]; omega)
  rw [cntM_v hv k hAB hB] at h
  exact ACalls.liftM [(A : Int), (B : Int), k] hN (fun _ => rfl) h
theorem kth_g {G : Hp} {c : Nat} {o o' : Bool} {xs : List Int} (hN : Nst o o' G c (lvs xs)) (hv : validB xs = true) {A B k : Nat} (hAB : A ≤ B) (hB : B ≤ xs.length) (hk : k < B - A) :
    ACalls Try.prog 49 [tMt c (lvs xs).length, tI A, tI B, tI k] [] G (fun t G' => t = .tup [aI ((srtL (seg xs A (B - A))).getD k 0), aB true] ∧ G' = G) := by
  have h64 := validB_len hv
  have hD := (mtDep_ok h64).1
  have h := iKth_s (lvs xs) A B k (by rw [lvs_len]; omega) (fun x hx => by rw [lvs_mem hx]; omega)
  rw [kthM_v hv hAB hB hk] at h
  exact ACalls.liftM [(A : Int), (B : Int), (k : Int)] hN (fun _ => rfl) h
theorem kth_no {G : Hp} {c : Nat} {o o' : Bool} {xs : List Int} (hN : Nst o o' G c (lvs xs)) (hv : validB xs = true) {A B : Nat} (hAB : A ≤ B) :
    ACalls Try.prog 49 [tMt c (lvs xs).length, tI A, tI B, tI (B - A : Nat)] [] G (fun t G' => t = .tup [aI 0, aB false] ∧ G' = G) := by
  have h64 := validB_len hv
  have hD := (mtDep_ok h64).1
  have h := iKth_s (lvs xs) A B (B - A : Nat) (by rw [lvs_len]; omega) (fun x hx => by rw [lvs_mem hx]; omega)
  rw [kthM_no A B hAB] at h
  exact ACalls.liftM [(A : Int), (B : Int), ((B - A : Nat) : Int)] hN (fun _ => rfl) h
theorem val_g {G : Hp} {c : Nat} {o o' : Bool} {xs : List Int} (hN : Nst o o' G c (lvs xs)) (hv : validB xs = true) :
    ACalls Try.prog 47 [tMt c (lvs xs).length] [] G (fun t G' => t = tB true ∧ G' = G) := by
  have h64 := validB_len hv
  have hD := (mtDep_ok h64).1
  have h := iIsValidMt_s (lvs xs) (by rw [lvs_len]; omega) (fun x hx => by rw [lvs_mem hx]; omega)
  rw [tvB_lvs hv] at h
  exact ACalls.liftM [] hN (fun _ => rfl) h
end Go.Proofs.Ytpoappgfmjnioaa
