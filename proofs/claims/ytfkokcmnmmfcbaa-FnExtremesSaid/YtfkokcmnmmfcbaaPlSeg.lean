/- Plain facts on parts of lists, exchanges and permutations: no program in sight. -/
import Derived.Test.YtfkokcmnmmfcbaaPlPart
set_option linter.unusedSimpArgs false
set_option linter.unusedVariables false
set_option linter.unusedSectionVars false
namespace Go.Proofs.Ytfkokcmnmmfcbaa
open Go Go.Ax

/-- The part of n elements that starts at o. -/
def seg (zs : List Int) (o n : Nat) : List Int := (List.range n).map (fun i => zs.getD (o + i) 0)
theorem seg_len (zs : List Int) (o n : Nat) : (seg zs o n).length = n := by simp [seg]
theorem seg_get (zs : List Int) (o : Nat) {n i : Nat} (h : i < n) : (seg zs o n).getD i 0 = zs.getD (o + i) 0 := by simp [seg, List.getD_eq_getElem?_getD, h]
theorem list_ext_getD {xs ys : List Int} (hl : xs.length = ys.length) (h : ∀ i, i < xs.length → xs.getD i 0 = ys.getD i 0) : xs = ys := by
  apply List.ext_getElem hl
  intro i h1 h2
  have := h i h1
  rwa [getD_lt h1, getD_lt h2] at this
theorem seg_all (zs : List Int) : seg zs 0 zs.length = zs := list_ext_getD (by rw [seg_len]) (fun i h => by rw [seg_len] at h; rw [seg_get _ _ h, Nat.zero_add])
theorem mem_seg {zs : List Int} {o n : Nat} {x : Int} : x ∈ seg zs o n ↔ ∃ i, i < n ∧ zs.getD (o + i) 0 = x := by simp [seg]

theorem count_set_lt {L : List Int} {i : Nat} {v a : Int} (h : i < L.length) : (L.set i v).count a + (if L.getD i 0 = a then 1 else 0) = L.count a + (if v = a then 1 else 0) := by
  induction L generalizing i with
  | nil => simp at h
  | cons y L ih =>
    cases i with
    | zero => simp only [List.set_cons_zero, List.count_cons, List.getD_cons_zero, beq_iff_eq]; omega
    | succ i =>
      have := ih (i := i) (by simpa using h)
      simp only [List.set_cons_succ, List.count_cons, List.getD_cons_succ, beq_iff_eq]; omega
theorem swp_perm {L : List Int} {i k : Nat} (hi : i < L.length) (hk : k < L.length) : (swp L i k).Perm L := by
  rw [List.perm_iff_count]
  intro a
  have h1 := count_set_lt (L := L) (i := i) (v := L.getD k 0) (a := a) hi
  have h2 := count_set_lt (L := L.set i (L.getD k 0)) (i := k) (v := L.getD i 0) (a := a) (by simpa using hk)
  unfold swp
  by_cases e : i = k
  · subst e
    have h3 : (L.set i (L.getD i 0)).getD i 0 = L.getD i 0 := by simp [List.getD_eq_getElem?_getD, hi]
    rw [h3] at h2; omega
  · have h3 : (L.set i (L.getD k 0)).getD k 0 = L.getD k 0 := by simp [List.getD_eq_getElem?_getD, List.getElem?_set_ne e]
    rw [h3] at h2; omega

/-- zs' is zs, the part (o, n) permuted. -/
structure PS (o n : Nat) (zs zs' : List Int) : Prop where
  len : zs'.length = zs.length
  out : ∀ q, q < o ∨ o + n ≤ q → zs'.getD q 0 = zs.getD q 0
  perm : (seg zs' o n).Perm (seg zs o n)
theorem PS.refl (o n : Nat) (zs : List Int) : PS o n zs zs := ⟨rfl, fun _ _ => rfl, List.Perm.refl _⟩
theorem PS.trans {o n : Nat} {a b c : List Int} (h1 : PS o n a b) (h2 : PS o n b c) : PS o n a c :=
  ⟨h2.len.trans h1.len, fun q hq => (h2.out q hq).trans (h1.out q hq), h2.perm.trans h1.perm⟩
theorem seg_swp {zs : List Int} {o n i k : Nat} (hl : o + n ≤ zs.length) (hi : i < n) (hk : k < n) : seg (swp zs (o + i) (o + k)) o n = swp (seg zs o n) i k := by
  apply list_ext_getD
  · rw [seg_len, swp_len, seg_len]
  · intro q hq
    rw [seg_len] at hq
    rw [seg_get _ _ hq, swp_get _ _ (by omega) (by omega), swp_get _ _ (by rw [seg_len]; omega) (by rw [seg_len]; omega), seg_get _ _ hi, seg_get _ _ hk, seg_get _ _ hq]
    by_cases h1 : q = k
    · rw [if_pos (by omega), if_pos h1]
    · rw [if_neg (by omega), if_neg h1]
      by_cases h2 : q = i
      · rw [if_pos (by omega), if_pos h2]
      · rw [if_neg (by omega), if_neg h2]
theorem PS.swp {zs : List Int} {o n i k : Nat} (hl : o + n ≤ zs.length) (hi : i < n) (hk : k < n) : PS o n zs (swp zs (o + i) (o + k)) := by
  refine ⟨swp_len _ _ _, fun q hq => ?_, ?_⟩
  · rw [swp_get _ _ (by omega) (by omega), if_neg (by omega), if_neg (by omega)]
  · rw [seg_swp hl hi hk]
    exact swp_perm (by rw [seg_len]; exact hi) (by rw [seg_len]; exact hk)
theorem getD_appL {xs ys : List Int} {i : Nat} (h : i < xs.length) : (xs ++ ys).getD i 0 = xs.getD i 0 := by simp [List.getD_eq_getElem?_getD, List.getElem?_append, h]
theorem getD_appR {xs ys : List Int} {i : Nat} (h : xs.length ≤ i) : (xs ++ ys).getD i 0 = ys.getD (i - xs.length) 0 := by
  simp only [List.getD_eq_getElem?_getD, List.getElem?_append_right h]
theorem seg_split (zs : List Int) (o a b : Nat) : seg zs o (a + b) = seg zs o a ++ seg zs (o + a) b := by
  apply list_ext_getD
  · simp [seg_len]
  · intro i hi
    rw [seg_len] at hi
    rw [seg_get _ _ hi]
    by_cases h : i < a
    · rw [getD_appL (by rw [seg_len]; exact h), seg_get _ _ h]
    · rw [getD_appR (by rw [seg_len]; omega), seg_len, seg_get _ _ (by omega)]
      congr 1; omega
theorem seg_congr {zs zs' : List Int} {o n : Nat} (h : ∀ i, i < n → zs.getD (o + i) 0 = zs'.getD (o + i) 0) : seg zs o n = seg zs' o n := by
  unfold seg
  apply List.map_congr_left
  intro i hi
  exact h i (by simpa using hi)
/-- A part of a part. -/
theorem PS.up {o n o' n' : Nat} {zs zs' : List Int} (h : PS o' n' zs zs') (h1 : o ≤ o') (h2 : o' + n' ≤ o + n) : PS o n zs zs' := by
  refine ⟨h.len, fun q hq => h.out q (by omega), ?_⟩
  have e1 : n = (o' - o) + (n' + (o + n - (o' + n'))) := by omega
  rw [e1, seg_split, seg_split, seg_split zs, seg_split zs]
  have e2 : o + (o' - o) = o' := by omega
  rw [e2]
  have a1 : seg zs' o (o' - o) = seg zs o (o' - o) := seg_congr (fun i hi => h.out _ (by omega))
  have a2 : seg zs' (o' + n') (o + n - (o' + n')) = seg zs (o' + n') (o + n - (o' + n')) := seg_congr (fun i hi => h.out _ (by omega))
  rw [a1, a2]
  exact (List.Perm.refl _).append (h.perm.append (List.Perm.refl _))
theorem PS.mem {o n : Nat} {zs zs' : List Int} (h : PS o n zs zs') {i : Nat} (hi : i < n) : ∃ j, j < n ∧ zs'.getD (o + j) 0 = zs.getD (o + i) 0 := by
  have : zs.getD (o + i) 0 ∈ seg zs' o n := h.perm.mem_iff.mpr (mem_seg.mpr ⟨i, hi, rfl⟩)
  exact mem_seg.mp this
theorem PS.symm {o n : Nat} {zs zs' : List Int} (h : PS o n zs zs') : PS o n zs' zs := ⟨h.len.symm, fun q hq => (h.out q hq).symm, h.perm.symm⟩
/-- What holds of all elements of the part holds of them behind it. -/
theorem PS.all {o n : Nat} {zs zs' : List Int} (h : PS o n zs zs') {p : Int → Prop} (hp : ∀ i, i < n → p (zs.getD (o + i) 0)) : ∀ i, i < n → p (zs'.getD (o + i) 0) := fun i hi => by
  obtain ⟨j, hj, e⟩ := h.symm.mem hi
  rw [← e]; exact hp j hj
theorem PS.whole {zs zs' : List Int} (h : PS 0 zs.length zs zs') : zs'.Perm zs := by
  have := h.perm
  rw [seg_all] at this
  rw [← h.len] at this
  rwa [seg_all] at this

/-- The three-way partition: it permutes, and its parts are what they should be. -/
theorem twF_ok (o n : Nat) (x : Int) : ∀ (f lt i gt : Nat) (zs : List Int), o + n ≤ zs.length → lt ≤ i → i ≤ gt → gt ≤ n → gt ≤ i + f →
    (∀ q, q < lt → zs.getD (o + q) 0 < x) → (∀ q, lt ≤ q → q < i → zs.getD (o + q) 0 = x) → (∀ q, gt ≤ q → q < n → x < zs.getD (o + q) 0) →
    PS o n zs (twF o x f lt i gt zs).2.2 ∧ (∀ q, q < (twF o x f lt i gt zs).1 → (twF o x f lt i gt zs).2.2.getD (o + q) 0 < x) ∧
    (∀ q, (twF o x f lt i gt zs).1 ≤ q → q < (twF o x f lt i gt zs).2.1 → (twF o x f lt i gt zs).2.2.getD (o + q) 0 = x) ∧ (∀ q, (twF o x f lt i gt zs).2.1 ≤ q → q < n → x < (twF o x f lt i gt zs).2.2.getD (o + q) 0)
  | 0, lt, i, gt, zs, hl, h1, h2, h3, h4, a, b, c => by
    have : i = gt := by omega
    subst this
    exact ⟨PS.refl _ _ _, a, b, c⟩
  | f + 1, lt, i, gt, zs, hl, h1, h2, h3, h4, a, b, c => by
    by_cases hc : i < gt
    · by_cases c1 : zs.getD (o + i) 0 < x
      · rw [twF_lt hc c1]
        have hsw : ∀ q, (swp zs (o + i) (o + lt)).getD (o + q) 0 = if q = lt then zs.getD (o + i) 0 else if q = i then zs.getD (o + lt) 0 else zs.getD (o + q) 0 := fun q => by
          rw [swp_get _ _ (by omega) (by omega)]
          by_cases e1 : q = lt
          · rw [if_pos (by omega), if_pos e1]
          · rw [if_neg (by omega), if_neg e1]
            by_cases e2 : q = i
            · rw [if_pos (by omega), if_pos e2]
            · rw [if_neg (by omega), if_neg e2]
        have ih := twF_ok o n x f (lt + 1) (i + 1) gt (swp zs (o + i) (o + lt)) (by rw [swp_len]; exact hl) (by omega) (by omega) h3 (by omega)
          (fun q hq => by
            rw [hsw]; split
            · exact c1
            · split
              · omega
              · exact a q (by omega))
          (fun q hq1 hq2 => by
            rw [hsw]; split
            · omega
            · split
              · exact b lt (by omega) (by omega)
              · exact b q (by omega) (by omega))
          (fun q hq1 hq2 => by
            rw [hsw]; split
            · omega
            · split
              · omega
              · exact c q hq1 hq2)
        exact ⟨(PS.swp hl (by omega) (by omega)).trans ih.1, ih.2⟩
      · by_cases c2 : x < zs.getD (o + i) 0
        · rw [twF_gt hc c1 c2]
          have hsw : ∀ q, (swp zs (o + i) (o + (gt - 1))).getD (o + q) 0 = if q = gt - 1 then zs.getD (o + i) 0 else if q = i then zs.getD (o + (gt - 1)) 0 else zs.getD (o + q) 0 := fun q => by
            rw [swp_get _ _ (by omega) (by omega)]
            by_cases e1 : q = gt - 1
            · rw [if_pos (by omega), if_pos e1]
            · rw [if_neg (by omega), if_neg e1]
              by_cases e2 : q = i
              · rw [if_pos (by omega), if_pos e2]
              · rw [if_neg (by omega), if_neg e2]
          have ih := twF_ok o n x f lt i (gt - 1) (swp zs (o + i) (o + (gt - 1))) (by rw [swp_len]; exact hl) (by omega) (by omega) (by omega) (by omega)
            (fun q hq => by rw [hsw, if_neg (by omega), if_neg (by omega)]; exact a q hq)
            (fun q hq1 hq2 => by rw [hsw, if_neg (by omega), if_neg (by omega)]; exact b q hq1 hq2)
            (fun q hq1 hq2 => by
              rw [hsw]; split
              · exact c2
              · rw [if_neg (by omega)]; exact c q (by omega) hq2)
          exact ⟨(PS.swp hl (by omega) (by omega)).trans ih.1, ih.2⟩
        · rw [twF_eq hc c1 c2]
          exact twF_ok o n x f lt (i + 1) gt zs hl (by omega) (by omega) h3 (by omega) a (fun q hq1 hq2 => by
            by_cases e : q = i
            · subst e; omega
            · exact b q hq1 (by omega)) c
    · rw [twF_out hc]
      have : i = gt := by omega
      subst this
      exact ⟨PS.refl _ _ _, a, b, c⟩
theorem tway_ok (o n : Nat) (x : Int) (zs : List Int) (hl : o + n ≤ zs.length) : PS o n zs (tway o n x zs).2.2 ∧ (∀ q, q < (tway o n x zs).1 → (tway o n x zs).2.2.getD (o + q) 0 < x) ∧
    (∀ q, (tway o n x zs).1 ≤ q → q < (tway o n x zs).2.1 → (tway o n x zs).2.2.getD (o + q) 0 = x) ∧ (∀ q, (tway o n x zs).2.1 ≤ q → q < n → x < (tway o n x zs).2.2.getD (o + q) 0) :=
  twF_ok o n x n 0 0 n zs hl (by omega) (by omega) (by omega) (by omega) (fun q h => by omega) (fun q h1 h2 => by omega) (fun q h1 h2 => by omega)
/-- With a pivot of the list's own the middle part is not empty. -/
theorem tway_mid {o n i : Nat} {x : Int} {zs : List Int} (hl : o + n ≤ zs.length) (hi : i < n) (hx : zs.getD (o + i) 0 = x) : (tway o n x zs).1 < (tway o n x zs).2.1 := by
  obtain ⟨h1, h2, h3, h4⟩ := tway_ok o n x zs hl
  obtain ⟨j, hj, e⟩ := h1.mem hi
  rw [hx] at e
  rcases Nat.lt_or_ge j (tway o n x zs).1 with h | h
  · have := h2 j h; omega
  · rcases Nat.lt_or_ge j (tway o n x zs).2.1 with h' | h'
    · omega
    · have := h4 j h' hj; omega
end Go.Proofs.Ytfkokcmnmmfcbaa
