/- Plain facts on the flag pass: no program in sight. -/
import Derived.Test.YtpoappgfmjnioaaOwn
set_option linter.unusedSimpArgs false
set_option linter.unusedVariables false
set_option linter.unusedSectionVars false
namespace Go.Proofs.Ytpoappgfmjnioaa
open Go Go.Ax

/-- How many of the first i elements have a digit below d. -/
def cB (dg : Int → Nat) (xs : List Int) (d : Nat) : Nat → Nat
  | 0 => 0
  | i + 1 => cB dg xs d i + (if dg (xs.getD i 0) < d then 1 else 0)
/-- How many of the first i elements have digit d. -/
def cE (dg : Int → Nat) (xs : List Int) (d : Nat) : Nat → Nat
  | 0 => 0
  | i + 1 => cE dg xs d i + (if dg (xs.getD i 0) = d then 1 else 0)
theorem cB_le (dg : Int → Nat) (xs : List Int) (d : Nat) : ∀ i, cB dg xs d i ≤ i
  | 0 => Nat.le_refl _
  | i + 1 => by have := cB_le dg xs d i; rw [cB]; split <;> omega
theorem cB_succ (dg : Int → Nat) (xs : List Int) (d : Nat) : ∀ i, cB dg xs (d + 1) i = cB dg xs d i + cE dg xs d i
  | 0 => rfl
  | i + 1 => by
    rw [cB, cB, cE, cB_succ dg xs d i]
    split <;> split <;> split <;> omega
theorem cB_zero (dg : Int → Nat) (xs : List Int) : ∀ i, cB dg xs 0 i = 0
  | 0 => rfl
  | i + 1 => by rw [cB, cB_zero dg xs i, if_neg (by omega)]
theorem cB_all {dg : Int → Nat} {xs : List Int} {B : Nat} : ∀ i, (∀ k, k < i → dg (xs.getD k 0) < B) → cB dg xs B i = i
  | 0, _ => rfl
  | i + 1, h => by rw [cB, cB_all i (fun k hk => h k (by omega)), if_pos (h i (by omega))]
theorem cB_mono (dg : Int → Nat) (xs : List Int) (i : Nat) {d e : Nat} (h : d ≤ e) : cB dg xs d i ≤ cB dg xs e i := by
  induction e with
  | zero => have : d = 0 := by omega
            subst this; exact Nat.le_refl _
  | succ e ih =>
    by_cases h1 : d = e + 1
    · subst h1; exact Nat.le_refl _
    · have := ih (by omega)
      rw [cB_succ]; omega

/-- How many elements of a list have digit d. -/
def nE (dg : Int → Nat) (d : Nat) (xs : List Int) : Nat := (xs.map fun x => if dg x = d then 1 else 0).sum
theorem nE_app (dg : Int → Nat) (d : Nat) (xs ys : List Int) : nE dg d (xs ++ ys) = nE dg d xs + nE dg d ys := by simp [nE]
theorem cE_take (dg : Int → Nat) (xs : List Int) (d : Nat) : ∀ i, i ≤ xs.length → cE dg xs d i = nE dg d (xs.take i)
  | 0, _ => by simp [cE, nE]
  | i + 1, h => by
    have e : xs[i]? = some (xs.getD i 0) := by simp [List.getD_eq_getElem?_getD, show i < xs.length by omega]
    have e2 : nE dg d (some (xs.getD i 0)).toList = (if dg (xs.getD i 0) = d then 1 else 0) := by simp only [nE, Option.toList, List.map_cons, List.map_nil, List.sum_cons, List.sum_nil]; rfl
    rw [cE, cE_take dg xs d i (by omega), List.take_add_one, nE_app, e, e2]
theorem cE_all (dg : Int → Nat) (xs : List Int) (d : Nat) : cE dg xs d xs.length = nE dg d xs := by rw [cE_take dg xs d _ (Nat.le_refl _), List.take_length]
theorem nE_perm {dg : Int → Nat} {d : Nat} {xs ys : List Int} (h : xs.Perm ys) : nE dg d xs = nE dg d ys := (h.map _).sum_nat
/-- A part in which all elements have digit d, and one more of them outside. -/
theorem nE_more {dg : Int → Nat} {d a b q : Nat} {xs : List Int} (hab : a ≤ b) (hb : b ≤ xs.length) (h : ∀ p, a ≤ p → p < b → dg (xs.getD p 0) = d) (hq : q < xs.length) (hq2 : q < a ∨ b ≤ q) (hd : dg (xs.getD q 0) = d) : b - a + 1 ≤ nE dg d xs := by
  have hseg : ∀ n, a + n ≤ b → n ≤ nE dg d ((xs.drop a).take n) := by
    intro n
    induction n with
    | zero => intro _; omega
    | succ n ih =>
      intro hn
      have := ih (by omega)
      rw [List.take_add_one, nE_app]
      have e : (xs.drop a)[n]? = some (xs.getD (a + n) 0) := by
        rw [List.getElem?_drop]; simp [List.getD_eq_getElem?_getD, show a + n < xs.length by omega]
      rw [e]
      have e2 : nE dg d (some (xs.getD (a + n) 0)).toList = 1 := by simp only [nE, Option.toList, List.map_cons, List.map_nil, List.sum_cons, List.sum_nil]; rw [if_pos (h _ (by omega) (by omega))]; rfl
      omega
  have hone : ∀ (ys : List Int) i, i < ys.length → dg (ys.getD i 0) = d → 1 ≤ nE dg d ys := by
    intro ys
    induction ys with
    | nil => intro i hi; simp at hi
    | cons y ys ih =>
      intro i hi hy
      have e : nE dg d (y :: ys) = (if dg y = d then 1 else 0) + nE dg d ys := by simp [nE]
      rw [e]
      cases i with
      | zero =>
        rw [List.getD_cons_zero] at hy
        rw [if_pos hy]; omega
      | succ i =>
        rw [List.getD_cons_succ] at hy
        have := ih i (by simpa using hi) hy
        omega
  have ecut : xs = xs.take a ++ ((xs.drop a).take (b - a) ++ xs.drop b) := by
    have e : xs.drop b = (xs.drop a).drop (b - a) := by rw [List.drop_drop]; congr 1; omega
    rw [e, List.take_append_drop, List.take_append_drop]
  have hs := hseg (b - a) (by omega)
  have en : nE dg d xs = nE dg d (xs.take a) + (nE dg d ((xs.drop a).take (b - a)) + nE dg d (xs.drop b)) := by
    conv => lhs; rw [ecut]
    rw [nE_app, nE_app]
  rcases hq2 with hq2 | hq2
  · have := hone (xs.take a) q (by simp; omega) (by
      rw [← hd]; simp only [List.getD_eq_getElem?_getD, List.getElem?_take, if_pos hq2])
    omega
  · have := hone (xs.drop b) (q - b) (by simp; omega) (by
      rw [← hd]; simp only [List.getD_eq_getElem?_getD, List.getElem?_drop]; congr 3; omega)
    omega
theorem swp_self {zs : List Int} {a : Nat} : swp zs a a = zs := by
  unfold swp
  apply List.ext_getElem?
  intro i
  simp only [List.getElem?_set, List.length_set, List.getD_eq_getElem?_getD]
  by_cases e : a = i
  · subst e
    by_cases h : a < zs.length
    · simp [h]
    · simp [h]
  · simp [e]
theorem swp_get' (zs : List Int) {a b : Nat} (ha : a < zs.length) (hb : b < zs.length) (q : Nat) : (swp zs a b).getD q 0 = if q = b then zs.getD a 0 else if q = a then zs.getD b 0 else zs.getD q 0 := by
  unfold swp
  simp only [List.getD_eq_getElem?_getD, List.getElem?_set, List.length_set]
  by_cases h1 : q = b
  · subst h1; simp [hb]
  · rw [if_neg (Ne.symm h1), if_neg h1]
    by_cases h2 : q = a
    · subst h2; simp [ha]
    · rw [if_neg (Ne.symm h2), if_neg h2]
theorem cnt_set {L : List Int} {i : Nat} {v a : Int} (h : i < L.length) : (L.set i v).count a + (if L.getD i 0 = a then 1 else 0) = L.count a + (if v = a then 1 else 0) := by
  induction L generalizing i with
  | nil => simp at h
  | cons y L ih =>
    cases i with
    | zero => simp only [List.set_cons_zero, List.count_cons, List.getD_cons_zero, beq_iff_eq]; omega
    | succ i =>
      have := ih (i := i) (by simpa using h)
      simp only [List.set_cons_succ, List.count_cons, List.getD_cons_succ, beq_iff_eq]; omega
theorem swp_perm' {L : List Int} {i k : Nat} (hi : i < L.length) (hk : k < L.length) : (swp L i k).Perm L := by
  rw [List.perm_iff_count]
  intro a
  have h1 := cnt_set (L := L) (i := i) (v := L.getD k 0) (a := a) hi
  have h2 := cnt_set (L := L.set i (L.getD k 0)) (i := k) (v := L.getD i 0) (a := a) (by simpa using hk)
  unfold swp
  by_cases e : i = k
  · subst e
    have h3 : (L.set i (L.getD i 0)).getD i 0 = L.getD i 0 := by simp [List.getD_eq_getElem?_getD, hi]
    rw [h3] at h2; omega
  · have h3 : (L.set i (L.getD k 0)).getD k 0 = L.getD k 0 := by simp [List.getD_eq_getElem?_getD, List.getElem?_set_ne e]
    rw [h3] at h2; omega

/-! ### The pass -/
/-- Where the part of digit d begins in the end. -/
def C0 (dg : Int → Nat) (xs : List Int) (d : Nat) : Nat := cB dg xs d xs.length
theorem C0_le (dg : Int → Nat) (xs : List Int) (d : Nat) : C0 dg xs d ≤ xs.length := cB_le _ _ _ _
theorem C0_succ (dg : Int → Nat) (xs : List Int) (d : Nat) : C0 dg xs (d + 1) = C0 dg xs d + nE dg d xs := by unfold C0; rw [cB_succ, cE_all]
theorem C0_mono (dg : Int → Nat) (xs : List Int) {d e : Nat} (h : d ≤ e) : C0 dg xs d ≤ C0 dg xs e := cB_mono _ _ _ h

/-- The list, and the places of the next element of each digit. -/
structure FI (dg : Int → Nat) (B : Nat) (xs zs nx : List Int) (pl : Nat → Nat) : Prop where
  perm : zs.Perm xs
  nlen : B ≤ nx.length
  nval : ∀ d, d < B → nx.getD d 0 = (pl d : Int)
  lo : ∀ d, d < B → C0 dg xs d ≤ pl d
  hi : ∀ d, d < B → pl d ≤ C0 dg xs (d + 1)
  in_ : ∀ d, d < B → ∀ p, C0 dg xs d ≤ p → p < pl d → dg (zs.getD p 0) = d
/-- One step of the pass. -/
def fStep (dg : Int → Nat) (b : Nat) (zs : List Int) (pl : Nat → Nat) : List Int × (Nat → Nat) × Nat :=
  let d := dg (zs.getD (pl b) 0)
  (if d = b then zs else swp zs (pl b) (pl d), fun e => if e = d then pl e + 1 else pl e, if d = b then 0 else 1)
/-- The pass: fuel, the digit, the list, the places, the exchanges. -/
def fRun (dg : Int → Nat) (B : Nat) (E : Nat → Nat) : Nat → Nat → List Int → (Nat → Nat) → Nat → List Int × Nat
  | 0, _, zs, _, s => (zs, s)
  | f + 1, b, zs, pl, s => if b < B then (if pl b < E b then fRun dg B E f b (fStep dg b zs pl).1 (fStep dg b zs pl).2.1 (s + (fStep dg b zs pl).2.2) else fRun dg B E f (b + 1) zs pl s) else (zs, s)
/-- How many elements stand where they belong. -/
def plN (dg : Int → Nat) (xs : List Int) (pl : Nat → Nat) : Nat → Nat
  | 0 => 0
  | d + 1 => plN dg xs pl d + (pl d - C0 dg xs d)
theorem plN_le {dg : Int → Nat} {B : Nat} {xs zs nx : List Int} {pl : Nat → Nat} (h : FI dg B xs zs nx pl) : ∀ d, d ≤ B → plN dg xs pl d ≤ C0 dg xs d
  | 0, _ => by simp [plN]
  | d + 1, hd => by
    have := plN_le h d (by omega)
    have h1 := h.hi d (by omega)
    have h2 := h.lo d (by omega)
    have h3 := C0_mono dg xs (show d ≤ d + 1 by omega)
    rw [plN]; omega
theorem plN_step (dg : Int → Nat) (xs : List Int) {pl : Nat → Nat} {e : Nat} : ∀ B, (C0 dg xs e ≤ pl e) → plN dg xs (fun x => if x = e then pl x + 1 else pl x) B = plN dg xs pl B + (if e < B then 1 else 0)
  | 0, _ => by simp [plN]
  | B + 1, h => by
    rw [plN, plN, plN_step dg xs B h]
    by_cases h1 : B = e
    · subst h1; rw [if_pos rfl, if_neg (by omega), if_pos (by omega)]; omega
    · rw [if_neg h1]
      by_cases h2 : e < B
      · rw [if_pos h2, if_pos (by omega)]; omega
      · rw [if_neg h2, if_neg (by omega)]; omega
theorem plN_mono (dg : Int → Nat) (xs : List Int) (pl : Nat → Nat) (B : Nat) : plN dg xs pl B ≤ plN dg xs pl B := Nat.le_refl _

theorem FI.room {dg : Int → Nat} {B : Nat} {xs zs nx : List Int} {pl : Nat → Nat} (h : FI dg B xs zs nx pl) (hB : ∀ x ∈ xs, dg x < B) {b : Nat} (hb : b < B) (hlt : pl b < C0 dg xs (b + 1)) :
    pl b < zs.length ∧ dg (zs.getD (pl b) 0) < B ∧ pl (dg (zs.getD (pl b) 0)) < C0 dg xs (dg (zs.getD (pl b) 0) + 1) ∧ pl (dg (zs.getD (pl b) 0)) < zs.length := by
  have hl := h.perm.length_eq
  have hc := C0_le dg xs (b + 1)
  have h1 : pl b < zs.length := by omega
  have hm : zs.getD (pl b) 0 ∈ xs := h.perm.mem_iff.mp (getD_mem h1)
  have hd := hB _ hm
  obtain ⟨d, hde⟩ : ∃ d, d = dg (zs.getD (pl b) 0) := ⟨_, rfl⟩
  rw [← hde] at hd ⊢
  have key : pl d < C0 dg xs (d + 1) := by
    rcases Nat.lt_or_ge (pl d) (C0 dg xs (d + 1)) with hlt2 | hge
    · exact hlt2
    · exfalso
      have h4 := h.hi d hd
      have h5 := C0_succ dg xs d
      have h6 := C0_mono dg xs (show d ≤ d + 1 by omega)
      have h7 := C0_le dg xs (d + 1)
      have hne : d ≠ b := fun e => by subst e; omega
      have hq : pl b < C0 dg xs d ∨ C0 dg xs (d + 1) ≤ pl b := by
        rcases Nat.lt_or_ge d b with hdb | hdb
        · right
          have := C0_mono dg xs (show d + 1 ≤ b by omega)
          have := h.lo b hb
          omega
        · left
          have := C0_mono dg xs (show b + 1 ≤ d by omega)
          omega
      have := nE_more (dg := dg) (d := d) (xs := zs) h6 (by omega) (fun p hp1 hp2 => h.in_ d hd p hp1 (by omega)) h1 hq hde.symm
      rw [nE_perm h.perm] at this
      omega
  exact ⟨h1, hd, key, by have := C0_le dg xs (d + 1); omega⟩
theorem FI.step {dg : Int → Nat} {B : Nat} {xs zs nx : List Int} {pl : Nat → Nat} (h : FI dg B xs zs nx pl) (hB : ∀ x ∈ xs, dg x < B) {b : Nat} (hb : b < B) (hlt : pl b < C0 dg xs (b + 1)) :
    FI dg B xs (fStep dg b zs pl).1 (nx.set (dg (zs.getD (pl b) 0)) (nx.getD (dg (zs.getD (pl b) 0)) 0 + 1)) (fStep dg b zs pl).2.1 ∧
    plN dg xs (fStep dg b zs pl).2.1 B = plN dg xs pl B + 1 ∧ (fStep dg b zs pl).2.2 ≤ 1 := by
  obtain ⟨h1, hd, h3, h4⟩ := h.room hB hb hlt
  obtain ⟨d, hde⟩ : ∃ d, d = dg (zs.getD (pl b) 0) := ⟨_, rfl⟩
  rw [← hde] at hd h3 h4
  unfold fStep
  simp only
  rw [← hde]
  have e : (if d = b then zs else swp zs (pl b) (pl d)) = swp zs (pl b) (pl d) := by
    split
    · rename_i e; rw [e, swp_self]
    · rfl
  rw [e]
  have hnl := h.nlen
  refine ⟨⟨(swp_perm' h1 h4).trans h.perm, by simpa using hnl, fun c hc => ?_, fun c hc => ?_, fun c hc => ?_, fun c hc p hp1 hp2 => ?_⟩, ?_, by split <;> omega⟩
  · by_cases ec : c = d
    · subst ec
      rw [if_pos rfl, h.nval c hc]
      simp [List.getD_eq_getElem?_getD, show c < nx.length by omega]
    · rw [if_neg ec, ← h.nval c hc]
      simp [List.getD_eq_getElem?_getD, List.getElem?_set_ne (Ne.symm ec)]
  · have := h.lo c hc
    split <;> omega
  · have := h.hi c hc
    split
    · rename_i ec; subst ec; omega
    · omega
  · have g := swp_get' zs h1 h4 p
    by_cases e1 : p = pl d
    · rw [g, if_pos e1, ← hde]
      -- only digit d has this place
      rcases Nat.lt_trichotomy c d with hcd | hcd | hcd
      · have := C0_mono dg xs (show c + 1 ≤ d by omega)
        have h5 := h.hi c hc
        have h6 := h.lo d hd
        rw [if_neg (by omega)] at hp2
        omega
      · exact hcd.symm
      · have := C0_mono dg xs (show d + 1 ≤ c by omega)
        omega
    · have e2 : p < pl c := by
        by_cases ec : c = d
        · subst ec; rw [if_pos rfl] at hp2; omega
        · rw [if_neg ec] at hp2; exact hp2
      rw [g, if_neg e1]
      by_cases e3 : p = pl b
      · exfalso
        rcases Nat.lt_trichotomy c b with hcb | hcb | hcb
        · have := C0_mono dg xs (show c + 1 ≤ b by omega)
          have h5 := h.hi c hc
          have h6 := h.lo b hb
          omega
        · subst hcb; omega
        · have := C0_mono dg xs (show b + 1 ≤ c by omega)
          omega
      · rw [if_neg e3]; exact h.in_ c hc p hp1 e2
  · rw [plN_step dg xs B (h.lo d hd), if_pos hd]

/-- What the pass leaves. -/
theorem fRun_ok {dg : Int → Nat} {B : Nat} {xs : List Int} (hB : ∀ x ∈ xs, dg x < B) : ∀ (f b : Nat) (zs nx : List Int) (pl : Nat → Nat) (s : Nat), FI dg B xs zs nx pl → b ≤ B → s ≤ plN dg xs pl B →
    (∀ c, c < b → pl c = C0 dg xs (c + 1)) → (B - b) + (xs.length - plN dg xs pl B) ≤ f →
    ∃ nx' pl', FI dg B xs (fRun dg B (fun d => C0 dg xs (d + 1)) f b zs pl s).1 nx' pl' ∧ (∀ c, c < B → pl' c = C0 dg xs (c + 1)) ∧ (fRun dg B (fun d => C0 dg xs (d + 1)) f b zs pl s).2 ≤ xs.length := by
  intro f
  induction f with
  | zero =>
    intro b zs nx pl s h hb hs hd hf
    have h1 := plN_le h B (Nat.le_refl _)
    have h2 := C0_le dg xs B
    exact ⟨nx, pl, h, fun c hc => hd c (by omega), by show s ≤ _; omega⟩
  | succ f ih =>
    intro b zs nx pl s h hb hs hd hf
    rw [fRun]
    by_cases h1 : b < B
    · rw [if_pos h1]
      by_cases h2 : pl b < C0 dg xs (b + 1)
      · rw [if_pos h2]
        obtain ⟨k1, k2, k3⟩ := h.step hB h1 h2
        refine ih b _ _ _ _ k1 hb (by omega) (fun c hc => ?_) (by
          have h6 := plN_le k1 B (Nat.le_refl _)
          have h7 := C0_le dg xs B
          omega)
        have hr := h.room hB h1 h2
        have hcE := hd c hc
        unfold fStep
        simp only
        by_cases ec : c = dg (zs.getD (pl b) 0)
        · rw [← ec] at hr; omega
        · rw [if_neg ec]; exact hcE
      · rw [if_neg h2]
        refine ih (b + 1) _ _ _ _ h h1 hs (fun c hc => ?_) (by omega)
        by_cases ec : c = b
        · subst ec; have := h.hi c h1; omega
        · exact hd c (by omega)
    · rw [if_neg h1]
      have h3 := plN_le h B (Nat.le_refl _)
      have h4 := C0_le dg xs B
      exact ⟨nx, pl, h, fun c hc => hd c (by omega), by show s ≤ _; omega⟩

/-- The whole pass. -/
def flagF (dg : Int → Nat) (B : Nat) (xs : List Int) : List Int × Nat := fRun dg B (fun d => C0 dg xs (d + 1)) (B + xs.length) 0 xs (C0 dg xs) 0
theorem plN_zero (dg : Int → Nat) (xs : List Int) : ∀ d, plN dg xs (C0 dg xs) d = 0
  | 0 => rfl
  | d + 1 => by rw [plN, plN_zero dg xs d]; omega
theorem FI.start (dg : Int → Nat) (B : Nat) (xs nx : List Int) (hn : B ≤ nx.length) (hv : ∀ d, d < B → nx.getD d 0 = (C0 dg xs d : Int)) : FI dg B xs xs nx (C0 dg xs) :=
  ⟨List.Perm.refl _, hn, hv, fun d _ => Nat.le_refl _, fun d _ => C0_mono dg xs (by omega), fun d _ p h1 h2 => by omega⟩
theorem flagF_ok {dg : Int → Nat} {B : Nat} {xs : List Int} (hB : ∀ x ∈ xs, dg x < B) :
    (flagF dg B xs).1.Perm xs ∧ (∀ d p, d < B → C0 dg xs d ≤ p → p < C0 dg xs (d + 1) → dg ((flagF dg B xs).1.getD p 0) = d) ∧ (flagF dg B xs).2 ≤ xs.length := by
  obtain ⟨nx, pl, h1, h2, h3⟩ := fRun_ok hB (B + xs.length) 0 xs ((List.range B).map fun d => (C0 dg xs d : Int)) (C0 dg xs) 0 (FI.start dg B xs _ (by simp) (fun d hd => by simp [List.getD_eq_getElem?_getD, hd])) (by omega) (by omega) (fun c hc => by omega) (by omega)
  exact ⟨h1.perm, fun d p hd hp1 hp2 => h1.in_ d hd p hp1 (by rw [h2 d hd]; exact hp2), h3⟩
theorem C0_perm {dg : Int → Nat} {xs ys : List Int} (h : xs.Perm ys) : ∀ d, C0 dg xs d = C0 dg ys d
  | 0 => by unfold C0; rw [cB_zero, cB_zero]
  | d + 1 => by rw [C0_succ, C0_succ, C0_perm h d, nE_perm h]
/-- The digit of a place. -/
theorem C0_find {dg : Int → Nat} {B : Nat} {xs : List Int} (hB : ∀ x ∈ xs, dg x < B) {p : Nat} (hp : p < xs.length) : ∃ d, d < B ∧ C0 dg xs d ≤ p ∧ p < C0 dg xs (d + 1) := by
  have hall : C0 dg xs B = xs.length := cB_all _ (fun k hk => hB _ (getD_mem hk))
  have h0 : C0 dg xs 0 = 0 := cB_zero _ _ _
  have : ∀ n, n ≤ B → (∃ d, d < n ∧ C0 dg xs d ≤ p ∧ p < C0 dg xs (d + 1)) ∨ C0 dg xs n ≤ p := by
    intro n
    induction n with
    | zero => intro _; right; omega
    | succ n ih =>
      intro hn
      rcases ih (by omega) with ⟨d, h1, h2, h3⟩ | h1
      · exact .inl ⟨d, by omega, h2, h3⟩
      · rcases Nat.lt_or_ge p (C0 dg xs (n + 1)) with h2 | h2
        · exact .inl ⟨n, by omega, h1, h2⟩
        · exact .inr h2
  rcases this B (Nat.le_refl _) with ⟨d, h1, h2, h3⟩ | h1
  · exact ⟨d, h1, h2, h3⟩
  · omega
theorem flagF_sorted {dg : Int → Nat} {B : Nat} {xs : List Int} (hB : ∀ x ∈ xs, dg x < B) {p q : Nat} (hpq : p < q) (hq : q < xs.length) : dg ((flagF dg B xs).1.getD p 0) ≤ dg ((flagF dg B xs).1.getD q 0) := by
  obtain ⟨_, h, _⟩ := flagF_ok hB
  obtain ⟨d, hd, hd1, hd2⟩ := C0_find hB (show p < xs.length by omega)
  obtain ⟨e, he, he1, he2⟩ := C0_find hB hq
  rw [h d p hd hd1 hd2, h e q he he1 he2]
  rcases Nat.lt_or_ge e d with h1 | h1
  · have := C0_mono dg xs (show e + 1 ≤ d by omega); omega
  · exact h1
/-- On a list that is grouped already the pass does nothing. -/
theorem fRun_id {dg : Int → Nat} {B : Nat} {xs : List Int} (hin : ∀ d p, d < B → C0 dg xs d ≤ p → p < C0 dg xs (d + 1) → dg (xs.getD p 0) = d) : ∀ (f b : Nat) (pl : Nat → Nat), (∀ d, d < B → C0 dg xs d ≤ pl d) → fRun dg B (fun d => C0 dg xs (d + 1)) f b xs pl 0 = (xs, 0) := by
  intro f
  induction f with
  | zero => intro b pl _; rfl
  | succ f ih =>
    intro b pl h
    rw [fRun]
    by_cases h1 : b < B
    · rw [if_pos h1]
      by_cases h2 : pl b < C0 dg xs (b + 1)
      · rw [if_pos h2]
        have hd := hin b (pl b) h1 (h b h1) h2
        have e : fStep dg b xs pl = (xs, fun e => if e = b then pl e + 1 else pl e, 0) := by
          unfold fStep
          simp only [hd, if_true]
        rw [e]
        exact ih b _ (fun d hd => by have := h d hd; dsimp only; split <;> omega)
      · rw [if_neg h2]; exact ih (b + 1) pl h
    · rw [if_neg h1]
theorem flagF_again {dg : Int → Nat} {B : Nat} {xs : List Int} (hB : ∀ x ∈ xs, dg x < B) : flagF dg B (flagF dg B xs).1 = ((flagF dg B xs).1, 0) := by
  obtain ⟨h1, h2, _⟩ := flagF_ok hB
  unfold flagF at h1 h2 ⊢
  refine fRun_id (fun d p hd hp1 hp2 => ?_) _ _ _ (fun d _ => Nat.le_refl _)
  rw [C0_perm h1] at hp1 hp2
  exact h2 d p hd hp1 hp2
end Go.Proofs.Ytpoappgfmjnioaa
