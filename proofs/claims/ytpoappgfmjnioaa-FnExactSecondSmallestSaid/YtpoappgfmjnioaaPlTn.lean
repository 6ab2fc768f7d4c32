/- Plain: a tournament: rounds over pairs, whom each player has beaten; the second smallest is the smallest whom the winner has beaten. -/
import Derived.Test.YtpoappgfmjnioaaPlSort
set_option linter.unusedSimpArgs false
set_option linter.unusedVariables false
set_option linter.unusedSectionVars false
set_option linter.unnecessarySimpa false
namespace Go.Proofs.Ytpoappgfmjnioaa
open Go Go.Ax

abbrev Pr := Nat × List Nat
/-- A match: the first stays ahead on a draw. -/
def mch (xs : List Int) (p q : Pr) : Pr := if xs.getD q.1 0 < xs.getD p.1 0 then (q.1, q.2 ++ [p.1]) else (p.1, p.2 ++ [q.1])
def rnd (xs : List Int) : List Pr → List Pr
  | p :: q :: r => mch xs p q :: rnd xs r
  | ps => ps
theorem rnd_nil (xs : List Int) : rnd xs [] = [] := rfl
theorem rnd_one (xs : List Int) (p : Pr) : rnd xs [p] = [p] := rfl
theorem rnd_two (xs : List Int) (p q : Pr) (r : List Pr) : rnd xs (p :: q :: r) = mch xs p q :: rnd xs r := rfl
theorem rnd_len (xs : List Int) : ∀ ps : List Pr, (rnd xs ps).length + ps.length / 2 = ps.length
  | [] => rfl
  | [p] => by rw [rnd_one]; simp
  | p :: q :: r => by
    have := rnd_len xs r
    rw [rnd_two]; simp only [List.length_cons]; omega
def tnT (xs : List Int) : Nat → List Pr → Nat → List Pr × Nat
  | 0, ps, c => (ps, c)
  | g + 1, ps, c => if 1 < ps.length then tnT xs g (rnd xs ps) (c + ps.length / 2) else (ps, c)
theorem tnT_end {xs : List Int} {g c : Nat} {ps : List Pr} (h : ps.length ≤ 1) : tnT xs g ps c = (ps, c) := by
  cases g with
  | zero => rfl
  | succ g => rw [tnT, if_neg (by omega)]
theorem tnT_step {xs : List Int} {g c : Nat} {ps : List Pr} (h : 1 < ps.length) : tnT xs (g + 1) ps c = tnT xs g (rnd xs ps) (c + ps.length / 2) := by rw [tnT, if_pos h]
def ini (n : Nat) : List Pr := (List.range n).map fun i => (i, [])
theorem ini_len (n : Nat) : (ini n).length = n := by simp [ini]
def tnR (xs : List Int) : List Pr × Nat := tnT xs xs.length (ini xs.length) 0
/-- Whom the winner has beaten. -/
def tnB (xs : List Int) : List Nat := ((tnR xs).1.headD (0, [])).2
def vals (xs : List Int) (bt : List Nat) : List Int := bt.map fun i => xs.getD i 0
theorem vals_len (xs : List Int) (bt : List Nat) : (vals xs bt).length = bt.length := by simp [vals]
theorem vals_app (xs : List Int) (a b : List Nat) : vals xs (a ++ b) = vals xs a ++ vals xs b := by simp [vals]
theorem vals_get {xs : List Int} {bt : List Nat} {i : Nat} (h : i < bt.length) : (vals xs bt).getD i 0 = xs.getD (bt.getD i 0) 0 := by
  simp [vals, List.getD_eq_getElem?_getD, h]

/-! ### What the rounds keep -/

theorem tnT_inv {xs : List Int} {P : List Pr → Nat → Prop} (hP : ∀ ps c, 1 < ps.length → P ps c → P (rnd xs ps) (c + ps.length / 2)) : ∀ (g : Nat) (ps : List Pr) (c : Nat), P ps c → P (tnT xs g ps c).1 (tnT xs g ps c).2
  | 0, ps, c, h => h
  | g + 1, ps, c, h => by
    by_cases hc : 1 < ps.length
    · rw [tnT_step hc]; exact tnT_inv hP g _ _ (hP ps c hc h)
    · rw [tnT_end (by omega)]; exact h
theorem tnT_fin {xs : List Int} : ∀ (g : Nat) (ps : List Pr) (c : Nat), ps.length ≤ g + 1 → (tnT xs g ps c).1.length ≤ 1
  | 0, ps, c, h => by show ps.length ≤ 1; omega
  | g + 1, ps, c, h => by
    by_cases hc : 1 < ps.length
    · rw [tnT_step hc]
      have := rnd_len xs ps
      exact tnT_fin g _ _ (by omega)
    · rw [tnT_end (by omega)]; show ps.length ≤ 1; omega
/-- Its winner has beaten someone. -/
theorem tnR_one {xs : List Int} (h2 : 2 ≤ xs.length) : ∃ w bt, (tnR xs).1 = [(w, bt)] ∧ bt ≠ [] ∧ (tnR xs).2 = xs.length - 1 ∧ tnB xs = bt := by
  have hi : (fun (ps : List Pr) (c : Nat) => c + ps.length = xs.length ∧ 1 ≤ ps.length ∧ (ps.length = 1 → ∃ w bt, ps = [(w, bt)] ∧ bt ≠ [])) (ini xs.length) 0 := by
    refine ⟨by simp [ini_len], by rw [ini_len]; omega, fun h => by rw [ini_len] at h; omega⟩
  have hstep : ∀ (ps : List Pr) (c : Nat), 1 < ps.length → (fun (ps : List Pr) (c : Nat) => c + ps.length = xs.length ∧ 1 ≤ ps.length ∧ (ps.length = 1 → ∃ w bt, ps = [(w, bt)] ∧ bt ≠ [])) ps c → (fun (ps : List Pr) (c : Nat) => c + ps.length = xs.length ∧ 1 ≤ ps.length ∧ (ps.length = 1 → ∃ w bt, ps = [(w, bt)] ∧ bt ≠ [])) (rnd xs ps) (c + ps.length / 2) := by
    rintro ps c hc ⟨h1, _, _⟩
    have hl := rnd_len xs ps
    refine ⟨by omega, by omega, fun h => ?_⟩
    match ps, hc, h with
    | [p, q], _, _ =>
      rw [rnd_two, rnd_nil]
      unfold mch
      split
      · exact ⟨_, _, rfl, by simp⟩
      · exact ⟨_, _, rfl, by simp⟩
    | p :: q :: s :: r, _, h =>
      rw [rnd_two] at h
      have := rnd_len xs (s :: r)
      simp only [List.length_cons] at this h
      omega
  obtain ⟨h1, h2', h3⟩ := tnT_inv hstep xs.length (ini xs.length) 0 hi
  have hf := tnT_fin (xs := xs) xs.length (ini xs.length) 0 (by rw [ini_len]; omega)
  obtain ⟨w, bt, e, hne⟩ := h3 (by omega)
  have e' : (tnR xs).1 = [(w, bt)] := e
  refine ⟨w, bt, e', hne, ?_, by rw [tnB, e']; rfl⟩
  have h1' : (tnR xs).2 + (tnR xs).1.length = xs.length := h1
  rw [e'] at h1'
  simp at h1'; omega

/-! ### The second smallest -/

/-- A player and all whom he, or those whom he has beaten, have beaten. -/
def Grp (xs : List Int) (p : Pr) (g : List Int) : Prop :=
  (∀ b ∈ p.2, xs.getD b 0 ∈ g) ∧ (∀ z ∈ g, ∃ b ∈ p.2, xs.getD b 0 ≤ z) ∧ ∀ b ∈ p.2, xs.getD p.1 0 ≤ xs.getD b 0
def joinG (xs : List Int) : List Pr → List (List Int) → List Int
  | p :: ps, g :: gs => xs.getD p.1 0 :: (g ++ joinG xs ps gs)
  | _, _ => []
theorem mch_grp {xs : List Int} {p q : Pr} {g h : List Int} (hp : Grp xs p g) (hq : Grp xs q h) : ∃ k, Grp xs (mch xs p q) k ∧ (xs.getD (mch xs p q).1 0 :: k).Perm ((xs.getD p.1 0 :: g) ++ (xs.getD q.1 0 :: h)) := by
  obtain ⟨p1, p2, p3⟩ := hp
  obtain ⟨q1, q2, q3⟩ := hq
  unfold mch
  split
  · rename_i hlt
    refine ⟨h ++ (xs.getD p.1 0 :: g), ⟨fun b hb => ?_, fun z hz => ?_, fun b hb => ?_⟩, ?_⟩
    · simp only [List.mem_append, List.mem_singleton] at hb
      rcases hb with hb | rfl
      · exact List.mem_append_left _ (q1 b hb)
      · simp
    · simp only [List.mem_append, List.mem_cons] at hz
      rcases hz with hz | rfl | hz
      · obtain ⟨b, hb, hle⟩ := q2 z hz; exact ⟨b, by simp [hb], hle⟩
      · exact ⟨p.1, by simp, Int.le_refl _⟩
      · obtain ⟨b, hb, hle⟩ := p2 z hz; exact ⟨p.1, by simp, by have := p3 b hb; omega⟩
    · simp only [List.mem_append, List.mem_singleton] at hb
      rcases hb with hb | rfl
      · exact q3 b hb
      · show xs.getD q.1 0 ≤ xs.getD p.1 0; omega
    · show (xs.getD q.1 0 :: (h ++ (xs.getD p.1 0 :: g))).Perm _
      rw [← List.cons_append]
      exact List.perm_append_comm
  · rename_i hlt
    refine ⟨g ++ (xs.getD q.1 0 :: h), ⟨fun b hb => ?_, fun z hz => ?_, fun b hb => ?_⟩, ?_⟩
    · simp only [List.mem_append, List.mem_singleton] at hb
      rcases hb with hb | rfl
      · exact List.mem_append_left _ (p1 b hb)
      · simp
    · simp only [List.mem_append, List.mem_cons] at hz
      rcases hz with hz | rfl | hz
      · obtain ⟨b, hb, hle⟩ := p2 z hz; exact ⟨b, by simp [hb], hle⟩
      · exact ⟨q.1, by simp, Int.le_refl _⟩
      · obtain ⟨b, hb, hle⟩ := q2 z hz; exact ⟨q.1, by simp, by have := q3 b hb; omega⟩
    · simp only [List.mem_append, List.mem_singleton] at hb
      rcases hb with hb | rfl
      · exact p3 b hb
      · show xs.getD p.1 0 ≤ xs.getD q.1 0; omega
    · exact List.Perm.refl _
theorem rnd_grp {xs : List Int} : ∀ (ps : List Pr) (gs : List (List Int)), F2 (Grp xs) ps gs → ∃ ks, F2 (Grp xs) (rnd xs ps) ks ∧ (joinG xs (rnd xs ps) ks).Perm (joinG xs ps gs)
  | [], gs, h => ⟨gs, h, List.Perm.refl _⟩
  | [p], gs, h => ⟨gs, h, List.Perm.refl _⟩
  | p :: q :: r, gs, h => by
    cases h with
    | cons h1 h2 =>
      rename_i g gs
      cases h2 with
      | cons h3 h4 =>
        rename_i g' gs
        obtain ⟨k, hk, hkp⟩ := mch_grp h1 h3
        obtain ⟨ks, hks, hksp⟩ := rnd_grp r gs h4
        refine ⟨k :: ks, .cons hk hks, ?_⟩
        rw [rnd_two]
        have := hkp.append hksp
        simpa [joinG, List.append_assoc] using this
theorem ini_grp (xs : List Int) : ∀ (l : List Nat), F2 (Grp xs) (l.map fun i => (i, [])) (l.map fun _ => []) ∧ joinG xs (l.map fun i => (i, [])) (l.map fun _ => []) = vals xs l
  | [] => ⟨.nil, rfl⟩
  | i :: l => by
    obtain ⟨h1, h2⟩ := ini_grp xs l
    refine ⟨.cons ⟨by simp, by simp, by simp⟩ h1, ?_⟩
    simp only [List.map_cons, joinG, List.nil_append, h2]; rfl
theorem vals_range (xs : List Int) : vals xs (List.range xs.length) = xs :=
  list_ext_getD (by simp [vals]) fun i hi => by
    rw [vals_len, List.length_range] at hi
    rw [vals_get (by simpa using hi)]
    simp [List.getD_eq_getElem?_getD, hi]
theorem min_unique {zs : List Int} {m : Int} (hm : m ∈ zs) (hle : ∀ z ∈ zs, m ≤ z) : (srtL zs).getD 0 0 = m := by
  have hl := srtL_len zs
  have hpos : 0 < zs.length := List.length_pos_of_mem hm
  have h0 : (srtL zs).getD 0 0 ∈ srtL zs := by rw [List.getD_eq_getElem?_getD, List.getElem?_eq_getElem (by omega)]; exact List.getElem_mem _
  have h1 := hle _ ((srtL_perm zs).mem_iff.1 h0)
  obtain ⟨i, hi, e⟩ := List.mem_iff_getElem.1 ((srtL_perm zs).mem_iff.2 hm)
  have e' : (srtL zs).getD i 0 = m := by rw [List.getD_eq_getElem?_getD, List.getElem?_eq_getElem hi]; exact e
  have h2 : (srtL zs).getD 0 0 ≤ m := by
    rcases Nat.eq_zero_or_pos i with hz | hz
    · subst hz; omega
    · have := srtL_sorted zs 0 i hz (by omega)
      rw [Nat.zero_add, Nat.zero_add] at this; omega
  omega
theorem min_mem {zs : List Int} (h : zs ≠ []) : (srtL zs).getD 0 0 ∈ zs ∧ ∀ z ∈ zs, (srtL zs).getD 0 0 ≤ z := by
  have hl := srtL_len zs
  have hpos : 0 < zs.length := List.length_pos_iff.2 h
  have h0 : (srtL zs).getD 0 0 ∈ srtL zs := by rw [List.getD_eq_getElem?_getD, List.getElem?_eq_getElem (by omega)]; exact List.getElem_mem _
  refine ⟨(srtL_perm zs).mem_iff.1 h0, fun z hz => ?_⟩
  obtain ⟨i, hi, e⟩ := List.mem_iff_getElem.1 ((srtL_perm zs).mem_iff.2 hz)
  have e' : (srtL zs).getD i 0 = z := by rw [List.getD_eq_getElem?_getD, List.getElem?_eq_getElem hi]; exact e
  rcases Nat.eq_zero_or_pos i with hz | hz
  · subst hz; omega
  · have := srtL_sorted zs 0 i hz (by omega)
    rw [Nat.zero_add, Nat.zero_add] at this; omega
/-- The second of the sorted list. -/
theorem second_ok {xs : List Int} (h2 : 2 ≤ xs.length) : (srtL xs).getD 1 0 = (srtL (vals xs (tnB xs))).getD 0 0 := by
  obtain ⟨w, bt, e1, hne, _, eB⟩ := tnR_one h2
  rw [eB]
  have hi := ini_grp xs (List.range xs.length)
  have hinv := tnT_inv (xs := xs) (P := fun ps _ => ∃ gs, F2 (Grp xs) ps gs ∧ (joinG xs ps gs).Perm xs) (fun ps c _ ⟨gs, h1, h2⟩ => by
    obtain ⟨ks, k1, k2⟩ := rnd_grp ps gs h1
    exact ⟨ks, k1, k2.trans h2⟩) xs.length (ini xs.length) 0 ⟨_, hi.1, by rw [show joinG xs (ini xs.length) _ = _ from hi.2, vals_range]⟩
  obtain ⟨gs, hg, hp⟩ := hinv
  have e1' : (tnT xs xs.length (ini xs.length) 0).1 = [(w, bt)] := e1
  rw [e1'] at hg hp
  cases hg with
  | cons a1 a2 =>
    rename_i g gs
    cases a2
    obtain ⟨g1, g2, g3⟩ := a1
    simp only [joinG, List.append_nil] at hp
    have hge : g ≠ [] := by
      obtain ⟨b, hb⟩ := List.exists_mem_of_ne_nil bt hne
      exact List.ne_nil_of_mem (g1 b hb)
    have hle : ∀ z ∈ g, xs.getD w 0 ≤ z := fun z hz => by
      obtain ⟨b, hb, h⟩ := g2 z hz
      have : xs.getD w 0 ≤ xs.getD b 0 := g3 b hb
      omega
    have hsl := srtL_len g
    have hgp : 0 < g.length := List.length_pos_iff.2 hge
    have hs : srtL xs = xs.getD w 0 :: srtL g := by
      symm
      refine srtL_unique (((srtL_perm g).cons _).trans hp) fun i j hij hj => ?_
      simp only [List.length_cons] at hj
      rw [Nat.zero_add, Nat.zero_add]
      cases j with
      | zero => omega
      | succ j =>
        rw [List.getD_cons_succ]
        have hjm : (srtL g).getD j 0 ∈ srtL g := by rw [List.getD_eq_getElem?_getD, List.getElem?_eq_getElem (by omega)]; exact List.getElem_mem _
        cases i with
        | zero =>
          rw [List.getD_cons_zero]
          exact hle _ ((srtL_perm g).mem_iff.1 hjm)
        | succ i =>
          rw [List.getD_cons_succ]
          have := srtL_sorted g i j (by omega) (by omega)
          rwa [Nat.zero_add, Nat.zero_add] at this
    rw [hs, List.getD_cons_succ]
    have hvn : vals xs bt ≠ [] := by simp [vals, hne]
    obtain ⟨m1, m2⟩ := min_mem hvn
    refine min_unique ?_ fun z hz => ?_
    · simp only [vals, List.mem_map] at m1
      obtain ⟨b, hb, e⟩ := m1
      have := g1 b hb
      rw [e] at this; exact this
    · obtain ⟨b, hb, h⟩ := g2 z hz
      have := m2 (xs.getD b 0) (by simp only [vals, List.mem_map]; exact ⟨b, hb, rfl⟩)
      omega
/-- Few matches for each. -/
theorem tnB_few {xs : List Int} (h2 : 2 ≤ xs.length) (h64 : xs.length ≤ 64) : (tnB xs).length ≤ 6 := by
  have hm : ∀ (ps : List Pr) (r : Nat), (∀ p ∈ ps, p.2.length ≤ r) → ∀ p ∈ rnd xs ps, p.2.length ≤ r + 1 := by
    intro ps
    induction ps using rnd.induct with
    | case1 p q rest ih =>
      intro r h p' hp'
      rw [rnd_two] at hp'
      rcases List.mem_cons.1 hp' with rfl | hp'
      · unfold mch
        have h1 := h p (by simp)
        have h2 := h q (by simp)
        split <;> simp <;> omega
      · exact ih r (fun p hp => h p (by simp [hp])) p' hp'
    | case2 ps hps =>
      intro r h p' hp'
      have e : rnd xs ps = ps := by
        unfold rnd
        split
        · rename_i p q r; exact absurd rfl (hps p q r)
        · rfl
      rw [e] at hp'
      have := h p' hp'; omega
  have key : ∀ (g r : Nat) (ps : List Pr) (c : Nat), r ≤ 6 → ps.length ≤ 2 ^ (6 - r) → (∀ p ∈ ps, p.2.length ≤ r) → ∀ p ∈ (tnT xs g ps c).1, p.2.length ≤ 6 := by
    intro g
    induction g with
    | zero => intro r ps c hr _ h p hp; have := h p hp; omega
    | succ g ih =>
      intro r ps c hr hl h p hp
      by_cases hc : 1 < ps.length
      · rw [tnT_step hc] at hp
        have hlen := rnd_len xs ps
        have hr6 : r < 6 := by
          rcases Nat.lt_or_ge r 6 with h' | h'
          · exact h'
          · have : r = 6 := by omega
            subst this; simp at hl; omega
        refine ih (r + 1) _ _ (by omega) ?_ (hm ps r h) p hp
        have : 2 ^ (6 - r) = 2 * 2 ^ (6 - (r + 1)) := by
          rw [show 6 - r = (6 - (r + 1)) + 1 by omega, Nat.pow_succ]; omega
        omega
      · rw [tnT_end (by omega)] at hp
        have := h p hp; omega
  obtain ⟨w, bt, e1, _, _, eB⟩ := tnR_one h2
  rw [eB]
  have := key xs.length 0 (ini xs.length) 0 (by omega) (by rw [ini_len]; omega) (fun p hp => by
    simp only [ini, List.mem_map] at hp
    obtain ⟨i, _, rfl⟩ := hp
    simp) (w, bt) (by show (w, bt) ∈ (tnR xs).1; rw [e1]; simp)
  exact this
end Go.Proofs.Ytpoappgfmjnioaa
