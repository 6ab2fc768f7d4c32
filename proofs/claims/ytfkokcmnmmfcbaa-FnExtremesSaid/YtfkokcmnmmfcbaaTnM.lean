/- Contracts: the second smallest, by a tournament, in the reference and in the program. -/
import Derived.Test.YtfkokcmnmmfcbaaPlSort
import Derived.Test.YtfkokcmnmmfcbaaNsS
import Derived.Test.YtfkokcmnmmfcbaaLeast
import Derived.Test.YtfkokcmnmmfcbaaKth
set_option linter.unusedSimpArgs false
set_option linter.unusedVariables false
set_option linter.unusedSectionVars false
set_option linter.unnecessarySimpa false
set_option maxRecDepth 10000
set_option maxHeartbeats 1000000
namespace Go.Proofs.Ytfkokcmnmmfcbaa
open Go Go.Ax

abbrev Pr := Nat × List Nat
/-- A match: the first stays ahead on a draw. -/
def mch (xs : List Int) (p q : Pr) : Pr := if xs.getD q.1 0 < xs.getD p.1 0 then (q.1, q.2 ++ [p.1]) else (p.1, p.2 ++ [q.1])
def rnd (xs : List Int) : List Pr → List Pr
  | p :: q :: r => mch xs p q :: rnd xs r
  | ps => ps
theorem rnd_nil (xs : List Int) : rnd xs [] = [] := rfl
theorem rnd_one (xs : List Int) (p : Pr) : rnd xs [p] = [p] := rfl
theorem rnd_two (xs : List Int) (p q : Pr) (r : List Pr) : rnd xs (p :: q :: r) = mch xs p q :: rnd xs r := rfl
theorem rnd_len (xs : List Int) : ∀ ps : List Pr, (rnd xs ps).length + ps.length / 2 = ps.length
  | [] => rfl
  | [p] => by rw [rnd_one]; simp
  | p :: q :: r => by
    have := rnd_len xs r
    rw [rnd_two]; simp only [List.length_cons]; omega
def tnT (xs : List Int) : Nat → List Pr → Nat → List Pr × Nat
  | 0, ps, c => (ps, c)
  | g + 1, ps, c => if 1 < ps.length then tnT xs g (rnd xs ps) (c + ps.length / 2) else (ps, c)
theorem tnT_end {xs : List Int} {g c : Nat} {ps : List Pr} (h : ps.length ≤ 1) : tnT xs g ps c = (ps, c) := by
  cases g with
  | zero => rfl
  | succ g => rw [tnT, if_neg (by omega)]
theorem tnT_step {xs : List Int} {g c : Nat} {ps : List Pr} (h : 1 < ps.length) : tnT xs (g + 1) ps c = tnT xs g (rnd xs ps) (c + ps.length / 2) := by rw [tnT, if_pos h]
def ini (n : Nat) : List Pr := (List.range n).map fun i => (i, [])
theorem ini_len (n : Nat) : (ini n).length = n := by simp [ini]
def tnR (xs : List Int) : List Pr × Nat := tnT xs xs.length (ini xs.length) 0
/-- Whom the winner has beaten. -/
def tnB (xs : List Int) : List Nat := ((tnR xs).1.headD (0, [])).2
def vals (xs : List Int) (bt : List Nat) : List Int := bt.map fun i => xs.getD i 0
theorem vals_len (xs : List Int) (bt : List Nat) : (vals xs bt).length = bt.length := by simp [vals]
theorem vals_app (xs : List Int) (a b : List Nat) : vals xs (a ++ b) = vals xs a ++ vals xs b := by simp [vals]
theorem vals_get {xs : List Int} {bt : List Nat} {i : Nat} (h : i < bt.length) : (vals xs bt).getD i 0 = xs.getD (bt.getD i 0) 0 := by
  simp [vals, List.getD_eq_getElem?_getD, h]

/-! ### What the rounds keep -/

theorem tnT_inv {xs : List Int} {P : List Pr → Nat → Prop} (hP : ∀ ps c, 1 < ps.length → P ps c → P (rnd xs ps) (c + ps.length / 2)) : ∀ (g : Nat) (ps : List Pr) (c : Nat), P ps c → P (tnT xs g ps c).1 (tnT xs g ps c).2
  | 0, ps, c, h => h
  | g + 1, ps, c, h => by
    by_cases hc : 1 < ps.length
    · rw [tnT_step hc]; exact tnT_inv hP g _ _ (hP ps c hc h)
    · rw [tnT_end (by omega)]; exact h
theorem tnT_fin {xs : List Int} : ∀ (g : Nat) (ps : List Pr) (c : Nat), ps.length ≤ g + 1 → (tnT xs g ps c).1.length ≤ 1
  | 0, ps, c, h => by show ps.length ≤ 1; omega
  | g + 1, ps, c, h => by
    by_cases hc : 1 < ps.length
    · rw [tnT_step hc]
      have := rnd_len xs ps
      exact tnT_fin g _ _ (by omega)
    · rw [tnT_end (by omega)]; show ps.length ≤ 1; omega
/-- Its winner has beaten someone. -/
theorem tnR_one {xs : List Int} (h2 : 2 ≤ xs.length) : ∃ w bt, (tnR xs).1 = [(w, bt)] ∧ bt ≠ [] ∧ (tnR xs).2 = xs.length - 1 ∧ tnB xs = bt := by
  have hi : (fun (ps : List Pr) (c : Nat) => c + ps.length = xs.length ∧ 1 ≤ ps.length ∧ (ps.length = 1 → ∃ w bt, ps = [(w, bt)] ∧ bt ≠ [])) (ini xs.length) 0 := by
    refine ⟨by simp [ini_len], by rw [ini_len]; omega, fun h => by rw [ini_len] at h; omega⟩
  have hstep : ∀ (ps : List Pr) (c : Nat), 1 < ps.length → (fun (ps : List Pr) (c : Nat) => c + ps.length = xs.length ∧ 1 ≤ ps.length ∧ (ps.length = 1 → ∃ w bt, ps = [(w, bt)] ∧ bt ≠ [])) ps c → (fun (ps : List Pr) (c : Nat) => c + ps.length = xs.length ∧ 1 ≤ ps.length ∧ (ps.length = 1 → ∃ w bt, ps = [(w, bt)] ∧ bt ≠ [])) (rnd xs ps) (c + ps.length / 2) := by
    rintro ps c hc ⟨h1, _, _⟩
    have hl := rnd_len xs ps
    refine ⟨by omega, by omega, fun h => ?_⟩
    match ps, hc, h with
    | [p, q], _, _ =>
      rw [rnd_two, rnd_nil]
      unfold mch
      split
      · exact ⟨_, _, rfl, by simp⟩
      · exact ⟨_, _, rfl, by simp⟩
    | p :: q :: s :: r, _, h =>
      rw [rnd_two] at h
      have := rnd_len xs (s :: r)
      simp only [List.length_cons] at this h
      omega
  obtain ⟨h1, h2', h3⟩ := tnT_inv hstep xs.length (ini xs.length) 0 hi
  have hf := tnT_fin (xs := xs) xs.length (ini xs.length) 0 (by rw [ini_len]; omega)
  obtain ⟨w, bt, e, hne⟩ := h3 (by omega)
  have e' : (tnR xs).1 = [(w, bt)] := e
  refine ⟨w, bt, e', hne, ?_, by rw [tnB, e']; rfl⟩
  have h1' : (tnR xs).2 + (tnR xs).1.length = xs.length := h1
  rw [e'] at h1'
  simp at h1'; omega

/-! ### The second smallest -/

/-- A player and all whom he, or those whom he has beaten, have beaten. -/
def Grp (xs : List Int) (p : Pr) (g : List Int) : Prop :=
  (∀ b ∈ p.2, xs.getD b 0 ∈ g) ∧ (∀ z ∈ g, ∃ b ∈ p.2, xs.getD b 0 ≤ z) ∧ ∀ b ∈ p.2, xs.getD p.1 0 ≤ xs.getD b 0
def joinG (xs : List Int) : List Pr → List (List Int) → List Int
  | p :: ps, g :: gs => xs.getD p.1 0 :: (g ++ joinG xs ps gs)
  | _, _ => []
theorem mch_grp {xs : List Int} {p q : Pr} {g h : List Int} (hp : Grp xs p g) (hq : Grp xs q h) : ∃ k, Grp xs (mch xs p q) k ∧ (xs.getD (mch xs p q).1 0 :: k).Perm ((xs.getD p.1 0 :: g) ++ (xs.getD q.1 0 :: h)) := by
  obtain ⟨p1, p2, p3⟩ := hp
  obtain ⟨q1, q2, q3⟩ := hq
  unfold mch
  split
  · rename_i hlt
    refine ⟨h ++ (xs.getD p.1 0 :: g), ⟨fun b hb => ?_, fun z hz => ?_, fun b hb => ?_⟩, ?_⟩
    · simp only [List.mem_append, List.mem_singleton] at hb
      rcases hb with hb | rfl
      · exact List.mem_append_left _ (q1 b hb)
      · simp
    · simp only [List.mem_append, List.mem_cons] at hz
      rcases hz with hz | rfl | hz
      · obtain ⟨b, hb, hle⟩ := q2 z hz; exact ⟨b, by simp [hb], hle⟩
      · exact ⟨p.1, by simp, Int.le_refl _⟩
      · obtain ⟨b, hb, hle⟩ := p2 z hz; exact ⟨p.1, by simp, by have := p3 b hb; omega⟩
    · simp only [List.mem_append, List.mem_singleton] at hb
      rcases hb with hb | rfl
      · exact q3 b hb
      · show xs.getD q.1 0 ≤ xs.getD p.1 0; omega
    · show (xs.getD q.1 0 :: (h ++ (xs.getD p.1 0 :: g))).Perm _
      rw [← List.cons_append]
      exact List.perm_append_comm
  · rename_i hlt
    refine ⟨g ++ (xs.getD q.1 0 :: h), ⟨fun b hb => ?_, fun z hz => ?_, fun b hb => ?_⟩, ?_⟩
    · simp only [List.mem_append, List.mem_singleton] at hb
      rcases hb with hb | rfl
      · exact List.mem_append_left _ (p1 b hb)
      · simp
    · simp only [List.mem_append, List.mem_cons] at hz
      rcases hz with hz | rfl | hz
      · obtain ⟨b, hb, hle⟩ := p2 z hz; exact ⟨b, by simp [hb], hle⟩
      · exact ⟨q.1, by simp, Int.le_refl _⟩
      · obtain ⟨b, hb, hle⟩ := q2 z hz; exact ⟨q.1, by simp, by have := q3 b hb; omega⟩
    · simp only [List.mem_append, List.mem_singleton] at hb
      rcases hb with hb | rfl
      · exact p3 b hb
      · show xs.getD p.1 0 ≤ xs.getD q.1 0; omega
    · exact List.Perm.refl _
theorem rnd_grp {xs : List Int} : ∀ (ps : List Pr) (gs : List (List Int)), F2 (Grp xs) ps gs → ∃ ks, F2 (Grp xs) (rnd xs ps) ks ∧ (joinG xs (rnd xs ps) ks).Perm (joinG xs ps gs)
  | [], gs, h => ⟨gs, h, List.Perm.refl _⟩
  | [p], gs, h => ⟨gs, h, List.Perm.refl _⟩
  | p :: q :: r, gs, h => by
    cases h with
    | cons h1 h2 =>
      rename_i g gs
      cases h2 with
      | cons h3 h4 =>
        rename_i g' gs
        obtain ⟨k, hk, hkp⟩ := mch_grp h1 h3
        obtain ⟨ks, hks, hksp⟩ := rnd_grp r gs h4
        refine ⟨k :: ks, .cons hk hks, ?_⟩
        rw [rnd_two]
        have := hkp.append hksp
        simpa [joinG, List.append_assoc] using this
theorem ini_grp (xs : List Int) : ∀ (l : List Nat), F2 (Grp xs) (l.map fun i => (i, [])) (l.map fun _ => []) ∧ joinG xs (l.map fun i => (i, [])) (l.map fun _ => []) = vals xs l
  | [] => ⟨.nil, rfl⟩
  | i :: l => by
    obtain ⟨h1, h2⟩ := ini_grp xs l
    refine ⟨.cons ⟨by simp, by simp, by simp⟩ h1, ?_⟩
    simp only [List.map_cons, joinG, List.nil_append, h2]; rfl
theorem vals_range (xs : List Int) : vals xs (List.range xs.length) = xs :=
  list_ext_getD (by simp [vals]) fun i hi => by
    rw [vals_len, List.length_range] at hi
    rw [vals_get (by simpa using hi)]
    simp [List.getD_eq_getElem?_getD, hi]
theorem min_unique {zs : List Int} {m : Int} (hm : m ∈ zs) (hle : ∀ z ∈ zs, m ≤ z) : (srtL zs).getD 0 0 = m := by
  have hl := srtL_len zs
  have hpos : 0 < zs.length := List.length_pos_of_mem hm
  have h0 : (srtL zs).getD 0 0 ∈ srtL zs := by rw [List.getD_eq_getElem?_getD, List.getElem?_eq_getElem (by omega)]; exact List.getElem_mem _
  have h1 := hle _ ((srtL_perm zs).mem_iff.1 h0)
  obtain ⟨i, hi, e⟩ := List.mem_iff_getElem.1 ((srtL_perm zs).mem_iff.2 hm)
  have e' : (srtL zs).getD i 0 = m := by rw [List.getD_eq_getElem?_getD, List.getElem?_eq_getElem hi]; exact e
  have h2 : (srtL zs).getD 0 0 ≤ m := by
    rcases Nat.eq_zero_or_pos i with hz | hz
    · subst hz; omega
    · have := srtL_sorted zs 0 i hz (by omega)
      rw [Nat.zero_add, Nat.zero_add] at this; omega
  omega
theorem min_mem {zs : List Int} (h : zs ≠ []) : (srtL zs).getD 0 0 ∈ zs ∧ ∀ z ∈ zs, (srtL zs).getD 0 0 ≤ z := by
  have hl := srtL_len zs
  have hpos : 0 < zs.length := List.length_pos_iff.2 h
  have h0 : (srtL zs).getD 0 0 ∈ srtL zs := by rw [List.getD_eq_getElem?_getD, List.getElem?_eq_getElem (by omega)]; exact List.getElem_mem _
  refine ⟨(srtL_perm zs).mem_iff.1 h0, fun z hz => ?_⟩
  obtain ⟨i, hi, e⟩ := List.mem_iff_getElem.1 ((srtL_perm zs).mem_iff.2 hz)
  have e' : (srtL zs).getD i 0 = z := by rw [List.getD_eq_getElem?_getD, List.getElem?_eq_getElem hi]; exact e
  rcases Nat.eq_zero_or_pos i with hz | hz
  · subst hz; omega
  · have := srtL_sorted zs 0 i hz (by omega)
    rw [Nat.zero_add, Nat.zero_add] at this; omega
/-- The second of the sorted list. -/
theorem second_ok {xs : List Int} (h2 : 2 ≤ xs.length) : (srtL xs).getD 1 0 = (srtL (vals xs (tnB xs))).getD 0 0 := by
  obtain ⟨w, bt, e1, hne, _, eB⟩ := tnR_one h2
  rw [eB]
  have hi := ini_grp xs (List.range xs.length)
  have hinv := tnT_inv (xs := xs) (P := fun ps _ => ∃ gs, F2 (Grp xs) ps gs ∧ (joinG xs ps gs).Perm xs) (fun ps c _ ⟨gs, h1, h2⟩ => by
    obtain ⟨ks, k1, k2⟩ := rnd_grp ps gs h1
    exact ⟨ks, k1, k2.trans h2⟩) xs.length (ini xs.length) 0 ⟨_, hi.1, by rw [show joinG xs (ini xs.length) _ = _ from hi.2, vals_range]⟩
  obtain ⟨gs, hg, hp⟩ := hinv
  have e1' : (tnT xs xs.length (ini xs.length) 0).1 = [(w, bt)] := e1
  rw [e1'] at hg hp
  cases hg with
  | cons a1 a2 =>
    rename_i g gs
    cases a2
    obtain ⟨g1, g2, g3⟩ := a1
    simp only [joinG, List.append_nil] at hp
    have hge : g ≠ [] := by
      obtain ⟨b, hb⟩ := List.exists_mem_of_ne_nil bt hne
      exact List.ne_nil_of_mem (g1 b hb)
    have hle : ∀ z ∈ g, xs.getD w 0 ≤ z := fun z hz => by
      obtain ⟨b, hb, h⟩ := g2 z hz
      have : xs.getD w 0 ≤ xs.getD b 0 := g3 b hb
      omega
    have hsl := srtL_len g
    have hgp : 0 < g.length := List.length_pos_iff.2 hge
    have hs : srtL xs = xs.getD w 0 :: srtL g := by
      symm
      refine srtL_unique (((srtL_perm g).cons _).trans hp) fun i j hij hj => ?_
      simp only [List.length_cons] at hj
      rw [Nat.zero_add, Nat.zero_add]
      cases j with
      | zero => omega
      | succ j =>
        rw [List.getD_cons_succ]
        have hjm : (srtL g).getD j 0 ∈ srtL g := by rw [List.getD_eq_getElem?_getD, List.getElem?_eq_getElem (by omega)]; exact List.getElem_mem _
        cases i with
        | zero =>
          rw [List.getD_cons_zero]
          exact hle _ ((srtL_perm g).mem_iff.1 hjm)
        | succ i =>
          rw [List.getD_cons_succ]
          have := srtL_sorted g i j (by omega) (by omega)
          rwa [Nat.zero_add, Nat.zero_add] at this
    rw [hs, List.getD_cons_succ]
    have hvn : vals xs bt ≠ [] := by simp [vals, hne]
    obtain ⟨m1, m2⟩ := min_mem hvn
    refine min_unique ?_ fun z hz => ?_
    · simp only [vals, List.mem_map] at m1
      obtain ⟨b, hb, e⟩ := m1
      have := g1 b hb
      rw [e] at this; exact this
    · obtain ⟨b, hb, h⟩ := g2 z hz
      have := m2 (xs.getD b 0) (by simp only [vals, List.mem_map]; exact ⟨b, hb, rfl⟩)
      omega
/-- Few matches for each. -/
theorem tnB_few {xs : List Int} (h2 : 2 ≤ xs.length) (h64 : xs.length ≤ 64) : (tnB xs).length ≤ 6 := by
  have hm : ∀ (ps : List Pr) (r : Nat), (∀ p ∈ ps, p.2.length ≤ r) → ∀ p ∈ rnd xs ps, p.2.length ≤ r + 1 := by
    intro ps
    induction ps using rnd.induct with
    | case1 p q rest ih =>
      intro r h p' hp'
      rw [rnd_two] at hp'
      rcases List.mem_cons.1 hp' with rfl | hp'
      · unfold mch
        have h1 := h p (by simp)
        have h2 := h q (by simp)
        split <;> simp <;> omega
      · exact ih r (fun p hp => h p (by simp [hp])) p' hp'
    | case2 ps hps =>
      intro r h p' hp'
      have e : rnd xs ps = ps := by
        unfold rnd
        split
        · rename_i p q r; exact absurd rfl (hps p q r)
        · rfl
      rw [e] at hp'
      have := h p' hp'; omega
  have key : ∀ (g r : Nat) (ps : List Pr) (c : Nat), r ≤ 6 → ps.length ≤ 2 ^ (6 - r) → (∀ p ∈ ps, p.2.length ≤ r) → ∀ p ∈ (tnT xs g ps c).1, p.2.length ≤ 6 := by
    intro g
    induction g with
    | zero => intro r ps c hr _ h p hp; have := h p hp; omega
    | succ g ih =>
      intro r ps c hr hl h p hp
      by_cases hc : 1 < ps.length
      · rw [tnT_step hc] at hp
        have hlen := rnd_len xs ps
        have hr6 : r < 6 := by
          rcases Nat.lt_or_ge r 6 with h' | h'
          · exact h'
          · have : r = 6 := by omega
            subst this; simp at hl; omega
        refine ih (r + 1) _ _ (by omega) ?_ (hm ps r h) p hp
        have : 2 ^ (6 - r) = 2 * 2 ^ (6 - (r + 1)) := by
          rw [show 6 - r = (6 - (r + 1)) + 1 by omega, Nat.pow_succ]; omega
        omega
      · rw [tnT_end (by omega)] at hp
        have := h p hp; omega
  obtain ⟨w, bt, e1, _, _, eB⟩ := tnR_one h2
  rw [eB]
  have := key xs.length 0 (ini xs.length) 0 (by omega) (by rw [ini_len]; omega) (fun p hp => by
    simp only [ini, List.mem_map] at hp
    obtain ⟨i, _, rfl⟩ := hp
    simp) (w, bt) (by show (w, bt) ∈ (tnR xs).1; rw [e1]; simp)
  exact this
end Go.Proofs.Ytfkokcmnmmfcbaa

namespace Go.Proofs.Ytfkokcmnmmfcbaa
open Go Go.Ax

/-- All rows but those of S are as they were. -/
def Exc (S : List Nat) (H H' : Hp) : Prop := ∀ (k : Nat) r, H[k]? = some r → k ∉ S → H'[k]? = some r
theorem Exc.refl (S : List Nat) (H : Hp) : Exc S H H := fun _ _ h _ => h
theorem Exc.app {S : List Nat} {H H' : Hp} (h : Exc S H H') (X : Hp) : Exc S H (H' ++ X) := fun k r e hk => lkp (h k r e hk)
theorem Exc.set {S : List Nat} {H H' : Hp} (h : Exc S H H') {j : Nat} (r : Row) (hj : j ∈ S) : Exc S H (H'.set j r) := fun k r' e hk => by
  have := h k r' e hk
  exact lks this (fun e => hk (e ▸ hj))
theorem cl_set {H : Hp} {j : Nat} {r : Row} (hH : Cl H) (hr : ∀ h ∈ Row.hs r, h < H.length) : Cl (H.set j r) := by
  intro r' hr' h hh
  rw [List.length_set]
  rcases List.mem_or_eq_of_mem_set hr' with h1 | rfl
  · exact hH r' h1 h hh
  · exact hr h hh
theorem cl_oI {H : Hp} {xs : List Int} (hH : Cl H) : Cl (H ++ [oI xs]) := cl_app hH fun r hr h hh => by
  simp at hr; subst hr; simp [Row.hs, Dat.hs] at hh
theorem cl_dead {H : Hp} {j : Nat} (hH : Cl H) : Cl (H.set j .dead) := cl_set hH (by simp [Row.hs])
theorem lkn' {G : Hp} {r : Row} {k : Nat} (h : k = G.length) : (G ++ [r])[k]? = some r := by subst h; exact lkn G r
theorem lkset {G : Hp} {r : Row} {k : Nat} (h : k < G.length) : (G.set k r)[k]? = some r := by rw [List.getElem?_set]; simp [h]

/-- A pure call, in any heap. -/
theorem pur_g {k : FuncId} {G : Hp} {args : List TV} {v : Value} (hl : ACalls Try.prog k args [] [] (fun t H => t = .a (.c (.v v)) ∧ H = [])) (hhs : ∀ t ∈ args, t.hs = []) (har : ∀ ρ, args.map (TV.ren ρ) = args) :
    ACalls Try.prog k args [] G (fun t G' => t = .a (.c (.v v)) ∧ G' = G) := by
  have hl' : ACalls Try.prog k args [] [] (fun t H => t = .a (.c (.v v)) ∧ H = [] ++ []) := hl
  refine (ACalls.liftN hl' [] (by simp) (by simp) (by simp) rfl (by simp) (by rw [har]) (fun t ht h hh => by rw [hhs t ht] at hh; simp at hh)).mono ?_
  rintro t G' ⟨rfl, rfl⟩
  simp [TV.ren, AV.ren, C.ren]
theorem least_g {G : Hp} (a b : Int) : ACalls Try.prog 17 [tI a, tI b] [] G (fun t G' => t = tI (min a b) ∧ G' = G) :=
  pur_g (l1Least_l a b) (by simp [TV.hs, AV.hs, C.hs]) (by simp [TV.ren, AV.ren, C.ren])
/-- A call on one list that makes another, in any heap. -/
theorem prt_g {k : FuncId} {G : Hp} {h : Nat} {o : Bool} {xs ys : List Int} {n : Nat} (hG : G[h]? = some (rwI o xs))
    (hl : ACalls Try.prog k [tS 0 xs.length] [] [rI xs] (fun t H => t = tS 1 n ∧ H = [rI xs, oI ys])) : ACalls Try.prog k [tS h xs.length] [] G (fun t G' => t = tS G.length n ∧ G' = G ++ [oI ys]) := by
  have hl' : ACalls Try.prog k [tS 0 xs.length] [] [rI xs] (fun t H => t = tS 1 n ∧ H = [rI xs] ++ [oI ys]) := hl
  refine (ACalls.liftN hl' [h] (by simp [Row.own]) (by simp [Row.own]) (by simp) rfl ?_ (by simp [TV.ren, AV.ren, C.ren]) (by simp [TV.hs, AV.hs, C.hs])).mono ?_
  · intro i h' row h1 h2
    match i, h1, h2 with
    | 0, h1, h2 =>
      simp at h1 h2; subst h1; subst h2
      rw [hG]; exact ⟨getlt hG, by simp, rfl, by simp [Dat.hs]⟩
  · rintro t G' ⟨rfl, rfl⟩
    simp [TV.ren, AV.ren, C.ren, Row.ren, Dat.ren, freshR]

/-! ### Players -/

abbrev En := Pr × Nat
def idZ (l : List Nat) : List Int := l.map fun (i : Nat) => (i : Int)
theorem idZ_len (l : List Nat) : (idZ l).length = l.length := by simp [idZ]
theorem idZ_app (a b : List Nat) : idZ (a ++ b) = idZ a ++ idZ b := by simp [idZ]
theorem idZ_get {l : List Nat} {i : Nat} (h : i < l.length) : (idZ l).getD i 0 = ((l.getD i 0 : Nat) : Int) := by
  simp [idZ, List.getD_eq_getElem?_getD, h]
def ids (es : List En) : List Nat := es.map fun e => e.1.1
theorem ids_len (es : List En) : (ids es).length = es.length := by simp [ids]
theorem ids_app (a b : List En) : ids (a ++ b) = ids a ++ ids b := by simp [ids]
def prs (es : List En) : List Pr := es.map fun e => e.1
theorem prs_len (es : List En) : (prs es).length = es.length := by simp [prs]
theorem prs_app (a b : List En) : prs (a ++ b) = prs a ++ prs b := by simp [prs]
/-- The slice of those beaten. -/
def cellE (e : En) : C := if e.1.2 = [] then .v (.slice none 0 0) else cSl e.2 e.1.2.length
theorem cellE_one (e : En) : (cellE e).isOne = true := by unfold cellE; split <;> rfl
def Apart (e e' : En) : Prop := e.1.2 = [] ∨ e'.1.2 = [] ∨ e.2 ≠ e'.2
/-- Each player's slice of those beaten lies, as f says them, outside the handles of S, and no two share one. -/
structure LJ (f : List Nat → List Int) (S : List Nat) (H : Hp) (es : List En) : Prop where
  row : ∀ e ∈ es, e.1.2 ≠ [] → H[e.2]? = some (oI (f e.1.2)) ∧ e.2 ∉ S
  apart : es.Pairwise Apart
theorem Apart.symm {e e' : En} (h : Apart e e') : Apart e' e := by
  rcases h with h | h | h
  · exact .inr (.inl h)
  · exact .inl h
  · exact .inr (.inr (Ne.symm h))
/-- The two next players part: the winner's list moved to a new handle. -/
theorem LJ.step {f : List Nat → List Int} {S S' : List Nat} {H H' : Hp} {N R : List En} {p q w : En} (hJ : LJ f S H (N ++ p :: q :: R)) {T : List Nat} (hE : Exc T H H')
    (hT : ∀ t ∈ T, t ∈ S ∨ t = p.2 ∧ p.1.2 ≠ [] ∨ t = q.2 ∧ q.1.2 ≠ []) (hS : ∀ s ∈ S', s ∈ S ∨ H.length ≤ s) (hw : w.1.2 ≠ [] → H'[w.2]? = some (oI (f w.1.2))) (hn : H.length ≤ w.2) (hwS : w.2 ∉ S') : LJ f S' H' (N ++ [w] ++ R) := by
  obtain ⟨row, ap⟩ := hJ
  have hap := List.pairwise_append.1 ap
  obtain ⟨apN, apR, apNR⟩ := hap
  have hpq := List.pairwise_cons.1 apR
  have hq := List.pairwise_cons.1 hpq.2
  -- the others are kept
  have keep : ∀ e, (e ∈ N ∨ e ∈ R) → e.1.2 ≠ [] → H'[e.2]? = some (oI (f e.1.2)) ∧ e.2 ∉ S' ∧ e.2 < H.length := by
    intro e he hne
    have hmem : e ∈ N ++ p :: q :: R := by
      rcases he with h | h
      · simp [h]
      · simp [h]
    obtain ⟨h1, h2⟩ := row e hmem hne
    have hlt := getlt h1
    have ap1 : Apart e p := by
      rcases he with h | h
      · exact apNR e h p (by simp)
      · exact (hpq.1 e (by simp [h])).symm
    have ap2 : Apart e q := by
      rcases he with h | h
      · exact apNR e h q (by simp)
      · exact (hq.1 e h).symm
    refine ⟨hE _ _ h1 fun ht => ?_, fun hs => ?_, hlt⟩
    · rcases hT _ ht with h | ⟨h, h'⟩ | ⟨h, h'⟩
      · exact h2 h
      · rcases ap1 with a | a | a
        · exact hne a
        · exact h' a
        · exact a h
      · rcases ap2 with a | a | a
        · exact hne a
        · exact h' a
        · exact a h
    · rcases hS _ hs with h | h
      · exact h2 h
      · omega
  constructor
  · intro e he hne
    simp only [List.mem_append, List.mem_singleton] at he
    rcases he with (he | rfl) | he
    · exact ⟨(keep e (.inl he) hne).1, (keep e (.inl he) hne).2.1⟩
    · exact ⟨hw hne, hwS⟩
    · exact ⟨(keep e (.inr he) hne).1, (keep e (.inr he) hne).2.1⟩
  · have hNw : ∀ e, (e ∈ N ∨ e ∈ R) → Apart e w := fun e he => by
      by_cases hne : e.1.2 = []
      · exact .inl hne
      · have := (keep e he hne).2.2
        exact .inr (.inr (by omega))
    refine List.pairwise_append.2 ⟨List.pairwise_append.2 ⟨apN, List.pairwise_singleton _ _, fun a ha b hb => ?_⟩, hq.2, fun a ha b hb => ?_⟩
    · simp at hb; subst hb; exact hNw a (.inl ha)
    · simp only [List.mem_append, List.mem_singleton] at ha
      rcases ha with ha | rfl
      · exact apNR a ha b (by simp [hb])
      · exact (hNw b (.inr hb)).symm
theorem LJ.keep {f : List Nat → List Int} {S S' T : List Nat} {H H' : Hp} {es : List En} (hJ : LJ f S H es) (hE : Exc T H H') (hT : ∀ t ∈ T, t ∈ S) (hS : ∀ s ∈ S', s ∈ S ∨ H.length ≤ s) : LJ f S' H' es := by
  refine ⟨fun e he hne => ?_, hJ.apart⟩
  obtain ⟨h1, h2⟩ := hJ.row e he hne
  have := getlt h1
  refine ⟨hE _ _ h1 fun ht => h2 (hT _ ht), fun hs => ?_⟩
  rcases hS _ hs with h | h
  · exact h2 h
  · omega
end Go.Proofs.Ytfkokcmnmmfcbaa

namespace Go.Proofs.Ytfkokcmnmmfcbaa
open Go Go.Ax

def ssV (xs : List Int) : List AV := cond (validB xs && decide (2 ≤ xs.length)) [aI ((srtL (vals xs (tnB xs))).getD 0 0), aI ((tnR xs).2 + (tnB xs).length - 1 : Nat), aB true] [aI 0, aI 0, aB false]

/-- The outer loop's state. -/
structure TO where
  g : Nat
  ps : List En
  hp : Nat
  cs : List C
  H : Hp
  c : Nat
/-- The inner loop's. -/
structure SI where
  i : Nat
  N : List En
  R : List En
  hn : Nat
  cs : List C
  H : Hp
  c : Nat
/-- The reference's slices of those beaten stand in one row, by index. -/
structure SJ (xs : List Int) (S : List Nat) (H : Hp) (cs : List C) (es : List En) : Prop where
  lj : LJ idZ S H es
  list : H[0]? = some (rI xs)
  los : H[2]? = some (cR cs)
  csl : cs.length = xs.length
  one : cs.all C.isOne = true
  cl : Cl H
  ent : ∀ e ∈ es, e.1.1 < xs.length ∧ (∀ b ∈ e.1.2, b < xs.length) ∧ cs[e.1.1]? = some (cellE e)
  nod : (ids es).Nodup
theorem mch_cases (xs : List Int) (p q : Pr) : ((mch xs p q).1 = p.1 ∧ (mch xs p q).2 = p.2 ++ [q.1]) ∨ ((mch xs p q).1 = q.1 ∧ (mch xs p q).2 = q.2 ++ [p.1]) := by
  unfold mch; split
  · exact .inr ⟨rfl, rfl⟩
  · exact .inl ⟨rfl, rfl⟩
theorem SJ.step {xs : List Int} {S S' T : List Nat} {H H' : Hp} {cs : List C} {N R : List En} {p q w : En} (hJ : SJ xs S H cs (N ++ p :: q :: R)) (hE : Exc T H H')
    (hT : ∀ t ∈ T, t ∈ S ∨ t = p.2 ∧ p.1.2 ≠ [] ∨ t = q.2 ∧ q.1.2 ≠ []) (hS : ∀ s ∈ S', s ∈ S ∨ H.length ≤ s) (h0 : 0 ∉ T) (hw : w.1 = mch xs p.1 q.1) (hrow : H'[w.2]? = some (oI (idZ w.1.2)))
    (hlos : H'[2]? = some (cR (cs.set w.1.1 (cellE w)))) (hn : H.length ≤ w.2) (hwS : w.2 ∉ S') (cl : Cl H') : SJ xs S' H' (cs.set w.1.1 (cellE w)) (N ++ [w] ++ R) := by
  obtain ⟨lj, list, los, csl, one, _, ent, nod⟩ := hJ
  have hp := ent p (by simp)
  have hq := ent q (by simp)
  have nd : (ids N ++ (p.1.1 :: q.1.1 :: ids R)).Nodup := by rw [ids_app] at nod; exact nod
  have nd2 := List.nodup_append.1 nd
  have ndp := List.nodup_cons.1 nd2.2.1
  have ndq := List.nodup_cons.1 ndp.2
  have hwi : w.1.1 = p.1.1 ∨ w.1.1 = q.1.1 := by
    rw [hw]; rcases mch_cases xs p.1 q.1 with h | h
    · exact .inl h.1
    · exact .inr h.1
  have hwn : w.1.1 < xs.length := by rcases hwi with h | h <;> rw [h]
                                     · exact hp.1
                                     · exact hq.1
  have hother : ∀ e, (e ∈ N ∨ e ∈ R) → e.1.1 ≠ w.1.1 := by
    intro e he
    have m1 : e.1.1 ≠ p.1.1 := by
      rcases he with h | h
      · exact nd2.2.2 _ (List.mem_map_of_mem h) _ (by simp)
      · intro e'; exact ndp.1 (by rw [← e']; exact List.mem_cons_of_mem _ (List.mem_map_of_mem h))
    have m2 : e.1.1 ≠ q.1.1 := by
      rcases he with h | h
      · exact nd2.2.2 _ (List.mem_map_of_mem h) _ (by simp)
      · intro e'; exact ndq.1 (by rw [← e']; exact List.mem_map_of_mem h)
    rcases hwi with h | h <;> rw [h]
    · exact m1
    · exact m2
  refine ⟨lj.step hE hT hS (fun _ => hrow) hn hwS, hE _ _ list h0, hlos, by rw [List.length_set, csl], ?_, cl, ?_, ?_⟩
  · rw [List.all_eq_true] at one ⊢
    intro c hc
    rcases List.mem_or_eq_of_mem_set hc with h | rfl
    · exact one c h
    · exact cellE_one w
  · intro e he
    simp only [List.mem_append, List.mem_singleton] at he
    have hold : (e ∈ N ∨ e ∈ R) → e.1.1 < xs.length ∧ (∀ b ∈ e.1.2, b < xs.length) ∧ (cs.set w.1.1 (cellE w))[e.1.1]? = some (cellE e) := fun h => by
      have h3 := ent e (by rcases h with h | h <;> simp [h])
      exact ⟨h3.1, h3.2.1, by rw [List.getElem?_set_ne (Ne.symm (hother e h))]; exact h3.2.2⟩
    rcases he with (he | rfl) | he
    · exact hold (.inl he)
    · refine ⟨hwn, fun b hb => ?_, by rw [List.getElem?_set]; simp [csl, hwn]⟩
      rw [hw] at hb
      rcases mch_cases xs p.1 q.1 with h | h <;> rw [h.2] at hb <;> simp only [List.mem_append, List.mem_singleton] at hb <;> rcases hb with hb | rfl
      · exact hp.2.1 b hb
      · exact hq.1
      · exact hq.2.1 b hb
      · exact hp.1
    · exact hold (.inr he)
  · rw [ids_app, ids_app, List.append_assoc]
    refine List.nodup_append.2 ⟨nd2.1, List.nodup_cons.2 ⟨fun h => ?_, ndq.2⟩, fun a ha b hb => ?_⟩
    · obtain ⟨e, he, e'⟩ := List.mem_map.1 h
      exact hother e (.inr he) e'
    · simp only [List.mem_append] at hb
      rcases hb with hb | hb
      · obtain ⟨e, he, rfl⟩ := List.mem_map.1 ha
        simp [ids] at hb
        rw [hb]; exact hother e (.inl he)
      · exact nd2.2.2 a ha b (by simp [hb])
theorem SJ.keep {xs : List Int} {S S' T : List Nat} {H H' : Hp} {cs : List C} {es : List En} (hJ : SJ xs S H cs es) (hE : Exc T H H') (hT : ∀ t ∈ T, t ∈ S) (hS : ∀ s ∈ S', s ∈ S ∨ H.length ≤ s) (h0 : 0 ∉ T) (h2 : 2 ∉ T) (cl : Cl H') : SJ xs S' H' cs es :=
  ⟨hJ.lj.keep hE hT hS, hE _ _ hJ.list h0, hE _ _ hJ.los h2, hJ.csl, hJ.one, cl, hJ.ent, hJ.nod⟩

/-- The outer loop's invariant. -/
structure OJ (xs : List Int) (s : TO) : Prop where
  run : tnT xs s.g (prs s.ps) s.c = tnR xs
  fuel : s.ps.length ≤ s.g + 1
  pos : 1 ≤ s.ps.length
  cnt : s.c + s.ps.length = xs.length
  row : s.H[s.hp]? = some (oI (idZ (ids s.ps)))
  sj : SJ xs [2, s.hp] s.H s.cs s.ps
  few : ∀ e ∈ s.ps, e.1.2.length ≤ s.c
/-- The inner loop's. -/
structure IJ (xs : List Int) (s : TO) (t : SI) : Prop where
  run : prs t.N ++ rnd xs (prs t.R) = rnd xs (prs s.ps)
  rest : ids t.R = (ids s.ps).drop t.i
  pos : t.i + t.R.length = s.ps.length ∨ (t.R = [] ∧ s.ps.length ≤ t.i ∧ t.i ≤ s.ps.length + 1)
  cnt : t.c + t.R.length / 2 = s.c + s.ps.length / 2
  len : t.N.length + t.R.length ≤ s.ps.length
  row : t.H[s.hp]? = some (oI (idZ (ids s.ps)))
  nxt : t.H[t.hn]? = some (oI (idZ (ids t.N)))
  ne : t.hn ≠ s.hp
  sj : SJ xs [2, s.hp, t.hn] t.H t.cs (t.N ++ t.R)
  few : ∀ e ∈ t.N ++ t.R, e.1.2.length ≤ t.c
def en0 (n : Nat) : List En := (ini n).map fun p => (p, 0)
theorem en0_ids (n : Nat) : ids (en0 n) = List.range n := by simp [ids, en0, ini, Function.comp_def]
theorem en0_prs (n : Nat) : prs (en0 n) = ini n := by simp [prs, en0, Function.comp_def]
theorem en0_len (n : Nat) : (en0 n).length = n := by simp [en0, ini]
theorem en0_bt {n : Nat} {e : En} (h : e ∈ en0 n) : e.1.2 = [] ∧ e.1.1 < n := by
  simp only [en0, ini, List.map_map, List.mem_map, List.mem_range] at h
  obtain ⟨i, hi, rfl⟩ := h
  exact ⟨rfl, hi⟩
theorem sj0 (xs : List Int) : SJ xs [2, 1] [rI xs, oI (idZ (List.range xs.length)), cR (List.replicate xs.length (.v (.slice none 0 0)))] (List.replicate xs.length (.v (.slice none 0 0))) (en0 xs.length) := by
  refine ⟨⟨fun e he hne => absurd (en0_bt he).1 hne, ?_⟩, rfl, rfl, by simp, ?_, ?_, fun e he => ⟨(en0_bt he).2, by rw [(en0_bt he).1]; simp, ?_⟩, ?_⟩
  · exact List.Pairwise.imp_of_mem (R := fun _ _ => True) (fun ha _ _ => .inl (en0_bt ha).1) (List.pairwise_of_forall (fun _ _ => trivial))
  · rw [List.all_eq_true]; intro c hc; rw [List.eq_of_mem_replicate hc]; rfl
  · intro r hr h hh
    simp at hr
    rcases hr with rfl | rfl | rfl
    · simp [Row.hs, Dat.hs] at hh
    · simp [Row.hs, Dat.hs] at hh
    · simp only [Row.hs, Dat.hs, List.mem_flatMap] at hh
      obtain ⟨c, hc, hh⟩ := hh
      rw [List.eq_of_mem_replicate hc] at hh
      simp [C.hs] at hh
  · rw [List.getElem?_replicate, if_pos (en0_bt he).2, cellE, if_pos (en0_bt he).1]
  · rw [en0_ids]; exact List.nodup_range
theorem idL_snoc (i : Nat) : idZ (List.range (i + 1)) = idZ (List.range i) ++ [(i : Int)] := by simp [idZ, List.range_succ]

theorem sSec_l (xs : List Int) (hx : xs.length ≤ 281474976710656) : ACalls Try.prog 5 [tS 0 xs.length] [] [rI xs] (fun t H => t = .tup (ssV xs) ∧ H = [rI xs]) := by
  refine afun (fun i => match i with | 17 => some ⟨[], .op 0 .held (.op 1 .held (.op 2 .held (.op 3 .now (.op 4 .held (.op 5 .held (.op 6 .held (.op 7 .held (.op 8 .now (.op 9 .held (.op 10 .held .nil))))))))))⟩ | 19 => some ⟨[], .op 0 .held (.op 1 .held (.op 2 .held (.op 3 .now (.op 4 .held (.op 5 .held (.op 6 .held (.op 7 .now (.op 8 .held .nil))))))))⟩ | _ => none) [2, 3, 4] 1 Try.func5 rfl rfl mix (by kernel_rfl) (by kernel_rfl) (by simp [Try.f5]) rfl (by simp [msOwn, ownAll, Row.own]) ?_
  simp (dsimp := false) only [go_sem, Nat.reduceAdd, Nat.reduceBEq, Nat.reduceEqDiff, Nat.reduceLT, Nat.reduceLeDiff, reduceCtorEq, ↓reduceIte]
  cases hv : validB xs
  · repeat (refine And.intro (by first | exact True.intro | omega | kernel_rfl | (simp only [List.length_set, List.length_append, List.length_take, List.length_replicate, List.length_cons, true_and, and_true, List.length_nil, tabR_length]; omega)) ?_)
    refine ⟨_, (l2List_l xs hx).lift [0] (by decide) (by simp) (by simp [RS.slot, List.map_cons, List.map_nil, rowsLe, rowLe, slotsLe, tvLe, TV.ren, AV.ren, C.ren, Dat.ren, Row.ren, TV.hs, AV.hs, C.hs, Dat.hs, get_cons, get_nil, zipSlots, List.getD_cons_zero, List.getD_cons_succ, List.getD_nil, -List.getD_eq_getElem?_getD]) (by simp [RS.slot, List.map_cons, List.map_nil, rowsLe, rowLe, slotsLe, tvLe, TV.ren, AV.ren, C.ren, Dat.ren, Row.ren, TV.hs, AV.hs, C.hs, Dat.hs, get_cons, get_nil, zipSlots, List.getD_cons_zero, List.getD_cons_succ, List.getD_nil, -List.getD_eq_getElem?_getD]) (by simp [RS.slot, List.map_cons, List.map_nil, rowsLe, rowLe, slotsLe, tvLe, TV.ren, AV.ren, C.ren, Dat.ren, Row.ren, TV.hs, AV.hs, C.hs, Dat.hs, get_cons, get_nil, zipSlots, List.getD_cons_zero, List.getD_cons_succ, List.getD_nil, -List.getD_eq_getElem?_getD]) rfl ?_⟩
    rintro _ _ ⟨rfl, rfl⟩
    refine ⟨by simp [ownIn, Row.own], ?_⟩
    simp (dsimp := false) only [hv, liftT, liftH, putBack, freshR, ownIn, Row.own, Row.ren, TV.ren, AV.ren, C.ren, Dat.ren, List.drop_succ_cons, List.drop_nil, List.getD_cons_zero, List.getD_cons_succ, List.getD_nil, go_sem, Nat.reduceAdd, Nat.reduceBEq, Nat.reduceEqDiff, Nat.reduceLT, Nat.reduceLeDiff, reduceCtorEq, ↓reduceIte]
    refine afin [0] [aI 0, aI 0, aB false] [rI xs] (by simp) rfl (weak_of (by decide) (by simp [RS.slot, List.map_cons, List.map_nil, rowsLe, rowLe, slotsLe, tvLe, TV.ren, AV.ren, C.ren, Dat.ren, Row.ren, TV.hs, AV.hs, C.hs, Dat.hs, get_cons, get_nil, zipSlots, List.getD_cons_zero, List.getD_cons_succ, List.getD_nil, -List.getD_eq_getElem?_getD])) (by simp only [rtv, ssV, hv, Bool.false_and, cond_false, and_self])
  by_cases h2 : xs.length < 2
  · have hd : decide ((xs.length : Int) < 2) = true := decide_eq_true (by omega)
    have hd2 : decide (2 ≤ xs.length) = false := decide_eq_false (by omega)
    repeat (refine And.intro (by first | exact True.intro | omega | kernel_rfl | (simp only [List.length_set, List.length_append, List.length_take, List.length_replicate, List.length_cons, true_and, and_true, List.length_nil, tabR_length]; omega)) ?_)
    refine ⟨_, (l2List_l xs hx).lift [0] (by decide) (by simp) (by simp [RS.slot, List.map_cons, List.map_nil, rowsLe, rowLe, slotsLe, tvLe, TV.ren, AV.ren, C.ren, Dat.ren, Row.ren, TV.hs, AV.hs, C.hs, Dat.hs, get_cons, get_nil, zipSlots, List.getD_cons_zero, List.getD_cons_succ, List.getD_nil, -List.getD_eq_getElem?_getD]) (by simp [RS.slot, List.map_cons, List.map_nil, rowsLe, rowLe, slotsLe, tvLe, TV.ren, AV.ren, C.ren, Dat.ren, Row.ren, TV.hs, AV.hs, C.hs, Dat.hs, get_cons, get_nil, zipSlots, List.getD_cons_zero, List.getD_cons_succ, List.getD_nil, -List.getD_eq_getElem?_getD]) (by simp [RS.slot, List.map_cons, List.map_nil, rowsLe, rowLe, slotsLe, tvLe, TV.ren, AV.ren, C.ren, Dat.ren, Row.ren, TV.hs, AV.hs, C.hs, Dat.hs, get_cons, get_nil, zipSlots, List.getD_cons_zero, List.getD_cons_succ, List.getD_nil, -List.getD_eq_getElem?_getD]) rfl ?_⟩
    rintro _ _ ⟨rfl, rfl⟩
    refine ⟨by simp [ownIn, Row.own], ?_⟩
    simp (dsimp := false) only [hv, hd, liftT, liftH, putBack, freshR, ownIn, Row.own, Row.ren, TV.ren, AV.ren, C.ren, Dat.ren, List.drop_succ_cons, List.drop_nil, List.getD_cons_zero, List.getD_cons_succ, List.getD_nil, go_sem, Nat.reduceAdd, Nat.reduceBEq, Nat.reduceEqDiff, Nat.reduceLT, Nat.reduceLeDiff, reduceCtorEq, ↓reduceIte]
    refine afin [0] [aI 0, aI 0, aB false] [rI xs] (by simp) rfl (weak_of (by decide) (by simp [RS.slot, List.map_cons, List.map_nil, rowsLe, rowLe, slotsLe, tvLe, TV.ren, AV.ren, C.ren, Dat.ren, Row.ren, TV.hs, AV.hs, C.hs, Dat.hs, get_cons, get_nil, zipSlots, List.getD_cons_zero, List.getD_cons_succ, List.getD_nil, -List.getD_eq_getElem?_getD])) (by simp only [rtv, ssV, hv, hd2, Bool.and_false, cond_false, and_self])
  have h64 := validB_len hv
  have hd : decide ((xs.length : Int) < 2) = false := decide_eq_false (by omega)
  have hd2 : decide (2 ≤ xs.length) = true := decide_eq_true (by omega)
  repeat (refine And.intro (by first | exact True.intro | omega | kernel_rfl | (simp only [List.length_set, List.length_append, List.length_take, List.length_replicate, List.length_cons, true_and, and_true, List.length_nil, tabR_length]; omega)) ?_)
  refine ⟨_, (l2List_l xs hx).lift [0] (by decide) (by simp) (by simp [RS.slot, List.map_cons, List.map_nil, rowsLe, rowLe, slotsLe, tvLe, TV.ren, AV.ren, C.ren, Dat.ren, Row.ren, TV.hs, AV.hs, C.hs, Dat.hs, get_cons, get_nil, zipSlots, List.getD_cons_zero, List.getD_cons_succ, List.getD_nil, -List.getD_eq_getElem?_getD]) (by simp [RS.slot, List.map_cons, List.map_nil, rowsLe, rowLe, slotsLe, tvLe, TV.ren, AV.ren, C.ren, Dat.ren, Row.ren, TV.hs, AV.hs, C.hs, Dat.hs, get_cons, get_nil, zipSlots, List.getD_cons_zero, List.getD_cons_succ, List.getD_nil, -List.getD_eq_getElem?_getD]) (by simp [RS.slot, List.map_cons, List.map_nil, rowsLe, rowLe, slotsLe, tvLe, TV.ren, AV.ren, C.ren, Dat.ren, Row.ren, TV.hs, AV.hs, C.hs, Dat.hs, get_cons, get_nil, zipSlots, List.getD_cons_zero, List.getD_cons_succ, List.getD_nil, -List.getD_eq_getElem?_getD]) rfl ?_⟩
  rintro _ _ ⟨rfl, rfl⟩
  refine ⟨by simp [ownIn, Row.own], ?_⟩
  simp (dsimp := false) only [hv, hd, liftT, liftH, putBack, freshR, ownIn, Row.own, Row.ren, TV.ren, AV.ren, C.ren, Dat.ren, List.drop_succ_cons, List.drop_nil, List.getD_cons_zero, List.getD_cons_succ, List.getD_nil, go_sem, Nat.reduceAdd, Nat.reduceBEq, Nat.reduceEqDiff, Nat.reduceLT, Nat.reduceLeDiff, reduceCtorEq, ↓reduceIte]
  repeat (refine And.intro (by first | exact True.intro | omega | kernel_rfl | (simp only [List.length_set, List.length_append, List.length_take, List.length_replicate, List.length_cons, true_and, and_true, List.length_nil, tabR_length]; omega)) ?_)
  refine aloop (σ := Nat) (fun i => ([(0, tS 0 xs.length), (5, tS 1 i), (6, tSS 2 xs.length), (7, tI i)], [rI xs, oI (idZ (List.range i)), cR (List.replicate xs.length (.v (.slice none 0 0)))])) (fun i => i ≤ xs.length) (fun i => xs.length - i) 0 ([0, 1, 2]) (Nat.zero_le _) (weak_of (by decide) (by simp [RS.slot, List.map_cons, List.map_nil, rowsLe, rowLe, slotsLe, tvLe, TV.ren, AV.ren, C.ren, Dat.ren, Row.ren, TV.hs, AV.hs, C.hs, Dat.hs, get_cons, get_nil, zipSlots, List.getD_cons_zero, List.getD_cons_succ, List.getD_nil, -List.getD_eq_getElem?_getD, idZ])) ?_
  intro i hi
  by_cases hin : i < xs.length
  · have hcd : decide ((i : Int) < (xs.length : Int)) = true := decide_eq_true (by omega)
    have hil : (idZ (List.range i)).length = i := by rw [idZ_len, List.length_range]
    have hsn := idL_snoc i
    simp (dsimp := false) only [hcd, hil, go_sem, Nat.reduceAdd, Nat.reduceBEq, Nat.reduceEqDiff, Nat.reduceLT, Nat.reduceLeDiff, reduceCtorEq, ↓reduceIte]
    repeat (refine And.intro (by first | exact True.intro | omega | kernel_rfl | (simp only [List.length_set, List.length_append, List.length_take, List.length_replicate, List.length_cons, true_and, and_true, List.length_nil, tabR_length]; omega)) ?_)
    refine ⟨i + 1, [0, 4, 2], ?_, weak_of (by decide) (by simp [RS.slot, List.map_cons, List.map_nil, rowsLe, rowLe, slotsLe, tvLe, TV.ren, AV.ren, C.ren, Dat.ren, Row.ren, TV.hs, AV.hs, C.hs, Dat.hs, get_cons, get_nil, zipSlots, List.getD_cons_zero, List.getD_cons_succ, List.getD_nil, -List.getD_eq_getElem?_getD, hsn])⟩
    omega
  have hie : i = xs.length := by omega
  subst hie
  have hcd : decide ((xs.length : Int) < (xs.length : Int)) = false := decide_eq_false (by omega)
  simp (dsimp := false) only [hcd, go_sem, Nat.reduceAdd, Nat.reduceBEq, Nat.reduceEqDiff, Nat.reduceLT, Nat.reduceLeDiff, reduceCtorEq, ↓reduceIte]
  have hJ0 : OJ xs ⟨xs.length, en0 xs.length, 1, List.replicate xs.length (.v (.slice none 0 0)), [rI xs, oI (idZ (List.range xs.length)), cR (List.replicate xs.length (.v (.slice none 0 0)))], 0⟩ :=
    ⟨by rw [en0_prs]; rfl, by simp only [en0_len]; omega, by simp only [en0_len]; omega, by simp only [en0_len]; omega, by rw [en0_ids]; rfl, sj0 xs, fun e he => by rw [(en0_bt he).1]; simp⟩
  have hcl := hJ0.sj.cl
  refine aloopQ (σ := TO) (fun s => ([(0, tS 0 xs.length), (5, tS s.hp s.ps.length), (6, tSS 2 xs.length), (8, tI s.c)], s.H)) (fun s => OJ xs s) (fun s => s.g) (⟨xs.length, en0 xs.length, 1, List.replicate xs.length (.v (.slice none 0 0)), [rI xs, oI (idZ (List.range xs.length)), cR (List.replicate xs.length (.v (.slice none 0 0)))], 0⟩) (List.range 3) hJ0 (wk_id (by simp) hcl (by simp [slId, get_cons, get_nil, TV.hs, AV.hs, C.hs, RS.slot, zipSlots, en0_len])) ?_
  clear hJ0 hcl
  rintro Q hQ s ⟨j1, j2, j3, j4, j5, j6, j7⟩
  have l0 := j6.list
  have l2 := j6.los
  have hl0 := getlt l0
  have hl2 := getlt l2
  have hlp := getlt j5
  have hip : (idZ (ids s.ps)).length = s.ps.length := by rw [idZ_len, ids_len]
  by_cases h1 : 1 < s.ps.length
  · have hcd : decide ((1 : Int) < (s.ps.length : Int)) = true := decide_eq_true (by omega)
    simp (dsimp := false) only [hcd, go_sem, Nat.reduceAdd, Nat.reduceBEq, Nat.reduceEqDiff, Nat.reduceLT, Nat.reduceLeDiff, reduceCtorEq, ↓reduceIte]
    repeat (refine And.intro (by first | exact True.intro | omega | kernel_rfl | (simp only [List.length_set, List.length_append, List.length_take, List.length_replicate, List.length_cons, true_and, and_true, List.length_nil, tabR_length]; omega)) ?_)
    have hI0 : IJ xs s ⟨0, [], s.ps, s.H.length, s.cs, s.H ++ [oI []], s.c⟩ := by
      refine ⟨rfl, rfl, .inl (by simp), rfl, by simp, lkp j5, lkn _ _, by show s.H.length ≠ s.hp; omega, ?_, j7⟩
      exact j6.keep (Exc.app (Exc.refl [] s.H) _) (by simp) (fun x hx => by simp at hx ⊢; omega) (by simp) (by simp) (cl_oI j6.cl)
    have hcl := hI0.sj.cl
    refine aloopQ (σ := SI) (fun t => ([(0, tS 0 xs.length), (5, tS s.hp s.ps.length), (6, tSS 2 xs.length), (8, tI t.c), (9, tS t.hn t.N.length), (10, tI t.i)], t.H)) (fun t => IJ xs s t) (fun t => s.ps.length + 2 - t.i) (⟨0, [], s.ps, s.H.length, s.cs, s.H ++ [oI []], s.c⟩) (List.range (s.H ++ [oI []]).length) hI0 (wk_id (by simp) hcl (by simp [slId, get_cons, get_nil, TV.hs, AV.hs, C.hs, RS.slot, zipSlots]; omega)) ?_
    clear hI0 hcl
    rintro Q2 hQ2 ⟨i, N, R, hn, cs, H, c⟩ ⟨i1, i2, i3, i4, i5, i6, i7, i8, i9, i10⟩
    simp only at i1 i2 i3 i4 i5 i6 i7 i8 i9 i10
    have hcl := i9.cl
    have l0' := i9.list
    have l2' := i9.los
    have hH0 := getlt l0'
    have hH2 := getlt l2'
    have hHp := getlt i6
    have hHn := getlt i7
    have hn0 : hn ≠ 0 := fun e => by rw [e, l0'] at i7; cases i7
    have hn2' : hn ≠ 2 := fun e => by rw [e, l2'] at i7; cases i7
    have hp2' : s.hp ≠ 2 := fun e => by rw [e, l2'] at i6; cases i6
    have hNl : (idZ (ids N)).length = N.length := by rw [idZ_len, ids_len]
    have hLl : (idZ (ids s.ps)).length = s.ps.length := by rw [idZ_len, ids_len]
    have hcsl := i9.csl
    have hat : ∀ k, k < R.length → (idZ (ids s.ps)).getD (i + k) 0 = (((ids R).getD k 0 : Nat) : Int) := fun k hk => by
      have hk2 : i + k < s.ps.length := by rcases i3 with h | ⟨h, _⟩
                                           · omega
                                           · rw [h] at hk; simp at hk
      rw [idZ_get (by rw [ids_len]; exact hk2), i2, List.getD_eq_getElem?_getD, List.getD_eq_getElem?_getD, List.getElem?_drop]
    match R, i1, i2, i3, i4, i5, i9, i10, hat with
    | [], i1, i2, i3, i4, i5, i9, i10, hat =>
      have hcd : decide ((i : Int) < (s.ps.length : Int)) = false := decide_eq_false (by rcases i3 with h | h <;> simp at h <;> omega)
      obtain ⟨g, hg⟩ : ∃ g, s.g = g + 1 := ⟨s.g - 1, by omega⟩
      rw [hg, tnT_step (by rw [prs_len]; exact h1)] at j1
      have hrl := rnd_len xs (prs s.ps)
      have e0 : prs N = rnd xs (prs s.ps) := by rw [← i1]; simp [prs, rnd]
      rw [← e0, prs_len, prs_len] at hrl
      simp (dsimp := false) only [hcd, go_sem, Nat.reduceAdd, Nat.reduceBEq, Nat.reduceEqDiff, Nat.reduceLT, Nat.reduceLeDiff, reduceCtorEq, ↓reduceIte]
      refine hQ2 _ _ _ ?_
      simp (dsimp := false) only [go_sem, Nat.reduceAdd, Nat.reduceBEq, Nat.reduceEqDiff, Nat.reduceLT, Nat.reduceLeDiff, reduceCtorEq, ↓reduceIte]
      refine ⟨⟨g, N, hn, cs, H, c⟩, List.range H.length, ⟨⟨?_, by show N.length ≤ g + 1; omega, by show 1 ≤ N.length; omega, by show c + N.length = _; simp at i4; omega, i7, ?_, by simpa using i10⟩, by show g < s.g; omega⟩, wk_id (by omega) hcl (by simp [slId, get_cons, get_nil, TV.hs, AV.hs, C.hs, RS.slot, zipSlots, hHp, hHn, hH0, hH2])⟩
      · show tnT xs g (prs N) c = _
        rw [← j1, e0, prs_len]; congr 1
      · have := i9.keep (Exc.refl [] H) (S' := [2, hn]) (by simp) (fun x hx => by simp at hx ⊢; rcases hx with h | h <;> simp [h]) (by simp) (by simp) hcl
        simpa using this
    | [p], i1, i2, i3, i4, i5, i9, i10, hat =>
      have hil : i + 1 = s.ps.length := by rcases i3 with h | h <;> simp at h; exact h
      have hcd : decide ((i : Int) < (s.ps.length : Int)) = true := decide_eq_true (by omega)
      have deq : ((i : Int) + 1 == (s.ps.length : Int)) = true := by rw [beq_iff_eq]; omega
      have gp : (idZ (ids s.ps)).getD i 0 = (p.1.1 : Int) := hat 0 (by simp)
      have qN : (H ++ [oI [(p.1.1 : Int)]])[hn]? = some (oI (idZ (ids N))) := lkp i7
      have qA : (H ++ [oI [(p.1.1 : Int)]])[H.length]? = some (oI [(p.1.1 : Int)]) := lkn _ _
      simp at i5
      simp (dsimp := false) only [hcd, deq, i6, gp, qN, qA, hNl, hLl, List.length_append, List.length_set, List.length_cons, List.length_nil, List.take_succ_cons, List.take_zero, Int.toNat_natCast, go_sem, Nat.reduceAdd, Nat.reduceBEq, Nat.reduceEqDiff, Nat.reduceLT, Nat.reduceLeDiff, reduceCtorEq, ↓reduceIte]
      repeat (refine And.intro (by first | exact True.intro | omega | kernel_rfl | (simp only [List.length_set, List.length_append, List.length_take, List.length_replicate, List.length_cons, true_and, and_true, List.length_nil, tabR_length]; omega)) ?_)
      have eF : Exc [hn] H ((H ++ [oI [(p.1.1 : Int)]]).set hn .dead ++ [oI (idZ (ids N) ++ [(p.1.1 : Int)])]) := ((Exc.refl [hn] H).app _ |>.set _ (by simp)).app _
      have hcl : Cl ((H ++ [oI [(p.1.1 : Int)]]).set hn .dead ++ [oI (idZ (ids N) ++ [(p.1.1 : Int)])]) := cl_oI (cl_dead (cl_oI hcl))
      refine ⟨⟨i + 2, N ++ [p], [], H.length + 1, cs, (H ++ [oI [(p.1.1 : Int)]]).set hn .dead ++ [oI (idZ (ids N) ++ [(p.1.1 : Int)])], c⟩, List.range ((H ++ [oI [(p.1.1 : Int)]]).set hn .dead ++ [oI (idZ (ids N) ++ [(p.1.1 : Int)])]).length, ⟨⟨?_, ?_, .inr ⟨rfl, by show s.ps.length ≤ i + 2; omega, by show i + 2 ≤ s.ps.length + 1; omega⟩, ?_, ?_, ?_, ?_, ?_, ?_, by simpa using i10⟩, by show s.ps.length + 2 - (i + 2) < s.ps.length + 2 - i; omega⟩, wk_id (by simp) hcl (by simp [slId, get_cons, get_nil, TV.hs, AV.hs, C.hs, RS.slot, zipSlots]; omega)⟩
      · show prs (N ++ [p]) ++ rnd xs (prs []) = _
        rw [← i1, prs_app]; simp [prs, rnd]
      · show ids [] = (ids s.ps).drop (i + 2)
        rw [List.drop_eq_nil_of_le (by rw [ids_len]; omega)]; rfl
      · show c + 0 / 2 = _; simp at i4; omega
      · show (N ++ [p]).length + 0 ≤ _; simp; omega
      · exact eF _ _ i6 (by simp; omega)
      · show (_ ++ [_])[H.length + 1]? = _
        rw [lkn' (by simp), ids_app, idZ_app]; rfl
      · show H.length + 1 ≠ s.hp; omega
      · have := i9.keep eF (S' := [2, s.hp, H.length + 1]) (by simp) (fun x hx => by simp at hx ⊢; rcases hx with h | h | h <;> simp [h]) (by simp; omega) (by simp; omega) hcl
        simpa using this
    | p :: q :: R, i1, i2, i3, i4, i5, i9, i10, hat =>
      have hil : i + (R.length + 2) = s.ps.length := by rcases i3 with h | h <;> simp at h; exact h
      have hcd : decide ((i : Int) < (s.ps.length : Int)) = true := decide_eq_true (by omega)
      have deq : (((i + 1 : Nat) : Int) == (s.ps.length : Int)) = false := by rw [beq_eq_false_iff_ne]; omega
      have e1 : (i : Int) + 1 = ((i + 1 : Nat) : Int) := by omega
      have gp : (idZ (ids s.ps)).getD i 0 = (p.1.1 : Int) := hat 0 (by simp)
      have gq : (idZ (ids s.ps)).getD (i + 1) 0 = (q.1.1 : Int) := hat 1 (by simp)
      have hEp := i9.ent p (by simp)
      have hEq := i9.ent q (by simp)
      have xp := hEp.1
      have xq := hEq.1
      have bp := i10 p (by simp)
      have bq := i10 q (by simp)
      have hcn : c ≤ 64 := by simp at i4; omega
      simp at i5 i4
      by_cases hlt : xs.getD q.1.1 0 < xs.getD p.1.1 0
      · have dlt : decide (xs.getD q.1.1 0 < xs.getD p.1.1 0) = true := decide_eq_true hlt
        by_cases hb : q.1.2 = []
        · --
          have hm : mch xs p.1 q.1 = (q.1.1, q.1.2 ++ [p.1.1]) := by rw [mch, if_pos hlt]
          have hca : q.1.1 < cs.length := by omega
          have hce : cs[q.1.1]? = some (.v (.slice none 0 0)) := by rw [hEq.2.2, cellE, if_pos hb]
          obtain ⟨HC, hHC⟩ : ∃ HC, HC = ((H ++ [oI [(p.1.1 : Int)]]) ++ [oI [(p.1.1 : Int)]]).set 2 (cR (cs.set q.1.1 (cSl (H.length + 1) 1))) := ⟨_, rfl⟩
          have qx : ((H ++ [oI [(p.1.1 : Int)]]) ++ [oI [(p.1.1 : Int)]])[2]? = some (cR cs) := lkp (lkp l2')
          have qn : (H ++ [oI [(p.1.1 : Int)]])[H.length]? = some (oI [(p.1.1 : Int)]) := lkn _ _
          have hC0 : ((H ++ [oI [(p.1.1 : Int)]]) ++ [oI [(p.1.1 : Int)]])[H.length + 1]? = some (oI [(p.1.1 : Int)]) := lkn' (by simp)
          have eC : Exc [2] H HC := by rw [hHC]; exact ((Exc.refl [2] H).app _ |>.app _).set _ (by simp)
          have clC : Cl HC := by
            rw [hHC]
            refine cl_set (cl_oI (cl_oI hcl)) fun h hh => ?_
            simp only [Row.hs, Dat.hs, List.mem_flatMap] at hh
            obtain ⟨c', hc', hh⟩ := hh
            rcases List.mem_or_eq_of_mem_set hc' with h1 | rfl
            · have := hcl _ (List.mem_of_getElem? l2') h (by simp only [Row.hs, Dat.hs, List.mem_flatMap]; exact ⟨c', h1, hh⟩)
              simp; omega
            · simp [C.hs] at hh; simp; omega
          have lC : HC.length = H.length + 2 := by rw [hHC]; simp
          have hC2 : HC[2]? = some (cR (cs.set q.1.1 (cSl (H.length + 1) 1))) := by rw [hHC]; exact lkset (by simp; omega)
          have hC1 : HC[H.length + 1]? = some (oI [(p.1.1 : Int)]) := by rw [hHC]; exact lks hC0 (by omega)
          have hCn : HC[hn]? = some (oI (idZ (ids N))) := eC _ _ i7 (by simp; omega)
          have qN : (HC ++ [oI [(q.1.1 : Int)]])[hn]? = some (oI (idZ (ids N))) := lkp hCn
          have qA : (HC ++ [oI [(q.1.1 : Int)]])[HC.length]? = some (oI [(q.1.1 : Int)]) := lkn _ _
          simp (dsimp := false) only [hcd, deq, e1, i6, gp, gq, l0', xp, xq, dlt, l2', hce, qn, hNl, hca, hLl, List.length_append, List.length_set, List.length_cons, List.length_nil, List.take_succ_cons, List.take_zero, Int.toNat_natCast, go_sem, Nat.reduceAdd, Nat.reduceBEq, Nat.reduceEqDiff, Nat.reduceLT, Nat.reduceLeDiff, reduceCtorEq, ↓reduceIte]
          repeat (refine And.intro (by first | exact True.intro | omega | kernel_rfl | (simp only [List.length_set, List.length_append, List.length_take, List.length_replicate, List.length_cons, true_and, and_true, List.length_nil, tabR_length]; omega)) ?_)
          simp (dsimp := false) only [hcd, deq, e1, i6, gp, gq, l0', dlt, l2', hce, qn, qx, hNl, hca, hLl, ← hHC, qN, qA, List.length_append, List.length_set, List.length_cons, List.length_nil, List.take_succ_cons, List.take_zero, Int.toNat_natCast, go_sem, Nat.reduceAdd, Nat.reduceBEq, Nat.reduceEqDiff, Nat.reduceLT, Nat.reduceLeDiff, reduceCtorEq, ↓reduceIte]
          repeat (refine And.intro (by first | exact True.intro | omega | kernel_rfl | (simp only [List.length_set, List.length_append, List.length_take, List.length_replicate, List.length_cons, true_and, and_true, List.length_nil, tabR_length]; omega)) ?_)
          obtain ⟨w, hw⟩ : ∃ w : En, w = ((q.1.1, q.1.2 ++ [p.1.1]), H.length + 1) := ⟨_, rfl⟩
          have hw1 : w.1 = mch xs p.1 q.1 := by rw [hw, hm]
          have hwi : w.1.1 = q.1.1 := by rw [hw]
          have hw2 : w.2 = H.length + 1 := by rw [hw]
          have hce : cellE w = cSl (H.length + 1) 1 := by rw [hw, cellE, if_neg (by simp)]; simp [hb]
          obtain ⟨HF, hHF⟩ : ∃ HF, HF = (HC ++ [oI [(q.1.1 : Int)]]).set hn .dead ++ [oI (idZ (ids N) ++ [(q.1.1 : Int)])] := ⟨_, rfl⟩
          have eF : Exc [2, hn] H HF := by rw [hHF, hHC]; exact ((((((Exc.refl [2, hn] H).app _).app _).set _ (by simp)).app _).set _ (by simp)).app _
          have hclF : Cl HF := by rw [hHF]; exact cl_oI (cl_dead (cl_oI clC))
          have lF : HF.length = H.length + 4 := by rw [hHF]; simp [lC]
          have hrow : HF[w.2]? = some (oI (idZ w.1.2)) := by
            rw [hw2, show idZ w.1.2 = [(p.1.1 : Int)] by rw [hw]; simp [idZ, hb], hHF]
            exact lkp (lks (lkp hC1) (by omega))
          have hlos : HF[2]? = some (cR (cs.set w.1.1 (cellE w))) := by
            rw [hwi, hce, hHF]
            exact lkp (lks (lkp hC2) hn2')
          have hSJ := i9.step (S' := [2, s.hp, HC.length + 1]) (w := w) eF (fun x hx => by
            simp only [List.mem_cons, List.not_mem_nil, or_false] at hx
            rcases hx with rfl | rfl
            · exact .inl (by simp)
            · exact .inl (by simp)) (fun x hx => by
            simp only [List.mem_cons, List.not_mem_nil, or_false] at hx
            rcases hx with rfl | rfl | rfl
            · exact .inl (by simp)
            · exact .inl (by simp)
            · exact .inr (by omega)) (by simp; omega) hw1 hrow hlos (by omega) (by rw [hw2]; simp; omega) hclF
          rw [← hHF]
          refine ⟨⟨i + 2, N ++ [w], R, HC.length + 1, cs.set w.1.1 (cellE w), HF, c + 1⟩, List.range HF.length, ⟨⟨?_, ?_, .inl (by show i + 2 + R.length = s.ps.length; omega), ?_, ?_, eF _ _ i6 (by simp; omega), ?_, by show HC.length + 1 ≠ s.hp; omega, hSJ, ?_⟩, by show s.ps.length + 2 - (i + 2) < s.ps.length + 2 - i; omega⟩, wk_id (by omega) hclF (by simp [slId, get_cons, get_nil, TV.hs, AV.hs, C.hs, RS.slot, zipSlots] <;> omega)⟩
          · show prs (N ++ [w]) ++ rnd xs (prs R) = _
            rw [← i1, prs_app, List.append_assoc]
            show prs N ++ (w.1 :: rnd xs (prs R)) = prs N ++ rnd xs (p.1 :: q.1 :: prs R)
            rw [rnd_two, hw1]
          · show ids R = (ids s.ps).drop (i + 2)
            have := congrArg (List.drop 2) i2
            rw [List.drop_drop] at this
            exact this
          · show c + 1 + R.length / 2 = _; omega
          · show (N ++ [w]).length + R.length ≤ _; simp; omega
          · show HF[HC.length + 1]? = _
            rw [hHF, lkn' (by simp), ids_app, idZ_app]
            simp [ids, idZ, hwi]
          · intro e he
            simp only [List.mem_append, List.mem_singleton] at he
            show e.1.2.length ≤ c + 1
            rcases he with (he | rfl) | he
            · have := i10 e (by simp [he]); omega
            · rw [hw]; simp; omega
            · have := i10 e (by simp [he]); omega
        · --
          have hm : mch xs p.1 q.1 = (q.1.1, q.1.2 ++ [p.1.1]) := by rw [mch, if_pos hlt]
          have hca : q.1.1 < cs.length := by omega
          have hce : cs[q.1.1]? = some (cSl q.2 q.1.2.length) := by rw [hEq.2.2, cellE, if_neg hb]
          obtain ⟨hrw, hns⟩ := i9.lj.row q (by simp) hb
          have hrl := getlt hrw
          simp only [List.mem_cons, List.not_mem_nil, or_false, not_or] at hns
          obtain ⟨hn2, hnp, hnn⟩ := hns
          have hbl : (idZ q.1.2).length = q.1.2.length := idZ_len _
          obtain ⟨HC, hHC⟩ : ∃ HC, HC = ((H ++ [oI [(p.1.1 : Int)]]).set q.2 .dead ++ [oI (idZ q.1.2 ++ [(p.1.1 : Int)])]).set 2 (cR (cs.set q.1.1 (cSl (H.length + 1) (q.1.2.length + 1)))) := ⟨_, rfl⟩
          have qh : (H ++ [oI [(p.1.1 : Int)]])[q.2]? = some (oI (idZ q.1.2)) := lkp hrw
          have qx : ((H ++ [oI [(p.1.1 : Int)]]).set q.2 .dead ++ [oI (idZ q.1.2 ++ [(p.1.1 : Int)])])[2]? = some (cR cs) := lkp (lks (lkp l2') hn2)
          have qn : (H ++ [oI [(p.1.1 : Int)]])[H.length]? = some (oI [(p.1.1 : Int)]) := lkn _ _
          have hC0 : ((H ++ [oI [(p.1.1 : Int)]]).set q.2 .dead ++ [oI (idZ q.1.2 ++ [(p.1.1 : Int)])])[H.length + 1]? = some (oI (idZ q.1.2 ++ [(p.1.1 : Int)])) := lkn' (by simp)
          have eC : Exc [2, q.2] H HC := by rw [hHC]; exact (((Exc.refl [2, q.2] H).app _).set _ (by simp) |>.app _).set _ (by simp)
          have clC : Cl HC := by
            rw [hHC]
            refine cl_set (cl_oI (cl_dead (cl_oI hcl))) fun h hh => ?_
            simp only [Row.hs, Dat.hs, List.mem_flatMap] at hh
            obtain ⟨c', hc', hh⟩ := hh
            rcases List.mem_or_eq_of_mem_set hc' with h1 | rfl
            · have := hcl _ (List.mem_of_getElem? l2') h (by simp only [Row.hs, Dat.hs, List.mem_flatMap]; exact ⟨c', h1, hh⟩)
              simp; omega
            · simp [C.hs] at hh; simp; omega
          have lC : HC.length = H.length + 2 := by rw [hHC]; simp
          have hC2 : HC[2]? = some (cR (cs.set q.1.1 (cSl (H.length + 1) (q.1.2.length + 1)))) := by rw [hHC]; exact lkset (by simp; omega)
          have hC1 : HC[H.length + 1]? = some (oI (idZ q.1.2 ++ [(p.1.1 : Int)])) := by rw [hHC]; exact lks hC0 (by omega)
          have hCn : HC[hn]? = some (oI (idZ (ids N))) := eC _ _ i7 (by simp; omega)
          have qN : (HC ++ [oI [(q.1.1 : Int)]])[hn]? = some (oI (idZ (ids N))) := lkp hCn
          have qA : (HC ++ [oI [(q.1.1 : Int)]])[HC.length]? = some (oI [(q.1.1 : Int)]) := lkn _ _
          simp (dsimp := false) only [hcd, deq, e1, i6, gp, gq, l0', xp, xq, dlt, l2', hce, qh, hbl, qn, hNl, hca, hLl, List.length_append, List.length_set, List.length_cons, List.length_nil, List.take_succ_cons, List.take_zero, Int.toNat_natCast, go_sem, Nat.reduceAdd, Nat.reduceBEq, Nat.reduceEqDiff, Nat.reduceLT, Nat.reduceLeDiff, reduceCtorEq, ↓reduceIte]
          repeat (refine And.intro (by first | exact True.intro | omega | kernel_rfl | (simp only [List.length_set, List.length_append, List.length_take, List.length_replicate, List.length_cons, true_and, and_true, List.length_nil, tabR_length]; omega)) ?_)
          simp (dsimp := false) only [hcd, deq, e1, i6, gp, gq, l0', dlt, l2', hce, qh, hbl, qn, qx, hNl, hca, hLl, ← hHC, qN, qA, List.length_append, List.length_set, List.length_cons, List.length_nil, List.take_succ_cons, List.take_zero, Int.toNat_natCast, go_sem, Nat.reduceAdd, Nat.reduceBEq, Nat.reduceEqDiff, Nat.reduceLT, Nat.reduceLeDiff, reduceCtorEq, ↓reduceIte]
          repeat (refine And.intro (by first | exact True.intro | omega | kernel_rfl | (simp only [List.length_set, List.length_append, List.length_take, List.length_replicate, List.length_cons, true_and, and_true, List.length_nil, tabR_length]; omega)) ?_)
          obtain ⟨w, hw⟩ : ∃ w : En, w = ((q.1.1, q.1.2 ++ [p.1.1]), H.length + 1) := ⟨_, rfl⟩
          have hw1 : w.1 = mch xs p.1 q.1 := by rw [hw, hm]
          have hwi : w.1.1 = q.1.1 := by rw [hw]
          have hw2 : w.2 = H.length + 1 := by rw [hw]
          have hce : cellE w = cSl (H.length + 1) (q.1.2.length + 1) := by rw [hw, cellE, if_neg (by simp)]; simp
          obtain ⟨HF, hHF⟩ : ∃ HF, HF = (HC ++ [oI [(q.1.1 : Int)]]).set hn .dead ++ [oI (idZ (ids N) ++ [(q.1.1 : Int)])] := ⟨_, rfl⟩
          have eF : Exc [2, q.2, hn] H HF := by rw [hHF, hHC]; exact (((((((Exc.refl [2, q.2, hn] H).app _).set _ (by simp)).app _).set _ (by simp)).app _).set _ (by simp)).app _
          have hclF : Cl HF := by rw [hHF]; exact cl_oI (cl_dead (cl_oI clC))
          have lF : HF.length = H.length + 4 := by rw [hHF]; simp [lC]
          have hrow : HF[w.2]? = some (oI (idZ w.1.2)) := by
            rw [hw2, show idZ w.1.2 = (idZ q.1.2 ++ [(p.1.1 : Int)]) by rw [hw]; simp [idZ], hHF]
            exact lkp (lks (lkp hC1) (by omega))
          have hlos : HF[2]? = some (cR (cs.set w.1.1 (cellE w))) := by
            rw [hwi, hce, hHF]
            exact lkp (lks (lkp hC2) hn2')
          have hw0 : q.2 ≠ 0 := fun e => by rw [e, l0'] at hrw; cases hrw
          have hSJ := i9.step (S' := [2, s.hp, HC.length + 1]) (w := w) eF (fun x hx => by
            simp only [List.mem_cons, List.not_mem_nil, or_false] at hx
            rcases hx with rfl | rfl | rfl
            · exact .inl (by simp)
            · exact .inr (.inr ⟨rfl, hb⟩)
            · exact .inl (by simp)) (fun x hx => by
            simp only [List.mem_cons, List.not_mem_nil, or_false] at hx
            rcases hx with rfl | rfl | rfl
            · exact .inl (by simp)
            · exact .inl (by simp)
            · exact .inr (by omega)) (by simp; omega) hw1 hrow hlos (by omega) (by rw [hw2]; simp; omega) hclF
          rw [← hHF]
          refine ⟨⟨i + 2, N ++ [w], R, HC.length + 1, cs.set w.1.1 (cellE w), HF, c + 1⟩, List.range HF.length, ⟨⟨?_, ?_, .inl (by show i + 2 + R.length = s.ps.length; omega), ?_, ?_, eF _ _ i6 (by simp; omega), ?_, by show HC.length + 1 ≠ s.hp; omega, hSJ, ?_⟩, by show s.ps.length + 2 - (i + 2) < s.ps.length + 2 - i; omega⟩, wk_id (by omega) hclF (by simp [slId, get_cons, get_nil, TV.hs, AV.hs, C.hs, RS.slot, zipSlots] <;> omega)⟩
          · show prs (N ++ [w]) ++ rnd xs (prs R) = _
            rw [← i1, prs_app, List.append_assoc]
            show prs N ++ (w.1 :: rnd xs (prs R)) = prs N ++ rnd xs (p.1 :: q.1 :: prs R)
            rw [rnd_two, hw1]
          · show ids R = (ids s.ps).drop (i + 2)
            have := congrArg (List.drop 2) i2
            rw [List.drop_drop] at this
            exact this
          · show c + 1 + R.length / 2 = _; omega
          · show (N ++ [w]).length + R.length ≤ _; simp; omega
          · show HF[HC.length + 1]? = _
            rw [hHF, lkn' (by simp), ids_app, idZ_app]
            simp [ids, idZ, hwi]
          · intro e he
            simp only [List.mem_append, List.mem_singleton] at he
            show e.1.2.length ≤ c + 1
            rcases he with (he | rfl) | he
            · have := i10 e (by simp [he]); omega
            · rw [hw]; simp; omega
            · have := i10 e (by simp [he]); omega
      · have dlt : decide (xs.getD q.1.1 0 < xs.getD p.1.1 0) = false := decide_eq_false hlt
        by_cases hb : p.1.2 = []
        · --
          have hm : mch xs p.1 q.1 = (p.1.1, p.1.2 ++ [q.1.1]) := by rw [mch, if_neg hlt]
          have hca : p.1.1 < cs.length := by omega
          have hce : cs[p.1.1]? = some (.v (.slice none 0 0)) := by rw [hEp.2.2, cellE, if_pos hb]
          obtain ⟨HC, hHC⟩ : ∃ HC, HC = ((H ++ [oI [(q.1.1 : Int)]]) ++ [oI [(q.1.1 : Int)]]).set 2 (cR (cs.set p.1.1 (cSl (H.length + 1) 1))) := ⟨_, rfl⟩
          have qx : ((H ++ [oI [(q.1.1 : Int)]]) ++ [oI [(q.1.1 : Int)]])[2]? = some (cR cs) := lkp (lkp l2')
          have qn : (H ++ [oI [(q.1.1 : Int)]])[H.length]? = some (oI [(q.1.1 : Int)]) := lkn _ _
          have hC0 : ((H ++ [oI [(q.1.1 : Int)]]) ++ [oI [(q.1.1 : Int)]])[H.length + 1]? = some (oI [(q.1.1 : Int)]) := lkn' (by simp)
          have eC : Exc [2] H HC := by rw [hHC]; exact ((Exc.refl [2] H).app _ |>.app _).set _ (by simp)
          have clC : Cl HC := by
            rw [hHC]
            refine cl_set (cl_oI (cl_oI hcl)) fun h hh => ?_
            simp only [Row.hs, Dat.hs, List.mem_flatMap] at hh
            obtain ⟨c', hc', hh⟩ := hh
            rcases List.mem_or_eq_of_mem_set hc' with h1 | rfl
            · have := hcl _ (List.mem_of_getElem? l2') h (by simp only [Row.hs, Dat.hs, List.mem_flatMap]; exact ⟨c', h1, hh⟩)
              simp; omega
            · simp [C.hs] at hh; simp; omega
          have lC : HC.length = H.length + 2 := by rw [hHC]; simp
          have hC2 : HC[2]? = some (cR (cs.set p.1.1 (cSl (H.length + 1) 1))) := by rw [hHC]; exact lkset (by simp; omega)
          have hC1 : HC[H.length + 1]? = some (oI [(q.1.1 : Int)]) := by rw [hHC]; exact lks hC0 (by omega)
          have hCn : HC[hn]? = some (oI (idZ (ids N))) := eC _ _ i7 (by simp; omega)
          have qN : (HC ++ [oI [(p.1.1 : Int)]])[hn]? = some (oI (idZ (ids N))) := lkp hCn
          have qA : (HC ++ [oI [(p.1.1 : Int)]])[HC.length]? = some (oI [(p.1.1 : Int)]) := lkn _ _
          simp (dsimp := false) only [hcd, deq, e1, i6, gp, gq, l0', xp, xq, dlt, l2', hce, qn, hNl, hca, hLl, List.length_append, List.length_set, List.length_cons, List.length_nil, List.take_succ_cons, List.take_zero, Int.toNat_natCast, go_sem, Nat.reduceAdd, Nat.reduceBEq, Nat.reduceEqDiff, Nat.reduceLT, Nat.reduceLeDiff, reduceCtorEq, ↓reduceIte]
          repeat (refine And.intro (by first | exact True.intro | omega | kernel_rfl | (simp only [List.length_set, List.length_append, List.length_take, List.length_replicate, List.length_cons, true_and, and_true, List.length_nil, tabR_length]; omega)) ?_)
          simp (dsimp := false) only [hcd, deq, e1, i6, gp, gq, l0', dlt, l2', hce, qn, qx, hNl, hca, hLl, ← hHC, qN, qA, List.length_append, List.length_set, List.length_cons, List.length_nil, List.take_succ_cons, List.take_zero, Int.toNat_natCast, go_sem, Nat.reduceAdd, Nat.reduceBEq, Nat.reduceEqDiff, Nat.reduceLT, Nat.reduceLeDiff, reduceCtorEq, ↓reduceIte]
          repeat (refine And.intro (by first | exact True.intro | omega | kernel_rfl | (simp only [List.length_set, List.length_append, List.length_take, List.length_replicate, List.length_cons, true_and, and_true, List.length_nil, tabR_length]; omega)) ?_)
          obtain ⟨w, hw⟩ : ∃ w : En, w = ((p.1.1, p.1.2 ++ [q.1.1]), H.length + 1) := ⟨_, rfl⟩
          have hw1 : w.1 = mch xs p.1 q.1 := by rw [hw, hm]
          have hwi : w.1.1 = p.1.1 := by rw [hw]
          have hw2 : w.2 = H.length + 1 := by rw [hw]
          have hce : cellE w = cSl (H.length + 1) 1 := by rw [hw, cellE, if_neg (by simp)]; simp [hb]
          obtain ⟨HF, hHF⟩ : ∃ HF, HF = (HC ++ [oI [(p.1.1 : Int)]]).set hn .dead ++ [oI (idZ (ids N) ++ [(p.1.1 : Int)])] := ⟨_, rfl⟩
          have eF : Exc [2, hn] H HF := by rw [hHF, hHC]; exact ((((((Exc.refl [2, hn] H).app _).app _).set _ (by simp)).app _).set _ (by simp)).app _
          have hclF : Cl HF := by rw [hHF]; exact cl_oI (cl_dead (cl_oI clC))
          have lF : HF.length = H.length + 4 := by rw [hHF]; simp [lC]
          have hrow : HF[w.2]? = some (oI (idZ w.1.2)) := by
            rw [hw2, show idZ w.1.2 = [(q.1.1 : Int)] by rw [hw]; simp [idZ, hb], hHF]
            exact lkp (lks (lkp hC1) (by omega))
          have hlos : HF[2]? = some (cR (cs.set w.1.1 (cellE w))) := by
            rw [hwi, hce, hHF]
            exact lkp (lks (lkp hC2) hn2')
          have hSJ := i9.step (S' := [2, s.hp, HC.length + 1]) (w := w) eF (fun x hx => by
            simp only [List.mem_cons, List.not_mem_nil, or_false] at hx
            rcases hx with rfl | rfl
            · exact .inl (by simp)
            · exact .inl (by simp)) (fun x hx => by
            simp only [List.mem_cons, List.not_mem_nil, or_false] at hx
            rcases hx with rfl | rfl | rfl
            · exact .inl (by simp)
            · exact .inl (by simp)
            · exact .inr (by omega)) (by simp; omega) hw1 hrow hlos (by omega) (by rw [hw2]; simp; omega) hclF
          rw [← hHF]
          refine ⟨⟨i + 2, N ++ [w], R, HC.length + 1, cs.set w.1.1 (cellE w), HF, c + 1⟩, List.range HF.length, ⟨⟨?_, ?_, .inl (by show i + 2 + R.length = s.ps.length; omega), ?_, ?_, eF _ _ i6 (by simp; omega), ?_, by show HC.length + 1 ≠ s.hp; omega, hSJ, ?_⟩, by show s.ps.length + 2 - (i + 2) < s.ps.length + 2 - i; omega⟩, wk_id (by omega) hclF (by simp [slId, get_cons, get_nil, TV.hs, AV.hs, C.hs, RS.slot, zipSlots] <;> omega)⟩
          · show prs (N ++ [w]) ++ rnd xs (prs R) = _
            rw [← i1, prs_app, List.append_assoc]
            show prs N ++ (w.1 :: rnd xs (prs R)) = prs N ++ rnd xs (p.1 :: q.1 :: prs R)
            rw [rnd_two, hw1]
          · show ids R = (ids s.ps).drop (i + 2)
            have := congrArg (List.drop 2) i2
            rw [List.drop_drop] at this
            exact this
          · show c + 1 + R.length / 2 = _; omega
          · show (N ++ [w]).length + R.length ≤ _; simp; omega
          · show HF[HC.length + 1]? = _
            rw [hHF, lkn' (by simp), ids_app, idZ_app]
            simp [ids, idZ, hwi]
          · intro e he
            simp only [List.mem_append, List.mem_singleton] at he
            show e.1.2.length ≤ c + 1
            rcases he with (he | rfl) | he
            · have := i10 e (by simp [he]); omega
            · rw [hw]; simp; omega
            · have := i10 e (by simp [he]); omega
        · --
          have hm : mch xs p.1 q.1 = (p.1.1, p.1.2 ++ [q.1.1]) := by rw [mch, if_neg hlt]
          have hca : p.1.1 < cs.length := by omega
          have hce : cs[p.1.1]? = some (cSl p.2 p.1.2.length) := by rw [hEp.2.2, cellE, if_neg hb]
          obtain ⟨hrw, hns⟩ := i9.lj.row p (by simp) hb
          have hrl := getlt hrw
          simp only [List.mem_cons, List.not_mem_nil, or_false, not_or] at hns
          obtain ⟨hn2, hnp, hnn⟩ := hns
          have hbl : (idZ p.1.2).length = p.1.2.length := idZ_len _
          obtain ⟨HC, hHC⟩ : ∃ HC, HC = ((H ++ [oI [(q.1.1 : Int)]]).set p.2 .dead ++ [oI (idZ p.1.2 ++ [(q.1.1 : Int)])]).set 2 (cR (cs.set p.1.1 (cSl (H.length + 1) (p.1.2.length + 1)))) := ⟨_, rfl⟩
          have qh : (H ++ [oI [(q.1.1 : Int)]])[p.2]? = some (oI (idZ p.1.2)) := lkp hrw
          have qx : ((H ++ [oI [(q.1.1 : Int)]]).set p.2 .dead ++ [oI (idZ p.1.2 ++ [(q.1.1 : Int)])])[2]? = some (cR cs) := lkp (lks (lkp l2') hn2)
          have qn : (H ++ [oI [(q.1.1 : Int)]])[H.length]? = some (oI [(q.1.1 : Int)]) := lkn _ _
          have hC0 : ((H ++ [oI [(q.1.1 : Int)]]).set p.2 .dead ++ [oI (idZ p.1.2 ++ [(q.1.1 : Int)])])[H.length + 1]? = some (oI (idZ p.1.2 ++ [(q.1.1 : Int)])) := lkn' (by simp)
          have eC : Exc [2, p.2] H HC := by rw [hHC]; exact (((Exc.refl [2, p.2] H).app _).set _ (by simp) |>.app _).set _ (by simp)
          have clC : Cl HC := by
            rw [hHC]
            refine cl_set (cl_oI (cl_dead (cl_oI hcl))) fun h hh => ?_
            simp only [Row.hs, Dat.hs, List.mem_flatMap] at hh
            obtain ⟨c', hc', hh⟩ := hh
            rcases List.mem_or_eq_of_mem_set hc' with h1 | rfl
            · have := hcl _ (List.mem_of_getElem? l2') h (by simp only [Row.hs, Dat.hs, List.mem_flatMap]; exact ⟨c', h1, hh⟩)
              simp; omega
            · simp [C.hs] at hh; simp; omega
          have lC : HC.length = H.length + 2 := by rw [hHC]; simp
          have hC2 : HC[2]? = some (cR (cs.set p.1.1 (cSl (H.length + 1) (p.1.2.length + 1)))) := by rw [hHC]; exact lkset (by simp; omega)
          have hC1 : HC[H.length + 1]? = some (oI (idZ p.1.2 ++ [(q.1.1 : Int)])) := by rw [hHC]; exact lks hC0 (by omega)
          have hCn : HC[hn]? = some (oI (idZ (ids N))) := eC _ _ i7 (by simp; omega)
          have qN : (HC ++ [oI [(p.1.1 : Int)]])[hn]? = some (oI (idZ (ids N))) := lkp hCn
          have qA : (HC ++ [oI [(p.1.1 : Int)]])[HC.length]? = some (oI [(p.1.1 : Int)]) := lkn _ _
          simp (dsimp := false) only [hcd, deq, e1, i6, gp, gq, l0', xp, xq, dlt, l2', hce, qh, hbl, qn, hNl, hca, hLl, List.length_append, List.length_set, List.length_cons, List.length_nil, List.take_succ_cons, List.take_zero, Int.toNat_natCast, go_sem, Nat.reduceAdd, Nat.reduceBEq, Nat.reduceEqDiff, Nat.reduceLT, Nat.reduceLeDiff, reduceCtorEq, ↓reduceIte]
          repeat (refine And.intro (by first | exact True.intro | omega | kernel_rfl | (simp only [List.length_set, List.length_append, List.length_take, List.length_replicate, List.length_cons, true_and, and_true, List.length_nil, tabR_length]; omega)) ?_)
          simp (dsimp := false) only [hcd, deq, e1, i6, gp, gq, l0', dlt, l2', hce, qh, hbl, qn, qx, hNl, hca, hLl, ← hHC, qN, qA, List.length_append, List.length_set, List.length_cons, List.length_nil, List.take_succ_cons, List.take_zero, Int.toNat_natCast, go_sem, Nat.reduceAdd, Nat.reduceBEq, Nat.reduceEqDiff, Nat.reduceLT, Nat.reduceLeDiff, reduceCtorEq, ↓reduceIte]
          repeat (refine And.intro (by first | exact True.intro | omega | kernel_rfl | (simp only [List.length_set, List.length_append, List.length_take, List.length_replicate, List.length_cons, true_and, and_true, List.length_nil, tabR_length]; omega)) ?_)
          obtain ⟨w, hw⟩ : ∃ w : En, w = ((p.1.1, p.1.2 ++ [q.1.1]), H.length + 1) := ⟨_, rfl⟩
          have hw1 : w.1 = mch xs p.1 q.1 := by rw [hw, hm]
          have hwi : w.1.1 = p.1.1 := by rw [hw]
          have hw2 : w.2 = H.length + 1 := by rw [hw]
          have hce : cellE w = cSl (H.length + 1) (p.1.2.length + 1) := by rw [hw, cellE, if_neg (by simp)]; simp
          obtain ⟨HF, hHF⟩ : ∃ HF, HF = (HC ++ [oI [(p.1.1 : Int)]]).set hn .dead ++ [oI (idZ (ids N) ++ [(p.1.1 : Int)])] := ⟨_, rfl⟩
          have eF : Exc [2, p.2, hn] H HF := by rw [hHF, hHC]; exact (((((((Exc.refl [2, p.2, hn] H).app _).set _ (by simp)).app _).set _ (by simp)).app _).set _ (by simp)).app _
          have hclF : Cl HF := by rw [hHF]; exact cl_oI (cl_dead (cl_oI clC))
          have lF : HF.length = H.length + 4 := by rw [hHF]; simp [lC]
          have hrow : HF[w.2]? = some (oI (idZ w.1.2)) := by
            rw [hw2, show idZ w.1.2 = (idZ p.1.2 ++ [(q.1.1 : Int)]) by rw [hw]; simp [idZ], hHF]
            exact lkp (lks (lkp hC1) (by omega))
          have hlos : HF[2]? = some (cR (cs.set w.1.1 (cellE w))) := by
            rw [hwi, hce, hHF]
            exact lkp (lks (lkp hC2) hn2')
          have hw0 : p.2 ≠ 0 := fun e => by rw [e, l0'] at hrw; cases hrw
          have hSJ := i9.step (S' := [2, s.hp, HC.length + 1]) (w := w) eF (fun x hx => by
            simp only [List.mem_cons, List.not_mem_nil, or_false] at hx
            rcases hx with rfl | rfl | rfl
            · exact .inl (by simp)
            · exact .inr (.inl ⟨rfl, hb⟩)
            · exact .inl (by simp)) (fun x hx => by
            simp only [List.mem_cons, List.not_mem_nil, or_false] at hx
            rcases hx with rfl | rfl | rfl
            · exact .inl (by simp)
            · exact .inl (by simp)
            · exact .inr (by omega)) (by simp; omega) hw1 hrow hlos (by omega) (by rw [hw2]; simp; omega) hclF
          rw [← hHF]
          refine ⟨⟨i + 2, N ++ [w], R, HC.length + 1, cs.set w.1.1 (cellE w), HF, c + 1⟩, List.range HF.length, ⟨⟨?_, ?_, .inl (by show i + 2 + R.length = s.ps.length; omega), ?_, ?_, eF _ _ i6 (by simp; omega), ?_, by show HC.length + 1 ≠ s.hp; omega, hSJ, ?_⟩, by show s.ps.length + 2 - (i + 2) < s.ps.length + 2 - i; omega⟩, wk_id (by omega) hclF (by simp [slId, get_cons, get_nil, TV.hs, AV.hs, C.hs, RS.slot, zipSlots] <;> omega)⟩
          · show prs (N ++ [w]) ++ rnd xs (prs R) = _
            rw [← i1, prs_app, List.append_assoc]
            show prs N ++ (w.1 :: rnd xs (prs R)) = prs N ++ rnd xs (p.1 :: q.1 :: prs R)
            rw [rnd_two, hw1]
          · show ids R = (ids s.ps).drop (i + 2)
            have := congrArg (List.drop 2) i2
            rw [List.drop_drop] at this
            exact this
          · show c + 1 + R.length / 2 = _; omega
          · show (N ++ [w]).length + R.length ≤ _; simp; omega
          · show HF[HC.length + 1]? = _
            rw [hHF, lkn' (by simp), ids_app, idZ_app]
            simp [ids, idZ, hwi]
          · intro e he
            simp only [List.mem_append, List.mem_singleton] at he
            show e.1.2.length ≤ c + 1
            rcases he with (he | rfl) | he
            · have := i10 e (by simp [he]); omega
            · rw [hw]; simp; omega
            · have := i10 e (by simp [he]); omega
  -- the way out
  · have hcd : decide ((1 : Int) < (s.ps.length : Int)) = false := decide_eq_false (by omega)
    obtain ⟨e, he⟩ : ∃ e, s.ps = [e] := List.length_eq_one_iff.1 (by omega)
    rw [tnT_end (by rw [prs_len]; omega)] at j1
    obtain ⟨w, bt, r1, r2, r3, r4⟩ := tnR_one (xs := xs) (by omega)
    have k1 : prs s.ps = [(w, bt)] := by rw [← r1, ← j1]
    have k2 : s.c = (tnR xs).2 := by rw [← j1]
    rw [he] at k1
    have k3 : e.1 = (w, bt) := by simpa [prs] using k1
    have hE := j6.ent e (by rw [he]; simp)
    have hb : e.1.2 ≠ [] := by rw [k3]; exact r2
    have hR := j6.lj.row e (by rw [he]; simp) hb
    have h7 := j7 e (by rw [he]; simp)
    rw [k3] at hE hR h7
    have hbl : 0 < bt.length := List.length_pos_iff.2 r2
    have hpl : s.ps.length = 1 := by omega
    have ce : s.cs[w]? = some (cSl e.2 bt.length) := by rw [hE.2.2, cellE, k3, if_neg r2]
    have gp : (idZ (ids s.ps)).getD 0 0 = (w : Int) := by rw [he]; simp [ids, idZ, k3]
    have hbL : (idZ bt).length = bt.length := idZ_len _
    have hat : ∀ k, k < bt.length → (idZ bt).getD k 0 = ((bt.getD k 0 : Nat) : Int) := fun k hk => idZ_get hk
    have hbn : ∀ k, k < bt.length → bt.getD k 0 < xs.length := fun k hk => hE.2.1 _ (by rw [List.getD_eq_getElem?_getD, List.getElem?_eq_getElem hk]; exact List.getElem_mem hk)
    have ga := hat 0 hbl
    have gb := hbn 0 hbl
    have gE : s.H[e.2]? = some (oI (idZ bt)) := hR.1
    have h7b : bt.length ≤ s.c := h7
    have hEl := getlt gE
    have hcl := j6.cl
    have hw : w < xs.length := hE.1
    have hcs := j6.csl
    simp (dsimp := false) only [hcd, go_sem, Nat.reduceAdd, Nat.reduceBEq, Nat.reduceEqDiff, Nat.reduceLT, Nat.reduceLeDiff, reduceCtorEq, ↓reduceIte]
    refine hQ _ _ _ ?_
    simp (dsimp := false) only [hpl, hip, j5, gp, l2, ce, gE, hbL, ga, l0, Int.toNat_natCast, Int.toNat_zero, go_sem, Nat.reduceAdd, Nat.reduceBEq, Nat.reduceEqDiff, Nat.reduceLT, Nat.reduceLeDiff, reduceCtorEq, ↓reduceIte]
    repeat (refine And.intro (by first | exact True.intro | omega | kernel_rfl | (simp only [List.length_set, List.length_append, List.length_take, List.length_replicate, List.length_cons, true_and, and_true, List.length_nil, tabR_length]; omega)) ?_)
    generalize hm0 : xs.getD (bt.getD 0 0) 0 = m0
    have hJ30 : ∀ j, j < 1 → m0 ≤ xs.getD (bt.getD j 0) 0 := fun j hj => by
      have : j = 0 := by omega
      rw [this, hm0]; exact Int.le_refl _
    refine aloopQ (σ := Nat × Int) (fun t => ([(0, tS 0 xs.length), (8, tI (s.c + (t.1 - 1) : Nat)), (13, tS e.2 bt.length), (14, tI t.2), (15, tI t.1)], s.H)) (fun t => 1 ≤ t.1 ∧ t.1 ≤ bt.length ∧ (∃ j, j < t.1 ∧ t.2 = xs.getD (bt.getD j 0) 0) ∧ ∀ j, j < t.1 → t.2 ≤ xs.getD (bt.getD j 0) 0) (fun t => bt.length - t.1) (1, m0) (List.range s.H.length) ⟨Nat.le_refl _, hbl, ⟨0, by omega, hm0.symm⟩, hJ30⟩ (wk_id (by omega) hcl (by simp [slId, get_cons, get_nil, TV.hs, AV.hs, C.hs, RS.slot, zipSlots] <;> omega)) ?_
    rintro Q3 hQ3 ⟨i, m⟩ ⟨i1, i2, i3, i4⟩
    simp only at i1 i2 i3 i4
    by_cases hc : i < bt.length
    · have hcd3 : decide ((i : Int) < (bt.length : Int)) = true := decide_eq_true (by omega)
      have gi := hat i hc
      have gn := hbn i hc
      have hL := least_g (G := s.H) m (xs.getD (bt.getD i 0) 0)
      have hci : s.c + (i - 1) ≤ 1000 := by omega
      simp (dsimp := false) only [hcd3, gE, gi, l0, Int.toNat_natCast, go_sem, Nat.reduceAdd, Nat.reduceBEq, Nat.reduceEqDiff, Nat.reduceLT, Nat.reduceLeDiff, reduceCtorEq, ↓reduceIte]
      refine And.intro (by omega) ?_
      repeat (refine And.intro (by first | exact True.intro | omega | kernel_rfl | (simp only [List.length_set, List.length_append, List.length_take, List.length_replicate, List.length_cons, true_and, and_true, List.length_nil, tabR_length]; omega)) ?_)
      repeat (refine And.intro (by first | exact True.intro | omega | kernel_rfl | (simp only [List.length_set, List.length_append, List.length_take, List.length_replicate, List.length_cons, true_and, and_true, List.length_nil, tabR_length]; omega)) ?_)
      refine ⟨_, (hL).mono ?_⟩
      rintro _ G9 ⟨rfl, h9⟩
      have h9 := h9.symm
      subst h9
      simp (dsimp := false) only [hcd3, go_sem, Nat.reduceAdd, Nat.reduceBEq, Nat.reduceEqDiff, Nat.reduceLT, Nat.reduceLeDiff, reduceCtorEq, ↓reduceIte]
      repeat (refine And.intro (by first | exact True.intro | omega | kernel_rfl | (simp only [List.length_set, List.length_append, List.length_take, List.length_replicate, List.length_cons, true_and, and_true, List.length_nil, tabR_length]; omega)) ?_)
      refine ⟨(i + 1, min m (xs.getD (bt.getD i 0) 0)), List.range s.H.length, ⟨⟨by dsimp only; omega, by dsimp only; omega, ?_, fun j hj => ?_⟩, by dsimp only; omega⟩, wk_id (by omega) hcl (by simp [slId, get_cons, get_nil, TV.hs, AV.hs, C.hs, RS.slot, zipSlots] <;> omega)⟩
      · dsimp only
        rcases Int.le_total m (xs.getD (bt.getD i 0) 0) with h | h
        · obtain ⟨j, hj, e⟩ := i3
          exact ⟨j, by omega, by rw [Int.min_eq_left h, e]⟩
        · exact ⟨i, by omega, by rw [Int.min_eq_right h]⟩
      · dsimp only at hj ⊢
        by_cases hji : j = i
        · subst hji; exact Int.min_le_right _ _
        · have := i4 j (by omega)
          have := Int.min_le_left m (xs.getD (bt.getD i 0) 0)
          omega
    · have hcd3 : decide ((i : Int) < (bt.length : Int)) = false := decide_eq_false (by omega)
      have hib : i = bt.length := by omega
      subst hib
      have hm : (srtL (vals xs bt)).getD 0 0 = m := by
        refine min_unique ?_ fun z hz => ?_
        · obtain ⟨j, hj, e⟩ := i3
          simp only [vals, List.mem_map]
          exact ⟨bt.getD j 0, by rw [List.getD_eq_getElem?_getD, List.getElem?_eq_getElem hj]; exact List.getElem_mem hj, e.symm⟩
        · simp only [vals, List.mem_map] at hz
          obtain ⟨b, hb, rfl⟩ := hz
          obtain ⟨j, hj, rfl⟩ := List.mem_iff_getElem.1 hb
          have := i4 j hj
          have e : bt.getD j 0 = bt[j] := by rw [List.getD_eq_getElem?_getD, List.getElem?_eq_getElem hj]; rfl
          rw [e] at this; exact this
      have eV : ssV xs = [aI m, aI (s.c + (bt.length - 1) : Nat), aB true] := by
        rw [ssV, hv, hd2, r4, hm, ← k2, show s.c + bt.length - 1 = s.c + (bt.length - 1) by omega]; rfl
      simp (dsimp := false) only [hcd3, go_sem, Nat.reduceAdd, Nat.reduceBEq, Nat.reduceEqDiff, Nat.reduceLT, Nat.reduceLeDiff, reduceCtorEq, ↓reduceIte]
      refine hQ3 _ _ _ ?_
      simp (dsimp := false) only [go_sem, Nat.reduceAdd, Nat.reduceBEq, Nat.reduceEqDiff, Nat.reduceLT, Nat.reduceLeDiff, reduceCtorEq, ↓reduceIte]
      refine afin (List.range 1) [aI m, aI (s.c + (bt.length - 1) : Nat), aB true] [rI xs] (by simp) rfl (wk_ext (G := [rI xs]) (Nat.le_refl _) (fun r hr h hh => by simp at hr; subst hr; simp [Row.hs, Dat.hs] at hh) (fun h r e => by match h, e with | 0, e => exact l0.trans e) (by simp [slId, get_cons, get_nil, TV.hs, AV.hs, C.hs, RS.slot, zipSlots])) ⟨by rw [eV]; rfl, rfl⟩
end Go.Proofs.Ytfkokcmnmmfcbaa

namespace Go.Proofs.Ytfkokcmnmmfcbaa
open Go Go.Ax

theorem u_pl : Try.prog.underlying 41 = some (.struct (fieldsOf Try.prog 41)) := by kernel_rfl
theorem pl_f0 : (fieldsOf Try.prog 41)[0]? = some (fieldAt Try.prog 41 0) := by kernel_rfl
theorem pl_f1 : (fieldsOf Try.prog 41)[1]? = some (fieldAt Try.prog 41 1) := by kernel_rfl
theorem pl_s0 : sz Try.prog (fieldAt Try.prog 41 0).type = some 1 := by kernel_rfl
theorem pl_s1 : sz Try.prog (fieldAt Try.prog 41 1).type = some 1 := by kernel_rfl
theorem pl_o0 : (fieldAt Try.prog 41 0).offset = 0 := by kernel_rfl
theorem pl_o1 : (fieldAt Try.prog 41 1).offset = 1 := by kernel_rfl
theorem pl_all : allSz Try.prog (fieldsOf Try.prog 41).toList = true := by kernel_rfl
theorem sz_pl : sz Try.prog 41 = some 2 := by kernel_rfl
theorem by_pl : byt Try.prog 41 = some 32 := by kernel_rfl
theorem zr_pl : zr Try.prog 41 = some (.agg #[.int .i64 0, .slice none 0 0]) := by kernel_rfl
theorem ag_pl : isAggB Try.prog 41 = some true := by kernel_rfl
theorem u_pls : Try.prog.underlying 39 = some (.slice 41) := by kernel_rfl
theorem ag_pls : isAggB Try.prog 39 = some false := by kernel_rfl
attribute [go_sem] u_pl pl_f0 pl_f1 pl_s0 pl_s1 pl_o0 pl_o1 pl_all sz_pl by_pl zr_pl ag_pl u_pls ag_pls

theorem one_i (k : IntKind) (n : Int) : C.isOne (.v (.int k n)) = true := rfl
theorem one_n : C.isOne (.v (.slice none 0 0)) = true := rfl
theorem one_s (e h o l : Nat) : C.isOne (.sl e h o l) = true := rfl
theorem one_b (b : Bool) : C.isOne (.v (.bool b)) = true := rfl
attribute [-go_sem] C.isOne
attribute [go_sem] one_i one_n one_s one_b cellE_one
theorem Exc.new {S : List Nat} {H H' : Hp} (h : Exc S H H') {j : Nat} (hj : H.length ≤ j) (r : Row) : Exc S H (H'.set j r) := fun k r' e hk => lks (h k r' e hk) (by have := getlt e; omega)

/-- The players' cells. -/
def rcl (xs : List Int) : List En → List C
  | [] => []
  | e :: es => .v (.int .i64 (xs.getD e.1.1 0)) :: cellE e :: rcl xs es
abbrev bP (x : Int) (c : C) : Row := .r true (.cells 2 [.v (.int .i64 x), c])
abbrev rP (xs : List Int) (es : List En) : Row := .r true (.cells 2 (rcl xs es))
theorem rcl_len (xs : List Int) : ∀ es : List En, (rcl xs es).length = es.length * 2
  | [] => rfl
  | e :: es => by simp only [rcl, List.length_cons, rcl_len xs es]; omega
theorem rcl_app (xs : List Int) : ∀ a b : List En, rcl xs (a ++ b) = rcl xs a ++ rcl xs b
  | [], b => rfl
  | e :: a, b => by simp only [List.cons_append, rcl, rcl_app xs a b]
theorem rcl_one (xs : List Int) : ∀ es : List En, (rcl xs es).all C.isOne = true
  | [] => rfl
  | e :: es => by simp only [rcl, List.all_cons, cellE_one, rcl_one xs es]; rfl
theorem rcl_drop (xs : List Int) : ∀ (es : List En) (i : Nat), (rcl xs es).drop (i * 2) = rcl xs (es.drop i)
  | es, 0 => by simp
  | [], i + 1 => by simp [rcl]
  | e :: es, i + 1 => by rw [show (i + 1) * 2 = i * 2 + 1 + 1 by omega, rcl, List.drop_succ_cons, List.drop_succ_cons, List.drop_succ_cons, rcl_drop xs es i]
theorem rcl_at {xs : List Int} {es : List En} {i : Nat} {e : En} (h : es[i]? = some e) : ((rcl xs es).drop (i * 2)).take 2 = [.v (.int .i64 (xs.getD e.1.1 0)), cellE e] := by
  rw [rcl_drop]
  have hi := getlt' h
  rw [List.drop_eq_getElem_cons hi]
  have : es[i] = e := by rw [List.getElem?_eq_getElem hi] at h; exact Option.some.inj h
  rw [this]; rfl
where
  getlt' {α : Type} {l : List α} {i : Nat} {x : α} (h : l[i]? = some x) : i < l.length := by
    rcases Nat.lt_or_ge i l.length with h' | h'
    · exact h'
    · rw [List.getElem?_eq_none h'] at h; cases h
theorem rcl_hs {xs : List Int} {es : List En} {n : Nat} (h : ∀ e ∈ es, e.1.2 ≠ [] → e.2 < n) : ∀ c ∈ rcl xs es, ∀ k ∈ c.hs, k < n := by
  induction es with
  | nil => intro c hc; simp [rcl] at hc
  | cons e es ih =>
    intro c hc k hk
    simp only [rcl, List.mem_cons] at hc
    rcases hc with rfl | rfl | hc
    · simp [C.hs] at hk
    · unfold cellE at hk
      split at hk
      · simp [C.hs] at hk
      · simp [C.hs] at hk; subst hk; exact h e (by simp) (by assumption)
    · exact ih (fun e he => h e (by simp [he])) c hc k hk
theorem bP_hs {f : List Nat → List Int} {S : List Nat} {H : Hp} {es : List En} (hJ : LJ f S H es) (e : En) (he : e ∈ es) (x : Int) : ∀ h ∈ Row.hs (bP x (cellE e)), h < H.length := by
  intro h hh
  unfold cellE at hh
  split at hh
  · simp [Row.hs, Dat.hs, C.hs] at hh
  · rename_i hne
    simp [Row.hs, Dat.hs, C.hs] at hh
    subst hh
    exact getlt (hJ.row e he hne).1
theorem en0_snoc (i : Nat) : en0 (i + 1) = en0 i ++ [((i, []), 0)] := by simp [en0, ini, List.range_succ]

/-- The program's players: each one's slice of those beaten lies by itself. -/
structure PJ (xs : List Int) (S : List Nat) (H : Hp) (es : List En) : Prop where
  lj : LJ (vals xs) S H es
  list : H[0]? = some (rI xs)
  cl : Cl H
theorem PJ.keep {xs : List Int} {S S' T : List Nat} {H H' : Hp} {es : List En} (hJ : PJ xs S H es) (hE : Exc T H H') (hT : ∀ t ∈ T, t ∈ S) (hS : ∀ s ∈ S', s ∈ S ∨ H.length ≤ s) (h0 : 0 ∉ T) (cl : Cl H') : PJ xs S' H' es :=
  ⟨hJ.lj.keep hE hT hS, hE _ _ hJ.list h0, cl⟩
structure PO where
  g : Nat
  ps : List En
  hp : Nat
  H : Hp
  c : Nat
structure PI where
  i : Nat
  N : List En
  R : List En
  hn : Nat
  H : Hp
  c : Nat
structure POJ (xs : List Int) (s : PO) : Prop where
  run : tnT xs s.g (prs s.ps) s.c = tnR xs
  fuel : s.ps.length ≤ s.g + 1
  pos : 1 ≤ s.ps.length
  cnt : s.c + s.ps.length = xs.length
  row : s.H[s.hp]? = some (rP xs s.ps)
  pj : PJ xs [s.hp] s.H s.ps
  few : ∀ e ∈ s.ps, e.1.2.length ≤ s.c
structure PIJ (xs : List Int) (s : PO) (t : PI) : Prop where
  run : prs t.N ++ rnd xs (prs t.R) = rnd xs (prs s.ps)
  rest : t.R = s.ps.drop t.i
  pos : t.i + t.R.length = s.ps.length
  even : t.i % 2 = 0
  cnt : t.c + t.R.length / 2 = s.c + s.ps.length / 2
  len : t.N.length + t.R.length ≤ s.ps.length
  row : t.H[s.hp]? = some (rP xs s.ps)
  nxt : t.H[t.hn]? = some (rP xs t.N)
  ne : t.hn ≠ s.hp
  pj : PJ xs [s.hp, t.hn] t.H (t.N ++ t.R)
  few : ∀ e ∈ t.N ++ t.R, e.1.2.length ≤ t.c
theorem cl_rP {xs : List Int} {H : Hp} {es : List En} (hH : Cl H) (h : ∀ e ∈ es, e.1.2 ≠ [] → e.2 < H.length) : Cl (H ++ [rP xs es]) := cl_app hH fun r hr k hk => by
  simp at hr; subst hr
  simp only [Row.hs, Dat.hs, List.mem_flatMap] at hk
  obtain ⟨c, hc, hk⟩ := hk
  have := rcl_hs h c hc k hk
  rw [List.length_append]; omega

theorem iSec_l (xs : List Int) (hx : xs.length ≤ 281474976710656) : ACalls Try.prog 7 [tS 0 xs.length] [] [rI xs] (fun t H => t = .tup (ssV xs) ∧ H = [rI xs]) := by
  refine afun (fun i => match i with | 14 => some ⟨[], .op 0 .held (.op 1 .held (.op 2 .held (.op 4 .held (.op 5 .held (.op 6 .held (.op 7 .held (.op 3 .held (.op 8 .held (.two 9 10 (.op 10 .only (.op 11 .only (.op 12 .only .nil))) (.op 9 .only (.op 11 .only (.op 12 .only .nil))))))))))))⟩ | 18 => some ⟨[], .free (.op 0 .held (.op 1 .held (.op 3 .held (.op 5 .held (.op 6 .now (.op 2 .held (.op 4 .held (.op 7 .only (.op 8 .only (.op 9 .held (.op 10 .only (.op 11 .only (.op 12 .held .nil)))))))))))))⟩ | _ => none) [2, 3, 4] 1 Try.func7 rfl rfl mix (by kernel_rfl) (by kernel_rfl) (by simp [Try.f7]) rfl (by simp [msOwn, ownAll, Row.own]) ?_
  simp (dsimp := false) only [go_sem, Nat.reduceAdd, Nat.reduceBEq, Nat.reduceEqDiff, Nat.reduceLT, Nat.reduceLeDiff, reduceCtorEq, ↓reduceIte]
  cases hv : validB xs
  · repeat (refine And.intro (by first | exact True.intro | omega | kernel_rfl | (simp only [List.length_set, List.length_append, List.length_take, List.length_replicate, List.length_cons, true_and, and_true, List.length_nil, tabR_length]; omega)) ?_)
    refine ⟨_, (isValidList_l xs hx).lift [0] (by decide) (by simp) (by simp [RS.slot, List.map_cons, List.map_nil, rowsLe, rowLe, slotsLe, tvLe, TV.ren, AV.ren, C.ren, Dat.ren, Row.ren, TV.hs, AV.hs, C.hs, Dat.hs, get_cons, get_nil, zipSlots, List.getD_cons_zero, List.getD_cons_succ, List.getD_nil, -List.getD_eq_getElem?_getD]) (by simp [RS.slot, List.map_cons, List.map_nil, rowsLe, rowLe, slotsLe, tvLe, TV.ren, AV.ren, C.ren, Dat.ren, Row.ren, TV.hs, AV.hs, C.hs, Dat.hs, get_cons, get_nil, zipSlots, List.getD_cons_zero, List.getD_cons_succ, List.getD_nil, -List.getD_eq_getElem?_getD]) (by simp [RS.slot, List.map_cons, List.map_nil, rowsLe, rowLe, slotsLe, tvLe, TV.ren, AV.ren, C.ren, Dat.ren, Row.ren, TV.hs, AV.hs, C.hs, Dat.hs, get_cons, get_nil, zipSlots, List.getD_cons_zero, List.getD_cons_succ, List.getD_nil, -List.getD_eq_getElem?_getD]) rfl ?_⟩
    rintro _ _ ⟨rfl, rfl⟩
    refine ⟨by simp [ownIn, Row.own], ?_⟩
    simp (dsimp := false) only [hv, liftT, liftH, putBack, freshR, ownIn, Row.own, Row.ren, TV.ren, AV.ren, C.ren, Dat.ren, List.drop_succ_cons, List.drop_nil, List.getD_cons_zero, List.getD_cons_succ, List.getD_nil, go_sem, Nat.reduceAdd, Nat.reduceBEq, Nat.reduceEqDiff, Nat.reduceLT, Nat.reduceLeDiff, reduceCtorEq, ↓reduceIte]
    refine afin [0] [aI 0, aI 0, aB false] [rI xs] (by simp) rfl (weak_of (by decide) (by simp [RS.slot, List.map_cons, List.map_nil, rowsLe, rowLe, slotsLe, tvLe, TV.ren, AV.ren, C.ren, Dat.ren, Row.ren, TV.hs, AV.hs, C.hs, Dat.hs, get_cons, get_nil, zipSlots, List.getD_cons_zero, List.getD_cons_succ, List.getD_nil, -List.getD_eq_getElem?_getD])) (by simp only [rtv, ssV, hv, Bool.false_and, cond_false, and_self])
  by_cases h2 : xs.length < 2
  · have hd : decide ((xs.length : Int) < 2) = true := decide_eq_true (by omega)
    have hd2 : decide (2 ≤ xs.length) = false := decide_eq_false (by omega)
    repeat (refine And.intro (by first | exact True.intro | omega | kernel_rfl | (simp only [List.length_set, List.length_append, List.length_take, List.length_replicate, List.length_cons, true_and, and_true, List.length_nil, tabR_length]; omega)) ?_)
    refine ⟨_, (isValidList_l xs hx).lift [0] (by decide) (by simp) (by simp [RS.slot, List.map_cons, List.map_nil, rowsLe, rowLe, slotsLe, tvLe, TV.ren, AV.ren, C.ren, Dat.ren, Row.ren, TV.hs, AV.hs, C.hs, Dat.hs, get_cons, get_nil, zipSlots, List.getD_cons_zero, List.getD_cons_succ, List.getD_nil, -List.getD_eq_getElem?_getD]) (by simp [RS.slot, List.map_cons, List.map_nil, rowsLe, rowLe, slotsLe, tvLe, TV.ren, AV.ren, C.ren, Dat.ren, Row.ren, TV.hs, AV.hs, C.hs, Dat.hs, get_cons, get_nil, zipSlots, List.getD_cons_zero, List.getD_cons_succ, List.getD_nil, -List.getD_eq_getElem?_getD]) (by simp [RS.slot, List.map_cons, List.map_nil, rowsLe, rowLe, slotsLe, tvLe, TV.ren, AV.ren, C.ren, Dat.ren, Row.ren, TV.hs, AV.hs, C.hs, Dat.hs, get_cons, get_nil, zipSlots, List.getD_cons_zero, List.getD_cons_succ, List.getD_nil, -List.getD_eq_getElem?_getD]) rfl ?_⟩
    rintro _ _ ⟨rfl, rfl⟩
    refine ⟨by simp [ownIn, Row.own], ?_⟩
    simp (dsimp := false) only [hv, hd, liftT, liftH, putBack, freshR, ownIn, Row.own, Row.ren, TV.ren, AV.ren, C.ren, Dat.ren, List.drop_succ_cons, List.drop_nil, List.getD_cons_zero, List.getD_cons_succ, List.getD_nil, go_sem, Nat.reduceAdd, Nat.reduceBEq, Nat.reduceEqDiff, Nat.reduceLT, Nat.reduceLeDiff, reduceCtorEq, ↓reduceIte]
    refine afin [0] [aI 0, aI 0, aB false] [rI xs] (by simp) rfl (weak_of (by decide) (by simp [RS.slot, List.map_cons, List.map_nil, rowsLe, rowLe, slotsLe, tvLe, TV.ren, AV.ren, C.ren, Dat.ren, Row.ren, TV.hs, AV.hs, C.hs, Dat.hs, get_cons, get_nil, zipSlots, List.getD_cons_zero, List.getD_cons_succ, List.getD_nil, -List.getD_eq_getElem?_getD])) (by simp only [rtv, ssV, hv, hd2, Bool.and_false, cond_false, and_self])
  have h64 := validB_len hv
  have hd : decide ((xs.length : Int) < 2) = false := decide_eq_false (by omega)
  have hd2 : decide (2 ≤ xs.length) = true := decide_eq_true (by omega)
  repeat (refine And.intro (by first | exact True.intro | omega | kernel_rfl | (simp only [List.length_set, List.length_append, List.length_take, List.length_replicate, List.length_cons, true_and, and_true, List.length_nil, tabR_length]; omega)) ?_)
  refine ⟨_, (isValidList_l xs hx).lift [0] (by decide) (by simp) (by simp [RS.slot, List.map_cons, List.map_nil, rowsLe, rowLe, slotsLe, tvLe, TV.ren, AV.ren, C.ren, Dat.ren, Row.ren, TV.hs, AV.hs, C.hs, Dat.hs, get_cons, get_nil, zipSlots, List.getD_cons_zero, List.getD_cons_succ, List.getD_nil, -List.getD_eq_getElem?_getD]) (by simp [RS.slot, List.map_cons, List.map_nil, rowsLe, rowLe, slotsLe, tvLe, TV.ren, AV.ren, C.ren, Dat.ren, Row.ren, TV.hs, AV.hs, C.hs, Dat.hs, get_cons, get_nil, zipSlots, List.getD_cons_zero, List.getD_cons_succ, List.getD_nil, -List.getD_eq_getElem?_getD]) (by simp [RS.slot, List.map_cons, List.map_nil, rowsLe, rowLe, slotsLe, tvLe, TV.ren, AV.ren, C.ren, Dat.ren, Row.ren, TV.hs, AV.hs, C.hs, Dat.hs, get_cons, get_nil, zipSlots, List.getD_cons_zero, List.getD_cons_succ, List.getD_nil, -List.getD_eq_getElem?_getD]) rfl ?_⟩
  rintro _ _ ⟨rfl, rfl⟩
  refine ⟨by simp [ownIn, Row.own], ?_⟩
  simp (dsimp := false) only [hv, hd, liftT, liftH, putBack, freshR, ownIn, Row.own, Row.ren, TV.ren, AV.ren, C.ren, Dat.ren, List.drop_succ_cons, List.drop_nil, List.getD_cons_zero, List.getD_cons_succ, List.getD_nil, go_sem, Nat.reduceAdd, Nat.reduceBEq, Nat.reduceEqDiff, Nat.reduceLT, Nat.reduceLeDiff, reduceCtorEq, ↓reduceIte]
  repeat (refine And.intro (by first | exact True.intro | omega | kernel_rfl | (simp only [List.length_set, List.length_append, List.length_take, List.length_replicate, List.length_cons, true_and, and_true, List.length_nil, tabR_length]; omega)) ?_)
  have hcl : Cl [rI xs, rP xs (en0 0)] := fun r hr h hh => by
    simp at hr
    rcases hr with rfl | rfl <;> simp [Row.hs, Dat.hs, en0, ini, rcl] at hh
  refine aloopQ (σ := Nat × Nat × Hp) (fun s => ([(5, .a (.c (.sl 2 s.2.1 0 s.1))), (6, tI 0), (23, tS 0 xs.length), (24, tI xs.length), (25, tI s.1)], s.2.2)) (fun s => s.1 ≤ xs.length ∧ s.2.2[0]? = some (rI xs) ∧ s.2.2[s.2.1]? = some (rP xs (en0 s.1)) ∧ Cl s.2.2) (fun s => xs.length - s.1) (0, 1, [rI xs, rP xs (en0 0)]) (List.range 2) ⟨Nat.zero_le _, rfl, rfl, hcl⟩ (wk_id (by simp) hcl (by simp [slId, get_cons, get_nil, TV.hs, AV.hs, C.hs, RS.slot, zipSlots])) ?_
  clear hcl
  rintro Q hQ ⟨i, hr, H⟩ ⟨hi, l0, lr, hcl⟩
  simp only at hi l0 lr hcl
  have hH0 := getlt l0
  have hHr := getlt lr
  by_cases hin : i < xs.length
  · have hcd : decide ((i : Int) < (xs.length : Int)) = true := decide_eq_true (by omega)
    have hone := rcl_one xs (en0 i)
    have hlen := rcl_len xs (en0 i)
    rw [en0_len] at hlen
    have qN : (H ++ [bP (xs.getD i 0) (.v (.slice none 0 0))])[hr]? = some (rP xs (en0 i)) := lkp lr
    have qA : (H ++ [bP (xs.getD i 0) (.v (.slice none 0 0))])[H.length]? = some (bP (xs.getD i 0) (.v (.slice none 0 0))) := lkn _ _
    simp (dsimp := false) only [hcd, l0, lr, hone, qN, qA, List.length_append, List.length_set, List.length_cons, List.length_nil, List.take_succ_cons, List.take_zero, List.drop_zero, List.all_cons, List.all_nil, cellE_one, Nat.one_mul, Int.toNat_natCast, Int.toNat_zero, go_sem, Nat.reduceAdd, Nat.reduceBEq, Nat.reduceEqDiff, Nat.reduceLT, Nat.reduceLeDiff, reduceCtorEq, ↓reduceIte]
    repeat (refine And.intro (by first | exact True.intro | omega | kernel_rfl | (simp only [List.length_set, List.length_append, List.length_take, List.length_replicate, List.length_cons, true_and, and_true, List.length_nil, tabR_length]; omega)) ?_)
    have hcl' : Cl ((H ++ [bP (xs.getD i 0) (.v (.slice none 0 0))]).set hr .dead ++ [rP xs (en0 i ++ [((i, []), 0)])]) :=
      cl_rP (cl_dead (cl_app hcl fun r hr h hh => by simp at hr; subst hr; simp [Row.hs, Dat.hs, C.hs] at hh)) (fun e he hne => by
        simp only [List.mem_append, List.mem_singleton] at he
        rcases he with he | rfl
        · exact absurd (en0_bt he).1 hne
        · exact absurd rfl hne)
    have er : rcl xs (en0 i) ++ [.v (.int .i64 (xs.getD i 0)), .v (.slice none 0 0)] = rcl xs (en0 i ++ [((i, []), 0)]) := by rw [rcl_app]; rfl
    rw [er]
    refine ⟨(i + 1, H.length + 1, (H ++ [bP (xs.getD i 0) (.v (.slice none 0 0))]).set hr .dead ++ [rP xs (en0 i ++ [((i, []), 0)])]), List.range ((H ++ [bP (xs.getD i 0) (.v (.slice none 0 0))]).set hr .dead ++ [rP xs (en0 i ++ [((i, []), 0)])]).length, ⟨⟨by dsimp only; omega, ?_, ?_, hcl'⟩, by dsimp only; omega⟩, wk_id (by simp) hcl' (by simp [slId, get_cons, get_nil, TV.hs, AV.hs, C.hs, RS.slot, zipSlots])⟩
    · exact lkp (lks (lkp l0) (fun e => by rw [e, l0] at lr; cases lr))
    · dsimp only
      rw [lkn' (by simp), en0_snoc]
  have hie : i = xs.length := by omega
  subst hie
  have hcd : decide ((xs.length : Int) < (xs.length : Int)) = false := decide_eq_false (by omega)
  simp (dsimp := false) only [hcd, go_sem, Nat.reduceAdd, Nat.reduceBEq, Nat.reduceEqDiff, Nat.reduceLT, Nat.reduceLeDiff, reduceCtorEq, ↓reduceIte]
  refine hQ _ _ _ ?_
  simp (dsimp := false) only [go_sem, Nat.reduceAdd, Nat.reduceBEq, Nat.reduceEqDiff, Nat.reduceLT, Nat.reduceLeDiff, reduceCtorEq, ↓reduceIte]
  clear hQ
  have hJ0 : POJ xs ⟨xs.length, en0 xs.length, hr, H, 0⟩ :=
    ⟨by rw [en0_prs]; rfl, by simp only [en0_len]; omega, by simp only [en0_len]; omega, by simp only [en0_len]; omega, lr, ⟨⟨fun e he hne => absurd (en0_bt he).1 hne, List.Pairwise.imp_of_mem (R := fun _ _ => True) (fun ha _ _ => .inl (en0_bt ha).1) (List.pairwise_of_forall (fun _ _ => trivial))⟩, l0, hcl⟩, fun e he => by rw [(en0_bt he).1]; simp⟩
  refine aloopQ (σ := PO) (fun s => ([(5, .a (.c (.sl 2 s.hp 0 s.ps.length))), (6, tI s.c)], s.H)) (fun s => POJ xs s) (fun s => s.g) (⟨xs.length, en0 xs.length, hr, H, 0⟩) (List.range H.length) hJ0 (wk_id (by omega) hcl (by simp [slId, get_cons, get_nil, TV.hs, AV.hs, C.hs, RS.slot, zipSlots, en0_len] <;> omega)) ?_
  clear hJ0 hcl lr l0 hHr hH0
  rintro Q2 hQ2 s ⟨j1, j2, j3, j4, j5, j6, j7⟩
  have l0 := j6.list
  have hl0 := getlt l0
  have hlp := getlt j5
  by_cases h1 : 1 < s.ps.length
  · have hcd : decide ((1 : Int) < (s.ps.length : Int)) = true := decide_eq_true (by omega)
    simp (dsimp := false) only [hcd, go_sem, Nat.reduceAdd, Nat.reduceBEq, Nat.reduceEqDiff, Nat.reduceLT, Nat.reduceLeDiff, reduceCtorEq, ↓reduceIte]
    repeat (refine And.intro (by first | exact True.intro | omega | kernel_rfl | (simp only [List.length_set, List.length_append, List.length_take, List.length_replicate, List.length_cons, true_and, and_true, List.length_nil, tabR_length]; omega)) ?_)
    have hI0 : PIJ xs s ⟨0, [], s.ps, s.H.length, s.H ++ [rP xs []], s.c⟩ := by
      refine ⟨rfl, rfl, by simp, rfl, rfl, by simp, lkp j5, lkn _ _, by show s.H.length ≠ s.hp; omega, ?_, j7⟩
      exact j6.keep (Exc.app (Exc.refl [] s.H) _) (by simp) (fun x hx => by simp at hx ⊢; omega) (by simp) (cl_rP j6.cl (by simp))
    have hcl := hI0.pj.cl
    refine aloopQ (σ := PI) (fun t => ([(5, .a (.c (.sl 2 s.hp 0 s.ps.length))), (6, tI t.c), (9, .a (.c (.sl 2 t.hn 0 t.N.length))), (10, tI t.i)], t.H)) (fun t => PIJ xs s t) (fun t => s.ps.length - t.i) (⟨0, [], s.ps, s.H.length, s.H ++ [rP xs []], s.c⟩) (List.range (s.H ++ [rP xs []]).length) hI0 (wk_id (by simp) hcl (by simp [slId, get_cons, get_nil, TV.hs, AV.hs, C.hs, RS.slot, zipSlots] <;> omega)) ?_
    clear hI0 hcl
    rintro Q3 hQ3 ⟨i, N, R, hn, H, c⟩ ⟨i1, i2, i3, iv, i4, i5, i6, i7, i8, i9, i10⟩
    simp only at i1 i2 i3 iv i4 i5 i6 i7 i8 i9 i10
    have hcl := i9.cl
    have l0' := i9.list
    have hH0 := getlt l0'
    have hHp := getlt i6
    have hHn := getlt i7
    have hn0 : hn ≠ 0 := fun e => by rw [e, l0'] at i7; cases i7
    have hp0 : s.hp ≠ 0 := fun e => by rw [e, l0'] at i6; cases i6
    have hNo := rcl_one xs N
    have hNl := rcl_len xs N
    have hPl := rcl_len xs s.ps
    have e1 : (i : Int) + 1 = ((i + 1 : Nat) : Int) := by omega
    by_cases hc : i + 1 < s.ps.length
    · have hcd3 : decide (((i + 1 : Nat) : Int) < (s.ps.length : Int)) = true := decide_eq_true (by omega)
      obtain ⟨p, q, R', hR⟩ : ∃ p q R', R = p :: q :: R' := by
        match R, i3 with
        | [], h => simp at h; omega
        | [p], h => simp at h; omega
        | p :: q :: R', _ => exact ⟨p, q, R', rfl⟩
      subst hR
      have hpi : s.ps[i]? = some p := by
        have := congrArg (fun l => l[0]?) i2
        simpa using this.symm
      have hqi : s.ps[i + 1]? = some q := by
        have := congrArg (fun l => l[1]?) i2
        simpa using this.symm
      have gp := rcl_at (xs := xs) hpi
      have gq := rcl_at (xs := xs) hqi
      have bp := i10 p (by simp)
      have bq := i10 q (by simp)
      simp at i3 i4 i5
      have hi1 : i * 2 + 2 ≤ (rcl xs s.ps).length := by omega
      have hi2 : (i + 1) * 2 + 2 ≤ (rcl xs s.ps).length := by omega
      simp (dsimp := false) only [hcd3, e1, i6, gp, gq, hi1, hi2, List.length_append, List.length_set, List.length_cons, List.length_nil, List.take_succ_cons, List.take_zero, List.drop_zero, List.all_cons, List.all_nil, cellE_one, Nat.one_mul, Int.toNat_natCast, Int.toNat_zero, go_sem, Nat.reduceAdd, Nat.reduceBEq, Nat.reduceEqDiff, Nat.reduceLT, Nat.reduceLeDiff, reduceCtorEq, ↓reduceIte]
      repeat (refine And.intro (by first | exact True.intro | omega | kernel_rfl | (simp only [List.length_set, List.length_append, List.length_take, List.length_replicate, List.length_cons, true_and, and_true, List.length_nil, tabR_length]; omega)) ?_)
      refine And.intro ?_ ?_
      · --
        have y1 : SF [] H (H ++ [bP 0 (.v (.slice none 0 0))]) := (SF.refl _ H).app _
        have y2 : SF [] H ((H ++ [bP 0 (.v (.slice none 0 0))]) ++ [bP 0 (.v (.slice none 0 0))]) := y1.app _
        have y3 : ∀ r, SF [] H (((H ++ [bP 0 (.v (.slice none 0 0))]) ++ [bP 0 (.v (.slice none 0 0))]).set H.length r) := fun r => y2.set _ (.inr (by omega))
        have y4 : ∀ r r', SF [] H ((((H ++ [bP 0 (.v (.slice none 0 0))]) ++ [bP 0 (.v (.slice none 0 0))]).set H.length r).set (H.length + 1) r') := fun r r' => (y3 r).set _ (.inr (by omega))
        have y1' := y1.same
        have y2' := y2.same
        have y3' := fun r => (y3 r).same
        have y4' := fun r r' => (y4 r r').same
        have qa : ((H ++ [bP 0 (.v (.slice none 0 0))]) ++ [bP 0 (.v (.slice none 0 0))])[H.length]? = some (bP 0 (.v (.slice none 0 0))) := lkp (lkn _ _)
        have qb : ∀ r, (((H ++ [bP 0 (.v (.slice none 0 0))]) ++ [bP 0 (.v (.slice none 0 0))]).set H.length r)[(H.length + 1)]? = some (bP 0 (.v (.slice none 0 0))) := fun r => lks (lkn' (by simp)) (by omega)
        simp (dsimp := false) only [y1', y2', y3', y4', qa, qb, List.length_append, List.length_set, List.length_cons, List.length_nil, List.take_succ_cons, List.take_zero, List.drop_zero, List.all_cons, List.all_nil, cellE_one, Nat.one_mul, Int.toNat_natCast, Int.toNat_zero, go_sem, Nat.reduceAdd, Nat.reduceBEq, Nat.reduceEqDiff, Nat.reduceLT, Nat.reduceLeDiff, reduceCtorEq, ↓reduceIte]
        obtain ⟨H2, hH2⟩ : ∃ H2, H2 = (((H ++ [bP 0 (.v (.slice none 0 0))]) ++ [bP 0 (.v (.slice none 0 0))]).set H.length (bP (xs.getD p.1.1 0) (cellE p))).set (H.length + 1) (bP (xs.getD q.1.1 0) (cellE q)) := ⟨_, rfl⟩
        have l2 : H2.length = H.length + 2 := by rw [hH2]; simp
        have gA2 : H2[H.length]? = some (bP (xs.getD p.1.1 0) (cellE p)) := by rw [hH2]; exact lks (lkset (by simp)) (by omega)
        have gB2 : H2[(H.length + 1)]? = some (bP (xs.getD q.1.1 0) (cellE q)) := by rw [hH2]; exact lkset (by simp)
        have eB2 : Exc [] H H2 := by rw [hH2]; exact ((((Exc.refl [] H).app _).app _).new (by omega) _).new (by omega) _
        have hcl2 : Cl H2 := by
          rw [hH2]
          refine cl_set (cl_set (cl_app (cl_app hcl ?_) ?_) ?_) ?_
          · intro r hr h hh; simp at hr; subst hr; simp [Row.hs, Dat.hs, C.hs] at hh
          · intro r hr h hh; simp at hr; subst hr; simp [Row.hs, Dat.hs, C.hs] at hh
          · intro h hh; have := bP_hs i9.lj p (by simp) _ h hh; simp; omega
          · intro h hh; have := bP_hs i9.lj q (by simp) _ h hh; simp; omega
        simp only [← hH2]
        clear hH2
        repeat (refine And.intro (by first | exact True.intro | omega | kernel_rfl | (simp only [List.length_set, List.length_append, List.length_take, List.length_replicate, List.length_cons, true_and, and_true, List.length_nil, tabR_length]; omega)) ?_)
        by_cases hlt : xs.getD q.1.1 0 < xs.getD p.1.1 0
        · have dlt : decide (xs.getD q.1.1 0 < xs.getD p.1.1 0) = true := decide_eq_true hlt
          have hm : mch xs p.1 q.1 = (q.1.1, q.1.2 ++ [p.1.1]) := by rw [mch, if_pos hlt]
          have q3 : (H2.set H.length (bP (xs.getD q.1.1 0) (cellE q)))[(H.length + 1)]? = some (bP (xs.getD q.1.1 0) (cellE q)) := lks gB2 (by omega)
          obtain ⟨HB, hHB⟩ : ∃ HB, HB = (H2.set H.length (bP (xs.getD q.1.1 0) (cellE q))).set (H.length + 1) (bP (xs.getD p.1.1 0) (cellE p)) := ⟨_, rfl⟩
          have lB : HB.length = H.length + 2 := by rw [hHB]; simp [l2]
          have gA : HB[H.length]? = some (bP (xs.getD q.1.1 0) (cellE q)) := by rw [hHB]; exact lks (lkset (by omega)) (by omega)
          have gB : HB[(H.length + 1)]? = some (bP (xs.getD p.1.1 0) (cellE p)) := by rw [hHB]; exact lkset (by rw [List.length_set]; omega)
          have eB : Exc [] H HB := by rw [hHB]; exact (eB2.new (by omega) _).new (by omega) _
          have clB : Cl HB := by
            rw [hHB]
            refine cl_set (cl_set hcl2 ?_) ?_
            · intro h hh; have := bP_hs i9.lj q (by simp) _ h hh; omega
            · intro h hh; have := bP_hs i9.lj p (by simp) _ h hh; rw [List.length_set]; omega
          simp (dsimp := false) only [gA2, gB2, q3, dlt, List.length_append, List.length_set, List.length_cons, List.length_nil, List.take_succ_cons, List.take_zero, List.drop_zero, List.all_cons, List.all_nil, cellE_one, Nat.one_mul, Int.toNat_natCast, Int.toNat_zero, go_sem, Nat.reduceAdd, Nat.reduceBEq, Nat.reduceEqDiff, Nat.reduceLT, Nat.reduceLeDiff, reduceCtorEq, ↓reduceIte]
          simp only [← hHB]
          clear hHB
          by_cases hb : q.1.2 = []
          · --
            have hce : cellE q = .v (.slice none 0 0) := by rw [cellE, if_pos hb]
            have hnB : HB[hn]? = some (rP xs N) := eB _ _ i7 (by simp)
            refine WX_at [hn] ?_ ?_
            · simp [msOwn, hnB]
            have qn : (HB ++ [oI [xs.getD p.1.1 0]])[HB.length]? = some (oI [xs.getD p.1.1 0]) := lkn _ _
            obtain ⟨HC, hHC⟩ : ∃ HC, HC = ((HB ++ [oI [xs.getD p.1.1 0]]) ++ [oI [xs.getD p.1.1 0]]) := ⟨_, rfl⟩
            have f1 : SF [hn] HB (HB ++ [oI [xs.getD p.1.1 0]]) := (SF.refl _ HB).app _
            have f2 : SF [hn] HB HC := by rw [hHC]; exact f1.app _
            have f3 : SF [hn] HB (HC ++ [bP (xs.getD q.1.1 0) (cSl (HB.length + 1) 1)]) := f2.app _
            have f4 : ∀ r, SF [hn] HB ((HC ++ [bP (xs.getD q.1.1 0) (cSl (HB.length + 1) 1)]).set hn .dead ++ [r]) := fun r => (f3.set _ (by simp)).app _
            have s1 := f1.same
            have s2 := f2.same
            have s2' := f2.same
            rw [hHC] at s2'
            have s3 := f3.same
            have s4 := fun r => (f4 r).same
            have lC : HC.length = HB.length + 2 := by rw [hHC]; simp
            have hCn : HC[hn]? = some (rP xs N) := by rw [hHC]; exact lkp (lkp hnB)
            have hC1 : HC[HB.length + 1]? = some (oI [xs.getD p.1.1 0]) := by rw [hHC]; exact lkn' (by simp)
            have qN : (HC ++ [bP (xs.getD q.1.1 0) (cSl (HB.length + 1) 1)])[hn]? = some (rP xs N) := lkp hCn
            have qA : (HC ++ [bP (xs.getD q.1.1 0) (cSl (HB.length + 1) 1)])[HC.length]? = some (bP (xs.getD q.1.1 0) (cSl (HB.length + 1) 1)) := lkn _ _
            try simp (dsimp := false) only [gA, gB, hce, qn, s1, s2', ← hHC, List.length_append, List.length_set, List.length_cons, List.length_nil, List.take_succ_cons, List.take_zero, List.drop_zero, List.all_cons, List.all_nil, cellE_one, Nat.one_mul, Int.toNat_natCast, Int.toNat_zero, go_sem, Nat.reduceAdd, Nat.reduceBEq, Nat.reduceEqDiff, Nat.reduceLT, Nat.reduceLeDiff, reduceCtorEq, ↓reduceIte]
            try simp (dsimp := false) only [gA, gB, hce, qn, qN, qA, hNo, s1, s2, s2', s3, s4, ← hHC, List.length_append, List.length_set, List.length_cons, List.length_nil, List.take_succ_cons, List.take_zero, List.drop_zero, List.all_cons, List.all_nil, cellE_one, Nat.one_mul, Int.toNat_natCast, Int.toNat_zero, go_sem, Nat.reduceAdd, Nat.reduceBEq, Nat.reduceEqDiff, Nat.reduceLT, Nat.reduceLeDiff, reduceCtorEq, ↓reduceIte]
            have hcn : c ≤ 64 := by omega
            repeat (refine And.intro (by first | exact True.intro | omega | kernel_rfl | (simp only [List.length_set, List.length_append, List.length_take, List.length_replicate, List.length_cons, true_and, and_true, List.length_nil, tabR_length]; omega)) ?_)
            obtain ⟨w, hw⟩ : ∃ w : En, w = ((q.1.1, q.1.2 ++ [p.1.1]), HB.length + 1) := ⟨_, rfl⟩
            have hw1 : w.1 = mch xs p.1 q.1 := by rw [hw, hm]
            have hwi : w.1.1 = q.1.1 := by rw [hw]
            have hw2 : w.2 = HB.length + 1 := by rw [hw]
            have hce2 : cellE w = cSl (HB.length + 1) 1 := by rw [hw, cellE, if_neg (by simp)]; simp [hb]
            have er : rcl xs N ++ [.v (.int .i64 (xs.getD q.1.1 0)), cSl (HB.length + 1) 1] = rcl xs (N ++ [w]) := by rw [rcl_app]; simp [rcl, hce2, hwi]
            obtain ⟨HF, hHF⟩ : ∃ HF, HF = (HC ++ [bP (xs.getD q.1.1 0) (cSl (HB.length + 1) 1)]).set hn .dead ++ [rP xs (N ++ [w])] := ⟨_, rfl⟩
            have eBF : Exc [hn] HB HF := by rw [hHF, hHC]; exact ((((((Exc.refl [hn] HB).app _).app _).app _).set _ (by simp)).app _)
            have eF : Exc [hn] H HF := fun k r h hk => eBF k r (eB k r h (by simp)) hk
            have clC : Cl HC := by rw [hHC]; exact cl_oI (cl_oI clB)
            have hclF : Cl HF := by
              rw [hHF]
              refine cl_rP (cl_dead (cl_app clC fun r hr h hh => ?_)) fun e he hne => ?_
              · simp at hr; subst hr; simp [Row.hs, Dat.hs, C.hs] at hh; simp; omega
              · simp only [List.mem_append, List.mem_singleton] at he
                rw [List.length_set, List.length_append]
                rcases he with he | rfl
                · have := getlt (i9.lj.row e (by simp [he]) hne).1; omega
                · omega
            have lF : HF.length = H.length + 6 := by rw [hHF]; simp [lC, lB]
            have hrow : HF[w.2]? = some (oI (vals xs w.1.2)) := by
              rw [hw2, show vals xs w.1.2 = [xs.getD p.1.1 0] by rw [hw]; simp [vals, hb], hHF]
              exact lkp (lks (lkp hC1) (by omega))
            have hLJ := i9.lj.step (S' := [s.hp, HC.length + 1]) (w := w) eF (fun x hx => by
              simp only [List.mem_cons, List.not_mem_nil, or_false] at hx
              rcases hx with rfl
              exact .inl (by simp)) (fun x hx => by
              simp only [List.mem_cons, List.not_mem_nil, or_false] at hx
              rcases hx with rfl | rfl
              · exact .inl (by simp)
              · exact .inr (by omega)) (fun _ => hrow) (by omega) (by rw [hw2]; simp; omega)
            have hPJ : PJ xs [s.hp, HC.length + 1] HF (N ++ [w] ++ R') := ⟨hLJ, eF _ _ l0' (by simp; omega), hclF⟩
            rw [er, ← hHF]
            refine ⟨⟨i + 2, N ++ [w], R', HC.length + 1, HF, c + 1⟩, List.range HF.length, ⟨⟨?_, ?_, by show i + 2 + R'.length = s.ps.length; omega, by show (i + 2) % 2 = 0; omega, by show c + 1 + R'.length / 2 = _; omega, by show (N ++ [w]).length + R'.length ≤ _; simp; omega, eF _ _ i6 (by simp; omega), ?_, by show HC.length + 1 ≠ s.hp; omega, hPJ, ?_⟩, by show s.ps.length - (i + 2) < s.ps.length - i; omega⟩, wk_id (by omega) hclF (by simp [slId, get_cons, get_nil, TV.hs, AV.hs, C.hs, RS.slot, zipSlots] <;> omega)⟩
            · show prs (N ++ [w]) ++ rnd xs (prs R') = _
              rw [← i1, prs_app, List.append_assoc]
              show prs N ++ (w.1 :: rnd xs (prs R')) = prs N ++ rnd xs (p.1 :: q.1 :: prs R')
              rw [rnd_two, hw1]
            · show R' = s.ps.drop (i + 2)
              have := congrArg (List.drop 2) i2
              rw [List.drop_drop] at this
              exact this
            · show HF[HC.length + 1]? = _
              rw [hHF, lkn' (by simp)]
            · intro e he
              simp only [List.mem_append, List.mem_singleton] at he
              show e.1.2.length ≤ c + 1
              rcases he with (he | rfl) | he
              · have := i10 e (by simp [he]); omega
              · rw [hw]; simp; omega
              · have := i10 e (by simp [he]); omega
          · --
            have hce : cellE q = cSl q.2 q.1.2.length := by rw [cellE, if_neg hb]
            obtain ⟨hrw, hns⟩ := i9.lj.row q (by simp) hb
            have hrl := getlt hrw
            simp only [List.mem_cons, List.not_mem_nil, or_false, not_or] at hns
            obtain ⟨hnp, hnn⟩ := hns
            have hw0 : q.2 ≠ 0 := fun e => by rw [e, l0'] at hrw; cases hrw
            have hrB : HB[q.2]? = some (oI (vals xs q.1.2)) := eB _ _ hrw (by simp)
            have hbl : (vals xs q.1.2).length = q.1.2.length := vals_len _ _
            have qh : (HB ++ [oI [xs.getD p.1.1 0]])[q.2]? = some (oI (vals xs q.1.2)) := lkp hrB
            have hnB : HB[hn]? = some (rP xs N) := eB _ _ i7 (by simp)
            refine WX_at [q.2, hn] ?_ ?_
            · simp [msOwn, hnB, hrB]
            have qn : (HB ++ [oI [xs.getD p.1.1 0]])[HB.length]? = some (oI [xs.getD p.1.1 0]) := lkn _ _
            obtain ⟨HC, hHC⟩ : ∃ HC, HC = ((HB ++ [oI [xs.getD p.1.1 0]]).set q.2 .dead ++ [oI (vals xs q.1.2 ++ [xs.getD p.1.1 0])]) := ⟨_, rfl⟩
            have f1 : SF [q.2, hn] HB (HB ++ [oI [xs.getD p.1.1 0]]) := (SF.refl _ HB).app _
            have f2 : SF [q.2, hn] HB HC := by rw [hHC]; exact (f1.set _ (by simp)).app _
            have f3 : SF [q.2, hn] HB (HC ++ [bP (xs.getD q.1.1 0) (cSl (HB.length + 1) (q.1.2.length + 1))]) := f2.app _
            have f4 : ∀ r, SF [q.2, hn] HB ((HC ++ [bP (xs.getD q.1.1 0) (cSl (HB.length + 1) (q.1.2.length + 1))]).set hn .dead ++ [r]) := fun r => (f3.set _ (by simp)).app _
            have s1 := f1.same
            have s2 := f2.same
            have s2' := f2.same
            rw [hHC] at s2'
            have s3 := f3.same
            have s4 := fun r => (f4 r).same
            have lC : HC.length = HB.length + 2 := by rw [hHC]; simp
            have hCn : HC[hn]? = some (rP xs N) := by rw [hHC]; exact lkp (lks (lkp hnB) hnn)
            have hC1 : HC[HB.length + 1]? = some (oI (vals xs q.1.2 ++ [xs.getD p.1.1 0])) := by rw [hHC]; exact lkn' (by simp)
            have qN : (HC ++ [bP (xs.getD q.1.1 0) (cSl (HB.length + 1) (q.1.2.length + 1))])[hn]? = some (rP xs N) := lkp hCn
            have qA : (HC ++ [bP (xs.getD q.1.1 0) (cSl (HB.length + 1) (q.1.2.length + 1))])[HC.length]? = some (bP (xs.getD q.1.1 0) (cSl (HB.length + 1) (q.1.2.length + 1))) := lkn _ _
            try simp (dsimp := false) only [gA, gB, hce, qh, hbl, qn, s1, s2', ← hHC, List.length_append, List.length_set, List.length_cons, List.length_nil, List.take_succ_cons, List.take_zero, List.drop_zero, List.all_cons, List.all_nil, cellE_one, Nat.one_mul, Int.toNat_natCast, Int.toNat_zero, go_sem, Nat.reduceAdd, Nat.reduceBEq, Nat.reduceEqDiff, Nat.reduceLT, Nat.reduceLeDiff, reduceCtorEq, ↓reduceIte]
            try simp (dsimp := false) only [gA, gB, hce, qh, hbl, qn, qN, qA, hNo, s1, s2, s2', s3, s4, ← hHC, List.length_append, List.length_set, List.length_cons, List.length_nil, List.take_succ_cons, List.take_zero, List.drop_zero, List.all_cons, List.all_nil, cellE_one, Nat.one_mul, Int.toNat_natCast, Int.toNat_zero, go_sem, Nat.reduceAdd, Nat.reduceBEq, Nat.reduceEqDiff, Nat.reduceLT, Nat.reduceLeDiff, reduceCtorEq, ↓reduceIte]
            have hcn : c ≤ 64 := by omega
            repeat (refine And.intro (by first | exact True.intro | omega | kernel_rfl | (simp only [List.length_set, List.length_append, List.length_take, List.length_replicate, List.length_cons, true_and, and_true, List.length_nil, tabR_length]; omega)) ?_)
            obtain ⟨w, hw⟩ : ∃ w : En, w = ((q.1.1, q.1.2 ++ [p.1.1]), HB.length + 1) := ⟨_, rfl⟩
            have hw1 : w.1 = mch xs p.1 q.1 := by rw [hw, hm]
            have hwi : w.1.1 = q.1.1 := by rw [hw]
            have hw2 : w.2 = HB.length + 1 := by rw [hw]
            have hce2 : cellE w = cSl (HB.length + 1) (q.1.2.length + 1) := by rw [hw, cellE, if_neg (by simp)]; simp
            have er : rcl xs N ++ [.v (.int .i64 (xs.getD q.1.1 0)), cSl (HB.length + 1) (q.1.2.length + 1)] = rcl xs (N ++ [w]) := by rw [rcl_app]; simp [rcl, hce2, hwi]
            obtain ⟨HF, hHF⟩ : ∃ HF, HF = (HC ++ [bP (xs.getD q.1.1 0) (cSl (HB.length + 1) (q.1.2.length + 1))]).set hn .dead ++ [rP xs (N ++ [w])] := ⟨_, rfl⟩
            have eBF : Exc [q.2, hn] HB HF := by rw [hHF, hHC]; exact (((((((Exc.refl [q.2, hn] HB).app _).set _ (by simp)).app _).app _).set _ (by simp)).app _)
            have eF : Exc [q.2, hn] H HF := fun k r h hk => eBF k r (eB k r h (by simp)) hk
            have clC : Cl HC := by rw [hHC]; exact cl_oI (cl_dead (cl_oI clB))
            have hclF : Cl HF := by
              rw [hHF]
              refine cl_rP (cl_dead (cl_app clC fun r hr h hh => ?_)) fun e he hne => ?_
              · simp at hr; subst hr; simp [Row.hs, Dat.hs, C.hs] at hh; simp; omega
              · simp only [List.mem_append, List.mem_singleton] at he
                rw [List.length_set, List.length_append]
                rcases he with he | rfl
                · have := getlt (i9.lj.row e (by simp [he]) hne).1; omega
                · omega
            have lF : HF.length = H.length + 6 := by rw [hHF]; simp [lC, lB]
            have hrow : HF[w.2]? = some (oI (vals xs w.1.2)) := by
              rw [hw2, show vals xs w.1.2 = (vals xs q.1.2 ++ [xs.getD p.1.1 0]) by rw [hw]; simp [vals], hHF]
              exact lkp (lks (lkp hC1) (by omega))
            have hLJ := i9.lj.step (S' := [s.hp, HC.length + 1]) (w := w) eF (fun x hx => by
              simp only [List.mem_cons, List.not_mem_nil, or_false] at hx
              rcases hx with rfl | rfl
              · exact .inr (.inr ⟨rfl, hb⟩)
              · exact .inl (by simp)) (fun x hx => by
              simp only [List.mem_cons, List.not_mem_nil, or_false] at hx
              rcases hx with rfl | rfl
              · exact .inl (by simp)
              · exact .inr (by omega)) (fun _ => hrow) (by omega) (by rw [hw2]; simp; omega)
            have hPJ : PJ xs [s.hp, HC.length + 1] HF (N ++ [w] ++ R') := ⟨hLJ, eF _ _ l0' (by simp; omega), hclF⟩
            rw [er, ← hHF]
            refine ⟨⟨i + 2, N ++ [w], R', HC.length + 1, HF, c + 1⟩, List.range HF.length, ⟨⟨?_, ?_, by show i + 2 + R'.length = s.ps.length; omega, by show (i + 2) % 2 = 0; omega, by show c + 1 + R'.length / 2 = _; omega, by show (N ++ [w]).length + R'.length ≤ _; simp; omega, eF _ _ i6 (by simp; omega), ?_, by show HC.length + 1 ≠ s.hp; omega, hPJ, ?_⟩, by show s.ps.length - (i + 2) < s.ps.length - i; omega⟩, wk_id (by omega) hclF (by simp [slId, get_cons, get_nil, TV.hs, AV.hs, C.hs, RS.slot, zipSlots] <;> omega)⟩
            · show prs (N ++ [w]) ++ rnd xs (prs R') = _
              rw [← i1, prs_app, List.append_assoc]
              show prs N ++ (w.1 :: rnd xs (prs R')) = prs N ++ rnd xs (p.1 :: q.1 :: prs R')
              rw [rnd_two, hw1]
            · show R' = s.ps.drop (i + 2)
              have := congrArg (List.drop 2) i2
              rw [List.drop_drop] at this
              exact this
            · show HF[HC.length + 1]? = _
              rw [hHF, lkn' (by simp)]
            · intro e he
              simp only [List.mem_append, List.mem_singleton] at he
              show e.1.2.length ≤ c + 1
              rcases he with (he | rfl) | he
              · have := i10 e (by simp [he]); omega
              · rw [hw]; simp; omega
              · have := i10 e (by simp [he]); omega
        · have dlt : decide (xs.getD q.1.1 0 < xs.getD p.1.1 0) = false := decide_eq_false hlt
          have hm : mch xs p.1 q.1 = (p.1.1, p.1.2 ++ [q.1.1]) := by rw [mch, if_neg hlt]
          obtain ⟨HB, hHB⟩ : ∃ HB, HB = H2 := ⟨_, rfl⟩
          rw [← hHB] at gA2 gB2 eB2 hcl2 l2
          have lB := l2
          have gA := gA2
          have gB := gB2
          have eB := eB2
          have clB := hcl2
          simp (dsimp := false) only [gA2, gB2, dlt, ← hHB, List.length_append, List.length_set, List.length_cons, List.length_nil, List.take_succ_cons, List.take_zero, List.drop_zero, List.all_cons, List.all_nil, cellE_one, Nat.one_mul, Int.toNat_natCast, Int.toNat_zero, go_sem, Nat.reduceAdd, Nat.reduceBEq, Nat.reduceEqDiff, Nat.reduceLT, Nat.reduceLeDiff, reduceCtorEq, ↓reduceIte]
          clear hHB
          by_cases hb : p.1.2 = []
          · --
            have hce : cellE p = .v (.slice none 0 0) := by rw [cellE, if_pos hb]
            have hnB : HB[hn]? = some (rP xs N) := eB _ _ i7 (by simp)
            refine WX_at [hn] ?_ ?_
            · simp [msOwn, hnB]
            have qn : (HB ++ [oI [xs.getD q.1.1 0]])[HB.length]? = some (oI [xs.getD q.1.1 0]) := lkn _ _
            obtain ⟨HC, hHC⟩ : ∃ HC, HC = ((HB ++ [oI [xs.getD q.1.1 0]]) ++ [oI [xs.getD q.1.1 0]]) := ⟨_, rfl⟩
            have f1 : SF [hn] HB (HB ++ [oI [xs.getD q.1.1 0]]) := (SF.refl _ HB).app _
            have f2 : SF [hn] HB HC := by rw [hHC]; exact f1.app _
            have f3 : SF [hn] HB (HC ++ [bP (xs.getD p.1.1 0) (cSl (HB.length + 1) 1)]) := f2.app _
            have f4 : ∀ r, SF [hn] HB ((HC ++ [bP (xs.getD p.1.1 0) (cSl (HB.length + 1) 1)]).set hn .dead ++ [r]) := fun r => (f3.set _ (by simp)).app _
            have s1 := f1.same
            have s2 := f2.same
            have s2' := f2.same
            rw [hHC] at s2'
            have s3 := f3.same
            have s4 := fun r => (f4 r).same
            have lC : HC.length = HB.length + 2 := by rw [hHC]; simp
            have hCn : HC[hn]? = some (rP xs N) := by rw [hHC]; exact lkp (lkp hnB)
            have hC1 : HC[HB.length + 1]? = some (oI [xs.getD q.1.1 0]) := by rw [hHC]; exact lkn' (by simp)
            have qN : (HC ++ [bP (xs.getD p.1.1 0) (cSl (HB.length + 1) 1)])[hn]? = some (rP xs N) := lkp hCn
            have qA : (HC ++ [bP (xs.getD p.1.1 0) (cSl (HB.length + 1) 1)])[HC.length]? = some (bP (xs.getD p.1.1 0) (cSl (HB.length + 1) 1)) := lkn _ _
            try simp (dsimp := false) only [gA, gB, hce, qn, s1, s2', ← hHC, List.length_append, List.length_set, List.length_cons, List.length_nil, List.take_succ_cons, List.take_zero, List.drop_zero, List.all_cons, List.all_nil, cellE_one, Nat.one_mul, Int.toNat_natCast, Int.toNat_zero, go_sem, Nat.reduceAdd, Nat.reduceBEq, Nat.reduceEqDiff, Nat.reduceLT, Nat.reduceLeDiff, reduceCtorEq, ↓reduceIte]
            try simp (dsimp := false) only [gA, gB, hce, qn, qN, qA, hNo, s1, s2, s2', s3, s4, ← hHC, List.length_append, List.length_set, List.length_cons, List.length_nil, List.take_succ_cons, List.take_zero, List.drop_zero, List.all_cons, List.all_nil, cellE_one, Nat.one_mul, Int.toNat_natCast, Int.toNat_zero, go_sem, Nat.reduceAdd, Nat.reduceBEq, Nat.reduceEqDiff, Nat.reduceLT, Nat.reduceLeDiff, reduceCtorEq, ↓reduceIte]
            have hcn : c ≤ 64 := by omega
            repeat (refine And.intro (by first | exact True.intro | omega | kernel_rfl | (simp only [List.length_set, List.length_append, List.length_take, List.length_replicate, List.length_cons, true_and, and_true, List.length_nil, tabR_length]; omega)) ?_)
            obtain ⟨w, hw⟩ : ∃ w : En, w = ((p.1.1, p.1.2 ++ [q.1.1]), HB.length + 1) := ⟨_, rfl⟩
            have hw1 : w.1 = mch xs p.1 q.1 := by rw [hw, hm]
            have hwi : w.1.1 = p.1.1 := by rw [hw]
            have hw2 : w.2 = HB.length + 1 := by rw [hw]
            have hce2 : cellE w = cSl (HB.length + 1) 1 := by rw [hw, cellE, if_neg (by simp)]; simp [hb]
            have er : rcl xs N ++ [.v (.int .i64 (xs.getD p.1.1 0)), cSl (HB.length + 1) 1] = rcl xs (N ++ [w]) := by rw [rcl_app]; simp [rcl, hce2, hwi]
            obtain ⟨HF, hHF⟩ : ∃ HF, HF = (HC ++ [bP (xs.getD p.1.1 0) (cSl (HB.length + 1) 1)]).set hn .dead ++ [rP xs (N ++ [w])] := ⟨_, rfl⟩
            have eBF : Exc [hn] HB HF := by rw [hHF, hHC]; exact ((((((Exc.refl [hn] HB).app _).app _).app _).set _ (by simp)).app _)
            have eF : Exc [hn] H HF := fun k r h hk => eBF k r (eB k r h (by simp)) hk
            have clC : Cl HC := by rw [hHC]; exact cl_oI (cl_oI clB)
            have hclF : Cl HF := by
              rw [hHF]
              refine cl_rP (cl_dead (cl_app clC fun r hr h hh => ?_)) fun e he hne => ?_
              · simp at hr; subst hr; simp [Row.hs, Dat.hs, C.hs] at hh; simp; omega
              · simp only [List.mem_append, List.mem_singleton] at he
                rw [List.length_set, List.length_append]
                rcases he with he | rfl
                · have := getlt (i9.lj.row e (by simp [he]) hne).1; omega
                · omega
            have lF : HF.length = H.length + 6 := by rw [hHF]; simp [lC, lB]
            have hrow : HF[w.2]? = some (oI (vals xs w.1.2)) := by
              rw [hw2, show vals xs w.1.2 = [xs.getD q.1.1 0] by rw [hw]; simp [vals, hb], hHF]
              exact lkp (lks (lkp hC1) (by omega))
            have hLJ := i9.lj.step (S' := [s.hp, HC.length + 1]) (w := w) eF (fun x hx => by
              simp only [List.mem_cons, List.not_mem_nil, or_false] at hx
              rcases hx with rfl
              exact .inl (by simp)) (fun x hx => by
              simp only [List.mem_cons, List.not_mem_nil, or_false] at hx
              rcases hx with rfl | rfl
              · exact .inl (by simp)
              · exact .inr (by omega)) (fun _ => hrow) (by omega) (by rw [hw2]; simp; omega)
            have hPJ : PJ xs [s.hp, HC.length + 1] HF (N ++ [w] ++ R') := ⟨hLJ, eF _ _ l0' (by simp; omega), hclF⟩
            rw [er, ← hHF]
            refine ⟨⟨i + 2, N ++ [w], R', HC.length + 1, HF, c + 1⟩, List.range HF.length, ⟨⟨?_, ?_, by show i + 2 + R'.length = s.ps.length; omega, by show (i + 2) % 2 = 0; omega, by show c + 1 + R'.length / 2 = _; omega, by show (N ++ [w]).length + R'.length ≤ _; simp; omega, eF _ _ i6 (by simp; omega), ?_, by show HC.length + 1 ≠ s.hp; omega, hPJ, ?_⟩, by show s.ps.length - (i + 2) < s.ps.length - i; omega⟩, wk_id (by omega) hclF (by simp [slId, get_cons, get_nil, TV.hs, AV.hs, C.hs, RS.slot, zipSlots] <;> omega)⟩
            · show prs (N ++ [w]) ++ rnd xs (prs R') = _
              rw [← i1, prs_app, List.append_assoc]
              show prs N ++ (w.1 :: rnd xs (prs R')) = prs N ++ rnd xs (p.1 :: q.1 :: prs R')
              rw [rnd_two, hw1]
            · show R' = s.ps.drop (i + 2)
              have := congrArg (List.drop 2) i2
              rw [List.drop_drop] at this
              exact this
            · show HF[HC.length + 1]? = _
              rw [hHF, lkn' (by simp)]
            · intro e he
              simp only [List.mem_append, List.mem_singleton] at he
              show e.1.2.length ≤ c + 1
              rcases he with (he | rfl) | he
              · have := i10 e (by simp [he]); omega
              · rw [hw]; simp; omega
              · have := i10 e (by simp [he]); omega
          · --
            have hce : cellE p = cSl p.2 p.1.2.length := by rw [cellE, if_neg hb]
            obtain ⟨hrw, hns⟩ := i9.lj.row p (by simp) hb
            have hrl := getlt hrw
            simp only [List.mem_cons, List.not_mem_nil, or_false, not_or] at hns
            obtain ⟨hnp, hnn⟩ := hns
            have hw0 : p.2 ≠ 0 := fun e => by rw [e, l0'] at hrw; cases hrw
            have hrB : HB[p.2]? = some (oI (vals xs p.1.2)) := eB _ _ hrw (by simp)
            have hbl : (vals xs p.1.2).length = p.1.2.length := vals_len _ _
            have qh : (HB ++ [oI [xs.getD q.1.1 0]])[p.2]? = some (oI (vals xs p.1.2)) := lkp hrB
            have hnB : HB[hn]? = some (rP xs N) := eB _ _ i7 (by simp)
            refine WX_at [p.2, hn] ?_ ?_
            · simp [msOwn, hnB, hrB]
            have qn : (HB ++ [oI [xs.getD q.1.1 0]])[HB.length]? = some (oI [xs.getD q.1.1 0]) := lkn _ _
            obtain ⟨HC, hHC⟩ : ∃ HC, HC = ((HB ++ [oI [xs.getD q.1.1 0]]).set p.2 .dead ++ [oI (vals xs p.1.2 ++ [xs.getD q.1.1 0])]) := ⟨_, rfl⟩
            have f1 : SF [p.2, hn] HB (HB ++ [oI [xs.getD q.1.1 0]]) := (SF.refl _ HB).app _
            have f2 : SF [p.2, hn] HB HC := by rw [hHC]; exact (f1.set _ (by simp)).app _
            have f3 : SF [p.2, hn] HB (HC ++ [bP (xs.getD p.1.1 0) (cSl (HB.length + 1) (p.1.2.length + 1))]) := f2.app _
            have f4 : ∀ r, SF [p.2, hn] HB ((HC ++ [bP (xs.getD p.1.1 0) (cSl (HB.length + 1) (p.1.2.length + 1))]).set hn .dead ++ [r]) := fun r => (f3.set _ (by simp)).app _
            have s1 := f1.same
            have s2 := f2.same
            have s2' := f2.same
            rw [hHC] at s2'
            have s3 := f3.same
            have s4 := fun r => (f4 r).same
            have lC : HC.length = HB.length + 2 := by rw [hHC]; simp
            have hCn : HC[hn]? = some (rP xs N) := by rw [hHC]; exact lkp (lks (lkp hnB) hnn)
            have hC1 : HC[HB.length + 1]? = some (oI (vals xs p.1.2 ++ [xs.getD q.1.1 0])) := by rw [hHC]; exact lkn' (by simp)
            have qN : (HC ++ [bP (xs.getD p.1.1 0) (cSl (HB.length + 1) (p.1.2.length + 1))])[hn]? = some (rP xs N) := lkp hCn
            have qA : (HC ++ [bP (xs.getD p.1.1 0) (cSl (HB.length + 1) (p.1.2.length + 1))])[HC.length]? = some (bP (xs.getD p.1.1 0) (cSl (HB.length + 1) (p.1.2.length + 1))) := lkn _ _
            try simp (dsimp := false) only [gA, gB, hce, qh, hbl, qn, s1, s2', ← hHC, List.length_append, List.length_set, List.length_cons, List.length_nil, List.take_succ_cons, List.take_zero, List.drop_zero, List.all_cons, List.all_nil, cellE_one, Nat.one_mul, Int.toNat_natCast, Int.toNat_zero, go_sem, Nat.reduceAdd, Nat.reduceBEq, Nat.reduceEqDiff, Nat.reduceLT, Nat.reduceLeDiff, reduceCtorEq, ↓reduceIte]
            try simp (dsimp := false) only [gA, gB, hce, qh, hbl, qn, qN, qA, hNo, s1, s2, s2', s3, s4, ← hHC, List.length_append, List.length_set, List.length_cons, List.length_nil, List.take_succ_cons, List.take_zero, List.drop_zero, List.all_cons, List.all_nil, cellE_one, Nat.one_mul, Int.toNat_natCast, Int.toNat_zero, go_sem, Nat.reduceAdd, Nat.reduceBEq, Nat.reduceEqDiff, Nat.reduceLT, Nat.reduceLeDiff, reduceCtorEq, ↓reduceIte]
            have hcn : c ≤ 64 := by omega
            repeat (refine And.intro (by first | exact True.intro | omega | kernel_rfl | (simp only [List.length_set, List.length_append, List.length_take, List.length_replicate, List.length_cons, true_and, and_true, List.length_nil, tabR_length]; omega)) ?_)
            obtain ⟨w, hw⟩ : ∃ w : En, w = ((p.1.1, p.1.2 ++ [q.1.1]), HB.length + 1) := ⟨_, rfl⟩
            have hw1 : w.1 = mch xs p.1 q.1 := by rw [hw, hm]
            have hwi : w.1.1 = p.1.1 := by rw [hw]
            have hw2 : w.2 = HB.length + 1 := by rw [hw]
            have hce2 : cellE w = cSl (HB.length + 1) (p.1.2.length + 1) := by rw [hw, cellE, if_neg (by simp)]; simp
            have er : rcl xs N ++ [.v (.int .i64 (xs.getD p.1.1 0)), cSl (HB.length + 1) (p.1.2.length + 1)] = rcl xs (N ++ [w]) := by rw [rcl_app]; simp [rcl, hce2, hwi]
            obtain ⟨HF, hHF⟩ : ∃ HF, HF = (HC ++ [bP (xs.getD p.1.1 0) (cSl (HB.length + 1) (p.1.2.length + 1))]).set hn .dead ++ [rP xs (N ++ [w])] := ⟨_, rfl⟩
            have eBF : Exc [p.2, hn] HB HF := by rw [hHF, hHC]; exact (((((((Exc.refl [p.2, hn] HB).app _).set _ (by simp)).app _).app _).set _ (by simp)).app _)
            have eF : Exc [p.2, hn] H HF := fun k r h hk => eBF k r (eB k r h (by simp)) hk
            have clC : Cl HC := by rw [hHC]; exact cl_oI (cl_dead (cl_oI clB))
            have hclF : Cl HF := by
              rw [hHF]
              refine cl_rP (cl_dead (cl_app clC fun r hr h hh => ?_)) fun e he hne => ?_
              · simp at hr; subst hr; simp [Row.hs, Dat.hs, C.hs] at hh; simp; omega
              · simp only [List.mem_append, List.mem_singleton] at he
                rw [List.length_set, List.length_append]
                rcases he with he | rfl
                · have := getlt (i9.lj.row e (by simp [he]) hne).1; omega
                · omega
            have lF : HF.length = H.length + 6 := by rw [hHF]; simp [lC, lB]
            have hrow : HF[w.2]? = some (oI (vals xs w.1.2)) := by
              rw [hw2, show vals xs w.1.2 = (vals xs p.1.2 ++ [xs.getD q.1.1 0]) by rw [hw]; simp [vals], hHF]
              exact lkp (lks (lkp hC1) (by omega))
            have hLJ := i9.lj.step (S' := [s.hp, HC.length + 1]) (w := w) eF (fun x hx => by
              simp only [List.mem_cons, List.not_mem_nil, or_false] at hx
              rcases hx with rfl | rfl
              · exact .inr (.inl ⟨rfl, hb⟩)
              · exact .inl (by simp)) (fun x hx => by
              simp only [List.mem_cons, List.not_mem_nil, or_false] at hx
              rcases hx with rfl | rfl
              · exact .inl (by simp)
              · exact .inr (by omega)) (fun _ => hrow) (by omega) (by rw [hw2]; simp; omega)
            have hPJ : PJ xs [s.hp, HC.length + 1] HF (N ++ [w] ++ R') := ⟨hLJ, eF _ _ l0' (by simp; omega), hclF⟩
            rw [er, ← hHF]
            refine ⟨⟨i + 2, N ++ [w], R', HC.length + 1, HF, c + 1⟩, List.range HF.length, ⟨⟨?_, ?_, by show i + 2 + R'.length = s.ps.length; omega, by show (i + 2) % 2 = 0; omega, by show c + 1 + R'.length / 2 = _; omega, by show (N ++ [w]).length + R'.length ≤ _; simp; omega, eF _ _ i6 (by simp; omega), ?_, by show HC.length + 1 ≠ s.hp; omega, hPJ, ?_⟩, by show s.ps.length - (i + 2) < s.ps.length - i; omega⟩, wk_id (by omega) hclF (by simp [slId, get_cons, get_nil, TV.hs, AV.hs, C.hs, RS.slot, zipSlots] <;> omega)⟩
            · show prs (N ++ [w]) ++ rnd xs (prs R') = _
              rw [← i1, prs_app, List.append_assoc]
              show prs N ++ (w.1 :: rnd xs (prs R')) = prs N ++ rnd xs (p.1 :: q.1 :: prs R')
              rw [rnd_two, hw1]
            · show R' = s.ps.drop (i + 2)
              have := congrArg (List.drop 2) i2
              rw [List.drop_drop] at this
              exact this
            · show HF[HC.length + 1]? = _
              rw [hHF, lkn' (by simp)]
            · intro e he
              simp only [List.mem_append, List.mem_singleton] at he
              show e.1.2.length ≤ c + 1
              rcases he with (he | rfl) | he
              · have := i10 e (by simp [he]); omega
              · rw [hw]; simp; omega
              · have := i10 e (by simp [he]); omega
      · --
        have y1 : SF [] H (H ++ [bP 0 (.v (.slice none 0 0))]) := (SF.refl _ H).app _
        have y2 : SF [] H ((H ++ [bP 0 (.v (.slice none 0 0))]) ++ [bP 0 (.v (.slice none 0 0))]) := y1.app _
        have y3 : ∀ r, SF [] H (((H ++ [bP 0 (.v (.slice none 0 0))]) ++ [bP 0 (.v (.slice none 0 0))]).set (H.length + 1) r) := fun r => y2.set _ (.inr (by omega))
        have y4 : ∀ r r', SF [] H ((((H ++ [bP 0 (.v (.slice none 0 0))]) ++ [bP 0 (.v (.slice none 0 0))]).set (H.length + 1) r).set H.length r') := fun r r' => (y3 r).set _ (.inr (by omega))
        have y1' := y1.same
        have y2' := y2.same
        have y3' := fun r => (y3 r).same
        have y4' := fun r r' => (y4 r r').same
        have qa : ((H ++ [bP 0 (.v (.slice none 0 0))]) ++ [bP 0 (.v (.slice none 0 0))])[(H.length + 1)]? = some (bP 0 (.v (.slice none 0 0))) := lkn' (by simp)
        have qb : ∀ r, (((H ++ [bP 0 (.v (.slice none 0 0))]) ++ [bP 0 (.v (.slice none 0 0))]).set (H.length + 1) r)[H.length]? = some (bP 0 (.v (.slice none 0 0))) := fun r => lks (lkp (lkn _ _)) (by omega)
        simp (dsimp := false) only [y1', y2', y3', y4', qa, qb, List.length_append, List.length_set, List.length_cons, List.length_nil, List.take_succ_cons, List.take_zero, List.drop_zero, List.all_cons, List.all_nil, cellE_one, Nat.one_mul, Int.toNat_natCast, Int.toNat_zero, go_sem, Nat.reduceAdd, Nat.reduceBEq, Nat.reduceEqDiff, Nat.reduceLT, Nat.reduceLeDiff, reduceCtorEq, ↓reduceIte]
        obtain ⟨H2, hH2⟩ : ∃ H2, H2 = (((H ++ [bP 0 (.v (.slice none 0 0))]) ++ [bP 0 (.v (.slice none 0 0))]).set (H.length + 1) (bP (xs.getD p.1.1 0) (cellE p))).set H.length (bP (xs.getD q.1.1 0) (cellE q)) := ⟨_, rfl⟩
        have l2 : H2.length = H.length + 2 := by rw [hH2]; simp
        have gA2 : H2[(H.length + 1)]? = some (bP (xs.getD p.1.1 0) (cellE p)) := by rw [hH2]; exact lks (lkset (by simp)) (by omega)
        have gB2 : H2[H.length]? = some (bP (xs.getD q.1.1 0) (cellE q)) := by rw [hH2]; exact lkset (by simp)
        have eB2 : Exc [] H H2 := by rw [hH2]; exact ((((Exc.refl [] H).app _).app _).new (by omega) _).new (by omega) _
        have hcl2 : Cl H2 := by
          rw [hH2]
          refine cl_set (cl_set (cl_app (cl_app hcl ?_) ?_) ?_) ?_
          · intro r hr h hh; simp at hr; subst hr; simp [Row.hs, Dat.hs, C.hs] at hh
          · intro r hr h hh; simp at hr; subst hr; simp [Row.hs, Dat.hs, C.hs] at hh
          · intro h hh; have := bP_hs i9.lj p (by simp) _ h hh; simp; omega
          · intro h hh; have := bP_hs i9.lj q (by simp) _ h hh; simp; omega
        simp only [← hH2]
        clear hH2
        repeat (refine And.intro (by first | exact True.intro | omega | kernel_rfl | (simp only [List.length_set, List.length_append, List.length_take, List.length_replicate, List.length_cons, true_and, and_true, List.length_nil, tabR_length]; omega)) ?_)
        by_cases hlt : xs.getD q.1.1 0 < xs.getD p.1.1 0
        · have dlt : decide (xs.getD q.1.1 0 < xs.getD p.1.1 0) = true := decide_eq_true hlt
          have hm : mch xs p.1 q.1 = (q.1.1, q.1.2 ++ [p.1.1]) := by rw [mch, if_pos hlt]
          have q3 : (H2.set (H.length + 1) (bP (xs.getD q.1.1 0) (cellE q)))[H.length]? = some (bP (xs.getD q.1.1 0) (cellE q)) := lks gB2 (by omega)
          obtain ⟨HB, hHB⟩ : ∃ HB, HB = (H2.set (H.length + 1) (bP (xs.getD q.1.1 0) (cellE q))).set H.length (bP (xs.getD p.1.1 0) (cellE p)) := ⟨_, rfl⟩
          have lB : HB.length = H.length + 2 := by rw [hHB]; simp [l2]
          have gA : HB[(H.length + 1)]? = some (bP (xs.getD q.1.1 0) (cellE q)) := by rw [hHB]; exact lks (lkset (by omega)) (by omega)
          have gB : HB[H.length]? = some (bP (xs.getD p.1.1 0) (cellE p)) := by rw [hHB]; exact lkset (by rw [List.length_set]; omega)
          have eB : Exc [] H HB := by rw [hHB]; exact (eB2.new (by omega) _).new (by omega) _
          have clB : Cl HB := by
            rw [hHB]
            refine cl_set (cl_set hcl2 ?_) ?_
            · intro h hh; have := bP_hs i9.lj q (by simp) _ h hh; omega
            · intro h hh; have := bP_hs i9.lj p (by simp) _ h hh; rw [List.length_set]; omega
          simp (dsimp := false) only [gA2, gB2, q3, dlt, List.length_append, List.length_set, List.length_cons, List.length_nil, List.take_succ_cons, List.take_zero, List.drop_zero, List.all_cons, List.all_nil, cellE_one, Nat.one_mul, Int.toNat_natCast, Int.toNat_zero, go_sem, Nat.reduceAdd, Nat.reduceBEq, Nat.reduceEqDiff, Nat.reduceLT, Nat.reduceLeDiff, reduceCtorEq, ↓reduceIte]
          simp only [← hHB]
          clear hHB
          by_cases hb : q.1.2 = []
          · --
            have hce : cellE q = .v (.slice none 0 0) := by rw [cellE, if_pos hb]
            have hnB : HB[hn]? = some (rP xs N) := eB _ _ i7 (by simp)
            refine WX_at [hn] ?_ ?_
            · simp [msOwn, hnB]
            have qn : (HB ++ [oI [xs.getD p.1.1 0]])[HB.length]? = some (oI [xs.getD p.1.1 0]) := lkn _ _
            obtain ⟨HC, hHC⟩ : ∃ HC, HC = ((HB ++ [oI [xs.getD p.1.1 0]]) ++ [oI [xs.getD p.1.1 0]]) := ⟨_, rfl⟩
            have f1 : SF [hn] HB (HB ++ [oI [xs.getD p.1.1 0]]) := (SF.refl _ HB).app _
            have f2 : SF [hn] HB HC := by rw [hHC]; exact f1.app _
            have f3 : SF [hn] HB (HC ++ [bP (xs.getD q.1.1 0) (cSl (HB.length + 1) 1)]) := f2.app _
            have f4 : ∀ r, SF [hn] HB ((HC ++ [bP (xs.getD q.1.1 0) (cSl (HB.length + 1) 1)]).set hn .dead ++ [r]) := fun r => (f3.set _ (by simp)).app _
            have s1 := f1.same
            have s2 := f2.same
            have s2' := f2.same
            rw [hHC] at s2'
            have s3 := f3.same
            have s4 := fun r => (f4 r).same
            have lC : HC.length = HB.length + 2 := by rw [hHC]; simp
            have hCn : HC[hn]? = some (rP xs N) := by rw [hHC]; exact lkp (lkp hnB)
            have hC1 : HC[HB.length + 1]? = some (oI [xs.getD p.1.1 0]) := by rw [hHC]; exact lkn' (by simp)
            have qN : (HC ++ [bP (xs.getD q.1.1 0) (cSl (HB.length + 1) 1)])[hn]? = some (rP xs N) := lkp hCn
            have qA : (HC ++ [bP (xs.getD q.1.1 0) (cSl (HB.length + 1) 1)])[HC.length]? = some (bP (xs.getD q.1.1 0) (cSl (HB.length + 1) 1)) := lkn _ _
            try simp (dsimp := false) only [gA, gB, hce, qn, s1, s2', ← hHC, List.length_append, List.length_set, List.length_cons, List.length_nil, List.take_succ_cons, List.take_zero, List.drop_zero, List.all_cons, List.all_nil, cellE_one, Nat.one_mul, Int.toNat_natCast, Int.toNat_zero, go_sem, Nat.reduceAdd, Nat.reduceBEq, Nat.reduceEqDiff, Nat.reduceLT, Nat.reduceLeDiff, reduceCtorEq, ↓reduceIte]
            try simp (dsimp := false) only [gA, gB, hce, qn, qN, qA, hNo, s1, s2, s2', s3, s4, ← hHC, List.length_append, List.length_set, List.length_cons, List.length_nil, List.take_succ_cons, List.take_zero, List.drop_zero, List.all_cons, List.all_nil, cellE_one, Nat.one_mul, Int.toNat_natCast, Int.toNat_zero, go_sem, Nat.reduceAdd, Nat.reduceBEq, Nat.reduceEqDiff, Nat.reduceLT, Nat.reduceLeDiff, reduceCtorEq, ↓reduceIte]
            have hcn : c ≤ 64 := by omega
            repeat (refine And.intro (by first | exact True.intro | omega | kernel_rfl | (simp only [List.length_set, List.length_append, List.length_take, List.length_replicate, List.length_cons, true_and, and_true, List.length_nil, tabR_length]; omega)) ?_)
            obtain ⟨w, hw⟩ : ∃ w : En, w = ((q.1.1, q.1.2 ++ [p.1.1]), HB.length + 1) := ⟨_, rfl⟩
            have hw1 : w.1 = mch xs p.1 q.1 := by rw [hw, hm]
            have hwi : w.1.1 = q.1.1 := by rw [hw]
            have hw2 : w.2 = HB.length + 1 := by rw [hw]
            have hce2 : cellE w = cSl (HB.length + 1) 1 := by rw [hw, cellE, if_neg (by simp)]; simp [hb]
            have er : rcl xs N ++ [.v (.int .i64 (xs.getD q.1.1 0)), cSl (HB.length + 1) 1] = rcl xs (N ++ [w]) := by rw [rcl_app]; simp [rcl, hce2, hwi]
            obtain ⟨HF, hHF⟩ : ∃ HF, HF = (HC ++ [bP (xs.getD q.1.1 0) (cSl (HB.length + 1) 1)]).set hn .dead ++ [rP xs (N ++ [w])] := ⟨_, rfl⟩
            have eBF : Exc [hn] HB HF := by rw [hHF, hHC]; exact ((((((Exc.refl [hn] HB).app _).app _).app _).set _ (by simp)).app _)
            have eF : Exc [hn] H HF := fun k r h hk => eBF k r (eB k r h (by simp)) hk
            have clC : Cl HC := by rw [hHC]; exact cl_oI (cl_oI clB)
            have hclF : Cl HF := by
              rw [hHF]
              refine cl_rP (cl_dead (cl_app clC fun r hr h hh => ?_)) fun e he hne => ?_
              · simp at hr; subst hr; simp [Row.hs, Dat.hs, C.hs] at hh; simp; omega
              · simp only [List.mem_append, List.mem_singleton] at he
                rw [List.length_set, List.length_append]
                rcases he with he | rfl
                · have := getlt (i9.lj.row e (by simp [he]) hne).1; omega
                · omega
            have lF : HF.length = H.length + 6 := by rw [hHF]; simp [lC, lB]
            have hrow : HF[w.2]? = some (oI (vals xs w.1.2)) := by
              rw [hw2, show vals xs w.1.2 = [xs.getD p.1.1 0] by rw [hw]; simp [vals, hb], hHF]
              exact lkp (lks (lkp hC1) (by omega))
            have hLJ := i9.lj.step (S' := [s.hp, HC.length + 1]) (w := w) eF (fun x hx => by
              simp only [List.mem_cons, List.not_mem_nil, or_false] at hx
              rcases hx with rfl
              exact .inl (by simp)) (fun x hx => by
              simp only [List.mem_cons, List.not_mem_nil, or_false] at hx
              rcases hx with rfl | rfl
              · exact .inl (by simp)
              · exact .inr (by omega)) (fun _ => hrow) (by omega) (by rw [hw2]; simp; omega)
            have hPJ : PJ xs [s.hp, HC.length + 1] HF (N ++ [w] ++ R') := ⟨hLJ, eF _ _ l0' (by simp; omega), hclF⟩
            rw [er, ← hHF]
            refine ⟨⟨i + 2, N ++ [w], R', HC.length + 1, HF, c + 1⟩, List.range HF.length, ⟨⟨?_, ?_, by show i + 2 + R'.length = s.ps.length; omega, by show (i + 2) % 2 = 0; omega, by show c + 1 + R'.length / 2 = _; omega, by show (N ++ [w]).length + R'.length ≤ _; simp; omega, eF _ _ i6 (by simp; omega), ?_, by show HC.length + 1 ≠ s.hp; omega, hPJ, ?_⟩, by show s.ps.length - (i + 2) < s.ps.length - i; omega⟩, wk_id (by omega) hclF (by simp [slId, get_cons, get_nil, TV.hs, AV.hs, C.hs, RS.slot, zipSlots] <;> omega)⟩
            · show prs (N ++ [w]) ++ rnd xs (prs R') = _
              rw [← i1, prs_app, List.append_assoc]
              show prs N ++ (w.1 :: rnd xs (prs R')) = prs N ++ rnd xs (p.1 :: q.1 :: prs R')
              rw [rnd_two, hw1]
            · show R' = s.ps.drop (i + 2)
              have := congrArg (List.drop 2) i2
              rw [List.drop_drop] at this
              exact this
            · show HF[HC.length + 1]? = _
              rw [hHF, lkn' (by simp)]
            · intro e he
              simp only [List.mem_append, List.mem_singleton] at he
              show e.1.2.length ≤ c + 1
              rcases he with (he | rfl) | he
              · have := i10 e (by simp [he]); omega
              · rw [hw]; simp; omega
              · have := i10 e (by simp [he]); omega
          · --
            have hce : cellE q = cSl q.2 q.1.2.length := by rw [cellE, if_neg hb]
            obtain ⟨hrw, hns⟩ := i9.lj.row q (by simp) hb
            have hrl := getlt hrw
            simp only [List.mem_cons, List.not_mem_nil, or_false, not_or] at hns
            obtain ⟨hnp, hnn⟩ := hns
            have hw0 : q.2 ≠ 0 := fun e => by rw [e, l0'] at hrw; cases hrw
            have hrB : HB[q.2]? = some (oI (vals xs q.1.2)) := eB _ _ hrw (by simp)
            have hbl : (vals xs q.1.2).length = q.1.2.length := vals_len _ _
            have qh : (HB ++ [oI [xs.getD p.1.1 0]])[q.2]? = some (oI (vals xs q.1.2)) := lkp hrB
            have hnB : HB[hn]? = some (rP xs N) := eB _ _ i7 (by simp)
            refine WX_at [q.2, hn] ?_ ?_
            · simp [msOwn, hnB, hrB]
            have qn : (HB ++ [oI [xs.getD p.1.1 0]])[HB.length]? = some (oI [xs.getD p.1.1 0]) := lkn _ _
            obtain ⟨HC, hHC⟩ : ∃ HC, HC = ((HB ++ [oI [xs.getD p.1.1 0]]).set q.2 .dead ++ [oI (vals xs q.1.2 ++ [xs.getD p.1.1 0])]) := ⟨_, rfl⟩
            have f1 : SF [q.2, hn] HB (HB ++ [oI [xs.getD p.1.1 0]]) := (SF.refl _ HB).app _
            have f2 : SF [q.2, hn] HB HC := by rw [hHC]; exact (f1.set _ (by simp)).app _
            have f3 : SF [q.2, hn] HB (HC ++ [bP (xs.getD q.1.1 0) (cSl (HB.length + 1) (q.1.2.length + 1))]) := f2.app _
            have f4 : ∀ r, SF [q.2, hn] HB ((HC ++ [bP (xs.getD q.1.1 0) (cSl (HB.length + 1) (q.1.2.length + 1))]).set hn .dead ++ [r]) := fun r => (f3.set _ (by simp)).app _
            have s1 := f1.same
            have s2 := f2.same
            have s2' := f2.same
            rw [hHC] at s2'
            have s3 := f3.same
            have s4 := fun r => (f4 r).same
            have lC : HC.length = HB.length + 2 := by rw [hHC]; simp
            have hCn : HC[hn]? = some (rP xs N) := by rw [hHC]; exact lkp (lks (lkp hnB) hnn)
            have hC1 : HC[HB.length + 1]? = some (oI (vals xs q.1.2 ++ [xs.getD p.1.1 0])) := by rw [hHC]; exact lkn' (by simp)
            have qN : (HC ++ [bP (xs.getD q.1.1 0) (cSl (HB.length + 1) (q.1.2.length + 1))])[hn]? = some (rP xs N) := lkp hCn
            have qA : (HC ++ [bP (xs.getD q.1.1 0) (cSl (HB.length + 1) (q.1.2.length + 1))])[HC.length]? = some (bP (xs.getD q.1.1 0) (cSl (HB.length + 1) (q.1.2.length + 1))) := lkn _ _
            try simp (dsimp := false) only [gA, gB, hce, qh, hbl, qn, s1, s2', ← hHC, List.length_append, List.length_set, List.length_cons, List.length_nil, List.take_succ_cons, List.take_zero, List.drop_zero, List.all_cons, List.all_nil, cellE_one, Nat.one_mul, Int.toNat_natCast, Int.toNat_zero, go_sem, Nat.reduceAdd, Nat.reduceBEq, Nat.reduceEqDiff, Nat.reduceLT, Nat.reduceLeDiff, reduceCtorEq, ↓reduceIte]
            try simp (dsimp := false) only [gA, gB, hce, qh, hbl, qn, qN, qA, hNo, s1, s2, s2', s3, s4, ← hHC, List.length_append, List.length_set, List.length_cons, List.length_nil, List.take_succ_cons, List.take_zero, List.drop_zero, List.all_cons, List.all_nil, cellE_one, Nat.one_mul, Int.toNat_natCast, Int.toNat_zero, go_sem, Nat.reduceAdd, Nat.reduceBEq, Nat.reduceEqDiff, Nat.reduceLT, Nat.reduceLeDiff, reduceCtorEq, ↓reduceIte]
            have hcn : c ≤ 64 := by omega
            repeat (refine And.intro (by first | exact True.intro | omega | kernel_rfl | (simp only [List.length_set, List.length_append, List.length_take, List.length_replicate, List.length_cons, true_and, and_true, List.length_nil, tabR_length]; omega)) ?_)
            obtain ⟨w, hw⟩ : ∃ w : En, w = ((q.1.1, q.1.2 ++ [p.1.1]), HB.length + 1) := ⟨_, rfl⟩
            have hw1 : w.1 = mch xs p.1 q.1 := by rw [hw, hm]
            have hwi : w.1.1 = q.1.1 := by rw [hw]
            have hw2 : w.2 = HB.length + 1 := by rw [hw]
            have hce2 : cellE w = cSl (HB.length + 1) (q.1.2.length + 1) := by rw [hw, cellE, if_neg (by simp)]; simp
            have er : rcl xs N ++ [.v (.int .i64 (xs.getD q.1.1 0)), cSl (HB.length + 1) (q.1.2.length + 1)] = rcl xs (N ++ [w]) := by rw [rcl_app]; simp [rcl, hce2, hwi]
            obtain ⟨HF, hHF⟩ : ∃ HF, HF = (HC ++ [bP (xs.getD q.1.1 0) (cSl (HB.length + 1) (q.1.2.length + 1))]).set hn .dead ++ [rP xs (N ++ [w])] := ⟨_, rfl⟩
            have eBF : Exc [q.2, hn] HB HF := by rw [hHF, hHC]; exact (((((((Exc.refl [q.2, hn] HB).app _).set _ (by simp)).app _).app _).set _ (by simp)).app _)
            have eF : Exc [q.2, hn] H HF := fun k r h hk => eBF k r (eB k r h (by simp)) hk
            have clC : Cl HC := by rw [hHC]; exact cl_oI (cl_dead (cl_oI clB))
            have hclF : Cl HF := by
              rw [hHF]
              refine cl_rP (cl_dead (cl_app clC fun r hr h hh => ?_)) fun e he hne => ?_
              · simp at hr; subst hr; simp [Row.hs, Dat.hs, C.hs] at hh; simp; omega
              · simp only [List.mem_append, List.mem_singleton] at he
                rw [List.length_set, List.length_append]
                rcases he with he | rfl
                · have := getlt (i9.lj.row e (by simp [he]) hne).1; omega
                · omega
            have lF : HF.length = H.length + 6 := by rw [hHF]; simp [lC, lB]
            have hrow : HF[w.2]? = some (oI (vals xs w.1.2)) := by
              rw [hw2, show vals xs w.1.2 = (vals xs q.1.2 ++ [xs.getD p.1.1 0]) by rw [hw]; simp [vals], hHF]
              exact lkp (lks (lkp hC1) (by omega))
            have hLJ := i9.lj.step (S' := [s.hp, HC.length + 1]) (w := w) eF (fun x hx => by
              simp only [List.mem_cons, List.not_mem_nil, or_false] at hx
              rcases hx with rfl | rfl
              · exact .inr (.inr ⟨rfl, hb⟩)
              · exact .inl (by simp)) (fun x hx => by
              simp only [List.mem_cons, List.not_mem_nil, or_false] at hx
              rcases hx with rfl | rfl
              · exact .inl (by simp)
              · exact .inr (by omega)) (fun _ => hrow) (by omega) (by rw [hw2]; simp; omega)
            have hPJ : PJ xs [s.hp, HC.length + 1] HF (N ++ [w] ++ R') := ⟨hLJ, eF _ _ l0' (by simp; omega), hclF⟩
            rw [er, ← hHF]
            refine ⟨⟨i + 2, N ++ [w], R', HC.length + 1, HF, c + 1⟩, List.range HF.length, ⟨⟨?_, ?_, by show i + 2 + R'.length = s.ps.length; omega, by show (i + 2) % 2 = 0; omega, by show c + 1 + R'.length / 2 = _; omega, by show (N ++ [w]).length + R'.length ≤ _; simp; omega, eF _ _ i6 (by simp; omega), ?_, by show HC.length + 1 ≠ s.hp; omega, hPJ, ?_⟩, by show s.ps.length - (i + 2) < s.ps.length - i; omega⟩, wk_id (by omega) hclF (by simp [slId, get_cons, get_nil, TV.hs, AV.hs, C.hs, RS.slot, zipSlots] <;> omega)⟩
            · show prs (N ++ [w]) ++ rnd xs (prs R') = _
              rw [← i1, prs_app, List.append_assoc]
              show prs N ++ (w.1 :: rnd xs (prs R')) = prs N ++ rnd xs (p.1 :: q.1 :: prs R')
              rw [rnd_two, hw1]
            · show R' = s.ps.drop (i + 2)
              have := congrArg (List.drop 2) i2
              rw [List.drop_drop] at this
              exact this
            · show HF[HC.length + 1]? = _
              rw [hHF, lkn' (by simp)]
            · intro e he
              simp only [List.mem_append, List.mem_singleton] at he
              show e.1.2.length ≤ c + 1
              rcases he with (he | rfl) | he
              · have := i10 e (by simp [he]); omega
              · rw [hw]; simp; omega
              · have := i10 e (by simp [he]); omega
        · have dlt : decide (xs.getD q.1.1 0 < xs.getD p.1.1 0) = false := decide_eq_false hlt
          have hm : mch xs p.1 q.1 = (p.1.1, p.1.2 ++ [q.1.1]) := by rw [mch, if_neg hlt]
          obtain ⟨HB, hHB⟩ : ∃ HB, HB = H2 := ⟨_, rfl⟩
          rw [← hHB] at gA2 gB2 eB2 hcl2 l2
          have lB := l2
          have gA := gA2
          have gB := gB2
          have eB := eB2
          have clB := hcl2
          simp (dsimp := false) only [gA2, gB2, dlt, ← hHB, List.length_append, List.length_set, List.length_cons, List.length_nil, List.take_succ_cons, List.take_zero, List.drop_zero, List.all_cons, List.all_nil, cellE_one, Nat.one_mul, Int.toNat_natCast, Int.toNat_zero, go_sem, Nat.reduceAdd, Nat.reduceBEq, Nat.reduceEqDiff, Nat.reduceLT, Nat.reduceLeDiff, reduceCtorEq, ↓reduceIte]
          clear hHB
          by_cases hb : p.1.2 = []
          · --
            have hce : cellE p = .v (.slice none 0 0) := by rw [cellE, if_pos hb]
            have hnB : HB[hn]? = some (rP xs N) := eB _ _ i7 (by simp)
            refine WX_at [hn] ?_ ?_
            · simp [msOwn, hnB]
            have qn : (HB ++ [oI [xs.getD q.1.1 0]])[HB.length]? = some (oI [xs.getD q.1.1 0]) := lkn _ _
            obtain ⟨HC, hHC⟩ : ∃ HC, HC = ((HB ++ [oI [xs.getD q.1.1 0]]) ++ [oI [xs.getD q.1.1 0]]) := ⟨_, rfl⟩
            have f1 : SF [hn] HB (HB ++ [oI [xs.getD q.1.1 0]]) := (SF.refl _ HB).app _
            have f2 : SF [hn] HB HC := by rw [hHC]; exact f1.app _
            have f3 : SF [hn] HB (HC ++ [bP (xs.getD p.1.1 0) (cSl (HB.length + 1) 1)]) := f2.app _
            have f4 : ∀ r, SF [hn] HB ((HC ++ [bP (xs.getD p.1.1 0) (cSl (HB.length + 1) 1)]).set hn .dead ++ [r]) := fun r => (f3.set _ (by simp)).app _
            have s1 := f1.same
            have s2 := f2.same
            have s2' := f2.same
            rw [hHC] at s2'
            have s3 := f3.same
            have s4 := fun r => (f4 r).same
            have lC : HC.length = HB.length + 2 := by rw [hHC]; simp
            have hCn : HC[hn]? = some (rP xs N) := by rw [hHC]; exact lkp (lkp hnB)
            have hC1 : HC[HB.length + 1]? = some (oI [xs.getD q.1.1 0]) := by rw [hHC]; exact lkn' (by simp)
            have qN : (HC ++ [bP (xs.getD p.1.1 0) (cSl (HB.length + 1) 1)])[hn]? = some (rP xs N) := lkp hCn
            have qA : (HC ++ [bP (xs.getD p.1.1 0) (cSl (HB.length + 1) 1)])[HC.length]? = some (bP (xs.getD p.1.1 0) (cSl (HB.length + 1) 1)) := lkn _ _
            try simp (dsimp := false) only [gA, gB, hce, qn, s1, s2', ← hHC, List.length_append, List.length_set, List.length_cons, List.length_nil, List.take_succ_cons, List.take_zero, List.drop_zero, List.all_cons, List.all_nil, cellE_one, Nat.one_mul, Int.toNat_natCast, Int.toNat_zero, go_sem, Nat.reduceAdd, Nat.reduceBEq, Nat.reduceEqDiff, Nat.reduceLT, Nat.reduceLeDiff, reduceCtorEq, ↓reduceIte]
            try simp (dsimp := false) only [gA, gB, hce, qn, qN, qA, hNo, s1, s2, s2', s3, s4, ← hHC, List.length_append, List.length_set, List.length_cons, List.length_nil, List.take_succ_cons, List.take_zero, List.drop_zero, List.all_cons, List.all_nil, cellE_one, Nat.one_mul, Int.toNat_natCast, Int.toNat_zero, go_sem, Nat.reduceAdd, Nat.reduceBEq, Nat.reduceEqDiff, Nat.reduceLT, Nat.reduceLeDiff, reduceCtorEq, ↓reduceIte]
            have hcn : c ≤ 64 := by omega
            repeat (refine And.intro (by first | exact True.intro | omega | kernel_rfl | (simp only [List.length_set, List.length_append, List.length_take, List.length_replicate, List.length_cons, true_and, and_true, List.length_nil, tabR_length]; omega)) ?_)
            obtain ⟨w, hw⟩ : ∃ w : En, w = ((p.1.1, p.1.2 ++ [q.1.1]), HB.length + 1) := ⟨_, rfl⟩
            have hw1 : w.1 = mch xs p.1 q.1 := by rw [hw, hm]
            have hwi : w.1.1 = p.1.1 := by rw [hw]
            have hw2 : w.2 = HB.length + 1 := by rw [hw]
            have hce2 : cellE w = cSl (HB.length + 1) 1 := by rw [hw, cellE, if_neg (by simp)]; simp [hb]
            have er : rcl xs N ++ [.v (.int .i64 (xs.getD p.1.1 0)), cSl (HB.length + 1) 1] = rcl xs (N ++ [w]) := by rw [rcl_app]; simp [rcl, hce2, hwi]
            obtain ⟨HF, hHF⟩ : ∃ HF, HF = (HC ++ [bP (xs.getD p.1.1 0) (cSl (HB.length + 1) 1)]).set hn .dead ++ [rP xs (N ++ [w])] := ⟨_, rfl⟩
            have eBF : Exc [hn] HB HF := by rw [hHF, hHC]; exact ((((((Exc.refl [hn] HB).app _).app _).app _).set _ (by simp)).app _)
            have eF : Exc [hn] H HF := fun k r h hk => eBF k r (eB k r h (by simp)) hk
            have clC : Cl HC := by rw [hHC]; exact cl_oI (cl_oI clB)
            have hclF : Cl HF := by
              rw [hHF]
              refine cl_rP (cl_dead (cl_app clC fun r hr h hh => ?_)) fun e he hne => ?_
              · simp at hr; subst hr; simp [Row.hs, Dat.hs, C.hs] at hh; simp; omega
              · simp only [List.mem_append, List.mem_singleton] at he
                rw [List.length_set, List.length_append]
                rcases he with he | rfl
                · have := getlt (i9.lj.row e (by simp [he]) hne).1; omega
                · omega
            have lF : HF.length = H.length + 6 := by rw [hHF]; simp [lC, lB]
            have hrow : HF[w.2]? = some (oI (vals xs w.1.2)) := by
              rw [hw2, show vals xs w.1.2 = [xs.getD q.1.1 0] by rw [hw]; simp [vals, hb], hHF]
              exact lkp (lks (lkp hC1) (by omega))
            have hLJ := i9.lj.step (S' := [s.hp, HC.length + 1]) (w := w) eF (fun x hx => by
              simp only [List.mem_cons, List.not_mem_nil, or_false] at hx
              rcases hx with rfl
              exact .inl (by simp)) (fun x hx => by
              simp only [List.mem_cons, List.not_mem_nil, or_false] at hx
              rcases hx with rfl | rfl
              · exact .inl (by simp)
              · exact .inr (by omega)) (fun _ => hrow) (by omega) (by rw [hw2]; simp; omega)
            have hPJ : PJ xs [s.hp, HC.length + 1] HF (N ++ [w] ++ R') := ⟨hLJ, eF _ _ l0' (by simp; omega), hclF⟩
            rw [er, ← hHF]
            refine ⟨⟨i + 2, N ++ [w], R', HC.length + 1, HF, c + 1⟩, List.range HF.length, ⟨⟨?_, ?_, by show i + 2 + R'.length = s.ps.length; omega, by show (i + 2) % 2 = 0; omega, by show c + 1 + R'.length / 2 = _; omega, by show (N ++ [w]).length + R'.length ≤ _; simp; omega, eF _ _ i6 (by simp; omega), ?_, by show HC.length + 1 ≠ s.hp; omega, hPJ, ?_⟩, by show s.ps.length - (i + 2) < s.ps.length - i; omega⟩, wk_id (by omega) hclF (by simp [slId, get_cons, get_nil, TV.hs, AV.hs, C.hs, RS.slot, zipSlots] <;> omega)⟩
            · show prs (N ++ [w]) ++ rnd xs (prs R') = _
              rw [← i1, prs_app, List.append_assoc]
              show prs N ++ (w.1 :: rnd xs (prs R')) = prs N ++ rnd xs (p.1 :: q.1 :: prs R')
              rw [rnd_two, hw1]
            · show R' = s.ps.drop (i + 2)
              have := congrArg (List.drop 2) i2
              rw [List.drop_drop] at this
              exact this
            · show HF[HC.length + 1]? = _
              rw [hHF, lkn' (by simp)]
            · intro e he
              simp only [List.mem_append, List.mem_singleton] at he
              show e.1.2.length ≤ c + 1
              rcases he with (he | rfl) | he
              · have := i10 e (by simp [he]); omega
              · rw [hw]; simp; omega
              · have := i10 e (by simp [he]); omega
          · --
            have hce : cellE p = cSl p.2 p.1.2.length := by rw [cellE, if_neg hb]
            obtain ⟨hrw, hns⟩ := i9.lj.row p (by simp) hb
            have hrl := getlt hrw
            simp only [List.mem_cons, List.not_mem_nil, or_false, not_or] at hns
            obtain ⟨hnp, hnn⟩ := hns
            have hw0 : p.2 ≠ 0 := fun e => by rw [e, l0'] at hrw; cases hrw
            have hrB : HB[p.2]? = some (oI (vals xs p.1.2)) := eB _ _ hrw (by simp)
            have hbl : (vals xs p.1.2).length = p.1.2.length := vals_len _ _
            have qh : (HB ++ [oI [xs.getD q.1.1 0]])[p.2]? = some (oI (vals xs p.1.2)) := lkp hrB
            have hnB : HB[hn]? = some (rP xs N) := eB _ _ i7 (by simp)
            refine WX_at [p.2, hn] ?_ ?_
            · simp [msOwn, hnB, hrB]
            have qn : (HB ++ [oI [xs.getD q.1.1 0]])[HB.length]? = some (oI [xs.getD q.1.1 0]) := lkn _ _
            obtain ⟨HC, hHC⟩ : ∃ HC, HC = ((HB ++ [oI [xs.getD q.1.1 0]]).set p.2 .dead ++ [oI (vals xs p.1.2 ++ [xs.getD q.1.1 0])]) := ⟨_, rfl⟩
            have f1 : SF [p.2, hn] HB (HB ++ [oI [xs.getD q.1.1 0]]) := (SF.refl _ HB).app _
            have f2 : SF [p.2, hn] HB HC := by rw [hHC]; exact (f1.set _ (by simp)).app _
            have f3 : SF [p.2, hn] HB (HC ++ [bP (xs.getD p.1.1 0) (cSl (HB.length + 1) (p.1.2.length + 1))]) := f2.app _
            have f4 : ∀ r, SF [p.2, hn] HB ((HC ++ [bP (xs.getD p.1.1 0) (cSl (HB.length + 1) (p.1.2.length + 1))]).set hn .dead ++ [r]) := fun r => (f3.set _ (by simp)).app _
            have s1 := f1.same
            have s2 := f2.same
            have s2' := f2.same
            rw [hHC] at s2'
            have s3 := f3.same
            have s4 := fun r => (f4 r).same
            have lC : HC.length = HB.length + 2 := by rw [hHC]; simp
            have hCn : HC[hn]? = some (rP xs N) := by rw [hHC]; exact lkp (lks (lkp hnB) hnn)
            have hC1 : HC[HB.length + 1]? = some (oI (vals xs p.1.2 ++ [xs.getD q.1.1 0])) := by rw [hHC]; exact lkn' (by simp)
            have qN : (HC ++ [bP (xs.getD p.1.1 0) (cSl (HB.length + 1) (p.1.2.length + 1))])[hn]? = some (rP xs N) := lkp hCn
            have qA : (HC ++ [bP (xs.getD p.1.1 0) (cSl (HB.length + 1) (p.1.2.length + 1))])[HC.length]? = some (bP (xs.getD p.1.1 0) (cSl (HB.length + 1) (p.1.2.length + 1))) := lkn _ _
            try simp (dsimp := false) only [gA, gB, hce, qh, hbl, qn, s1, s2', ← hHC, List.length_append, List.length_set, List.length_cons, List.length_nil, List.take_succ_cons, List.take_zero, List.drop_zero, List.all_cons, List.all_nil, cellE_one, Nat.one_mul, Int.toNat_natCast, Int.toNat_zero, go_sem, Nat.reduceAdd, Nat.reduceBEq, Nat.reduceEqDiff, Nat.reduceLT, Nat.reduceLeDiff, reduceCtorEq, ↓reduceIte]
            try simp (dsimp := false) only [gA, gB, hce, qh, hbl, qn, qN, qA, hNo, s1, s2, s2', s3, s4, ← hHC, List.length_append, List.length_set, List.length_cons, List.length_nil, List.take_succ_cons, List.take_zero, List.drop_zero, List.all_cons, List.all_nil, cellE_one, Nat.one_mul, Int.toNat_natCast, Int.toNat_zero, go_sem, Nat.reduceAdd, Nat.reduceBEq, Nat.reduceEqDiff, Nat.reduceLT, Nat.reduceLeDiff, reduceCtorEq, ↓reduceIte]
            have hcn : c ≤ 64 := by omega
            repeat (refine And.intro (by first | exact True.intro | omega | kernel_rfl | (simp only [List.length_set, List.length_append, List.length_take, List.length_replicate, List.length_cons, true_and, and_true, List.length_nil, tabR_length]; omega)) ?_)
            obtain ⟨w, hw⟩ : ∃ w : En, w = ((p.1.1, p.1.2 ++ [q.1.1]), HB.length + 1) := ⟨_, rfl⟩
            have hw1 : w.1 = mch xs p.1 q.1 := by rw [hw, hm]
            have hwi : w.1.1 = p.1.1 := by rw [hw]
            have hw2 : w.2 = HB.length + 1 := by rw [hw]
            have hce2 : cellE w = cSl (HB.length + 1) (p.1.2.length + 1) := by rw [hw, cellE, if_neg (by simp)]; simp
            have er : rcl xs N ++ [.v (.int .i64 (xs.getD p.1.1 0)), cSl (HB.length + 1) (p.1.2.length + 1)] = rcl xs (N ++ [w]) := by rw [rcl_app]; simp [rcl, hce2, hwi]
            obtain ⟨HF, hHF⟩ : ∃ HF, HF = (HC ++ [bP (xs.getD p.1.1 0) (cSl (HB.length + 1) (p.1.2.length + 1))]).set hn .dead ++ [rP xs (N ++ [w])] := ⟨_, rfl⟩
            have eBF : Exc [p.2, hn] HB HF := by rw [hHF, hHC]; exact (((((((Exc.refl [p.2, hn] HB).app _).set _ (by simp)).app _).app _).set _ (by simp)).app _)
            have eF : Exc [p.2, hn] H HF := fun k r h hk => eBF k r (eB k r h (by simp)) hk
            have clC : Cl HC := by rw [hHC]; exact cl_oI (cl_dead (cl_oI clB))
            have hclF : Cl HF := by
              rw [hHF]
              refine cl_rP (cl_dead (cl_app clC fun r hr h hh => ?_)) fun e he hne => ?_
              · simp at hr; subst hr; simp [Row.hs, Dat.hs, C.hs] at hh; simp; omega
              · simp only [List.mem_append, List.mem_singleton] at he
                rw [List.length_set, List.length_append]
                rcases he with he | rfl
                · have := getlt (i9.lj.row e (by simp [he]) hne).1; omega
                · omega
            have lF : HF.length = H.length + 6 := by rw [hHF]; simp [lC, lB]
            have hrow : HF[w.2]? = some (oI (vals xs w.1.2)) := by
              rw [hw2, show vals xs w.1.2 = (vals xs p.1.2 ++ [xs.getD q.1.1 0]) by rw [hw]; simp [vals], hHF]
              exact lkp (lks (lkp hC1) (by omega))
            have hLJ := i9.lj.step (S' := [s.hp, HC.length + 1]) (w := w) eF (fun x hx => by
              simp only [List.mem_cons, List.not_mem_nil, or_false] at hx
              rcases hx with rfl | rfl
              · exact .inr (.inl ⟨rfl, hb⟩)
              · exact .inl (by simp)) (fun x hx => by
              simp only [List.mem_cons, List.not_mem_nil, or_false] at hx
              rcases hx with rfl | rfl
              · exact .inl (by simp)
              · exact .inr (by omega)) (fun _ => hrow) (by omega) (by rw [hw2]; simp; omega)
            have hPJ : PJ xs [s.hp, HC.length + 1] HF (N ++ [w] ++ R') := ⟨hLJ, eF _ _ l0' (by simp; omega), hclF⟩
            rw [er, ← hHF]
            refine ⟨⟨i + 2, N ++ [w], R', HC.length + 1, HF, c + 1⟩, List.range HF.length, ⟨⟨?_, ?_, by show i + 2 + R'.length = s.ps.length; omega, by show (i + 2) % 2 = 0; omega, by show c + 1 + R'.length / 2 = _; omega, by show (N ++ [w]).length + R'.length ≤ _; simp; omega, eF _ _ i6 (by simp; omega), ?_, by show HC.length + 1 ≠ s.hp; omega, hPJ, ?_⟩, by show s.ps.length - (i + 2) < s.ps.length - i; omega⟩, wk_id (by omega) hclF (by simp [slId, get_cons, get_nil, TV.hs, AV.hs, C.hs, RS.slot, zipSlots] <;> omega)⟩
            · show prs (N ++ [w]) ++ rnd xs (prs R') = _
              rw [← i1, prs_app, List.append_assoc]
              show prs N ++ (w.1 :: rnd xs (prs R')) = prs N ++ rnd xs (p.1 :: q.1 :: prs R')
              rw [rnd_two, hw1]
            · show R' = s.ps.drop (i + 2)
              have := congrArg (List.drop 2) i2
              rw [List.drop_drop] at this
              exact this
            · show HF[HC.length + 1]? = _
              rw [hHF, lkn' (by simp)]
            · intro e he
              simp only [List.mem_append, List.mem_singleton] at he
              show e.1.2.length ≤ c + 1
              rcases he with (he | rfl) | he
              · have := i10 e (by simp [he]); omega
              · rw [hw]; simp; omega
              · have := i10 e (by simp [he]); omega
    · have hcd3 : decide (((i + 1 : Nat) : Int) < (s.ps.length : Int)) = false := decide_eq_false (by omega)
      obtain ⟨g, hg⟩ : ∃ g, s.g = g + 1 := ⟨s.g - 1, by omega⟩
      rw [hg, tnT_step (by rw [prs_len]; exact h1)] at j1
      have hrl := rnd_len xs (prs s.ps)
      rw [prs_len] at hrl j1
      match R, i1, i2, i3, i4, i5, i9, i10 with
      | [], i1, i2, i3, i4, i5, i9, i10 =>
        have e0 : prs N = rnd xs (prs s.ps) := by rw [← i1]; simp [prs, rnd]
        rw [← e0, prs_len] at hrl
        simp at i3 i4 i5
        have eo : (((s.ps.length : Int).tmod 2) == 1) = false := by
          rw [Int.tmod_eq_emod_of_nonneg (by omega), beq_eq_false_iff_ne]; omega
        simp (dsimp := false) only [hcd3, e1, go_sem, Nat.reduceAdd, Nat.reduceBEq, Nat.reduceEqDiff, Nat.reduceLT, Nat.reduceLeDiff, reduceCtorEq, ↓reduceIte]
        repeat (refine And.intro (by first | exact True.intro | omega | kernel_rfl | (simp only [List.length_set, List.length_append, List.length_take, List.length_replicate, List.length_cons, true_and, and_true, List.length_nil, tabR_length]; omega)) ?_)
        refine hQ3 _ _ _ ?_
        simp (dsimp := false) only [eo, go_sem, Nat.reduceAdd, Nat.reduceBEq, Nat.reduceEqDiff, Nat.reduceLT, Nat.reduceLeDiff, reduceCtorEq, ↓reduceIte]
        repeat (refine And.intro (by first | exact True.intro | omega | kernel_rfl | (simp only [List.length_set, List.length_append, List.length_take, List.length_replicate, List.length_cons, true_and, and_true, List.length_nil, tabR_length]; omega)) ?_)
        refine ⟨⟨g, N, hn, H, c⟩, List.range H.length, ⟨⟨?_, by show N.length ≤ g + 1; omega, by show 1 ≤ N.length; omega, by show c + N.length = _; omega, i7, ?_, by simpa using i10⟩, by show g < s.g; omega⟩, wk_id (by omega) hcl (by simp [slId, get_cons, get_nil, TV.hs, AV.hs, C.hs, RS.slot, zipSlots] <;> omega)⟩
        · show tnT xs g (prs N) c = _
          rw [← j1, e0]; congr 1
        · have := i9.keep (Exc.refl [] H) (S' := [hn]) (by simp) (fun x hx => by simp at hx ⊢; simp [hx]) (by simp) hcl
          simpa using this
      | [p], i1, i2, i3, i4, i5, i9, i10 =>
        have e0 : prs (N ++ [p]) = rnd xs (prs s.ps) := by rw [← i1, prs_app]; simp [prs, rnd]
        rw [← e0, prs_len] at hrl
        simp at i3 i4 i5 hrl
        have hpi : s.ps[i]? = some p := by
          have := congrArg (fun l => l[0]?) i2
          simpa using this.symm
        have gp := rcl_at (xs := xs) hpi
        have hi1 : i * 2 + 2 ≤ (rcl xs s.ps).length := by omega
        have eo : (((s.ps.length : Int).tmod 2) == 1) = true := by
          rw [Int.tmod_eq_emod_of_nonneg (by omega), beq_iff_eq]; omega
        have e2 : (s.ps.length : Int) - 1 = (i : Int) := by omega
        have qN : (H ++ [bP (xs.getD p.1.1 0) (cellE p)])[hn]? = some (rP xs N) := lkp i7
        have qA : (H ++ [bP (xs.getD p.1.1 0) (cellE p)])[H.length]? = some (bP (xs.getD p.1.1 0) (cellE p)) := lkn _ _
        simp (dsimp := false) only [hcd3, e1, go_sem, Nat.reduceAdd, Nat.reduceBEq, Nat.reduceEqDiff, Nat.reduceLT, Nat.reduceLeDiff, reduceCtorEq, ↓reduceIte]
        repeat (refine And.intro (by first | exact True.intro | omega | kernel_rfl | (simp only [List.length_set, List.length_append, List.length_take, List.length_replicate, List.length_cons, true_and, and_true, List.length_nil, tabR_length]; omega)) ?_)
        refine hQ3 _ _ _ ?_
        simp (dsimp := false) only [eo, e2, i6, gp, hi1, qN, qA, hNo, List.length_append, List.length_set, List.length_cons, List.length_nil, List.take_succ_cons, List.take_zero, List.drop_zero, List.all_cons, List.all_nil, cellE_one, Nat.one_mul, Int.toNat_natCast, Int.toNat_zero, go_sem, Nat.reduceAdd, Nat.reduceBEq, Nat.reduceEqDiff, Nat.reduceLT, Nat.reduceLeDiff, reduceCtorEq, ↓reduceIte]
        repeat (refine And.intro (by first | exact True.intro | omega | kernel_rfl | (simp only [List.length_set, List.length_append, List.length_take, List.length_replicate, List.length_cons, true_and, and_true, List.length_nil, tabR_length]; omega)) ?_)
        have er : rcl xs N ++ [.v (.int .i64 (xs.getD p.1.1 0)), cellE p] = rcl xs (N ++ [p]) := by rw [rcl_app]; rfl
        rw [er]
        obtain ⟨HF, hHF⟩ : ∃ HF, HF = (H ++ [bP (xs.getD p.1.1 0) (cellE p)]).set hn .dead ++ [rP xs (N ++ [p])] := ⟨_, rfl⟩
        have eF : Exc [hn] H HF := by rw [hHF]; exact ((Exc.refl [hn] H).app _ |>.set _ (by simp)).app _
        have hclF : Cl HF := by
          rw [hHF]
          refine cl_rP (cl_dead (cl_app hcl fun r hr h hh => ?_)) fun e he hne => ?_
          · simp at hr; subst hr
            have := bP_hs i9.lj p (by simp) _ h hh
            simp; omega
          · have := getlt (i9.lj.row e he hne).1
            simp; omega
        have lF : HF.length = H.length + 2 := by rw [hHF]; simp
        rw [← hHF]
        refine ⟨⟨g, N ++ [p], H.length + 1, HF, c⟩, List.range HF.length, ⟨⟨?_, by show (N ++ [p]).length ≤ g + 1; simp; omega, by show 1 ≤ (N ++ [p]).length; simp, by show c + (N ++ [p]).length = _; simp; omega, ?_, ?_, i10⟩, by show g < s.g; omega⟩, wk_id (by omega) hclF (by simp [slId, get_cons, get_nil, TV.hs, AV.hs, C.hs, RS.slot, zipSlots] <;> omega)⟩
        · show tnT xs g (prs (N ++ [p])) c = _
          rw [← j1, e0]; congr 1
        · show HF[H.length + 1]? = _
          rw [hHF, lkn' (by simp)]
        · exact i9.keep eF (S' := [H.length + 1]) (by simp) (fun x hx => by simp at hx ⊢; omega) (by simp; omega) hclF
      | p :: q :: R', i1, i2, i3, i4, i5, i9, i10 => simp at i3; omega
  · have hcd : decide ((1 : Int) < (s.ps.length : Int)) = false := decide_eq_false (by omega)
    obtain ⟨e, he⟩ : ∃ e, s.ps = [e] := List.length_eq_one_iff.1 (by omega)
    rw [tnT_end (by rw [prs_len]; omega)] at j1
    obtain ⟨w, bt, r1, r2, r3, r4⟩ := tnR_one (xs := xs) (by omega)
    have k1 : prs s.ps = [(w, bt)] := by rw [← r1, ← j1]
    have k2 : s.c = (tnR xs).2 := by rw [← j1]
    rw [he] at k1
    have k3 : e.1 = (w, bt) := by simpa [prs] using k1
    have hb : e.1.2 ≠ [] := by rw [k3]; exact r2
    have hR := j6.lj.row e (by rw [he]; simp) hb
    have h7 := j7 e (by rw [he]; simp)
    rw [k3] at hR h7
    have h7b : bt.length ≤ s.c := h7
    have gE : s.H[e.2]? = some (oI (vals xs bt)) := hR.1
    have hbl : 0 < bt.length := List.length_pos_iff.2 r2
    have hpl : s.ps.length = 1 := by omega
    have ce : (rcl xs s.ps)[1]? = some (cSl e.2 bt.length) := by rw [he]; simp [rcl, cellE, k3, r2]
    have hvl := vals_len xs bt
    have hsl := srtL_len (vals xs bt)
    rw [hvl] at hsl
    have hS := prt_g (k := 19) gE (sorted_all (vals xs bt) (by omega))
    rw [hvl] at hS
    have q9 : (s.H ++ [oI (srtL (vals xs bt))])[s.H.length]? = some (oI (srtL (vals xs bt))) := lkn _ _
    have eV : ssV xs = [aI ((srtL (vals xs bt)).getD 0 0), aI (s.c + bt.length - 1 : Nat), aB true] := by
      rw [ssV, hv, hd2, r4, ← k2]; rfl
    have e3 : (s.c : Int) + (bt.length : Int) - 1 = ((s.c + bt.length - 1 : Nat) : Int) := by omega
    simp (dsimp := false) only [hcd, go_sem, Nat.reduceAdd, Nat.reduceBEq, Nat.reduceEqDiff, Nat.reduceLT, Nat.reduceLeDiff, reduceCtorEq, ↓reduceIte]
    refine hQ2 _ _ _ ?_
    simp (dsimp := false) only [hpl, j5, ce, List.length_append, List.length_set, List.length_cons, List.length_nil, List.take_succ_cons, List.take_zero, List.drop_zero, List.all_cons, List.all_nil, cellE_one, Nat.one_mul, Int.toNat_natCast, Int.toNat_zero, go_sem, Nat.reduceAdd, Nat.reduceBEq, Nat.reduceEqDiff, Nat.reduceLT, Nat.reduceLeDiff, reduceCtorEq, ↓reduceIte]
    repeat (refine And.intro (by first | exact True.intro | omega | kernel_rfl | (simp only [List.length_set, List.length_append, List.length_take, List.length_replicate, List.length_cons, true_and, and_true, List.length_nil, tabR_length]; omega)) ?_)
    refine ⟨_, hS.mono ?_⟩
    rintro _ G9 ⟨rfl, h9⟩
    subst h9
    simp (dsimp := false) only [q9, e3, hsl, List.length_append, List.length_set, List.length_cons, List.length_nil, List.take_succ_cons, List.take_zero, List.drop_zero, List.all_cons, List.all_nil, cellE_one, Nat.one_mul, Int.toNat_natCast, Int.toNat_zero, go_sem, Nat.reduceAdd, Nat.reduceBEq, Nat.reduceEqDiff, Nat.reduceLT, Nat.reduceLeDiff, reduceCtorEq, ↓reduceIte]
    repeat (refine And.intro (by first | exact True.intro | omega | kernel_rfl | (simp only [List.length_set, List.length_append, List.length_take, List.length_replicate, List.length_cons, true_and, and_true, List.length_nil, tabR_length]; omega)) ?_)
    refine afin (List.range 1) [aI ((srtL (vals xs bt)).getD 0 0), aI (s.c + bt.length - 1 : Nat), aB true] [rI xs] (by simp) rfl (wk_ext (G := [rI xs]) (Nat.le_refl _) (fun r hr h hh => by simp at hr; subst hr; simp [Row.hs, Dat.hs] at hh) (fun h r e => by match h, e with | 0, e => exact lkp (l0.trans e)) (by simp [slId, get_cons, get_nil, TV.hs, AV.hs, C.hs, RS.slot, zipSlots])) ⟨by rw [eV]; rfl, rfl⟩
end Go.Proofs.Ytfkokcmnmmfcbaa
