/- Contracts: patience piles, in the program and in the reference. -/
import Derived.Test.YtpoappgfmjnioaaNsS
set_option linter.unusedSimpArgs false
set_option linter.unusedVariables false
set_option linter.unusedSectionVars false
namespace Go.Proofs.Ytpoappgfmjnioaa
open Go Go.Ax
set_option maxRecDepth 10000
set_option maxHeartbeats 1000000

theorem getD_at {α : Type} {l : List α} {i : Nat} {d : α} (h : i < l.length) : l[i]? = some (l.getD i d) := by rw [List.getD_eq_getElem?_getD, List.getElem?_eq_getElem h]; rfl
def lasI (o : List Int) : Int := o.getD ((o.length : Int) - 1).toNat 0
/-- The first pile that takes x. -/
def pilK (x : Int) : List (List Int) → Nat
  | [] => 0
  | p :: ps => if lasI p < x then pilK x ps + 1 else 0
def pilS (ps : List (List Int)) (x : Int) : List (List Int) := if pilK x ps < ps.length then ps.set (pilK x ps) (ps.getD (pilK x ps) [] ++ [x]) else ps ++ [[x]]
def pil (xs : List Int) : Nat → List (List Int)
  | 0 => []
  | i + 1 => pilS (pil xs i) (xs.getD i 0)
theorem pilK_le (x : Int) : ∀ ps, pilK x ps ≤ ps.length
  | [] => Nat.le_refl _
  | p :: ps => by have := pilK_le x ps; rw [pilK]; split <;> simp <;> omega
theorem pilK_lt {x : Int} : ∀ {ps : List (List Int)} {i : Nat} {p : List Int}, i < pilK x ps → ps[i]? = some p → lasI p < x
  | q :: ps, 0, p, h, hp => by
    simp at hp; subst hp
    rw [pilK] at h; split at h
    · assumption
    · omega
  | q :: ps, i + 1, p, h, hp => by
    rw [pilK] at h; split at h
    · exact pilK_lt (i := i) (ps := ps) (by omega) (by simpa using hp)
    · omega
  | [], i, p, h, hp => by simp at hp
theorem pilK_at {x : Int} : ∀ {ps : List (List Int)} {p : List Int}, ps[pilK x ps]? = some p → ¬ lasI p < x
  | q :: ps, p, hp => by
    rw [pilK] at hp; split at hp
    · exact pilK_at (ps := ps) (by simpa using hp)
    · simp at hp; subst hp; assumption
  | [], p, hp => by simp at hp
/-- The number is known by what it says. -/
theorem pilK_eq {x : Int} {ps : List (List Int)} {k : Nat} {p : List Int} (h1 : ∀ i q, i < k → ps[i]? = some q → lasI q < x) (h2 : ps[k]? = some p) (h3 : ¬ lasI p < x) : pilK x ps = k := by
  rcases Nat.lt_trichotomy (pilK x ps) k with h | h | h
  · have hk : k < ps.length := by
      rcases Nat.lt_or_ge k ps.length with h' | h'
      · exact h'
      · rw [List.getElem?_eq_none h'] at h2; cases h2
    have e := List.getElem?_eq_getElem (l := ps) (i := pilK x ps) (by omega)
    exact absurd (h1 _ _ h e) (pilK_at e)
  · exact h
  · exact absurd (pilK_lt h h2) h3
theorem pilK_end {x : Int} {ps : List (List Int)} (h1 : ∀ i q, i < ps.length → ps[i]? = some q → lasI q < x) : pilK x ps = ps.length := by
  rcases Nat.lt_or_ge (pilK x ps) ps.length with h | h
  · have e := List.getElem?_eq_getElem h
    exact absurd (h1 _ _ h e) (pilK_at e)
  · have := pilK_le x ps; omega
theorem mem_set' {α : Type} {l : List α} {i : Nat} {a b : α} (h : b ∈ l.set i a) : b ∈ l ∨ b = a := by
  rcases List.mem_or_eq_of_mem_set h with h | h
  · exact .inl h
  · exact .inr h
theorem pil_ne (xs : List Int) : ∀ i, ∀ p ∈ pil xs i, p ≠ []
  | 0, p, h => by simp [pil] at h
  | i + 1, p, h => by
    rw [pil, pilS] at h
    split at h
    · rcases mem_set' h with h | rfl
      · exact pil_ne xs i p h
      · simp
    · rcases List.mem_append.1 h with h | h
      · exact pil_ne xs i p h
      · simp at h; subst h; simp
theorem tot_set : ∀ {ps : List (List Int)} {k : Nat} {p q : List Int}, ps[k]? = some p → q.length = p.length + 1 → tot (ps.set k q) = tot ps + 1
  | a :: ps, 0, p, q, h, hq => by simp at h; subst h; simp [tot, hq]; omega
  | a :: ps, k + 1, p, q, h, hq => by simp only [List.set_cons_succ, tot]; rw [tot_set (by simpa using h) hq]; omega
  | [], k, p, q, h, _ => by simp at h
theorem pil_tot (xs : List Int) : ∀ i, tot (pil xs i) = i
  | 0 => rfl
  | i + 1 => by
    rw [pil, pilS]
    split
    · rename_i h
      rw [tot_set (p := (pil xs i).getD (pilK (xs.getD i 0) (pil xs i)) []) (getD_at h) (by simp), pil_tot xs i]
    · rw [tot_app, pil_tot xs i]; rfl
theorem pil_len (xs : List Int) : ∀ i, (pil xs i).length ≤ i
  | 0 => Nat.le_refl _
  | i + 1 => by
    have := pil_len xs i
    rw [pil, pilS]; split <;> simp <;> omega

/-! ### One pile on -/

theorem lkp {G : Hp} {X : Hp} {h : Nat} {r : Row} (e : G[h]? = some r) : (G ++ X)[h]? = some r := Ext.app G X h r e
theorem lkn (G : Hp) (r : Row) : (G ++ [r])[G.length]? = some r := by rw [List.getElem?_append_right (Nat.le_refl _), Nat.sub_self]; rfl
theorem lks {G : Hp} {h j : Nat} {r r' : Row} (e : G[h]? = some r) (hj : j ≠ h) : (G.set j r')[h]? = some r := by rw [List.getElem?_set_ne hj]; exact e
theorem pilc {xs : List Int} {ps : List (List Int)} : Nst true true (rI xs :: nst true true 1 ps) 1 ps := nst_pre [rI xs] ps
theorem pil_cl (xs : List Int) (ps : List (List Int)) : Cl (rI xs :: nst true true 1 ps) := cl_pre [rI xs] ps (by simp [Row.hs, Dat.hs])

theorem range'_nd {n k g a : Nat} (h : ∀ i, i < n → g ≠ a + i) : ((List.range' a n).set k g).Nodup := by
  refine List.pairwise_iff_getElem.2 fun i j hi hj hij => ?_
  rw [List.length_set, List.length_range'] at hi hj
  have h1 := h i hi
  have h2 := h j hj
  rw [List.getElem_set, List.getElem_set, List.getElem_range', List.getElem_range']
  split
  · split <;> omega
  · split <;> omega

/-- A pile of the group has grown. -/
theorem wk_grow {m : Nat} {f f' : F} {G : Hp} {xs : List Int} {ps : List (List Int)} {k c g : Nat} {p : List Int} {x : Int} {cs : List C} (hm : m = 1) (hk : ps[k]? = some p)
    (h0 : G[0]? = some (rI xs)) (hc : G[c]? = some (.r true (.cells 1 cs))) (hcs : cs = (nsC 2 ps).set k (.sl 1 g 0 (p.length + 1))) (hg : G[g]? = some (oI (p ++ [x])))
    (hr : ∀ (i : Nat) q, i ≠ k → ps[i]? = some q → G[2 + i]? = some (oI q)) (hgb : ps.length + 2 ≤ g) (hcb : c = 1)
    (hsl : slotsLe ([0] ++ c :: (List.range' 2 ps.length).set k g) f f') : Weak m ([0] ++ c :: (List.range' 2 ps.length).set k g) f G f' (rI xs :: nst true true 1 (ps.set k (p ++ [x]))) := by
  subst hm; subst hcb; subst hcs
  have hkl : k < ps.length := by
    rcases Nat.lt_or_ge k ps.length with h' | h'
    · exact h'
    · rw [List.getElem?_eq_none h'] at hk; cases hk
  refine wk_nst [rI xs] [0] 1 _ ((List.range' 2 ps.length).set k g) (ps.set k (p ++ [x])) rfl ?_ rfl ?_ hc (by simp [nsC_len]) (by simp) ?_ hsl
  · simp only [List.singleton_append]
    have hmem : ∀ y ∈ (List.range' 2 ps.length).set k g, 2 ≤ y := fun y hy => by
      rcases mem_set' hy with hy | rfl
      · rw [List.mem_range'_1] at hy; omega
      · omega
    refine List.nodup_cons.2 ⟨?_, List.nodup_cons.2 ⟨fun h => by have := hmem 1 h; omega, range'_nd (fun i hi => by omega)⟩⟩
    intro h
    rcases List.mem_cons.1 h with h | h
    · omega
    · have := hmem 0 h; omega
  · intro i h r h1 h2
    match i, h1, h2 with
    | 0, h1, h2 => simp at h1 h2; subst h1; subst h2; exact ⟨h0, fun ρ => rowLe_same ρ _ _ _⟩
  · intro i h y h1 h2
    have hi : i < ps.length := by
      rcases Nat.lt_or_ge i ps.length with h' | h'
      · exact h'
      · rw [List.getElem?_eq_none (by simpa using h')] at h2; cases h2
    rw [List.getElem?_set] at h1 h2 ⊢
    simp only [List.length_range', nsC_len] at h1 h2 ⊢
    by_cases e : k = i
    · subst e
      rw [if_pos rfl, if_pos hkl] at h1 h2 ⊢
      cases h1; cases h2
      exact ⟨by simp, hg⟩
    · rw [if_neg e] at h1 h2 ⊢
      rw [List.getElem?_range' hi] at h1
      have e1 : h = 2 + i := by simpa using h1.symm
      subst e1
      exact ⟨nsC_at h2, hr i y (Ne.symm e) h2⟩
/-- A pile has come to the group. -/
theorem wk_new {m : Nat} {f f' : F} {G : Hp} {xs : List Int} {ps : List (List Int)} {c g : Nat} {x : Int} {cs : List C} (hm : m = 1)
    (h0 : G[0]? = some (rI xs)) (hc : G[c]? = some (.r true (.cells 1 cs))) (hcs : cs = nsC 2 ps ++ [.sl 1 g 0 1]) (hg : G[g]? = some (oI [x]))
    (hr : ∀ (i : Nat) q, ps[i]? = some q → G[2 + i]? = some (oI q)) (hgb : ps.length + 2 ≤ g) (hcb : ps.length + 2 ≤ c) (hcg : c ≠ g)
    (hsl : slotsLe ([0] ++ c :: (List.range' 2 ps.length ++ [g])) f f') : Weak m ([0] ++ c :: (List.range' 2 ps.length ++ [g])) f G f' (rI xs :: nst true true 1 (ps ++ [[x]])) := by
  subst hm; subst hcs
  refine wk_nst [rI xs] [0] c _ (List.range' 2 ps.length ++ [g]) (ps ++ [[x]]) rfl ?_ rfl ?_ hc (by simp [nsC_len]) (by simp) ?_ hsl
  · simp only [List.singleton_append]
    have hmem : ∀ y ∈ (List.range' 2 ps.length ++ [g]), (2 ≤ y ∧ y < ps.length + 2) ∨ y = g := fun y hy => by
      rcases List.mem_append.1 hy with hy | hy
      · rw [List.mem_range'_1] at hy; omega
      · simp at hy; omega
    refine List.nodup_cons.2 ⟨?_, List.nodup_cons.2 ⟨fun h => by have := hmem c h; omega, List.nodup_append.2 ⟨List.nodup_range', by simp, ?_⟩⟩⟩
    · intro h
      rcases List.mem_cons.1 h with h | h
      · omega
      · have := hmem 0 h; omega
    · intro a ha b hb
      rw [List.mem_range'_1] at ha
      simp at hb; omega
  · intro i h r h1 h2
    match i, h1, h2 with
    | 0, h1, h2 => simp at h1 h2; subst h1; subst h2; exact ⟨h0, fun ρ => rowLe_same ρ _ _ _⟩
  · intro i h y h1 h2
    rcases Nat.lt_or_ge i ps.length with hi | hi
    · rw [List.getElem?_append_left (by simpa using hi)] at h1
      rw [List.getElem?_append_left hi] at h2
      rw [List.getElem?_append_left (by rw [nsC_len]; exact hi)]
      rw [List.getElem?_range' hi] at h1
      have e1 : h = 2 + i := by simpa using h1.symm
      subst e1
      exact ⟨nsC_at h2, hr i y h2⟩
    · have hi2 := getlt (G := (ps ++ [[x]]).map rI) (h := i) (r := rI y) (by rw [List.getElem?_map, h2]; rfl)
      simp at hi2
      have : i = ps.length := by omega
      subst this
      rw [List.getElem?_append_right (by simp)] at h1
      rw [List.getElem?_append_right (Nat.le_refl _)] at h2
      rw [List.getElem?_append_right (by rw [nsC_len]; exact Nat.le_refl _), nsC_len]
      simp at h1 h2 ⊢
      subst h1; subst h2
      exact ⟨by simp, hg⟩
end Go.Proofs.Ytpoappgfmjnioaa
