/- Heaps that grow step by step: what a step keeps; calls in any heap; players and whom they have beaten. -/
import Derived.Test.YtpoappgfmjnioaaNsS
import Derived.Test.YtpoappgfmjnioaaPlTn
import Derived.Test.YtpoappgfmjnioaaLeast
set_option linter.unusedSimpArgs false
set_option linter.unusedVariables false
set_option linter.unusedSectionVars false
set_option linter.unnecessarySimpa false
namespace Go.Proofs.Ytpoappgfmjnioaa
open Go Go.Ax
set_option maxRecDepth 10000
set_option maxHeartbeats 1000000

/-- All rows but those of S are as they were. -/
def Exc (S : List Nat) (H H' : Hp) : Prop := ∀ (k : Nat) r, H[k]? = some r → k ∉ S → H'[k]? = some r
theorem Exc.refl (S : List Nat) (H : Hp) : Exc S H H := fun _ _ h _ => h
theorem Exc.app {S : List Nat} {H H' : Hp} (h : Exc S H H') (X : Hp) : Exc S H (H' ++ X) := fun k r e hk => lkp (h k r e hk)
theorem Exc.set {S : List Nat} {H H' : Hp} (h : Exc S H H') {j : Nat} (r : Row) (hj : j ∈ S) : Exc S H (H'.set j r) := fun k r' e hk => by
  have := h k r' e hk
  exact lks this (fun e => hk (e ▸ hj))
theorem cl_set {H : Hp} {j : Nat} {r : Row} (hH : Cl H) (hr : ∀ h ∈ Row.hs r, h < H.length) : Cl (H.set j r) := by
  intro r' hr' h hh
  rw [List.length_set]
  rcases List.mem_or_eq_of_mem_set hr' with h1 | rfl
  · exact hH r' h1 h hh
  · exact hr h hh
theorem cl_oI {H : Hp} {xs : List Int} (hH : Cl H) : Cl (H ++ [oI xs]) := cl_app hH fun r hr h hh => by
  simp at hr; subst hr; simp [Row.hs, Dat.hs] at hh
theorem cl_dead {H : Hp} {j : Nat} (hH : Cl H) : Cl (H.set j .dead) := cl_set hH (by simp [Row.hs])
theorem lkn' {G : Hp} {r : Row} {k : Nat} (h : k = G.length) : (G ++ [r])[k]? = some r := by subst h; exact lkn G r
theorem lkset {G : Hp} {r : Row} {k : Nat} (h : k < G.length) : (G.set k r)[k]? = some r := by rw [List.getElem?_set]; simp [h]

/-- A pure call, in any heap. -/
theorem pur_g {k : FuncId} {G : Hp} {args : List TV} {v : Value} (hl : ACalls Try.prog k args [] [] (fun t H => t = .a (.c (.v v)) ∧ H = [])) (hhs : ∀ t ∈ args, t.hs = []) (har : ∀ ρ, args.map (TV.ren ρ) = args) :
    ACalls Try.prog k args [] G (fun t G' => t = .a (.c (.v v)) ∧ G' = G) := by
  have hl' : ACalls Try.prog k args [] [] (fun t H => t = .a (.c (.v v)) ∧ H = [] ++ []) := hl
  refine (ACalls.liftN hl' [] (by simp) (by simp) (by simp) rfl (by simp) (by rw [har]) (fun t ht h hh => by rw [hhs t ht] at hh; simp at hh)).mono ?_
  rintro t G' ⟨rfl, rfl⟩
  simp [TV.ren, AV.ren, C.ren]
theorem least_g {G : Hp} (a b : Int) : ACalls Try.prog 69 [tI a, tI b] [] G (fun t G' => t = tI (min a b) ∧ G' = G) :=
  pur_g (l1Least_l a b) (by simp [TV.hs, AV.hs, C.hs]) (by simp [TV.ren, AV.ren, C.ren])
/-- A call on one list that makes another, in any heap. -/
theorem prt_g {k : FuncId} {G : Hp} {h : Nat} {o : Bool} {xs ys : List Int} {n : Nat} (hG : G[h]? = some (rwI o xs))
    (hl : ACalls Try.prog k [tS 0 xs.length] [] [rI xs] (fun t H => t = tS 1 n ∧ H = [rI xs, oI ys])) : ACalls Try.prog k [tS h xs.length] [] G (fun t G' => t = tS G.length n ∧ G' = G ++ [oI ys]) := by
  have hl' : ACalls Try.prog k [tS 0 xs.length] [] [rI xs] (fun t H => t = tS 1 n ∧ H = [rI xs] ++ [oI ys]) := hl
  refine (ACalls.liftN hl' [h] (by simp [Row.own]) (by simp [Row.own]) (by simp) rfl ?_ (by simp [TV.ren, AV.ren, C.ren]) (by simp [TV.hs, AV.hs, C.hs])).mono ?_
  · intro i h' row h1 h2
    match i, h1, h2 with
    | 0, h1, h2 =>
      simp at h1 h2; subst h1; subst h2
      rw [hG]; exact ⟨getlt hG, by simp, rfl, by simp [Dat.hs]⟩
  · rintro t G' ⟨rfl, rfl⟩
    simp [TV.ren, AV.ren, C.ren, Row.ren, Dat.ren, freshR]

/-! ### Players -/

abbrev En := Pr × Nat
def idZ (l : List Nat) : List Int := l.map fun (i : Nat) => (i : Int)
theorem idZ_len (l : List Nat) : (idZ l).length = l.length := by simp [idZ]
theorem idZ_app (a b : List Nat) : idZ (a ++ b) = idZ a ++ idZ b := by simp [idZ]
theorem idZ_get {l : List Nat} {i : Nat} (h : i < l.length) : (idZ l).getD i 0 = ((l.getD i 0 : Nat) : Int) := by
  simp [idZ, List.getD_eq_getElem?_getD, h]
def ids (es : List En) : List Nat := es.map fun e => e.1.1
theorem ids_len (es : List En) : (ids es).length = es.length := by simp [ids]
theorem ids_app (a b : List En) : ids (a ++ b) = ids a ++ ids b := by simp [ids]
def prs (es : List En) : List Pr := es.map fun e => e.1
theorem prs_len (es : List En) : (prs es).length = es.length := by simp [prs]
theorem prs_app (a b : List En) : prs (a ++ b) = prs a ++ prs b := by simp [prs]
/-- The slice of those beaten. -/
def cellE (e : En) : C := if e.1.2 = [] then .v (.slice none 0 0) else cSl e.2 e.1.2.length
theorem cellE_one (e : En) : (cellE e).isOne = true := by unfold cellE; split <;> rfl
def Apart (e e' : En) : Prop := e.1.2 = [] ∨ e'.1.2 = [] ∨ e.2 ≠ e'.2
/-- Each player's slice of those beaten lies, as f says them, outside the handles of S, and no two share one. -/
structure LJ (f : List Nat → List Int) (S : List Nat) (H : Hp) (es : List En) : Prop where
  row : ∀ e ∈ es, e.1.2 ≠ [] → H[e.2]? = some (oI (f e.1.2)) ∧ e.2 ∉ S
  apart : es.Pairwise Apart
theorem Apart.symm {e e' : En} (h : Apart e e') : Apart e' e := by
  rcases h with h | h | h
  · exact .inr (.inl h)
  · exact .inl h
  · exact .inr (.inr (Ne.symm h))
/-- The two next players part: the winner's list moved to a new handle. -/
theorem LJ.step {f : List Nat → List Int} {S S' : List Nat} {H H' : Hp} {N R : List En} {p q w : En} (hJ : LJ f S H (N ++ p :: q :: R)) {T : List Nat} (hE : Exc T H H')
    (hT : ∀ t ∈ T, t ∈ S ∨ t = p.2 ∧ p.1.2 ≠ [] ∨ t = q.2 ∧ q.1.2 ≠ []) (hS : ∀ s ∈ S', s ∈ S ∨ H.length ≤ s) (hw : w.1.2 ≠ [] → H'[w.2]? = some (oI (f w.1.2))) (hn : H.length ≤ w.2) (hwS : w.2 ∉ S') : LJ f S' H' (N ++ [w] ++ R) := by
  obtain ⟨row, ap⟩ := hJ
  have hap := List.pairwise_append.1 ap
  obtain ⟨apN, apR, apNR⟩ := hap
  have hpq := List.pairwise_cons.1 apR
  have hq := List.pairwise_cons.1 hpq.2
  -- the others are kept
  have keep : ∀ e, (e ∈ N ∨ e ∈ R) → e.1.2 ≠ [] → H'[e.2]? = some (oI (f e.1.2)) ∧ e.2 ∉ S' ∧ e.2 < H.length := by
    intro e he hne
    have hmem : e ∈ N ++ p :: q :: R := by
      rcases he with h | h
      · simp [h]
      · simp [h]
    obtain ⟨h1, h2⟩ := row e hmem hne
    have hlt := getlt h1
    have ap1 : Apart e p := by
      rcases he with h | h
      · exact apNR e h p (by simp)
      · exact (hpq.1 e (by simp [h])).symm
    have ap2 : Apart e q := by
      rcases he with h | h
      · exact apNR e h q (by simp)
      · exact (hq.1 e h).symm
    refine ⟨hE _ _ h1 fun ht => ?_, fun hs => ?_, hlt⟩
    · rcases hT _ ht with h | ⟨h, h'⟩ | ⟨h, h'⟩
      · exact h2 h
      · rcases ap1 with a | a | a
        · exact hne a
        · exact h' a
        · exact a h
      · rcases ap2 with a | a | a
        · exact hne a
        · exact h' a
        · exact a h
    · rcases hS _ hs with h | h
      · exact h2 h
      · omega
  constructor
  · intro e he hne
    simp only [List.mem_append, List.mem_singleton] at he
    rcases he with (he | rfl) | he
    · exact ⟨(keep e (.inl he) hne).1, (keep e (.inl he) hne).2.1⟩
    · exact ⟨hw hne, hwS⟩
    · exact ⟨(keep e (.inr he) hne).1, (keep e (.inr he) hne).2.1⟩
  · have hNw : ∀ e, (e ∈ N ∨ e ∈ R) → Apart e w := fun e he => by
      by_cases hne : e.1.2 = []
      · exact .inl hne
      · have := (keep e he hne).2.2
        exact .inr (.inr (by omega))
    refine List.pairwise_append.2 ⟨List.pairwise_append.2 ⟨apN, List.pairwise_singleton _ _, fun a ha b hb => ?_⟩, hq.2, fun a ha b hb => ?_⟩
    · simp at hb; subst hb; exact hNw a (.inl ha)
    · simp only [List.mem_append, List.mem_singleton] at ha
      rcases ha with ha | rfl
      · exact apNR a ha b (by simp [hb])
      · exact (hNw b (.inr hb)).symm
theorem LJ.keep {f : List Nat → List Int} {S S' T : List Nat} {H H' : Hp} {es : List En} (hJ : LJ f S H es) (hE : Exc T H H') (hT : ∀ t ∈ T, t ∈ S) (hS : ∀ s ∈ S', s ∈ S ∨ H.length ≤ s) : LJ f S' H' es := by
  refine ⟨fun e he hne => ?_, hJ.apart⟩
  obtain ⟨h1, h2⟩ := hJ.row e he hne
  have := getlt h1
  refine ⟨hE _ _ h1 fun ht => h2 (hT _ ht), fun hs => ?_⟩
  rcases hS _ hs with h | h
  · exact h2 h
  · omega
end Go.Proofs.Ytpoappgfmjnioaa
