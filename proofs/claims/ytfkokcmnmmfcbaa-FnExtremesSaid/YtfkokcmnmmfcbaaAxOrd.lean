/- AX: regions that draw their order: what each operation does to the world is told by a relation R; an operation may be taken first where the others that may come ahead of it leave alone what it looks at. After the library's law on held loads. -/
import Derived.OrdersHeld
set_option linter.unusedSimpArgs false
set_option linter.unusedVariables false
set_option linter.unusedSectionVars false
namespace Go.Ax
open Go
section
variable {P : Program} {ops : Array Oper} {Q : Exit → Act → World → Prop} {md : Region.Mode} {R : Nat → World → World → Prop}

def wpAnyR (P : Program) (md : Region.Mode) (ops : Array Oper) (Q : Exit → Act → World → Prop) (R : Nat → World → World → Prop) : Nat → Array Bool → Act → World → Prop
  | 0, listed, a, w => Region.ready md ops listed = [] ∧ Q .normal a w
  | fuel + 1, listed, a, w =>
    (Region.ready md ops listed = [] → Q .normal a w) ∧
    ∀ i ∈ Region.ready md ops listed, wpOp P ops Q i (fun a' w' => R i w w' ∧ wpAnyR P md ops Q R fuel (listed.setIfInBounds i true) a' w') a w

theorem wpAny_ofR : ∀ (fuel : Nat) (listed : Array Bool) (a : Act) (w : World), wpAnyR P md ops Q R fuel listed a w → wpAny P md ops Q fuel listed a w
  | 0, _, _, _, h => h
  | fuel + 1, _, _, _, h => ⟨h.1, fun i hi => wpOp_mono (fun a' w' h' => wpAny_ofR fuel _ a' w' h'.2) (h.2 i hi)⟩

theorem wpAnyR_first {i : Nat} {oi : Oper} {v : Value} {S : World → Prop} {I : Array Bool → Prop} (hi : ops[i]? = some oi) (hsel : ∀ (j : Nat) (o : Oper) cs b, ops[j]? = some o → o.op ≠ .select cs b)
    (hQ : ∀ c a w, Q (.panic c) (a.put oi.dst v) w → Q (.panic c) a w) (hRi : ∀ w, S w → R i w w)
    (hstep : ∀ l, I l → l.getD i true = false → ∀ j ∈ Region.ready md ops l, j ≠ i → I (l.setIfInBounds j true) ∧ ∀ w w', S w → R j w w' → S w') :
    ∀ (fuel : Nat) (listed : Array Bool) (a : Act) (w : World),
      (∀ j oj, ops[j]? = some oj → j ≠ i → listed.getD j true = false → (∀ e ∈ oj.after, Region.binds md e = true → e.on ≠ i) → oi.apart ops oj = true) →
      i ∈ Region.ready md ops listed → I listed → YieldsIf P ops S oi v a → S w →
      wpAnyR P md ops Q R fuel (listed.setIfInBounds i true) (a.put oi.dst v) w → wpAnyR P md ops Q R (fuel + 1) listed a w := by
  intro fuel
  induction fuel with
  | zero =>
    intro listed a w _ hr hI hy hS H
    refine ⟨fun h => (by rw [h] at hr; cases hr), fun j hj => ?_⟩
    by_cases hji : j = i
    · subst hji; exact hy.wpOp hi hS ⟨hRi _ hS, H⟩
    · have := ready_mono hj hji
      rw [H.1] at this
      cases this
  | succ fuel ih =>
    intro listed a w hfree hr hI hy hS H
    refine ⟨fun h => (by rw [h] at hr; cases hr), fun j hj => ?_⟩
    by_cases hji : j = i
    · subst hji; exact hy.wpOp hi hS ⟨hRi _ hS, H⟩
    · have h1 := H.2 j (ready_mono hj hji)
      obtain ⟨hjun, oj, hoj, hall⟩ := mem_ready.1 hj
      have hnot : ∀ e ∈ oj.after, Region.binds md e = true → e.on ≠ i := fun e he hb heq => by
        have h1 := hall e he hb
        have h0 := (mem_ready.1 hr).1
        rw [heq] at h1
        rcases Nat.lt_or_ge i listed.size with h' | h'
        · simp [h'] at h0 h1; rw [h0] at h1; cases h1
        · simp [Array.getElem?_eq_none h'] at h1
      have h2 := wpOp_putIf hoj (hfree j oj hoj hji hjun hnot) (fun cs b => hsel i oi cs b hi) (fun cs b => hsel j oj cs b hoj) hQ hy h1
      have hfree' : ∀ k ok, ops[k]? = some ok → k ≠ i → (listed.setIfInBounds j true).getD k true = false →
          (∀ e ∈ ok.after, Region.binds md e = true → e.on ≠ i) → oi.apart ops ok = true := fun k ok hk hki hun hno => by
        refine hfree k ok hk hki ?_ hno
        by_cases hjk : j = k
        · subst hjk; exact hjun
        · rw [getD_set_ne true hjk] at hun; exact hun
      obtain ⟨hI', hS'⟩ := hstep listed hI (mem_ready.1 hr).1 j hj hji
      refine wpOp_mono (fun a' w' h3 => ⟨h3.2.1, ih (listed.setIfInBounds j true) a' w' hfree' (ready_mono hr (Ne.symm hji)) hI' h3.1 (hS' _ _ hS h3.2.1) ?_⟩) h2
      rw [Array.setIfInBounds_comm _ _ hji]
      exact h3.2.2

/-- Take number i first: every other operation keeps S. -/
theorem wpAnyR_held {i : Nat} {oi : Oper} {v : Value} {S : World → Prop} {fuel : Nat} {listed : Array Bool} {a : Act} {w : World} (hi : ops[i]? = some oi)
    (hs : Region.noSelect ops = true) (hf : Region.free md ops listed i = true) (hr : (Region.ready md ops listed).contains i = true)
    (hQ : ∀ c a w, Q (.panic c) (a.put oi.dst v) w → Q (.panic c) a w) (hRi : ∀ w, S w → R i w w) (hR : ∀ j w w', R j w w' → S w') (hy : YieldsIf P ops S oi v a) (hS : S w)
    (h : wpAnyR P md ops Q R fuel (listed.setIfInBounds i true) (a.put oi.dst v) w) : wpAnyR P md ops Q R (fuel + 1) listed a w :=
  wpAnyR_first (I := fun _ => True) hi (Region.noSelect_spec hs) hQ hRi (fun l _ _ j _ _ => ⟨trivial, fun w w' _ h => hR j w w' h⟩) fuel listed a w (Region.free_spec hi hf) (by simpa using hr) trivial hy hS h

/-- Take number i first: what may come ahead of it leaves the world as it is; the others wait for it (b: those that wait). -/
theorem wpAnyR_now {i : Nat} {oi : Oper} {v : Value} {fuel : Nat} {listed : Array Bool} {a : Act} {w : World} (q : Nat → Bool) (b : List Nat) (hi : ops[i]? = some oi)
    (hs : Region.noSelect ops = true) (hf : Region.free md ops listed i = true) (hr : (Region.ready md ops listed).contains i = true)
    (hb : ∀ j o, ops[j]? = some o → (j ∈ b → listed.getD j true = false ∧ (j = i ∨ ∃ e ∈ o.after, Region.binds md e = true ∧ e.on ∈ b)) ∧ (¬ j ∈ b → listed.getD j true = true ∨ q j = true)) (hbi : i ∈ b)
    (hbl : ∀ j ∈ b, j < ops.size) (hsz : listed.size = ops.size)
    (hQ : ∀ c a w, Q (.panic c) (a.put oi.dst v) w → Q (.panic c) a w) (hRi : R i w w) (hR : ∀ j w w', q j = true → R j w w' → w' = w) (hy : YieldsIf P ops (fun w' => w' = w) oi v a)
    (h : wpAnyR P md ops Q R fuel (listed.setIfInBounds i true) (a.put oi.dst v) w) : wpAnyR P md ops Q R (fuel + 1) listed a w := by
  refine wpAnyR_first (S := fun w' => w' = w) (I := fun l => (∀ j ∈ b, l.getD j true = false) ∧ (∀ j o, ops[j]? = some o → ¬ j ∈ b → l.getD j true = true ∨ q j = true) ∧ l.size = ops.size) hi (Region.noSelect_spec hs) hQ (fun w' hw => by subst hw; exact hRi) ?_ fuel listed a w (Region.free_spec hi hf) (by simpa using hr) ?_ hy rfl h
  · rintro l ⟨hl1, hl2, hl3⟩ hli j hj hji
    obtain ⟨hjun, oj, hoj, hall⟩ := mem_ready.1 hj
    have hjb : ¬ j ∈ b := fun hjb => by
      rcases (((hb j oj hoj).1 hjb).2) with h1 | ⟨e, he, hbe, heb⟩
      · exact hji h1
      · have h1 := hall e he hbe
        have h2 := hl1 e.on heb
        have hlt : e.on < l.size := by rw [hl3]; exact hbl _ heb
        simp [hlt] at h1 h2
        rw [h1] at h2; cases h2
    refine ⟨⟨fun k hk => ?_, fun k o hk hkb => ?_, by simpa using hl3⟩, fun w1 w2 h1 h2 => ?_⟩
    · rw [getD_set_ne true (fun e => hjb (by rw [e]; exact hk))]; exact hl1 k hk
    · by_cases e : j = k
      · subst e; exact .inr ((hl2 j oj hoj hjb).resolve_left (by rw [hjun]; simp))
      · rw [getD_set_ne true e]; exact hl2 k o hk hkb
    · subst h1; exact hR j _ _ ((hl2 j oj hoj hjb).resolve_left (by rw [hjun]; simp)) h2
  · refine ⟨fun j hj => ?_, fun j o hj hjb => (hb j o hj).2 hjb, hsz⟩
    have hlt := hbl j hj
    exact ((hb j _ (Array.getElem?_eq_getElem hlt)).1 hj).1

theorem wpAnyR_all {rs : List Nat} {fuel : Nat} {listed : Array Bool} {a : Act} {w : World} (hr : Region.ready md ops listed = rs) (hne : rs ≠ [])
    (h : ∀ i ∈ rs, wpOp P ops Q i (fun a' w' => R i w w' ∧ wpAnyR P md ops Q R fuel (listed.setIfInBounds i true) a' w') a w) : wpAnyR P md ops Q R (fuel + 1) listed a w :=
  ⟨fun h0 => absurd (hr ▸ h0) hne, hr ▸ h⟩

theorem wpAnyR_done {listed : Array Bool} {a : Act} {w : World} (hr : Region.ready md ops listed = []) (h : Q .normal a w) : ∀ fuel, wpAnyR P md ops Q R fuel listed a w
  | 0 => ⟨hr, h⟩
  | _ + 1 => ⟨fun _ => h, by rw [hr]; simp⟩

theorem wp_region_R {id : Nat} {a : Act} {w : World} (hm : P.follows .mixedOrders = true)
    (h : wpAnyR P .any ops Q R ops.size (Array.replicate ops.size false) a { w with drawn := w.drawn + 1 }) : (Code.region id ops true).wp P Q a w :=
  wp_region_any hm (wpAny_ofR _ _ _ _ h)
end
end Go.Ax
