/- AX: a contract over few rows holds in any heap that has them. -/
import Derived.Test.YtfkokcmnmmfcbaaAxTop
set_option linter.unusedSimpArgs false
set_option linter.unusedVariables false
set_option linter.unusedSectionVars false
namespace Go.Ax
open Go

def Row.ren (ρ : List Nat) : Row → Row
  | .dead => .dead
  | .r o d => .r o (d.ren ρ)

def freshR (g : Nat) : Hp → List Nat
  | [] => []
  | _ :: l => g :: freshR (g + 1) l

/-- The rows that were handed over as own ones, put back. -/
def putBack (ρ' : List Nat) : Hp → Hp → List Nat → Hp → Hp
  | r :: H, r' :: H', h :: hs, G => putBack ρ' H H' hs (if r.own = true then G.set h (r'.ren ρ') else G)
  | _, _, _, G => G

/-- Own rows stay own (or die); new rows are own. -/
def ownIn : Hp → Hp → Prop
  | r :: H, r' :: H' => (r.own = true → r' = .dead ∨ r'.own = true) ∧ ownIn H H'
  | [], r' :: H' => (r' = .dead ∨ r'.own = true) ∧ ownIn [] H'
  | [], [] => True
  | _ :: _, [] => False

theorem ACalls.mono {P : Program} {k : FuncId} {args : List TV} {ms : List Nat} {H : Hp} {R R' : TV → Hp → Prop} (h : ACalls P k args ms H R) (hr : ∀ t H', R t H' → R' t H') : ACalls P k args ms H R' :=
  ⟨h.1, h.2.1, fun φ Wr w vs h1 h2 h3 => (h.2.2 φ Wr w vs h1 h2 h3).mono fun _ _ ⟨φ', ret, v, H', a, b, c, d, e, f⟩ => ⟨φ', ret, v, H', a, b, c, d, e, hr _ _ f⟩⟩

theorem pb_len (ρ' : List Nat) : ∀ (H H' : Hp) (hs : List Nat) (G : Hp), (putBack ρ' H H' hs G).length = G.length
  | r :: H, r' :: H', h :: hs, G => by
    rw [putBack, pb_len ρ' H H' hs]; split <;> simp
  | [], _, _, _ => by simp [putBack]
  | _ :: _, [], _, _ => by simp [putBack]
  | _ :: _, _ :: _, [], _ => by simp [putBack]

theorem pb_get (ρ' : List Nat) : ∀ (H H' : Hp) (hs : List Nat) (G : Hp) (g : Nat) (row : Row), (putBack ρ' H H' hs G)[g]? = some row →
    (∃ (i : Nat) (r r' : Row), hs[i]? = some g ∧ H[i]? = some r ∧ r.own = true ∧ H'[i]? = some r' ∧ row = r'.ren ρ') ∨
    ((∀ (i : Nat) (r r' : Row), hs[i]? = some g → H[i]? = some r → H'[i]? = some r' → r.own = false) ∧ G[g]? = some row)
  | r :: H, r' :: H', h :: hs, G, g, row, hg => by
    rw [putBack] at hg
    rcases pb_get ρ' H H' hs _ g row hg with ⟨i, r1, r1', h1, h2, h3, h4, h5⟩ | ⟨h1, h2⟩
    · exact .inl ⟨i + 1, r1, r1', by simpa using h1, by simpa using h2, h3, by simpa using h4, h5⟩
    · split at h2
      · rename_i ho
        by_cases hgh : h = g
        · subst hgh
          have hlt : h < G.length := by
            rcases Nat.lt_or_ge h G.length with h' | h'
            · exact h'
            · rw [List.getElem?_eq_none (by simpa using h')] at h2; cases h2
          rw [List.getElem?_set_self hlt] at h2
          exact .inl ⟨0, r, r', by simp, by simp, ho, by simp, by simpa using h2.symm⟩
        · rw [List.getElem?_set_ne hgh] at h2
          refine .inr ⟨fun i r1 r1' a b c => ?_, h2⟩
          cases i with
          | zero => simp at a; exact absurd a hgh
          | succ i => exact h1 i r1 r1' (by simpa using a) (by simpa using b) (by simpa using c)
      · rename_i ho
        refine .inr ⟨fun i r1 r1' a b c => ?_, h2⟩
        cases i with
        | zero => simp at b; subst b; simpa using ho
        | succ i => exact h1 i r1 r1' (by simpa using a) (by simpa using b) (by simpa using c)
  | [], _, _, G, g, row, hg => .inr ⟨fun i r r' _ b _ => by simp at b, by simpa [putBack] using hg⟩
  | _ :: _, [], _, G, g, row, hg => .inr ⟨fun i r r' _ _ c => by simp at c, by simpa [putBack] using hg⟩
  | _ :: _, _ :: _, [], G, g, row, hg => .inr ⟨fun i r r' a _ _ => by simp at a, by simpa [putBack] using hg⟩

theorem ownIn_len : ∀ {H H' : Hp}, ownIn H H' → H.length ≤ H'.length
  | [], _, _ => by simp
  | _ :: _, _ :: _, h => by simpa using ownIn_len h.2
  | _ :: _, [], h => h.elim

theorem ownIn_get : ∀ {H H' : Hp}, ownIn H H' → ∀ (i : Nat) r', H'[i]? = some r' → (∃ r, H[i]? = some r ∧ r.own = false) ∨ r' = .dead ∨ r'.own = true
  | [], [], _, i, r', h => by simp at h
  | [], r0 :: H', ho, 0, r', h => by simp at h; subst h; exact .inr ho.1
  | [], r0 :: H', ho, i + 1, r', h => by
    rcases ownIn_get ho.2 i r' (by simpa using h) with ⟨r, hr, _⟩ | h1
    · simp at hr
    · exact .inr h1
  | r :: H, r0 :: H', ho, 0, r', h => by
    simp at h; subst h
    cases hr : r.own with
    | false => exact .inl ⟨r, by simp, hr⟩
    | true => exact .inr (ho.1 hr)
  | r :: H, r0 :: H', ho, i + 1, r', h => by
    rcases ownIn_get ho.2 i r' (by simpa using h) with ⟨r1, hr, h1⟩ | h1
    · exact .inl ⟨r1, by simpa using hr, h1⟩
    · exact .inr h1
  | _ :: _, [], h, _, _, _ => h.elim

theorem freshR_len : ∀ (l : Hp) (g : Nat), (freshR g l).length = l.length
  | [], _ => rfl
  | _ :: l, g => by simp [freshR, freshR_len l]

theorem freshR_get : ∀ (l : Hp) (g i : Nat), i < l.length → (freshR g l)[i]? = some (g + i)
  | [], _, i, h => by simp at h
  | _ :: l, g, 0, _ => by simp [freshR]
  | _ :: l, g, i + 1, h => by
    simp only [freshR, List.getElem?_cons_succ]
    rw [freshR_get l (g + 1) i (by simpa using h)]; congr 1; omega

theorem CR.fwd {φ φ' : List Pl} {ρ : List Nat} (hφ : ∀ (i : Nat) p, φ[i]? = some p → φ'[ρ.getD i 0]? = some p) {c : C} {y : Value} (hc : CR φ c y) : CR φ' (c.ren ρ) y := by
  cases c with
  | any => trivial
  | v x => exact hc
  | sl e h off len => obtain ⟨p, a, cap, hp, r⟩ := hc; exact ⟨p, a, cap, hφ h p hp, r⟩
  | ptr h i s => obtain ⟨p, hp, r⟩ := hc; exact ⟨p, hφ h p hp, r⟩
  | fn f cs =>
    obtain ⟨vs, hy, hf⟩ := hc
    exact ⟨vs, hy, F2.map_left (hf.mono fun c z ⟨p, hp, hz⟩ => ⟨p, hφ _ p hp, hz⟩)⟩

theorem AVR.fwd {φ φ' : List Pl} {ρ : List Nat} (hφ : ∀ (i : Nat) p, φ[i]? = some p → φ'[ρ.getD i 0]? = some p) {c : AV} {y : Value} (hc : AVR φ c y) : AVR φ' (c.ren ρ) y := by
  cases c with
  | c x => exact CR.fwd hφ hc
  | agg xs => obtain ⟨ys, hy, hf⟩ := hc; exact ⟨ys, hy, F2.map_left (hf.mono fun _ _ => CR.fwd hφ)⟩

theorem TR.fwd {φ φ' : List Pl} {ρ : List Nat} (hφ : ∀ (i : Nat) p, φ[i]? = some p → φ'[ρ.getD i 0]? = some p) {c : TV} {y : Value} (hc : TR φ c y) : TR φ' (c.ren ρ) y := by
  cases c with
  | a x => exact AVR.fwd hφ hc
  | tup xs => obtain ⟨ys, hy, hf⟩ := hc; exact ⟨ys, hy, F2.map_left (hf.mono fun _ _ => AVR.fwd hφ)⟩

theorem RowOK.fwd {φ φ' : List Pl} {ρ : List Nat} {Wr Wr' : Nat → Prop} {w : World} {p : Pl} {row : Row} (hφ : ∀ (i : Nat) p, φ[i]? = some p → φ'[ρ.getD i 0]? = some p) (hW : ∀ k, Wr k → Wr' k) (h : RowOK φ Wr w p row) : RowOK φ' Wr' w p (row.ren ρ) := by
  cases row with
  | dead => trivial
  | r own d =>
    refine ⟨by rw [esz_ren]; exact h.1, fun i c hi => ?_, fun ho => ?_⟩
    · rw [den_ren, List.getElem?_map] at hi
      cases hd : d.den[i]? with
      | none => rw [hd] at hi; simp at hi
      | some c0 =>
        rw [hd] at hi; simp at hi; subst hi
        obtain ⟨y, hy, hc⟩ := h.2.1 i c0 hd
        exact ⟨y, hy, CR.fwd hφ hc⟩
    · have := h.2.2 ho
      rw [den_ren, List.length_map]
      refine ⟨this.1, this.2.1, ?_⟩
      rcases this.2.2 with h0 | ⟨h1, h2⟩
      · exact .inl h0
      · exact .inr ⟨hW _ h1, h2⟩

theorem ren_own (ρ : List Nat) (r : Row) : (r.ren ρ).own = r.own := by cases r <;> rfl
theorem ren_den (ρ : List Nat) (r : Row) : (r.ren ρ).den = r.den.map (C.ren ρ) := by
  cases r with
  | dead => rfl
  | r o d => exact den_ren d

/-- An own row that says something has room. -/
theorem own_room {φ : List Pl} {Wr : Nat → Prop} {w : World} {p : Pl} {row : Row} (h : RowOK φ Wr w p row) (ho : row.own = true) (hs : row.den ≠ [] ∨ (row.own = true ∧ p.room ≠ 0)) : p.room ≠ 0 := by
  rcases hs with hs | hs
  · intro h0
    cases row with
    | dead => simp [Row.own] at ho
    | r o d =>
      have ho' : o = true := ho
      have := (h.2.2 ho').1
      rw [h0] at this
      exact hs (List.eq_nil_of_length_eq_zero (by simp only [Row.den]; omega))
  · exact hs.2

def liftH (ρ : List Nat) (H H' G : Hp) : Hp :=
  putBack (ρ ++ freshR G.length (H'.drop H.length)) H H' ρ G ++ (H'.drop H.length).map (Row.ren (ρ ++ freshR G.length (H'.drop H.length)))

def liftT (ρ : List Nat) (H H' G : Hp) (t : TV) : TV := t.ren (ρ ++ freshR G.length (H'.drop H.length))

theorem ACalls.lift {P : Program} {k : FuncId} {args gargs : List TV} {ms gms : List Nat} {H G : Hp} {R R' : TV → Hp → Prop} (hl : ACalls P k args ms H R) (ρ : List Nat) (hnd : ρ.Nodup) (hin : ∀ h ∈ ρ, h < G.length)
    (hrows : rowsLe ρ G ρ H) (hargs : gargs = args.map (TV.ren ρ)) (hhs : ∀ t ∈ args, ∀ h ∈ t.hs, h < ρ.length) (hms : gms = ms.map fun m => ρ.getD m 0)
    (hR : ∀ t H', R t H' → ownIn H H' ∧ R' (liftT ρ H H' G t) (liftH ρ H H' G)) : ACalls P k gargs gms G R' := by
  subst hargs; subst hms
  have hHl := rowsLe_len hrows
  have hρ : ∀ (i : Nat) row, H[i]? = some row → ∃ h old, ρ[i]? = some h ∧ ρ.getD i 0 = h ∧ G[h]? = some old ∧ rowLe ρ row (some old) := fun i row hi => by
    obtain ⟨h, hh, hle⟩ := rowsLe_get hrows i row hi
    have hlt := hin h (List.mem_of_getElem? hh)
    exact ⟨h, G[h], hh, by simp [List.getD, hh], List.getElem?_eq_getElem hlt, by rw [List.getElem?_eq_getElem hlt] at hle; exact hle⟩
  have hown : ∀ (i : Nat) d, H[i]? = some (.r true d) → ∃ h d', ρ[i]? = some h ∧ ρ.getD i 0 = h ∧ G[h]? = some (.r true d') := fun i d hi => by
    obtain ⟨h, old, h1, h2, h3, h4⟩ := hρ i _ hi
    cases old with
    | dead => exact h4.elim
    | r o d' =>
      have : o = true := h4.1 rfl
      subst this
      exact ⟨h, d', h1, h2, h3⟩
  refine ⟨hl.1, fun m hm => ?_, fun φ Wr w vs hRH hW hvs => ?_⟩
  · simp only [List.mem_map] at hm
    obtain ⟨i, hi, rfl⟩ := hm
    obtain ⟨d, hd⟩ := hl.2.1 i hi
    obtain ⟨h, d', _, h2, h3⟩ := hown i d hd
    exact ⟨d', by rw [h2]; exact h3⟩
  obtain ⟨φl, hφl, hget, hRl⟩ := weak_rh hRH hnd hin hrows
  have hvl : F2 (TR φl) args vs := (F2.of_map hvs).hs_mono fun a b ha hr => TR.ren hget (hhs a ha) hr
  -- what the callee may write: its own rows and new blocks
  let Wl : Nat → Prop := fun k => w.heap.size ≤ k ∨ ∃ (i : Nat) (d : Dat) (p : Pl), H[i]? = some (.r true d) ∧ φl[i]? = some p ∧ p.room ≠ 0 ∧ p.blk = k
  have hRl' : RH φl Wl H w := hRl.wr fun i d p hi hp hrm _ => .inr ⟨i, d, p, hi, hp, hrm, rfl⟩
  have hglob : ∀ (i : Nat) d p, H[i]? = some (.r true d) → φl[i]? = some p → ∃ h d', ρ[i]? = some h ∧ G[h]? = some (.r true d') ∧ φ[h]? = some p := fun i d p hi hp => by
    obtain ⟨h, d', h1, h2, h3⟩ := hown i d hi
    have hil : i < ρ.length := by
      rcases Nat.lt_or_ge i ρ.length with h' | h'
      · exact h'
      · rw [List.getElem?_eq_none h'] at h1; cases h1
    rw [hget i hil, h2] at hp
    exact ⟨h, d', h1, h3, hp⟩
  have hWl : ∀ k, Wl k → Wr k := fun k hk => by
    rcases hk with hk | ⟨i, d, p, hi, hp, hrm, rfl⟩
    · exact hW k hk
    · obtain ⟨h, d', _, h3, h4⟩ := hglob i d p hi hp
      rcases ((hRH.row h _ p h3 h4).2.2 rfl).2.2 with h0 | ⟨h1, _⟩
      · exact absurd h0 hrm
      · exact h1
  refine (hl.2.2 φl Wl w vs hRl' (fun b hb => .inl hb) hvl).mono fun e w' he => ?_
  obtain ⟨φl', ret, v, H', rfl, hpre, hret, hRH', hk, hRr⟩ := he
  obtain ⟨hoi, hR'⟩ := hR _ _ hRr
  have hHH' := ownIn_len hoi
  obtain ⟨ρ', hρ'⟩ : ∃ ρ', ρ' = ρ ++ freshR G.length (H'.drop H.length) := ⟨_, rfl⟩
  have hlen' : φl'.length = H'.length := hRH'.len
  -- the new places
  obtain ⟨φ', hφ'⟩ : ∃ φ', φ' = φ ++ φl'.drop H.length := ⟨_, rfl⟩
  have hpre' : φ <+: φ' := ⟨_, hφ'.symm⟩
  have hfw : ∀ (i : Nat) p, φl'[i]? = some p → φ'[ρ'.getD i 0]? = some p := fun i p hp => by
    have hil : i < φl'.length := by
      rcases Nat.lt_or_ge i φl'.length with h' | h'
      · exact h'
      · rw [List.getElem?_eq_none h'] at hp; cases hp
    rcases Nat.lt_or_ge i ρ.length with h1 | h1
    · have e1 : ρ'.getD i 0 = ρ.getD i 0 := by rw [hρ']; simp [List.getD, List.getElem?_append_left h1]
      have e2 : φl[i]? = some p := by
        have hil2 : i < φl.length := by rw [hφl]; exact h1
        have := pre_get hpre (List.getElem?_eq_getElem hil2)
        rw [hp] at this
        rw [List.getElem?_eq_getElem hil2]; exact this.symm
      rw [e1]
      exact pre_get hpre' (by rw [← hget i h1]; exact e2)
    · have hd : i - ρ.length < (H'.drop H.length).length := by rw [List.length_drop, hHl]; omega
      have e1 : ρ'.getD i 0 = G.length + (i - ρ.length) := by
        rw [hρ']
        simp only [List.getD, List.getElem?_append_right h1]
        rw [freshR_get _ _ _ hd]; rfl
      rw [e1, hφ', List.getElem?_append_right (by rw [hRH.len]; omega), List.getElem?_drop, hRH.len, hHl]
      rw [show ρ.length + (G.length + (i - ρ.length) - G.length) = i by omega]; exact hp
  -- a row of G that is not handed over as own: its block stays
  have hstay : ∀ (g : Nat) row p, G[g]? = some row → φ[g]? = some p → (∀ (i : Nat) r, ρ[i]? = some g → H[i]? = some r → r.own = false) → (row.den ≠ [] ∨ (row.own = true ∧ p.room ≠ 0)) → ∀ (j : Nat) d q, H[j]? = some (.r true d) → φl[j]? = some q → q.room ≠ 0 → q.blk ≠ p.blk := fun g row p hg hp hno hs j d q hj hq hqr => by
    obtain ⟨h, d', h1, h2, h3⟩ := hglob j d q hj hq
    have hne : h ≠ g := fun e => by subst e; have := hno j _ h1 hj; simp [Row.own] at this
    exact hRH.sep h g _ row q p hne h2 hg h3 hp rfl hqr hs
  have hblk : ∀ (g : Nat) row p, G[g]? = some row → φ[g]? = some p → (∀ (i : Nat) r, ρ[i]? = some g → H[i]? = some r → r.own = false) → (row.den ≠ [] ∨ (row.own = true ∧ p.room ≠ 0)) → w'.heap[p.blk]? = w.heap[p.blk]? := fun g row p hg hp hno hs => by
    refine hk.block _ ((hRH.row g row p hg hp).lt hs) fun m hm q hq hqr => ?_
    obtain ⟨d, hd⟩ := hl.2.1 m hm
    exact hstay g row p hg hp hno hs m d q hd hq hqr
  have hno_of : ∀ g, (∀ (i : Nat) (r r' : Row), ρ[i]? = some g → H[i]? = some r → H'[i]? = some r' → r.own = false) → ∀ (i : Nat) r, ρ[i]? = some g → H[i]? = some r → r.own = false := fun g h i r h1 h2 => by
    have hil : i < H.length := by
      rcases Nat.lt_or_ge i H.length with h' | h'
      · exact h'
      · rw [List.getElem?_eq_none h'] at h2; cases h2
    exact h i r H'[i] h1 h2 (List.getElem?_eq_getElem (by omega))
  have hGl : (liftH ρ H H' G) = putBack ρ' H H' ρ G ++ (H'.drop H.length).map (Row.ren ρ') := by rw [hρ']; rfl
  -- every row of the new heap: a row of the callee's heap, or an old one that stays
  have key : ∀ (g : Nat) row p, (liftH ρ H H' G)[g]? = some row → φ'[g]? = some p →
      (∃ (i : Nat) (r' : Row), g = ρ'.getD i 0 ∧ H'[i]? = some r' ∧ row = r'.ren ρ' ∧ φl'[i]? = some p ∧ (r' = .dead ∨ r'.own = true)) ∨
      (g < G.length ∧ G[g]? = some row ∧ φ[g]? = some p ∧ ∀ (i : Nat) r, ρ[i]? = some g → H[i]? = some r → r.own = false) := fun g row p hg hp => by
    rw [hGl] at hg
    have hpl := pb_len ρ' H H' ρ G
    rcases Nat.lt_or_ge g G.length with hlt | hge
    · rw [List.getElem?_append_left (by rw [hpl]; exact hlt)] at hg
      rw [hφ', List.getElem?_append_left (by rw [hRH.len]; exact hlt)] at hp
      rcases pb_get ρ' H H' ρ G g row hg with ⟨i, r, r', h1, h2, h3, h4, h5⟩ | ⟨h1, h2⟩
      · left
        have hil : i < ρ.length := by
          rcases Nat.lt_or_ge i ρ.length with h' | h'
          · exact h'
          · rw [List.getElem?_eq_none h'] at h1; cases h1
        refine ⟨i, r', ?_, h4, h5, ?_, ?_⟩
        · rw [hρ']; simp [List.getD, List.getElem?_append_left hil, h1]
        · refine pre_get hpre ?_
          rw [hget i hil]; simp [List.getD, h1, hp]
        · rcases ownIn_get hoi i r' h4 with ⟨r0, hr0, hf⟩ | h
          · rw [h2] at hr0; simp at hr0; subst hr0; rw [h3] at hf; cases hf
          · exact h
      · exact .inr ⟨hlt, h2, hp, hno_of g h1⟩
    · rw [List.getElem?_append_right (by rw [hpl]; exact hge), hpl, List.getElem?_map, List.getElem?_drop] at hg
      rw [hφ', List.getElem?_append_right (by rw [hRH.len]; exact hge), hRH.len, List.getElem?_drop] at hp
      left
      cases hr : H'[H.length + (g - G.length)]? with
      | none => rw [hr] at hg; simp at hg
      | some r' =>
        rw [hr] at hg; simp at hg
        refine ⟨H.length + (g - G.length), r', ?_, hr, hg.symm, hp, ?_⟩
        · have hd : g - G.length < (H'.drop H.length).length := by
            rw [List.length_drop]
            rcases Nat.lt_or_ge (H.length + (g - G.length)) H'.length with h' | h'
            · omega
            · rw [List.getElem?_eq_none h'] at hr; cases hr
          rw [hρ']
          simp only [List.getD]
          rw [List.getElem?_append_right (by rw [← hHl]; omega), show H.length + (g - G.length) - ρ.length = g - G.length by omega, freshR_get _ _ _ hd]
          simp; omega
        · rcases ownIn_get hoi _ r' hr with ⟨r0, hr0, _⟩ | h
          · rw [List.getElem?_eq_none (by omega)] at hr0; cases hr0
          · exact h
  -- an own row of the callee's heap lies in a new block or in one of its own rows' blocks
  have hnew : ∀ (i : Nat) r' p, H'[i]? = some r' → φl'[i]? = some p → r'.own = true → p.room ≠ 0 → Wl p.blk := fun i r' p hi hp ho hrm => by
    have := hRH'.row i r' p hi hp
    cases r' with
    | dead => simp [Row.own] at ho
    | r o d =>
      have ho' : o = true := ho
      rcases (this.2.2 ho').2.2 with h0 | ⟨h1, _⟩
      · exact absurd h0 hrm
      · exact h1
  have hcross : ∀ (i : Nat) r' p (g : Nat) row q, H'[i]? = some r' → φl'[i]? = some p → r'.own = true → p.room ≠ 0 → G[g]? = some row → φ[g]? = some q → (∀ (i : Nat) r, ρ[i]? = some g → H[i]? = some r → r.own = false) → (row.den ≠ [] ∨ (row.own = true ∧ q.room ≠ 0)) → p.blk ≠ q.blk := fun i r' p g row q hi hp ho hrm hg hq hno hs => by
    rcases hnew i r' p hi hp ho hrm with h1 | ⟨j, d, q', hj, hq', hqr', he⟩
    · have := (hRH.row g row q hg hq).lt hs; omega
    · have := hstay g row q hg hq hno hs j d q' hj hq' hqr'
      rw [he] at this; exact this
  refine ⟨φ', _, v, liftH ρ H H' G, rfl, hpre', ?_, ⟨?_, fun g row p hg hp => ?_, fun g g' row row' p p' hne hg hg' hp hp' ho hrm hs => ?_⟩, ?_, hR'⟩
  · show TR φ' (liftT ρ H H' G ret) v
    unfold liftT
    rw [← hρ']
    exact TR.fwd hfw hret
  · rw [hGl, hφ']
    simp only [List.length_append, pb_len, List.length_map, List.length_drop, hRH.len, hlen']
  · rcases key g row p hg hp with ⟨i, r', _, h2, rfl, h4, _⟩ | ⟨_, h2, h3, h4⟩
    · exact (hRH'.row i r' p h2 h4).fwd hfw hWl
    · exact ((hRH.row g row p h2 h3).frame fun hs => hblk g row p h2 h3 h4 hs).mono hpre'
  · rcases key g row p hg hp with ⟨i, r, e1, h2, rfl, h4, h5⟩ | ⟨_, h2, h3, h4⟩
    · rw [ren_own] at ho
      rcases key g' row' p' hg' hp' with ⟨j, r2, e2, k2, rfl, k4, k5⟩ | ⟨_, k2, k3, k4⟩
      · rw [ren_den, ren_own] at hs
        exact hRH'.sep i j r r2 p p' (fun e => hne (by rw [e1, e2, e])) h2 k2 h4 k4 ho hrm (by
          rcases hs with hs | hs
          · exact .inl fun h0 => hs (by rw [h0]; rfl)
          · exact .inr hs)
      · exact hcross i r p g' row' p' h2 h4 ho hrm k2 k3 k4 hs
    · rcases key g' row' p' hg' hp' with ⟨j, r2, e2, k2, rfl, k4, k5⟩ | ⟨_, k2, k3, k4⟩
      · rw [ren_den, ren_own] at hs
        have hs' : r2.den ≠ [] ∨ (r2.own = true ∧ p'.room ≠ 0) := by
          rcases hs with hs | hs
          · exact .inl fun h0 => hs (by rw [h0]; rfl)
          · exact .inr hs
        have ho2 : r2.own = true := by
          rcases k5 with rfl | k5
          · simp [Row.den, Row.own] at hs'
          · exact k5
        have hr2 := own_room (hRH'.row j r2 p' k2 k4) ho2 hs'
        exact (hcross j r2 p' g row p k2 k4 ho2 hr2 h2 h3 h4 (.inr ⟨ho, hrm⟩)).symm
      · exact hRH.sep g g' row row' p p' hne h2 k2 h3 k3 ho hrm hs
  · refine ⟨hk.os, hk.tape, hk.output, hk.size, fun b hb hn => hk.block b hb fun m hm q hq hqr he => ?_⟩
    obtain ⟨d, hd⟩ := hl.2.1 m hm
    obtain ⟨h, d', h1, h2, h3⟩ := hglob m d q hd hq
    refine hn h ?_ q h3 hqr he
    simp only [List.mem_map]
    exact ⟨m, hm, by simp [List.getD, h1]⟩
end Go.Ax
