/- AX: laws on how abstract values and rows relate to a world: they are kept when the world grows, when other blocks turn, when a row is put in place of a dead one. -/
import Derived.Test.YtfkokcmnmmfcbaaAxDefs
set_option linter.unusedSimpArgs false
set_option linter.unusedVariables false
set_option linter.unusedSectionVars false
namespace Go.Ax
open Go

theorem pre_get {φ φ' : List Pl} (h : φ <+: φ') {i : Nat} {p : Pl} (hp : φ[i]? = some p) : φ'[i]? = some p := by
  obtain ⟨t, rfl⟩ := h
  rw [List.getElem?_append_left]
  · exact hp
  · rcases Nat.lt_or_ge i φ.length with h | h
    · exact h
    · rw [List.getElem?_eq_none h] at hp; cases hp

theorem F2.mono {α β : Type} {R S : α → β → Prop} (h : ∀ a b, R a b → S a b) {as : List α} {bs : List β} (hf : F2 R as bs) : F2 S as bs := by
  induction hf with
  | nil => exact .nil
  | cons h1 _ ih => exact .cons (h _ _ h1) ih

theorem F2.length {α β : Type} {R : α → β → Prop} {as : List α} {bs : List β} (hf : F2 R as bs) : as.length = bs.length := by
  induction hf with
  | nil => rfl
  | cons _ _ ih => simp [ih]

theorem F2.get {α β : Type} {R : α → β → Prop} {as : List α} {bs : List β} (hf : F2 R as bs) : ∀ {i : Nat} {a : α}, as[i]? = some a → ∃ b, bs[i]? = some b ∧ R a b := by
  induction hf with
  | nil => intro i a h; simp at h
  | @cons a b as bs h1 _ ih =>
    intro i x h
    cases i with
    | zero => simp at h; subst h; exact ⟨b, by simp, h1⟩
    | succ i => simp at h; obtain ⟨b', hb, hr⟩ := ih h; exact ⟨b', by simpa using hb, hr⟩

theorem F2.of_get {α β : Type} {R : α → β → Prop} : ∀ {as : List α} {bs : List β}, as.length = bs.length → (∀ (i : Nat) a, as[i]? = some a → ∃ b, bs[i]? = some b ∧ R a b) → F2 R as bs
  | [], [], _, _ => .nil
  | a :: as, b :: bs, hl, h => by
    refine .cons ?_ (F2.of_get (by simpa using hl) fun i x hx => ?_)
    · obtain ⟨b', hb, hr⟩ := h 0 a (by simp); simp at hb; subst hb; exact hr
    · obtain ⟨b', hb, hr⟩ := h (i + 1) x (by simpa using hx); exact ⟨b', by simpa using hb, hr⟩
  | [], _ :: _, hl, _ => by simp at hl
  | _ :: _, [], hl, _ => by simp at hl

theorem F2.append {α β : Type} {R : α → β → Prop} {as cs : List α} {bs ds : List β} (h1 : F2 R as bs) (h2 : F2 R cs ds) : F2 R (as ++ cs) (bs ++ ds) := by
  induction h1 with
  | nil => exact h2
  | cons h _ ih => exact .cons h ih

theorem F2.map_left {α β γ : Type} {R : α → β → Prop} {g : γ → α} {as : List γ} {bs : List β} (h : F2 (fun c b => R (g c) b) as bs) : F2 R (as.map g) bs := by
  induction h with
  | nil => exact .nil
  | cons h _ ih => exact .cons h ih

theorem F2.of_map {α β γ : Type} {R : α → β → Prop} {g : γ → α} : ∀ {as : List γ} {bs : List β}, F2 R (as.map g) bs → F2 (fun c b => R (g c) b) as bs
  | [], _, h => by cases h; exact .nil
  | _ :: _, _, h => by cases h with | cons h1 h2 => exact .cons h1 (F2.of_map h2)

theorem CR.mono {φ φ' : List Pl} (h : φ <+: φ') {c : C} {y : Value} (hc : CR φ c y) : CR φ' c y := by
  cases c with
  | any => trivial
  | v x => exact hc
  | sl e h' off len => obtain ⟨p, a, cap, hp, r⟩ := hc; exact ⟨p, a, cap, pre_get h hp, r⟩
  | ptr h' i s => obtain ⟨p, hp, r⟩ := hc; exact ⟨p, pre_get h hp, r⟩
  | fn f caps => obtain ⟨cs, hy, hf⟩ := hc; exact ⟨cs, hy, hf.mono fun a b ⟨p, hp, r⟩ => ⟨p, pre_get h hp, r⟩⟩

theorem AVR.mono {φ φ' : List Pl} (h : φ <+: φ') {c : AV} {y : Value} (hc : AVR φ c y) : AVR φ' c y := by
  cases c with
  | c x => exact CR.mono h hc
  | agg xs => obtain ⟨ys, hy, hf⟩ := hc; exact ⟨ys, hy, hf.mono fun _ _ => CR.mono h⟩

theorem TR.mono {φ φ' : List Pl} (h : φ <+: φ') {c : TV} {y : Value} (hc : TR φ c y) : TR φ' c y := by
  cases c with
  | a x => exact AVR.mono h hc
  | tup xs => obtain ⟨ys, hy, hf⟩ := hc; exact ⟨ys, hy, hf.mono fun _ _ => AVR.mono h⟩

theorem RowOK.mono {φ φ' : List Pl} (h : φ <+: φ') {Wr : Nat → Prop} {w : World} {p : Pl} {row : Row} (hr : RowOK φ Wr w p row) : RowOK φ' Wr w p row := by
  cases row with
  | dead => trivial
  | r own d => exact ⟨hr.1, fun i c hc => let ⟨y, h1, h2⟩ := hr.2.1 i c hc; ⟨y, h1, CR.mono h h2⟩, hr.2.2⟩

theorem RA.mono {φ φ' : List Pl} (h : φ <+: φ') {n : Nat} {f : F} {a : Act} (hr : RA φ n f a) : RA φ' n f a :=
  ⟨hr.size, hr.defers, fun k t hk => let ⟨h1, y, h2, h3⟩ := hr.slot k t hk; ⟨h1, y, h2, TR.mono h h3⟩⟩

theorem cell_eq (w : World) (b o : Nat) : w.cell? ⟨b, o, none⟩ = match w.heap[b]? with | some (.cells c _ _) => c[o]? | _ => none := by
  unfold World.cell?
  rfl

theorem cell_some {w : World} {b o : Nat} {y : Value} (h : w.cell? ⟨b, o, none⟩ = some y) : ∃ c e fr, w.heap[b]? = some (.cells c e fr) ∧ c[o]? = some y := by
  rw [cell_eq] at h
  split at h
  · rename_i c e fr hb; exact ⟨c, e, fr, hb, h⟩
  · cases h

theorem lt_of_heap {w : World} {b : Nat} {o : Obj} (h : w.heap[b]? = some o) : b < w.heap.size := by
  rcases Nat.lt_or_ge b w.heap.size with h' | h'
  · exact h'
  · rw [Array.getElem?_eq_none h'] at h; cases h

/-- A row that says something lies in a block that is there. -/
theorem RowOK.lt {φ : List Pl} {Wr : Nat → Prop} {w : World} {p : Pl} {row : Row} (hr : RowOK φ Wr w p row) (hs : row.den ≠ [] ∨ (row.own = true ∧ p.room ≠ 0)) : p.blk < w.heap.size := by
  cases row with
  | dead => simp [Row.den, Row.own] at hs
  | r own d =>
    rcases hs with hs | ⟨ho, hrm⟩
    · obtain ⟨c, cs, hd⟩ := List.exists_cons_of_ne_nil hs
      obtain ⟨y, hy, _⟩ := hr.2.1 0 c (by simp only [Row.den] at hd; rw [hd]; rfl)
      obtain ⟨_, _, _, hb, _⟩ := cell_some hy
      exact lt_of_heap hb
    · rcases (hr.2.2 ho).2.2 with h0 | ⟨_, cur, e, hb, _⟩
      · exact absurd h0 hrm
      · exact lt_of_heap hb

/-- A row is as it was where its block is as it was. -/
theorem RowOK.frame {φ : List Pl} {Wr : Nat → Prop} {w w' : World} {p : Pl} {row : Row} (hr : RowOK φ Wr w p row)
    (hb : (row.den ≠ [] ∨ (row.own = true ∧ p.room ≠ 0)) → w'.heap[p.blk]? = w.heap[p.blk]?) : RowOK φ Wr w' p row := by
  cases row with
  | dead => trivial
  | r own d =>
    refine ⟨hr.1, fun i c hc => ?_, fun ho => ⟨(hr.2.2 ho).1, (hr.2.2 ho).2.1, ?_⟩⟩
    · obtain ⟨y, hy, hcr⟩ := hr.2.1 i c hc
      refine ⟨y, ?_, hcr⟩
      rw [cell_eq] at hy ⊢
      rw [hb (.inl fun h0 => by simp only [Row.den] at h0; rw [h0] at hc; simp at hc)]
      exact hy
    · rcases (hr.2.2 ho).2.2 with h0 | ⟨hw, cur, e, hbb, hsz⟩
      · exact .inl h0
      · by_cases hrm : p.room = 0
        · exact .inl hrm
        · exact .inr ⟨hw, cur, e, by rw [hb (.inr ⟨ho, hrm⟩)]; exact hbb, hsz⟩

theorem getElem?_set_ne' {α : Type} (l : List α) {i j : Nat} (x : α) (h : i ≠ j) : (l.set i x)[j]? = l[j]? := by
  rw [List.getElem?_set_ne h]

/-- Some rows are forgotten; the blocks of the others are as they were. -/
theorem RH.frame {φ : List Pl} {Wr : Nat → Prop} {H H1 : Hp} {w w' : World} (hR : RH φ Wr H w) (hl : H1.length = H.length)
    (hsub : ∀ (h : Nat) row, H1[h]? = some row → row = .dead ∨ H[h]? = some row)
    (hblk : ∀ (h : Nat) row p, H1[h]? = some row → H[h]? = some row → φ[h]? = some p → (row.den ≠ [] ∨ (row.own = true ∧ p.room ≠ 0)) → w'.heap[p.blk]? = w.heap[p.blk]?) : RH φ Wr H1 w' where
  len := by rw [hR.len, hl]
  row := fun h row p hh hp => by
    rcases hsub h row hh with rfl | h'
    · trivial
    · exact (hR.row h row p h' hp).frame fun hs => hblk h row p hh h' hp hs
  sep := fun h h' row row' p p' hne h1 h2 hp hp' ho hrm hs => by
    rcases hsub h row h1 with rfl | h1'
    · simp [Row.own] at ho
    · rcases hsub h' row' h2 with rfl | h2'
      · simp [Row.den, Row.own] at hs
      · exact hR.sep h h' row row' p p' hne h1' h2' hp hp' ho hrm hs

theorem RH.same {φ : List Pl} {Wr : Nat → Prop} {H : Hp} {w w' : World} (hR : RH φ Wr H w) (hb : ∀ k, k < w.heap.size → w'.heap[k]? = w.heap[k]?) : RH φ Wr H w' :=
  hR.frame rfl (fun _ _ h => .inr h) fun h row p h1 _ hp hs => hb _ ((hR.row h row p h1 hp).lt hs)

/-- A new row behind the others. -/
theorem RH.push {φ : List Pl} {Wr : Nat → Prop} {H : Hp} {w : World} (hR : RH φ Wr H w) {p : Pl} {row : Row} (hrow : RowOK (φ ++ [p]) Wr w p row)
    (hsep : ∀ (h : Nat) row' p', H[h]? = some row' → φ[h]? = some p' → (row.den ≠ [] ∨ (row.own = true ∧ p.room ≠ 0)) → (row'.den ≠ [] ∨ (row'.own = true ∧ p'.room ≠ 0)) → ((row.own = true ∧ p.room ≠ 0) ∨ (row'.own = true ∧ p'.room ≠ 0)) → p.blk ≠ p'.blk) :
    RH (φ ++ [p]) Wr (H ++ [row]) w where
  len := by simp [hR.len]
  row := fun h row' p' hh hp => by
    rcases Nat.lt_or_ge h H.length with hlt | hge
    · rw [List.getElem?_append_left hlt] at hh
      rw [List.getElem?_append_left (by rw [hR.len]; exact hlt)] at hp
      exact (hR.row h row' p' hh hp).mono ⟨[p], rfl⟩
    · rw [List.getElem?_append_right hge] at hh
      rw [List.getElem?_append_right (by rw [hR.len]; exact hge)] at hp
      cases hk : h - H.length with
      | zero =>
        rw [hk] at hh; rw [hR.len, hk] at hp
        simp at hh hp
        subst hh; subst hp
        exact hrow
      | succ k => rw [hk] at hh; simp at hh
  sep := fun h h' row1 row2 p1 p2 hne h1 h2 hp1 hp2 ho hrm hs => by
    have key : ∀ (h : Nat) r q, (H ++ [row])[h]? = some r → (φ ++ [p])[h]? = some q → (h < H.length ∧ H[h]? = some r ∧ φ[h]? = some q) ∨ (h = H.length ∧ r = row ∧ q = p) := fun h r q hh hp => by
      rcases Nat.lt_or_ge h H.length with hlt | hge
      · rw [List.getElem?_append_left hlt] at hh
        rw [List.getElem?_append_left (by rw [hR.len]; exact hlt)] at hp
        exact .inl ⟨hlt, hh, hp⟩
      · rw [List.getElem?_append_right hge] at hh
        rw [List.getElem?_append_right (by rw [hR.len]; exact hge)] at hp
        cases hk : h - H.length with
        | zero =>
          rw [hk] at hh; rw [hR.len, hk] at hp
          simp at hh hp
          exact .inr ⟨by omega, hh.symm, hp.symm⟩
        | succ k => rw [hk] at hh; simp at hh
    rcases key h row1 p1 h1 hp1 with ⟨l1, a1, b1⟩ | ⟨l1, rfl, rfl⟩
    · rcases key h' row2 p2 h2 hp2 with ⟨l2, a2, b2⟩ | ⟨l2, rfl, rfl⟩
      · exact hR.sep h h' row1 row2 p1 p2 hne a1 a2 b1 b2 ho hrm hs
      · exact (hsep h row1 p1 a1 b1 hs (.inr ⟨ho, hrm⟩) (.inr ⟨ho, hrm⟩)).symm
    · rcases key h' row2 p2 h2 hp2 with ⟨l2, a2, b2⟩ | ⟨l2, rfl, rfl⟩
      · exact hsep h' row2 p2 a2 b2 (.inr ⟨ho, hrm⟩) hs (.inl ⟨ho, hrm⟩)
      · exact absurd (l1.trans l2.symm) hne

/-- A row in the place of a dead one. -/
theorem RH.put {φ : List Pl} {Wr : Nat → Prop} {H : Hp} {w : World} (hR : RH φ Wr H w) {i : Nat} {p : Pl} {row : Row} (hi : H[i]? = some .dead) (hp : φ[i]? = some p) (hrow : RowOK φ Wr w p row)
    (hsep : ∀ (h : Nat) row' p', h ≠ i → H[h]? = some row' → φ[h]? = some p' → (row.den ≠ [] ∨ (row.own = true ∧ p.room ≠ 0)) → (row'.den ≠ [] ∨ (row'.own = true ∧ p'.room ≠ 0)) → ((row.own = true ∧ p.room ≠ 0) ∨ (row'.own = true ∧ p'.room ≠ 0)) → p.blk ≠ p'.blk) :
    RH φ Wr (H.set i row) w := by
  have hlt : i < H.length := by
    rcases Nat.lt_or_ge i H.length with h | h
    · exact h
    · rw [List.getElem?_eq_none h] at hi; cases hi
  have key : ∀ (h : Nat) r, (H.set i row)[h]? = some r → (h ≠ i ∧ H[h]? = some r) ∨ (h = i ∧ r = row) := fun h r hh => by
    by_cases hhi : h = i
    · subst hhi; rw [List.getElem?_set_self hlt] at hh; exact .inr ⟨rfl, by simpa using hh.symm⟩
    · rw [List.getElem?_set_ne (Ne.symm hhi)] at hh; exact .inl ⟨hhi, hh⟩
  refine ⟨by rw [hR.len]; simp, fun h r q hh hq => ?_, fun h h' row1 row2 p1 p2 hne h1 h2 hp1 hp2 ho hrm hs => ?_⟩
  · rcases key h r hh with ⟨_, h'⟩ | ⟨rfl, rfl⟩
    · exact hR.row h r q h' hq
    · rw [hp] at hq; cases hq; exact hrow
  · rcases key h row1 h1 with ⟨n1, a1⟩ | ⟨e1, rfl⟩
    · rcases key h' row2 h2 with ⟨n2, a2⟩ | ⟨e2, rfl⟩
      · exact hR.sep h h' row1 row2 p1 p2 hne a1 a2 hp1 hp2 ho hrm hs
      · subst e2; rw [hp] at hp2; cases hp2
        exact (hsep h row1 p1 n1 a1 hp1 hs (.inr ⟨ho, hrm⟩) (.inr ⟨ho, hrm⟩)).symm
    · subst e1
      rw [hp] at hp1; cases hp1
      rcases key h' row2 h2 with ⟨n2, a2⟩ | ⟨e2, rfl⟩
      · exact hsep h' row2 p2 n2 a2 hp2 (.inr ⟨ho, hrm⟩) hs (.inl ⟨ho, hrm⟩)
      · exact absurd e2.symm hne

theorem RH.get {φ : List Pl} {Wr : Nat → Prop} {H : Hp} {w : World} (hR : RH φ Wr H w) {h : Nat} {row : Row} (hh : H[h]? = some row) : ∃ p, φ[h]? = some p ∧ RowOK φ Wr w p row := by
  have hlt : h < H.length := by
    rcases Nat.lt_or_ge h H.length with h' | h'
    · exact h'
    · rw [List.getElem?_eq_none h'] at hh; cases hh
  rw [← hR.len] at hlt
  exact ⟨φ[h], List.getElem?_eq_getElem hlt, hR.row h row _ hh (List.getElem?_eq_getElem hlt)⟩

/-- An own row turned in its place: only its block has turned. -/
theorem RH.upd {φ : List Pl} {Wr : Nat → Prop} {H : Hp} {w w' : World} (hR : RH φ Wr H w) {h : Nat} {d d' : Dat} {p : Pl} (hh : H[h]? = some (.r true d)) (hp : φ[h]? = some p)
    (hoth : ∀ k, k < w.heap.size → k ≠ p.blk → w'.heap[k]? = w.heap[k]?) (hrm : p.room ≠ 0) (hrow : RowOK φ Wr w' p (.r true d')) : RH φ Wr (H.set h (.r true d')) w' := by
  have hlt : h < H.length := by
    rcases Nat.lt_or_ge h H.length with h' | h'
    · exact h'
    · rw [List.getElem?_eq_none h'] at hh; cases hh
  have h1 : RH φ Wr (H.set h .dead) w' := hR.frame (by simp)
    (fun k row hk => by
      by_cases hkh : k = h
      · subst hkh; rw [List.getElem?_set_self hlt] at hk; exact .inl (by simpa using hk.symm)
      · rw [List.getElem?_set_ne (Ne.symm hkh)] at hk; exact .inr hk)
    (fun k row q hk hk' hq hs => by
      by_cases hkh : k = h
      · subst hkh; rw [List.getElem?_set_self hlt] at hk; simp at hk; subst hk; simp [Row.den, Row.own] at hs
      · exact hoth _ ((hR.row k row q hk' hq).lt hs) (hR.sep h k _ row p q (Ne.symm hkh) hh hk' hp hq rfl hrm hs).symm)
  have h2 := h1.put (i := h) (row := .r true d') (by rw [List.getElem?_set_self hlt]) hp hrow (fun k row q hk hk' hq hs hs' hor => by
    rw [List.getElem?_set_ne (Ne.symm hk)] at hk'
    exact hR.sep h k _ row p q (Ne.symm hk) hh hk' hp hq rfl hrm hs')
  rwa [List.set_set] at h2

/-- An own row leaves its handle for a new one; its block may have turned. -/
theorem RH.move {φ : List Pl} {Wr : Nat → Prop} {H : Hp} {w w' : World} (hR : RH φ Wr H w) {h : Nat} {d d' : Dat} {p p' : Pl} (hh : H[h]? = some (.r true d)) (hp : φ[h]? = some p)
    (hoth : ∀ k, k < w.heap.size → (p.room ≠ 0 → k ≠ p.blk) → w'.heap[k]? = w.heap[k]?)
    (hnew : (p'.blk = p.blk ∧ p.room ≠ 0) ∨ w.heap.size ≤ p'.blk ∨ p'.room = 0) (hrow : RowOK (φ ++ [p']) Wr w' p' (.r true d')) : RH (φ ++ [p']) Wr (H.set h .dead ++ [.r true d']) w' := by
  have hlt : h < H.length := by
    rcases Nat.lt_or_ge h H.length with h' | h'
    · exact h'
    · rw [List.getElem?_eq_none h'] at hh; cases hh
  have h1 : RH φ Wr (H.set h .dead) w' := hR.frame (by simp)
    (fun k row hk => by
      by_cases hkh : k = h
      · subst hkh; rw [List.getElem?_set_self hlt] at hk; exact .inl (by simpa using hk.symm)
      · rw [List.getElem?_set_ne (Ne.symm hkh)] at hk; exact .inr hk)
    (fun k row q hk hk' hq hs => by
      by_cases hkh : k = h
      · subst hkh; rw [List.getElem?_set_self hlt] at hk; simp at hk; subst hk; simp [Row.den, Row.own] at hs
      · exact hoth _ ((hR.row k row q hk' hq).lt hs) fun hrm => (hR.sep h k _ row p q (Ne.symm hkh) hh hk' hp hq rfl hrm hs).symm)
  refine h1.push hrow (fun k row q hk hq hs hs' hor => ?_)
  by_cases hkh : k = h
  · subst hkh; rw [List.getElem?_set_self hlt] at hk; simp at hk; subst hk; simp [Row.den, Row.own] at hs'
  rw [List.getElem?_set_ne (Ne.symm hkh)] at hk
  rcases hnew with ⟨he, hrm⟩ | hge | h0
  · rw [he]; exact hR.sep h k _ row p q (Ne.symm hkh) hh hk hp hq rfl hrm hs'
  · have := (hR.row k row q hk hq).lt hs'; omega
  · have h3 := (hrow.2.2 rfl).1
    rw [h0] at h3
    simp [Row.den, Row.own] at hs
    rcases hs with hs | hs
    · exact absurd (List.eq_nil_of_length_eq_zero (by omega)) hs
    · exact absurd h0 hs

theorem Keep.refl (φ : List Pl) (ms : List Nat) (w : World) : Keep φ ms w w := ⟨rfl, rfl, rfl, Nat.le_refl _, fun _ _ _ => rfl⟩

theorem heap_alloc_lt (w : World) (o : Obj) {k : Nat} (h : k < w.heap.size) : (w.alloc o).heap[k]? = w.heap[k]? := by
  show (w.heap.push o)[k]? = _
  rw [Array.getElem?_push, if_neg (by omega)]

theorem heap_alloc_at (w : World) (o : Obj) : (w.alloc o).heap[w.heap.size]? = some o := by
  show (w.heap.push o)[w.heap.size]? = _
  rw [Array.getElem?_push, if_pos rfl]

theorem size_alloc' (w : World) (o : Obj) : (w.alloc o).heap.size = w.heap.size + 1 := by
  show (w.heap.push o).size = _
  simp

theorem Keep.alloc (φ : List Pl) (w : World) (o : Obj) : Keep φ [] w (w.alloc o) := ⟨rfl, rfl, rfl, by rw [size_alloc']; omega, fun _ hk _ => heap_alloc_lt w o hk⟩

/-- A new own row in a new block. -/
theorem RH.alloc {φ : List Pl} {Wr : Nat → Prop} {H : Hp} {w w' : World} (hR : RH φ Wr H w) (hW : ∀ b, w.heap.size ≤ b → Wr b) {d : Dat} {cur : Array Value} {e : TypeId} {room : Nat}
    (hlt : ∀ k, k < w.heap.size → w'.heap[k]? = w.heap[k]?) (hat : w'.heap[w.heap.size]? = some (.cells cur e (0, 0)))
    (hsz : cur.size = room * d.esz) (hlen : d.den.length ≤ room * d.esz) (hc : ∀ (i : Nat) c, d.den[i]? = some c → ∃ y, cur[i]? = some y ∧ CR φ c y) :
    RH (φ ++ [⟨w.heap.size, 0, room, d.esz⟩]) Wr (H ++ [.r true d]) w' := by
  have hR' : RH φ Wr H w' := hR.same hlt
  refine hR'.push ⟨rfl, fun i c hi => ?_, fun _ => ⟨hlen, rfl, .inr ⟨hW _ (Nat.le_refl _), cur, e, hat, hsz⟩⟩⟩ (fun h row' p' hh hp _ hs' _ => ?_)
  · obtain ⟨y, hy, hcr⟩ := hc i c hi
    exact ⟨y, by rw [cell_eq]; simp only [hat]; simpa using hy, CR.mono ⟨_, rfl⟩ hcr⟩
  · have := (hR.row h row' p' hh hp).lt hs'
    simp; omega

theorem RA.put {φ : List Pl} {n : Nat} {f : F} {a : Act} (hr : RA φ n f a) {d : Option Nat} {t : TV} {y : Value} (hd : ∀ k, d = some k → k < n) (ht : TR φ t y) : RA φ n (put f d t) (a.put d y) := by
  cases d with
  | none => exact hr
  | some d =>
    refine ⟨by simp [Act.put, hr.size], by simp [Act.put, hr.defers], fun k t' hk => ?_⟩
    simp only [Go.Ax.put, get] at hk
    by_cases hkd : k = d
    · subst hkd
      simp at hk
      subst hk
      exact ⟨hd k rfl, y, by simp [Act.put, hr.size, hd k rfl], ht⟩
    · rw [if_neg hkd] at hk
      obtain ⟨h1, y', h2, h3⟩ := hr.slot k t' hk
      exact ⟨h1, y', by simp only [Act.put]; rw [Array.getElem?_setIfInBounds_ne (Ne.symm hkd)]; exact h2, h3⟩

/-- A slot that is not written stays as it was; what is written where nothing is known of it is of no account. -/
theorem RA.put_any {φ : List Pl} {n : Nat} {f : F} {a : Act} (hr : RA φ n f a) (d : Option Nat) (y : Value) (hf : ∀ k, d = some k → get f k = none) : RA φ n f (a.put d y) := by
  cases d with
  | none => exact hr
  | some d =>
    refine ⟨by simp [Act.put, hr.size], by simp [Act.put, hr.defers], fun k t hk => ?_⟩
    have hkd : k ≠ d := fun h => by rw [h, hf d rfl] at hk; cases hk
    obtain ⟨h1, y', h2, h3⟩ := hr.slot k t hk
    exact ⟨h1, y', by simp only [Act.put]; rw [Array.getElem?_setIfInBounds_ne (Ne.symm hkd)]; exact h2, h3⟩

theorem F2_v {φ : List Pl} : ∀ (l : List Value), F2 (CR φ) (l.map .v) l
  | [] => .nil
  | _ :: l => .cons rfl (F2_v l)

theorem TR_ofV (φ : List Pl) (v : Value) : TR φ (ofV v) v := by
  cases v <;> first | exact rfl | exact ⟨_, by simp, F2_v _⟩

theorem RA.ev {φ : List Pl} {n : Nat} {f : F} {a : Act} (hr : RA φ n f a) {x : Operand} {t : TV} (h : aev f x = some t) : TR φ t (a.eval x) := by
  cases x with
  | tmp k =>
    obtain ⟨_, y, h2, h3⟩ := hr.slot k t h
    simp only [Act.eval]
    rw [Array.getD_eq_getD_getElem?, h2]
    exact h3
  | const v => simp only [aev, Option.some.injEq] at h; subst h; exact TR_ofV φ v
  | global g => simp [aev] at h
  | func k => simp only [aev, Option.some.injEq] at h; subst h; exact ⟨[], rfl, .nil⟩

theorem RA.evs {φ : List Pl} {n : Nat} {f : F} {a : Act} (hr : RA φ n f a) : ∀ {xs : List Operand} {ts : List TV}, aevs f xs = some ts → F2 (TR φ) ts (xs.map a.eval)
  | [], ts, h => by simp [aevs] at h; subst h; exact .nil
  | x :: xs, ts, h => by
    simp only [aevs] at h
    split at h
    · rename_i t ts' h1 h2
      simp at h; subst h
      exact .cons (hr.ev h1) (hr.evs h2)
    · cases h

end Go.Ax
