/- AX: loads, stores and the operations that make memory: what the model's own step does is what the abstract one says. -/
import Derived.Test.YtfkokcmnmmfcbaaAxPure
set_option linter.unusedSimpArgs false
set_option linter.unusedVariables false
set_option linter.unusedSectionVars false
namespace Go.Ax
open Go

/-! ### Rows -/

theorem recs_get : ∀ (rs : List (Int × Int)) (i : Nat), i < rs.length →
    (Dat.recs rs).den[i * 2]? = some (.v (.int .i64 (rs.getD i (0, 0)).1)) ∧ (Dat.recs rs).den[i * 2 + 1]? = some (.v (.int .i64 (rs.getD i (0, 0)).2))
  | [], i, h => by simp at h
  | r :: rs, 0, _ => by simp [Dat.den]
  | r :: rs, i + 1, h => by
    have ih := recs_get rs i (by simpa using h)
    have e1 : (i + 1) * 2 = i * 2 + 2 := by omega
    rw [e1]
    simp only [Dat.den, List.flatMap_cons, List.cons_append, List.nil_append, List.getElem?_cons_succ, List.getD_cons_succ] at ih ⊢
    exact ih

theorem recs_len (rs : List (Int × Int)) : (Dat.recs rs).den.length = rs.length * 2 := by
  induction rs with
  | nil => rfl
  | cons r rs ih => simp only [Dat.den, List.flatMap_cons, List.length_append, List.length_cons, List.length_nil] at ih ⊢; omega

theorem recs_drop : ∀ (rs : List (Int × Int)) (o : Nat), (Dat.recs (rs.drop o)).den = (Dat.recs rs).den.drop (o * 2)
  | rs, 0 => by simp
  | [], o + 1 => by simp [Dat.den]
  | r :: rs, o + 1 => by
    have ih := recs_drop rs o
    rw [show (o + 1) * 2 = o * 2 + 2 by omega]
    simp only [Dat.den, List.flatMap_cons, List.drop_succ_cons, List.cons_append, List.nil_append] at ih ⊢
    exact ih

theorem recs_take : ∀ (rs : List (Int × Int)) (o : Nat), (Dat.recs (rs.take o)).den = (Dat.recs rs).den.take (o * 2)
  | rs, 0 => by simp [Dat.den]
  | [], o + 1 => by simp [Dat.den]
  | r :: rs, o + 1 => by
    have ih := recs_take rs o
    rw [show (o + 1) * 2 = o * 2 + 2 by omega]
    simp only [Dat.den, List.flatMap_cons, List.take_succ_cons, List.cons_append, List.nil_append] at ih ⊢
    rw [ih]

theorem ld_ok {d : Dat} {i s : Nat} {vc : Prop} {c : C} (h : d.ld i s = some (vc, c)) (hvc : vc) : d.den[i * d.esz + s]? = some c := by
  unfold Dat.ld at h
  split at h
  · simp only [Option.some.injEq, Prod.mk.injEq] at h; obtain ⟨rfl, rfl⟩ := h; simp [Dat.den, Dat.esz, hvc]
  · simp only [Option.some.injEq, Prod.mk.injEq] at h; obtain ⟨rfl, rfl⟩ := h; simp [Dat.den, Dat.esz, hvc]
  · simp only [Option.some.injEq, Prod.mk.injEq] at h; obtain ⟨rfl, rfl⟩ := h; simpa [Dat.esz] using (recs_get _ _ hvc).1
  · simp only [Option.some.injEq, Prod.mk.injEq] at h; obtain ⟨rfl, rfl⟩ := h; simpa [Dat.esz] using (recs_get _ _ hvc).2
  · split at h
    · rename_i hc; simp at h; obtain ⟨_, rfl⟩ := h; exact hc
    · cases h
  · cases h

theorem ldn_ok {d : Dat} {i s m : Nat} {vc : Prop} {cs : List C} (h : d.ldn i s m = some (vc, cs)) (hvc : vc) : cs.length = m ∧ ∀ (j : Nat) c, cs[j]? = some c → d.den[i * d.esz + s + j]? = some c := by
  unfold Dat.ldn at h
  split at h
  · simp only [Option.some.injEq, Prod.mk.injEq] at h; obtain ⟨rfl, rfl⟩ := h
    refine ⟨rfl, fun j c hj => ?_⟩
    have hg := recs_get _ _ hvc
    match j, hj with
    | 0, hj => simp at hj; subst hj; simpa [Dat.esz] using hg.1
    | 1, hj => simp at hj; subst hj; simpa [Dat.esz] using hg.2
    | j + 2, hj => simp at hj
  · split at h
    · rename_i hle
      simp at h; obtain ⟨_, rfl⟩ := h
      refine ⟨by simp; omega, fun j c hj => ?_⟩
      rw [List.getElem?_take] at hj
      split at hj
      · simpa [Dat.den, Dat.esz] using hj
      · cases hj
    · cases h
  · cases h

structure StOK (d d' : Dat) (o : Nat) (cs : List C) : Prop where
  esz : d'.esz = d.esz
  len : d'.den.length = d.den.length
  inb : o + cs.length ≤ d.den.length
  one : ∀ c ∈ cs, c.isOne = true
  get : ∀ j c, d'.den[j]? = some c → (o ≤ j ∧ j < o + cs.length ∧ cs[j - o]? = some c) ∨ (¬ (o ≤ j ∧ j < o + cs.length) ∧ d.den[j]? = some c)

theorem den_get_set1 {α : Type} (f : α → C) (xs : List α) (i : Nat) (x : α) (hi : i < xs.length) (j : Nat) (c : C) (h : ((xs.set i x).map f)[j]? = some c) :
    (i ≤ j ∧ j < i + 1 ∧ [f x][j - i]? = some c) ∨ (¬ (i ≤ j ∧ j < i + 1) ∧ (xs.map f)[j]? = some c) := by
  by_cases hj : j = i
  · subst hj
    left
    rw [List.getElem?_map, List.getElem?_set_self hi] at h
    simp at h
    exact ⟨Nat.le_refl _, by omega, by simp [h]⟩
  · right
    rw [List.getElem?_map, List.getElem?_set_ne (Ne.symm hj)] at h
    exact ⟨by omega, by simpa using h⟩

theorem recs_set {rs : List (Int × Int)} {i : Nat} (hi : i < rs.length) (r : Int × Int) : (Dat.recs (rs.set i r)).den = ((Dat.recs rs).den.set (i * 2) (.v (.int .i64 r.1))).set (i * 2 + 1) (.v (.int .i64 r.2)) := by
  induction rs generalizing i with
  | nil => simp at hi
  | cons x rs ih =>
    cases i with
    | zero => simp [Dat.den]
    | succ i =>
      have := ih (i := i) (by simpa using hi)
      rw [show (i + 1) * 2 = i * 2 + 2 by omega]
      simp only [Dat.den, List.set_cons_succ, List.flatMap_cons, List.cons_append, List.nil_append] at this ⊢
      rw [this]

theorem set_get2 (l : List C) (o : Nat) (a b : C) (ho : o + 1 < l.length) (j : Nat) (c : C) (h : ((l.set o a).set (o + 1) b)[j]? = some c) :
    (o ≤ j ∧ j < o + 2 ∧ [a, b][j - o]? = some c) ∨ (¬ (o ≤ j ∧ j < o + 2) ∧ l[j]? = some c) := by
  by_cases h1 : j = o + 1
  · subst h1
    rw [List.getElem?_set_self (by simpa using ho)] at h
    left; exact ⟨by omega, by omega, by simp at h; simp [h]⟩
  · rw [List.getElem?_set_ne (Ne.symm h1)] at h
    by_cases h0 : j = o
    · subst h0
      rw [List.getElem?_set_self (by omega)] at h
      left; exact ⟨by omega, by omega, by simp at h; simp [h]⟩
    · rw [List.getElem?_set_ne (Ne.symm h0)] at h
      right; exact ⟨by omega, h⟩

theorem set_get1 (l : List C) (o : Nat) (a : C) (ho : o < l.length) (j : Nat) (c : C) (h : (l.set o a)[j]? = some c) :
    (o ≤ j ∧ j < o + 1 ∧ [a][j - o]? = some c) ∨ (¬ (o ≤ j ∧ j < o + 1) ∧ l[j]? = some c) := by
  by_cases h0 : j = o
  · subst h0
    rw [List.getElem?_set_self ho] at h
    left; exact ⟨by omega, by omega, by simp at h; simp [h]⟩
  · rw [List.getElem?_set_ne (Ne.symm h0)] at h
    right; exact ⟨by omega, h⟩

theorem set_get3 (l : List C) (o : Nat) (a b e : C) (ho : o + 2 < l.length) (j : Nat) (c : C) (h : (((l.set o a).set (o + 1) b).set (o + 2) e)[j]? = some c) :
    (o ≤ j ∧ j < o + 3 ∧ [a, b, e][j - o]? = some c) ∨ (¬ (o ≤ j ∧ j < o + 3) ∧ l[j]? = some c) := by
  by_cases h2 : j = o + 2
  · subst h2
    rw [List.getElem?_set_self (by simpa using ho)] at h
    left; exact ⟨by omega, by omega, by simp at h; simp [h]⟩
  · rw [List.getElem?_set_ne (Ne.symm h2)] at h
    rcases set_get2 l o a b (by omega) j c h with ⟨g1, g2, g3⟩ | ⟨g1, g2⟩
    · left
      refine ⟨g1, by omega, ?_⟩
      have : j = o ∨ j = o + 1 := by omega
      rcases this with rfl | rfl
      · simpa using g3
      · simpa using g3
    · right
      exact ⟨by omega, g2⟩

theorem set_self_getD (l : List C) (o : Nat) (x : C) (h : l[o]? = some x) : l.set o x = l := by
  apply List.ext_getElem?
  intro j
  by_cases hj : j = o
  · subst hj
    rw [List.getElem?_set_self (by rcases Nat.lt_or_ge j l.length with h' | h'; exact h'; rw [List.getElem?_eq_none h'] at h; cases h)]
    exact h.symm
  · rw [List.getElem?_set_ne (Ne.symm hj)]

theorem st_ok {d d' : Dat} {i s : Nat} {cs : List C} {vc : Prop} (h : d.st i s cs = some (vc, d')) (hvc : vc) : StOK d d' (i * d.esz + s) cs := by
  unfold Dat.st at h
  split at h
  · rename_i k xs k' x
    split at h
    · rename_i hk; subst hk
      simp only [Option.some.injEq, Prod.mk.injEq] at h; obtain ⟨rfl, rfl⟩ := h
      refine ⟨rfl, by simp [Dat.den], by simp [Dat.den, Dat.esz]; omega, by simp [C.isOne, Value.oneCell'], fun j c hj => ?_⟩
      simpa [Dat.den, Dat.esz] using den_get_set1 (fun x => C.v (.int k x)) xs i x hvc j c hj
    · cases h
  · rename_i bs b
    simp only [Option.some.injEq, Prod.mk.injEq] at h; obtain ⟨rfl, rfl⟩ := h
    refine ⟨rfl, by simp [Dat.den], by simp [Dat.den, Dat.esz]; omega, by simp [C.isOne, Value.oneCell'], fun j c hj => ?_⟩
    simpa [Dat.den, Dat.esz] using den_get_set1 (fun x => C.v (.bool x)) bs i b hvc j c hj
  · rename_i rs x y
    simp only [Option.some.injEq, Prod.mk.injEq] at h; obtain ⟨rfl, rfl⟩ := h
    have hl := recs_len rs
    refine ⟨rfl, by rw [recs_len, recs_len]; simp, by rw [recs_len]; simp [Dat.esz]; omega, by simp [C.isOne, Value.oneCell'], fun j c hj => ?_⟩
    rw [recs_set hvc] at hj
    simpa [Dat.esz] using set_get2 _ (i * 2) _ _ (by rw [recs_len]; omega) j c hj
  · rename_i rs x
    simp only [Option.some.injEq, Prod.mk.injEq] at h; obtain ⟨rfl, rfl⟩ := h
    refine ⟨rfl, by rw [recs_len, recs_len]; simp, by rw [recs_len]; simp [Dat.esz]; omega, by simp [C.isOne, Value.oneCell'], fun j c hj => ?_⟩
    rw [recs_set hvc] at hj
    have h2 := (recs_get rs i hvc).2
    have e : (((Dat.recs rs).den.set (i * 2) (.v (.int .i64 x))).set (i * 2 + 1) (.v (.int .i64 (rs.getD i (0, 0)).2))) = (Dat.recs rs).den.set (i * 2) (.v (.int .i64 x)) :=
      set_self_getD _ _ _ (by rw [List.getElem?_set_ne (by omega)]; exact h2)
    simp only [e] at hj
    simpa [Dat.esz] using set_get1 _ (i * 2) _ (by rw [recs_len]; omega) j c hj
  · rename_i rs x
    simp only [Option.some.injEq, Prod.mk.injEq] at h; obtain ⟨rfl, rfl⟩ := h
    refine ⟨rfl, by rw [recs_len, recs_len]; simp, by rw [recs_len]; simp [Dat.esz]; omega, by simp [C.isOne, Value.oneCell'], fun j c hj => ?_⟩
    rw [recs_set hvc] at hj
    have h2 := (recs_get rs i hvc).1
    have e : (Dat.recs rs).den.set (i * 2) (.v (.int .i64 (rs.getD i (0, 0)).1)) = (Dat.recs rs).den := set_self_getD _ _ _ h2
    simp only [e] at hj
    simpa [Dat.esz] using set_get1 _ (i * 2 + 1) _ (by rw [recs_len]; omega) j c hj
  · rename_i n cs c0
    split at h
    · rename_i hc
      simp at h; obtain ⟨_, rfl⟩ := h
      refine ⟨rfl, by simp [Dat.den], by simp [Dat.den, Dat.esz]; omega, by simpa using hc.2, fun j c hj => ?_⟩
      simpa [Dat.den, Dat.esz] using set_get1 cs (i * n + s) c0 hc.1 j c hj
    · cases h
  · rename_i n cs c0 c1 c2
    split at h
    · rename_i hc
      simp at h; obtain ⟨_, rfl⟩ := h
      refine ⟨rfl, by simp [Dat.den], by simp [Dat.den, Dat.esz]; omega, by simpa using hc.2, fun j c hj => ?_⟩
      simpa [Dat.den, Dat.esz] using set_get3 cs (i * n + s) c0 c1 c2 hc.1 j c hj
    · cases h
  · rename_i n cs c0 c1
    split at h
    · rename_i hc
      simp at h; obtain ⟨_, rfl⟩ := h
      refine ⟨rfl, by simp [Dat.den], by simp [Dat.den, Dat.esz]; omega, by simpa using hc.2, fun j c hj => ?_⟩
      simpa [Dat.den, Dat.esz] using set_get2 cs (i * n + s) c0 c1 hc.1 j c hj
    · cases h
  · cases h

theorem part_ok {d d' : Dat} {o n : Nat} {vc : Prop} (h : d.part o n = some (vc, d')) (hvc : vc) :
    d'.esz = d.esz ∧ d'.den = (d.den.drop (o * d.esz)).take (n * d.esz) ∧ o * d.esz + n * d.esz ≤ d.den.length := by
  unfold Dat.part at h
  split at h
  · simp only [Option.some.injEq, Prod.mk.injEq] at h; obtain ⟨rfl, rfl⟩ := h; exact ⟨rfl, by simp [Dat.den, Dat.esz, List.map_take, List.map_drop], by simpa [Dat.den, Dat.esz] using hvc⟩
  · simp only [Option.some.injEq, Prod.mk.injEq] at h; obtain ⟨rfl, rfl⟩ := h; exact ⟨rfl, by simp [Dat.den, Dat.esz, List.map_take, List.map_drop], by simpa [Dat.den, Dat.esz] using hvc⟩
  · simp only [Option.some.injEq, Prod.mk.injEq] at h; obtain ⟨rfl, rfl⟩ := h; exact ⟨rfl, by simp only [Dat.esz]; rw [recs_take, recs_drop], by rw [recs_len]; simp [Dat.esz]; omega⟩
  · split at h
    · simp only [Option.some.injEq, Prod.mk.injEq] at h; obtain ⟨rfl, rfl⟩ := h; exact ⟨rfl, by simp [Dat.den, Dat.esz], by simpa [Dat.den, Dat.esz] using hvc⟩
    · cases h
  · split at h
    · simp only [Option.some.injEq, Prod.mk.injEq] at h; obtain ⟨rfl, rfl⟩ := h; exact ⟨rfl, by simp [Dat.den, Dat.esz], by simpa [Dat.den, Dat.esz] using hvc⟩
    · cases h
  · cases h

theorem app_ok {d d' d3 : Dat} (h : d.app d' = some d3) : d3.den = d.den ++ d'.den ∧ d3.esz = d.esz := by
  unfold Dat.app at h
  split at h
  · split at h
    · rename_i hk; subst hk; simp only [Option.some.injEq] at h; subst h; exact ⟨by simp [Dat.den], rfl⟩
    · cases h
  · simp only [Option.some.injEq] at h; subst h; exact ⟨by simp [Dat.den], rfl⟩
  · simp only [Option.some.injEq] at h; subst h; exact ⟨by simp [Dat.den], rfl⟩
  · simp only [Option.some.injEq] at h; subst h; exact ⟨by simp [Dat.den], rfl⟩
  · simp only [Option.some.injEq] at h; subst h; exact ⟨by simp [Dat.den], rfl⟩
  · cases h

theorem whole_ok {d : Dat} {o n : Nat} {vc : Prop} (h : d.whole o n = some vc) (hvc : vc) : o = 0 ∧ n * d.esz = d.den.length := by
  unfold Dat.whole at h
  split at h
  · simp only [Option.some.injEq] at h; subst h; exact ⟨rfl, by simp [Dat.den, Dat.esz, hvc]⟩
  · simp only [Option.some.injEq] at h; subst h; exact ⟨rfl, by simp [Dat.den, Dat.esz, hvc]⟩
  · simp only [Option.some.injEq] at h; subst h; exact ⟨rfl, by rw [recs_len]; simp [Dat.esz, hvc]⟩
  · split at h
    · simp only [Option.some.injEq] at h; subst h; exact ⟨rfl, by simp [Dat.den, Dat.esz, hvc]⟩
    · cases h
  · split at h
    · simp only [Option.some.injEq] at h; subst h; exact ⟨rfl, by simpa [Dat.den, Dat.esz] using hvc⟩
    · cases h
  · cases h

theorem one_cells {φ : List Pl} {c : C} {y : Value} (h : CR φ c y) (h1 : c.isOne = true) : y.cells = #[y] ∧ y.oneCell' = true := by
  cases c with
  | any => simp [C.isOne] at h1
  | v x => have : y = x := h; subst this; cases y <;> simp_all [C.isOne, Value.oneCell', Value.cells]
  | sl e h' off len => obtain ⟨p, a, cap, _, _, rfl, _⟩ := h; exact ⟨rfl, rfl⟩
  | ptr h' i s => obtain ⟨p, _, rfl⟩ := h; exact ⟨rfl, rfl⟩
  | fn f caps => obtain ⟨cs, rfl, _⟩ := h; exact ⟨rfl, rfl⟩

theorem cellsOf_ok {φ : List Pl} {t : TV} {y : Value} {cs : List C} (h : TR φ t y) (hc : cellsOf t = some cs) : ∃ ys, y.cells = List.toArray ys ∧ F2 (CR φ) cs ys := by
  unfold cellsOf at hc
  split at hc
  · split at hc
    · rename_i h1; simp at hc; subst hc; exact ⟨[y], (one_cells h h1).1, .cons h .nil⟩
    · cases hc
  · simp at hc; subst hc
    obtain ⟨ys, rfl, hf⟩ := h
    exact ⟨ys, rfl, hf⟩
  · cases hc

section
variable {P : Program} {w : World} {φ : List Pl} {Wr : Nat → Prop} {H : Hp}

theorem ad_add {p : Pl} {i s j : Nat} : (p.ad i s).add j = ⟨p.blk, p.base + (i * p.esz + s + j), none⟩ := by
  unfold Addr.add Pl.ad
  split
  · rename_i h; simp [h]
    try omega
  · simp; omega

/-- A load reads what the row says, in every world in which the row's block is as it is here. -/
theorem opLd_ok {ty : TypeId} {x : TV} {u : Value} {vc : Prop} {t : TV} (hR : RH φ Wr H w) (hx : TR φ x u) (h : opLd P H ty x = some (vc, t)) (hvc : vc) :
    ∃ z, TR φ t z ∧ ∃ h0 i s p, x = .a (.c (.ptr h0 i s)) ∧ φ[h0]? = some p ∧ (∃ row, H[h0]? = some row ∧ row.den ≠ []) ∧
      ∀ w', w'.heap[p.blk]? = w.heap[p.blk]? → (Instr.loadAt ty u).run P w' = .ok z w' := by
  unfold opLd at h
  split at h
  · rename_i h0 i s
    split at h
    · rename_i own d hd
      obtain ⟨p, hp, rfl⟩ := hx
      have hrow := hR.row h0 _ p hd hp
      split at h
      · rename_i hag
        split at h
        · rename_i vc' c hld
          simp only [Option.some.injEq, Prod.mk.injEq] at h; obtain ⟨rfl, rfl⟩ := h
          have hden := ld_ok hld hvc
          obtain ⟨y, hy, hc⟩ := hrow.2.1 _ _ hden
          refine ⟨y, hc, h0, i, s, p, rfl, hp, ⟨_, hd, ?_⟩, fun w' hw' => ?_⟩
          · intro he; simp only [Row.den] at he; rw [he] at hden; simp at hden
          · have hy' : w'.cell? (p.ad i s) = some y := by
              rw [cell_eq] at hy
              unfold Pl.ad
              rw [cell_eq, hw', ← hrow.1] at *
              simpa [Nat.add_assoc] using hy
            simp only [Instr.loadAt, Instr.sureAddr, Sem.run_bind, Sem.run_pure, Result.andThen_ok, loadVar, run_isAgg hag, Bool.false_eq_true, if_false, run_load, hy']
        · cases h
      · rename_i hag
        split at h
        · rename_i n hs
          split at h
          · cases h
          rename_i hn0
          split at h
          · rename_i vc' cs hld
            simp only [Option.some.injEq, Prod.mk.injEq] at h; obtain ⟨rfl, rfl⟩ := h
            obtain ⟨hl, hden⟩ := ldn_ok hld hvc
            have hcell : ∀ j c, cs[j]? = some c → ∃ y, w.cell? ((p.ad i s).add j) = some y ∧ CR φ c y := fun j c hj => by
              obtain ⟨y, hy, hc⟩ := hrow.2.1 _ _ (hden j c hj)
              exact ⟨y, by rw [ad_add, ← hrow.1] at *; exact hy, hc⟩
            have hex : ∃ ys : List Value, ys.length = cs.length ∧ F2 (CR φ) cs ys ∧ ∀ j v, ys[j]? = some v → w.cell? ((p.ad i s).add j) = some v := by
              refine ⟨(List.range cs.length).map fun j => (w.cell? ((p.ad i s).add j)).getD undef, by simp, F2.of_get (by simp) fun j c hj => ?_, fun j v hj => ?_⟩
              · obtain ⟨y, hy, hc⟩ := hcell j c hj
                have hjl : j < cs.length := by
                  rcases Nat.lt_or_ge j cs.length with h' | h'
                  · exact h'
                  · rw [List.getElem?_eq_none h'] at hj; cases hj
                exact ⟨y, by simp [hjl, hy], hc⟩
              · have hjl : j < cs.length := by
                  rcases Nat.lt_or_ge j cs.length with h' | h'
                  · exact h'
                  · rw [List.getElem?_eq_none (by simpa using h')] at hj; cases hj
                obtain ⟨y, hy, _⟩ := hcell j cs[j] (List.getElem?_eq_getElem hjl)
                simp [hjl, hy] at hj
                rw [hy, hj]
            obtain ⟨ys, hyl, hf, hys⟩ := hex
            refine ⟨.agg ys.toArray, ⟨ys, rfl, hf⟩, h0, i, s, p, rfl, hp, ⟨_, hd, ?_⟩, fun w' hw' => ?_⟩
            · have := hden 0 cs[0] (List.getElem?_eq_getElem (by omega))
              intro he; simp only [Row.den] at he; rw [he] at this; simp at this
            · have hys' : ∀ j v, ys[j]? = some v → w'.cell? ((p.ad i s).add j) = some v := fun j v hj => by
                have := hys j v hj
                rw [ad_add, cell_eq] at this ⊢
                rw [hw']; exact this
              have hl' : n = ys.length := by omega
              simp only [Instr.loadAt, Instr.sureAddr, Sem.run_bind, Sem.run_pure, Result.andThen_ok, loadVar, run_isAgg hag, if_true, run_sz hs, hl', run_loadCells_list w' _ ys hys']
          · cases h
        · cases h
      · cases h
    · cases h
  · cases h

structure EffOK (P : Program) (φ : List Pl) (Wr : Nat → Prop) (H : Hp) (w : World) (r : SR) (run : Result Value) : Prop where
  ex : ∃ φ' z w', run = .ok z w' ∧ TR φ' r.tv z ∧ φ <+: φ' ∧ RH φ' Wr r.H w' ∧ Keep φ r.ms w w'
  own : ∀ m ∈ r.ms, ∃ d, H[m]? = some (.r true d)

theorem setRow_keep {g : Nat} {cs : Array Value} {h0 : Nat} {p : Pl} (hp : φ[h0]? = some p) (hg : g = p.blk) (hrm : p.room ≠ 0) : Keep φ [h0] w (w.setRow g cs) :=
  ⟨rfl, rfl, rfl, by simp, fun k _ hk => setRow_other w g k cs (fun e => hk h0 (by simp) p hp hrm (by rw [← hg, e]))⟩

theorem opSt_ok {ty : TypeId} {x v : TV} {u y : Value} {r : SR} (hR : RH φ Wr H w) (hx : TR φ x u) (hy : TR φ v y) (h : opSt P H ty x v = some r) (hvc : r.vc) :
    ∃ w', (Instr.storeAt ty u y).run P w = .ok () w' ∧ r.tv = uT ∧ RH φ Wr r.H w' ∧ Keep φ r.ms w w' ∧ ∀ m ∈ r.ms, ∃ d, H[m]? = some (.r true d) := by
  unfold opSt at h
  split at h
  · rename_i h0 i s
    split at h
    · rename_i d cs hd hcs
      split at h
      · rename_i vc d' hst
        split at h
        · rename_i hsz
          simp at h; subst h
          obtain ⟨p, hp, rfl⟩ := hx
          obtain ⟨ys, hys, hf⟩ := cellsOf_ok hy hcs
          have ok := st_ok hst hvc
          have hrow := hR.row h0 _ p hd hp
          obtain ⟨hlen, hb0, hor⟩ := hrow.2.2 rfl
          have hne : cs ≠ [] := by
            intro he; subst he
            unfold cellsOf at hcs
            split at hcs
            · split at hcs <;> simp at hcs
            · simp at hcs; subst hcs; simp [Dat.st] at hst
            · cases hcs
          have hpos : 0 < cs.length := List.length_pos_iff.2 hne
          have hrm : p.room ≠ 0 := by intro h0'; rw [h0'] at hlen; have := ok.inb; omega
          rcases hor with h0' | ⟨hw, cur, e, hblk, hcur⟩
          · exact absurd h0' hrm
          have hle : i * p.esz + s + ys.length ≤ cur.size := by
            have := ok.inb
            rw [hf.length] at this
            rw [hrow.1] at *
            omega
          have hone : ∀ v ∈ ys, v.oneCell' = true := by
            intro v hv
            obtain ⟨j, hj, rfl⟩ := List.getElem_of_mem hv
            have hjl : j < cs.length := by rw [hf.length]; exact hj
            obtain ⟨b, hb, hcr⟩ := hf.get (List.getElem?_eq_getElem hjl)
            rw [List.getElem?_eq_getElem hj] at hb
            simp at hb; subst hb
            exact (one_cells hcr (ok.one _ (List.getElem_mem hjl))).2
          have hrun := run_storeCells_at P p.blk (i * p.esz + s) e ys 0 cur w hblk (by simpa using hle) hone
          obtain ⟨cur', hcur'⟩ : ∃ c, c = (List.take (i * p.esz + s + 0) cur.toList ++ ys ++ List.drop (i * p.esz + s + 0 + ys.length) cur.toList).toArray := ⟨_, rfl⟩
          rw [← hcur'] at hrun
          refine ⟨w.setRow p.blk cur', ?_, rfl, hR.upd hd hp (fun k _ hk => setRow_other w p.blk k cur' hk) hrm ⟨?_, fun j c hj => ?_, fun _ => ⟨?_, hb0, .inr ⟨hw, cur', e, setRow_heap w p.blk cur cur' e _ hblk, ?_⟩⟩⟩, setRow_keep hp rfl hrm, ?_⟩
          · simp only [Instr.storeAt, Instr.sureAddr, Sem.run_bind, Sem.run_pure, Result.andThen_ok, storeVar, run_sz hsz, hys]
            rw [if_neg (by simp [hf.length])]
            simp only [Pl.ad, hb0, Nat.zero_add, hrun]
          · rw [ok.esz]; exact hrow.1
          · rw [cell_eq, setRow_heap w p.blk cur cur' e _ hblk, hb0, hcur']
            simp only [Nat.zero_add, Nat.add_zero, List.getElem?_toArray]
            rcases ok.get j c hj with ⟨h1, h2, h3⟩ | ⟨h1, h2⟩
            · rw [← hrow.1] at h1 h2 h3
              obtain ⟨b, hb, hcr⟩ := hf.get h3
              refine ⟨b, ?_, hcr⟩
              rw [List.append_assoc, List.getElem?_append_right (by simp; omega), List.getElem?_append_left (by simp; rw [← hf.length]; omega)]
              simp only [List.length_take, Array.length_toList]
              rw [Nat.min_eq_left (by omega)]
              exact hb
            · rw [← hrow.1] at h1
              obtain ⟨b, hb, hcr⟩ := hrow.2.1 j c h2
              refine ⟨b, ?_, hcr⟩
              rw [cell_eq, hblk, hb0] at hb
              simp only [Nat.zero_add] at hb
              have hjc : j < cur.size := by
                rcases Nat.lt_or_ge j cur.size with h' | h'
                · exact h'
                · rw [Array.getElem?_eq_none h'] at hb; cases hb
              rw [hf.length] at h1
              rcases Nat.lt_or_ge j (i * p.esz + s) with hlt | hge
              · rw [List.append_assoc, List.getElem?_append_left (by simp; omega), List.getElem?_take, if_pos hlt]
                simpa using hb
              · rw [List.getElem?_append_right (by simp; omega)]
                simp only [List.length_append, List.length_take, Array.length_toList, List.getElem?_drop]
                rw [Nat.min_eq_left (by omega), show i * p.esz + s + ys.length + (j - (i * p.esz + s + ys.length)) = j by omega]
                simpa using hb
          · rw [ok.len]; exact hlen
          · rw [hcur']
            simp only [Nat.add_zero, List.size_toArray, List.length_append, List.length_take, Array.length_toList, List.length_drop]
            omega
          · intro m hm; simp at hm; subst hm; exact ⟨d, hd⟩
        · cases h
      · cases h
    · cases h
  · cases h
end
end Go.Ax
