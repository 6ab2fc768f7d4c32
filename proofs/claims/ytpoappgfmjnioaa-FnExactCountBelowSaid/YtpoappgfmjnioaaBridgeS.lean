/- From the statement's world to the abstract heap: a slice of slices of int. -/
import Derived.Test.YtpoappgfmjnioaaBridge
import Derived.Test.YtpoappgfmjnioaaNst
set_option linter.unusedSimpArgs false
set_option linter.unusedVariables false
set_option linter.unusedSectionVars false
namespace Go.Ax
open Go Go.Proofs.Ytpoappgfmjnioaa

theorem pick_listS {α : Type} (d : α) (Q : Nat → α → Prop) : ∀ n : Nat, (∀ i, i < n → ∃ r, Q i r) → ∃ rs : List α, rs.length = n ∧ ∀ i, i < n → Q i (rs.getD i d)
  | 0, _ => ⟨[], rfl, fun i hi => by omega⟩
  | n + 1, h => by
    obtain ⟨rs, hl, hq⟩ := pick_listS d Q n (fun i hi => h i (by omega))
    obtain ⟨r, hr⟩ := h n (by omega)
    refine ⟨rs ++ [r], by simp [hl], fun i hi => ?_⟩
    by_cases hin : i < n
    · have e : (rs ++ [r]).getD i d = rs.getD i d := by
        simp only [List.getD_eq_getElem?_getD]
        rw [List.getElem?_append_left (by omega)]
      rw [e]; exact hq i hin
    · have : i = n := by omega
      subst this
      have e : (rs ++ [r]).getD i d = r := by
        simp only [List.getD_eq_getElem?_getD]
        rw [List.getElem?_append_right (by omega)]
        simp [hl]
      rw [e]; exact hr

def IsInts (w : World) (a : Option Addr) (len cap : Nat) (zs : List Int) : Prop :=
  (a = none ∧ len = 0 ∧ cap = 0 ∧ zs = []) ∨ ∃ x, a = some x ∧ len ≤ cap ∧ cap ≤ maxLen ∧ zs.length = cap ∧ (∀ i, i < zs.length → w.cell? (x.add i) = some (.int .i64 (zs.getD i 0))) ∧ ∀ n ∈ zs, (Lit.int .i64 n).wf = true

def IsSS (w : World) (a : Option Addr) (len cap : Nat) : Prop :=
  (a = none ∧ len = 0 ∧ cap = 0) ∨
  ∃ x, a = some x ∧ len ≤ cap ∧ cap ≤ maxLen ∧ ∀ i, i < cap → ∃ (b : Option Addr) (l c : Nat) (zs : List Int), w.cell? (x.add i) = some (.slice b l c) ∧ IsInts w b l c zs

theorem open_ss {H : Type} {enc : TypeId × Value → H} {P : Program} {w : World} {base : Nat} {held : Bool} {t e ei : TypeId} {fuel : Nat} {cs : List Value} {x : DataW H × List MemPlace}
    (ht : P.underlying t = some (.slice e)) (he : P.underlying e = some (.slice ei)) (hei : P.underlying ei = some (.int .i64)) (hc : P.cellsOf e = 1) (hci : P.cellsOf ei = 1)
    (h : DataW.trod enc P w base (fun _ => true) held fuel t cs = some x) :
    cs = [.slice none 0 0] ∨ ∃ (a : Addr) (len cap : Nat), cs = [.slice (some a) len cap] ∧ IsSS w (some a) len cap := by
  rcases DataW.trod_slice ht h with h0 | ⟨a, len, cap, elems, rest, n, _, rfl, rfl, hb, hl, hm, hlen, hel, hsp, hns⟩
  · exact .inl h0.1
  right
  obtain ⟨hrl, hr⟩ := hsp rfl
  refine ⟨a, len, cap, rfl, .inr ⟨a, rfl, hl, hm, fun i hi => ?_⟩⟩
  have hb' : ∃ y, (w.cells? base (a.add (i * P.cellsOf e)) (P.cellsOf e)).bind (DataW.trod enc P w base (fun _ => true) held n e) = some y := by
    by_cases hil : i < len
    · rw [hel i hil]
      exact ⟨_, List.getElem?_eq_getElem (by omega)⟩
    · have := hr (i - len) (by omega)
      rw [show len + (i - len) = i by omega] at this
      rw [this]
      exact ⟨_, List.getElem?_eq_getElem (by omega)⟩
  obtain ⟨y, hy⟩ := hb'
  rw [hc, Nat.mul_one, Option.bind_eq_some_iff] at hy
  obtain ⟨cs', hcs, hy'⟩ := hy
  rcases ChangeShapes.open_ints he hei hci hy' with ⟨rfl, _⟩ | ⟨x, l, c, zs, rfl, _, hl', hm', hz, _, hcell, hwz⟩
  · exact ⟨none, 0, 0, [], ChangeShapes.cell_of_cells?_one hcs, .inl ⟨rfl, rfl, rfl, rfl⟩⟩
  · exact ⟨some x, l, c, zs, ChangeShapes.cell_of_cells?_one hcs, .inr ⟨x, rfl, hl', hm', by simpa using hz, hcell, hwz⟩⟩

/-- A struct of one slice of slices, by value, opened. -/
theorem open_mt {H : Type} {enc : TypeId × Value → H} {P : Program} {W : World} {t ts te ti : TypeId} {fs : Array Field} {f0 : Field} {v : Value} {d : DataW H} {p : List MemPlace} {r : Reach} {b0 : Nat} {base : Nat} {held : Bool}
    (hs : P.underlying t = some (.struct fs)) (h0 : fs[0]? = some f0) (hty : f0.type = ts) (hof : f0.offset = 0) (hC : P.cellsOf t = 1) (hC1 : P.cellsOf ts = 1) (hts : P.underlying ts = some (.slice te)) (hte : P.underlying te = some (.slice ti)) (hti : P.underlying ti = some (.int .i64)) (hc : P.cellsOf te = 1) (hci : P.cellsOf ti = 1)
    (hv : Value.okWide P W r b0 t v) (h : DataW.Trod enc P W base (fun _ => true) held t v d p) :
    ∃ (a : Option Addr) (len cap : Nat), v = .agg #[.slice a len cap] ∧ IsSS W a len cap := by
  obtain ⟨cs, rfl, hsz⟩ := WideShapes.okWide_struct hs hv
  rw [hC] at hsz
  obtain ⟨c0, rfl⟩ : ∃ c0, cs = #[c0] := by
    cases cs with
    | mk l =>
      match l, hsz with
      | [c0], _ => exact ⟨c0, rfl⟩
  obtain ⟨fuel, hf⟩ := h
  obtain ⟨xs, n, _, hx, _, hlen, hg⟩ := DataW.trod_struct hs hf
  have h1 := hg 0 f0 h0
  rw [hty, hof, hC1] at h1
  have h2 : ((Value.agg #[c0]).cells.toList.drop 0).take 1 = [c0] := rfl
  rw [h2] at h1
  have hpos : 0 < fs.size := (Array.getElem?_eq_some_iff.1 h0).1
  rw [List.getElem?_eq_getElem (by omega)] at h1
  rcases open_ss hts hte hti hc hci h1 with hcs | ⟨x, l, c, hcs, hss⟩
  · simp only [List.cons.injEq, and_true] at hcs
    exact ⟨none, 0, 0, by rw [hcs], .inl ⟨rfl, rfl, rfl⟩⟩
  · simp only [List.cons.injEq, and_true] at hcs
    exact ⟨some x, l, c, by rw [hcs], hss⟩

/-- A slice of slices as the first argument. -/
theorem start_ss {Wr : Nat → Prop} {w : World} {a : Option Addr} {len cap : Nat} (h : IsSS w a len cap) :
    ∃ (φ : List Pl) (xss : List (List Int)), xss.length = len ∧ len ≤ maxLen ∧ (∀ x ∈ xss, x.length ≤ maxLen) ∧ RH φ Wr (nst false false 0 xss) w ∧ CR φ (.sl 1 0 0 len) (.slice a len cap) := by
  have hnil : RH [⟨0, 0, 0, 1⟩] Wr (nst false false 0 []) w := by
    refine ⟨rfl, fun h row p h1 h2 => ?_, fun h h' row row' p p' _ h1 _ _ _ ho => ?_⟩
    · match h, h1, h2 with
      | 0, h1, h2 =>
        simp [nst, nsC] at h1 h2
        subst h1; subst h2
        exact ⟨rfl, fun i c hc => by simp [Dat.den] at hc, fun h => by cases h⟩
    · have := nst_ro row (List.mem_of_getElem? h1)
      rw [this] at ho; cases ho
  rcases h with ⟨rfl, rfl, rfl⟩ | ⟨x, rfl, hl, hm, hcell⟩
  · exact ⟨_, [], rfl, by simp, by simp, hnil, ⟨⟨0, 0, 0, 1⟩, none, 0, rfl, rfl, rfl, Nat.le_refl _, by simp, .inl rfl⟩⟩
  rcases Nat.eq_zero_or_pos cap with h0 | hpos
  · subst h0
    have : len = 0 := by omega
    subst this
    exact ⟨_, [], rfl, by simp, by simp, hnil, ⟨⟨0, 0, 0, 1⟩, some x, 0, rfl, rfl, rfl, Nat.le_refl _, hm, .inl rfl⟩⟩
  obtain ⟨b, off, spot⟩ := x
  have hspot : spot = none := by
    obtain ⟨_, _, _, _, h1, _⟩ := hcell 0 hpos
    simpa [Addr.add] using World.cell?_spot h1
  subst hspot
  have hadd : ∀ i : Nat, (⟨b, off, none⟩ : Addr).add i = ⟨b, off + i, none⟩ := fun i => by unfold Addr.add; split <;> simp_all
  -- each row's place and list
  have each : ∀ i, i < len → ∃ r : Pl × List Int, r.2.length ≤ maxLen ∧ RowOK [] Wr w r.1 (rI r.2) ∧ ∃ y, w.cell? ⟨b, off + i, none⟩ = some y ∧ CR [r.1] (.sl 1 0 0 r.2.length) y := by
    intro i hi
    obtain ⟨b', l, c, zs, h1, h2⟩ := hcell i (by omega)
    obtain ⟨p, xs, hxl, hlm, _, hR, hC, _⟩ := start_ints (k := .i64) (start0 w Wr) (by simp) h2
    subst hxl
    have hrow := hR.row 0 (rI xs) p rfl rfl
    refine ⟨(p, xs), hlm, ⟨hrow.1, fun j c hj => ?_, fun h => by cases h⟩, .slice b' xs.length c, by rw [← hadd]; exact h1, hC⟩
    obtain ⟨y, hy, hc⟩ := hrow.2.1 j c hj
    refine ⟨y, hy, ?_⟩
    simp only [Dat.den, List.getElem?_map] at hj
    cases hg : xs[j]? with
    | none => rw [hg] at hj; simp at hj
    | some z => rw [hg] at hj; simp at hj; subst hj; exact hc
  obtain ⟨rs, hrl, hrs⟩ := pick_listS (⟨⟨0, 0, 0, 1⟩, []⟩ : Pl × List Int) _ len each
  obtain ⟨xss, hxs⟩ : ∃ xss, xss = rs.map (·.2) := ⟨_, rfl⟩
  have hg : ∀ i, i < len → rs[i]? = some (rs.getD i ⟨⟨0, 0, 0, 1⟩, []⟩) := fun i hi => by rw [List.getD_eq_getElem?_getD, List.getElem?_eq_getElem (by omega)]; rfl
  have hxg : ∀ i, i < len → xss[i]? = some (rs.getD i ⟨⟨0, 0, 0, 1⟩, []⟩).2 := fun i hi => by rw [hxs, List.getElem?_map, hg i hi]; rfl
  have hpg : ∀ i, i < len → (⟨b, off, cap, 1⟩ :: rs.map (·.1) : List Pl)[i + 1]? = some (rs.getD i ⟨⟨0, 0, 0, 1⟩, []⟩).1 := fun i hi => by rw [List.getElem?_cons_succ, List.getElem?_map, hg i hi]; rfl
  have hxlen : xss.length = len := by rw [hxs, List.length_map, hrl]
  refine ⟨⟨b, off, cap, 1⟩ :: rs.map (·.1), xss, hxlen, by omega, fun x hx => ?_, ⟨?_, fun h row p h1 h2 => ?_, fun h h' row row' p p' _ h1 _ _ _ ho => ?_⟩, ?_⟩
  · rw [hxs] at hx
    obtain ⟨r, hr, rfl⟩ := List.mem_map.1 hx
    obtain ⟨i, hi, rfl⟩ := List.mem_iff_getElem.1 hr
    have := (hrs i (by omega)).1
    have e := hg i (by omega)
    rw [List.getElem?_eq_getElem hi] at e
    rw [← Option.some.inj e] at this
    exact this
  · rw [nst_len, List.length_cons, List.length_map, hrl, hxlen]
  · have hlt := getlt h1
    rw [nst_len, hxlen] at hlt
    cases h with
    | zero =>
      simp only [nst, List.getElem?_cons_zero, Option.some.injEq] at h1 h2
      subst h1; subst h2
      refine ⟨rfl, fun i c hc => ?_, fun h => by cases h⟩
      simp only [Dat.den] at hc
      rw [nsC_get] at hc
      simp only [Option.map_eq_some_iff] at hc
      obtain ⟨z, hz, rfl⟩ := hc
      have hi : i < len := by
        have := getlt (G := xss.map rI) (h := i) (r := rI z) (by rw [List.getElem?_map, hz]; rfl)
        rw [List.length_map] at this; omega
      obtain ⟨_, _, y, hy, hc⟩ := hrs i hi
      rw [hxg i hi] at hz
      cases hz
      refine ⟨y, hy, ?_⟩
      obtain ⟨p, a', cap', hp, h3⟩ := hc
      simp only [List.getElem?_cons_zero, Option.some.injEq] at hp
      subst hp
      exact ⟨_, a', cap', by rw [show 0 + 1 + i = i + 1 by omega]; exact hpg i hi, h3⟩
    | succ i =>
      simp only [nst, List.getElem?_cons_succ, List.getElem?_map, Option.map_eq_some_iff] at h1
      obtain ⟨z, hz, rfl⟩ := h1
      rw [hxg i (by omega)] at hz
      cases hz
      rw [hpg i (by omega)] at h2
      cases h2
      obtain ⟨_, hrow, _⟩ := hrs i (by omega)
      refine ⟨hrow.1, fun j c hj => ?_, fun h => by cases h⟩
      obtain ⟨y, hy, hc⟩ := hrow.2.1 j c hj
      refine ⟨y, hy, ?_⟩
      simp only [Dat.den, List.getElem?_map] at hj
      cases hg' : (rs.getD i ⟨⟨0, 0, 0, 1⟩, []⟩).2[j]? with
      | none => rw [hg'] at hj; simp at hj
      | some z => rw [hg'] at hj; simp at hj; subst hj; exact hc
  · have := nst_ro row (List.mem_of_getElem? h1)
    rw [this] at ho; cases ho
  · exact ⟨⟨b, off, cap, 1⟩, some ⟨b, off, none⟩, cap, rfl, rfl, rfl, hl, hm, .inr ⟨by simp [Pl.ad], by simp⟩⟩
end Go.Ax
