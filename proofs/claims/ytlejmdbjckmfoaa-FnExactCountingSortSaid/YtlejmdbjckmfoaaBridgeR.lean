/- From the statement's world to the abstract heap: slices of records of two ints. -/
import Derived.Test.YtlejmdbjckmfoaaBridge
set_option linter.unusedSimpArgs false
set_option linter.unusedVariables false
set_option linter.unusedSectionVars false
namespace Go.Ax
open Go

theorem pick_list {α : Type} (d : α) (Q : Nat → α → Prop) : ∀ n : Nat, (∀ i, i < n → ∃ r, Q i r) → ∃ rs : List α, rs.length = n ∧ ∀ i, i < n → Q i (rs.getD i d)
  | 0, _ => ⟨[], rfl, fun i hi => by omega⟩
  | n + 1, h => by
    obtain ⟨rs, hl, hq⟩ := pick_list d Q n (fun i hi => h i (by omega))
    obtain ⟨r, hr⟩ := h n (by omega)
    refine ⟨rs ++ [r], by simp [hl], fun i hi => ?_⟩
    by_cases hin : i < n
    · have e : (rs ++ [r]).getD i d = rs.getD i d := by
        simp only [List.getD_eq_getElem?_getD]
        rw [List.getElem?_append_left (by omega)]
      rw [e]; exact hq i hin
    · have : i = n := by omega
      subst this
      have e : (rs ++ [r]).getD i d = r := by
        simp only [List.getD_eq_getElem?_getD]
        rw [List.getElem?_append_right (by omega)]
        simp [hl]
      rw [e]; exact hr

def IsRecs (w : World) (a : Option Addr) (len cap : Nat) (rs : List (Int × Int)) : Prop :=
  (a = none ∧ len = 0 ∧ cap = 0 ∧ rs = []) ∨
  ∃ x, a = some x ∧ len ≤ cap ∧ cap ≤ maxLen ∧ rs.length = cap ∧ ∀ i, i < rs.length → w.cell? ((x.add (i * 2)).add 0) = some (.int .i64 (rs.getD i (0, 0)).1) ∧ w.cell? ((x.add (i * 2)).add 1) = some (.int .i64 (rs.getD i (0, 0)).2) ∧
    (Lit.int .i64 (rs.getD i (0, 0)).1).wf = true ∧ (Lit.int .i64 (rs.getD i (0, 0)).2).wf = true

theorem open_recs {H : Type} {enc : TypeId × Value → H} {P : Program} {w : World} {base : Nat} {held : Bool} {t e : TypeId} {fs : Array Field} {f0 f1 : Field} {fuel : Nat} {cs : List Value} {x : DataW H × List MemPlace}
    (ht : P.underlying t = some (.slice e)) (he : P.underlying e = some (.struct fs)) (h0 : fs[0]? = some f0) (h1 : fs[1]? = some f1) (ht0 : P.underlying f0.type = some (.int .i64)) (ht1 : P.underlying f1.type = some (.int .i64))
    (ho0 : f0.offset = 0) (ho1 : f1.offset = 1) (hc0 : P.cellsOf f0.type = 1) (hc1 : P.cellsOf f1.type = 1) (hc : P.cellsOf e = 2)
    (h : DataW.trod enc P w base (fun _ => true) held fuel t cs = some x) :
    cs = [.slice none 0 0] ∨ ∃ (a : Addr) (len cap : Nat) (rs : List (Int × Int)), cs = [.slice (some a) len cap] ∧ IsRecs w (some a) len cap rs := by
  rcases DataW.trod_slice ht h with h0 | ⟨a, len, cap, elems, rest, n, _, rfl, rfl, hb, hl, hm, hlen, hel, hsp, hns⟩
  · exact .inl h0.1
  right
  obtain ⟨hrl, hr⟩ := hsp rfl
  have each : ∀ i, i < cap → ∃ r : Int × Int, w.cell? ((a.add (i * 2)).add 0) = some (.int .i64 r.1) ∧ w.cell? ((a.add (i * 2)).add 1) = some (.int .i64 r.2) ∧ (Lit.int .i64 r.1).wf = true ∧ (Lit.int .i64 r.2).wf = true := by
    intro i hi
    have hb' : ∃ y, (w.cells? base (a.add (i * P.cellsOf e)) (P.cellsOf e)).bind (DataW.trod enc P w base (fun _ => true) held n e) = some y := by
      by_cases hil : i < len
      · rw [hel i hil]
        exact ⟨_, List.getElem?_eq_getElem (by omega)⟩
      · have := hr (i - len) (by omega)
        rw [show len + (i - len) = i by omega] at this
        rw [this]
        exact ⟨_, List.getElem?_eq_getElem (by omega)⟩
    obtain ⟨y, hy⟩ := hb'
    rw [hc, Option.bind_eq_some_iff] at hy
    obtain ⟨cs', hcs, hy'⟩ := hy
    obtain ⟨-, hl2, hcell⟩ := World.cells?_some hcs
    obtain ⟨xs, m, _, _, _, hxl, hf⟩ := DataW.trod_struct he hy'
    have g0 := hf 0 f0 h0
    have g1 := hf 1 f1 h1
    rw [ho0, hc0] at g0
    rw [ho1, hc1] at g1
    have hsz : 1 < fs.size := (Array.getElem?_eq_some_iff.1 h1).1
    rw [List.getElem?_eq_getElem (by omega)] at g0 g1
    obtain ⟨n0, k0, _, w0⟩ := DataW.trod_int ht0 g0
    obtain ⟨n1, k1, _, w1⟩ := DataW.trod_int ht1 g1
    match cs', hl2 with
    | [c0, c1], _ =>
      simp at k0 k1
      subst k0 k1
      exact ⟨(n0, n1), by simpa using hcell 0 (by omega), by simpa using hcell 1 (by omega), w0, w1⟩
  obtain ⟨rs, hrs, hq⟩ := pick_list (0, 0) _ cap each
  exact ⟨a, len, cap, rs, rfl, .inr ⟨a, rfl, hl, hm, hrs, fun i hi => hq i (by omega)⟩⟩

theorem recs_den_get (rs : List (Int × Int)) (i : Nat) (c : C) (h : (Dat.recs rs).den[i]? = some c) : i / 2 < rs.length ∧ ((i % 2 = 0 ∧ c = .v (.int .i64 (rs.getD (i / 2) (0, 0)).1)) ∨ (i % 2 = 1 ∧ c = .v (.int .i64 (rs.getD (i / 2) (0, 0)).2))) := by
  have hlt : i < rs.length * 2 := by
    rcases Nat.lt_or_ge i (rs.length * 2) with h' | h'
    · exact h'
    · rw [List.getElem?_eq_none (by rw [recs_len]; exact h')] at h; cases h
  have hq : i / 2 < rs.length := by omega
  refine ⟨hq, ?_⟩
  have hg := recs_get rs (i / 2) hq
  have : i % 2 = 0 ∨ i % 2 = 1 := by omega
  rcases this with e | e
  · left
    have hi : i = i / 2 * 2 := by omega
    rw [hi, hg.1] at h
    refine ⟨e, ?_⟩
    simpa using h.symm
  · right
    have hi : i = i / 2 * 2 + 1 := by omega
    rw [hi, hg.2] at h
    refine ⟨e, ?_⟩
    have h2 := h.symm
    simpa using h2

/-- One more slice of records among the arguments. -/
theorem start_recs {φ : List Pl} {Wr : Nat → Prop} {H : Hp} {w : World} {a : Option Addr} {len cap : Nat} {zs : List (Int × Int)} (hR : RH φ Wr H w) (hro : ∀ r ∈ H, r.own = false) (h : IsRecs w a len cap zs) :
    ∃ p xs, xs.length = len ∧ len ≤ maxLen ∧ (∀ i, i < xs.length → inI64 (xs.getD i (0, 0)).1 ∧ inI64 (xs.getD i (0, 0)).2) ∧ RH (φ ++ [p]) Wr (H ++ [.r false (.recs xs)]) w ∧ CR (φ ++ [p]) (.sl 2 H.length 0 len) (.slice a len cap) ∧ ∀ r ∈ H ++ [.r false (.recs xs)], r.own = false := by
  have hro' : ∀ xs, ∀ r ∈ H ++ [Row.r false (.recs xs)], r.own = false := fun xs r hr => by
    simp only [List.mem_append, List.mem_singleton] at hr
    rcases hr with hr | rfl
    · exact hro r hr
    · rfl
  rcases h with ⟨rfl, rfl, rfl, rfl⟩ | ⟨x, rfl, hlc, hcm, hz, hcell⟩
  · refine ⟨⟨0, 0, 0, 2⟩, [], rfl, by simp, by simp, hR.push ⟨rfl, fun i c hc => by simp [Dat.den] at hc, fun h => by cases h⟩ (fun _ _ _ _ _ hs _ _ => by simp [Row.den, Row.own, Dat.den] at hs), ?_, hro' _⟩
    exact ⟨⟨0, 0, 0, 2⟩, none, 0, by rw [← hR.len, List.getElem?_append_right (Nat.le_refl _)]; simp, rfl, rfl, Nat.le_refl _, by simp, .inl rfl⟩
  · by_cases h0 : zs = []
    · subst h0
      simp at hz
      have hl : len = 0 := by omega
      subst hl
      refine ⟨⟨0, 0, 0, 2⟩, [], rfl, by simp, by simp, hR.push ⟨rfl, fun i c hc => by simp [Dat.den] at hc, fun h => by cases h⟩ (fun _ _ _ _ _ hs _ _ => by simp [Row.den, Row.own, Dat.den] at hs), ?_, hro' _⟩
      exact ⟨⟨0, 0, 0, 2⟩, some x, cap, by rw [← hR.len, List.getElem?_append_right (Nat.le_refl _)]; simp, rfl, rfl, by omega, hcm, .inl hz.symm⟩
    · obtain ⟨b, off, spot⟩ := x
      have hpos : 0 < zs.length := List.length_pos_iff.2 h0
      have hspot : spot = none := by
        have := (hcell 0 hpos).1
        simpa [Addr.add] using World.cell?_spot this
      subst hspot
      have hadd : ∀ o i : Nat, (⟨b, o, none⟩ : Addr).add i = ⟨b, o + i, none⟩ := fun o i => by unfold Addr.add; split <;> simp_all
      have htk : ∀ i, i < len → (zs.take len).getD i (0, 0) = zs.getD i (0, 0) := fun i hi => by
        simp only [List.getD_eq_getElem?_getD, List.getElem?_take, if_pos hi]
      have hlt : (zs.take len).length = len := by simp; omega
      refine ⟨⟨b, off, cap, 2⟩, zs.take len, hlt, by omega, fun i hi => ?_, hR.push ⟨rfl, fun i c hc => ?_, fun h => by cases h⟩ (fun h row' p' hh _ _ _ hor => ?_), ?_, hro' _⟩
      · rw [htk i (by omega)]
        exact ⟨wf_i64 (hcell i (by omega)).2.2.1, wf_i64 (hcell i (by omega)).2.2.2⟩
      · have hg := recs_den_get _ _ _ hc
        rw [hlt] at hg
        rw [htk _ hg.1] at hg
        have hc2 := hcell (i / 2) (by omega)
        simp only [hadd] at hc2
        rcases hg.2 with ⟨e, rfl⟩ | ⟨e, rfl⟩
        · refine ⟨_, ?_, rfl⟩
          have := hc2.1
          rwa [show off + i / 2 * 2 + 0 = off + i by omega] at this
        · refine ⟨_, ?_, rfl⟩
          have := hc2.2.1
          rwa [show off + i / 2 * 2 + 1 = off + i by omega] at this
      · rcases hor with h1 | h1
        · simp [Row.own] at h1
        · have := hro row' (List.mem_of_getElem? hh); rw [this] at h1; simp at h1
      · exact ⟨⟨b, off, cap, 2⟩, some ⟨b, off, none⟩, cap, by rw [← hR.len, List.getElem?_append_right (Nat.le_refl _)]; simp, rfl, rfl, hlc, hcm, .inr ⟨by simp [Pl.ad], by simp⟩⟩
end Go.Ax
