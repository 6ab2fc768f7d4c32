/- From a contract of a law in the abstract layer to what a row's proof asks of the walk. -/
import Derived.Test.YtfkokcmnmmfcbaaAxEval
import Derived.Below
import Derived.OpenShut
import Derived.ChangeArms
import Derived.ChangeSlices
import Derived.WideShapes
set_option linter.unusedSimpArgs false
set_option linter.unusedVariables false
set_option linter.unusedSectionVars false
namespace Go.Ax
open Go

theorem start0 (w : World) (Wr : Nat → Prop) : RH [] Wr [] w := ⟨rfl, fun h _ _ hh _ => by simp at hh, fun h _ _ _ _ _ _ hh _ _ _ _ _ _ => by simp at hh⟩

/-- One more slice of integers among the arguments. -/
theorem start_ints {k : IntKind} {φ : List Pl} {Wr : Nat → Prop} {H : Hp} {w : World} {a : Option Addr} {len cap : Nat} {zs : List Int} (hR : RH φ Wr H w) (hro : ∀ r ∈ H, r.own = false)
    (h : (a = none ∧ len = 0 ∧ cap = 0 ∧ zs = []) ∨ ∃ x, a = some x ∧ len ≤ cap ∧ cap ≤ maxLen ∧ zs.length = cap ∧ (∀ i, i < zs.length → w.cell? (x.add i) = some (.int k (zs.getD i 0))) ∧ ∀ n ∈ zs, (Lit.int k n).wf = true) :
    ∃ p xs, xs.length = len ∧ len ≤ maxLen ∧ (∀ n ∈ xs, (Lit.int k n).wf = true) ∧ RH (φ ++ [p]) Wr (H ++ [.r false (.ints k xs)]) w ∧ CR (φ ++ [p]) (.sl 1 H.length 0 len) (.slice a len cap) ∧ ∀ r ∈ H ++ [.r false (.ints k xs)], r.own = false := by
  have hro' : ∀ xs, ∀ r ∈ H ++ [Row.r false (.ints k xs)], r.own = false := fun xs r hr => by
    simp only [List.mem_append, List.mem_singleton] at hr
    rcases hr with hr | rfl
    · exact hro r hr
    · rfl
  rcases h with ⟨rfl, rfl, rfl, rfl⟩ | ⟨x, rfl, hlc, hcm, hz, hcell, hwf⟩
  · refine ⟨⟨0, 0, 0, 1⟩, [], rfl, by simp, by simp, hR.push ⟨rfl, fun i c hc => by simp [Dat.den] at hc, fun h => by cases h⟩ (fun _ _ _ _ _ hs _ _ => by simp [Row.den, Row.own, Dat.den] at hs), ?_, hro' _⟩
    exact ⟨⟨0, 0, 0, 1⟩, none, 0, by rw [← hR.len, List.getElem?_append_right (Nat.le_refl _)]; simp, rfl, rfl, Nat.le_refl _, by simp, .inl rfl⟩
  · by_cases h0 : zs = []
    · subst h0
      simp at hz
      have hl : len = 0 := by omega
      subst hl
      refine ⟨⟨0, 0, 0, 1⟩, [], rfl, by simp, by simp, hR.push ⟨rfl, fun i c hc => by simp [Dat.den] at hc, fun h => by cases h⟩ (fun _ _ _ _ _ hs _ _ => by simp [Row.den, Row.own, Dat.den] at hs), ?_, hro' _⟩
      exact ⟨⟨0, 0, 0, 1⟩, some x, cap, by rw [← hR.len, List.getElem?_append_right (Nat.le_refl _)]; simp, rfl, rfl, by omega, hcm, .inl hz.symm⟩
    · obtain ⟨b, off, spot⟩ := x
      have hpos : 0 < zs.length := List.length_pos_iff.2 h0
      have hspot : spot = none := by
        have := hcell 0 hpos
        simpa [Addr.add] using World.cell?_spot this
      subst hspot
      refine ⟨⟨b, off, cap, 1⟩, zs.take len, by simp; omega, by omega, fun n hn => hwf n (List.mem_of_mem_take hn), hR.push ⟨rfl, fun i c hc => ?_, fun h => by cases h⟩ (fun h row' p' hh _ _ _ hor => ?_), ?_, hro' _⟩
      · simp only [Dat.den, List.getElem?_map] at hc
        cases hg : (zs.take len)[i]? with
        | none => rw [hg] at hc; simp at hc
        | some y =>
          rw [hg] at hc; simp at hc; subst hc
          rw [List.getElem?_take] at hg
          split at hg
          · rename_i hil
            have hiz : i < zs.length := by omega
            have := hcell i hiz
            refine ⟨.int k y, ?_, rfl⟩
            have e : (⟨b, off, none⟩ : Addr).add i = ⟨b, off + i, none⟩ := by unfold Addr.add; split <;> simp_all
            rw [e] at this
            simp only at this ⊢
            rw [this]
            simp [List.getD, hg]
          · cases hg
      · rcases hor with h1 | h1
        · simp [Row.own] at h1
        · have := hro row' (List.mem_of_getElem? hh); rw [this] at h1; simp at h1
      · exact ⟨⟨b, off, cap, 1⟩, some ⟨b, off, none⟩, cap, by rw [← hR.len, List.getElem?_append_right (Nat.le_refl _)]; simp, rfl, rfl, hlc, hcm, .inr ⟨by simp [Pl.ad], by simp⟩⟩

/-- The law's walk, out of its contract. -/
theorem finish {P : Program} {k : FuncId} {ts : List TV} {H : Hp} {φ : List Pl} {w : World} {vs : List Value} (h : ACalls P k ts [] H (fun t _ => t = tB true)) (hR : RH φ (fun b => w.heap.size ≤ b) H w) (hv : F2 (TR φ) ts vs) :
    Calls P k vs.toArray w fun e w' => e = .returned (.bool true) ∧ RowKit.Below w.heap.size w w' :=
  (h.2.2 φ _ w vs hR (fun _ hb => hb) hv).mono fun e w' ⟨φ', ret, v, H', he, _, ht, _, hk, hr⟩ => by
    subst he
    have hr' : ret = tB true := hr
    subst hr'
    have : v = .bool true := ht
    subst this
    exact ⟨rfl, hk.os, hk.tape, hk.output, hk.size, fun k hk' => hk.block k hk' (by simp)⟩

/-- A struct of one slice of int, by value, opened. -/
theorem open_one {H : Type} {enc : TypeId × Value → H} {P : Program} {W : World} {t ts te : TypeId} {fs : Array Field} {f0 : Field} {v : Value} {d : DataW H} {p : List MemPlace} {r : Reach} {b0 : Nat} {base : Nat} {held : Bool}
    (hs : P.underlying t = some (.struct fs)) (h0 : fs[0]? = some f0) (hty : f0.type = ts) (hof : f0.offset = 0) (hC : P.cellsOf t = 1) (hC1 : P.cellsOf ts = 1) (hts : P.underlying ts = some (.slice te)) (hte : P.underlying te = some (.int .i64)) (hc : P.cellsOf te = 1)
    (hv : Value.okWide P W r b0 t v) (h : DataW.Trod enc P W base (fun _ => true) held t v d p) :
    ∃ (a : Option Addr) (len cap : Nat) (zs : List Int), v = .agg #[.slice a len cap] ∧ ((a = none ∧ len = 0 ∧ cap = 0 ∧ zs = []) ∨ ∃ x, a = some x ∧ len ≤ cap ∧ cap ≤ maxLen ∧ zs.length = cap ∧ (∀ i, i < zs.length → W.cell? (x.add i) = some (.int .i64 (zs.getD i 0))) ∧ ∀ n ∈ zs, (Lit.int .i64 n).wf = true) := by
  obtain ⟨cs, rfl, hsz⟩ := WideShapes.okWide_struct hs hv
  rw [hC] at hsz
  obtain ⟨c0, rfl⟩ : ∃ c0, cs = #[c0] := by
    cases cs with
    | mk l =>
      match l, hsz with
      | [c0], _ => exact ⟨c0, rfl⟩
  obtain ⟨fuel, hf⟩ := h
  obtain ⟨xs, n, _, hx, _, hlen, hg⟩ := DataW.trod_struct hs hf
  have h1 := hg 0 f0 h0
  rw [hty, hof, hC1] at h1
  have h2 : ((Value.agg #[c0]).cells.toList.drop 0).take 1 = [c0] := rfl
  rw [h2] at h1
  have hpos : 0 < fs.size := (Array.getElem?_eq_some_iff.1 h0).1
  rw [List.getElem?_eq_getElem (by omega)] at h1
  rcases ChangeShapes.open_ints hts hte hc h1 with ⟨hcs, _⟩ | ⟨x, l, c, zs, hcs, _, hl, hm, hz, _, hcell, hwz⟩
  · simp only [List.cons.injEq, and_true] at hcs
    exact ⟨none, 0, 0, [], by rw [hcs], .inl ⟨rfl, rfl, rfl, rfl⟩⟩
  · simp only [List.cons.injEq, and_true] at hcs
    exact ⟨some x, l, c, zs, by rw [hcs], .inr ⟨x, rfl, hl, hm, by simpa using hz, hcell, hwz⟩⟩

theorem wf_i64 {n : Int} (h : (Lit.int .i64 n).wf = true) : inI64 n := by
  have := bounds_i64 h
  unfold inI64; omega
end Go.Ax
