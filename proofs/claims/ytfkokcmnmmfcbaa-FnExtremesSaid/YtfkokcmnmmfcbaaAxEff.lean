/- AX: the operations that make memory (make, literals, variables, append): what the model's own step does is what the abstract one says. -/
import Derived.Test.YtfkokcmnmmfcbaaAxMem
set_option linter.unusedSimpArgs false
set_option linter.unusedVariables false
set_option linter.unusedSectionVars false
namespace Go.Ax
open Go

theorem info_all {P : Program} {e : TypeId} {s b : Nat} {z : Value} (h1 : sz P e = some s) (h2 : byt P e = some b) (h3 : zr P e = some z) : ∃ i, P.info? e = some i ∧ i.size = s ∧ i.bytes = b ∧ i.zero = some z := by
  unfold sz at h1; unfold byt at h2; unfold zr at h3
  cases hi : P.info? e with
  | none => simp [hi] at h1
  | some i => simp [hi] at h1 h2 h3; exact ⟨i, rfl, h1, h2, h3⟩

theorem info_sz {P : Program} {e : TypeId} {s : Nat} {z : Value} (h1 : sz P e = some s) (h3 : zr P e = some z) : ∃ i, P.info? e = some i ∧ i.size = s ∧ i.zero = some z := by
  unfold sz at h1; unfold zr at h3
  cases hi : P.info? e with
  | none => simp [hi] at h1
  | some i => simp [hi] at h1 h3; exact ⟨i, rfl, h1, h3⟩

theorem zrow_ok {z : Value} {n : Nat} {d : Dat} (h : zrow z n = some d) : d.esz = 1 ∧ z.cells = #[z] ∧ d.den = List.replicate n (.v z) := by
  unfold zrow at h
  split at h
  · simp only [Option.some.injEq] at h; subst h; exact ⟨rfl, rfl, by simp [Dat.den]⟩
  · simp only [Option.some.injEq] at h; subst h; exact ⟨rfl, rfl, by simp [Dat.den]⟩
  · simp only [Option.some.injEq] at h; subst h; exact ⟨rfl, rfl, by simp [Dat.den]⟩
  · cases h

theorem made_get {z : Value} (hz : z.cells = #[z]) (n i : Nat) (hi : i < n) : (madeCells z.cells n)[i]? = some z := by
  simp [madeCells, hz, hi, Nat.mod_one]

theorem isRec0_ok {z : Value} (h : isRec0 z = true) : z.cells = #[.int .i64 0, .int .i64 0] := by
  unfold isRec0 at h
  split at h
  · rename_i a
    split at h
    · rename_i hl
      have : a = #[.int .i64 0, .int .i64 0] := by rw [← Array.toArray_toList (xs := a), hl]
      subst this
      rfl
    · cases h
  · cases h

theorem recs_rep_get {n i : Nat} {c : C} (h : (Dat.recs (List.replicate n (0, 0))).den[i]? = some c) : c = .v (.int .i64 0) := by
  have := List.mem_of_getElem? h
  simp only [Dat.den, List.mem_flatMap] at this
  obtain ⟨r, hr, hc⟩ := this
  have := List.eq_of_mem_replicate hr
  subst this
  simpa using hc

theorem made_rec_get {z : Value} (hz : z.cells = #[.int .i64 0, .int .i64 0]) (n i : Nat) (hi : i < n) : (madeCells z.cells n)[i]? = some (.int .i64 0) := by
  have : i % 2 = 0 ∨ i % 2 = 1 := by omega
  rcases this with h | h <;> simp [madeCells, hz, hi, h]

section
variable {P : Program} {w : World} {φ : List Pl} {Wr : Nat → Prop} {H : Hp}

theorem run_newRow' (e : TypeId) (cs : Array Value) : (newRow e cs).run P w = .ok ⟨w.heap.size, 0, none⟩ (w.alloc (.cells cs e)) := by
  simp only [newRow, newObj, Sem.run_bind]; rfl

theorem opMk_ok {ty : TypeId} {x y : TV} {u v : Value} {r : SR} (hR : RH φ Wr H w) (hW : ∀ b, w.heap.size ≤ b → Wr b) (hx : TR φ x u) (hy : TR φ y v) (h : opMk P H ty x y = some r) (hvc : r.vc) :
    EffOK P φ Wr H w r ((Instr.makeSlice ty u v).run P w) := by
  unfold opMk at h
  split at h
  · rename_i l c
    split at h
    · rename_i e hu
      split at h
      · rename_i b z hs hb hz
        split at h
        · rename_i d hd
          simp only [Option.some.injEq] at h; subst h
          have hu' : u = .int .i64 l := hx
          have hv' : v = .int .i64 c := hy
          subst hu'; subst hv'
          obtain ⟨⟨⟨h0, rfl⟩, h48⟩, h63⟩ := hvc
          obtain ⟨i, hi, hi1, hi2, hi3⟩ := info_all hs hb hz
          obtain ⟨hd1, hzc, hden⟩ := zrow_ok hd
          have hrun := run_make (P := P) w ty e i z hu hi hi3 .i64 .i64 l l h0 (Int.le_refl _) (by
            rw [hi2]; have : ((b * l.toNat : Nat) : Int) ≤ 281474976710656 := by omega
            rwa [Int.natCast_mul, Int.toNat_of_nonneg h0] at this) (by omega)
          rw [hi1, Nat.mul_one] at hrun
          have hA := hR.alloc hW (d := d) (cur := madeCells z.cells l.toNat) (e := e) (room := l.toNat) (w' := w.alloc (.cells (madeCells z.cells l.toNat) e)) (fun k hk => heap_alloc_lt w _ hk) (heap_alloc_at w _)
            (by rw [size_madeCells, hd1, Nat.mul_one]) (by rw [hden, hd1]; simp) (fun i c hc => by
              rw [hden] at hc
              have hil : i < l.toNat := by
                rcases Nat.lt_or_ge i l.toNat with h' | h'
                · exact h'
                · rw [List.getElem?_eq_none (by simpa using h')] at hc; cases hc
              simp [hil] at hc; subst hc
              exact ⟨z, made_get hzc _ _ hil, rfl⟩)
          refine ⟨⟨_, _, _, hrun, ⟨⟨w.heap.size, 0, l.toNat, d.esz⟩, _, l.toNat, ?_, hd1, rfl, Nat.le_refl _, by unfold maxLen; omega, .inr ⟨by simp [Pl.ad], by simp⟩⟩, ⟨_, rfl⟩, hA, Keep.alloc φ w _⟩, by simp⟩
          rw [List.getElem?_append_right (by rw [hR.len]; exact Nat.le_refl _), hR.len]; simp
        · cases h
      · rename_i b z hs hb hz
        split at h
        · rename_i hz0
          simp only [Option.some.injEq] at h; subst h
          have hu' : u = .int .i64 l := hx
          have hv' : v = .int .i64 c := hy
          subst hu'; subst hv'
          obtain ⟨⟨⟨h0, rfl⟩, h48⟩, h63⟩ := hvc
          obtain ⟨i, hi, hi1, hi2, hi3⟩ := info_all hs hb hz
          have hzc := isRec0_ok hz0
          have hrun := run_make (P := P) w ty e i z hu hi hi3 .i64 .i64 l l h0 (Int.le_refl _) (by
            rw [hi2]; have : ((b * l.toNat : Nat) : Int) ≤ 281474976710656 := by omega
            rwa [Int.natCast_mul, Int.toNat_of_nonneg h0] at this) (by omega)
          rw [hi1] at hrun
          have hszm : (madeCells z.cells (l.toNat * 2)).size = l.toNat * 2 := by rw [size_madeCells]
          have hA := hR.alloc hW (d := .recs (List.replicate l.toNat (0, 0))) (cur := madeCells z.cells (l.toNat * 2)) (e := e) (room := l.toNat) (w' := w.alloc (.cells (madeCells z.cells (l.toNat * 2)) e)) (fun k hk => heap_alloc_lt w _ hk) (heap_alloc_at w _)
            hszm (by rw [recs_len]; simp [Dat.esz]) (fun i c hc => by
              rw [recs_rep_get hc]
              have hil : i < l.toNat * 2 := by
                rcases Nat.lt_or_ge i (l.toNat * 2) with h' | h'
                · exact h'
                · rw [List.getElem?_eq_none (by rw [recs_len]; simpa using h')] at hc; cases hc
              refine ⟨.int .i64 0, ?_, rfl⟩
              exact made_rec_get hzc (l.toNat * 2) i hil)
          refine ⟨⟨_, _, _, hrun, ⟨⟨w.heap.size, 0, l.toNat, 2⟩, _, l.toNat, ?_, rfl, rfl, Nat.le_refl _, by unfold maxLen; omega, .inr ⟨by simp [Pl.ad], by simp⟩⟩, ⟨_, rfl⟩, hA, Keep.alloc φ w _⟩, by simp⟩
          rw [List.getElem?_append_right (by rw [hR.len]; exact Nat.le_refl _), hR.len]; simp [Dat.esz]
        · cases h
      · cases h
    · cases h
  · cases h

/-! ### Literal slices -/

theorem foldl_set (off : Nat) : ∀ (l : List Value) (m : Nat) (cs : Array Value), off + m + l.length ≤ cs.size →
    ((l.zipIdx m).foldl (fun cs (x : Value × Nat) => cs.setIfInBounds (off + x.2) x.1) cs).size = cs.size ∧
    ∀ j, ((l.zipIdx m).foldl (fun cs (x : Value × Nat) => cs.setIfInBounds (off + x.2) x.1) cs)[j]? = if off + m ≤ j ∧ j < off + m + l.length then l[j - (off + m)]? else cs[j]?
  | [], m, cs, _ => ⟨rfl, fun j => by simp; intro h1 h2; omega⟩
  | v :: l, m, cs, h => by
    simp only [List.zipIdx_cons, List.foldl_cons, List.length_cons] at h ⊢
    obtain ⟨h1, h2⟩ := foldl_set off l (m + 1) (cs.setIfInBounds (off + m) v) (by simp; omega)
    refine ⟨by rw [h1]; simp, fun j => ?_⟩
    rw [h2 j]
    by_cases hj : j = off + m
    · subst hj
      rw [if_neg (by omega), if_pos (by omega)]
      simp [show off + m < cs.size by omega]
    · rw [Array.getElem?_setIfInBounds_ne (Ne.symm hj)]
      by_cases hj2 : off + (m + 1) ≤ j ∧ j < off + (m + 1) + l.length
      · rw [if_pos hj2, if_pos (by omega), show j - (off + m) = (j - (off + (m + 1))) + 1 by omega]; rfl
      · rw [if_neg hj2, if_neg (by omega)]

theorem fill_ok (s : Nat) : ∀ (ys : List Value) (k : Nat) (parts : List (Nat × Value)) (cs : Array Value), isRange k (parts.map (·.1)) = true → parts.map (·.2) = ys → (∀ y ∈ ys, y.cells.size = s) → (k + ys.length) * s ≤ cs.size →
    ∃ cs', Instr.fill (fun i => some (i * s, s)) cs parts = some cs' ∧ cs'.size = cs.size ∧ ∀ j, cs'[j]? = if k * s ≤ j ∧ j < (k + ys.length) * s then (ys.flatMap fun y => y.cells.toList)[j - k * s]? else cs[j]?
  | [], k, parts, cs, _, h2, _, _ => by
    have : parts = [] := by simpa using h2
    subst this
    exact ⟨cs, rfl, rfl, fun j => by simp; intro h1 h2; omega⟩
  | y :: ys, k, [], cs, _, h2, _, _ => by simp at h2
  | y :: ys, k, (i, v) :: parts, cs, h1, h2, h3, h4 => by
    simp only [List.map_cons, isRange, Bool.and_eq_true, beq_iff_eq] at h1
    obtain ⟨rfl, h1⟩ := h1
    simp only [List.map_cons, List.cons.injEq] at h2
    obtain ⟨rfl, h2⟩ := h2
    have hs := h3 v (by simp)
    have hm1 : (i + (ys.length + 1)) * s = i * s + s + ys.length * s := by rw [Nat.add_mul, Nat.add_mul]; omega
    have hm2 : (i + 1 + ys.length) * s = i * s + s + ys.length * s := by rw [Nat.add_mul, Nat.add_mul]; omega
    have hm3 : (i + 1) * s = i * s + s := by rw [Nat.add_mul]; omega
    simp only [List.length_cons] at h4
    rw [hm1] at h4
    obtain ⟨f1, f2⟩ := foldl_set (i * s) v.cells.toList 0 cs (by simp [hs]; omega)
    have e : v.cells.zipIdx.foldl (fun cs (x : Value × Nat) => cs.setIfInBounds (i * s + x.2) x.1) cs = (v.cells.toList.zipIdx 0).foldl (fun cs (x : Value × Nat) => cs.setIfInBounds (i * s + x.2) x.1) cs := by
      rw [← Array.foldl_toList, Array.toList_zipIdx]
    obtain ⟨cs', g1, g2, g3⟩ := fill_ok s ys (i + 1) parts (v.cells.zipIdx.foldl (fun cs (x : Value × Nat) => cs.setIfInBounds (i * s + x.2) x.1) cs) h1 h2 (fun y hy => h3 y (by simp [hy])) (by rw [e, f1, hm2]; omega)
    refine ⟨cs', ?_, by rw [g2, e, f1], fun j => ?_⟩
    · simp only [Instr.fill]
      rw [if_neg (by simp [hs]; omega)]
      exact g1
    · rw [g3 j, e, f2 j]
      simp only [List.length_cons, List.flatMap_cons, Array.length_toList, Nat.add_zero, hs]
      rw [hm1, hm2, hm3]
      by_cases hj : i * s + s ≤ j ∧ j < i * s + s + ys.length * s
      · rw [if_pos hj, if_pos (by omega), List.getElem?_append_right (by simp [hs]; omega)]
        simp only [Array.length_toList, hs]
        congr 1; omega
      · rw [if_neg hj]
        by_cases hj2 : i * s ≤ j ∧ j < i * s + s
        · rw [if_pos hj2, if_pos (by omega), List.getElem?_append_left (by simp [hs]; omega)]
        · rw [if_neg hj2, if_neg (by omega)]

theorem intsOf_ok {k : IntKind} : ∀ {ts : List TV} {xs : List Int} {ys : List Value}, litrow.intsOf k ts = some xs → F2 (TR φ) ts ys → ys = xs.map (.int k) ∧ xs.length = ts.length
  | [], xs, ys, h, hf => by simp [litrow.intsOf] at h; subst h; cases hf; exact ⟨rfl, rfl⟩
  | t :: ts, xs, ys, h, hf => by
    unfold litrow.intsOf at h
    split at h
    · rename_i heq; simp at heq
    · rename_i k' x ts' heq
      simp only [List.cons.injEq] at heq
      obtain ⟨rfl, rfl⟩ := heq
      split at h
      · rename_i hk; subst hk
        split at h
        · rename_i xs' hxs
          simp only [Option.some.injEq] at h; subst h
          cases hf with
          | cons h1 h2 =>
            obtain ⟨rfl, hl⟩ := intsOf_ok hxs h2
            have : _ = Value.int k x := h1
            subst this
            exact ⟨rfl, by simp [hl]⟩
        · cases h
      · cases h
    · cases h

theorem boolsOf_ok : ∀ {ts : List TV} {xs : List Bool} {ys : List Value}, litrow.boolsOf ts = some xs → F2 (TR φ) ts ys → ys = xs.map .bool ∧ xs.length = ts.length
  | [], xs, ys, h, hf => by simp [litrow.boolsOf] at h; subst h; cases hf; exact ⟨rfl, rfl⟩
  | t :: ts, xs, ys, h, hf => by
    unfold litrow.boolsOf at h
    split at h
    · rename_i heq; simp at heq
    · rename_i x ts' heq
      simp only [List.cons.injEq] at heq
      obtain ⟨rfl, rfl⟩ := heq
      split at h
      · rename_i xs' hxs
        simp only [Option.some.injEq] at h; subst h
        cases hf with
        | cons h1 h2 =>
          obtain ⟨rfl, hl⟩ := boolsOf_ok hxs h2
          have : _ = Value.bool x := h1
          subst this
          exact ⟨rfl, by simp [hl]⟩
      · cases h
    · cases h

theorem recsOf_ok : ∀ {ts : List TV} {xs : List (Int × Int)} {ys : List Value}, litrow.recsOf ts = some xs → F2 (TR φ) ts ys → ys = xs.map (fun r => .agg #[.int .i64 r.1, .int .i64 r.2]) ∧ xs.length = ts.length
  | [], xs, ys, h, hf => by simp [litrow.recsOf] at h; subst h; cases hf; exact ⟨rfl, rfl⟩
  | t :: ts, xs, ys, h, hf => by
    unfold litrow.recsOf at h
    split at h
    · rename_i heq; simp at heq
    · rename_i x y ts' heq
      simp only [List.cons.injEq] at heq
      obtain ⟨rfl, rfl⟩ := heq
      split at h
      · rename_i xs' hxs
        simp only [Option.some.injEq] at h; subst h
        cases hf with
        | cons h1 h2 =>
          obtain ⟨rfl, hl⟩ := recsOf_ok hxs h2
          obtain ⟨zs, rfl, hz⟩ := h1
          cases hz with
          | cons a1 a2 => cases a2 with
            | cons a3 a4 =>
              cases a4
              have e1 : _ = Value.int .i64 x := a1
              have e2 : _ = Value.int .i64 y := a3
              subst e1; subst e2
              exact ⟨rfl, by simp [hl]⟩
      · cases h
    · cases h

theorem F2_vmap {α : Type} (f : α → Value) : ∀ (xs : List α), F2 (CR φ) (xs.map fun x => .v (f x)) (xs.map f)
  | [] => .nil
  | _ :: xs => .cons rfl (F2_vmap f xs)

theorem flat_one {α : Type} (f : α → Value) (hf : ∀ x, (f x).cells = #[f x]) : ∀ (xs : List α), (xs.map f).flatMap (fun y => y.cells.toList) = xs.map f
  | [] => rfl
  | x :: xs => by simp only [List.map_cons, List.flatMap_cons, hf, flat_one f hf xs]; rfl

theorem flat_recs : ∀ (xs : List (Int × Int)), F2 (CR φ) (Dat.recs xs).den ((xs.map fun r => Value.agg #[.int .i64 r.1, .int .i64 r.2]).flatMap fun y => y.cells.toList)
  | [] => .nil
  | x :: xs => by
    have ih := flat_recs xs
    simp only [Dat.den, List.flatMap_cons, List.map_cons, List.cons_append, List.nil_append, Value.cells] at ih ⊢
    exact .cons rfl (.cons rfl ih)

theorem slicesOf_ok : ∀ {ts : List TV} {cs : List C} {ys : List Value}, litrow.slicesOf ts = some cs → F2 (TR φ) ts ys → F2 (CR φ) cs ys ∧ ∀ y ∈ ys, y.cells = #[y]
  | [], cs, ys, h, hf => by simp [litrow.slicesOf] at h; subst h; cases hf; exact ⟨.nil, by simp⟩
  | t :: ts, cs, ys, h, hf => by
    unfold litrow.slicesOf at h
    split at h
    · rename_i e; cases e
    · rename_i c ts' e
      simp only [List.cons.injEq] at e
      obtain ⟨rfl, rfl⟩ := e
      split at h
      · rename_i h1
        split at h
        · rename_i xs hx
          simp only [Option.some.injEq] at h; subst h
          cases hf with
          | cons a1 a2 =>
            obtain ⟨i1, i2⟩ := slicesOf_ok hx a2
            have hcr : CR φ c _ := a1
            refine ⟨.cons hcr i1, fun y hy => ?_⟩
            rcases List.mem_cons.mp hy with rfl | hy
            · exact (one_cells hcr h1).1
            · exact i2 y hy
        · cases h
      · cases h
    · cases h

theorem aggsOf_ok : ∀ {ts : List TV} {cs : List C} {ys : List Value}, litrow.aggsOf ts = some cs → F2 (TR φ) ts ys → (∀ y ∈ ys, y.cells.size = 2) ∧ cs.length = ys.length * 2 ∧ F2 (CR φ) cs (ys.flatMap fun y => y.cells.toList)
  | [], cs, ys, h, hf => by simp [litrow.aggsOf] at h; subst h; cases hf; exact ⟨by simp, rfl, .nil⟩
  | t :: ts, cs, ys, h, hf => by
    unfold litrow.aggsOf at h
    split at h
    · rename_i e; cases e
    · rename_i c d ts' e
      simp only [List.cons.injEq] at e
      obtain ⟨rfl, rfl⟩ := e
      split at h
      · rename_i xs hx
        simp only [Option.some.injEq] at h; subst h
        cases hf with
        | cons a1 a2 =>
          obtain ⟨i1, i2, i3⟩ := aggsOf_ok hx a2
          obtain ⟨zs, rfl, hz⟩ := a1
          cases hz with
          | cons b1 b2 => cases b2 with
            | cons b3 b4 =>
              cases b4
              refine ⟨fun y hy => ?_, by simp [i2]; omega, ?_⟩
              · rcases List.mem_cons.mp hy with rfl | hy
                · rfl
                · exact i1 y hy
              · rw [List.flatMap_cons]
                exact .cons b1 (.cons b3 i3)
      · cases h
    · cases h

theorem flat_self : ∀ {ys : List Value}, (∀ y ∈ ys, y.cells = #[y]) → ys.flatMap (fun y => y.cells.toList) = ys
  | [], _ => rfl
  | y :: ys, h => by
    rw [List.flatMap_cons, h y (by simp), flat_self (fun z hz => h z (by simp [hz]))]; rfl

theorem litrow_ok {z : Value} {ts : List TV} {d : Dat} {ys : List Value} (h : litrow z ts = some d) (hf : F2 (TR φ) ts ys) :
    (∀ y ∈ ys, y.cells.size = d.esz) ∧ d.den.length = ys.length * d.esz ∧ F2 (CR φ) d.den (ys.flatMap fun y => y.cells.toList) := by
  unfold litrow at h
  split at h
  · rename_i k
    cases hx : litrow.intsOf k ts with
    | none => simp [hx] at h
    | some xs =>
      simp [hx] at h; subst h
      obtain ⟨rfl, _⟩ := intsOf_ok hx hf
      refine ⟨?_, by simp [Dat.den, Dat.esz], ?_⟩
      · intro y hy; simp at hy; obtain ⟨a, _, rfl⟩ := hy; rfl
      · rw [flat_one _ (fun _ => rfl)]; exact F2_vmap _ xs
  · cases hx : litrow.boolsOf ts with
    | none => simp [hx] at h
    | some xs =>
      simp [hx] at h; subst h
      obtain ⟨rfl, _⟩ := boolsOf_ok hx hf
      refine ⟨?_, by simp [Dat.den, Dat.esz], ?_⟩
      · intro y hy; simp at hy; rcases hy with ⟨_, rfl⟩ | ⟨_, rfl⟩ <;> rfl
      · rw [flat_one _ (fun _ => rfl)]; exact F2_vmap _ xs
  · split at h
    · cases hx : litrow.recsOf ts with
      | none => simp [hx] at h
      | some xs =>
        simp [hx] at h; subst h
        obtain ⟨rfl, _⟩ := recsOf_ok hx hf
        refine ⟨?_, by rw [recs_len]; simp [Dat.esz], ?_⟩
        · intro y hy; simp at hy; obtain ⟨a, b, _, rfl⟩ := hy; rfl
        · exact flat_recs xs
    · cases hx : litrow.aggsOf ts with
      | none => simp [hx] at h
      | some cs =>
        simp [hx] at h; subst h
        exact aggsOf_ok hx hf
  · cases hx : litrow.slicesOf ts with
    | none => simp [hx] at h
    | some cs =>
      simp [hx] at h; subst h
      obtain ⟨i1, i2⟩ := slicesOf_ok hx hf
      refine ⟨fun y hy => by rw [i2 y hy]; rfl, by show cs.length = ys.length * 1; rw [i1.length, Nat.mul_one], ?_⟩
      rw [flat_self i2]; exact i1
  · cases h

theorem opBS_ok {n : Nat} {f : F} {a : Act} {ty : TypeId} {len : Nat} {parts : Array (Nat × Operand)} {r : SR} (hR : RH φ Wr H w) (hW : ∀ b, w.heap.size ≤ b → Wr b) (hr : RA φ n f a) (h : opBS P f H ty len parts.toList = some r) :
    EffOK P φ Wr H w r ((Instr.buildSlice ty len (parts.map fun (i, x) => (i, a.eval x))).run P w) := by
  unfold opBS at h
  split at h
  · rename_i e hu
    split at h
    · rename_i s z ts hs hz hts
      split at h
      · rename_i d hd
        split at h
        · rename_i hc
          obtain ⟨h1, h2, h3, h4, h5⟩ := hc
          simp only [Option.some.injEq] at h; subst h
          have hf := hr.evs hts
          obtain ⟨g1, g2, g3⟩ := litrow_ok hd hf
          obtain ⟨i, hi, hi1, hi3⟩ := info_sz hs hz
          have hyl : (((parts.toList.map (·.2)).map a.eval)).length = len := by simp [← h2]
          have hsz2 : ¬ (16777216 < len * s) ∨ 16777216 < len * s := by omega
          have hys : ∀ (cs : Array Value), cs.size = len * s → ∃ cs', Instr.fill (fun i => some (i * s, s)) cs ((parts.map fun (i, x) => (i, a.eval x)).toList) = some cs' ∧ cs'.size = len * s ∧ ∀ j, j < len * s → cs'[j]? = (((parts.toList.map (·.2)).map a.eval).flatMap fun y => y.cells.toList)[j]? := fun cs hcs => by
            obtain ⟨cs', k1, k2, k3⟩ := fill_ok s ((parts.toList.map (·.2)).map a.eval) 0 ((parts.map fun (i, x) => (i, a.eval x)).toList) cs (by
                have : ((parts.map fun (i, x) => (i, a.eval x)).toList).map (·.1) = parts.toList.map (·.1) := by simp [Function.comp_def]
                rw [this]; exact h1) (by simp [Function.comp_def]) (by rw [← h4]; exact g1) (by rw [hyl, Nat.zero_add, hcs]; exact Nat.le_refl _)
            refine ⟨cs', k1, by omega, fun j hj => ?_⟩
            rw [k3 j, if_pos ⟨by simp, by rw [hyl, Nat.zero_add]; exact hj⟩]; simp
          by_cases hbig : 16777216 < len * s
          · exfalso
            have : z.cells.size = s := h5
            have hsml : s ≤ 2 := by
              rw [← h4]
              unfold litrow at hd
              split at hd
              · simp at hd; obtain ⟨_, _, rfl⟩ := hd; simp [Dat.esz]
              · simp at hd; obtain ⟨_, _, rfl⟩ := hd; simp [Dat.esz]
              · split at hd
                · simp at hd; obtain ⟨_, _, rfl⟩ := hd; simp [Dat.esz]
                · simp at hd; obtain ⟨_, _, rfl⟩ := hd; simp [Dat.esz]
              · simp at hd; obtain ⟨_, _, rfl⟩ := hd; simp [Dat.esz]
              · cases hd
            have : len * s ≤ 1000 * 2 := Nat.mul_le_mul h3 hsml
            omega
          · obtain ⟨cs', k1, k2, k3⟩ := hys ((Array.range (len * s)).map ((if len * s = 0 then (#[] : Array Value) else z.cells)[· % (if len * s = 0 then (#[] : Array Value) else z.cells).size]!)) (by simp)
            have hrun : (Instr.buildSlice ty len (parts.map fun (i, x) => (i, a.eval x))).run P w = .ok (.slice (some ⟨w.heap.size, 0, none⟩) len len) (w.alloc (.cells cs' e)) := by
              by_cases h0 : len * s = 0
              · rw [if_pos h0] at k1
                simp only [Instr.buildSlice, Sem.run_bind, run_und hu, Result.andThen_ok, run_sz hs]
                rw [if_neg (by omega)]
                simp only [Sem.run_bind, Sem.run_pure, Result.andThen_ok, h0, if_true]
                rw [h0] at k1
                simp only [k1, Sem.run_bind, run_newRow', Result.andThen_ok, Sem.run_pure]
              · rw [if_neg h0] at k1
                simp only [Instr.buildSlice, Sem.run_bind, run_und hu, Result.andThen_ok, run_sz hs]
                rw [if_neg (by omega)]
                simp only [Sem.run_bind, Sem.run_pure, Result.andThen_ok, h0, if_false]
                have hzv : (zeroValue e).run P w = .ok z w := by simp [zeroValue, typeInfo, hi, hi3]
                simp only [hzv, Sem.run_bind, Result.andThen_ok, Sem.run_pure, k1, run_newRow']
            have hA := hR.alloc hW (d := d) (cur := cs') (e := e) (room := len) (w' := w.alloc (.cells cs' e)) (fun k hk => heap_alloc_lt w _ hk) (heap_alloc_at w _)
              (by rw [k2, h4]) (by rw [g2, hyl]; exact Nat.le_refl _) (fun i c hic => by
                obtain ⟨y, hy, hcr⟩ := g3.get hic
                refine ⟨y, ?_, hcr⟩
                have hil : i < len * s := by
                  rcases Nat.lt_or_ge i d.den.length with h' | h'
                  · rw [g2, hyl, h4] at h'; exact h'
                  · rw [List.getElem?_eq_none h'] at hic; cases hic
                rw [k3 i hil]; exact hy)
            refine ⟨⟨_, _, _, hrun, ⟨⟨w.heap.size, 0, len, d.esz⟩, _, len, ?_, h4, rfl, Nat.le_refl _, by unfold maxLen; omega, .inr ⟨by simp [Pl.ad], by simp⟩⟩, ⟨_, rfl⟩, hA, Keep.alloc φ w _⟩, by simp⟩
            rw [List.getElem?_append_right (by rw [hR.len]; exact Nat.le_refl _), hR.len]; simp
        · cases h
      · cases h
    · cases h
  · cases h

theorem new_var {cs : List C} {ys : Array Value} {e : TypeId} (hR : RH φ Wr H w) (hW : ∀ b, w.heap.size ≤ b → Wr b) (hf : F2 (CR φ) cs ys.toList) :
    RH (φ ++ [⟨w.heap.size, 0, 1, cs.length⟩]) Wr (H ++ [.r true (.cells cs.length cs)]) (w.alloc (.cells ys e)) := by
  have hl : cs.length = ys.size := by rw [hf.length]; simp
  exact hR.alloc hW (d := .cells cs.length cs) (cur := ys) (e := e) (room := 1) (fun k hk => heap_alloc_lt w _ hk) (heap_alloc_at w _) (by simp [Dat.esz, hl]) (by simp [Dat.den, Dat.esz]) (fun i c hc => by
    obtain ⟨y, hy, hcr⟩ := hf.get (show cs[i]? = some c from hc)
    exact ⟨y, by simpa using hy, hcr⟩)

theorem opAl_ok {ty : TypeId} {r : SR} (hR : RH φ Wr H w) (hW : ∀ b, w.heap.size ≤ b → Wr b) (h : opAl P H ty = some r) : EffOK P φ Wr H w r ((Instr.alloc ty true (.tuple #[])).run P w) := by
  unfold opAl at h
  split at h
  · rename_i z hz
    simp only [Option.some.injEq] at h; subst h
    have hzv : (zeroValue ty).run P w = .ok z w := by
      unfold zr at hz
      cases hi : P.info? ty with
      | none => simp [hi] at hz
      | some i => simp [hi] at hz; simp [zeroValue, typeInfo, hi, hz]
    have hrun : (Instr.alloc ty true (.tuple #[])).run P w = .ok (.pointer (some ⟨w.heap.size, 0, none⟩)) (w.alloc (.cells z.cells ty)) := by
      simp only [Instr.alloc, Sem.run_bind, hzv, Result.andThen_ok, newVar, run_newRow', Sem.run_pure]
    have hA := new_var (w := w) (e := ty) hR hW (F2_v (φ := φ) z.cells.toList)
    simp only [List.length_map, Array.length_toList] at hA
    refine ⟨⟨_, _, _, hrun, ⟨⟨w.heap.size, 0, 1, z.cells.size⟩, ?_, by simp [Pl.ad]⟩, ⟨_, rfl⟩, hA, Keep.alloc φ w _⟩, by simp⟩
    rw [List.getElem?_append_right (by rw [hR.len]; exact Nat.le_refl _), hR.len]; simp
  · cases h

theorem opBox_ok {ty : TypeId} {t : TV} {v : Value} {r : SR} (hR : RH φ Wr H w) (hW : ∀ b, w.heap.size ≤ b → Wr b) (ht : TR φ t v) (h : opBox H t = some r) : EffOK P φ Wr H w r ((Instr.box ty v).run P w) := by
  unfold opBox at h
  split at h
  · rename_i cs hcs
    simp only [Option.some.injEq] at h; subst h
    obtain ⟨ys, hys, hf⟩ := cellsOf_ok ht hcs
    have hrun : (Instr.box ty v).run P w = .ok (.pointer (some ⟨w.heap.size, 0, none⟩)) (w.alloc (.cells v.cells ty)) := by
      simp only [Instr.box, Sem.run_bind, newVar, run_newRow', Result.andThen_ok, Sem.run_pure]
    have hA := new_var (w := w) (ys := v.cells) (e := ty) hR hW (by rw [hys]; exact hf)
    refine ⟨⟨_, _, _, hrun, ⟨⟨w.heap.size, 0, 1, cs.length⟩, ?_, by simp [Pl.ad]⟩, ⟨_, rfl⟩, hA, Keep.alloc φ w _⟩, by simp⟩
    rw [List.getElem?_append_right (by rw [hR.len]; exact Nat.le_refl _), hR.len]; simp
  · cases h

/-! ### append -/

theorem F2.nil_of {α β : Type} {R : α → β → Prop} {as : List α} {bs : List β} (h : F2 R as bs) (hb : bs = []) : as = [] :=
  List.eq_nil_of_length_eq_zero (by rw [h.length, hb]; rfl)

/-- What a slice reads: its cells. -/
theorem first_ok {e h off len : Nat} {u : Value} {own : Bool} {d d2 : Dat} {vc : Prop} (hR : RH φ Wr H w) (hx : CR φ (.sl e h off len) u) (hd : H[h]? = some (.r own d)) (he : d.esz = e) (hp : d.part off len = some (vc, d2)) (hvc : vc) :
    ∃ a cap, u = .slice a len cap ∧ ∃ news : List Value, news.length = len * e ∧ F2 (CR φ) d2.den news ∧ (∀ v ∈ news, v.oneCell' = true) ∧ ∀ w', (∀ k, k < w.heap.size → w'.heap[k]? = w.heap[k]?) → (Builtin.firstCells e len u).run P w' = .ok news.toArray w' := by
  obtain ⟨p, a, cap, hph, hpe, rfl, hlc, hcm, hor⟩ := hx
  obtain ⟨p1, p2, p3⟩ := part_ok hp hvc
  have hrow := hR.row h _ p hd hph
  have hdl : d2.den.length = len * e := by rw [p2, he]; simp; rw [he] at p3; omega
  have hcell : ∀ j c, d2.den[j]? = some c → ∃ y, w.cell? ⟨p.blk, p.base + (off * e + j), none⟩ = some y ∧ CR φ c y := fun j c hj => by
    rw [p2, he, List.getElem?_take] at hj
    split at hj
    · rw [List.getElem?_drop] at hj
      exact hrow.2.1 _ _ hj
    · cases hj
  have h1c : ∀ c ∈ d2.den, c.isOne = true := by
    unfold Dat.part at hp
    split at hp
    · simp only [Option.some.injEq, Prod.mk.injEq] at hp; obtain ⟨_, rfl⟩ := hp; intro c hc; simp only [Dat.den, List.mem_map] at hc; obtain ⟨_, _, rfl⟩ := hc; rfl
    · simp only [Option.some.injEq, Prod.mk.injEq] at hp; obtain ⟨_, rfl⟩ := hp; intro c hc; simp only [Dat.den, List.mem_map] at hc; obtain ⟨_, _, rfl⟩ := hc; rfl
    · simp only [Option.some.injEq, Prod.mk.injEq] at hp; obtain ⟨_, rfl⟩ := hp; intro c hc; simp only [Dat.den, List.mem_flatMap] at hc; obtain ⟨_, _, hc⟩ := hc; simp at hc; rcases hc with rfl | rfl <;> rfl
    · split at hp
      · rename_i hall
        simp only [Option.some.injEq, Prod.mk.injEq] at hp; obtain ⟨_, rfl⟩ := hp; intro c hc
        exact List.all_eq_true.mp hall c hc
      · cases hp
    · split at hp
      · rename_i hall
        simp only [Option.some.injEq, Prod.mk.injEq] at hp; obtain ⟨_, rfl⟩ := hp; intro c hc
        exact List.all_eq_true.mp hall c hc
      · cases hp
    · cases hp
  refine ⟨a, cap, rfl, (List.range (len * e)).map fun j => (w.cell? ⟨p.blk, p.base + (off * e + j), none⟩).getD undef, by simp, F2.of_get (by simp [hdl]) fun j c hj => ?_, fun v hv => ?_, fun w' hw' => ?_⟩
  · obtain ⟨y, hy, hc⟩ := hcell j c hj
    have hjl : j < len * e := by
      rcases Nat.lt_or_ge j d2.den.length with h' | h'
      · omega
      · rw [List.getElem?_eq_none h'] at hj; cases hj
    exact ⟨y, by simp [hjl, hy], hc⟩
  · simp at hv
    obtain ⟨j, hj, rfl⟩ := hv
    obtain ⟨y, hy, hc⟩ := hcell j d2.den[j] (List.getElem?_eq_getElem (by omega))
    rw [hy]
    exact (one_cells hc (h1c _ (List.getElem_mem _))).2
  · rcases Nat.eq_zero_or_pos (len * e) with h0 | hpos
    · cases a with
      | none => simp [Builtin.firstCells, h0]
      | some a =>
        have := run_firstCells_some (P := P) w' e len a len cap [] (by simp [h0]) (by simp)
        simpa [h0] using this
    · have hc0 : cap ≠ 0 := by intro h0; rw [h0] at hlc; have : len = 0 := by omega
                               subst this; simp at hpos
      rcases hor with h0 | ⟨rfl, _⟩
      · exact absurd h0 hc0
      · refine run_firstCells_some (P := P) w' e len _ len cap _ (by simp) fun j v hj => ?_
        have hjl : j < len * e := by
          rcases Nat.lt_or_ge j (len * e) with h' | h'
          · exact h'
          · rw [List.getElem?_eq_none (by simpa using h')] at hj; cases hj
        obtain ⟨y, hy, _⟩ := hcell j d2.den[j] (List.getElem?_eq_getElem (by omega))
        simp [hjl, hy] at hj
        subst hj
        rw [ad_add, hpe]
        obtain ⟨_, _, _, hb, _⟩ := cell_some hy
        rw [cell_eq] at hy ⊢
        rw [hw' _ (lt_of_heap hb)]
        simpa [Nat.add_assoc] using hy

theorem grown_zero (need old : Nat) (e : TypeId) (h : need ≤ maxLen) : need ≤ grownCap w need old e ∧ grownCap w need old e ≤ maxLen := ⟨grownCap_ge w need old e, grownCap_le_maxLen w need old e h⟩

theorem app_grow {t ty e : TypeId} {i : TypeInfo} {z : Value} (ht : P.underlying t = some (.slice e)) (hi : P.info? e = some i) (hz : i.zero = some z) {a b : Option Addr} {n cap m c : Nat} {olds news : List Value}
    (ho : (Builtin.firstCells i.size n (.slice a n cap)).run P w.drew = .ok olds.toArray w.drew) (hn : (Builtin.firstCells i.size m (.slice b m c)).run P w.drew = .ok news.toArray w.drew)
    (hg : cap < n + m) (h63 : n + m ≤ 9223372036854775807) (hfit : (n + m) * i.bytes ≤ 140737488355328) :
    (Builtin.append_ #[t, t] ty #[.slice a n cap, .slice b m c]).run P w =
      .ok (.slice (some ⟨w.heap.size, 0, none⟩) (n + m) (grownCap w (n + m) cap e))
        (w.drew.alloc (.cells ((olds ++ news).toArray ++ Builtin.zeroCells z.cells (grownCap w (n + m) cap e - (n + m))) e)) := by
  have hn' : ¬ (n + m ≤ cap) := by omega
  have h63' : ¬ (9223372036854775807 < ((n : Int) + (m : Int))) := by omega
  have hfit' := growslice_fits hg hfit
  have h48' : ¬ (281474976710656 < Builtin.nextslicecap (n + m) cap * i.bytes) := by omega
  simp [Builtin.append_, run_underlying ht, sizeOf, typeInfo, zeroValue, hi, hz, Builtin.lenOf, hn', h63', h48', Question.forced, ho, hn, newRow, grownCap]
  congr 2
  apply Array.ext'
  simp [List.append_assoc]

theorem app_room {t ty e : TypeId} {i : TypeInfo} (ht : P.underlying t = some (.slice e)) (hi : P.info? e = some i) {a b : Option Addr} {n cap m c : Nat} {news : List Value}
    (hn : (Builtin.firstCells i.size m (.slice b m c)).run P w = .ok news.toArray w) (hg : n + m ≤ cap) {w' : World}
    (hst : ∀ ad, a = some ad → (storeCells (ad.add (n * i.size)) news).run P w = .ok () w') (ha : a = none → w' = w) :
    (Builtin.append_ #[t, t] ty #[.slice a n cap, .slice b m c]).run P w = .ok (.slice a (n + m) cap) w' := by
  cases a with
  | none =>
    have := ha rfl; subst this
    simp [Builtin.append_, run_underlying ht, sizeOf, typeInfo, hi, Builtin.lenOf, hg, hn]
  | some ad =>
    have := hst ad rfl
    simp [Builtin.append_, run_underlying ht, sizeOf, typeInfo, hi, Builtin.lenOf, hg, hn, this]

/-- The new row behind an append that made a new array. -/
theorem RH.grown {d3 : Dat} {cs olds news : List Value} {z : Value} {e : TypeId} {need cap s : Nat} {H1 : Hp} (hR : RH φ Wr H1 w) (hW : ∀ b, w.heap.size ≤ b → Wr b) (he : d3.esz = s) (hzs : z.cells.size = s)
    (hf : F2 (CR φ) d3.den (olds ++ news)) (hl : (olds ++ news).length = need * s) (hc : need ≤ cap) :
    RH (φ ++ [⟨w.heap.size, 0, cap, d3.esz⟩]) Wr (H1 ++ [.r true d3]) (w.drew.alloc (.cells ((olds ++ news).toArray ++ Builtin.zeroCells z.cells (cap - need)) e)) := by
  have hm : cap * s = need * s + (cap - need) * s := by rw [← Nat.add_mul]; congr 1; omega
  refine hR.alloc hW (cur := (olds ++ news).toArray ++ Builtin.zeroCells z.cells (cap - need)) (e := e) (fun k hk => heap_alloc_lt w.drew _ hk) (heap_alloc_at w.drew _) ?_ ?_ (fun i c hi => ?_)
  · simp only [Array.size_append, List.size_toArray, size_zeroCells, hzs, hl, he]; omega
  · rw [hf.length, hl, he]; exact Nat.mul_le_mul_right _ hc
  · obtain ⟨y, hy, hcr⟩ := hf.get hi
    refine ⟨y, ?_, hcr⟩
    rw [Array.getElem?_append_left]
    · simpa using hy
    · rcases Nat.lt_or_ge i (olds ++ news).length with h' | h'
      · simpa using h'
      · rw [List.getElem?_eq_none h'] at hy; cases hy

theorem keep_grow (o : Obj) (ms : List Nat) : Keep φ ms w (w.drew.alloc o) := ⟨rfl, rfl, rfl, by rw [size_alloc']; exact Nat.le_succ _, fun _ hk _ => heap_alloc_lt w.drew _ hk⟩

theorem last_get (hR : RH φ Wr H w) (p : Pl) : (φ ++ [p])[H.length]? = some p := by
  rw [← hR.len, List.getElem?_append_right (Nat.le_refl _)]; simp

theorem app_den2 {d d' d3 : Dat} (_h : d.app d' = some d3) : d'.den = d'.den := rfl

theorem opApp_ok {tys : List TypeId} {ty : TypeId} {x y : TV} {u v : Value} {r : SR} (hR : RH φ Wr H w) (hW : ∀ b, w.heap.size ≤ b → Wr b) (hx : TR φ x u) (hy : TR φ y v) (h : opApp P H tys x y = some r) (hvc : r.vc) :
    EffOK P φ Wr H w r ((Builtin.append_ tys.toArray ty #[u, v]).run P w) := by
  unfold opApp at h
  split at h
  · rename_i t1 t2
    split at h
    · rename_i e hu htt
      have htt' : t1 = t2 := by simpa using htt
      subst htt'
      split at h
      · rename_i s b z hs hb hz
        obtain ⟨i, hi, hi1, hi2, hi3⟩ := info_all hs hb hz
        split at h
        · rename_i es h0 off len es' h1 off' len'
          split at h
          · rename_i d own' d' hd hd'
            split at h
            · rename_i v1 v2 d2 hwh hpt
              split at h
              · rename_i d3 happ
                split at h
                · rename_i hc
                  obtain ⟨⟨rfl, rfl⟩, hc3, hc4⟩ := hc
                  simp only [Option.some.injEq] at h; subst h
                  obtain ⟨⟨hv1, hv2⟩, hbt, h63⟩ := hvc
                  obtain ⟨rfl, hwl⟩ := whole_ok hwh hv1
                  obtain ⟨a3, a4⟩ := app_ok happ
                  obtain ⟨b, c, rfl, news, hnl, hnf, hn1, hnrun⟩ := first_ok (P := P) hR hy hd' hc4 hpt hv2
                  obtain ⟨p, a, cap, hp, hpe, rfl, hlc, hcm, hor⟩ := hx
                  have hrow := hR.row h0 _ p hd hp
                  obtain ⟨hdl, hb0, hor2⟩ := hrow.2.2 rfl
                  have hes : d.esz = es' := by rw [← hrow.1]; exact hpe
                  have hold : ∃ olds : List Value, olds.length = len * es' ∧ F2 (CR φ) d.den olds ∧ ∀ w', (∀ k, k < w.heap.size → w'.heap[k]? = w.heap[k]?) → (Builtin.firstCells es' len (.slice a len cap)).run P w' = .ok olds.toArray w' := by
                    have hpart : ∃ vc2 d2', d.part 0 len = some (vc2, d2') ∧ vc2 ∧ d2'.den = d.den := by
                      unfold Dat.whole at hwh
                      split at hwh <;> try simp only [Option.some.injEq, reduceCtorEq] at hwh
                      · subst hwh; exact ⟨_, _, rfl, by omega, by simp [Dat.den, hv1]⟩
                      · subst hwh; exact ⟨_, _, rfl, by omega, by simp [Dat.den, hv1]⟩
                      · subst hwh; exact ⟨_, _, rfl, by omega, by simp [Dat.den, hv1]⟩
                      · split at hwh
                        · rename_i hall
                          simp only [Option.some.injEq] at hwh; subst hwh
                          exact ⟨_, _, if_pos (by rw [List.drop_zero, hv1, List.take_length]; exact hall), by omega, by simp [Dat.den, hv1]⟩
                        · cases hwh
                      · split at hwh
                        · rename_i hall
                          simp only [Option.some.injEq] at hwh; subst hwh
                          exact ⟨_, _, if_pos (by rw [Nat.zero_mul, List.drop_zero, hv1, List.take_length]; exact hall), by omega, by simp [Dat.den, hv1]⟩
                        · cases hwh
                    obtain ⟨vc2, d2', hp2, hvc2, hden⟩ := hpart
                    obtain ⟨a', cap', hsl, olds, ol, of, _, orun⟩ := first_ok (P := P) hR (u := .slice a len cap) ⟨p, a, cap, hp, hpe, rfl, hlc, hcm, hor⟩ hd hes hp2 hvc2
                    exact ⟨olds, ol, hden ▸ of, orun⟩
                  obtain ⟨olds, hol, hof, horun⟩ := hold
                  have hf3 : F2 (CR φ) d3.den (olds ++ news) := by rw [a3]; exact hof.append ((app_den2 happ) ▸ hnf)
                  have hfl : (olds ++ news).length = (len + len') * es' := by rw [List.length_append, hol, hnl, Nat.add_mul]
                  by_cases hroom : len + len' ≤ cap
                  · -- in place
                    by_cases hcap : cap = 0
                    · -- nothing at all
                      have hl0 : len = 0 := by omega
                      have hl0' : len' = 0 := by omega
                      subst hl0; subst hl0'
                      have hnn : news = [] := List.eq_nil_of_length_eq_zero (by simpa using hnl)
                      subst hnn
                      have hoo : olds = [] := List.eq_nil_of_length_eq_zero (by simpa using hol)
                      subst hoo
                      have hd3 : d3.den = [] := hf3.nil_of rfl
                      have hrun := app_room (P := P) (w := w) (ty := ty) (a := a) (n := 0) (m := 0) (c := c) (b := b) (news := []) (w' := w) hu hi (by rw [hi1]; exact hnrun w fun _ _ => rfl) hroom (fun ad _ => rfl) (fun _ => rfl)
                      refine ⟨⟨φ ++ [⟨p.blk, 0, 0, es'⟩], _, w, hrun, ⟨⟨p.blk, 0, 0, es'⟩, a, cap, last_get hR _, rfl, rfl, by omega, hcm, .inl hcap⟩, ⟨_, rfl⟩, ?_, Keep.refl _ _ _⟩, by intro m hm; simp at hm; subst hm; exact ⟨d, hd⟩⟩
                      refine hR.move hd hp (fun _ _ _ => rfl) (.inr (.inr rfl)) ⟨by simp [a4, hes], fun i c hc => by rw [hd3] at hc; simp at hc, fun _ => ⟨by simp [hd3], rfl, .inl rfl⟩⟩
                    · rcases hor with h' | ⟨rfl, hroomp⟩
                      · exact absurd h' hcap
                      have hrm : p.room ≠ 0 := by omega
                      rcases hor2 with h' | ⟨hw, cur, el, hblk, hcur⟩
                      · exact absurd h' hrm
                      rw [hpe] at hcur
                      have hmono : (len + len') * es' ≤ p.room * es' := Nat.mul_le_mul_right _ (by omega)
                      have hsp : (len + len') * es' = len * es' + len' * es' := Nat.add_mul _ _ _
                      have hst := run_storeCells_at P p.blk (len * es') el news 0 cur w hblk (by rw [hnl]; omega) hn1
                      obtain ⟨cur', hcur'⟩ : ∃ c, c = (List.take (len * es' + 0) cur.toList ++ news ++ List.drop (len * es' + 0 + news.length) cur.toList).toArray := ⟨_, rfl⟩
                      rw [← hcur'] at hst
                      have hrun := app_room (P := P) (w := w) (ty := ty) (a := some (p.ad 0 0)) (n := len) (m := len') (c := c) (b := b) (news := news) (w' := w.setRow p.blk cur') hu hi (by rw [hi1]; exact hnrun w fun _ _ => rfl) hroom (fun ad had => by
                        simp only [Option.some.injEq] at had; subst had
                        rw [hi1, ad_add, hb0]; simpa using hst) (by intro h'; cases h')
                      have hsz : cur'.size = cur.size := by
                        rw [hcur']
                        simp only [Nat.add_zero, List.size_toArray, List.length_append, List.length_take, Array.length_toList, List.length_drop]
                        omega
                      have hblk' := setRow_heap w p.blk cur cur' el _ hblk
                      refine ⟨⟨φ ++ [p], _, w.setRow p.blk cur', hrun, ⟨p, some (p.ad 0 0), cap, last_get hR _, hpe, rfl, by omega, hcm, .inr ⟨rfl, hroomp⟩⟩, ⟨_, rfl⟩, ?_, setRow_keep hp rfl hrm⟩, by intro m hm; simp at hm; subst hm; exact ⟨d, hd⟩⟩
                      refine hR.move hd hp (fun k hk hne => setRow_other w p.blk k cur' (hne hrm)) (.inl ⟨rfl, hrm⟩) ⟨by rw [a4]; exact hrow.1, fun j c hj => ?_, fun _ => ⟨?_, hb0, .inr ⟨hw, cur', el, hblk', by rw [hsz, hcur, hpe]⟩⟩⟩
                      · obtain ⟨y, hy, hcr⟩ := hf3.get hj
                        refine ⟨y, ?_, CR.mono ⟨_, rfl⟩ hcr⟩
                        rw [cell_eq, hblk', hb0, hcur']
                        simp only [Nat.zero_add, Nat.add_zero, List.getElem?_toArray]
                        rcases Nat.lt_or_ge j olds.length with hlt | hge
                        · rw [List.getElem?_append_left hlt] at hy
                          rw [List.append_assoc, List.getElem?_append_left (by simp; omega), List.getElem?_take, if_pos (by omega)]
                          have hjd : j < d.den.length := by rw [hof.length]; exact hlt
                          obtain ⟨y', hy', _⟩ := hrow.2.1 j d.den[j] (List.getElem?_eq_getElem hjd)
                          have hrun2 := horun w fun _ _ => rfl
                          rw [cell_eq, hblk, hb0] at hy'
                          simp only [Nat.zero_add] at hy'
                          have hfc := run_firstCells_some (P := P) w es' len (p.ad 0 0) len cap (cur.toList.take (len * es')) (by simp; omega) (fun k v hk => by
                            rw [List.getElem?_take] at hk
                            split at hk
                            · rw [ad_add, cell_eq, hblk, hb0]; simpa using hk
                            · cases hk)
                          rw [hfc] at hrun2
                          simp only [Result.ok.injEq, and_true] at hrun2
                          have : olds = cur.toList.take (len * es') := by have := congrArg Array.toList hrun2; simpa using this.symm
                          rw [this, List.getElem?_take, if_pos (by omega)] at hy
                          simpa using hy
                        · rw [List.getElem?_append_right hge] at hy
                          rw [List.append_assoc, List.getElem?_append_right (by simp; omega)]
                          have hjn : j - olds.length < news.length := by
                            rcases Nat.lt_or_ge (j - olds.length) news.length with h' | h'
                            · exact h'
                            · rw [List.getElem?_eq_none h'] at hy; cases hy
                          rw [List.getElem?_append_left (by simp; omega)]
                          simp only [List.length_take, Array.length_toList]
                          rw [Nat.min_eq_left (by omega), ← hol]; exact hy
                      · rw [hf3.length, hfl, hpe]; exact hmono
                  · have hdrew : ∀ k, k < w.heap.size → w.drew.heap[k]? = w.heap[k]? := fun _ _ => rfl
                    have hrun := app_grow (P := P) (w := w) (ty := ty) hu hi hi3 (a := a) (b := b) (n := len) (cap := cap) (m := len') (c := c) (olds := olds) (news := news) (by rw [hi1]; exact horun _ hdrew) (by rw [hi1]; exact hnrun _ hdrew) (by omega) (by omega) (by rw [hi2]; exact hbt)
                    have hgc := grown_zero (w := w) (len + len') cap e (by unfold maxLen; omega)
                    have hR1 : RH φ Wr (H.set h0 .dead) w := hR.frame (by simp) (fun k row hk => by
                      by_cases hkh : k = h0
                      · subst hkh
                        rw [List.getElem?_set] at hk
                        simp at hk
                        exact .inl hk.2.symm
                      · rw [List.getElem?_set_ne (Ne.symm hkh)] at hk; exact .inr hk) (fun _ _ _ _ _ _ _ => rfl)
                    have hG := hR1.grown hW (cs := []) (e := e) (d3 := d3) (olds := olds) (news := news) (z := z) (need := len + len') (cap := grownCap w (len + len') cap e) (s := es') (by rw [a4, hes]) hc3 hf3 hfl hgc.1
                    refine ⟨⟨_, _, _, hrun, ⟨_, _, _, last_get hR _, ?_, rfl, hgc.1, hgc.2, .inr ⟨by simp [Pl.ad], by simp⟩⟩, ⟨_, rfl⟩, hG, keep_grow _ _⟩, by intro m hm; simp at hm; subst hm; exact ⟨d, hd⟩⟩
                    simp [a4, hes]
                · cases h
              · cases h
            · cases h
          · cases h
        · rename_i es' h1 off' len'
          split at h
          · rename_i own' d' hd'
            split at h
            · rename_i v2 d2 hpt
              split at h
              · rename_i hc
                obtain ⟨rfl, hc3, hc4⟩ := hc
                simp only [Option.some.injEq] at h; subst h
                obtain ⟨hv2, hbt, h63⟩ := hvc
                have hu' : u = .slice none 0 0 := hx
                subst hu'
                obtain ⟨b, c, rfl, news, hnl, hnf, hn1, hnrun⟩ := first_ok (P := P) hR hy hd' hc4 hpt hv2
                have hd2e : d2.esz = es' := by rw [(part_ok hpt hv2).1, hc4]
                by_cases h0 : len' = 0
                · subst h0
                  have hnn : news = [] := List.eq_nil_of_length_eq_zero (by simpa using hnl)
                  subst hnn
                  have hd3 : d2.den = [] := hnf.nil_of rfl
                  have hrun := app_room (P := P) (w := w) (ty := ty) (a := none) (n := 0) (cap := 0) (m := 0) (c := c) (b := b) (news := []) (w' := w) hu hi (by rw [hi1]; exact hnrun w fun _ _ => rfl) (Nat.le_refl _) (fun ad _ => rfl) (fun _ => rfl)
                  refine ⟨⟨φ ++ [⟨0, 0, 0, es'⟩], _, w, hrun, ⟨⟨0, 0, 0, es'⟩, none, 0, last_get hR _, rfl, rfl, Nat.le_refl _, by simp, .inl rfl⟩, ⟨_, rfl⟩, ?_, Keep.refl _ _ _⟩, by simp⟩
                  exact hR.push ⟨by simp [hd2e], fun i c hc => by rw [hd3] at hc; simp at hc, fun _ => ⟨by simp [hd3], rfl, .inl rfl⟩⟩ (fun _ _ _ _ _ hs _ _ => by simp [Row.den, hd3] at hs)
                · have hdrew : ∀ k, k < w.heap.size → w.drew.heap[k]? = w.heap[k]? := fun _ _ => rfl
                  have hrun := app_grow (P := P) (w := w) (ty := ty) hu hi hi3 (a := none) (b := b) (n := 0) (cap := 0) (m := len') (c := c) (olds := []) (news := news) (by simp [Builtin.firstCells]) (by rw [hi1]; exact hnrun _ hdrew) (by omega) (by omega) (by rw [hi2, Nat.zero_add]; exact hbt)
                  have hgc := grown_zero (w := w) (0 + len') 0 e (by unfold maxLen; omega)
                  have hG := hR.grown hW (cs := []) (e := e) (d3 := d2) (olds := []) (news := news) (z := z) (need := 0 + len') (cap := grownCap w (0 + len') 0 e) (s := es') hd2e hc3 hnf (by simp [hnl]) hgc.1
                  refine ⟨⟨_, _, _, hrun, ⟨_, some ⟨w.heap.size, 0, none⟩, grownCap w (0 + len') 0 e, last_get hR _, hd2e, ?_, by omega, hgc.2, .inr ⟨by simp [Pl.ad], by simp⟩⟩, ⟨_, rfl⟩, hG, keep_grow _ _⟩, by simp⟩
                  rw [Nat.zero_add]
              · cases h
            · cases h
          · cases h
        · cases h
      · cases h
    · cases h
  · cases h

theorem aeff_ok {n : Nat} {f : F} {a : Act} {o : Oper} {r : SR} (hr : RA φ n f a) (hR : RH φ Wr H w) (hW : ∀ b, w.heap.size ≤ b → Wr b) (h : aeff P f H o.op = some r) (hvc : r.vc) :
    (∃ φ' z w', ((execOp a.eval o).run P w = .ok (.value z) w' ∨ ((execOp a.eval o).run P w = .ok .skip w' ∧ z = undef)) ∧ TR φ' r.tv z ∧ φ <+: φ' ∧ RH φ' Wr r.H w' ∧ Keep φ r.ms w w') ∧ ∀ m ∈ r.ms, ∃ d, H[m]? = some (.r true d) := by
  unfold aeff at h
  split at h
  case _ t x v ho =>
    split at h
    · rename_i tx tv h1 h2
      obtain ⟨w', hrun, htv, hR', hk, hm⟩ := opSt_ok (P := P) hR (hr.ev h1) (hr.ev h2) h hvc
      exact ⟨⟨φ, undef, w', .inr ⟨by simp only [execOp, ho, Sem.run_bind, hrun, Result.andThen_ok, Sem.run_pure], rfl⟩, by rw [htv]; exact rfl, List.prefix_refl _, hR', hk⟩, hm⟩
    · cases h
  case _ t l c ho =>
    split at h
    · rename_i tx tv h1 h2
      obtain ⟨⟨φ', z, w', hrun, rest⟩, hm⟩ := opMk_ok (P := P) hR hW (hr.ev h1) (hr.ev h2) h hvc
      exact ⟨⟨φ', z, w', .inl (by simp only [execOp, ho, Sem.run_bind, hrun, Result.andThen_ok, Sem.run_pure]), rest⟩, hm⟩
    · cases h
  case _ t len parts ho =>
    obtain ⟨⟨φ', z, w', hrun, rest⟩, hm⟩ := opBS_ok (P := P) hR hW hr h
    exact ⟨⟨φ', z, w', .inl (by simp only [execOp, ho, Sem.run_bind, hrun, Result.andThen_ok, Sem.run_pure]), rest⟩, hm⟩
  case _ t ho =>
    obtain ⟨⟨φ', z, w', hrun, rest⟩, hm⟩ := opAl_ok (P := P) hR hW h
    exact ⟨⟨φ', z, w', .inl (by simp only [execOp, ho, Sem.run_bind, hrun, Result.andThen_ok, Sem.run_pure]), rest⟩, hm⟩
  case _ t v ho =>
    split at h
    · rename_i tv h1
      obtain ⟨⟨φ', z, w', hrun, rest⟩, hm⟩ := opBox_ok (P := P) (ty := t) hR hW (hr.ev h1) h
      exact ⟨⟨φ', z, w', .inl (by simp only [execOp, ho, Sem.run_bind, hrun, Result.andThen_ok, Sem.run_pure]), rest⟩, hm⟩
    · cases h
  case _ args ats ho =>
    split at h
    · rename_i x y hargs
      have e1 := toList_two hargs
      subst e1
      split at h
      · rename_i tx tv h1 h2
        obtain ⟨⟨φ', z, w', hrun, rest⟩, hm⟩ := opApp_ok (P := P) (ty := o.type) hR hW (hr.ev h1) (hr.ev h2) h hvc
        refine ⟨⟨φ', z, w', .inl ?_, rest⟩, hm⟩
        simp only [execOp, ho, resolve, invoke, builtin, Sem.run_bind, Sem.run_pure, Result.andThen_ok]
        rw [show (#[x, y].map a.eval) = #[a.eval x, a.eval y] by simp, show ats = ats.toList.toArray by simp, hrun]
        rfl
      · cases h
    · cases h
  · cases h
end
end Go.Ax
