/- AX: the operations that leave the world alone: what the model's own step does is what the abstract one says. -/
import Derived.Test.YtfkokcmnmmfcbaaAxHeap
set_option linter.unusedSimpArgs false
set_option linter.unusedVariables false
set_option linter.unusedSectionVars false
namespace Go.Ax
open Go

theorem wrap_i64 {r : Int} (h : inI64 r) : IntKind.i64.wrap r = r := IntWalk.i64_in r ⟨by unfold inI64 at h; omega, by unfold inI64 at h; omega⟩

section
variable {P : Program} {w : World}

theorem run_und {t : TypeId} {d : TypeDesc} (h : P.underlying t = some d) : (underlying t).run P w = .ok d w := by simp [go_sem, underlying, h]
theorem run_sz {t : TypeId} {s : Nat} (h : sz P t = some s) : (sizeOf t).run P w = .ok s w := by
  unfold sz at h
  cases hi : P.info? t with
  | none => simp [hi] at h
  | some i => simp [hi] at h; simp [go_sem, sizeOf, typeInfo, hi, h]

theorem arR_ok {k : IntKind} {r : Int} (h : (arR k r).1) : .int k (k.wrap r) = (arR k r).2 := by
  cases k <;> first | rfl | (simp only [arR] at h ⊢; rw [wrap_i64 h])

theorem abin_ok {op : BinOp} {k : IntKind} {a b : Int} {vc : Prop} {t : TV} (hns : ¬ (op = .shl ∨ op = .shr)) (h : abin op k a b = some (vc, t)) (hvc : vc) (ty : TypeId) :
    ∃ y, (∀ w : World, (binOp op ty (.int k a) (.int k b)).run P w = .ok y w) ∧ t = .a (.c (.v y)) := by
  cases op <;> simp only [abin, one, onb, abits, Option.some.injEq, Prod.mk.injEq, reduceCtorEq] at h
  case add => obtain ⟨rfl, rfl⟩ := h; exact ⟨_, fun w => by simp [go_sem, binOp, Op.intArith]; exact arR_ok hvc, rfl⟩
  case sub => obtain ⟨rfl, rfl⟩ := h; exact ⟨_, fun w => by simp [go_sem, binOp, Op.intArith]; exact arR_ok hvc, rfl⟩
  case mul => obtain ⟨rfl, rfl⟩ := h; exact ⟨_, fun w => by simp [go_sem, binOp, Op.intArith]; exact arR_ok hvc, rfl⟩
  case quo => obtain ⟨rfl, rfl⟩ := h; exact ⟨_, fun w => by simp [go_sem, binOp, Op.intDiv, hvc.1]; exact arR_ok hvc.2, rfl⟩
  case rem => obtain ⟨rfl, rfl⟩ := h; have hb : b ≠ 0 := hvc; exact ⟨_, fun w => by simp [go_sem, binOp, Op.intDiv, hb], rfl⟩
  case and => obtain ⟨rfl, rfl⟩ := h; exact ⟨_, fun w => by simp [go_sem, binOp, Op.intBits], rfl⟩
  case or => obtain ⟨rfl, rfl⟩ := h; exact ⟨_, fun w => by simp [go_sem, binOp, Op.intBits], rfl⟩
  case xor => obtain ⟨rfl, rfl⟩ := h; exact ⟨_, fun w => by simp [go_sem, binOp, Op.intBits], rfl⟩
  case eql => obtain ⟨rfl, rfl⟩ := h; exact ⟨_, fun w => by simp [go_sem, binOp, Op.intCmp], rfl⟩
  case neq => obtain ⟨rfl, rfl⟩ := h; exact ⟨_, fun w => by simp [go_sem, binOp, Op.intCmp], rfl⟩
  case lss => obtain ⟨rfl, rfl⟩ := h; exact ⟨_, fun w => by simp [go_sem, binOp, Op.intCmp], rfl⟩
  case leq => obtain ⟨rfl, rfl⟩ := h; exact ⟨_, fun w => by simp [go_sem, binOp, Op.intCmp], rfl⟩
  case gtr => obtain ⟨rfl, rfl⟩ := h; exact ⟨_, fun w => by simp [go_sem, binOp, Op.intCmp], rfl⟩
  case geq => obtain ⟨rfl, rfl⟩ := h; exact ⟨_, fun w => by simp [go_sem, binOp, Op.intCmp], rfl⟩

theorem ashift_ok {op : BinOp} {k k' : IntKind} {a b : Int} {vc : Prop} {t : TV} (hs : op = .shl ∨ op = .shr) (h : ashift op k a b = some (vc, t)) (hvc : vc) (ty : TypeId) :
    ∃ y, (∀ w : World, (binOp op ty (.int k a) (.int k' b)).run P w = .ok y w) ∧ t = .a (.c (.v y)) := by
  rcases hs with rfl | rfl
  · simp only [ashift, one, Option.some.injEq, Prod.mk.injEq] at h
    obtain ⟨rfl, rfl⟩ := h
    obtain ⟨⟨h0, h1⟩, h2⟩ := hvc
    have e : min b.toNat k.bits = b.toNat := by omega
    refine ⟨_, fun w => ?_, rfl⟩
    rw [← arR_ok h2]
    show (Op.shift .shl k a k' b).run P w = _
    unfold Op.shift
    rw [if_neg (by omega), e]
    rfl
  · simp only [ashift, one, Option.some.injEq, Prod.mk.injEq] at h
    obtain ⟨rfl, rfl⟩ := h
    obtain ⟨h0, h1⟩ := hvc
    have e : min b.toNat k.bits = b.toNat := by omega
    refine ⟨_, fun w => ?_, rfl⟩
    show (Op.shift .shr k a k' b).run P w = _
    unfold Op.shift
    rw [if_neg (by omega), e]
    rfl

theorem equalIn_bool {ty : TypeId} (hb : P.underlying ty = some .bool) (d : Nat) (a b : Bool) : (Op.equalIn (d + 1) ty (.bool a) (.bool b)).run P w = .ok (a == b) w := by
  unfold Op.equalIn; simp [go_sem, run_und hb]
theorem binOp_eql_bool {ty : TypeId} (hb : P.underlying ty = some .bool) (a b : Bool) : (binOp .eql ty (.bool a) (.bool b)).run P w = .ok (.bool (a == b)) w := by
  show (do pure (.bool (← Op.equal ty (.bool a) (.bool b))) : Sem Value).run P w = _
  have h : (Op.equal ty (.bool a) (.bool b)).run P w = .ok (a == b) w := equalIn_bool hb 9999 a b
  simp [go_sem, h]
theorem binOp_neq_bool {ty : TypeId} (hb : P.underlying ty = some .bool) (a b : Bool) : (binOp .neq ty (.bool a) (.bool b)).run P w = .ok (.bool (a != b)) w := by
  show (do pure (.bool (!(← Op.equal ty (.bool a) (.bool b)))) : Sem Value).run P w = _
  have h : (Op.equal ty (.bool a) (.bool b)).run P w = .ok (a == b) w := equalIn_bool hb 9999 a b
  simp [go_sem, h, bne]

theorem eqGuard_int (op : BinOp) (ty : TypeId) (x y : Operand) (k k' : IntKind) (a b : Int) : (eqGuard op ty x y (.int k a) (.int k' b)).run P w = .ok () w := by
  unfold eqGuard; split <;> simp [go_sem]
theorem eqGuard_bool (op : BinOp) (ty : TypeId) (x y : Operand) (a b : Bool) : (eqGuard op ty x y (.bool a) (.bool b)).run P w = .ok () w := by
  unfold eqGuard; split <;> simp [go_sem]

variable {φ : List Pl}

theorem opBin_ok {op : BinOp} {ty : TypeId} {x y : TV} {u v : Value} {vc : Prop} {t : TV} (hx : TR φ x u) (hy : TR φ y v) (h : opBin P op ty x y = some (vc, t)) (hvc : vc) (X Y : Operand) :
    ∃ z, (∀ w : World, (do eqGuard op ty X Y u v; binOp op ty u v).run P w = .ok z w) ∧ TR φ t z := by
  unfold opBin at h
  split at h
  · rename_i k a k' b
    have hu : u = .int k a := hx
    have hv : v = .int k' b := hy
    subst hu; subst hv
    split at h
    · rename_i hs
      obtain ⟨z, hz, rfl⟩ := ashift_ok (P := P) (k' := k') hs h hvc ty
      exact ⟨z, fun w => by simp only [Sem.run_bind, eqGuard_int, Result.andThen_ok, hz], rfl⟩
    · rename_i hs
      split at h
      · rename_i hk
        subst hk
        obtain ⟨z, hz, rfl⟩ := abin_ok (P := P) hs h hvc ty
        exact ⟨z, fun w => by simp only [Sem.run_bind, eqGuard_int, Result.andThen_ok, hz], rfl⟩
      · cases h
  · rename_i a b
    have hu : u = .bool a := hx
    have hv : v = .bool b := hy
    subst hu; subst hv
    split at h
    · rename_i hb
      cases op <;> simp only [onb, Option.some.injEq, Prod.mk.injEq, reduceCtorEq] at h
      · obtain ⟨rfl, rfl⟩ := h
        exact ⟨.bool (a == b), fun w => by simp only [Sem.run_bind, eqGuard_bool, Result.andThen_ok, binOp_eql_bool hb], rfl⟩
      · obtain ⟨rfl, rfl⟩ := h
        exact ⟨.bool (a != b), fun w => by simp only [Sem.run_bind, eqGuard_bool, Result.andThen_ok, binOp_neq_bool hb], rfl⟩
    · cases h
  · cases h

theorem opUn_ok {op : UnOp} {x : TV} {u : Value} {vc : Prop} {t : TV} (hx : TR φ x u) (h : opUn op x = some (vc, t)) (hvc : vc) : ∃ z, (∀ w : World, (Op.unary op u).run P w = .ok z w) ∧ TR φ t z := by
  unfold opUn at h
  split at h
  · rename_i b
    have hu : u = .bool b := hx
    subst hu
    cases op <;> simp only [onb, Option.some.injEq, Prod.mk.injEq, reduceCtorEq] at h
    obtain ⟨rfl, rfl⟩ := h
    exact ⟨_, fun w => by simp [go_sem, Op.unary], rfl⟩
  · rename_i k m
    have hu : u = .int k m := hx
    subst hu
    cases op <;> simp only [one, Option.some.injEq, Prod.mk.injEq, reduceCtorEq] at h
    obtain ⟨rfl, rfl⟩ := h
    exact ⟨(arR k (0 - m)).2, fun w => by rw [← arR_ok hvc]; simp [go_sem, Op.unary, Op.intArith], rfl⟩
  · cases h

theorem addr_add {p : Pl} {o i : Nat} : (p.ad o 0).add (i * p.esz) = p.ad (o + i) 0 := by
  unfold Addr.add Pl.ad
  split
  · rename_i h
    simp only [Addr.mk.injEq, and_true, true_and]
    rw [Nat.add_mul]; omega
  · simp only [Addr.mk.injEq, and_true, true_and]
    rw [Nat.add_mul]; omega

theorem opIdx_ok {ty : TypeId} {x y : TV} {u v : Value} {vc : Prop} {t : TV} (hx : TR φ x u) (hy : TR φ y v) (h : opIdx P ty x y = some (vc, t)) (hvc : vc) :
    ∃ z, (∀ w : World, (Instr.indexAt ty u v).run P w = .ok z w) ∧ TR φ t z := by
  unfold opIdx at h
  split at h
  · rename_i e h' off len k i
    split at h
    · rename_i el hu
      split at h
      · rename_i hs
        simp only [Option.some.injEq, Prod.mk.injEq] at h
        obtain ⟨rfl, rfl⟩ := h
        obtain ⟨p, a, cap, hp, he, rfl, hlc, hcm, hor⟩ := hx
        have hv : v = .int k i := hy
        subst hv
        obtain ⟨h0, h1⟩ := hvc
        rcases hor with h2 | ⟨rfl, h2⟩
        · omega
        · refine ⟨.pointer (some (p.ad (off + i.toNat) 0)), fun w => ?_, p, hp, rfl⟩
          subst he
          simp [go_sem, Instr.indexAt, asIntOf, run_und hu, run_sz hs, h0, h1, addr_add]
      · cases h
    · cases h
  · cases h

theorem opBd_ok {d : Nat} {x : Option (Option TV)} {u : Option Value} {vc : Prop} {i : Int} (h : opBd d x = some (vc, i)) (hx : ∀ y, x = some y → ∃ t v, y = some t ∧ u = some v ∧ TR φ t v) (hn : x = none → u = none) :
    (u = none ∧ i = (d : Int)) ∨ ∃ k, u = some (.int k i) := by
  unfold opBd at h
  split at h
  · simp at h; exact .inl ⟨hn rfl, h.2.symm⟩
  · rename_i k j
    simp at h
    obtain ⟨t, v, ht, hu, htr⟩ := hx _ rfl
    simp at ht
    subst ht
    have hv : v = .int k j := htr
    subst hv
    exact .inr ⟨k, by rw [hu, h.2]⟩
  · cases h

theorem opSl_ok {ty : TypeId} {x : TV} {lo hi : Option (Option TV)} {u : Value} {ul uh : Option Value} {vc : Prop} {t : TV} (hx : TR φ x u) (h : opSl P ty x lo hi = some (vc, t)) (hvc : vc)
    (hlo : ∀ y, lo = some y → ∃ t v, y = some t ∧ ul = some v ∧ TR φ t v) (hlo' : lo = none → ul = none)
    (hhi : ∀ y, hi = some y → ∃ t v, y = some t ∧ uh = some v ∧ TR φ t v) (hhi' : hi = none → uh = none) :
    ∃ z, (∀ w : World, (Instr.sliceAt ty u ul uh none).run P w = .ok z w) ∧ TR φ t z := by
  unfold opSl at h
  split at h
  · rename_i e h' off len
    split at h
    · rename_i el _ l _ r hu hl hr
      split at h
      · rename_i hs
        simp only [Option.some.injEq, Prod.mk.injEq] at h
        obtain ⟨rfl, rfl⟩ := h
        obtain ⟨⟨h0, h1⟩, h2⟩ := hvc
        obtain ⟨p, a, cap, hp, he, rfl, hlc, hcm, hor⟩ := hx
        have key : ∀ w : World, (Instr.sliceBounds true len cap ul uh none).run P w = .ok (l.toNat, r.toNat, cap) w := by
          intro w
          rcases opBd_ok hl hlo hlo' with ⟨rfl, rfl⟩ | ⟨kl, rfl⟩ <;> rcases opBd_ok hr hhi hhi' with ⟨rfl, rfl⟩ | ⟨kr, rfl⟩
          · simp [go_sem, Instr.sliceBounds]
          · simp [go_sem, Instr.sliceBounds, Instr.sliceBound, asIntOf, show 0 ≤ r ∧ r ≤ (cap : Int) by omega]
          · simp [go_sem, Instr.sliceBounds, Instr.sliceBound, asIntOf, show 0 ≤ l ∧ l ≤ (len : Int) by omega]
          · simp [go_sem, Instr.sliceBounds, Instr.sliceBound, asIntOf, show 0 ≤ r ∧ r ≤ (cap : Int) by omega, show 0 ≤ l ∧ l ≤ (max r 0) by omega]
        refine ⟨.slice (if cap = l.toNat then a else a.map (·.add (l.toNat * e))) (r.toNat - l.toNat) (cap - l.toNat), fun w => ?_, p, _, _, hp, he, rfl, by omega, by omega, ?_⟩
        · simp only [Instr.sliceAt, Instr.slice, Sem.run_bind, run_und hu, Result.andThen_ok, key, run_sz hs, Sem.run_pure]
        · rcases hor with hc | ⟨rfl, hc⟩
          · left; omega
          · by_cases hcl : cap = l.toNat
            · left; omega
            · right
              refine ⟨?_, by omega⟩
              rw [if_neg hcl]
              subst he
              simp [addr_add]
      · cases h
    · cases h
  · cases h

theorem opLen_ok {ty : TypeId} {x : TV} {u : Value} {vc : Prop} {t : TV} (hx : TR φ x u) (h : opLen P ty x = some (vc, t)) : ∃ z, (∀ w : World, (Builtin.len_ #[ty] 0 #[u]).run P w = .ok z w) ∧ TR φ t z := by
  unfold opLen at h
  split at h
  · rename_i e h' off len
    split at h
    · rename_i el hu
      simp only [one, Option.some.injEq, Prod.mk.injEq] at h
      obtain ⟨rfl, rfl⟩ := h
      obtain ⟨p, a, cap, hp, he, rfl, hlc, hcm, hor⟩ := hx
      exact ⟨.int .i64 len, fun w => by simp [go_sem, Builtin.len_, run_und hu, goInt], rfl⟩
    · cases h
  · rename_i a m c
    split at h
    · rename_i el hu
      simp only [one, Option.some.injEq, Prod.mk.injEq] at h
      obtain ⟨rfl, rfl⟩ := h
      have hu' : u = .slice a m c := hx
      subst hu'
      exact ⟨.int .i64 m, fun w => by simp [go_sem, Builtin.len_, run_und hu, goInt], rfl⟩
    · cases h
  · cases h

theorem opMax_ok {x y : TV} {u v : Value} {vc : Prop} {t : TV} (hx : TR φ x u) (hy : TR φ y v) (h : opMax x y = some (vc, t)) (ats : Array TypeId) (ty : TypeId) : ∃ z, (∀ w : World, (Builtin.max_ ats ty #[u, v]).run P w = .ok z w) ∧ TR φ t z := by
  unfold opMax at h
  split at h
  · rename_i k a k' b
    have hu : u = .int k a := hx
    have hv : v = .int k' b := hy
    subst hu; subst hv
    simp only [one, Option.some.injEq, Prod.mk.injEq] at h
    obtain ⟨rfl, rfl⟩ := h
    refine ⟨.int k (max a b), fun w => ?_, rfl⟩
    simp only [Builtin.max_, List.foldlM_cons, List.foldlM_nil, Builtin.max2, Sem.run_bind, Sem.run_pure, Result.andThen_ok]
    congr 2
    split <;> omega
  · cases h

theorem opMin_ok {x y : TV} {u v : Value} {vc : Prop} {t : TV} (hx : TR φ x u) (hy : TR φ y v) (h : opMin x y = some (vc, t)) (ats : Array TypeId) (ty : TypeId) : ∃ z, (∀ w : World, (Builtin.min_ ats ty #[u, v]).run P w = .ok z w) ∧ TR φ t z := by
  unfold opMin at h
  split at h
  · rename_i k a k' b
    have hu : u = .int k a := hx
    have hv : v = .int k' b := hy
    subst hu; subst hv
    simp only [one, Option.some.injEq, Prod.mk.injEq] at h
    obtain ⟨rfl, rfl⟩ := h
    refine ⟨.int k (min a b), fun w => ?_, rfl⟩
    simp only [Builtin.min_, List.foldlM_cons, List.foldlM_nil, Builtin.min2, Sem.run_bind, Sem.run_pure, Result.andThen_ok]
    congr 2
    split <;> omega
  · cases h

theorem opConv_ok {s d : TypeId} {x : TV} {u : Value} {vc : Prop} {t : TV} (hx : TR φ x u) (h : opConv P s d x = some (vc, t)) (hvc : vc) : ∃ z, (∀ w : World, (convert s d u).run P w = .ok z w) ∧ TR φ t z := by
  unfold opConv at h
  split at h
  · rename_i k m
    have hu : u = .int k m := hx
    subst hu
    split at h
    · rename_i k1 k2 h1 h2
      simp only [one, Option.some.injEq, Prod.mk.injEq] at h
      obtain ⟨rfl, rfl⟩ := h
      refine ⟨(arR k2 m).2, fun w => ?_, rfl⟩
      rw [← arR_ok hvc]
      simp [go_sem, convert, run_und h1, run_und h2, Conv.intToInt]
    · cases h
  · cases h

theorem opExt_ok {x : TV} {i : Nat} {u : Value} {vc : Prop} {t : TV} (hx : TR φ x u) (h : opExt x i = some (vc, t)) : ∃ z, (∀ w : World, (Instr.extract u i).run P w = .ok z w) ∧ TR φ t z := by
  unfold opExt at h
  split at h
  · rename_i xs j
    split at h
    · rename_i y hy
      simp only [Option.some.injEq, Prod.mk.injEq] at h
      obtain ⟨rfl, rfl⟩ := h
      obtain ⟨ys, rfl, hf⟩ := hx
      obtain ⟨z, hz, hr⟩ := hf.get hy
      exact ⟨z, fun w => by simp [go_sem, Instr.extract, hz], hr⟩
    · cases h
  · cases h

theorem opFA_ok {s : TypeId} {x : TV} {k : Nat} {u : Value} {vc : Prop} {t : TV} (hx : TR φ x u) (h : opFA P s x k = some (vc, t)) : ∃ z, (∀ w : World, (Instr.fieldAt s u k).run P w = .ok z w) ∧ TR φ t z := by
  unfold opFA at h
  split at h
  · rename_i h' i o
    split at h
    · rename_i fs hu
      split at h
      · rename_i fd hfd
        split at h
        · rename_i hs
          simp only [Option.some.injEq, Prod.mk.injEq] at h
          obtain ⟨rfl, rfl⟩ := h
          obtain ⟨p, hp, rfl⟩ := hx
          refine ⟨.pointer (some (p.ad i (o + fd.offset))), fun w => ?_, p, hp, rfl⟩
          have e : (p.ad i o).add fd.offset = p.ad i (o + fd.offset) := by
            unfold Addr.add Pl.ad
            split
            · rename_i h0; simp [h0]
            · simp; omega
          simp [go_sem, Instr.fieldAt, run_und hu, hfd, Instr.sureAddr, fieldPlace, run_sz hs, e]
        · cases h
      · cases h
    · cases h
  · cases h

theorem run_isAgg {ty : TypeId} {b : Bool} (h : isAggB P ty = some b) : (isAgg ty).run P w = .ok b w := by
  unfold isAggB at h
  split at h
  · rename_i hu; simp at h; subst h; simp [go_sem, isAgg, run_und hu]
  · rename_i hu; simp at h; subst h; simp [go_sem, isAgg, run_und hu]
  · rename_i d hn1 hn2 hu
    simp at h; subst h
    simp only [isAgg, go_sem, run_und hu]
    simp [go_sem, run_und hu]
  · cases h

theorem opField_ok {ty : TypeId} {x : TV} {k : Nat} {u : Value} {vc : Prop} {t : TV} (hx : TR φ x u) (h : opField P ty x k = some (vc, t)) : ∃ z, (∀ w : World, (Instr.field ty u k).run P w = .ok z w) ∧ TR φ t z := by
  unfold opField at h
  split at h
  · rename_i cs
    split at h
    · rename_i fs hu
      split at h
      · rename_i fd hfd
        split at h
        · rename_i hag
          split at h
          · rename_i c hc
            simp only [Option.some.injEq, Prod.mk.injEq] at h
            obtain ⟨rfl, rfl⟩ := h
            obtain ⟨ys, rfl, hf⟩ := hx
            obtain ⟨z, hz, hr⟩ := hf.get hc
            exact ⟨z, fun w => by simp [go_sem, Instr.field, run_und hu, hfd, asAgg, part, run_isAgg hag, hz], hr⟩
          · cases h
        · cases h
      · cases h
    · cases h
  · cases h

theorem opPick_ok {c x y : TV} {u v v' : Value} {vc : Prop} {t : TV} (hc : TR φ c u) (hx : TR φ x v) (hy : TR φ y v') (h : opPick c x y = some (vc, t)) : ∃ z, (∀ w : World, (do pure (if ← asBool u then v else v') : Sem Value).run P w = .ok z w) ∧ TR φ t z := by
  unfold opPick at h
  split at h
  · rename_i b
    have hu : u = .bool b := hc
    subst hu
    simp only [Option.some.injEq, Prod.mk.injEq] at h
    obtain ⟨rfl, rfl⟩ := h
    cases b
    · exact ⟨v', fun w => by simp [go_sem, asBool], hy⟩
    · exact ⟨v, fun w => by simp [go_sem, asBool], hx⟩
  · cases h

theorem capsOf_ok {n : Nat} {f : F} {a : Act} (hr : RA φ n f a) : ∀ {xs : List Operand} {cs : List (Nat × Nat × Nat)}, capsOf f xs = some cs →
    F2 (fun (c : Nat × Nat × Nat) z => ∃ p, φ[c.1]? = some p ∧ z = Value.pointer (some (p.ad c.2.1 c.2.2))) cs (xs.map a.eval)
  | [], cs, h => by simp [capsOf] at h; subst h; exact .nil
  | x :: xs, cs, h => by
    simp only [capsOf] at h
    split at h
    · rename_i h' i s cs' h1 h2
      simp at h; subst h
      obtain ⟨p, hp, he⟩ := hr.ev h1
      exact .cons ⟨p, hp, he⟩ (capsOf_ok hr h2)
    · cases h

theorem o1_some {x : Option TV} {g : TV → Option (Prop × TV)} {r : Prop × TV} (h : o1 x g = some r) : ∃ a, x = some a ∧ g a = some r := by
  unfold o1 at h; split at h
  · exact ⟨_, rfl, h⟩
  · cases h
theorem o2_some {x y : Option TV} {g : TV → TV → Option (Prop × TV)} {r : Prop × TV} (h : o2 x y g = some r) : ∃ a b, x = some a ∧ y = some b ∧ g a b = some r := by
  unfold o2 at h; split at h
  · exact ⟨_, _, rfl, rfl, h⟩
  · cases h

theorem toList_one {α : Type} {xs : Array α} {x : α} (h : xs.toList = [x]) : xs = #[x] := by cases xs; simp at h; subst h; rfl
theorem toList_two {α : Type} {xs : Array α} {x y : α} (h : xs.toList = [x, y]) : xs = #[x, y] := by cases xs; simp at h; subst h; rfl

theorem mapM_runL {α β : Type} {P : Program} {w : World} (g : α → Sem β) : ∀ {l : List α} {vs : List β}, F2 (fun x v => (g x).run P w = .ok v w) l vs → (l.mapM g).run P w = .ok vs w
  | [], [], .nil => by simp
  | x :: l, v :: vs, .cons h hs => by
    rw [List.mapM_cons]
    simp only [Sem.run_bind, h, Result.andThen_ok, mapM_runL g hs, Sem.run_pure]
theorem mapM_run {α β : Type} {P : Program} {w : World} (g : α → Sem β) {l : List α} {vs : List β} (h : F2 (fun x v => (g x).run P w = .ok v w) l vs) : (l.toArray.mapM g).run P w = .ok vs.toArray w := by
  rw [List.mapM_toArray]
  simp only [map_eq_pure_bind, Sem.run_bind, mapM_runL g h, Result.andThen_ok, Sem.run_pure]

theorem one_cellsP {φ : List Pl} {c : C} {y : Value} (h : c.isOne = true) (hc : CR φ c y) : y.cells = #[y] := by
  cases c with
  | any => simp [C.isOne] at h
  | v x =>
    have : y = x := hc
    subst this
    cases y <;> first | rfl | simp [C.isOne, Value.oneCell'] at h
  | sl e h' off len => obtain ⟨p, a, cap, _, _, rfl, _⟩ := hc; rfl
  | ptr h' i s => obtain ⟨p, _, rfl⟩ := hc; rfl
  | fn g caps => obtain ⟨cs, rfl, _⟩ := hc; rfl

theorem allSz_ok {P : Program} {w : World} : ∀ {fs : List Field}, allSz P fs = true → F2 (fun (f : Field) (v : Nat × Nat) => (do pure (f.offset, ← sizeOf f.type) : Sem (Nat × Nat)).run P w = .ok v w) fs (fs.map fun f => (f.offset, (sz P f.type).getD 0))
  | [], _ => .nil
  | f :: fs, h => by
    simp only [allSz, Bool.and_eq_true] at h
    obtain ⟨s, hs⟩ := Option.isSome_iff_exists.mp h.1
    refine .cons ?_ (allSz_ok h.2)
    simp only [Sem.run_bind, run_sz hs, Result.andThen_ok, Sem.run_pure, hs, Option.getD_some]

theorem opBuildL_ok {P : Program} {φ : List Pl} {fs : Array Field} : ∀ {ps : List (Nat × TV)} {vs : List (Nat × Value)} {cs cs' : List C} {ys : List Value}, opBuildL P fs cs ps = some cs' → F2 (fun (p : Nat × TV) (v : Nat × Value) => v.1 = p.1 ∧ TR φ p.2 v.2) ps vs → F2 (CR φ) cs ys →
    ∃ ys', Instr.fill (fun i => ((fs.toList.map fun f => (f.offset, (sz P f.type).getD 0)).toArray)[i]?) ys.toArray vs = some ys'.toArray ∧ F2 (CR φ) cs' ys'
  | [], [], cs, cs', ys, h, .nil, hc => by
    simp only [opBuildL, Option.some.injEq] at h; subst h
    exact ⟨ys, rfl, hc⟩
  | (i, t) :: ps, (j, v) :: vs, cs, cs', ys, h, .cons ⟨hij, ht⟩ hs, hc => by
    simp only at hij ht
    subst hij
    simp only [opBuildL] at h
    split at h
    · rename_i fd c hfd
      split at h
      · rename_i hcond
        obtain ⟨h1, h2, h3⟩ := hcond
        have hcr : CR φ c v := ht
        have hvc := one_cellsP h2 hcr
        have hl := hc.length
        have hc2 : F2 (CR φ) (cs.set fd.offset c) (ys.set fd.offset v) := F2.of_get (by simp [hl]) fun k x hk => by
          by_cases e : fd.offset = k
          · subst e
            rw [List.getElem?_set_self h3] at hk
            simp only [Option.some.injEq] at hk; subst hk
            exact ⟨v, by rw [List.getElem?_set_self (by omega)], hcr⟩
          · rw [List.getElem?_set_ne e] at hk
            obtain ⟨y, hy, hxy⟩ := hc.get hk
            exact ⟨y, by rw [List.getElem?_set_ne e]; exact hy, hxy⟩
        obtain ⟨ys', g1, g2⟩ := opBuildL_ok h hs hc2
        refine ⟨ys', ?_, g2⟩
        unfold Instr.fill
        have hpl : ((fs.toList.map fun f => (f.offset, (sz P f.type).getD 0)).toArray)[j]? = some (fd.offset, 1) := by
          simp only [List.getElem?_toArray, List.getElem?_map, Array.getElem?_toList, hfd, Option.map_some, h1, Option.getD_some]
        simp only [hpl, hvc, List.size_toArray, List.length_cons, List.length_nil]
        rw [if_neg (by simp; omega)]
        rw [← g1]
        congr 1
        have hzz : (#[v] : Array Value).zipIdx = #[(v, 0)] := rfl
        rw [hzz]
        simp
      · cases h
    · cases h

theorem evParts_ok {n : Nat} {φ : List Pl} {f : F} {a : Act} (hr : RA φ n f a) : ∀ {parts : List (Nat × Operand)} {ps : List (Nat × TV)}, evParts f parts = some ps → F2 (fun (p : Nat × TV) (v : Nat × Value) => v.1 = p.1 ∧ TR φ p.2 v.2) ps (parts.map fun (i, x) => (i, a.eval x))
  | [], ps, h => by simp only [evParts, Option.some.injEq] at h; subst h; exact .nil
  | (i, x) :: parts, ps, h => by
    simp only [evParts] at h
    split at h
    · rename_i t ts h1 h2
      simp only [Option.some.injEq] at h; subst h
      exact .cons ⟨rfl, hr.ev h1⟩ (evParts_ok hr h2)
    · cases h

theorem opBuild_ok {P : Program} {φ : List Pl} {n : Nat} {f : F} {a : Act} {t : TypeId} {parts : Array (Nat × Operand)} {vc : Prop} {tv : TV} (hr : RA φ n f a) (h : opBuild P f t parts.toList = some (vc, tv)) :
    ∃ z, (∀ w : World, (Instr.build t (parts.map fun (i, x) => (i, a.eval x))).run P w = .ok z w) ∧ TR φ tv z := by
  unfold opBuild at h
  split at h
  · rename_i fs z hu hz
    split at h
    · rename_i hall
      split at h
      · rename_i ps hps
        split at h
        · rename_i cs hcs
          simp only [Option.some.injEq, Prod.mk.injEq] at h
          obtain ⟨-, rfl⟩ := h
          have hz0 : F2 (CR φ) (z.cells.toList.map C.v) z.cells.toList := F2.of_get (by simp) fun k x hk => by
            rw [List.getElem?_map] at hk
            cases hg : z.cells.toList[k]? with
            | none => rw [hg] at hk; cases hk
            | some y => rw [hg] at hk; simp only [Option.map_some, Option.some.injEq] at hk; subst hk; exact ⟨y, rfl, rfl⟩
          obtain ⟨ys', g1, g2⟩ := opBuildL_ok hcs (evParts_ok hr hps) hz0
          refine ⟨.agg ys'.toArray, fun w => ?_, ys', rfl, g2⟩
          have hzv : (zeroValue t).run P w = .ok z w := by
            unfold zr at hz
            cases hi : P.info? t with
            | none => simp [hi] at hz
            | some i => simp [hi] at hz; simp [zeroValue, typeInfo, hi, hz]
          have hm := mapM_run (P := P) (w := w) (fun (f : Field) => (do pure (f.offset, ← sizeOf f.type) : Sem (Nat × Nat))) (allSz_ok (P := P) (w := w) hall)
          have hpt : (parts.map fun (x : Nat × Operand) => (x.1, a.eval x.2)).toList = parts.toList.map fun (i, x) => (i, a.eval x) := by simp
          simp only [Instr.build, Sem.run_bind, hzv, Result.andThen_ok, run_underlying hu]
          rw [show fs = fs.toList.toArray by simp] at hm ⊢
          simp only [hm, Result.andThen_ok]
          simp only [Array.toArray_toList] at g1 ⊢
          rw [hpt, g1]
          simp
        · cases h
      · cases h
    · cases h
  · cases h

theorem apure_ok {n : Nat} {f : F} {a : Act} {o : Oper} {vc : Prop} {t : TV} (hr : RA φ n f a) (h : apure P f o.op = some (vc, t)) (hvc : vc) :
    ∃ y, (∀ w : World, (execOp a.eval o).run P w = .ok (.value y) w) ∧ TR φ t y := by
  unfold apure at h
  split at h
  case _ x ho => obtain ⟨t', h1, h2⟩ := o1_some h; simp at h2; obtain ⟨-, rfl⟩ := h2; exact ⟨_, fun w => by simp only [execOp, ho, Sem.run_pure], hr.ev h1⟩
  case _ x ho => obtain ⟨t', h1, h2⟩ := o1_some h; simp at h2; obtain ⟨-, rfl⟩ := h2; exact ⟨_, fun w => by simp only [execOp, ho, Sem.run_pure], hr.ev h1⟩
  case _ c x y ho =>
    split at h
    · rename_i tc tx ty h1 h2 h3
      obtain ⟨z, hz, htr⟩ := opPick_ok (P := P) (hr.ev h1) (hr.ev h2) (hr.ev h3) h
      refine ⟨z, fun w => ?_, htr⟩
      simp only [execOp, ho, Sem.run_bind]
      have hz := hz w
      simp only [Sem.run_bind] at hz
      cases hb : (asBool (a.eval c)).run P w with
      | halt h' w' => rw [hb] at hz; simp at hz
      | ok b w' =>
        rw [hb] at hz
        simp only [Result.andThen_ok, Sem.run_pure] at hz ⊢
        simp only [Result.ok.injEq] at hz
        rw [hz.1, hz.2]
    · cases h
  case _ op ty x y yt ho =>
    obtain ⟨tx, ty', h1, h2, h3⟩ := o2_some h
    obtain ⟨z, hz, htr⟩ := opBin_ok (P := P) (hr.ev h1) (hr.ev h2) h3 hvc x y
    refine ⟨z, fun w => ?_, htr⟩
    simp only [execOp, ho, Sem.run_bind]
    have hz := hz w
    simp only [Sem.run_bind] at hz
    rw [hz]
    rfl
  case _ op ty x ho =>
    obtain ⟨tx, h1, h2⟩ := o1_some h
    obtain ⟨z, hz, htr⟩ := opUn_ok (P := P) (hr.ev h1) h2 hvc
    exact ⟨z, fun w => by simp only [execOp, ho, Sem.run_bind, hz, Result.andThen_ok, Sem.run_pure, Option.map_none], htr⟩
  case _ x i ho =>
    obtain ⟨tx, h1, h2⟩ := o1_some h
    obtain ⟨z, hz, htr⟩ := opExt_ok (P := P) (hr.ev h1) h2
    exact ⟨z, fun w => by simp only [execOp, ho, Sem.run_bind, hz, Result.andThen_ok, Sem.run_pure, Option.map_none], htr⟩
  case _ ty x i ho =>
    obtain ⟨tx, ti, h1, h2, h3⟩ := o2_some h
    obtain ⟨z, hz, htr⟩ := opIdx_ok (P := P) (hr.ev h1) (hr.ev h2) h3 hvc
    exact ⟨z, fun w => by simp only [execOp, ho, Sem.run_bind, hz, Result.andThen_ok, Sem.run_pure, Option.map_none], htr⟩
  case _ ty x lo hi ho =>
    obtain ⟨tx, h1, h2⟩ := o1_some h
    have aux : ∀ l : Option Operand, ∀ y, l.map (aev f) = some y → (∃ t, y = some t) → ∃ t v, y = some t ∧ l.map a.eval = some v ∧ TR φ t v := fun l y hl ⟨t, ht⟩ => by
      cases l with
      | none => simp at hl
      | some l => simp at hl; subst hl; exact ⟨t, _, ht, rfl, hr.ev ht⟩
    have sm : ∀ d (l : Option Operand) r, opBd d (l.map (aev f)) = some r → ∀ y, l.map (aev f) = some y → ∃ t, y = some t := fun d l r hb y hl => by
      rw [hl] at hb
      cases y with
      | none => simp [opBd] at hb
      | some t => exact ⟨t, rfl⟩
    have nn : ∀ l : Option Operand, l.map (aev f) = none → l.map a.eval = none := fun l hl => by cases l <;> simp_all
    have bd : (∃ r, opBd 0 (lo.map (aev f)) = some r) ∧ ∃ d r, opBd d (hi.map (aev f)) = some r := by
      unfold opSl at h2
      split at h2
      · split at h2
        · rename_i hl hh; exact ⟨⟨_, hl⟩, _, _, hh⟩
        · cases h2
      · cases h2
    obtain ⟨⟨r1, b1⟩, d2, r2, b2⟩ := bd
    obtain ⟨z, hz, htr⟩ := opSl_ok (P := P) (ul := lo.map a.eval) (uh := hi.map a.eval) (hr.ev h1) h2 hvc
      (fun y hy => aux lo y hy (sm 0 lo r1 b1 y hy)) (nn lo) (fun y hy => aux hi y hy (sm d2 hi r2 b2 y hy)) (nn hi)
    exact ⟨z, fun w => by simp only [execOp, ho, Sem.run_bind, hz, Result.andThen_ok, Sem.run_pure, Option.map_none], htr⟩
  case _ s x k ho =>
    obtain ⟨tx, h1, h2⟩ := o1_some h
    obtain ⟨z, hz, htr⟩ := opFA_ok (P := P) (hr.ev h1) h2
    exact ⟨z, fun w => by simp only [execOp, ho, Sem.run_bind, hz, Result.andThen_ok, Sem.run_pure, Option.map_none], htr⟩
  case _ s x k ho =>
    obtain ⟨tx, h1, h2⟩ := o1_some h
    obtain ⟨z, hz, htr⟩ := opField_ok (P := P) (hr.ev h1) h2
    exact ⟨z, fun w => by simp only [execOp, ho, Sem.run_bind, hz, Result.andThen_ok, Sem.run_pure, Option.map_none], htr⟩
  case _ s d x ho =>
    obtain ⟨tx, h1, h2⟩ := o1_some h
    obtain ⟨z, hz, htr⟩ := opConv_ok (P := P) (hr.ev h1) h2 hvc
    exact ⟨z, fun w => by simp only [execOp, ho, Sem.run_bind, hz, Result.andThen_ok, Sem.run_pure, Option.map_none], htr⟩
  case _ k first caps ho =>
    split at h
    · rename_i h0
      split at h
      · rename_i cs hcs
        simp at h
        obtain ⟨-, rfl⟩ := h
        have hf0 : first = #[] := by simpa using h0
        subst hf0
        refine ⟨.func (.func k) #[] (caps.map a.eval), fun w => by simp [execOp, ho, Instr.makeFunc], _, ?_, capsOf_ok hr hcs⟩
        cases caps; simp
      · cases h
    · cases h
  case _ x ho =>
    obtain ⟨tx, h1, h2⟩ := o1_some h
    split at h2
    · rename_i h' i s
      simp at h2; obtain ⟨-, rfl⟩ := h2
      obtain ⟨p, hp, he⟩ := hr.ev h1
      exact ⟨.pointer (some (p.ad i s)), fun w => by simp [execOp, ho, he], p, hp, rfl⟩
    · cases h2
  case _ args ats ho =>
    split at h
    · rename_i x ty h1 h2
      obtain ⟨tx, h3, h4⟩ := o1_some h
      have e1 := toList_one h1
      have e2 := toList_one h2
      subst e1; subst e2
      obtain ⟨z, hz, htr⟩ := opLen_ok (P := P) (hr.ev h3) h4
      refine ⟨z, fun w => ?_, htr⟩
      have hz' : (Builtin.len_ #[ty] o.type #[a.eval x]).run P w = .ok z w := hz w
      simp only [execOp, ho, resolve, invoke, builtin, Sem.run_bind, Sem.run_pure, Result.andThen_ok]
      rw [show (#[x].map a.eval) = #[a.eval x] by simp, hz']
      rfl
    · cases h
  case _ args ats ho =>
    split at h
    · rename_i x y h1
      obtain ⟨tx, ty, h3, h4, h5⟩ := o2_some h
      have e1 := toList_two h1
      subst e1
      obtain ⟨z, hz, htr⟩ := opMax_ok (P := P) (hr.ev h3) (hr.ev h4) h5 ats o.type
      refine ⟨z, fun w => ?_, htr⟩
      have hz' : ∀ b, b = #[a.eval x, a.eval y] → (Builtin.max_ ats o.type b).run P w = .ok z w := fun b hb => by rw [hb]; exact hz w
      simp only [execOp, ho, resolve, invoke, builtin, Sem.run_bind, Sem.run_pure, Result.andThen_ok]
      rw [hz' _ (by simp)]
      rfl
    · cases h
  case _ args ats ho =>
    split at h
    · rename_i x y h1
      obtain ⟨tx, ty, h3, h4, h5⟩ := o2_some h
      have e1 := toList_two h1
      subst e1
      obtain ⟨z, hz, htr⟩ := opMin_ok (P := P) (hr.ev h3) (hr.ev h4) h5 ats o.type
      refine ⟨z, fun w => ?_, htr⟩
      have hz' : ∀ b, b = #[a.eval x, a.eval y] → (Builtin.min_ ats o.type b).run P w = .ok z w := fun b hb => by rw [hb]; exact hz w
      simp only [execOp, ho, resolve, invoke, builtin, Sem.run_bind, Sem.run_pure, Result.andThen_ok]
      rw [hz' _ (by simp)]
      rfl
    · cases h
  case _ t parts ho =>
    obtain ⟨z, hz, htr⟩ := opBuild_ok (P := P) hr h
    exact ⟨z, fun w => by simp only [execOp, ho, Sem.run_bind, hz, Result.andThen_ok, Sem.run_pure], htr⟩
  · cases h
end
end Go.Ax
