/- AX: the abstract weakest precondition is sound: what it says of a function's code holds of the model's runs of it, whatever order the tape picks. -/
import Derived.Test.YtfkokcmnmmfcbaaAxEff
import Derived.Test.YtfkokcmnmmfcbaaAxOrd
set_option linter.unusedSimpArgs false
set_option linter.unusedVariables false
set_option linter.unusedSectionVars false
namespace Go.Ax
open Go

/-- Only blocks that may be written have turned. -/
structure KeepW (Wr : Nat → Prop) (w w' : World) : Prop where
  os : w'.os = w.os
  tape : w'.tape = w.tape
  output : w'.output = w.output
  size : w.heap.size ≤ w'.heap.size
  block : ∀ k, k < w.heap.size → ¬ Wr k → w'.heap[k]? = w.heap[k]?

theorem KeepW.refl (Wr : Nat → Prop) (w : World) : KeepW Wr w w := ⟨rfl, rfl, rfl, Nat.le_refl _, fun _ _ _ => rfl⟩

theorem KeepW.trans {Wr : Nat → Prop} {a b c : World} (h : KeepW Wr a b) (k : KeepW Wr b c) : KeepW Wr a c :=
  ⟨k.os.trans h.os, k.tape.trans h.tape, k.output.trans h.output, Nat.le_trans h.size k.size, fun i hi hw => (k.block i (Nat.lt_of_lt_of_le hi h.size) hw).trans (h.block i hi hw)⟩

theorem Keep.toW {φ : List Pl} {ms : List Nat} {H : Hp} {Wr : Nat → Prop} {w w' : World} (hk : Keep φ ms w w') (hR : RH φ Wr H w) (hm : ∀ m ∈ ms, ∃ d, H[m]? = some (.r true d)) : KeepW Wr w w' :=
  ⟨hk.os, hk.tape, hk.output, hk.size, fun k hlt hw => hk.block k hlt fun h hh p hp hrm => by
    obtain ⟨d, hd⟩ := hm h hh
    rcases ((hR.row h _ p hd hp).2.2 rfl).2.2 with h0 | ⟨hw', _⟩
    · exact absurd h0 hrm
    · intro he; exact hw (he ▸ hw')⟩

theorem RH.wr {φ : List Pl} {Wr Wr' : Nat → Prop} {H : Hp} {w : World} (hR : RH φ Wr H w) (h : ∀ (i : Nat) d p, H[i]? = some (.r true d) → φ[i]? = some p → p.room ≠ 0 → Wr p.blk → Wr' p.blk) : RH φ Wr' H w where
  len := hR.len
  row := fun i row p hi hp => by
    have := hR.row i row p hi hp
    cases row with
    | dead => trivial
    | r own d =>
      refine ⟨this.1, this.2.1, fun ho => ⟨(this.2.2 ho).1, (this.2.2 ho).2.1, ?_⟩⟩
      subst ho
      rcases (this.2.2 rfl).2.2 with h0 | ⟨h1, h2⟩
      · exact .inl h0
      · by_cases hrm : p.room = 0
        · exact .inl hrm
        · exact .inr ⟨h i d p hi hp hrm h1, h2⟩
  sep := hR.sep

section
variable {P : Program} {φ0 : List Pl} {w0 : World} {Wr : Nat → Prop} {n : Nat}

/-- An abstract state and a state of the model. -/
def RR (φ0 : List Pl) (w0 : World) (Wr : Nat → Prop) (n : Nat) (f : F) (H : Hp) (a : Act) (w : World) : Prop :=
  ∃ φ, φ0 <+: φ ∧ RA φ n f a ∧ RH φ Wr H w ∧ KeepW Wr w0 w

theorem agd_ok {φ : List Pl} {f : F} {a : Act} {ops : Array Oper} {j : Nat} {b : Option Bool} (hr : RA φ n f a) (h : agd ops.toList f j = some b) : yielded ops a.tmps j = b := by
  unfold agd at h
  split at h
  · rename_i o ho
    split at h
    · rename_i d hd
      have ho' : ops[j]? = some o := by simpa using ho
      split at h
      · rename_i x hg
        simp only [Option.some.injEq] at h; subst h
        obtain ⟨_, y, hy, ht⟩ := hr.slot d _ hg
        have : y = .bool x := ht
        subst this
        simp [yielded, ho', hd, hy]
      · rename_i vs hg
        simp only [Option.some.injEq] at h; subst h
        obtain ⟨_, y, hy, ht⟩ := hr.slot d _ hg
        have : y = .tuple vs := ht
        subst this
        simp [yielded, ho', hd, hy]
      · cases h
    · cases h
  · cases h

theorem aguard_ok {φ : List Pl} {f : F} {a : Act} {ops : Array Oper} {o : Oper} {yes no : Prop} (hr : RA φ n f a) (h : aguard ops.toList o f yes no) :
    (Region.wanted o (yielded ops a.tmps) = true ∧ yes) ∨ (Region.wanted o (yielded ops a.tmps) = false ∧ no) := by
  unfold aguard at h
  split at h
  · rename_i hg; exact .inl ⟨by simp [Region.wanted, hg], h⟩
  · rename_i j want hg
    split at h
    · rename_i b hb
      have := agd_ok hr hb
      split at h
      · rename_i hw; exact .inl ⟨by simp [Region.wanted, hg, this, hw], h⟩
      · rename_i hw; exact .inr ⟨by simpa [Region.wanted, hg, this] using hw, h⟩
    · rename_i hb
      have := agd_ok hr hb
      exact .inr ⟨by simp [Region.wanted, hg, this], h⟩
    · exact h.elim

theorem uT_ok (φ : List Pl) : TR φ uT undef := rfl

theorem callOf_ok {φ : List Pl} {f : F} {a : Act} {o : Oper} {k : FuncId} {ts : List TV} (hr : RA φ n f a) (h : callOf f o.op = some (k, ts)) (he : Enters P k) (w : World) :
    ∃ vs, F2 (TR φ) ts vs ∧ (execOp a.eval o).run P w = .ok (.enter k vs.toArray) w := by
  unfold callOf at h
  split at h
  · rename_i g args ats ho
    split at h
    · rename_i k' caps ts' h1 h2
      simp only [Option.some.injEq, Prod.mk.injEq] at h
      obtain ⟨rfl, rfl⟩ := h
      obtain ⟨cs, hcs, hf⟩ := hr.ev h1
      obtain ⟨fn, hfn, hname, hbody⟩ := he
      refine ⟨args.toList.map a.eval ++ cs, (hr.evs h2).append (F2.map_left (hf.mono fun c z ⟨p, hp, hz⟩ => ⟨p, hp, hz⟩)), ?_⟩
      have hcf : (callFunc k' (args.map a.eval ++ cs.toArray)).run P w = .ok (.enter k' (args.map a.eval ++ cs.toArray)) w := by
        have hname' : ¬ fn.name = "runtime.NumGoroutine" := by simpa using hname
        have hbody' : ¬ fn.body = none := by intro h'; simp [h'] at hbody
        simp [callFunc, hfn, hname', hbody']
      simp only [execOp, ho, resolve, hcs, Deferred.ofValue, Sem.run_bind, Sem.run_pure, Result.andThen_ok, invoke, Array.empty_append, hcf]
      congr 2
      cases args
      simp
    · cases h
  · cases h

/-- One operation. -/
theorem aop_ok {f : F} {H : Hp} {a : Act} {w : World} {o : Oper} {K : F → Hp → Prop} {K' : Act → World → Prop} {Q' : Exit → Act → World → Prop} (hW : ∀ b, w0.heap.size ≤ b → Wr b) (hd : ∀ k, o.dst = some k → k < n)
    (hRR : RR φ0 w0 Wr n f H a w) (h : aop P o.dst o.op K f H) (hK : ∀ f' H' a' w', K f' H' → RR φ0 w0 Wr n f' H' a' w' → K' a' w') : o.wp P a w K' Q' := by
  obtain ⟨φ, hpre, hr, hR, hkw⟩ := hRR
  have hW' : ∀ b, w.heap.size ≤ b → Wr b := fun b hb => hW b (Nat.le_trans hkw.size hb)
  unfold aop at h
  unfold Oper.wp
  split at h
  · split at h
    · rename_i vc t hp
      obtain ⟨y, hrun, ht⟩ := apure_ok (P := P) hr hp h.1
      rw [hrun w]
      exact hK _ _ _ _ h.2 ⟨φ, hpre, hr.put hd ht, hR, hkw⟩
    · exact h.elim
  · split at h
    · rename_i vc t hp
      unfold aload at hp
      split at hp
      · rename_i ty x ho
        obtain ⟨tx, h1, h2⟩ := o1_some hp
        obtain ⟨z, hz, h0, i, s, p, _, _, _, hrun⟩ := opLd_ok (P := P) hR (hr.ev h1) h2 h.1
        have : (execOp a.eval o).run P w = .ok (.value z) w := by simp only [execOp, ho, Sem.run_bind, hrun w rfl, Result.andThen_ok, Sem.run_pure]
        rw [this]
        exact hK _ _ _ _ h.2 ⟨φ, hpre, hr.put hd hz, hR, hkw⟩
      · cases hp
    · exact h.elim
  · split at h
    · rename_i r hp
      obtain ⟨⟨φ', z, w', hrun, ht, hpre', hR', hk⟩, hm⟩ := aeff_ok (P := P) hr hR hW' hp h.1
      have hfin : RR φ0 w0 Wr n (put f o.dst r.tv) r.H (a.put o.dst z) w' := ⟨φ', hpre.trans hpre', (hr.mono hpre').put hd ht, hR', hkw.trans (hk.toW hR hm)⟩
      rcases hrun with hrun | ⟨hrun, rfl⟩
      · rw [hrun]; exact hK _ _ _ _ h.2 hfin
      · rw [hrun]; exact hK _ _ _ _ h.2 hfin
    · exact h.elim
  · split at h
    · rename_i k ts hc
      obtain ⟨ms, hent, hms, hcalls⟩ := h
      obtain ⟨vs, hvs, hrun⟩ := callOf_ok (P := P) hr hc hent w
      rw [hrun]
      refine (hcalls φ Wr w vs hR hW' hvs).mono fun e w' he => ?_
      obtain ⟨φ', ret, v, H', rfl, hpre', ht, hR', hk, hKK⟩ := he
      exact hK _ _ _ _ hKK ⟨φ', hpre.trans hpre', (hr.mono hpre').put hd ht, hR', hkw.trans (hk.toW hR hms)⟩
    · exact h.elim

theorem skip_ok {f : F} {H : Hp} {a : Act} {w : World} {o : Oper} (hd : ∀ k, o.dst = some k → k < n) (hRR : RR φ0 w0 Wr n f H a w) : RR φ0 w0 Wr n (put f o.dst uT) H (a.put o.dst undef) w := by
  obtain ⟨φ, hpre, hr, hR, hkw⟩ := hRR
  exact ⟨φ, hpre, hr.put hd (uT_ok φ), hR, hkw⟩

theorem awpOps_ok {ops : Array Oper} {Q : F → Hp → Prop} {Q' : Exit → Act → World → Prop} (hW : ∀ b, w0.heap.size ≤ b → Wr b) (hQ : ∀ f H a w, Q f H → RR φ0 w0 Wr n f H a w → Q' .normal a w) :
    ∀ (l : List Oper) (f : F) (H : Hp) (a : Act) (w : World), (∀ o ∈ l, ∀ k, o.dst = some k → k < n) → RR φ0 w0 Wr n f H a w → awpOps P ops.toList Q l f H → wpList P ops Q' l a w
  | [], f, H, a, w, _, hRR, h => hQ f H a w h hRR
  | o :: l, f, H, a, w, hd, hRR, h => by
    simp only [awpOps] at h
    have hd' := hd o (by simp)
    have hdl : ∀ o ∈ l, ∀ k, o.dst = some k → k < n := fun o ho => hd o (by simp [ho])
    obtain ⟨φ, hpre, hr, hR, hkw⟩ := id hRR
    unfold wpList
    rcases aguard_ok hr h with ⟨hw, hy⟩ | ⟨hw, hy⟩
    · rw [if_pos hw]
      exact .inl (aop_ok hW hd' hRR hy fun f' H' a' w' hK hRR' => awpOps_ok hW hQ l f' H' a' w' hdl hRR' hK)
    · rw [if_neg (by simp [hw])]
      exact awpOps_ok hW hQ l _ H _ w hdl (skip_ok hd' hRR) hy

theorem eqGuard_i64 {op : BinOp} {ty : TypeId} {X Y : Operand} {a b : Int} {w : World} (h : op = .add ∨ op = .sub) : (do eqGuard op ty X Y (.int .i64 a) (.int .i64 b); binOp op ty (.int .i64 a) (.int .i64 b)).run P w = (binOp op ty (.int .i64 a) (.int .i64 b)).run P w := by
  simp only [Sem.run_bind, eqGuard_int, Result.andThen_ok]

theorem apureW_ok {n : Nat} {φ : List Pl} {f : F} {a : Act} {o : Oper} {vc : Prop} {t : TV} (hr : RA φ n f a) (h : apureW f o.op = some (vc, t)) : ∃ y, (∀ w : World, (execOp a.eval o).run P w = .ok (.value y) w) ∧ TR φ t y := by
  unfold apureW at h
  split at h
  · rename_i ty x y yt ho
    unfold wAdd at h
    split at h
    · rename_i a1 b1 h1 h2
      simp only [Option.some.injEq, Prod.mk.injEq] at h
      obtain ⟨-, rfl⟩ := h
      have hx : a.eval x = .int .i64 a1 := hr.ev h1
      have hy : a.eval y = .int .i64 b1 := hr.ev h2
      refine ⟨.int .i64 (w64 (a1 + b1)), fun w => ?_, rfl⟩
      simp only [execOp, ho, hx, hy]
      rw [Sem.run_bind, eqGuard_i64 (.inl rfl)]
      simp [go_sem, binOp, Op.intArith, w64]
    · cases h
  · rename_i ty x y yt ho
    unfold wSub at h
    split at h
    · rename_i a1 b1 h1 h2
      simp only [Option.some.injEq, Prod.mk.injEq] at h
      obtain ⟨-, rfl⟩ := h
      have hx : a.eval x = .int .i64 a1 := hr.ev h1
      have hy : a.eval y = .int .i64 b1 := hr.ev h2
      refine ⟨.int .i64 (w64 (a1 - b1)), fun w => ?_, rfl⟩
      simp only [execOp, ho, hx, hy]
      rw [Sem.run_bind, eqGuard_i64 (.inr rfl)]
      simp [go_sem, binOp, Op.intArith, w64]
    · cases h
  · cases h

theorem awpOpsW_ok {ops : Array Oper} {Q : F → Hp → Prop} {Q' : Exit → Act → World → Prop} (hW : ∀ b, w0.heap.size ≤ b → Wr b) (hQ : ∀ f H a w, Q f H → RR φ0 w0 Wr n f H a w → Q' .normal a w) :
    ∀ (l : List Oper) (f : F) (H : Hp) (a : Act) (w : World), (∀ o ∈ l, ∀ k, o.dst = some k → k < n) → RR φ0 w0 Wr n f H a w → awpOpsW P ops.toList Q l f H → wpList P ops Q' l a w
  | [], f, H, a, w, _, hRR, h => hQ f H a w h hRR
  | o :: l, f, H, a, w, hd, hRR, h => by
    simp only [awpOpsW] at h
    have hd' := hd o (by simp)
    have hdl : ∀ o ∈ l, ∀ k, o.dst = some k → k < n := fun o ho => hd o (by simp [ho])
    obtain ⟨φ, hpre, hr, hR, hkw⟩ := id hRR
    unfold wpList
    rcases aguard_ok hr h with ⟨hw, hy⟩ | ⟨hw, hy⟩
    · rw [if_pos hw]
      left
      unfold aopW at hy
      split at hy
      · rename_i vc t hp
        obtain ⟨y, hrun, ht⟩ := apureW_ok (P := P) hr hp
        unfold Oper.wp
        rw [hrun w]
        exact awpOpsW_ok hW hQ l _ H _ w hdl ⟨φ, hpre, hr.put hd' ht, hR, hkw⟩ hy.2
      · exact aop_ok hW hd' hRR hy fun f' H' a' w' hK hRR' => awpOpsW_ok hW hQ l f' H' a' w' hdl hRR' hK
    · rw [if_neg (by simp [hw])]
      exact awpOpsW_ok hW hQ l _ H _ w hdl (skip_ok hd' hRR) hy

/-! ### Regions that draw their order -/

theorem sameFrom_ok {ms : List Nat} : ∀ {i : Nat} {H1 H : Hp}, sameFrom ms i H1 H → ∀ k, k < H1.length → ¬ (i + k) ∈ ms → H[k]? = H1[k]?
  | i, [], H, _, k, hk, _ => by simp at hk
  | i, r :: H1, [], h, 0, _, hm => absurd h.1 (by simpa using hm)
  | i, r :: H1, [], h, k + 1, hk, hm => by
    have := sameFrom_ok h.2 k (by simpa using hk) (by rwa [Nat.add_assoc, Nat.add_comm 1 k])
    simpa using this
  | i, r :: H1, r' :: H, h, 0, _, hm => by
    rcases h.1 with h1 | h1
    · exact absurd h1 (by simpa using hm)
    · simp [h1]
  | i, r :: H1, r' :: H, h, k + 1, hk, hm => by
    have := sameFrom_ok h.2 k (by simpa using hk) (by rwa [Nat.add_assoc, Nat.add_comm 1 k])
    simpa using this

theorem msOwn_ok {H : Hp} : ∀ {ms : List Nat}, msOwn H ms → ∀ m ∈ ms, ∃ d, H[m]? = some (.r true d)
  | [], _, m, hm => by simp at hm
  | x :: ms, h, m, hm => by
    rcases List.mem_cons.1 hm with rfl | hm
    · have := h.1
      split at this
      · rename_i d hd; exact ⟨d, hd⟩
      · exact this.elim
    · exact msOwn_ok h.2 m hm

theorem msIn_ok {ms : List Nat} {n0 : Nat} : ∀ {l : List Nat}, msIn ms n0 l → ∀ m ∈ l, m ∈ ms ∨ n0 ≤ m
  | [], _, m, hm => by simp at hm
  | x :: l, h, m, hm => by
    rcases List.mem_cons.1 hm with rfl | hm
    · exact h.1
    · exact msIn_ok h.2 m hm

/-- The blocks that the region may turn. -/
def MB (φ1 : List Pl) (ms : List Nat) (k : Nat) : Prop := ∃ m ∈ ms, ∃ p, φ1[m]? = some p ∧ p.room ≠ 0 ∧ p.blk = k

/-- The blocks that may be written in the region: new ones, and those of the own rows of its start. -/
def Wr1 (φ1 : List Pl) (H1 : Hp) (w1 : World) (k : Nat) : Prop := w1.heap.size ≤ k ∨ ∃ (h : Nat) (d : Dat) (p : Pl), H1[h]? = some (.r true d) ∧ φ1[h]? = some p ∧ p.room ≠ 0 ∧ p.blk = k

def SS (φ1 : List Pl) (ms : List Nat) (w1 : World) (w' : World) : Prop := w1.heap.size ≤ w'.heap.size ∧ ∀ k, k < w1.heap.size → ¬ MB φ1 ms k → w'.heap[k]? = w1.heap[k]?

/-- The states inside a region. -/
structure DR' (φ1 : List Pl) (H1 : Hp) (w1 : World) (ms : List Nat) (n : Nat) (f : F) (H : Hp) (a : Act) (w : World) (φ : List Pl) : Prop where
  pre : φ1 <+: φ
  ra : RA φ n f a
  rh : RH φ (Wr1 φ1 H1 w1) H w
  kw : KeepW (Wr1 φ1 H1 w1) w1 w
  same : ∀ k, k < H1.length → ¬ k ∈ ms → H[k]? = H1[k]?
  ss : SS φ1 ms w1 w

variable {φ1 : List Pl} {H1 : Hp} {w1 : World} {ms : List Nat}

theorem SS.step {Wr' : Nat → Prop} {H : Hp} {φ : List Pl} {w w' : World} {l : List Nat} (hR1 : RH φ1 Wr' H1 w1) (hpre : φ1 <+: φ) (hR : RH φ (Wr1 φ1 H1 w1) H w) (hss : SS φ1 ms w1 w) (hk : Keep φ l w w')
    (hsame : ∀ k, k < H1.length → ¬ k ∈ ms → H[k]? = H1[k]?) (hl : ∀ m ∈ l, m ∈ ms ∨ H1.length ≤ m) (hlo : ∀ m ∈ l, ∃ d, H[m]? = some (.r true d)) : SS φ1 ms w1 w' := by
  refine ⟨Nat.le_trans hss.1 hk.size, fun k hk1 hmb => ?_⟩
  rw [hk.block k (Nat.lt_of_lt_of_le hk1 hss.1) fun h hh p hp hrm he => ?_]
  · exact hss.2 k hk1 hmb
  · by_cases hin : h ∈ ms ∧ h < H1.length
    · have hlt : h < φ1.length := by rw [hR1.len]; exact hin.2
      have hp1 : φ1[h]? = some p := by
        have := pre_get hpre (List.getElem?_eq_getElem hlt)
        rw [hp] at this
        rw [List.getElem?_eq_getElem hlt]; exact this.symm
      exact hmb ⟨h, hin.1, p, hp1, hrm, he⟩
    · have hge : H1.length ≤ h := by
        rcases hl h hh with h1 | h1
        · rcases Nat.lt_or_ge h H1.length with h2 | h2
          · exact absurd ⟨h1, h2⟩ hin
          · exact h2
        · exact h1
      obtain ⟨d, hd⟩ := hlo h hh
      rcases ((hR.row h _ p hd hp).2.2 rfl).2.2 with h0 | ⟨hw, _⟩
      · exact hrm h0
      · rcases hw with hw | ⟨h', d', p', hd', hp', hrm', he'⟩
        · omega
        · by_cases hm' : h' ∈ ms
          · exact hmb ⟨h', hm', p', hp', hrm', by rw [he', he]⟩
          · have hlt' : h' < H1.length := by
              rcases Nat.lt_or_ge h' H1.length with h2 | h2
              · exact h2
              · rw [List.getElem?_eq_none h2] at hd'; cases hd'
            have hd2 : H[h']? = some (.r true d') := by rw [hsame h' hlt' hm']; exact hd'
            exact hR.sep h h' _ _ p p' (by omega) hd hd2 hp (pre_get hpre hp') rfl hrm (.inr ⟨rfl, hrm'⟩) (by rw [he'])

theorem wr1_up {φ1 : List Pl} {H1 : Hp} {w1 w : World} (h : w1.heap.size ≤ w.heap.size) : ∀ b, w.heap.size ≤ b → Wr1 φ1 H1 w1 b := fun _ hb => .inl (Nat.le_trans h hb)

def RW (ops : Array Oper) (φ1 : List Pl) (ms : List Nat) (w1 : World) (i : Nat) (w w' : World) : Prop := SS φ1 ms w1 w' ∧ ∀ o, ops[i]? = some o → isQ o.op = true → w' = w

def qAt (ops : Array Oper) (i : Nat) : Bool :=
  match ops[i]? with
  | some o => isQ o.op
  | none => false

theorem isQ_eff {o : Op} (h : kd o = .eff) : isQ o = false := by unfold isQ; rw [h]
theorem isQ_call {o : Op} (h : kd o = .call) : isQ o = false := by unfold isQ; rw [h]

/-- One operation that comes up. -/
theorem aopD_run {Wr' : Nat → Prop} {ops : Array Oper} {Q' : Exit → Act → World → Prop} {K : F → Hp → Prop} {i : Nat} {o : Oper} {tk : Tk} {f : F} {H : Hp} {a : Act} {w : World} {φ : List Pl} {k : Nat} {l : Array Bool} (hR1 : RH φ1 Wr' H1 w1)
    (ho' : ops[i]? = some o) (hdo : ∀ k, o.dst = some k → k < n) (hD : DR' φ1 H1 w1 ms n f H a w φ)
    (ih : ∀ f H a w φ, DR' φ1 H1 w1 ms n f H a w φ → K f H → wpAnyR P .any ops Q' (RW ops φ1 ms w1) k l a w)
    (h : aguard ops.toList o f (aopD P ms H1 tk o.dst o.op K f H) (K (put f o.dst uT) H)) :
    wpOp P ops Q' i (fun a' w' => RW ops φ1 ms w1 i w w' ∧ wpAnyR P .any ops Q' (RW ops φ1 ms w1) k l a' w') a w := by
  have hup := wr1_up (φ1 := φ1) (H1 := H1) hD.kw.size
  unfold wpOp
  simp only [ho']
  rcases aguard_ok hD.ra h with ⟨hw, hy⟩ | ⟨hw, hy⟩
  · rw [if_pos hw]
    left
    unfold aopD at hy
    unfold Oper.wp
    split at hy
    · split at hy
      · rename_i vc t hp
        obtain ⟨y, hrun, ht⟩ := apure_ok (P := P) hD.ra hp hy.1
        rw [hrun w]
        exact ⟨⟨hD.ss, fun _ _ _ => rfl⟩, ih _ _ _ _ φ ⟨hD.pre, hD.ra.put hdo ht, hD.rh, hD.kw, hD.same, hD.ss⟩ hy.2⟩
      · exact hy.elim
    · split at hy
      · rename_i vc t hp
        obtain ⟨_, hvc, hK⟩ := hy
        unfold aload at hp
        split at hp
        · rename_i ty x hop
          obtain ⟨tx, h1, h2⟩ := o1_some hp
          obtain ⟨z, hz, h0, i', s, p, _, _, _, hrun⟩ := opLd_ok (P := P) hD.rh (hD.ra.ev h1) h2 hvc
          have : (execOp a.eval o).run P w = .ok (.value z) w := by simp only [execOp, hop, Sem.run_bind, hrun w rfl, Result.andThen_ok, Sem.run_pure]
          rw [this]
          exact ⟨⟨hD.ss, fun _ _ _ => rfl⟩, ih _ _ _ _ φ ⟨hD.pre, hD.ra.put hdo hz, hD.rh, hD.kw, hD.same, hD.ss⟩ hK⟩
        · cases hp
      · exact hy.elim
    · rename_i hkd
      split at hy
      · rename_i r hp
        obtain ⟨_, hmi, hsf, hvc, hK⟩ := hy
        obtain ⟨⟨φ', z, w', hrun, ht, hpre', hR', hk⟩, hm⟩ := aeff_ok (P := P) hD.ra hD.rh hup hp hvc
        have hss := SS.step hR1 hD.pre hD.rh hD.ss hk hD.same (msIn_ok hmi) hm
        have hq : ∀ o', ops[i]? = some o' → isQ o'.op = true → w' = w := fun o' h1 h2 => by
          rw [ho'] at h1; cases h1; rw [isQ_eff hkd] at h2; cases h2
        have hfin : DR' φ1 H1 w1 ms n (put f o.dst r.tv) r.H (a.put o.dst z) w' φ' := ⟨hD.pre.trans hpre', (hD.ra.mono hpre').put hdo ht, hR', hD.kw.trans (hk.toW hD.rh hm), fun k hk hkm => sameFrom_ok hsf k hk (by simpa using hkm), hss⟩
        rcases hrun with hrun | ⟨hrun, rfl⟩
        · rw [hrun]; exact ⟨⟨hss, hq⟩, ih _ _ _ _ φ' hfin hK⟩
        · rw [hrun]; exact ⟨⟨hss, hq⟩, ih _ _ _ _ φ' hfin hK⟩
      · exact hy.elim
    · rename_i hkd
      split at hy
      · rename_i k ts hc
        obtain ⟨_, ms', hmi, hent, hms', hcalls⟩ := hy
        obtain ⟨vs, hvs, hrun⟩ := callOf_ok (P := P) hD.ra hc hent w
        rw [hrun]
        refine (hcalls φ _ w vs hD.rh hup hvs).mono fun e w' he => ?_
        obtain ⟨φ', ret, v, H', rfl, hpre', ht, hR', hk, hsf, hKK⟩ := he
        have hss := SS.step hR1 hD.pre hD.rh hD.ss hk hD.same (msIn_ok hmi) hms'
        have hq : ∀ o', ops[i]? = some o' → isQ o'.op = true → w' = w := fun o' h1 h2 => by
          rw [ho'] at h1; cases h1; rw [isQ_call hkd] at h2; cases h2
        exact ⟨⟨hss, hq⟩, ih _ _ _ _ φ' ⟨hD.pre.trans hpre', (hD.ra.mono hpre').put hdo ht, hR', hD.kw.trans (hk.toW hD.rh hms'), fun k hk hkm => sameFrom_ok hsf k hk (by simpa using hkm), hss⟩ hKK⟩
      · exact hy.elim
  · rw [if_neg (by simp [hw])]
    exact ⟨⟨hD.ss, fun _ _ _ => rfl⟩, ih _ _ _ _ φ ⟨hD.pre, hD.ra.put hdo (uT_ok φ), hD.rh, hD.kw, hD.same, hD.ss⟩ hy⟩

theorem nowOK_spec {ops : Array Oper} {l : Array Bool} {i : Nat} {b : List Nat} (h : nowOK ops l i b = true) :
    (∀ j o, ops[j]? = some o → (j ∈ b → l.getD j true = false ∧ (j = i ∨ ∃ e ∈ o.after, Region.binds .any e = true ∧ e.on ∈ b)) ∧ (¬ j ∈ b → l.getD j true = true ∨ qAt ops j = true)) ∧ i ∈ b ∧ (∀ j ∈ b, j < ops.size) ∧ l.size = ops.size := by
  simp only [nowOK, Bool.and_eq_true, List.all_eq_true, decide_eq_true_eq, beq_iff_eq, List.mem_range, List.contains_iff_mem] at h
  obtain ⟨⟨⟨h1, h2⟩, h3⟩, h4⟩ := h
  refine ⟨fun j o ho => ?_, h1, h2, h3⟩
  have h5 := h4 j (Array.getElem?_eq_some_iff.1 ho).1
  simp only [ho] at h5
  by_cases hj : j ∈ b
  · rw [if_pos hj] at h5
    refine ⟨fun _ => ?_, fun h => absurd hj h⟩
    simp only [Bool.and_eq_true, Bool.not_eq_true', Bool.or_eq_true, beq_iff_eq] at h5
    refine ⟨h5.1, h5.2.imp id fun h6 => ?_⟩
    obtain ⟨e, he, hb⟩ := Array.any_eq_true'.1 h6
    simp only [Bool.and_eq_true, List.contains_iff_mem] at hb
    exact ⟨e, he, hb.1, hb.2⟩
  · rw [if_neg hj] at h5
    refine ⟨fun h => absurd h hj, fun _ => ?_⟩
    simp only [Bool.or_eq_true] at h5
    refine h5.imp id fun h6 => ?_
    simp only [qAt, ho]; exact h6

theorem awpOrd_ok {Wr' : Nat → Prop} {ops : Array Oper} {Q : F → Hp → Prop} {Q' : Exit → Act → World → Prop} (hR1 : RH φ1 Wr' H1 w1) (hms : ∀ m ∈ ms, ∃ d, H1[m]? = some (.r true d)) (hsel : Region.noSelect ops = true)
    (hd : ∀ o ∈ ops.toList, ∀ k, o.dst = some k → k < n) (hQ : ∀ f H a w φ, Q f H → DR' φ1 H1 w1 ms n f H a w φ → Q' .normal a w) (hP : ∀ c a w, ¬ Q' (.panic c) a w) :
    ∀ (ord : DT) (k : Nat) (listed : Array Bool) (f : F) (H : Hp) (a : Act) (w : World) (φ : List Pl), drawFrom ops k ord listed = true → DR' φ1 H1 w1 ms n f H a w φ → awpOrd P ops.toList ms H1 Q ord f H →
      wpAnyR P .any ops Q' (RW ops φ1 ms w1) k listed a w
  | .nil, k, listed, f, H, a, w, φ, hB, hD, h => by
    simp only [drawFrom, List.isEmpty_iff] at hB
    exact wpAnyR_done hB (hQ f H a w φ h hD) k
  | .free ord, _, listed, f, H, a, w, φ, hB, hD, h => by simp only [awpOrd] at h
  | .op i t ord, 0, listed, f, H, a, w, φ, hB, hD, h => by simp [drawFrom] at hB
  | .two i j x y, 0, listed, f, H, a, w, φ, hB, hD, h => by simp [drawFrom] at hB
  | .two i j x y, k + 1, listed, f, H, a, w, φ, hB, hD, h => by
    simp only [drawFrom, Bool.and_eq_true, beq_iff_eq] at hB
    obtain ⟨hB1, hB2, hB3⟩ := hB
    simp only [awpOrd] at h
    split at h
    case h_2 => exact h.elim
    rename_i o o' ho hoo
    have ho' : ops[i]? = some o := by simpa using ho
    have hoo' : ops[j]? = some o' := by simpa using hoo
    have hdo := hd o (by rw [← Array.mem_def]; exact Array.mem_of_getElem? ho')
    have hdoo := hd o' (by rw [← Array.mem_def]; exact Array.mem_of_getElem? hoo')
    refine wpAnyR_all hB1 (by simp) fun m hm => ?_
    simp only [List.mem_cons, List.not_mem_nil, or_false] at hm
    rcases hm with rfl | rfl
    · exact aopD_run hR1 ho' hdo hD (fun f H a w φ hD hK => awpOrd_ok hR1 hms hsel hd hQ hP x k _ f H a w φ hB2 hD hK) h.1
    · exact aopD_run hR1 hoo' hdoo hD (fun f H a w φ hD hK => awpOrd_ok hR1 hms hsel hd hQ hP y k _ f H a w φ hB3 hD hK) h.2
  | .op i t ord, k + 1, listed, f, H, a, w, φ, hB, hD, h => by
    simp only [drawFrom, Bool.and_eq_true] at hB
    obtain ⟨hB1, hB2⟩ := hB
    simp only [awpOrd] at h
    split at h
    case h_2 => exact h.elim
    rename_i o ho
    have ho' : ops[i]? = some o := by simpa using ho
    have hdo := hd o (by rw [← Array.mem_def]; exact Array.mem_of_getElem? ho')
    -- what one operation leads to
    have ih := awpOrd_ok hR1 hms hsel hd hQ hP ord k (listed.setIfInBounds i true)
    have hself : RW ops φ1 ms w1 i w w := ⟨hD.ss, fun _ _ _ => rfl⟩
    cases t with
    | only =>
      simp only [tkOK, beq_iff_eq] at hB1
      refine wpAnyR_all hB1 (by simp) fun j hj => ?_
      have hji : j = i := by simpa using hj
      subst hji
      exact aopD_run hR1 ho' hdo hD (fun f H a w φ hD hK => ih f H a w φ hB2 hD hK) h
    | held =>
      simp only [tkOK, Bool.and_eq_true] at hB1
      have take : ∀ v, YieldsIf P ops (SS φ1 ms w1) o v a → wpAnyR P .any ops Q' (RW ops φ1 ms w1) k (listed.setIfInBounds i true) (a.put o.dst v) w → wpAnyR P .any ops Q' (RW ops φ1 ms w1) (k + 1) listed a w := fun v hy hrest =>
        wpAnyR_held ho' hsel hB1.2 hB1.1 (fun c a w hp => absurd hp (hP _ _ _)) (fun w hw => ⟨hw, fun _ _ _ => rfl⟩) (fun j w w' hr => hr.1) hy hD.ss hrest
      rcases aguard_ok hD.ra h with ⟨hw, hy⟩ | ⟨hw, hy⟩
      · unfold aopD at hy
        split at hy
        · split at hy
          · rename_i vc t hp
            obtain ⟨y, hrun, ht⟩ := apure_ok (P := P) hD.ra hp hy.1
            exact take y (.inl ⟨hw, fun w' _ => hrun w'⟩) (ih _ _ _ _ φ hB2 ⟨hD.pre, hD.ra.put hdo ht, hD.rh, hD.kw, hD.same, hD.ss⟩ hy.2)
          · exact hy.elim
        · split at hy
          · rename_i vc t hp
            obtain ⟨hh, hvc, hK⟩ := hy
            simp only [ldC] at hh
            unfold aload at hp
            split at hp
            · rename_i ty x hop
              obtain ⟨tx, h1, h2⟩ := o1_some hp
              obtain ⟨z, hz, h0, i', s, p, hpt, hp', ⟨row, hrow, hne⟩, hrun⟩ := opLd_ok (P := P) hD.rh (hD.ra.ev h1) h2 hvc
              subst hpt
              simp only [ldHeld, hop, h1] at hh
              obtain ⟨hlt0, hnm⟩ := hh
              have hl1 : h0 < φ1.length := by rw [hR1.len]; exact hlt0
              have hp1 : φ1[h0]? = some p := by
                have := pre_get hD.pre (List.getElem?_eq_getElem hl1)
                rw [hp'] at this
                rw [List.getElem?_eq_getElem hl1]; exact this.symm
              have hrow1 : H1[h0]? = some row := by rw [← hD.same h0 hlt0 hnm]; exact hrow
              have hb1 := (hR1.row h0 row p hrow1 hp1).lt (.inl hne)
              have hmb : ¬ MB φ1 ms p.blk := by
                rintro ⟨m, hm, q, hq, hqr, hqe⟩
                obtain ⟨d, hdm⟩ := hms m hm
                exact hR1.sep m h0 _ row q p (fun e => hnm (e ▸ hm)) hdm hrow1 hq hp1 rfl hqr (.inl hne) hqe
              refine take z (.inl ⟨hw, fun w' hw' => ?_⟩) (ih _ _ _ _ φ hB2 ⟨hD.pre, hD.ra.put hdo hz, hD.rh, hD.kw, hD.same, hD.ss⟩ hK)
              simp only [execOp, hop, Sem.run_bind, hrun w' (by rw [hw'.2 _ hb1 hmb, hD.ss.2 _ hb1 hmb]), Result.andThen_ok, Sem.run_pure]
            · cases hp
          · exact hy.elim
        · split at hy
          · exact hy.1.elim
          · exact hy.elim
        · split at hy
          · exact hy.1.elim
          · exact hy.elim
      · exact take undef (.inr ⟨hw, rfl⟩) (ih _ _ _ _ φ hB2 ⟨hD.pre, hD.ra.put hdo (uT_ok φ), hD.rh, hD.kw, hD.same, hD.ss⟩ hy)
    | now =>
      simp only [tkOK, Bool.and_eq_true] at hB1
      obtain ⟨hnb, hib, hbl, hsz⟩ := nowOK_spec hB1.2
      have take : ∀ v, YieldsIf P ops (fun w' => w' = w) o v a → wpAnyR P .any ops Q' (RW ops φ1 ms w1) k (listed.setIfInBounds i true) (a.put o.dst v) w → wpAnyR P .any ops Q' (RW ops φ1 ms w1) (k + 1) listed a w := fun v hy hrest =>
        wpAnyR_now (qAt ops) _ ho' hsel hB1.1.2 hB1.1.1 hnb hib hbl hsz (fun c a w hp => absurd hp (hP _ _ _)) hself (fun j w w' hq hr => by
          unfold qAt at hq
          split at hq
          · rename_i oj hoj; exact hr.2 oj hoj hq
          · cases hq) hy hrest
      rcases aguard_ok hD.ra h with ⟨hw, hy⟩ | ⟨hw, hy⟩
      · unfold aopD at hy
        split at hy
        · split at hy
          · rename_i vc t hp
            obtain ⟨y, hrun, ht⟩ := apure_ok (P := P) hD.ra hp hy.1
            exact take y (.inl ⟨hw, fun w' _ => hrun w'⟩) (ih _ _ _ _ φ hB2 ⟨hD.pre, hD.ra.put hdo ht, hD.rh, hD.kw, hD.same, hD.ss⟩ hy.2)
          · exact hy.elim
        · split at hy
          · rename_i vc t hp
            obtain ⟨_, hvc, hK⟩ := hy
            unfold aload at hp
            split at hp
            · rename_i ty x hop
              obtain ⟨tx, h1, h2⟩ := o1_some hp
              obtain ⟨z, hz, h0, i', s, p, _, _, _, hrun⟩ := opLd_ok (P := P) hD.rh (hD.ra.ev h1) h2 hvc
              refine take z (.inl ⟨hw, fun w' hw' => ?_⟩) (ih _ _ _ _ φ hB2 ⟨hD.pre, hD.ra.put hdo hz, hD.rh, hD.kw, hD.same, hD.ss⟩ hK)
              subst hw'
              simp only [execOp, hop, Sem.run_bind, hrun _ rfl, Result.andThen_ok, Sem.run_pure]
            · cases hp
          · exact hy.elim
        · split at hy
          · exact hy.1.elim
          · exact hy.elim
        · split at hy
          · exact hy.1.elim
          · exact hy.elim
      · exact take undef (.inr ⟨hw, rfl⟩) (ih _ _ _ _ φ hB2 ⟨hD.pre, hD.ra.put hdo (uT_ok φ), hD.rh, hD.kw, hD.same, hD.ss⟩ hy)
end
end Go.Ax
