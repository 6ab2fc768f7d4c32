/- AX: the equations by which simp evaluates the abstract weakest precondition of a piece of code that is written out. -/
import Derived.Test.YtfkokcmnmmfcbaaAxLift
set_option linter.unusedSimpArgs false
set_option linter.unusedVariables false
set_option linter.unusedSectionVars false
namespace Go.Ax
open Go

/-- A tag by which simp leaves what it names untouched: an argument that a later one's type depends on is fixed. -/
inductive Hold {α : Type} (x : α) : Type
  | mk

def W (P : Program) (m : Nat) (D : Nat → Option DR) (c : Code) (Q : Exit → F → Hp → Prop) (f : F) (H : Hp) (_ : Hold (D, c, Q)) : Prop := awp P m D c Q f H
def WO (P : Program) (all : List Oper) (q : F → Hp → Prop) (l : List Oper) (f : F) (H : Hp) (_ : Hold (all, q, l)) : Prop := awpOps P all q l f H
def WOW (P : Program) (all : List Oper) (q : F → Hp → Prop) (l : List Oper) (f : F) (H : Hp) (_ : Hold (all, q, l)) : Prop := awpOpsW P all q l f H
def WAW (P : Program) (dst : Option Nat) (op : Op) (K : F → Hp → Prop) (f : F) (H : Hp) (_ : Hold (dst, op, K)) : Prop := aopW P dst op K f H
def WD (P : Program) (all : List Oper) (ms : List Nat) (H1 : Hp) (q : F → Hp → Prop) (l : DT) (f : F) (H : Hp) (_ : Hold (all, ms, H1, q, l)) : Prop := awpOrd P all ms H1 q l f H
def WA (P : Program) (dst : Option Nat) (op : Op) (K : F → Hp → Prop) (f : F) (H : Hp) (_ : Hold (dst, op, K)) : Prop := aop P dst op K f H
def WAD (P : Program) (ms : List Nat) (H1 : Hp) (tk : Tk) (dst : Option Nat) (op : Op) (K : F → Hp → Prop) (f : F) (H : Hp) (_ : Hold (ms, H1, dst, op, K)) : Prop := aopD P ms H1 tk dst op K f H
def WT (n : F → Hp → Prop) (Q : Exit → F → Hp → Prop) (e : Exit) (f : F) (H : Hp) (_ : Hold (n, Q)) : Prop := tQ n Q e f H
def WB (id : Nat) (Q : Exit → F → Hp → Prop) (e : Exit) (f : F) (H : Hp) (_ : Hold (id, Q)) : Prop := bQ id Q e f H
def WF (m : Nat) (slots : List Nat) (R : TV → Hp → Prop) (e : Exit) (f : F) (H : Hp) (_ : Hold (slots, R)) : Prop := AFin m slots R e f H
def WFC (P : Program) (m : Nat) (rs : List RS) (R : TV → Hp → Prop) (e : Exit) (f : F) (H : Hp) (_ : Hold R) : Prop := AFinC P m rs R e f H
/-- A loop, its body kept as code. -/
def ALp (P : Program) (m : Nat) (D : Nat → Option DR) (c : Code) (Q : Exit → F → Hp → Prop) (f : F) (H : Hp) (_ : Hold (D, c, Q)) : Prop := ALoop m (awp P m D c) Q f H
/-- A call, what follows it not looked into. -/
def CallG (P : Program) (k : FuncId) (ts : List TV) (H : Hp) (dst : Option Nat) (f : F) (K : F → Hp → Prop) (_ : Hold K) : Prop := ∃ ms, ACalls P k ts ms H (fun t H' => K (put f dst t) H')
def CallD (P : Program) (ms0 : List Nat) (H1 : Hp) (k : FuncId) (ts : List TV) (H : Hp) (dst : Option Nat) (f : F) (K : F → Hp → Prop) (_ : Hold (ms0, H1, K)) : Prop :=
  ∃ ms', msIn ms0 H1.length ms' ∧ ACalls P k ts ms' H (fun t H' => sameFrom ms0 0 H1 H' ∧ K (put f dst t) H')

section
variable (P : Program) (m : Nat) (D : Nat → Option DR) (Q : Exit → F → Hp → Prop) (f : F) (H : Hp)
theorem awp_skip (u) : W P m D .skip Q f H u = Q .normal f H := rfl
theorem awp_region (id : Nat) (l : List Oper) (u) : W P m D (.region id l.toArray false) Q f H u = (match D id with
      | none => WO P l (fun f H => Q .normal f H) l f H .mk
      | some _ => WOW P l (fun f H => Q .normal f H) l f H .mk) := by unfold W; simp only [awp]; cases D id <;> simp [WO, WOW]
/-- A region whose turned handles are said at the place. -/
def WX (P : Program) (all : List Oper) (q : F → Hp → Prop) (l : DT) (f : F) (H : Hp) (_ : Hold (all, q, l)) : Prop := ∃ ms, msOwn H ms ∧ awpOrd P all ms H q l f H
theorem WX_at {P : Program} {all : List Oper} {q : F → Hp → Prop} {l : DT} {f : F} {H : Hp} {u} (ms : List Nat) (h1 : msOwn H ms) (h2 : WD P all ms H q l f H .mk) : WX P all q l f H u := ⟨ms, h1, h2⟩
theorem awp_regionD (id : Nat) (l : List Oper) (u) : W P m D (.region id l.toArray true) Q f H u = (match D id with
      | some ⟨_, .free ord⟩ => WX P l (fun f H => Q .normal f H) ord f H .mk
      | some ⟨ms, ord⟩ => msOwn H ms ∧ WD P l ms H (fun f H => Q .normal f H) ord f H .mk
      | none => False) := by
  unfold W; simp only [awp, if_true]
  cases D id with
  | none => rfl
  | some d => obtain ⟨ms, ord⟩ := d; cases ord <;> rfl
theorem awp_seq (a b : Code) (u) : W P m D (.seq a b) Q f H u = W P m D a (fun e f' H' => WT (fun f' H' => W P m D b Q f' H' .mk) Q e f' H' .mk) f H .mk := rfl
theorem awp_cond (c : Operand) (x y : Code) (u) : W P m D (.cond c x y) Q f H u = (match aev f c with
    | some (.a (.c (.v (.bool b)))) => ABr b (W P m D x Q f H .mk) (W P m D y Q f H .mk)
    | _ => False) := rfl
theorem awp_block (id : Nat) (c : Code) (u) : W P m D (.block id c) Q f H u = W P m D c (fun e f H => WB id Q e f H .mk) f H .mk := rfl
theorem awp_loop (c : Code) (u) : W P m D (.loop c) Q f H u = ALp P m D c Q f H .mk := rfl
theorem awp_exit (id : Nat) (u) : W P m D (.exit id) Q f H u = Q (.exit id) f H := rfl
theorem awp_ret (u) : W P m D .ret Q f H u = Q .ret f H := rfl

theorem awpOps_nil (all : List Oper) (q : F → Hp → Prop) (u) : WO P all q [] f H u = q f H := rfl
theorem awpOps_cons (all : List Oper) (q : F → Hp → Prop) (dst : Option Nat) (op : Op) (ty : TypeId) (pos : String) (after : Array Edge) (l : List Oper) (u) :
    WO P all q (⟨dst, op, ty, pos, after, none⟩ :: l) f H u = WA P dst op (fun f H => WO P all q l f H .mk) f H .mk := rfl
theorem awpOps_guard (all : List Oper) (q : F → Hp → Prop) (dst : Option Nat) (op : Op) (ty : TypeId) (pos : String) (after : Array Edge) (j : Nat) (want : Bool) (l : List Oper) (u) :
    WO P all q (⟨dst, op, ty, pos, after, some (j, want)⟩ :: l) f H u = (match agd all f j with
    | some (some b) => if b = want then WA P dst op (fun f H => WO P all q l f H .mk) f H .mk else WO P all q l (put f dst uT) H .mk
    | some none => WO P all q l (put f dst uT) H .mk
    | none => False) := rfl
theorem awpOpsW_nil (all : List Oper) (q : F → Hp → Prop) (u) : WOW P all q [] f H u = q f H := rfl
theorem awpOpsW_cons (all : List Oper) (q : F → Hp → Prop) (dst : Option Nat) (op : Op) (ty : TypeId) (pos : String) (after : Array Edge) (l : List Oper) (u) :
    WOW P all q (⟨dst, op, ty, pos, after, none⟩ :: l) f H u = WAW P dst op (fun f H => WOW P all q l f H .mk) f H .mk := rfl
theorem awpOpsW_guard (all : List Oper) (q : F → Hp → Prop) (dst : Option Nat) (op : Op) (ty : TypeId) (pos : String) (after : Array Edge) (j : Nat) (want : Bool) (l : List Oper) (u) :
    WOW P all q (⟨dst, op, ty, pos, after, some (j, want)⟩ :: l) f H u = (match agd all f j with
    | some (some b) => if b = want then WAW P dst op (fun f H => WOW P all q l f H .mk) f H .mk else WOW P all q l (put f dst uT) H .mk
    | some none => WOW P all q l (put f dst uT) H .mk
    | none => False) := rfl
theorem aopW_eq (dst : Option Nat) (op : Op) (K : F → Hp → Prop) (u) : WAW P dst op K f H u = (match apureW f op with
    | some (vc, t) => vc ∧ K (put f dst t) H
    | none => WA P dst op K f H .mk) := rfl
theorem awpOrd_nil (all : List Oper) (ms : List Nat) (H1 : Hp) (q : F → Hp → Prop) (u) : WD P all ms H1 q .nil f H u = q f H := rfl
/-- One operation that comes up, its guard asked. -/
def WG (P : Program) (all : List Oper) (ms : List Nat) (H1 : Hp) (q : F → Hp → Prop) (t : Tk) (l : DT) (f : F) (H : Hp) (_ : Hold (all, ms, H1, q, l)) : Option Oper → Prop
  | some ⟨dst, op, _, _, _, none⟩ => WAD P ms H1 t dst op (fun f H => WD P all ms H1 q l f H .mk) f H .mk
  | some ⟨dst, op, _, _, _, some (j, want)⟩ => (match agd all f j with
      | some (some b) => if b = want then WAD P ms H1 t dst op (fun f H => WD P all ms H1 q l f H .mk) f H .mk else WD P all ms H1 q l (put f dst uT) H .mk
      | some none => WD P all ms H1 q l (put f dst uT) H .mk
      | none => False)
  | none => False
theorem WG_none (all : List Oper) (ms : List Nat) (H1 : Hp) (q : F → Hp → Prop) (t : Tk) (l : DT) (u) (dst : Option Nat) (op : Op) (ty : TypeId) (pos : String) (after : Array Edge) :
    WG P all ms H1 q t l f H u (some ⟨dst, op, ty, pos, after, none⟩) = WAD P ms H1 t dst op (fun f H => WD P all ms H1 q l f H .mk) f H .mk := rfl
theorem WG_some (all : List Oper) (ms : List Nat) (H1 : Hp) (q : F → Hp → Prop) (t : Tk) (l : DT) (u) (dst : Option Nat) (op : Op) (ty : TypeId) (pos : String) (after : Array Edge) (j : Nat) (want : Bool) :
    WG P all ms H1 q t l f H u (some ⟨dst, op, ty, pos, after, some (j, want)⟩) = (match agd all f j with
      | some (some b) => if b = want then WAD P ms H1 t dst op (fun f H => WD P all ms H1 q l f H .mk) f H .mk else WD P all ms H1 q l (put f dst uT) H .mk
      | some none => WD P all ms H1 q l (put f dst uT) H .mk
      | none => False) := rfl
theorem WG_eq (all : List Oper) (ms : List Nat) (H1 : Hp) (q : F → Hp → Prop) (t : Tk) (l : DT) (u) (o : Oper) :
    WG P all ms H1 q t l f H u (some o) = aguard all o f (aopD P ms H1 t o.dst o.op (awpOrd P all ms H1 q l) f H) (awpOrd P all ms H1 q l (put f o.dst uT) H) := by
  obtain ⟨dst, op, ty, pos, after, g⟩ := o
  cases g with
  | none => rfl
  | some g => rfl
theorem awpOrd_cons (all : List Oper) (ms : List Nat) (H1 : Hp) (q : F → Hp → Prop) (i : Nat) (t : Tk) (l : DT) (u) :
    WD P all ms H1 q (.op i t l) f H u = WG P all ms H1 q t l f H .mk all[i]? := by
  unfold WD
  simp only [awpOrd]
  cases all[i]? with
  | none => rfl
  | some o => rw [WG_eq]
theorem awpOrd_two (all : List Oper) (ms : List Nat) (H1 : Hp) (q : F → Hp → Prop) (i j : Nat) (l l' : DT) (u) :
    WD P all ms H1 q (.two i j l l') f H u = (WG P all ms H1 q .only l f H .mk all[i]? ∧ WG P all ms H1 q .only l' f H .mk all[j]?) := by
  unfold WD
  simp only [awpOrd]
  cases all[i]? with
  | none => simp [WG]
  | some o =>
    cases all[j]? with
    | none => simp [WG]
    | some o' => rw [WG_eq, WG_eq]
end

section
variable (n : F → Hp → Prop) (Q : Exit → F → Hp → Prop) (f : F) (H : Hp)
theorem tQ_normal (u) : WT n Q .normal f H u = n f H := rfl
theorem tQ_ret (u) : WT n Q .ret f H u = Q .ret f H := rfl
theorem tQ_exit (id : Nat) (u) : WT n Q (.exit id) f H u = Q (.exit id) f H := rfl
theorem bQ_normal (id : Nat) (u) : WB id Q .normal f H u = Q .normal f H := rfl
theorem bQ_ret (id : Nat) (u) : WB id Q .ret f H u = Q .ret f H := rfl
theorem bQ_exit (id i : Nat) (u) : WB id Q (.exit i) f H u = if i = id then Q .normal f H else Q (.exit i) f H := rfl
end

theorem get_nil (n : Nat) : get [] n = none := rfl
theorem get_cons (k : Nat) (t : TV) (f : F) (n : Nat) : get ((k, t) :: f) n = if n = k then some t else get f n := rfl
theorem put_some (f : F) (d : Nat) (t : TV) : put f (some d) t = (d, t) :: f := rfl
theorem put_none (f : F) (t : TV) : put f none t = f := rfl

/-- A loop by an invariant: the states that may stand at its head are the st s with J s. -/
theorem aloop {P : Program} {m : Nat} {D : Nat → Option DR} {c : Code} {Q : Exit → F → Hp → Prop} {f : F} {H : Hp} {σ : Type} (st : σ → F × Hp) (J : σ → Prop) (μ : σ → Nat) (s0 : σ) (ρ0 : List Nat) (hJ : J s0) (hw : Weak m ρ0 f H (st s0).1 (st s0).2)
    (hr : ∀ s, J s → W P m D c (fun e f H => WT (fun f' H' => ∃ s' ρ, (J s' ∧ μ s' < μ s) ∧ Weak m ρ f' H' (st s').1 (st s').2) Q e f H .mk) (st s).1 (st s).2 .mk) {u} : ALp P m D c Q f H u :=
  ⟨σ, st, J, μ, ⟨s0, ρ0, hJ, hw⟩, hr⟩

/-- A loop by an invariant, what follows it not looked into. -/
theorem aloopQ {P : Program} {m : Nat} {D : Nat → Option DR} {c : Code} {Q : Exit → F → Hp → Prop} {f : F} {H : Hp} {σ : Type} (st : σ → F × Hp) (J : σ → Prop) (μ : σ → Nat) (s0 : σ) (ρ0 : List Nat) (hJ : J s0) (hw : Weak m ρ0 f H (st s0).1 (st s0).2)
    (hr : ∀ Q' : Exit → F → Hp → Prop, (∀ e f H, Q e f H → Q' e f H) → ∀ s, J s → W P m D c (fun e f H => WT (fun f' H' => ∃ s' ρ, (J s' ∧ μ s' < μ s) ∧ Weak m ρ f' H' (st s').1 (st s').2) Q' e f H .mk) (st s).1 (st s).2 .mk) {u} : ALp P m D c Q f H u :=
  aloop st J μ s0 ρ0 hJ hw (hr Q (fun _ _ _ h => h))

theorem abr_split {b : Bool} {x y : Prop} (h1 : b = true → x) (h2 : b = false → y) : ABr b x y := ⟨h1, h2⟩

/-! ### Short words -/
abbrev tI (n : Int) : TV := .a (.c (.v (.int .i64 n)))
abbrev tB (b : Bool) : TV := .a (.c (.v (.bool b)))
abbrev tS (h n : Nat) : TV := .a (.c (.sl 1 h 0 n))
abbrev tR (h n : Nat) : TV := .a (.c (.sl 2 h 0 n))
abbrev tO (h o n : Nat) : TV := .a (.c (.sl 1 h o n))
abbrev aO (h o n : Nat) : AV := .c (.sl 1 h o n)
abbrev tN : TV := .a (.c (.v (.slice none 0 0)))
abbrev tF (k : FuncId) (caps : List (Nat × Nat × Nat)) : TV := .a (.c (.fn k caps))
abbrev tP (h : Nat) : TV := .a (.c (.ptr h 0 0))
abbrev aI (n : Int) : AV := .c (.v (.int .i64 n))
abbrev aB (b : Bool) : AV := .c (.v (.bool b))
abbrev aS (h n : Nat) : AV := .c (.sl 1 h 0 n)
abbrev aR (h n : Nat) : AV := .c (.sl 2 h 0 n)
abbrev aN : AV := .c (.v (.slice none 0 0))
abbrev rI (xs : List Int) : Row := .r false (.ints .i64 xs)
abbrev oI (xs : List Int) : Row := .r true (.ints .i64 xs)
abbrev oB (xs : List Bool) : Row := .r true (.bools xs)
abbrev rR (xs : List (Int × Int)) : Row := .r false (.recs xs)
abbrev oR (xs : List (Int × Int)) : Row := .r true (.recs xs)

theorem weak_of {m : Nat} {ρ : List Nat} {f f' : F} {H H' : Hp} (h1 : ρ.take m = List.range m ∧ ρ.Nodup) (h : (∀ h ∈ ρ, h < H.length) ∧ rowsLe ρ H ρ H' ∧ slotsLe ρ f f') : Weak m ρ f H f' H' :=
  ⟨h1.1, h1.2, h.1, h.2.1, h.2.2⟩

/-- The rows that a call may turn: all own ones, and no others. -/
def ownAll : Nat → List Nat → Hp → Prop
  | _, _, [] => True
  | i, ms, r :: H => (r.own = true → i ∈ ms) ∧ ownAll (i + 1) ms H

theorem ownAll_ok : ∀ {H : Hp} {i0 : Nat} {ms : List Nat}, ownAll i0 ms H → ∀ (i : Nat) d, H[i]? = some (.r true d) → i0 + i ∈ ms
  | [], _, _, _, i, d, h => by simp at h
  | r :: H, i0, ms, ho, 0, d, h => by simp at h; subst h; exact ho.1 rfl
  | r :: H, i0, ms, ho, i + 1, d, h => by
    have := ownAll_ok ho.2 i d (by simpa using h)
    rwa [Nat.add_assoc, Nat.add_comm 1 i] at this

theorem afun {P : Program} {k : FuncId} {fn : Func} {c : Code} (D : Nat → Option DR) {args : List TV} {ms : List Nat} {H : Hp} {R : TV → Hp → Prop} (slots : List Nat) (m : Nat)
    (hf : P.funcs[k]? = some fn) (hb : fn.body = some c) (hres : fn.results = (slots.map ResultVar.tmp).toArray) (hmix : P.follows .mixedOrders = true)
    (hn : (fn.name == "runtime.NumGoroutine") = false) (hck : codeOK D fn.ntmps c = true) (hs : (slots.Nodup ∧ slots.length ≤ 4) ∧ args.length ≤ fn.ntmps) (hm : H.length = m)
    (hms : msOwn H ms ∧ ownAll 0 ms H) (h : W P m D c (fun e f H => WF m slots R e f H .mk) (initF 0 args) H .mk) : ACalls P k args ms H R :=
  acalls_of D hf hb hn hres hs.1.1 hs.1.2 hmix hck hs.2 hm (msOwn_ok hms.1) (fun i d hi => by have := ownAll_ok hms.2 i d hi; simpa using this) h

theorem WFC_eq (P : Program) (m : Nat) (rs : List RS) (R : TV → Hp → Prop) (e : Exit) (f : F) (H : Hp) (u) : WFC P m rs R e f H u = (match lres P H rs f with
    | some (vc, f') => vc ∧ WF m (rs.map RS.slot) R e f' H .mk
    | none => False) := rfl

theorem afunC {P : Program} {k : FuncId} {fn : Func} {c : Code} (D : Nat → Option DR) {args : List TV} {ms : List Nat} {H : Hp} {R : TV → Hp → Prop} (rs : List RS) (m : Nat)
    (hf : P.funcs[k]? = some fn) (hb : fn.body = some c) (hres : fn.results = (rs.map RS.rv).toArray) (hmix : P.follows .mixedOrders = true)
    (hn : (fn.name == "runtime.NumGoroutine") = false) (hck : codeOK D fn.ntmps c = true) (hs : (rs.map RS.slot).Nodup ∧ args.length ≤ fn.ntmps) (hm : H.length = m)
    (hms : msOwn H ms ∧ ownAll 0 ms H) (h : W P m D c (fun e f H => WFC P m rs R e f H .mk) (initF 0 args) H .mk) : ACalls P k args ms H R :=
  acalls_ofC D hf hb hn hres hs.1 hmix hck hs.2 hm (msOwn_ok hms.1) (fun i d hi => by have := ownAll_ok hms.2 i d hi; simpa using this) h

theorem afin {m : Nat} {slots : List Nat} {R : TV → Hp → Prop} {e : Exit} {f : F} {H : Hp} (ρ : List Nat) (xs : List AV) (H' : Hp) (he : e = .ret ∨ e = .normal) (hl : xs.length = slots.length) (hw : Weak m ρ f H (zipSlots slots xs) H') (hR : R (rtv xs) H') : AFin m slots R e f H :=
  ⟨he, ρ, xs, H', hl, hw, hR⟩
theorem ABr_true (x y : Prop) : ABr true x y = x := by simp [ABr]
theorem ABr_false (x y : Prop) : ABr false x y = y := by simp [ABr]
theorem aop_eq (P : Program) (dst : Option Nat) (op : Op) (K : F → Hp → Prop) (f : F) (H : Hp) (u) : WA P dst op K f H u = (match kd op with
    | .pure => (match apure P f op with
      | some (vc, t) => vc ∧ K (put f dst t) H
      | none => False)
    | .load => (match aload P f H op with
      | some (vc, t) => vc ∧ K (put f dst t) H
      | none => False)
    | .eff => (match aeff P f H op with
      | some r => r.vc ∧ K (put f dst r.tv) r.H
      | none => False)
    | .call => (match callOf f op with
      | some (k, ts) => CallG P k ts H dst f K .mk
      | none => False)) := rfl
theorem aopD_eq (P : Program) (ms : List Nat) (H1 : Hp) (tk : Tk) (dst : Option Nat) (op : Op) (K : F → Hp → Prop) (f : F) (H : Hp) (u) : WAD P ms H1 tk dst op K f H u = (match kd op with
    | .pure => (match apure P f op with
      | some (vc, t) => vc ∧ K (put f dst t) H
      | none => False)
    | .load => (match aload P f H op with
      | some (vc, t) => ldC tk (ldHeld f ms H1 H op) ∧ vc ∧ K (put f dst t) H
      | none => False)
    | .eff => (match aeff P f H op with
      | some r => onC tk ∧ msIn ms H1.length r.ms ∧ sameFrom ms 0 H1 r.H ∧ r.vc ∧ K (put f dst r.tv) r.H
      | none => False)
    | .call => (match callOf f op with
      | some (k, ts) => onC tk ∧ CallD P ms H1 k ts H dst f K .mk
      | none => False)) := rfl
theorem aguard_eq (all : List Oper) (o : Oper) (f : F) (yes no : Prop) : aguard all o f yes no = (match o.guard with
  | none => yes
  | some (j, want) => (match agd all f j with
    | some (some b) => if b = want then yes else no
    | some none => no
    | none => False)) := rfl
attribute [go_sem ↓] ABr_true ABr_false aguard_eq
attribute [go_sem] awpOpsW_nil awpOpsW_cons awpOpsW_guard aopW_eq apureW wAdd wSub WFC_eq lres RS.slot opBuild opBuildL evParts allSz Option.isSome_some Option.isSome_none Nat.zero_mul Nat.mul_one bne_self_eq_false List.mem_cons List.not_mem_nil not_false_eq_true implies_true awp_regionD awpOrd_nil awpOrd_cons awpOrd_two WG_none WG_some ldC onC aopD_eq ldHeld sameFrom msIn msOwn awp_skip awp_region awp_seq awp_cond awp_block awp_loop awp_exit awp_ret awpOps_nil awpOps_cons awpOps_guard aop_eq kd apure aload aeff o1 o2 aev aevs get_nil get_cons put_some put_none initF opLen opMk opIdx opLd opSt opBin opUn opExt opSl opBd opApp opBS opAl opBox opMax opMin opConv opFA opField opPick abin one onb arR List.toList_toArray tQ_normal tQ_ret tQ_exit bQ_normal bQ_exit bQ_ret ofV uT zrow isRec0 cellsOf C.isOne Value.oneCell' Dat.ld Dat.ldn Dat.st Dat.part Dat.app Dat.whole Dat.esz litrow litrow.intsOf litrow.recsOf litrow.boolsOf litrow.slicesOf litrow.aggsOf isRange Value.cells agd callOf capsOf ptrT inI64 Bool.false_eq_true true_and and_true List.length_singleton List.singleton_append Option.map Option.map_some Option.map_none Int.toNat_natCast Nat.zero_add Nat.add_zero List.getElem?_cons_zero List.getElem?_cons_succ List.getElem?_nil List.length_cons List.length_nil List.map_cons List.map_nil List.append_nil List.nil_append List.cons_append List.set_cons_zero List.set_cons_succ or_self or_false false_or or_true true_or beq_self_eq_true Bool.not_true Bool.not_false List.drop_zero List.size_toArray Bool.and_true and_self if_true_left
end Go.Ax
