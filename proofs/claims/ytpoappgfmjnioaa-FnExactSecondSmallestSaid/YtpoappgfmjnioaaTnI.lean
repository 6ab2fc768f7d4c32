/- Contracts: the second smallest in the program. -/
import Derived.Test.YtpoappgfmjnioaaTnS
import Derived.Test.YtpoappgfmjnioaaKth
set_option linter.unusedSimpArgs false
set_option linter.unusedVariables false
set_option linter.unusedSectionVars false
set_option linter.unnecessarySimpa false
namespace Go.Proofs.Ytpoappgfmjnioaa
open Go Go.Ax
set_option maxRecDepth 10000
set_option maxHeartbeats 1000000

theorem u_pl : Try.prog.underlying 71 = some (.struct (fieldsOf Try.prog 71)) := by kernel_rfl
theorem pl_f0 : (fieldsOf Try.prog 71)[0]? = some (fieldAt Try.prog 71 0) := by kernel_rfl
theorem pl_f1 : (fieldsOf Try.prog 71)[1]? = some (fieldAt Try.prog 71 1) := by kernel_rfl
theorem pl_s0 : sz Try.prog (fieldAt Try.prog 71 0).type = some 1 := by kernel_rfl
theorem pl_s1 : sz Try.prog (fieldAt Try.prog 71 1).type = some 1 := by kernel_rfl
theorem pl_o0 : (fieldAt Try.prog 71 0).offset = 0 := by kernel_rfl
theorem pl_o1 : (fieldAt Try.prog 71 1).offset = 1 := by kernel_rfl
theorem pl_all : allSz Try.prog (fieldsOf Try.prog 71).toList = true := by kernel_rfl
theorem sz_pl : sz Try.prog 71 = some 2 := by kernel_rfl
theorem by_pl : byt Try.prog 71 = some 32 := by kernel_rfl
theorem zr_pl : zr Try.prog 71 = some (.agg #[.int .i64 0, .slice none 0 0]) := by kernel_rfl
theorem ag_pl : isAggB Try.prog 71 = some true := by kernel_rfl
theorem u_pls : Try.prog.underlying 69 = some (.slice 71) := by kernel_rfl
theorem ag_pls : isAggB Try.prog 69 = some false := by kernel_rfl
attribute [go_sem] u_pl pl_f0 pl_f1 pl_s0 pl_s1 pl_o0 pl_o1 pl_all sz_pl by_pl zr_pl ag_pl u_pls ag_pls

theorem one_i (k : IntKind) (n : Int) : C.isOne (.v (.int k n)) = true := rfl
theorem one_n : C.isOne (.v (.slice none 0 0)) = true := rfl
theorem one_s (e h o l : Nat) : C.isOne (.sl e h o l) = true := rfl
theorem one_b (b : Bool) : C.isOne (.v (.bool b)) = true := rfl
attribute [-go_sem] C.isOne
attribute [go_sem] one_i one_n one_s one_b cellE_one
theorem Exc.new {S : List Nat} {H H' : Hp} (h : Exc S H H') {j : Nat} (hj : H.length ≤ j) (r : Row) : Exc S H (H'.set j r) := fun k r' e hk => lks (h k r' e hk) (by have := getlt e; omega)

/-- The players' cells. -/
def rcl (xs : List Int) : List En → List C
  | [] => []
  | e :: es => .v (.int .i64 (xs.getD e.1.1 0)) :: cellE e :: rcl xs es
abbrev bP (x : Int) (c : C) : Row := .r true (.cells 2 [.v (.int .i64 x), c])
abbrev rP (xs : List Int) (es : List En) : Row := .r true (.cells 2 (rcl xs es))
theorem rcl_len (xs : List Int) : ∀ es : List En, (rcl xs es).length = es.length * 2
  | [] => rfl
  | e :: es => by simp only [rcl, List.length_cons, rcl_len xs es]; omega
theorem rcl_app (xs : List Int) : ∀ a b : List En, rcl xs (a ++ b) = rcl xs a ++ rcl xs b
  | [], b => rfl
  | e :: a, b => by simp only [List.cons_append, rcl, rcl_app xs a b]
theorem rcl_one (xs : List Int) : ∀ es : List En, (rcl xs es).all C.isOne = true
  | [] => rfl
  | e :: es => by simp only [rcl, List.all_cons, cellE_one, rcl_one xs es]; rfl
theorem rcl_drop (xs : List Int) : ∀ (es : List En) (i : Nat), (rcl xs es).drop (i * 2) = rcl xs (es.drop i)
  | es, 0 => by simp
  | [], i + 1 => by simp [rcl]
  | e :: es, i + 1 => by rw [show (i + 1) * 2 = i * 2 + 1 + 1 by omega, rcl, List.drop_succ_cons, List.drop_succ_cons, List.drop_succ_cons, rcl_drop xs es i]
theorem rcl_at {xs : List Int} {es : List En} {i : Nat} {e : En} (h : es[i]? = some e) : ((rcl xs es).drop (i * 2)).take 2 = [.v (.int .i64 (xs.getD e.1.1 0)), cellE e] := by
  rw [rcl_drop]
  have hi := getlt' h
  rw [List.drop_eq_getElem_cons hi]
  have : es[i] = e := by rw [List.getElem?_eq_getElem hi] at h; exact Option.some.inj h
  rw [this]; rfl
where
  getlt' {α : Type} {l : List α} {i : Nat} {x : α} (h : l[i]? = some x) : i < l.length := by
    rcases Nat.lt_or_ge i l.length with h' | h'
    · exact h'
    · rw [List.getElem?_eq_none h'] at h; cases h
theorem rcl_hs {xs : List Int} {es : List En} {n : Nat} (h : ∀ e ∈ es, e.1.2 ≠ [] → e.2 < n) : ∀ c ∈ rcl xs es, ∀ k ∈ c.hs, k < n := by
  induction es with
  | nil => intro c hc; simp [rcl] at hc
  | cons e es ih =>
    intro c hc k hk
    simp only [rcl, List.mem_cons] at hc
    rcases hc with rfl | rfl | hc
    · simp [C.hs] at hk
    · unfold cellE at hk
      split at hk
      · simp [C.hs] at hk
      · simp [C.hs] at hk; subst hk; exact h e (by simp) (by assumption)
    · exact ih (fun e he => h e (by simp [he])) c hc k hk
theorem bP_hs {f : List Nat → List Int} {S : List Nat} {H : Hp} {es : List En} (hJ : LJ f S H es) (e : En) (he : e ∈ es) (x : Int) : ∀ h ∈ Row.hs (bP x (cellE e)), h < H.length := by
  intro h hh
  unfold cellE at hh
  split at hh
  · simp [Row.hs, Dat.hs, C.hs] at hh
  · rename_i hne
    simp [Row.hs, Dat.hs, C.hs] at hh
    subst hh
    exact getlt (hJ.row e he hne).1
theorem en0_snoc (i : Nat) : en0 (i + 1) = en0 i ++ [((i, []), 0)] := by simp [en0, ini, List.range_succ]

/-- The program's players: each one's slice of those beaten lies by itself. -/
structure PJ (xs : List Int) (S : List Nat) (H : Hp) (es : List En) : Prop where
  lj : LJ (vals xs) S H es
  list : H[0]? = some (rI xs)
  cl : Cl H
theorem PJ.keep {xs : List Int} {S S' T : List Nat} {H H' : Hp} {es : List En} (hJ : PJ xs S H es) (hE : Exc T H H') (hT : ∀ t ∈ T, t ∈ S) (hS : ∀ s ∈ S', s ∈ S ∨ H.length ≤ s) (h0 : 0 ∉ T) (cl : Cl H') : PJ xs S' H' es :=
  ⟨hJ.lj.keep hE hT hS, hE _ _ hJ.list h0, cl⟩
structure PO where
  g : Nat
  ps : List En
  hp : Nat
  H : Hp
  c : Nat
structure PI where
  i : Nat
  N : List En
  R : List En
  hn : Nat
  H : Hp
  c : Nat
structure POJ (xs : List Int) (s : PO) : Prop where
  run : tnT xs s.g (prs s.ps) s.c = tnR xs
  fuel : s.ps.length ≤ s.g + 1
  pos : 1 ≤ s.ps.length
  cnt : s.c + s.ps.length = xs.length
  row : s.H[s.hp]? = some (rP xs s.ps)
  pj : PJ xs [s.hp] s.H s.ps
  few : ∀ e ∈ s.ps, e.1.2.length ≤ s.c
structure PIJ (xs : List Int) (s : PO) (t : PI) : Prop where
  run : prs t.N ++ rnd xs (prs t.R) = rnd xs (prs s.ps)
  rest : t.R = s.ps.drop t.i
  pos : t.i + t.R.length = s.ps.length
  even : t.i % 2 = 0
  cnt : t.c + t.R.length / 2 = s.c + s.ps.length / 2
  len : t.N.length + t.R.length ≤ s.ps.length
  row : t.H[s.hp]? = some (rP xs s.ps)
  nxt : t.H[t.hn]? = some (rP xs t.N)
  ne : t.hn ≠ s.hp
  pj : PJ xs [s.hp, t.hn] t.H (t.N ++ t.R)
  few : ∀ e ∈ t.N ++ t.R, e.1.2.length ≤ t.c
theorem cl_rP {xs : List Int} {H : Hp} {es : List En} (hH : Cl H) (h : ∀ e ∈ es, e.1.2 ≠ [] → e.2 < H.length) : Cl (H ++ [rP xs es]) := cl_app hH fun r hr k hk => by
  simp at hr; subst hr
  simp only [Row.hs, Dat.hs, List.mem_flatMap] at hk
  obtain ⟨c, hc, hk⟩ := hk
  have := rcl_hs h c hc k hk
  rw [List.length_append]; omega

theorem iSec_l (xs : List Int) (hx : xs.length ≤ 281474976710656) : ACalls Try.prog 38 [tS 0 xs.length] [] [rI xs] (fun t H => t = .tup (ssV xs) ∧ H = [rI xs]) := by
  refine afun (fun i => match i with | 14 => some ⟨[], .op 0 .held (.op 1 .held (.op 2 .held (.op 4 .held (.op 5 .held (.op 6 .held (.op 7 .held (.op 3 .held (.op 8 .held (.two 9 10 (.op 10 .only (.op 11 .only (.op 12 .only .nil))) (.op 9 .only (.op 11 .only (.op 12 .only .nil))))))))))))⟩ | 18 => some ⟨[], .free (.op 0 .held (.op 1 .held (.op 3 .held (.op 5 .held (.op 6 .now (.op 2 .held (.op 4 .held (.op 7 .only (.op 8 .only (.op 9 .held (.op 10 .only (.op 11 .only (.op 12 .held .nil)))))))))))))⟩ | _ => none) [2, 3, 4] 1 Try.func38 rfl rfl mix (by kernel_rfl) (by kernel_rfl) (by simp [Try.f38]) rfl (by simp [msOwn, ownAll, Row.own]) ?_
  simp (dsimp := false) only [go_sem, Nat.reduceAdd, Nat.reduceBEq, Nat.reduceEqDiff, Nat.reduceLT, Nat.reduceLeDiff, reduceCtorEq, ↓reduceIte]
  cases hv : validB xs
  · repeat (refine And.intro (by first | exact True.intro | omega | kernel_rfl | (simp only [List.length_set, List.length_append, List.length_take, List.length_replicate, List.length_cons, true_and, and_true, List.length_nil, tabR_length]; omega)) ?_)
    refine ⟨_, (isValidList_l xs hx).lift [0] (by decide) (by simp) (by simp [RS.slot, List.map_cons, List.map_nil, rowsLe, rowLe, slotsLe, tvLe, TV.ren, AV.ren, C.ren, Dat.ren, Row.ren, TV.hs, AV.hs, C.hs, Dat.hs, get_cons, get_nil, zipSlots, List.getD_cons_zero, List.getD_cons_succ, List.getD_nil, -List.getD_eq_getElem?_getD]) (by simp [RS.slot, List.map_cons, List.map_nil, rowsLe, rowLe, slotsLe, tvLe, TV.ren, AV.ren, C.ren, Dat.ren, Row.ren, TV.hs, AV.hs, C.hs, Dat.hs, get_cons, get_nil, zipSlots, List.getD_cons_zero, List.getD_cons_succ, List.getD_nil, -List.getD_eq_getElem?_getD]) (by simp [RS.slot, List.map_cons, List.map_nil, rowsLe, rowLe, slotsLe, tvLe, TV.ren, AV.ren, C.ren, Dat.ren, Row.ren, TV.hs, AV.hs, C.hs, Dat.hs, get_cons, get_nil, zipSlots, List.getD_cons_zero, List.getD_cons_succ, List.getD_nil, -List.getD_eq_getElem?_getD]) rfl ?_⟩
    rintro _ _ ⟨rfl, rfl⟩
    refine ⟨by simp [ownIn, Row.own], ?_⟩
    simp (dsimp := false) only [hv, liftT, liftH, putBack, freshR, ownIn, Row.own, Row.ren, TV.ren, AV.ren, C.ren, Dat.ren, List.drop_succ_cons, List.drop_nil, List.getD_cons_zero, List.getD_cons_succ, List.getD_nil, go_sem, Nat.reduceAdd, Nat.reduceBEq, Nat.reduceEqDiff, Nat.reduceLT, Nat.reduceLeDiff, reduceCtorEq, ↓reduceIte]
    refine afin [0] [aI 0, aI 0, aB false] [rI xs] (by simp) rfl (weak_of (by decide) (by simp [RS.slot, List.map_cons, List.map_nil, rowsLe, rowLe, slotsLe, tvLe, TV.ren, AV.ren, C.ren, Dat.ren, Row.ren, TV.hs, AV.hs, C.hs, Dat.hs, get_cons, get_nil, zipSlots, List.getD_cons_zero, List.getD_cons_succ, List.getD_nil, -List.getD_eq_getElem?_getD])) (by simp only [rtv, ssV, hv, Bool.false_and, cond_false, and_self])
  by_cases h2 : xs.length < 2
  · have hd : decide ((xs.length : Int) < 2) = true := decide_eq_true (by omega)
    have hd2 : decide (2 ≤ xs.length) = false := decide_eq_false (by omega)
    repeat (refine And.intro (by first | exact True.intro | omega | kernel_rfl | (simp only [List.length_set, List.length_append, List.length_take, List.length_replicate, List.length_cons, true_and, and_true, List.length_nil, tabR_length]; omega)) ?_)
    refine ⟨_, (isValidList_l xs hx).lift [0] (by decide) (by simp) (by simp [RS.slot, List.map_cons, List.map_nil, rowsLe, rowLe, slotsLe, tvLe, TV.ren, AV.ren, C.ren, Dat.ren, Row.ren, TV.hs, AV.hs, C.hs, Dat.hs, get_cons, get_nil, zipSlots, List.getD_cons_zero, List.getD_cons_succ, List.getD_nil, -List.getD_eq_getElem?_getD]) (by simp [RS.slot, List.map_cons, List.map_nil, rowsLe, rowLe, slotsLe, tvLe, TV.ren, AV.ren, C.ren, Dat.ren, Row.ren, TV.hs, AV.hs, C.hs, Dat.hs, get_cons, get_nil, zipSlots, List.getD_cons_zero, List.getD_cons_succ, List.getD_nil, -List.getD_eq_getElem?_getD]) (by simp [RS.slot, List.map_cons, List.map_nil, rowsLe, rowLe, slotsLe, tvLe, TV.ren, AV.ren, C.ren, Dat.ren, Row.ren, TV.hs, AV.hs, C.hs, Dat.hs, get_cons, get_nil, zipSlots, List.getD_cons_zero, List.getD_cons_succ, List.getD_nil, -List.getD_eq_getElem?_getD]) rfl ?_⟩
    rintro _ _ ⟨rfl, rfl⟩
    refine ⟨by simp [ownIn, Row.own], ?_⟩
    simp (dsimp := false) only [hv, hd, liftT, liftH, putBack, freshR, ownIn, Row.own, Row.ren, TV.ren, AV.ren, C.ren, Dat.ren, List.drop_succ_cons, List.drop_nil, List.getD_cons_zero, List.getD_cons_succ, List.getD_nil, go_sem, Nat.reduceAdd, Nat.reduceBEq, Nat.reduceEqDiff, Nat.reduceLT, Nat.reduceLeDiff, reduceCtorEq, ↓reduceIte]
    refine afin [0] [aI 0, aI 0, aB false] [rI xs] (by simp) rfl (weak_of (by decide) (by simp [RS.slot, List.map_cons, List.map_nil, rowsLe, rowLe, slotsLe, tvLe, TV.ren, AV.ren, C.ren, Dat.ren, Row.ren, TV.hs, AV.hs, C.hs, Dat.hs, get_cons, get_nil, zipSlots, List.getD_cons_zero, List.getD_cons_succ, List.getD_nil, -List.getD_eq_getElem?_getD])) (by simp only [rtv, ssV, hv, hd2, Bool.and_false, cond_false, and_self])
  have h64 := validB_len hv
  have hd : decide ((xs.length : Int) < 2) = false := decide_eq_false (by omega)
  have hd2 : decide (2 ≤ xs.length) = true := decide_eq_true (by omega)
  repeat (refine And.intro (by first | exact True.intro | omega | kernel_rfl | (simp only [List.length_set, List.length_append, List.length_take, List.length_replicate, List.length_cons, true_and, and_true, List.length_nil, tabR_length]; omega)) ?_)
  refine ⟨_, (isValidList_l xs hx).lift [0] (by decide) (by simp) (by simp [RS.slot, List.map_cons, List.map_nil, rowsLe, rowLe, slotsLe, tvLe, TV.ren, AV.ren, C.ren, Dat.ren, Row.ren, TV.hs, AV.hs, C.hs, Dat.hs, get_cons, get_nil, zipSlots, List.getD_cons_zero, List.getD_cons_succ, List.getD_nil, -List.getD_eq_getElem?_getD]) (by simp [RS.slot, List.map_cons, List.map_nil, rowsLe, rowLe, slotsLe, tvLe, TV.ren, AV.ren, C.ren, Dat.ren, Row.ren, TV.hs, AV.hs, C.hs, Dat.hs, get_cons, get_nil, zipSlots, List.getD_cons_zero, List.getD_cons_succ, List.getD_nil, -List.getD_eq_getElem?_getD]) (by simp [RS.slot, List.map_cons, List.map_nil, rowsLe, rowLe, slotsLe, tvLe, TV.ren, AV.ren, C.ren, Dat.ren, Row.ren, TV.hs, AV.hs, C.hs, Dat.hs, get_cons, get_nil, zipSlots, List.getD_cons_zero, List.getD_cons_succ, List.getD_nil, -List.getD_eq_getElem?_getD]) rfl ?_⟩
  rintro _ _ ⟨rfl, rfl⟩
  refine ⟨by simp [ownIn, Row.own], ?_⟩
  simp (dsimp := false) only [hv, hd, liftT, liftH, putBack, freshR, ownIn, Row.own, Row.ren, TV.ren, AV.ren, C.ren, Dat.ren, List.drop_succ_cons, List.drop_nil, List.getD_cons_zero, List.getD_cons_succ, List.getD_nil, go_sem, Nat.reduceAdd, Nat.reduceBEq, Nat.reduceEqDiff, Nat.reduceLT, Nat.reduceLeDiff, reduceCtorEq, ↓reduceIte]
  repeat (refine And.intro (by first | exact True.intro | omega | kernel_rfl | (simp only [List.length_set, List.length_append, List.length_take, List.length_replicate, List.length_cons, true_and, and_true, List.length_nil, tabR_length]; omega)) ?_)
  have hcl : Cl [rI xs, rP xs (en0 0)] := fun r hr h hh => by
    simp at hr
    rcases hr with rfl | rfl <;> simp [Row.hs, Dat.hs, en0, ini, rcl] at hh
  refine aloopQ (σ := Nat × Nat × Hp) (fun s => ([(5, .a (.c (.sl 2 s.2.1 0 s.1))), (6, tI 0), (23, tS 0 xs.length), (24, tI xs.length), (25, tI s.1)], s.2.2)) (fun s => s.1 ≤ xs.length ∧ s.2.2[0]? = some (rI xs) ∧ s.2.2[s.2.1]? = some (rP xs (en0 s.1)) ∧ Cl s.2.2) (fun s => xs.length - s.1) (0, 1, [rI xs, rP xs (en0 0)]) (List.range 2) ⟨Nat.zero_le _, rfl, rfl, hcl⟩ (wk_id (by simp) hcl (by simp [slId, get_cons, get_nil, TV.hs, AV.hs, C.hs, RS.slot, zipSlots])) ?_
  clear hcl
  rintro Q hQ ⟨i, hr, H⟩ ⟨hi, l0, lr, hcl⟩
  simp only at hi l0 lr hcl
  have hH0 := getlt l0
  have hHr := getlt lr
  by_cases hin : i < xs.length
  · have hcd : decide ((i : Int) < (xs.length : Int)) = true := decide_eq_true (by omega)
    have hone := rcl_one xs (en0 i)
    have hlen := rcl_len xs (en0 i)
    rw [en0_len] at hlen
    have qN : (H ++ [bP (xs.getD i 0) (.v (.slice none 0 0))])[hr]? = some (rP xs (en0 i)) := lkp lr
    have qA : (H ++ [bP (xs.getD i 0) (.v (.slice none 0 0))])[H.length]? = some (bP (xs.getD i 0) (.v (.slice none 0 0))) := lkn _ _
    simp (dsimp := false) only [hcd, l0, lr, hone, qN, qA, List.length_append, List.length_set, List.length_cons, List.length_nil, List.take_succ_cons, List.take_zero, List.drop_zero, List.all_cons, List.all_nil, cellE_one, Nat.one_mul, Int.toNat_natCast, Int.toNat_zero, go_sem, Nat.reduceAdd, Nat.reduceBEq, Nat.reduceEqDiff, Nat.reduceLT, Nat.reduceLeDiff, reduceCtorEq, ↓reduceIte]
    repeat (refine And.intro (by first | exact True.intro | omega | kernel_rfl | (simp only [List.length_set, List.length_append, List.length_take, List.length_replicate, List.length_cons, true_and, and_true, List.length_nil, tabR_length]; omega)) ?_)
    have hcl' : Cl ((H ++ [bP (xs.getD i 0) (.v (.slice none 0 0))]).set hr .dead ++ [rP xs (en0 i ++ [((i, []), 0)])]) :=
      cl_rP (cl_dead (cl_app hcl fun r hr h hh => by simp at hr; subst hr; simp [Row.hs, Dat.hs, C.hs] at hh)) (fun e he hne => by
        simp only [List.mem_append, List.mem_singleton] at he
        rcases he with he | rfl
        · exact absurd (en0_bt he).1 hne
        · exact absurd rfl hne)
    have er : rcl xs (en0 i) ++ [.v (.int .i64 (xs.getD i 0)), .v (.slice none 0 0)] = rcl xs (en0 i ++ [((i, []), 0)]) := by rw [rcl_app]; rfl
    rw [er]
    refine ⟨(i + 1, H.length + 1, (H ++ [bP (xs.getD i 0) (.v (.slice none 0 0))]).set hr .dead ++ [rP xs (en0 i ++ [((i, []), 0)])]), List.range ((H ++ [bP (xs.getD i 0) (.v (.slice none 0 0))]).set hr .dead ++ [rP xs (en0 i ++ [((i, []), 0)])]).length, ⟨⟨by dsimp only; omega, ?_, ?_, hcl'⟩, by dsimp only; omega⟩, wk_id (by simp) hcl' (by simp [slId, get_cons, get_nil, TV.hs, AV.hs, C.hs, RS.slot, zipSlots])⟩
    · exact lkp (lks (lkp l0) (fun e => by rw [e, l0] at lr; cases lr))
    · dsimp only
      rw [lkn' (by simp), en0_snoc]
  have hie : i = xs.length := by omega
  subst hie
  have hcd : decide ((xs.length : Int) < (xs.length : Int)) = false := decide_eq_false (by omega)
  simp (dsimp := false) only [hcd, go_sem, Nat.reduceAdd, Nat.reduceBEq, Nat.reduceEqDiff, Nat.reduceLT, Nat.reduceLeDiff, reduceCtorEq, ↓reduceIte]
  refine hQ _ _ _ ?_
  simp (dsimp := false) only [go_sem, Nat.reduceAdd, Nat.reduceBEq, Nat.reduceEqDiff, Nat.reduceLT, Nat.reduceLeDiff, reduceCtorEq, ↓reduceIte]
  clear hQ
  have hJ0 : POJ xs ⟨xs.length, en0 xs.length, hr, H, 0⟩ :=
    ⟨by rw [en0_prs]; rfl, by simp only [en0_len]; omega, by simp only [en0_len]; omega, by simp only [en0_len]; omega, lr, ⟨⟨fun e he hne => absurd (en0_bt he).1 hne, List.Pairwise.imp_of_mem (R := fun _ _ => True) (fun ha _ _ => .inl (en0_bt ha).1) (List.pairwise_of_forall (fun _ _ => trivial))⟩, l0, hcl⟩, fun e he => by rw [(en0_bt he).1]; simp⟩
  refine aloopQ (σ := PO) (fun s => ([(5, .a (.c (.sl 2 s.hp 0 s.ps.length))), (6, tI s.c)], s.H)) (fun s => POJ xs s) (fun s => s.g) (⟨xs.length, en0 xs.length, hr, H, 0⟩) (List.range H.length) hJ0 (wk_id (by omega) hcl (by simp [slId, get_cons, get_nil, TV.hs, AV.hs, C.hs, RS.slot, zipSlots, en0_len] <;> omega)) ?_
  clear hJ0 hcl lr l0 hHr hH0
  rintro Q2 hQ2 s ⟨j1, j2, j3, j4, j5, j6, j7⟩
  have l0 := j6.list
  have hl0 := getlt l0
  have hlp := getlt j5
  by_cases h1 : 1 < s.ps.length
  · have hcd : decide ((1 : Int) < (s.ps.length : Int)) = true := decide_eq_true (by omega)
    simp (dsimp := false) only [hcd, go_sem, Nat.reduceAdd, Nat.reduceBEq, Nat.reduceEqDiff, Nat.reduceLT, Nat.reduceLeDiff, reduceCtorEq, ↓reduceIte]
    repeat (refine And.intro (by first | exact True.intro | omega | kernel_rfl | (simp only [List.length_set, List.length_append, List.length_take, List.length_replicate, List.length_cons, true_and, and_true, List.length_nil, tabR_length]; omega)) ?_)
    have hI0 : PIJ xs s ⟨0, [], s.ps, s.H.length, s.H ++ [rP xs []], s.c⟩ := by
      refine ⟨rfl, rfl, by simp, rfl, rfl, by simp, lkp j5, lkn _ _, by show s.H.length ≠ s.hp; omega, ?_, j7⟩
      exact j6.keep (Exc.app (Exc.refl [] s.H) _) (by simp) (fun x hx => by simp at hx ⊢; omega) (by simp) (cl_rP j6.cl (by simp))
    have hcl := hI0.pj.cl
    refine aloopQ (σ := PI) (fun t => ([(5, .a (.c (.sl 2 s.hp 0 s.ps.length))), (6, tI t.c), (9, .a (.c (.sl 2 t.hn 0 t.N.length))), (10, tI t.i)], t.H)) (fun t => PIJ xs s t) (fun t => s.ps.length - t.i) (⟨0, [], s.ps, s.H.length, s.H ++ [rP xs []], s.c⟩) (List.range (s.H ++ [rP xs []]).length) hI0 (wk_id (by simp) hcl (by simp [slId, get_cons, get_nil, TV.hs, AV.hs, C.hs, RS.slot, zipSlots] <;> omega)) ?_
    clear hI0 hcl
    rintro Q3 hQ3 ⟨i, N, R, hn, H, c⟩ ⟨i1, i2, i3, iv, i4, i5, i6, i7, i8, i9, i10⟩
    simp only at i1 i2 i3 iv i4 i5 i6 i7 i8 i9 i10
    have hcl := i9.cl
    have l0' := i9.list
    have hH0 := getlt l0'
    have hHp := getlt i6
    have hHn := getlt i7
    have hn0 : hn ≠ 0 := fun e => by rw [e, l0'] at i7; cases i7
    have hp0 : s.hp ≠ 0 := fun e => by rw [e, l0'] at i6; cases i6
    have hNo := rcl_one xs N
    have hNl := rcl_len xs N
    have hPl := rcl_len xs s.ps
    have e1 : (i : Int) + 1 = ((i + 1 : Nat) : Int) := by omega
    by_cases hc : i + 1 < s.ps.length
    · have hcd3 : decide (((i + 1 : Nat) : Int) < (s.ps.length : Int)) = true := decide_eq_true (by omega)
      obtain ⟨p, q, R', hR⟩ : ∃ p q R', R = p :: q :: R' := by
        match R, i3 with
        | [], h => simp at h; omega
        | [p], h => simp at h; omega
        | p :: q :: R', _ => exact ⟨p, q, R', rfl⟩
      subst hR
      have hpi : s.ps[i]? = some p := by
        have := congrArg (fun l => l[0]?) i2
        simpa using this.symm
      have hqi : s.ps[i + 1]? = some q := by
        have := congrArg (fun l => l[1]?) i2
        simpa using this.symm
      have gp := rcl_at (xs := xs) hpi
      have gq := rcl_at (xs := xs) hqi
      have bp := i10 p (by simp)
      have bq := i10 q (by simp)
      simp at i3 i4 i5
      have hi1 : i * 2 + 2 ≤ (rcl xs s.ps).length := by omega
      have hi2 : (i + 1) * 2 + 2 ≤ (rcl xs s.ps).length := by omega
      simp (dsimp := false) only [hcd3, e1, i6, gp, gq, hi1, hi2, List.length_append, List.length_set, List.length_cons, List.length_nil, List.take_succ_cons, List.take_zero, List.drop_zero, List.all_cons, List.all_nil, cellE_one, Nat.one_mul, Int.toNat_natCast, Int.toNat_zero, go_sem, Nat.reduceAdd, Nat.reduceBEq, Nat.reduceEqDiff, Nat.reduceLT, Nat.reduceLeDiff, reduceCtorEq, ↓reduceIte]
      repeat (refine And.intro (by first | exact True.intro | omega | kernel_rfl | (simp only [List.length_set, List.length_append, List.length_take, List.length_replicate, List.length_cons, true_and, and_true, List.length_nil, tabR_length]; omega)) ?_)
      refine And.intro ?_ ?_
      · --
        have y1 : SF [] H (H ++ [bP 0 (.v (.slice none 0 0))]) := (SF.refl _ H).app _
        have y2 : SF [] H ((H ++ [bP 0 (.v (.slice none 0 0))]) ++ [bP 0 (.v (.slice none 0 0))]) := y1.app _
        have y3 : ∀ r, SF [] H (((H ++ [bP 0 (.v (.slice none 0 0))]) ++ [bP 0 (.v (.slice none 0 0))]).set H.length r) := fun r => y2.set _ (.inr (by omega))
        have y4 : ∀ r r', SF [] H ((((H ++ [bP 0 (.v (.slice none 0 0))]) ++ [bP 0 (.v (.slice none 0 0))]).set H.length r).set (H.length + 1) r') := fun r r' => (y3 r).set _ (.inr (by omega))
        have y1' := y1.same
        have y2' := y2.same
        have y3' := fun r => (y3 r).same
        have y4' := fun r r' => (y4 r r').same
        have qa : ((H ++ [bP 0 (.v (.slice none 0 0))]) ++ [bP 0 (.v (.slice none 0 0))])[H.length]? = some (bP 0 (.v (.slice none 0 0))) := lkp (lkn _ _)
        have qb : ∀ r, (((H ++ [bP 0 (.v (.slice none 0 0))]) ++ [bP 0 (.v (.slice none 0 0))]).set H.length r)[(H.length + 1)]? = some (bP 0 (.v (.slice none 0 0))) := fun r => lks (lkn' (by simp)) (by omega)
        simp (dsimp := false) only [y1', y2', y3', y4', qa, qb, List.length_append, List.length_set, List.length_cons, List.length_nil, List.take_succ_cons, List.take_zero, List.drop_zero, List.all_cons, List.all_nil, cellE_one, Nat.one_mul, Int.toNat_natCast, Int.toNat_zero, go_sem, Nat.reduceAdd, Nat.reduceBEq, Nat.reduceEqDiff, Nat.reduceLT, Nat.reduceLeDiff, reduceCtorEq, ↓reduceIte]
        obtain ⟨H2, hH2⟩ : ∃ H2, H2 = (((H ++ [bP 0 (.v (.slice none 0 0))]) ++ [bP 0 (.v (.slice none 0 0))]).set H.length (bP (xs.getD p.1.1 0) (cellE p))).set (H.length + 1) (bP (xs.getD q.1.1 0) (cellE q)) := ⟨_, rfl⟩
        have l2 : H2.length = H.length + 2 := by rw [hH2]; simp
        have gA2 : H2[H.length]? = some (bP (xs.getD p.1.1 0) (cellE p)) := by rw [hH2]; exact lks (lkset (by simp)) (by omega)
        have gB2 : H2[(H.length + 1)]? = some (bP (xs.getD q.1.1 0) (cellE q)) := by rw [hH2]; exact lkset (by simp)
        have eB2 : Exc [] H H2 := by rw [hH2]; exact ((((Exc.refl [] H).app _).app _).new (by omega) _).new (by omega) _
        have hcl2 : Cl H2 := by
          rw [hH2]
          refine cl_set (cl_set (cl_app (cl_app hcl ?_) ?_) ?_) ?_
          · intro r hr h hh; simp at hr; subst hr; simp [Row.hs, Dat.hs, C.hs] at hh
          · intro r hr h hh; simp at hr; subst hr; simp [Row.hs, Dat.hs, C.hs] at hh
          · intro h hh; have := bP_hs i9.lj p (by simp) _ h hh; simp; omega
          · intro h hh; have := bP_hs i9.lj q (by simp) _ h hh; simp; omega
        simp only [← hH2]
        clear hH2
        repeat (refine And.intro (by first | exact True.intro | omega | kernel_rfl | (simp only [List.length_set, List.length_append, List.length_take, List.length_replicate, List.length_cons, true_and, and_true, List.length_nil, tabR_length]; omega)) ?_)
        by_cases hlt : xs.getD q.1.1 0 < xs.getD p.1.1 0
        · have dlt : decide (xs.getD q.1.1 0 < xs.getD p.1.1 0) = true := decide_eq_true hlt
          have hm : mch xs p.1 q.1 = (q.1.1, q.1.2 ++ [p.1.1]) := by rw [mch, if_pos hlt]
          have q3 : (H2.set H.length (bP (xs.getD q.1.1 0) (cellE q)))[(H.length + 1)]? = some (bP (xs.getD q.1.1 0) (cellE q)) := lks gB2 (by omega)
          obtain ⟨HB, hHB⟩ : ∃ HB, HB = (H2.set H.length (bP (xs.getD q.1.1 0) (cellE q))).set (H.length + 1) (bP (xs.getD p.1.1 0) (cellE p)) := ⟨_, rfl⟩
          have lB : HB.length = H.length + 2 := by rw [hHB]; simp [l2]
          have gA : HB[H.length]? = some (bP (xs.getD q.1.1 0) (cellE q)) := by rw [hHB]; exact lks (lkset (by omega)) (by omega)
          have gB : HB[(H.length + 1)]? = some (bP (xs.getD p.1.1 0) (cellE p)) := by rw [hHB]; exact lkset (by rw [List.length_set]; omega)
          have eB : Exc [] H HB := by rw [hHB]; exact (eB2.new (by omega) _).new (by omega) _
          have clB : Cl HB := by
            rw [hHB]
            refine cl_set (cl_set hcl2 ?_) ?_
            · intro h hh; have := bP_hs i9.lj q (by simp) _ h hh; omega
            · intro h hh; have := bP_hs i9.lj p (by simp) _ h hh; rw [List.length_set]; omega
          simp (dsimp := false) only [gA2, gB2, q3, dlt, List.length_append, List.length_set, List.length_cons, List.length_nil, List.take_succ_cons, List.take_zero, List.drop_zero, List.all_cons, List.all_nil, cellE_one, Nat.one_mul, Int.toNat_natCast, Int.toNat_zero, go_sem, Nat.reduceAdd, Nat.reduceBEq, Nat.reduceEqDiff, Nat.reduceLT, Nat.reduceLeDiff, reduceCtorEq, ↓reduceIte]
          simp only [← hHB]
          clear hHB
          by_cases hb : q.1.2 = []
          · --
            have hce : cellE q = .v (.slice none 0 0) := by rw [cellE, if_pos hb]
            have hnB : HB[hn]? = some (rP xs N) := eB _ _ i7 (by simp)
            refine WX_at [hn] ?_ ?_
            · simp [msOwn, hnB]
            have qn : (HB ++ [oI [xs.getD p.1.1 0]])[HB.length]? = some (oI [xs.getD p.1.1 0]) := lkn _ _
            obtain ⟨HC, hHC⟩ : ∃ HC, HC = ((HB ++ [oI [xs.getD p.1.1 0]]) ++ [oI [xs.getD p.1.1 0]]) := ⟨_, rfl⟩
            have f1 : SF [hn] HB (HB ++ [oI [xs.getD p.1.1 0]]) := (SF.refl _ HB).app _
            have f2 : SF [hn] HB HC := by rw [hHC]; exact f1.app _
            have f3 : SF [hn] HB (HC ++ [bP (xs.getD q.1.1 0) (cSl (HB.length + 1) 1)]) := f2.app _
            have f4 : ∀ r, SF [hn] HB ((HC ++ [bP (xs.getD q.1.1 0) (cSl (HB.length + 1) 1)]).set hn .dead ++ [r]) := fun r => (f3.set _ (by simp)).app _
            have s1 := f1.same
            have s2 := f2.same
            have s2' := f2.same
            rw [hHC] at s2'
            have s3 := f3.same
            have s4 := fun r => (f4 r).same
            have lC : HC.length = HB.length + 2 := by rw [hHC]; simp
            have hCn : HC[hn]? = some (rP xs N) := by rw [hHC]; exact lkp (lkp hnB)
            have hC1 : HC[HB.length + 1]? = some (oI [xs.getD p.1.1 0]) := by rw [hHC]; exact lkn' (by simp)
            have qN : (HC ++ [bP (xs.getD q.1.1 0) (cSl (HB.length + 1) 1)])[hn]? = some (rP xs N) := lkp hCn
            have qA : (HC ++ [bP (xs.getD q.1.1 0) (cSl (HB.length + 1) 1)])[HC.length]? = some (bP (xs.getD q.1.1 0) (cSl (HB.length + 1) 1)) := lkn _ _
            try simp (dsimp := false) only [gA, gB, hce, qn, s1, s2', ← hHC, List.length_append, List.length_set, List.length_cons, List.length_nil, List.take_succ_cons, List.take_zero, List.drop_zero, List.all_cons, List.all_nil, cellE_one, Nat.one_mul, Int.toNat_natCast, Int.toNat_zero, go_sem, Nat.reduceAdd, Nat.reduceBEq, Nat.reduceEqDiff, Nat.reduceLT, Nat.reduceLeDiff, reduceCtorEq, ↓reduceIte]
            try simp (dsimp := false) only [gA, gB, hce, qn, qN, qA, hNo, s1, s2, s2', s3, s4, ← hHC, List.length_append, List.length_set, List.length_cons, List.length_nil, List.take_succ_cons, List.take_zero, List.drop_zero, List.all_cons, List.all_nil, cellE_one, Nat.one_mul, Int.toNat_natCast, Int.toNat_zero, go_sem, Nat.reduceAdd, Nat.reduceBEq, Nat.reduceEqDiff, Nat.reduceLT, Nat.reduceLeDiff, reduceCtorEq, ↓reduceIte]
            have hcn : c ≤ 64 := by omega
            repeat (refine And.intro (by first | exact True.intro | omega | kernel_rfl | (simp only [List.length_set, List.length_append, List.length_take, List.length_replicate, List.length_cons, true_and, and_true, List.length_nil, tabR_length]; omega)) ?_)
            obtain ⟨w, hw⟩ : ∃ w : En, w = ((q.1.1, q.1.2 ++ [p.1.1]), HB.length + 1) := ⟨_, rfl⟩
            have hw1 : w.1 = mch xs p.1 q.1 := by rw [hw, hm]
            have hwi : w.1.1 = q.1.1 := by rw [hw]
            have hw2 : w.2 = HB.length + 1 := by rw [hw]
            have hce2 : cellE w = cSl (HB.length + 1) 1 := by rw [hw, cellE, if_neg (by simp)]; simp [hb]
            have er : rcl xs N ++ [.v (.int .i64 (xs.getD q.1.1 0)), cSl (HB.length + 1) 1] = rcl xs (N ++ [w]) := by rw [rcl_app]; simp [rcl, hce2, hwi]
            obtain ⟨HF, hHF⟩ : ∃ HF, HF = (HC ++ [bP (xs.getD q.1.1 0) (cSl (HB.length + 1) 1)]).set hn .dead ++ [rP xs (N ++ [w])] := ⟨_, rfl⟩
            have eBF : Exc [hn] HB HF := by rw [hHF, hHC]; exact ((((((Exc.refl [hn] HB).app _).app _).app _).set _ (by simp)).app _)
            have eF : Exc [hn] H HF := fun k r h hk => eBF k r (eB k r h (by simp)) hk
            have clC : Cl HC := by rw [hHC]; exact cl_oI (cl_oI clB)
            have hclF : Cl HF := by
              rw [hHF]
              refine cl_rP (cl_dead (cl_app clC fun r hr h hh => ?_)) fun e he hne => ?_
              · simp at hr; subst hr; simp [Row.hs, Dat.hs, C.hs] at hh; simp; omega
              · simp only [List.mem_append, List.mem_singleton] at he
                rw [List.length_set, List.length_append]
                rcases he with he | rfl
                · have := getlt (i9.lj.row e (by simp [he]) hne).1; omega
                · omega
            have lF : HF.length = H.length + 6 := by rw [hHF]; simp [lC, lB]
            have hrow : HF[w.2]? = some (oI (vals xs w.1.2)) := by
              rw [hw2, show vals xs w.1.2 = [xs.getD p.1.1 0] by rw [hw]; simp [vals, hb], hHF]
              exact lkp (lks (lkp hC1) (by omega))
            have hLJ := i9.lj.step (S' := [s.hp, HC.length + 1]) (w := w) eF (fun x hx => by
              simp only [List.mem_cons, List.not_mem_nil, or_false] at hx
              rcases hx with rfl
              exact .inl (by simp)) (fun x hx => by
              simp only [List.mem_cons, List.not_mem_nil, or_false] at hx
              rcases hx with rfl | rfl
              · exact .inl (by simp)
              · exact .inr (by omega)) (fun _ => hrow) (by omega) (by rw [hw2]; simp; omega)
            have hPJ : PJ xs [s.hp, HC.length + 1] HF (N ++ [w] ++ R') := ⟨hLJ, eF _ _ l0' (by simp; omega), hclF⟩
            rw [er, ← hHF]
            refine ⟨⟨i + 2, N ++ [w], R', HC.length + 1, HF, c + 1⟩, List.range HF.length, ⟨⟨?_, ?_, by show i + 2 + R'.length = s.ps.length; omega, by show (i + 2) % 2 = 0; omega, by show c + 1 + R'.length / 2 = _; omega, by show (N ++ [w]).length + R'.length ≤ _; simp; omega, eF _ _ i6 (by simp; omega), ?_, by show HC.length + 1 ≠ s.hp; omega, hPJ, ?_⟩, by show s.ps.length - (i + 2) < s.ps.length - i; omega⟩, wk_id (by omega) hclF (by simp [slId, get_cons, get_nil, TV.hs, AV.hs, C.hs, RS.slot, zipSlots] <;> omega)⟩
            · show prs (N ++ [w]) ++ rnd xs (prs R') = _
              rw [← i1, prs_app, List.append_assoc]
              show prs N ++ (w.1 :: rnd xs (prs R')) = prs N ++ rnd xs (p.1 :: q.1 :: prs R')
              rw [rnd_two, hw1]
            · show R' = s.ps.drop (i + 2)
              have := congrArg (List.drop 2) i2
              rw [List.drop_drop] at this
              exact this
            · show HF[HC.length + 1]? = _
              rw [hHF, lkn' (by simp)]
            · intro e he
              simp only [List.mem_append, List.mem_singleton] at he
              show e.1.2.length ≤ c + 1
              rcases he with (he | rfl) | he
              · have := i10 e (by simp [he]); omega
              · rw [hw]; simp; omega
              · have := i10 e (by simp [he]); omega
          · --
            have hce : cellE q = cSl q.2 q.1.2.length := by rw [cellE, if_neg hb]
            obtain ⟨hrw, hns⟩ := i9.lj.row q (by simp) hb
            have hrl := getlt hrw
            simp only [List.mem_cons, List.not_mem_nil, or_false, not_or] at hns
            obtain ⟨hnp, hnn⟩ := hns
            have hw0 : q.2 ≠ 0 := fun e => by rw [e, l0'] at hrw; cases hrw
            have hrB : HB[q.2]? = some (oI (vals xs q.1.2)) := eB _ _ hrw (by simp)
            have hbl : (vals xs q.1.2).length = q.1.2.length := vals_len _ _
            have qh : (HB ++ [oI [xs.getD p.1.1 0]])[q.2]? = some (oI (vals xs q.1.2)) := lkp hrB
            have hnB : HB[hn]? = some (rP xs N) := eB _ _ i7 (by simp)
            refine WX_at [q.2, hn] ?_ ?_
            · simp [msOwn, hnB, hrB]
            have qn : (HB ++ [oI [xs.getD p.1.1 0]])[HB.length]? = some (oI [xs.getD p.1.1 0]) := lkn _ _
            obtain ⟨HC, hHC⟩ : ∃ HC, HC = ((HB ++ [oI [xs.getD p.1.1 0]]).set q.2 .dead ++ [oI (vals xs q.1.2 ++ [xs.getD p.1.1 0])]) := ⟨_, rfl⟩
            have f1 : SF [q.2, hn] HB (HB ++ [oI [xs.getD p.1.1 0]]) := (SF.refl _ HB).app _
            have f2 : SF [q.2, hn] HB HC := by rw [hHC]; exact (f1.set _ (by simp)).app _
            have f3 : SF [q.2, hn] HB (HC ++ [bP (xs.getD q.1.1 0) (cSl (HB.length + 1) (q.1.2.length + 1))]) := f2.app _
            have f4 : ∀ r, SF [q.2, hn] HB ((HC ++ [bP (xs.getD q.1.1 0) (cSl (HB.length + 1) (q.1.2.length + 1))]).set hn .dead ++ [r]) := fun r => (f3.set _ (by simp)).app _
            have s1 := f1.same
            have s2 := f2.same
            have s2' := f2.same
            rw [hHC] at s2'
            have s3 := f3.same
            have s4 := fun r => (f4 r).same
            have lC : HC.length = HB.length + 2 := by rw [hHC]; simp
            have hCn : HC[hn]? = some (rP xs N) := by rw [hHC]; exact lkp (lks (lkp hnB) hnn)
            have hC1 : HC[HB.length + 1]? = some (oI (vals xs q.1.2 ++ [xs.getD p.1.1 0])) := by rw [hHC]; exact lkn' (by simp)
            have qN : (HC ++ [bP (xs.getD q.1.1 0) (cSl (HB.length + 1) (q.1.2.length + 1))])[hn]? = some (rP xs N) := lkp hCn
            have qA : (HC ++ [bP (xs.getD q.1.1 0) (cSl (HB.length + 1) (q.1.2.length + 1))])[HC.length]? = some (bP (xs.getD q.1.1 0) (cSl (HB.length + 1) (q.1.2.length + 1))) := lkn _ _
            try simp (dsimp := false) only [gA, gB, hce, qh, hbl, qn, s1, s2', ← hHC, List.length_append, List.length_set, List.length_cons, List.length_nil, List.take_succ_cons, List.take_zero, List.drop_zero, List.all_cons, List.all_nil, cellE_one, Nat.one_mul, Int.toNat_natCast, Int.toNat_zero, go_sem, Nat.reduceAdd, Nat.reduceBEq, Nat.reduceEqDiff, Nat.reduceLT, Nat.reduceLeDiff, reduceCtorEq, ↓reduceIte]
            try simp (dsimp := false) only [gA, gB, hce, qh, hbl, qn, qN, qA, hNo, s1, s2, s2', s3, s4, ← hHC, List.length_append, List.length_set, List.length_cons, List.length_nil, List.take_succ_cons, List.take_zero, List.drop_zero, List.all_cons, List.all_nil, cellE_one, Nat.one_mul, Int.toNat_natCast, Int.toNat_zero, go_sem, Nat.reduceAdd, Nat.reduceBEq, Nat.reduceEqDiff, Nat.reduceLT, Nat.reduceLeDiff, reduceCtorEq, ↓reduceIte]
            have hcn : c ≤ 64 := by omega
            repeat (refine And.intro (by first | exact True.intro | omega | kernel_rfl | (simp only [List.length_set, List.length_append, List.length_take, List.length_replicate, List.length_cons, true_and, and_true, List.length_nil, tabR_length]; omega)) ?_)
            obtain ⟨w, hw⟩ : ∃ w : En, w = ((q.1.1, q.1.2 ++ [p.1.1]), HB.length + 1) := ⟨_, rfl⟩
            have hw1 : w.1 = mch xs p.1 q.1 := by rw [hw, hm]
            have hwi : w.1.1 = q.1.1 := by rw [hw]
            have hw2 : w.2 = HB.length + 1 := by rw [hw]
            have hce2 : cellE w = cSl (HB.length + 1) (q.1.2.length + 1) := by rw [hw, cellE, if_neg (by simp)]; simp
            have er : rcl xs N ++ [.v (.int .i64 (xs.getD q.1.1 0)), cSl (HB.length + 1) (q.1.2.length + 1)] = rcl xs (N ++ [w]) := by rw [rcl_app]; simp [rcl, hce2, hwi]
            obtain ⟨HF, hHF⟩ : ∃ HF, HF = (HC ++ [bP (xs.getD q.1.1 0) (cSl (HB.length + 1) (q.1.2.length + 1))]).set hn .dead ++ [rP xs (N ++ [w])] := ⟨_, rfl⟩
            have eBF : Exc [q.2, hn] HB HF := by rw [hHF, hHC]; exact (((((((Exc.refl [q.2, hn] HB).app _).set _ (by simp)).app _).app _).set _ (by simp)).app _)
            have eF : Exc [q.2, hn] H HF := fun k r h hk => eBF k r (eB k r h (by simp)) hk
            have clC : Cl HC := by rw [hHC]; exact cl_oI (cl_dead (cl_oI clB))
            have hclF : Cl HF := by
              rw [hHF]
              refine cl_rP (cl_dead (cl_app clC fun r hr h hh => ?_)) fun e he hne => ?_
              · simp at hr; subst hr; simp [Row.hs, Dat.hs, C.hs] at hh; simp; omega
              · simp only [List.mem_append, List.mem_singleton] at he
                rw [List.length_set, List.length_append]
                rcases he with he | rfl
                · have := getlt (i9.lj.row e (by simp [he]) hne).1; omega
                · omega
            have lF : HF.length = H.length + 6 := by rw [hHF]; simp [lC, lB]
            have hrow : HF[w.2]? = some (oI (vals xs w.1.2)) := by
              rw [hw2, show vals xs w.1.2 = (vals xs q.1.2 ++ [xs.getD p.1.1 0]) by rw [hw]; simp [vals], hHF]
              exact lkp (lks (lkp hC1) (by omega))
            have hLJ := i9.lj.step (S' := [s.hp, HC.length + 1]) (w := w) eF (fun x hx => by
              simp only [List.mem_cons, List.not_mem_nil, or_false] at hx
              rcases hx with rfl | rfl
              · exact .inr (.inr ⟨rfl, hb⟩)
              · exact .inl (by simp)) (fun x hx => by
              simp only [List.mem_cons, List.not_mem_nil, or_false] at hx
              rcases hx with rfl | rfl
              · exact .inl (by simp)
              · exact .inr (by omega)) (fun _ => hrow) (by omega) (by rw [hw2]; simp; omega)
            have hPJ : PJ xs [s.hp, HC.length + 1] HF (N ++ [w] ++ R') := ⟨hLJ, eF _ _ l0' (by simp; omega), hclF⟩
            rw [er, ← hHF]
            refine ⟨⟨i + 2, N ++ [w], R', HC.length + 1, HF, c + 1⟩, List.range HF.length, ⟨⟨?_, ?_, by show i + 2 + R'.length = s.ps.length; omega, by show (i + 2) % 2 = 0; omega, by show c + 1 + R'.length / 2 = _; omega, by show (N ++ [w]).length + R'.length ≤ _; simp; omega, eF _ _ i6 (by simp; omega), ?_, by show HC.length + 1 ≠ s.hp; omega, hPJ, ?_⟩, by show s.ps.length - (i + 2) < s.ps.length - i; omega⟩, wk_id (by omega) hclF (by simp [slId, get_cons, get_nil, TV.hs, AV.hs, C.hs, RS.slot, zipSlots] <;> omega)⟩
            · show prs (N ++ [w]) ++ rnd xs (prs R') = _
              rw [← i1, prs_app, List.append_assoc]
              show prs N ++ (w.1 :: rnd xs (prs R')) = prs N ++ rnd xs (p.1 :: q.1 :: prs R')
              rw [rnd_two, hw1]
            · show R' = s.ps.drop (i + 2)
              have := congrArg (List.drop 2) i2
              rw [List.drop_drop] at this
              exact this
            · show HF[HC.length + 1]? = _
              rw [hHF, lkn' (by simp)]
            · intro e he
              simp only [List.mem_append, List.mem_singleton] at he
              show e.1.2.length ≤ c + 1
              rcases he with (he | rfl) | he
              · have := i10 e (by simp [he]); omega
              · rw [hw]; simp; omega
              · have := i10 e (by simp [he]); omega
        · have dlt : decide (xs.getD q.1.1 0 < xs.getD p.1.1 0) = false := decide_eq_false hlt
          have hm : mch xs p.1 q.1 = (p.1.1, p.1.2 ++ [q.1.1]) := by rw [mch, if_neg hlt]
          obtain ⟨HB, hHB⟩ : ∃ HB, HB = H2 := ⟨_, rfl⟩
          rw [← hHB] at gA2 gB2 eB2 hcl2 l2
          have lB := l2
          have gA := gA2
          have gB := gB2
          have eB := eB2
          have clB := hcl2
          simp (dsimp := false) only [gA2, gB2, dlt, ← hHB, List.length_append, List.length_set, List.length_cons, List.length_nil, List.take_succ_cons, List.take_zero, List.drop_zero, List.all_cons, List.all_nil, cellE_one, Nat.one_mul, Int.toNat_natCast, Int.toNat_zero, go_sem, Nat.reduceAdd, Nat.reduceBEq, Nat.reduceEqDiff, Nat.reduceLT, Nat.reduceLeDiff, reduceCtorEq, ↓reduceIte]
          clear hHB
          by_cases hb : p.1.2 = []
          · --
            have hce : cellE p = .v (.slice none 0 0) := by rw [cellE, if_pos hb]
            have hnB : HB[hn]? = some (rP xs N) := eB _ _ i7 (by simp)
            refine WX_at [hn] ?_ ?_
            · simp [msOwn, hnB]
            have qn : (HB ++ [oI [xs.getD q.1.1 0]])[HB.length]? = some (oI [xs.getD q.1.1 0]) := lkn _ _
            obtain ⟨HC, hHC⟩ : ∃ HC, HC = ((HB ++ [oI [xs.getD q.1.1 0]]) ++ [oI [xs.getD q.1.1 0]]) := ⟨_, rfl⟩
            have f1 : SF [hn] HB (HB ++ [oI [xs.getD q.1.1 0]]) := (SF.refl _ HB).app _
            have f2 : SF [hn] HB HC := by rw [hHC]; exact f1.app _
            have f3 : SF [hn] HB (HC ++ [bP (xs.getD p.1.1 0) (cSl (HB.length + 1) 1)]) := f2.app _
            have f4 : ∀ r, SF [hn] HB ((HC ++ [bP (xs.getD p.1.1 0) (cSl (HB.length + 1) 1)]).set hn .dead ++ [r]) := fun r => (f3.set _ (by simp)).app _
            have s1 := f1.same
            have s2 := f2.same
            have s2' := f2.same
            rw [hHC] at s2'
            have s3 := f3.same
            have s4 := fun r => (f4 r).same
            have lC : HC.length = HB.length + 2 := by rw [hHC]; simp
            have hCn : HC[hn]? = some (rP xs N) := by rw [hHC]; exact lkp (lkp hnB)
            have hC1 : HC[HB.length + 1]? = some (oI [xs.getD q.1.1 0]) := by rw [hHC]; exact lkn' (by simp)
            have qN : (HC ++ [bP (xs.getD p.1.1 0) (cSl (HB.length + 1) 1)])[hn]? = some (rP xs N) := lkp hCn
            have qA : (HC ++ [bP (xs.getD p.1.1 0) (cSl (HB.length + 1) 1)])[HC.length]? = some (bP (xs.getD p.1.1 0) (cSl (HB.length + 1) 1)) := lkn _ _
            try simp (dsimp := false) only [gA, gB, hce, qn, s1, s2', ← hHC, List.length_append, List.length_set, List.length_cons, List.length_nil, List.take_succ_cons, List.take_zero, List.drop_zero, List.all_cons, List.all_nil, cellE_one, Nat.one_mul, Int.toNat_natCast, Int.toNat_zero, go_sem, Nat.reduceAdd, Nat.reduceBEq, Nat.reduceEqDiff, Nat.reduceLT, Nat.reduceLeDiff, reduceCtorEq, ↓reduceIte]
            try simp (dsimp := false) only [gA, gB, hce, qn, qN, qA, hNo, s1, s2, s2', s3, s4, ← hHC, List.length_append, List.length_set, List.length_cons, List.length_nil, List.take_succ_cons, List.take_zero, List.drop_zero, List.all_cons, List.all_nil, cellE_one, Nat.one_mul, Int.toNat_natCast, Int.toNat_zero, go_sem, Nat.reduceAdd, Nat.reduceBEq, Nat.reduceEqDiff, Nat.reduceLT, Nat.reduceLeDiff, reduceCtorEq, ↓reduceIte]
            have hcn : c ≤ 64 := by omega
            repeat (refine And.intro (by first | exact True.intro | omega | kernel_rfl | (simp only [List.length_set, List.length_append, List.length_take, List.length_replicate, List.length_cons, true_and, and_true, List.length_nil, tabR_length]; omega)) ?_)
            obtain ⟨w, hw⟩ : ∃ w : En, w = ((p.1.1, p.1.2 ++ [q.1.1]), HB.length + 1) := ⟨_, rfl⟩
            have hw1 : w.1 = mch xs p.1 q.1 := by rw [hw, hm]
            have hwi : w.1.1 = p.1.1 := by rw [hw]
            have hw2 : w.2 = HB.length + 1 := by rw [hw]
            have hce2 : cellE w = cSl (HB.length + 1) 1 := by rw [hw, cellE, if_neg (by simp)]; simp [hb]
            have er : rcl xs N ++ [.v (.int .i64 (xs.getD p.1.1 0)), cSl (HB.length + 1) 1] = rcl xs (N ++ [w]) := by rw [rcl_app]; simp [rcl, hce2, hwi]
            obtain ⟨HF, hHF⟩ : ∃ HF, HF = (HC ++ [bP (xs.getD p.1.1 0) (cSl (HB.length + 1) 1)]).set hn .dead ++ [rP xs (N ++ [w])] := ⟨_, rfl⟩
            have eBF : Exc [hn] HB HF := by rw [hHF, hHC]; exact ((((((Exc.refl [hn] HB).app _).app _).app _).set _ (by simp)).app _)
            have eF : Exc [hn] H HF := fun k r h hk => eBF k r (eB k r h (by simp)) hk
            have clC : Cl HC := by rw [hHC]; exact cl_oI (cl_oI clB)
            have hclF : Cl HF := by
              rw [hHF]
              refine cl_rP (cl_dead (cl_app clC fun r hr h hh => ?_)) fun e he hne => ?_
              · simp at hr; subst hr; simp [Row.hs, Dat.hs, C.hs] at hh; simp; omega
              · simp only [List.mem_append, List.mem_singleton] at he
                rw [List.length_set, List.length_append]
                rcases he with he | rfl
                · have := getlt (i9.lj.row e (by simp [he]) hne).1; omega
                · omega
            have lF : HF.length = H.length + 6 := by rw [hHF]; simp [lC, lB]
            have hrow : HF[w.2]? = some (oI (vals xs w.1.2)) := by
              rw [hw2, show vals xs w.1.2 = [xs.getD q.1.1 0] by rw [hw]; simp [vals, hb], hHF]
              exact lkp (lks (lkp hC1) (by omega))
            have hLJ := i9.lj.step (S' := [s.hp, HC.length + 1]) (w := w) eF (fun x hx => by
              simp only [List.mem_cons, List.not_mem_nil, or_false] at hx
              rcases hx with rfl
              exact .inl (by simp)) (fun x hx => by
              simp only [List.mem_cons, List.not_mem_nil, or_false] at hx
              rcases hx with rfl | rfl
              · exact .inl (by simp)
              · exact .inr (by omega)) (fun _ => hrow) (by omega) (by rw [hw2]; simp; omega)
            have hPJ : PJ xs [s.hp, HC.length + 1] HF (N ++ [w] ++ R') := ⟨hLJ, eF _ _ l0' (by simp; omega), hclF⟩
            rw [er, ← hHF]
            refine ⟨⟨i + 2, N ++ [w], R', HC.length + 1, HF, c + 1⟩, List.range HF.length, ⟨⟨?_, ?_, by show i + 2 + R'.length = s.ps.length; omega, by show (i + 2) % 2 = 0; omega, by show c + 1 + R'.length / 2 = _; omega, by show (N ++ [w]).length + R'.length ≤ _; simp; omega, eF _ _ i6 (by simp; omega), ?_, by show HC.length + 1 ≠ s.hp; omega, hPJ, ?_⟩, by show s.ps.length - (i + 2) < s.ps.length - i; omega⟩, wk_id (by omega) hclF (by simp [slId, get_cons, get_nil, TV.hs, AV.hs, C.hs, RS.slot, zipSlots] <;> omega)⟩
            · show prs (N ++ [w]) ++ rnd xs (prs R') = _
              rw [← i1, prs_app, List.append_assoc]
              show prs N ++ (w.1 :: rnd xs (prs R')) = prs N ++ rnd xs (p.1 :: q.1 :: prs R')
              rw [rnd_two, hw1]
            · show R' = s.ps.drop (i + 2)
              have := congrArg (List.drop 2) i2
              rw [List.drop_drop] at this
              exact this
            · show HF[HC.length + 1]? = _
              rw [hHF, lkn' (by simp)]
            · intro e he
              simp only [List.mem_append, List.mem_singleton] at he
              show e.1.2.length ≤ c + 1
              rcases he with (he | rfl) | he
              · have := i10 e (by simp [he]); omega
              · rw [hw]; simp; omega
              · have := i10 e (by simp [he]); omega
          · --
            have hce : cellE p = cSl p.2 p.1.2.length := by rw [cellE, if_neg hb]
            obtain ⟨hrw, hns⟩ := i9.lj.row p (by simp) hb
            have hrl := getlt hrw
            simp only [List.mem_cons, List.not_mem_nil, or_false, not_or] at hns
            obtain ⟨hnp, hnn⟩ := hns
            have hw0 : p.2 ≠ 0 := fun e => by rw [e, l0'] at hrw; cases hrw
            have hrB : HB[p.2]? = some (oI (vals xs p.1.2)) := eB _ _ hrw (by simp)
            have hbl : (vals xs p.1.2).length = p.1.2.length := vals_len _ _
            have qh : (HB ++ [oI [xs.getD q.1.1 0]])[p.2]? = some (oI (vals xs p.1.2)) := lkp hrB
            have hnB : HB[hn]? = some (rP xs N) := eB _ _ i7 (by simp)
            refine WX_at [p.2, hn] ?_ ?_
            · simp [msOwn, hnB, hrB]
            have qn : (HB ++ [oI [xs.getD q.1.1 0]])[HB.length]? = some (oI [xs.getD q.1.1 0]) := lkn _ _
            obtain ⟨HC, hHC⟩ : ∃ HC, HC = ((HB ++ [oI [xs.getD q.1.1 0]]).set p.2 .dead ++ [oI (vals xs p.1.2 ++ [xs.getD q.1.1 0])]) := ⟨_, rfl⟩
            have f1 : SF [p.2, hn] HB (HB ++ [oI [xs.getD q.1.1 0]]) := (SF.refl _ HB).app _
            have f2 : SF [p.2, hn] HB HC := by rw [hHC]; exact (f1.set _ (by simp)).app _
            have f3 : SF [p.2, hn] HB (HC ++ [bP (xs.getD p.1.1 0) (cSl (HB.length + 1) (p.1.2.length + 1))]) := f2.app _
            have f4 : ∀ r, SF [p.2, hn] HB ((HC ++ [bP (xs.getD p.1.1 0) (cSl (HB.length + 1) (p.1.2.length + 1))]).set hn .dead ++ [r]) := fun r => (f3.set _ (by simp)).app _
            have s1 := f1.same
            have s2 := f2.same
            have s2' := f2.same
            rw [hHC] at s2'
            have s3 := f3.same
            have s4 := fun r => (f4 r).same
            have lC : HC.length = HB.length + 2 := by rw [hHC]; simp
            have hCn : HC[hn]? = some (rP xs N) := by rw [hHC]; exact lkp (lks (lkp hnB) hnn)
            have hC1 : HC[HB.length + 1]? = some (oI (vals xs p.1.2 ++ [xs.getD q.1.1 0])) := by rw [hHC]; exact lkn' (by simp)
            have qN : (HC ++ [bP (xs.getD p.1.1 0) (cSl (HB.length + 1) (p.1.2.length + 1))])[hn]? = some (rP xs N) := lkp hCn
            have qA : (HC ++ [bP (xs.getD p.1.1 0) (cSl (HB.length + 1) (p.1.2.length + 1))])[HC.length]? = some (bP (xs.getD p.1.1 0) (cSl (HB.length + 1) (p.1.2.length + 1))) := lkn _ _
            try simp (dsimp := false) only [gA, gB, hce, qh, hbl, qn, s1, s2', ← hHC, List.length_append, List.length_set, List.length_cons, List.length_nil, List.take_succ_cons, List.take_zero, List.drop_zero, List.all_cons, List.all_nil, cellE_one, Nat.one_mul, Int.toNat_natCast, Int.toNat_zero, go_sem, Nat.reduceAdd, Nat.reduceBEq, Nat.reduceEqDiff, Nat.reduceLT, Nat.reduceLeDiff, reduceCtorEq, ↓reduceIte]
            try simp (dsimp := false) only [gA, gB, hce, qh, hbl, qn, qN, qA, hNo, s1, s2, s2', s3, s4, ← hHC, List.length_append, List.length_set, List.length_cons, List.length_nil, List.take_succ_cons, List.take_zero, List.drop_zero, List.all_cons, List.all_nil, cellE_one, Nat.one_mul, Int.toNat_natCast, Int.toNat_zero, go_sem, Nat.reduceAdd, Nat.reduceBEq, Nat.reduceEqDiff, Nat.reduceLT, Nat.reduceLeDiff, reduceCtorEq, ↓reduceIte]
            have hcn : c ≤ 64 := by omega
            repeat (refine And.intro (by first | exact True.intro | omega | kernel_rfl | (simp only [List.length_set, List.length_append, List.length_take, List.length_replicate, List.length_cons, true_and, and_true, List.length_nil, tabR_length]; omega)) ?_)
            obtain ⟨w, hw⟩ : ∃ w : En, w = ((p.1.1, p.1.2 ++ [q.1.1]), HB.length + 1) := ⟨_, rfl⟩
            have hw1 : w.1 = mch xs p.1 q.1 := by rw [hw, hm]
            have hwi : w.1.1 = p.1.1 := by rw [hw]
            have hw2 : w.2 = HB.length + 1 := by rw [hw]
            have hce2 : cellE w = cSl (HB.length + 1) (p.1.2.length + 1) := by rw [hw, cellE, if_neg (by simp)]; simp
            have er : rcl xs N ++ [.v (.int .i64 (xs.getD p.1.1 0)), cSl (HB.length + 1) (p.1.2.length + 1)] = rcl xs (N ++ [w]) := by rw [rcl_app]; simp [rcl, hce2, hwi]
            obtain ⟨HF, hHF⟩ : ∃ HF, HF = (HC ++ [bP (xs.getD p.1.1 0) (cSl (HB.length + 1) (p.1.2.length + 1))]).set hn .dead ++ [rP xs (N ++ [w])] := ⟨_, rfl⟩
            have eBF : Exc [p.2, hn] HB HF := by rw [hHF, hHC]; exact (((((((Exc.refl [p.2, hn] HB).app _).set _ (by simp)).app _).app _).set _ (by simp)).app _)
            have eF : Exc [p.2, hn] H HF := fun k r h hk => eBF k r (eB k r h (by simp)) hk
            have clC : Cl HC := by rw [hHC]; exact cl_oI (cl_dead (cl_oI clB))
            have hclF : Cl HF := by
              rw [hHF]
              refine cl_rP (cl_dead (cl_app clC fun r hr h hh => ?_)) fun e he hne => ?_
              · simp at hr; subst hr; simp [Row.hs, Dat.hs, C.hs] at hh; simp; omega
              · simp only [List.mem_append, List.mem_singleton] at he
                rw [List.length_set, List.length_append]
                rcases he with he | rfl
                · have := getlt (i9.lj.row e (by simp [he]) hne).1; omega
                · omega
            have lF : HF.length = H.length + 6 := by rw [hHF]; simp [lC, lB]
            have hrow : HF[w.2]? = some (oI (vals xs w.1.2)) := by
              rw [hw2, show vals xs w.1.2 = (vals xs p.1.2 ++ [xs.getD q.1.1 0]) by rw [hw]; simp [vals], hHF]
              exact lkp (lks (lkp hC1) (by omega))
            have hLJ := i9.lj.step (S' := [s.hp, HC.length + 1]) (w := w) eF (fun x hx => by
              simp only [List.mem_cons, List.not_mem_nil, or_false] at hx
              rcases hx with rfl | rfl
              · exact .inr (.inl ⟨rfl, hb⟩)
              · exact .inl (by simp)) (fun x hx => by
              simp only [List.mem_cons, List.not_mem_nil, or_false] at hx
              rcases hx with rfl | rfl
              · exact .inl (by simp)
              · exact .inr (by omega)) (fun _ => hrow) (by omega) (by rw [hw2]; simp; omega)
            have hPJ : PJ xs [s.hp, HC.length + 1] HF (N ++ [w] ++ R') := ⟨hLJ, eF _ _ l0' (by simp; omega), hclF⟩
            rw [er, ← hHF]
            refine ⟨⟨i + 2, N ++ [w], R', HC.length + 1, HF, c + 1⟩, List.range HF.length, ⟨⟨?_, ?_, by show i + 2 + R'.length = s.ps.length; omega, by show (i + 2) % 2 = 0; omega, by show c + 1 + R'.length / 2 = _; omega, by show (N ++ [w]).length + R'.length ≤ _; simp; omega, eF _ _ i6 (by simp; omega), ?_, by show HC.length + 1 ≠ s.hp; omega, hPJ, ?_⟩, by show s.ps.length - (i + 2) < s.ps.length - i; omega⟩, wk_id (by omega) hclF (by simp [slId, get_cons, get_nil, TV.hs, AV.hs, C.hs, RS.slot, zipSlots] <;> omega)⟩
            · show prs (N ++ [w]) ++ rnd xs (prs R') = _
              rw [← i1, prs_app, List.append_assoc]
              show prs N ++ (w.1 :: rnd xs (prs R')) = prs N ++ rnd xs (p.1 :: q.1 :: prs R')
              rw [rnd_two, hw1]
            · show R' = s.ps.drop (i + 2)
              have := congrArg (List.drop 2) i2
              rw [List.drop_drop] at this
              exact this
            · show HF[HC.length + 1]? = _
              rw [hHF, lkn' (by simp)]
            · intro e he
              simp only [List.mem_append, List.mem_singleton] at he
              show e.1.2.length ≤ c + 1
              rcases he with (he | rfl) | he
              · have := i10 e (by simp [he]); omega
              · rw [hw]; simp; omega
              · have := i10 e (by simp [he]); omega
      · --
        have y1 : SF [] H (H ++ [bP 0 (.v (.slice none 0 0))]) := (SF.refl _ H).app _
        have y2 : SF [] H ((H ++ [bP 0 (.v (.slice none 0 0))]) ++ [bP 0 (.v (.slice none 0 0))]) := y1.app _
        have y3 : ∀ r, SF [] H (((H ++ [bP 0 (.v (.slice none 0 0))]) ++ [bP 0 (.v (.slice none 0 0))]).set (H.length + 1) r) := fun r => y2.set _ (.inr (by omega))
        have y4 : ∀ r r', SF [] H ((((H ++ [bP 0 (.v (.slice none 0 0))]) ++ [bP 0 (.v (.slice none 0 0))]).set (H.length + 1) r).set H.length r') := fun r r' => (y3 r).set _ (.inr (by omega))
        have y1' := y1.same
        have y2' := y2.same
        have y3' := fun r => (y3 r).same
        have y4' := fun r r' => (y4 r r').same
        have qa : ((H ++ [bP 0 (.v (.slice none 0 0))]) ++ [bP 0 (.v (.slice none 0 0))])[(H.length + 1)]? = some (bP 0 (.v (.slice none 0 0))) := lkn' (by simp)
        have qb : ∀ r, (((H ++ [bP 0 (.v (.slice none 0 0))]) ++ [bP 0 (.v (.slice none 0 0))]).set (H.length + 1) r)[H.length]? = some (bP 0 (.v (.slice none 0 0))) := fun r => lks (lkp (lkn _ _)) (by omega)
        simp (dsimp := false) only [y1', y2', y3', y4', qa, qb, List.length_append, List.length_set, List.length_cons, List.length_nil, List.take_succ_cons, List.take_zero, List.drop_zero, List.all_cons, List.all_nil, cellE_one, Nat.one_mul, Int.toNat_natCast, Int.toNat_zero, go_sem, Nat.reduceAdd, Nat.reduceBEq, Nat.reduceEqDiff, Nat.reduceLT, Nat.reduceLeDiff, reduceCtorEq, ↓reduceIte]
        obtain ⟨H2, hH2⟩ : ∃ H2, H2 = (((H ++ [bP 0 (.v (.slice none 0 0))]) ++ [bP 0 (.v (.slice none 0 0))]).set (H.length + 1) (bP (xs.getD p.1.1 0) (cellE p))).set H.length (bP (xs.getD q.1.1 0) (cellE q)) := ⟨_, rfl⟩
        have l2 : H2.length = H.length + 2 := by rw [hH2]; simp
        have gA2 : H2[(H.length + 1)]? = some (bP (xs.getD p.1.1 0) (cellE p)) := by rw [hH2]; exact lks (lkset (by simp)) (by omega)
        have gB2 : H2[H.length]? = some (bP (xs.getD q.1.1 0) (cellE q)) := by rw [hH2]; exact lkset (by simp)
        have eB2 : Exc [] H H2 := by rw [hH2]; exact ((((Exc.refl [] H).app _).app _).new (by omega) _).new (by omega) _
        have hcl2 : Cl H2 := by
          rw [hH2]
          refine cl_set (cl_set (cl_app (cl_app hcl ?_) ?_) ?_) ?_
          · intro r hr h hh; simp at hr; subst hr; simp [Row.hs, Dat.hs, C.hs] at hh
          · intro r hr h hh; simp at hr; subst hr; simp [Row.hs, Dat.hs, C.hs] at hh
          · intro h hh; have := bP_hs i9.lj p (by simp) _ h hh; simp; omega
          · intro h hh; have := bP_hs i9.lj q (by simp) _ h hh; simp; omega
        simp only [← hH2]
        clear hH2
        repeat (refine And.intro (by first | exact True.intro | omega | kernel_rfl | (simp only [List.length_set, List.length_append, List.length_take, List.length_replicate, List.length_cons, true_and, and_true, List.length_nil, tabR_length]; omega)) ?_)
        by_cases hlt : xs.getD q.1.1 0 < xs.getD p.1.1 0
        · have dlt : decide (xs.getD q.1.1 0 < xs.getD p.1.1 0) = true := decide_eq_true hlt
          have hm : mch xs p.1 q.1 = (q.1.1, q.1.2 ++ [p.1.1]) := by rw [mch, if_pos hlt]
          have q3 : (H2.set (H.length + 1) (bP (xs.getD q.1.1 0) (cellE q)))[H.length]? = some (bP (xs.getD q.1.1 0) (cellE q)) := lks gB2 (by omega)
          obtain ⟨HB, hHB⟩ : ∃ HB, HB = (H2.set (H.length + 1) (bP (xs.getD q.1.1 0) (cellE q))).set H.length (bP (xs.getD p.1.1 0) (cellE p)) := ⟨_, rfl⟩
          have lB : HB.length = H.length + 2 := by rw [hHB]; simp [l2]
          have gA : HB[(H.length + 1)]? = some (bP (xs.getD q.1.1 0) (cellE q)) := by rw [hHB]; exact lks (lkset (by omega)) (by omega)
          have gB : HB[H.length]? = some (bP (xs.getD p.1.1 0) (cellE p)) := by rw [hHB]; exact lkset (by rw [List.length_set]; omega)
          have eB : Exc [] H HB := by rw [hHB]; exact (eB2.new (by omega) _).new (by omega) _
          have clB : Cl HB := by
            rw [hHB]
            refine cl_set (cl_set hcl2 ?_) ?_
            · intro h hh; have := bP_hs i9.lj q (by simp) _ h hh; omega
            · intro h hh; have := bP_hs i9.lj p (by simp) _ h hh; rw [List.length_set]; omega
          simp (dsimp := false) only [gA2, gB2, q3, dlt, List.length_append, List.length_set, List.length_cons, List.length_nil, List.take_succ_cons, List.take_zero, List.drop_zero, List.all_cons, List.all_nil, cellE_one, Nat.one_mul, Int.toNat_natCast, Int.toNat_zero, go_sem, Nat.reduceAdd, Nat.reduceBEq, Nat.reduceEqDiff, Nat.reduceLT, Nat.reduceLeDiff, reduceCtorEq, ↓reduceIte]
          simp only [← hHB]
          clear hHB
          by_cases hb : q.1.2 = []
          · --
            have hce : cellE q = .v (.slice none 0 0) := by rw [cellE, if_pos hb]
            have hnB : HB[hn]? = some (rP xs N) := eB _ _ i7 (by simp)
            refine WX_at [hn] ?_ ?_
            · simp [msOwn, hnB]
            have qn : (HB ++ [oI [xs.getD p.1.1 0]])[HB.length]? = some (oI [xs.getD p.1.1 0]) := lkn _ _
            obtain ⟨HC, hHC⟩ : ∃ HC, HC = ((HB ++ [oI [xs.getD p.1.1 0]]) ++ [oI [xs.getD p.1.1 0]]) := ⟨_, rfl⟩
            have f1 : SF [hn] HB (HB ++ [oI [xs.getD p.1.1 0]]) := (SF.refl _ HB).app _
            have f2 : SF [hn] HB HC := by rw [hHC]; exact f1.app _
            have f3 : SF [hn] HB (HC ++ [bP (xs.getD q.1.1 0) (cSl (HB.length + 1) 1)]) := f2.app _
            have f4 : ∀ r, SF [hn] HB ((HC ++ [bP (xs.getD q.1.1 0) (cSl (HB.length + 1) 1)]).set hn .dead ++ [r]) := fun r => (f3.set _ (by simp)).app _
            have s1 := f1.same
            have s2 := f2.same
            have s2' := f2.same
            rw [hHC] at s2'
            have s3 := f3.same
            have s4 := fun r => (f4 r).same
            have lC : HC.length = HB.length + 2 := by rw [hHC]; simp
            have hCn : HC[hn]? = some (rP xs N) := by rw [hHC]; exact lkp (lkp hnB)
            have hC1 : HC[HB.length + 1]? = some (oI [xs.getD p.1.1 0]) := by rw [hHC]; exact lkn' (by simp)
            have qN : (HC ++ [bP (xs.getD q.1.1 0) (cSl (HB.length + 1) 1)])[hn]? = some (rP xs N) := lkp hCn
            have qA : (HC ++ [bP (xs.getD q.1.1 0) (cSl (HB.length + 1) 1)])[HC.length]? = some (bP (xs.getD q.1.1 0) (cSl (HB.length + 1) 1)) := lkn _ _
            try simp (dsimp := false) only [gA, gB, hce, qn, s1, s2', ← hHC, List.length_append, List.length_set, List.length_cons, List.length_nil, List.take_succ_cons, List.take_zero, List.drop_zero, List.all_cons, List.all_nil, cellE_one, Nat.one_mul, Int.toNat_natCast, Int.toNat_zero, go_sem, Nat.reduceAdd, Nat.reduceBEq, Nat.reduceEqDiff, Nat.reduceLT, Nat.reduceLeDiff, reduceCtorEq, ↓reduceIte]
            try simp (dsimp := false) only [gA, gB, hce, qn, qN, qA, hNo, s1, s2, s2', s3, s4, ← hHC, List.length_append, List.length_set, List.length_cons, List.length_nil, List.take_succ_cons, List.take_zero, List.drop_zero, List.all_cons, List.all_nil, cellE_one, Nat.one_mul, Int.toNat_natCast, Int.toNat_zero, go_sem, Nat.reduceAdd, Nat.reduceBEq, Nat.reduceEqDiff, Nat.reduceLT, Nat.reduceLeDiff, reduceCtorEq, ↓reduceIte]
            have hcn : c ≤ 64 := by omega
            repeat (refine And.intro (by first | exact True.intro | omega | kernel_rfl | (simp only [List.length_set, List.length_append, List.length_take, List.length_replicate, List.length_cons, true_and, and_true, List.length_nil, tabR_length]; omega)) ?_)
            obtain ⟨w, hw⟩ : ∃ w : En, w = ((q.1.1, q.1.2 ++ [p.1.1]), HB.length + 1) := ⟨_, rfl⟩
            have hw1 : w.1 = mch xs p.1 q.1 := by rw [hw, hm]
            have hwi : w.1.1 = q.1.1 := by rw [hw]
            have hw2 : w.2 = HB.length + 1 := by rw [hw]
            have hce2 : cellE w = cSl (HB.length + 1) 1 := by rw [hw, cellE, if_neg (by simp)]; simp [hb]
            have er : rcl xs N ++ [.v (.int .i64 (xs.getD q.1.1 0)), cSl (HB.length + 1) 1] = rcl xs (N ++ [w]) := by rw [rcl_app]; simp [rcl, hce2, hwi]
            obtain ⟨HF, hHF⟩ : ∃ HF, HF = (HC ++ [bP (xs.getD q.1.1 0) (cSl (HB.length + 1) 1)]).set hn .dead ++ [rP xs (N ++ [w])] := ⟨_, rfl⟩
            have eBF : Exc [hn] HB HF := by rw [hHF, hHC]; exact ((((((Exc.refl [hn] HB).app _).app _).app _).set _ (by simp)).app _)
            have eF : Exc [hn] H HF := fun k r h hk => eBF k r (eB k r h (by simp)) hk
            have clC : Cl HC := by rw [hHC]; exact cl_oI (cl_oI clB)
            have hclF : Cl HF := by
              rw [hHF]
              refine cl_rP (cl_dead (cl_app clC fun r hr h hh => ?_)) fun e he hne => ?_
              · simp at hr; subst hr; simp [Row.hs, Dat.hs, C.hs] at hh; simp; omega
              · simp only [List.mem_append, List.mem_singleton] at he
                rw [List.length_set, List.length_append]
                rcases he with he | rfl
                · have := getlt (i9.lj.row e (by simp [he]) hne).1; omega
                · omega
            have lF : HF.length = H.length + 6 := by rw [hHF]; simp [lC, lB]
            have hrow : HF[w.2]? = some (oI (vals xs w.1.2)) := by
              rw [hw2, show vals xs w.1.2 = [xs.getD p.1.1 0] by rw [hw]; simp [vals, hb], hHF]
              exact lkp (lks (lkp hC1) (by omega))
            have hLJ := i9.lj.step (S' := [s.hp, HC.length + 1]) (w := w) eF (fun x hx => by
              simp only [List.mem_cons, List.not_mem_nil, or_false] at hx
              rcases hx with rfl
              exact .inl (by simp)) (fun x hx => by
              simp only [List.mem_cons, List.not_mem_nil, or_false] at hx
              rcases hx with rfl | rfl
              · exact .inl (by simp)
              · exact .inr (by omega)) (fun _ => hrow) (by omega) (by rw [hw2]; simp; omega)
            have hPJ : PJ xs [s.hp, HC.length + 1] HF (N ++ [w] ++ R') := ⟨hLJ, eF _ _ l0' (by simp; omega), hclF⟩
            rw [er, ← hHF]
            refine ⟨⟨i + 2, N ++ [w], R', HC.length + 1, HF, c + 1⟩, List.range HF.length, ⟨⟨?_, ?_, by show i + 2 + R'.length = s.ps.length; omega, by show (i + 2) % 2 = 0; omega, by show c + 1 + R'.length / 2 = _; omega, by show (N ++ [w]).length + R'.length ≤ _; simp; omega, eF _ _ i6 (by simp; omega), ?_, by show HC.length + 1 ≠ s.hp; omega, hPJ, ?_⟩, by show s.ps.length - (i + 2) < s.ps.length - i; omega⟩, wk_id (by omega) hclF (by simp [slId, get_cons, get_nil, TV.hs, AV.hs, C.hs, RS.slot, zipSlots] <;> omega)⟩
            · show prs (N ++ [w]) ++ rnd xs (prs R') = _
              rw [← i1, prs_app, List.append_assoc]
              show prs N ++ (w.1 :: rnd xs (prs R')) = prs N ++ rnd xs (p.1 :: q.1 :: prs R')
              rw [rnd_two, hw1]
            · show R' = s.ps.drop (i + 2)
              have := congrArg (List.drop 2) i2
              rw [List.drop_drop] at this
              exact this
            · show HF[HC.length + 1]? = _
              rw [hHF, lkn' (by simp)]
            · intro e he
              simp only [List.mem_append, List.mem_singleton] at he
              show e.1.2.length ≤ c + 1
              rcases he with (he | rfl) | he
              · have := i10 e (by simp [he]); omega
              · rw [hw]; simp; omega
              · have := i10 e (by simp [he]); omega
          · --
            have hce : cellE q = cSl q.2 q.1.2.length := by rw [cellE, if_neg hb]
            obtain ⟨hrw, hns⟩ := i9.lj.row q (by simp) hb
            have hrl := getlt hrw
            simp only [List.mem_cons, List.not_mem_nil, or_false, not_or] at hns
            obtain ⟨hnp, hnn⟩ := hns
            have hw0 : q.2 ≠ 0 := fun e => by rw [e, l0'] at hrw; cases hrw
            have hrB : HB[q.2]? = some (oI (vals xs q.1.2)) := eB _ _ hrw (by simp)
            have hbl : (vals xs q.1.2).length = q.1.2.length := vals_len _ _
            have qh : (HB ++ [oI [xs.getD p.1.1 0]])[q.2]? = some (oI (vals xs q.1.2)) := lkp hrB
            have hnB : HB[hn]? = some (rP xs N) := eB _ _ i7 (by simp)
            refine WX_at [q.2, hn] ?_ ?_
            · simp [msOwn, hnB, hrB]
            have qn : (HB ++ [oI [xs.getD p.1.1 0]])[HB.length]? = some (oI [xs.getD p.1.1 0]) := lkn _ _
            obtain ⟨HC, hHC⟩ : ∃ HC, HC = ((HB ++ [oI [xs.getD p.1.1 0]]).set q.2 .dead ++ [oI (vals xs q.1.2 ++ [xs.getD p.1.1 0])]) := ⟨_, rfl⟩
            have f1 : SF [q.2, hn] HB (HB ++ [oI [xs.getD p.1.1 0]]) := (SF.refl _ HB).app _
            have f2 : SF [q.2, hn] HB HC := by rw [hHC]; exact (f1.set _ (by simp)).app _
            have f3 : SF [q.2, hn] HB (HC ++ [bP (xs.getD q.1.1 0) (cSl (HB.length + 1) (q.1.2.length + 1))]) := f2.app _
            have f4 : ∀ r, SF [q.2, hn] HB ((HC ++ [bP (xs.getD q.1.1 0) (cSl (HB.length + 1) (q.1.2.length + 1))]).set hn .dead ++ [r]) := fun r => (f3.set _ (by simp)).app _
            have s1 := f1.same
            have s2 := f2.same
            have s2' := f2.same
            rw [hHC] at s2'
            have s3 := f3.same
            have s4 := fun r => (f4 r).same
            have lC : HC.length = HB.length + 2 := by rw [hHC]; simp
            have hCn : HC[hn]? = some (rP xs N) := by rw [hHC]; exact lkp (lks (lkp hnB) hnn)
            have hC1 : HC[HB.length + 1]? = some (oI (vals xs q.1.2 ++ [xs.getD p.1.1 0])) := by rw [hHC]; exact lkn' (by simp)
            have qN : (HC ++ [bP (xs.getD q.1.1 0) (cSl (HB.length + 1) (q.1.2.length + 1))])[hn]? = some (rP xs N) := lkp hCn
            have qA : (HC ++ [bP (xs.getD q.1.1 0) (cSl (HB.length + 1) (q.1.2.length + 1))])[HC.length]? = some (bP (xs.getD q.1.1 0) (cSl (HB.length + 1) (q.1.2.length + 1))) := lkn _ _
            try simp (dsimp := false) only [gA, gB, hce, qh, hbl, qn, s1, s2', ← hHC, List.length_append, List.length_set, List.length_cons, List.length_nil, List.take_succ_cons, List.take_zero, List.drop_zero, List.all_cons, List.all_nil, cellE_one, Nat.one_mul, Int.toNat_natCast, Int.toNat_zero, go_sem, Nat.reduceAdd, Nat.reduceBEq, Nat.reduceEqDiff, Nat.reduceLT, Nat.reduceLeDiff, reduceCtorEq, ↓reduceIte]
            try simp (dsimp := false) only [gA, gB, hce, qh, hbl, qn, qN, qA, hNo, s1, s2, s2', s3, s4, ← hHC, List.length_append, List.length_set, List.length_cons, List.length_nil, List.take_succ_cons, List.take_zero, List.drop_zero, List.all_cons, List.all_nil, cellE_one, Nat.one_mul, Int.toNat_natCast, Int.toNat_zero, go_sem, Nat.reduceAdd, Nat.reduceBEq, Nat.reduceEqDiff, Nat.reduceLT, Nat.reduceLeDiff, reduceCtorEq, ↓reduceIte]
            have hcn : c ≤ 64 := by omega
            repeat (refine And.intro (by first | exact True.intro | omega | kernel_rfl | (simp only [List.length_set, List.length_append, List.length_take, List.length_replicate, List.length_cons, true_and, and_true, List.length_nil, tabR_length]; omega)) ?_)
            obtain ⟨w, hw⟩ : ∃ w : En, w = ((q.1.1, q.1.2 ++ [p.1.1]), HB.length + 1) := ⟨_, rfl⟩
            have hw1 : w.1 = mch xs p.1 q.1 := by rw [hw, hm]
            have hwi : w.1.1 = q.1.1 := by rw [hw]
            have hw2 : w.2 = HB.length + 1 := by rw [hw]
            have hce2 : cellE w = cSl (HB.length + 1) (q.1.2.length + 1) := by rw [hw, cellE, if_neg (by simp)]; simp
            have er : rcl xs N ++ [.v (.int .i64 (xs.getD q.1.1 0)), cSl (HB.length + 1) (q.1.2.length + 1)] = rcl xs (N ++ [w]) := by rw [rcl_app]; simp [rcl, hce2, hwi]
            obtain ⟨HF, hHF⟩ : ∃ HF, HF = (HC ++ [bP (xs.getD q.1.1 0) (cSl (HB.length + 1) (q.1.2.length + 1))]).set hn .dead ++ [rP xs (N ++ [w])] := ⟨_, rfl⟩
            have eBF : Exc [q.2, hn] HB HF := by rw [hHF, hHC]; exact (((((((Exc.refl [q.2, hn] HB).app _).set _ (by simp)).app _).app _).set _ (by simp)).app _)
            have eF : Exc [q.2, hn] H HF := fun k r h hk => eBF k r (eB k r h (by simp)) hk
            have clC : Cl HC := by rw [hHC]; exact cl_oI (cl_dead (cl_oI clB))
            have hclF : Cl HF := by
              rw [hHF]
              refine cl_rP (cl_dead (cl_app clC fun r hr h hh => ?_)) fun e he hne => ?_
              · simp at hr; subst hr; simp [Row.hs, Dat.hs, C.hs] at hh; simp; omega
              · simp only [List.mem_append, List.mem_singleton] at he
                rw [List.length_set, List.length_append]
                rcases he with he | rfl
                · have := getlt (i9.lj.row e (by simp [he]) hne).1; omega
                · omega
            have lF : HF.length = H.length + 6 := by rw [hHF]; simp [lC, lB]
            have hrow : HF[w.2]? = some (oI (vals xs w.1.2)) := by
              rw [hw2, show vals xs w.1.2 = (vals xs q.1.2 ++ [xs.getD p.1.1 0]) by rw [hw]; simp [vals], hHF]
              exact lkp (lks (lkp hC1) (by omega))
            have hLJ := i9.lj.step (S' := [s.hp, HC.length + 1]) (w := w) eF (fun x hx => by
              simp only [List.mem_cons, List.not_mem_nil, or_false] at hx
              rcases hx with rfl | rfl
              · exact .inr (.inr ⟨rfl, hb⟩)
              · exact .inl (by simp)) (fun x hx => by
              simp only [List.mem_cons, List.not_mem_nil, or_false] at hx
              rcases hx with rfl | rfl
              · exact .inl (by simp)
              · exact .inr (by omega)) (fun _ => hrow) (by omega) (by rw [hw2]; simp; omega)
            have hPJ : PJ xs [s.hp, HC.length + 1] HF (N ++ [w] ++ R') := ⟨hLJ, eF _ _ l0' (by simp; omega), hclF⟩
            rw [er, ← hHF]
            refine ⟨⟨i + 2, N ++ [w], R', HC.length + 1, HF, c + 1⟩, List.range HF.length, ⟨⟨?_, ?_, by show i + 2 + R'.length = s.ps.length; omega, by show (i + 2) % 2 = 0; omega, by show c + 1 + R'.length / 2 = _; omega, by show (N ++ [w]).length + R'.length ≤ _; simp; omega, eF _ _ i6 (by simp; omega), ?_, by show HC.length + 1 ≠ s.hp; omega, hPJ, ?_⟩, by show s.ps.length - (i + 2) < s.ps.length - i; omega⟩, wk_id (by omega) hclF (by simp [slId, get_cons, get_nil, TV.hs, AV.hs, C.hs, RS.slot, zipSlots] <;> omega)⟩
            · show prs (N ++ [w]) ++ rnd xs (prs R') = _
              rw [← i1, prs_app, List.append_assoc]
              show prs N ++ (w.1 :: rnd xs (prs R')) = prs N ++ rnd xs (p.1 :: q.1 :: prs R')
              rw [rnd_two, hw1]
            · show R' = s.ps.drop (i + 2)
              have := congrArg (List.drop 2) i2
              rw [List.drop_drop] at this
              exact this
            · show HF[HC.length + 1]? = _
              rw [hHF, lkn' (by simp)]
            · intro e he
              simp only [List.mem_append, List.mem_singleton] at he
              show e.1.2.length ≤ c + 1
              rcases he with (he | rfl) | he
              · have := i10 e (by simp [he]); omega
              · rw [hw]; simp; omega
              · have := i10 e (by simp [he]); omega
        · have dlt : decide (xs.getD q.1.1 0 < xs.getD p.1.1 0) = false := decide_eq_false hlt
          have hm : mch xs p.1 q.1 = (p.1.1, p.1.2 ++ [q.1.1]) := by rw [mch, if_neg hlt]
          obtain ⟨HB, hHB⟩ : ∃ HB, HB = H2 := ⟨_, rfl⟩
          rw [← hHB] at gA2 gB2 eB2 hcl2 l2
          have lB := l2
          have gA := gA2
          have gB := gB2
          have eB := eB2
          have clB := hcl2
          simp (dsimp := false) only [gA2, gB2, dlt, ← hHB, List.length_append, List.length_set, List.length_cons, List.length_nil, List.take_succ_cons, List.take_zero, List.drop_zero, List.all_cons, List.all_nil, cellE_one, Nat.one_mul, Int.toNat_natCast, Int.toNat_zero, go_sem, Nat.reduceAdd, Nat.reduceBEq, Nat.reduceEqDiff, Nat.reduceLT, Nat.reduceLeDiff, reduceCtorEq, ↓reduceIte]
          clear hHB
          by_cases hb : p.1.2 = []
          · --
            have hce : cellE p = .v (.slice none 0 0) := by rw [cellE, if_pos hb]
            have hnB : HB[hn]? = some (rP xs N) := eB _ _ i7 (by simp)
            refine WX_at [hn] ?_ ?_
            · simp [msOwn, hnB]
            have qn : (HB ++ [oI [xs.getD q.1.1 0]])[HB.length]? = some (oI [xs.getD q.1.1 0]) := lkn _ _
            obtain ⟨HC, hHC⟩ : ∃ HC, HC = ((HB ++ [oI [xs.getD q.1.1 0]]) ++ [oI [xs.getD q.1.1 0]]) := ⟨_, rfl⟩
            have f1 : SF [hn] HB (HB ++ [oI [xs.getD q.1.1 0]]) := (SF.refl _ HB).app _
            have f2 : SF [hn] HB HC := by rw [hHC]; exact f1.app _
            have f3 : SF [hn] HB (HC ++ [bP (xs.getD p.1.1 0) (cSl (HB.length + 1) 1)]) := f2.app _
            have f4 : ∀ r, SF [hn] HB ((HC ++ [bP (xs.getD p.1.1 0) (cSl (HB.length + 1) 1)]).set hn .dead ++ [r]) := fun r => (f3.set _ (by simp)).app _
            have s1 := f1.same
            have s2 := f2.same
            have s2' := f2.same
            rw [hHC] at s2'
            have s3 := f3.same
            have s4 := fun r => (f4 r).same
            have lC : HC.length = HB.length + 2 := by rw [hHC]; simp
            have hCn : HC[hn]? = some (rP xs N) := by rw [hHC]; exact lkp (lkp hnB)
            have hC1 : HC[HB.length + 1]? = some (oI [xs.getD q.1.1 0]) := by rw [hHC]; exact lkn' (by simp)
            have qN : (HC ++ [bP (xs.getD p.1.1 0) (cSl (HB.length + 1) 1)])[hn]? = some (rP xs N) := lkp hCn
            have qA : (HC ++ [bP (xs.getD p.1.1 0) (cSl (HB.length + 1) 1)])[HC.length]? = some (bP (xs.getD p.1.1 0) (cSl (HB.length + 1) 1)) := lkn _ _
            try simp (dsimp := false) only [gA, gB, hce, qn, s1, s2', ← hHC, List.length_append, List.length_set, List.length_cons, List.length_nil, List.take_succ_cons, List.take_zero, List.drop_zero, List.all_cons, List.all_nil, cellE_one, Nat.one_mul, Int.toNat_natCast, Int.toNat_zero, go_sem, Nat.reduceAdd, Nat.reduceBEq, Nat.reduceEqDiff, Nat.reduceLT, Nat.reduceLeDiff, reduceCtorEq, ↓reduceIte]
            try simp (dsimp := false) only [gA, gB, hce, qn, qN, qA, hNo, s1, s2, s2', s3, s4, ← hHC, List.length_append, List.length_set, List.length_cons, List.length_nil, List.take_succ_cons, List.take_zero, List.drop_zero, List.all_cons, List.all_nil, cellE_one, Nat.one_mul, Int.toNat_natCast, Int.toNat_zero, go_sem, Nat.reduceAdd, Nat.reduceBEq, Nat.reduceEqDiff, Nat.reduceLT, Nat.reduceLeDiff, reduceCtorEq, ↓reduceIte]
            have hcn : c ≤ 64 := by omega
            repeat (refine And.intro (by first | exact True.intro | omega | kernel_rfl | (simp only [List.length_set, List.length_append, List.length_take, List.length_replicate, List.length_cons, true_and, and_true, List.length_nil, tabR_length]; omega)) ?_)
            obtain ⟨w, hw⟩ : ∃ w : En, w = ((p.1.1, p.1.2 ++ [q.1.1]), HB.length + 1) := ⟨_, rfl⟩
            have hw1 : w.1 = mch xs p.1 q.1 := by rw [hw, hm]
            have hwi : w.1.1 = p.1.1 := by rw [hw]
            have hw2 : w.2 = HB.length + 1 := by rw [hw]
            have hce2 : cellE w = cSl (HB.length + 1) 1 := by rw [hw, cellE, if_neg (by simp)]; simp [hb]
            have er : rcl xs N ++ [.v (.int .i64 (xs.getD p.1.1 0)), cSl (HB.length + 1) 1] = rcl xs (N ++ [w]) := by rw [rcl_app]; simp [rcl, hce2, hwi]
            obtain ⟨HF, hHF⟩ : ∃ HF, HF = (HC ++ [bP (xs.getD p.1.1 0) (cSl (HB.length + 1) 1)]).set hn .dead ++ [rP xs (N ++ [w])] := ⟨_, rfl⟩
            have eBF : Exc [hn] HB HF := by rw [hHF, hHC]; exact ((((((Exc.refl [hn] HB).app _).app _).app _).set _ (by simp)).app _)
            have eF : Exc [hn] H HF := fun k r h hk => eBF k r (eB k r h (by simp)) hk
            have clC : Cl HC := by rw [hHC]; exact cl_oI (cl_oI clB)
            have hclF : Cl HF := by
              rw [hHF]
              refine cl_rP (cl_dead (cl_app clC fun r hr h hh => ?_)) fun e he hne => ?_
              · simp at hr; subst hr; simp [Row.hs, Dat.hs, C.hs] at hh; simp; omega
              · simp only [List.mem_append, List.mem_singleton] at he
                rw [List.length_set, List.length_append]
                rcases he with he | rfl
                · have := getlt (i9.lj.row e (by simp [he]) hne).1; omega
                · omega
            have lF : HF.length = H.length + 6 := by rw [hHF]; simp [lC, lB]
            have hrow : HF[w.2]? = some (oI (vals xs w.1.2)) := by
              rw [hw2, show vals xs w.1.2 = [xs.getD q.1.1 0] by rw [hw]; simp [vals, hb], hHF]
              exact lkp (lks (lkp hC1) (by omega))
            have hLJ := i9.lj.step (S' := [s.hp, HC.length + 1]) (w := w) eF (fun x hx => by
              simp only [List.mem_cons, List.not_mem_nil, or_false] at hx
              rcases hx with rfl
              exact .inl (by simp)) (fun x hx => by
              simp only [List.mem_cons, List.not_mem_nil, or_false] at hx
              rcases hx with rfl | rfl
              · exact .inl (by simp)
              · exact .inr (by omega)) (fun _ => hrow) (by omega) (by rw [hw2]; simp; omega)
            have hPJ : PJ xs [s.hp, HC.length + 1] HF (N ++ [w] ++ R') := ⟨hLJ, eF _ _ l0' (by simp; omega), hclF⟩
            rw [er, ← hHF]
            refine ⟨⟨i + 2, N ++ [w], R', HC.length + 1, HF, c + 1⟩, List.range HF.length, ⟨⟨?_, ?_, by show i + 2 + R'.length = s.ps.length; omega, by show (i + 2) % 2 = 0; omega, by show c + 1 + R'.length / 2 = _; omega, by show (N ++ [w]).length + R'.length ≤ _; simp; omega, eF _ _ i6 (by simp; omega), ?_, by show HC.length + 1 ≠ s.hp; omega, hPJ, ?_⟩, by show s.ps.length - (i + 2) < s.ps.length - i; omega⟩, wk_id (by omega) hclF (by simp [slId, get_cons, get_nil, TV.hs, AV.hs, C.hs, RS.slot, zipSlots] <;> omega)⟩
            · show prs (N ++ [w]) ++ rnd xs (prs R') = _
              rw [← i1, prs_app, List.append_assoc]
              show prs N ++ (w.1 :: rnd xs (prs R')) = prs N ++ rnd xs (p.1 :: q.1 :: prs R')
              rw [rnd_two, hw1]
            · show R' = s.ps.drop (i + 2)
              have := congrArg (List.drop 2) i2
              rw [List.drop_drop] at this
              exact this
            · show HF[HC.length + 1]? = _
              rw [hHF, lkn' (by simp)]
            · intro e he
              simp only [List.mem_append, List.mem_singleton] at he
              show e.1.2.length ≤ c + 1
              rcases he with (he | rfl) | he
              · have := i10 e (by simp [he]); omega
              · rw [hw]; simp; omega
              · have := i10 e (by simp [he]); omega
          · --
            have hce : cellE p = cSl p.2 p.1.2.length := by rw [cellE, if_neg hb]
            obtain ⟨hrw, hns⟩ := i9.lj.row p (by simp) hb
            have hrl := getlt hrw
            simp only [List.mem_cons, List.not_mem_nil, or_false, not_or] at hns
            obtain ⟨hnp, hnn⟩ := hns
            have hw0 : p.2 ≠ 0 := fun e => by rw [e, l0'] at hrw; cases hrw
            have hrB : HB[p.2]? = some (oI (vals xs p.1.2)) := eB _ _ hrw (by simp)
            have hbl : (vals xs p.1.2).length = p.1.2.length := vals_len _ _
            have qh : (HB ++ [oI [xs.getD q.1.1 0]])[p.2]? = some (oI (vals xs p.1.2)) := lkp hrB
            have hnB : HB[hn]? = some (rP xs N) := eB _ _ i7 (by simp)
            refine WX_at [p.2, hn] ?_ ?_
            · simp [msOwn, hnB, hrB]
            have qn : (HB ++ [oI [xs.getD q.1.1 0]])[HB.length]? = some (oI [xs.getD q.1.1 0]) := lkn _ _
            obtain ⟨HC, hHC⟩ : ∃ HC, HC = ((HB ++ [oI [xs.getD q.1.1 0]]).set p.2 .dead ++ [oI (vals xs p.1.2 ++ [xs.getD q.1.1 0])]) := ⟨_, rfl⟩
            have f1 : SF [p.2, hn] HB (HB ++ [oI [xs.getD q.1.1 0]]) := (SF.refl _ HB).app _
            have f2 : SF [p.2, hn] HB HC := by rw [hHC]; exact (f1.set _ (by simp)).app _
            have f3 : SF [p.2, hn] HB (HC ++ [bP (xs.getD p.1.1 0) (cSl (HB.length + 1) (p.1.2.length + 1))]) := f2.app _
            have f4 : ∀ r, SF [p.2, hn] HB ((HC ++ [bP (xs.getD p.1.1 0) (cSl (HB.length + 1) (p.1.2.length + 1))]).set hn .dead ++ [r]) := fun r => (f3.set _ (by simp)).app _
            have s1 := f1.same
            have s2 := f2.same
            have s2' := f2.same
            rw [hHC] at s2'
            have s3 := f3.same
            have s4 := fun r => (f4 r).same
            have lC : HC.length = HB.length + 2 := by rw [hHC]; simp
            have hCn : HC[hn]? = some (rP xs N) := by rw [hHC]; exact lkp (lks (lkp hnB) hnn)
            have hC1 : HC[HB.length + 1]? = some (oI (vals xs p.1.2 ++ [xs.getD q.1.1 0])) := by rw [hHC]; exact lkn' (by simp)
            have qN : (HC ++ [bP (xs.getD p.1.1 0) (cSl (HB.length + 1) (p.1.2.length + 1))])[hn]? = some (rP xs N) := lkp hCn
            have qA : (HC ++ [bP (xs.getD p.1.1 0) (cSl (HB.length + 1) (p.1.2.length + 1))])[HC.length]? = some (bP (xs.getD p.1.1 0) (cSl (HB.length + 1) (p.1.2.length + 1))) := lkn _ _
            try simp (dsimp := false) only [gA, gB, hce, qh, hbl, qn, s1, s2', ← hHC, List.length_append, List.length_set, List.length_cons, List.length_nil, List.take_succ_cons, List.take_zero, List.drop_zero, List.all_cons, List.all_nil, cellE_one, Nat.one_mul, Int.toNat_natCast, Int.toNat_zero, go_sem, Nat.reduceAdd, Nat.reduceBEq, Nat.reduceEqDiff, Nat.reduceLT, Nat.reduceLeDiff, reduceCtorEq, ↓reduceIte]
            try simp (dsimp := false) only [gA, gB, hce, qh, hbl, qn, qN, qA, hNo, s1, s2, s2', s3, s4, ← hHC, List.length_append, List.length_set, List.length_cons, List.length_nil, List.take_succ_cons, List.take_zero, List.drop_zero, List.all_cons, List.all_nil, cellE_one, Nat.one_mul, Int.toNat_natCast, Int.toNat_zero, go_sem, Nat.reduceAdd, Nat.reduceBEq, Nat.reduceEqDiff, Nat.reduceLT, Nat.reduceLeDiff, reduceCtorEq, ↓reduceIte]
            have hcn : c ≤ 64 := by omega
            repeat (refine And.intro (by first | exact True.intro | omega | kernel_rfl | (simp only [List.length_set, List.length_append, List.length_take, List.length_replicate, List.length_cons, true_and, and_true, List.length_nil, tabR_length]; omega)) ?_)
            obtain ⟨w, hw⟩ : ∃ w : En, w = ((p.1.1, p.1.2 ++ [q.1.1]), HB.length + 1) := ⟨_, rfl⟩
            have hw1 : w.1 = mch xs p.1 q.1 := by rw [hw, hm]
            have hwi : w.1.1 = p.1.1 := by rw [hw]
            have hw2 : w.2 = HB.length + 1 := by rw [hw]
            have hce2 : cellE w = cSl (HB.length + 1) (p.1.2.length + 1) := by rw [hw, cellE, if_neg (by simp)]; simp
            have er : rcl xs N ++ [.v (.int .i64 (xs.getD p.1.1 0)), cSl (HB.length + 1) (p.1.2.length + 1)] = rcl xs (N ++ [w]) := by rw [rcl_app]; simp [rcl, hce2, hwi]
            obtain ⟨HF, hHF⟩ : ∃ HF, HF = (HC ++ [bP (xs.getD p.1.1 0) (cSl (HB.length + 1) (p.1.2.length + 1))]).set hn .dead ++ [rP xs (N ++ [w])] := ⟨_, rfl⟩
            have eBF : Exc [p.2, hn] HB HF := by rw [hHF, hHC]; exact (((((((Exc.refl [p.2, hn] HB).app _).set _ (by simp)).app _).app _).set _ (by simp)).app _)
            have eF : Exc [p.2, hn] H HF := fun k r h hk => eBF k r (eB k r h (by simp)) hk
            have clC : Cl HC := by rw [hHC]; exact cl_oI (cl_dead (cl_oI clB))
            have hclF : Cl HF := by
              rw [hHF]
              refine cl_rP (cl_dead (cl_app clC fun r hr h hh => ?_)) fun e he hne => ?_
              · simp at hr; subst hr; simp [Row.hs, Dat.hs, C.hs] at hh; simp; omega
              · simp only [List.mem_append, List.mem_singleton] at he
                rw [List.length_set, List.length_append]
                rcases he with he | rfl
                · have := getlt (i9.lj.row e (by simp [he]) hne).1; omega
                · omega
            have lF : HF.length = H.length + 6 := by rw [hHF]; simp [lC, lB]
            have hrow : HF[w.2]? = some (oI (vals xs w.1.2)) := by
              rw [hw2, show vals xs w.1.2 = (vals xs p.1.2 ++ [xs.getD q.1.1 0]) by rw [hw]; simp [vals], hHF]
              exact lkp (lks (lkp hC1) (by omega))
            have hLJ := i9.lj.step (S' := [s.hp, HC.length + 1]) (w := w) eF (fun x hx => by
              simp only [List.mem_cons, List.not_mem_nil, or_false] at hx
              rcases hx with rfl | rfl
              · exact .inr (.inl ⟨rfl, hb⟩)
              · exact .inl (by simp)) (fun x hx => by
              simp only [List.mem_cons, List.not_mem_nil, or_false] at hx
              rcases hx with rfl | rfl
              · exact .inl (by simp)
              · exact .inr (by omega)) (fun _ => hrow) (by omega) (by rw [hw2]; simp; omega)
            have hPJ : PJ xs [s.hp, HC.length + 1] HF (N ++ [w] ++ R') := ⟨hLJ, eF _ _ l0' (by simp; omega), hclF⟩
            rw [er, ← hHF]
            refine ⟨⟨i + 2, N ++ [w], R', HC.length + 1, HF, c + 1⟩, List.range HF.length, ⟨⟨?_, ?_, by show i + 2 + R'.length = s.ps.length; omega, by show (i + 2) % 2 = 0; omega, by show c + 1 + R'.length / 2 = _; omega, by show (N ++ [w]).length + R'.length ≤ _; simp; omega, eF _ _ i6 (by simp; omega), ?_, by show HC.length + 1 ≠ s.hp; omega, hPJ, ?_⟩, by show s.ps.length - (i + 2) < s.ps.length - i; omega⟩, wk_id (by omega) hclF (by simp [slId, get_cons, get_nil, TV.hs, AV.hs, C.hs, RS.slot, zipSlots] <;> omega)⟩
            · show prs (N ++ [w]) ++ rnd xs (prs R') = _
              rw [← i1, prs_app, List.append_assoc]
              show prs N ++ (w.1 :: rnd xs (prs R')) = prs N ++ rnd xs (p.1 :: q.1 :: prs R')
              rw [rnd_two, hw1]
            · show R' = s.ps.drop (i + 2)
              have := congrArg (List.drop 2) i2
              rw [List.drop_drop] at this
              exact this
            · show HF[HC.length + 1]? = _
              rw [hHF, lkn' (by simp)]
            · intro e he
              simp only [List.mem_append, List.mem_singleton] at he
              show e.1.2.length ≤ c + 1
              rcases he with (he | rfl) | he
              · have := i10 e (by simp [he]); omega
              · rw [hw]; simp; omega
              · have := i10 e (by simp [he]); omega
    · have hcd3 : decide (((i + 1 : Nat) : Int) < (s.ps.length : Int)) = false := decide_eq_false (by omega)
      obtain ⟨g, hg⟩ : ∃ g, s.g = g + 1 := ⟨s.g - 1, by omega⟩
      rw [hg, tnT_step (by rw [prs_len]; exact h1)] at j1
      have hrl := rnd_len xs (prs s.ps)
      rw [prs_len] at hrl j1
      match R, i1, i2, i3, i4, i5, i9, i10 with
      | [], i1, i2, i3, i4, i5, i9, i10 =>
        have e0 : prs N = rnd xs (prs s.ps) := by rw [← i1]; simp [prs, rnd]
        rw [← e0, prs_len] at hrl
        simp at i3 i4 i5
        have eo : (((s.ps.length : Int).tmod 2) == 1) = false := by
          rw [Int.tmod_eq_emod_of_nonneg (by omega), beq_eq_false_iff_ne]; omega
        simp (dsimp := false) only [hcd3, e1, go_sem, Nat.reduceAdd, Nat.reduceBEq, Nat.reduceEqDiff, Nat.reduceLT, Nat.reduceLeDiff, reduceCtorEq, ↓reduceIte]
        repeat (refine And.intro (by first | exact True.intro | omega | kernel_rfl | (simp only [List.length_set, List.length_append, List.length_take, List.length_replicate, List.length_cons, true_and, and_true, List.length_nil, tabR_length]; omega)) ?_)
        refine hQ3 _ _ _ ?_
        simp (dsimp := false) only [eo, go_sem, Nat.reduceAdd, Nat.reduceBEq, Nat.reduceEqDiff, Nat.reduceLT, Nat.reduceLeDiff, reduceCtorEq, ↓reduceIte]
        repeat (refine And.intro (by first | exact True.intro | omega | kernel_rfl | (simp only [List.length_set, List.length_append, List.length_take, List.length_replicate, List.length_cons, true_and, and_true, List.length_nil, tabR_length]; omega)) ?_)
        refine ⟨⟨g, N, hn, H, c⟩, List.range H.length, ⟨⟨?_, by show N.length ≤ g + 1; omega, by show 1 ≤ N.length; omega, by show c + N.length = _; omega, i7, ?_, by simpa using i10⟩, by show g < s.g; omega⟩, wk_id (by omega) hcl (by simp [slId, get_cons, get_nil, TV.hs, AV.hs, C.hs, RS.slot, zipSlots] <;> omega)⟩
        · show tnT xs g (prs N) c = _
          rw [← j1, e0]; congr 1
        · have := i9.keep (Exc.refl [] H) (S' := [hn]) (by simp) (fun x hx => by simp at hx ⊢; simp [hx]) (by simp) hcl
          simpa using this
      | [p], i1, i2, i3, i4, i5, i9, i10 =>
        have e0 : prs (N ++ [p]) = rnd xs (prs s.ps) := by rw [← i1, prs_app]; simp [prs, rnd]
        rw [← e0, prs_len] at hrl
        simp at i3 i4 i5 hrl
        have hpi : s.ps[i]? = some p := by
          have := congrArg (fun l => l[0]?) i2
          simpa using this.symm
        have gp := rcl_at (xs := xs) hpi
        have hi1 : i * 2 + 2 ≤ (rcl xs s.ps).length := by omega
        have eo : (((s.ps.length : Int).tmod 2) == 1) = true := by
          rw [Int.tmod_eq_emod_of_nonneg (by omega), beq_iff_eq]; omega
        have e2 : (s.ps.length : Int) - 1 = (i : Int) := by omega
        have qN : (H ++ [bP (xs.getD p.1.1 0) (cellE p)])[hn]? = some (rP xs N) := lkp i7
        have qA : (H ++ [bP (xs.getD p.1.1 0) (cellE p)])[H.length]? = some (bP (xs.getD p.1.1 0) (cellE p)) := lkn _ _
        simp (dsimp := false) only [hcd3, e1, go_sem, Nat.reduceAdd, Nat.reduceBEq, Nat.reduceEqDiff, Nat.reduceLT, Nat.reduceLeDiff, reduceCtorEq, ↓reduceIte]
        repeat (refine And.intro (by first | exact True.intro | omega | kernel_rfl | (simp only [List.length_set, List.length_append, List.length_take, List.length_replicate, List.length_cons, true_and, and_true, List.length_nil, tabR_length]; omega)) ?_)
        refine hQ3 _ _ _ ?_
        simp (dsimp := false) only [eo, e2, i6, gp, hi1, qN, qA, hNo, List.length_append, List.length_set, List.length_cons, List.length_nil, List.take_succ_cons, List.take_zero, List.drop_zero, List.all_cons, List.all_nil, cellE_one, Nat.one_mul, Int.toNat_natCast, Int.toNat_zero, go_sem, Nat.reduceAdd, Nat.reduceBEq, Nat.reduceEqDiff, Nat.reduceLT, Nat.reduceLeDiff, reduceCtorEq, ↓reduceIte]
        repeat (refine And.intro (by first | exact True.intro | omega | kernel_rfl | (simp only [List.length_set, List.length_append, List.length_take, List.length_replicate, List.length_cons, true_and, and_true, List.length_nil, tabR_length]; omega)) ?_)
        have er : rcl xs N ++ [.v (.int .i64 (xs.getD p.1.1 0)), cellE p] = rcl xs (N ++ [p]) := by rw [rcl_app]; rfl
        rw [er]
        obtain ⟨HF, hHF⟩ : ∃ HF, HF = (H ++ [bP (xs.getD p.1.1 0) (cellE p)]).set hn .dead ++ [rP xs (N ++ [p])] := ⟨_, rfl⟩
        have eF : Exc [hn] H HF := by rw [hHF]; exact ((Exc.refl [hn] H).app _ |>.set _ (by simp)).app _
        have hclF : Cl HF := by
          rw [hHF]
          refine cl_rP (cl_dead (cl_app hcl fun r hr h hh => ?_)) fun e he hne => ?_
          · simp at hr; subst hr
            have := bP_hs i9.lj p (by simp) _ h hh
            simp; omega
          · have := getlt (i9.lj.row e he hne).1
            simp; omega
        have lF : HF.length = H.length + 2 := by rw [hHF]; simp
        rw [← hHF]
        refine ⟨⟨g, N ++ [p], H.length + 1, HF, c⟩, List.range HF.length, ⟨⟨?_, by show (N ++ [p]).length ≤ g + 1; simp; omega, by show 1 ≤ (N ++ [p]).length; simp, by show c + (N ++ [p]).length = _; simp; omega, ?_, ?_, i10⟩, by show g < s.g; omega⟩, wk_id (by omega) hclF (by simp [slId, get_cons, get_nil, TV.hs, AV.hs, C.hs, RS.slot, zipSlots] <;> omega)⟩
        · show tnT xs g (prs (N ++ [p])) c = _
          rw [← j1, e0]; congr 1
        · show HF[H.length + 1]? = _
          rw [hHF, lkn' (by simp)]
        · exact i9.keep eF (S' := [H.length + 1]) (by simp) (fun x hx => by simp at hx ⊢; omega) (by simp; omega) hclF
      | p :: q :: R', i1, i2, i3, i4, i5, i9, i10 => simp at i3; omega
  · have hcd : decide ((1 : Int) < (s.ps.length : Int)) = false := decide_eq_false (by omega)
    obtain ⟨e, he⟩ : ∃ e, s.ps = [e] := List.length_eq_one_iff.1 (by omega)
    rw [tnT_end (by rw [prs_len]; omega)] at j1
    obtain ⟨w, bt, r1, r2, r3, r4⟩ := tnR_one (xs := xs) (by omega)
    have k1 : prs s.ps = [(w, bt)] := by rw [← r1, ← j1]
    have k2 : s.c = (tnR xs).2 := by rw [← j1]
    rw [he] at k1
    have k3 : e.1 = (w, bt) := by simpa [prs] using k1
    have hb : e.1.2 ≠ [] := by rw [k3]; exact r2
    have hR := j6.lj.row e (by rw [he]; simp) hb
    have h7 := j7 e (by rw [he]; simp)
    rw [k3] at hR h7
    have h7b : bt.length ≤ s.c := h7
    have gE : s.H[e.2]? = some (oI (vals xs bt)) := hR.1
    have hbl : 0 < bt.length := List.length_pos_iff.2 r2
    have hpl : s.ps.length = 1 := by omega
    have ce : (rcl xs s.ps)[1]? = some (cSl e.2 bt.length) := by rw [he]; simp [rcl, cellE, k3, r2]
    have hvl := vals_len xs bt
    have hsl := srtL_len (vals xs bt)
    rw [hvl] at hsl
    have hS := prt_g (k := 70) gE (sorted_all (vals xs bt) (by omega))
    rw [hvl] at hS
    have q9 : (s.H ++ [oI (srtL (vals xs bt))])[s.H.length]? = some (oI (srtL (vals xs bt))) := lkn _ _
    have eV : ssV xs = [aI ((srtL (vals xs bt)).getD 0 0), aI (s.c + bt.length - 1 : Nat), aB true] := by
      rw [ssV, hv, hd2, r4, ← k2]; rfl
    have e3 : (s.c : Int) + (bt.length : Int) - 1 = ((s.c + bt.length - 1 : Nat) : Int) := by omega
    simp (dsimp := false) only [hcd, go_sem, Nat.reduceAdd, Nat.reduceBEq, Nat.reduceEqDiff, Nat.reduceLT, Nat.reduceLeDiff, reduceCtorEq, ↓reduceIte]
    refine hQ2 _ _ _ ?_
    simp (dsimp := false) only [hpl, j5, ce, List.length_append, List.length_set, List.length_cons, List.length_nil, List.take_succ_cons, List.take_zero, List.drop_zero, List.all_cons, List.all_nil, cellE_one, Nat.one_mul, Int.toNat_natCast, Int.toNat_zero, go_sem, Nat.reduceAdd, Nat.reduceBEq, Nat.reduceEqDiff, Nat.reduceLT, Nat.reduceLeDiff, reduceCtorEq, ↓reduceIte]
    repeat (refine And.intro (by first | exact True.intro | omega | kernel_rfl | (simp only [List.length_set, List.length_append, List.length_take, List.length_replicate, List.length_cons, true_and, and_true, List.length_nil, tabR_length]; omega)) ?_)
    refine ⟨_, hS.mono ?_⟩
    rintro _ G9 ⟨rfl, h9⟩
    subst h9
    simp (dsimp := false) only [q9, e3, hsl, List.length_append, List.length_set, List.length_cons, List.length_nil, List.take_succ_cons, List.take_zero, List.drop_zero, List.all_cons, List.all_nil, cellE_one, Nat.one_mul, Int.toNat_natCast, Int.toNat_zero, go_sem, Nat.reduceAdd, Nat.reduceBEq, Nat.reduceEqDiff, Nat.reduceLT, Nat.reduceLeDiff, reduceCtorEq, ↓reduceIte]
    repeat (refine And.intro (by first | exact True.intro | omega | kernel_rfl | (simp only [List.length_set, List.length_append, List.length_take, List.length_replicate, List.length_cons, true_and, and_true, List.length_nil, tabR_length]; omega)) ?_)
    refine afin (List.range 1) [aI ((srtL (vals xs bt)).getD 0 0), aI (s.c + bt.length - 1 : Nat), aB true] [rI xs] (by simp) rfl (wk_ext (G := [rI xs]) (Nat.le_refl _) (fun r hr h hh => by simp at hr; subst hr; simp [Row.hs, Dat.hs] at hh) (fun h r e => by match h, e with | 0, e => exact lkp (l0.trans e)) (by simp [slId, get_cons, get_nil, TV.hs, AV.hs, C.hs, RS.slot, zipSlots])) ⟨by rw [eV]; rfl, rfl⟩
end Go.Proofs.Ytpoappgfmjnioaa
