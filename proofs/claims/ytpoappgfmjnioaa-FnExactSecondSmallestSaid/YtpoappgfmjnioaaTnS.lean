/- Contracts: the second smallest in the reference. -/
import Derived.Test.YtpoappgfmjnioaaTnH
set_option linter.unusedSimpArgs false
set_option linter.unusedVariables false
set_option linter.unusedSectionVars false
set_option linter.unnecessarySimpa false
namespace Go.Proofs.Ytpoappgfmjnioaa
open Go Go.Ax
set_option maxRecDepth 10000
set_option maxHeartbeats 1000000

def ssV (xs : List Int) : List AV := cond (validB xs && decide (2 ≤ xs.length)) [aI ((srtL (vals xs (tnB xs))).getD 0 0), aI ((tnR xs).2 + (tnB xs).length - 1 : Nat), aB true] [aI 0, aI 0, aB false]

/-- The outer loop's state. -/
structure SO where
  g : Nat
  ps : List En
  hp : Nat
  cs : List C
  H : Hp
  c : Nat
/-- The inner loop's. -/
structure SI where
  i : Nat
  N : List En
  R : List En
  hn : Nat
  cs : List C
  H : Hp
  c : Nat
/-- The reference's slices of those beaten stand in one row, by index. -/
structure SJ (xs : List Int) (S : List Nat) (H : Hp) (cs : List C) (es : List En) : Prop where
  lj : LJ idZ S H es
  list : H[0]? = some (rI xs)
  los : H[2]? = some (cR cs)
  csl : cs.length = xs.length
  one : cs.all C.isOne = true
  cl : Cl H
  ent : ∀ e ∈ es, e.1.1 < xs.length ∧ (∀ b ∈ e.1.2, b < xs.length) ∧ cs[e.1.1]? = some (cellE e)
  nod : (ids es).Nodup
theorem mch_cases (xs : List Int) (p q : Pr) : ((mch xs p q).1 = p.1 ∧ (mch xs p q).2 = p.2 ++ [q.1]) ∨ ((mch xs p q).1 = q.1 ∧ (mch xs p q).2 = q.2 ++ [p.1]) := by
  unfold mch; split
  · exact .inr ⟨rfl, rfl⟩
  · exact .inl ⟨rfl, rfl⟩
theorem SJ.step {xs : List Int} {S S' T : List Nat} {H H' : Hp} {cs : List C} {N R : List En} {p q w : En} (hJ : SJ xs S H cs (N ++ p :: q :: R)) (hE : Exc T H H')
    (hT : ∀ t ∈ T, t ∈ S ∨ t = p.2 ∧ p.1.2 ≠ [] ∨ t = q.2 ∧ q.1.2 ≠ []) (hS : ∀ s ∈ S', s ∈ S ∨ H.length ≤ s) (h0 : 0 ∉ T) (hw : w.1 = mch xs p.1 q.1) (hrow : H'[w.2]? = some (oI (idZ w.1.2)))
    (hlos : H'[2]? = some (cR (cs.set w.1.1 (cellE w)))) (hn : H.length ≤ w.2) (hwS : w.2 ∉ S') (cl : Cl H') : SJ xs S' H' (cs.set w.1.1 (cellE w)) (N ++ [w] ++ R) := by
  obtain ⟨lj, list, los, csl, one, _, ent, nod⟩ := hJ
  have hp := ent p (by simp)
  have hq := ent q (by simp)
  have nd : (ids N ++ (p.1.1 :: q.1.1 :: ids R)).Nodup := by rw [ids_app] at nod; exact nod
  have nd2 := List.nodup_append.1 nd
  have ndp := List.nodup_cons.1 nd2.2.1
  have ndq := List.nodup_cons.1 ndp.2
  have hwi : w.1.1 = p.1.1 ∨ w.1.1 = q.1.1 := by
    rw [hw]; rcases mch_cases xs p.1 q.1 with h | h
    · exact .inl h.1
    · exact .inr h.1
  have hwn : w.1.1 < xs.length := by rcases hwi with h | h <;> rw [h]
                                     · exact hp.1
                                     · exact hq.1
  have hother : ∀ e, (e ∈ N ∨ e ∈ R) → e.1.1 ≠ w.1.1 := by
    intro e he
    have m1 : e.1.1 ≠ p.1.1 := by
      rcases he with h | h
      · exact nd2.2.2 _ (List.mem_map_of_mem h) _ (by simp)
      · intro e'; exact ndp.1 (by rw [← e']; exact List.mem_cons_of_mem _ (List.mem_map_of_mem h))
    have m2 : e.1.1 ≠ q.1.1 := by
      rcases he with h | h
      · exact nd2.2.2 _ (List.mem_map_of_mem h) _ (by simp)
      · intro e'; exact ndq.1 (by rw [← e']; exact List.mem_map_of_mem h)
    rcases hwi with h | h <;> rw [h]
    · exact m1
    · exact m2
  refine ⟨lj.step hE hT hS (fun _ => hrow) hn hwS, hE _ _ list h0, hlos, by rw [List.length_set, csl], ?_, cl, ?_, ?_⟩
  · rw [List.all_eq_true] at one ⊢
    intro c hc
    rcases List.mem_or_eq_of_mem_set hc with h | rfl
    · exact one c h
    · exact cellE_one w
  · intro e he
    simp only [List.mem_append, List.mem_singleton] at he
    have hold : (e ∈ N ∨ e ∈ R) → e.1.1 < xs.length ∧ (∀ b ∈ e.1.2, b < xs.length) ∧ (cs.set w.1.1 (cellE w))[e.1.1]? = some (cellE e) := fun h => by
      have h3 := ent e (by rcases h with h | h <;> simp [h])
      exact ⟨h3.1, h3.2.1, by rw [List.getElem?_set_ne (Ne.symm (hother e h))]; exact h3.2.2⟩
    rcases he with (he | rfl) | he
    · exact hold (.inl he)
    · refine ⟨hwn, fun b hb => ?_, by rw [List.getElem?_set]; simp [csl, hwn]⟩
      rw [hw] at hb
      rcases mch_cases xs p.1 q.1 with h | h <;> rw [h.2] at hb <;> simp only [List.mem_append, List.mem_singleton] at hb <;> rcases hb with hb | rfl
      · exact hp.2.1 b hb
      · exact hq.1
      · exact hq.2.1 b hb
      · exact hp.1
    · exact hold (.inr he)
  · rw [ids_app, ids_app, List.append_assoc]
    refine List.nodup_append.2 ⟨nd2.1, List.nodup_cons.2 ⟨fun h => ?_, ndq.2⟩, fun a ha b hb => ?_⟩
    · obtain ⟨e, he, e'⟩ := List.mem_map.1 h
      exact hother e (.inr he) e'
    · simp only [List.mem_append] at hb
      rcases hb with hb | hb
      · obtain ⟨e, he, rfl⟩ := List.mem_map.1 ha
        simp [ids] at hb
        rw [hb]; exact hother e (.inl he)
      · exact nd2.2.2 a ha b (by simp [hb])
theorem SJ.keep {xs : List Int} {S S' T : List Nat} {H H' : Hp} {cs : List C} {es : List En} (hJ : SJ xs S H cs es) (hE : Exc T H H') (hT : ∀ t ∈ T, t ∈ S) (hS : ∀ s ∈ S', s ∈ S ∨ H.length ≤ s) (h0 : 0 ∉ T) (h2 : 2 ∉ T) (cl : Cl H') : SJ xs S' H' cs es :=
  ⟨hJ.lj.keep hE hT hS, hE _ _ hJ.list h0, hE _ _ hJ.los h2, hJ.csl, hJ.one, cl, hJ.ent, hJ.nod⟩

/-- The outer loop's invariant. -/
structure OJ (xs : List Int) (s : SO) : Prop where
  run : tnT xs s.g (prs s.ps) s.c = tnR xs
  fuel : s.ps.length ≤ s.g + 1
  pos : 1 ≤ s.ps.length
  cnt : s.c + s.ps.length = xs.length
  row : s.H[s.hp]? = some (oI (idZ (ids s.ps)))
  sj : SJ xs [2, s.hp] s.H s.cs s.ps
  few : ∀ e ∈ s.ps, e.1.2.length ≤ s.c
/-- The inner loop's. -/
structure IJ (xs : List Int) (s : SO) (t : SI) : Prop where
  run : prs t.N ++ rnd xs (prs t.R) = rnd xs (prs s.ps)
  rest : ids t.R = (ids s.ps).drop t.i
  pos : t.i + t.R.length = s.ps.length ∨ (t.R = [] ∧ s.ps.length ≤ t.i ∧ t.i ≤ s.ps.length + 1)
  cnt : t.c + t.R.length / 2 = s.c + s.ps.length / 2
  len : t.N.length + t.R.length ≤ s.ps.length
  row : t.H[s.hp]? = some (oI (idZ (ids s.ps)))
  nxt : t.H[t.hn]? = some (oI (idZ (ids t.N)))
  ne : t.hn ≠ s.hp
  sj : SJ xs [2, s.hp, t.hn] t.H t.cs (t.N ++ t.R)
  few : ∀ e ∈ t.N ++ t.R, e.1.2.length ≤ t.c
def en0 (n : Nat) : List En := (ini n).map fun p => (p, 0)
theorem en0_ids (n : Nat) : ids (en0 n) = List.range n := by simp [ids, en0, ini, Function.comp_def]
theorem en0_prs (n : Nat) : prs (en0 n) = ini n := by simp [prs, en0, Function.comp_def]
theorem en0_len (n : Nat) : (en0 n).length = n := by simp [en0, ini]
theorem en0_bt {n : Nat} {e : En} (h : e ∈ en0 n) : e.1.2 = [] ∧ e.1.1 < n := by
  simp only [en0, ini, List.map_map, List.mem_map, List.mem_range] at h
  obtain ⟨i, hi, rfl⟩ := h
  exact ⟨rfl, hi⟩
theorem sj0 (xs : List Int) : SJ xs [2, 1] [rI xs, oI (idZ (List.range xs.length)), cR (List.replicate xs.length (.v (.slice none 0 0)))] (List.replicate xs.length (.v (.slice none 0 0))) (en0 xs.length) := by
  refine ⟨⟨fun e he hne => absurd (en0_bt he).1 hne, ?_⟩, rfl, rfl, by simp, ?_, ?_, fun e he => ⟨(en0_bt he).2, by rw [(en0_bt he).1]; simp, ?_⟩, ?_⟩
  · exact List.Pairwise.imp_of_mem (R := fun _ _ => True) (fun ha _ _ => .inl (en0_bt ha).1) (List.pairwise_of_forall (fun _ _ => trivial))
  · rw [List.all_eq_true]; intro c hc; rw [List.eq_of_mem_replicate hc]; rfl
  · intro r hr h hh
    simp at hr
    rcases hr with rfl | rfl | rfl
    · simp [Row.hs, Dat.hs] at hh
    · simp [Row.hs, Dat.hs] at hh
    · simp only [Row.hs, Dat.hs, List.mem_flatMap] at hh
      obtain ⟨c, hc, hh⟩ := hh
      rw [List.eq_of_mem_replicate hc] at hh
      simp [C.hs] at hh
  · rw [List.getElem?_replicate, if_pos (en0_bt he).2, cellE, if_pos (en0_bt he).1]
  · rw [en0_ids]; exact List.nodup_range
theorem idL_snoc (i : Nat) : idZ (List.range (i + 1)) = idZ (List.range i) ++ [(i : Int)] := by simp [idZ, List.range_succ]

theorem sSec_l (xs : List Int) (hx : xs.length ≤ 281474976710656) : ACalls Try.prog 37 [tS 0 xs.length] [] [rI xs] (fun t H => t = .tup (ssV xs) ∧ H = [rI xs]) := by
  refine afun (fun i => match i with | 17 => some ⟨[], .op 0 .held (.op 1 .held (.op 2 .held (.op 3 .now (.op 4 .held (.op 5 .held (.op 6 .held (.op 7 .held (.op 8 .now (.op 9 .held (.op 10 .held .nil))))))))))⟩ | 19 => some ⟨[], .op 0 .held (.op 1 .held (.op 2 .held (.op 3 .now (.op 4 .held (.op 5 .held (.op 6 .held (.op 7 .now (.op 8 .held .nil))))))))⟩ | _ => none) [2, 3, 4] 1 Try.func37 rfl rfl mix (by kernel_rfl) (by kernel_rfl) (by simp [Try.f37]) rfl (by simp [msOwn, ownAll, Row.own]) ?_
  simp (dsimp := false) only [go_sem, Nat.reduceAdd, Nat.reduceBEq, Nat.reduceEqDiff, Nat.reduceLT, Nat.reduceLeDiff, reduceCtorEq, ↓reduceIte]
  cases hv : validB xs
  · repeat (refine And.intro (by first | exact True.intro | omega | kernel_rfl | (simp only [List.length_set, List.length_append, List.length_take, List.length_replicate, List.length_cons, true_and, and_true, List.length_nil, tabR_length]; omega)) ?_)
    refine ⟨_, (l2List_l xs hx).lift [0] (by decide) (by simp) (by simp [RS.slot, List.map_cons, List.map_nil, rowsLe, rowLe, slotsLe, tvLe, TV.ren, AV.ren, C.ren, Dat.ren, Row.ren, TV.hs, AV.hs, C.hs, Dat.hs, get_cons, get_nil, zipSlots, List.getD_cons_zero, List.getD_cons_succ, List.getD_nil, -List.getD_eq_getElem?_getD]) (by simp [RS.slot, List.map_cons, List.map_nil, rowsLe, rowLe, slotsLe, tvLe, TV.ren, AV.ren, C.ren, Dat.ren, Row.ren, TV.hs, AV.hs, C.hs, Dat.hs, get_cons, get_nil, zipSlots, List.getD_cons_zero, List.getD_cons_succ, List.getD_nil, -List.getD_eq_getElem?_getD]) (by simp [RS.slot, List.map_cons, List.map_nil, rowsLe, rowLe, slotsLe, tvLe, TV.ren, AV.ren, C.ren, Dat.ren, Row.ren, TV.hs, AV.hs, C.hs, Dat.hs, get_cons, get_nil, zipSlots, List.getD_cons_zero, List.getD_cons_succ, List.getD_nil, -List.getD_eq_getElem?_getD]) rfl ?_⟩
    rintro _ _ ⟨rfl, rfl⟩
    refine ⟨by simp [ownIn, Row.own], ?_⟩
    simp (dsimp := false) only [hv, liftT, liftH, putBack, freshR, ownIn, Row.own, Row.ren, TV.ren, AV.ren, C.ren, Dat.ren, List.drop_succ_cons, List.drop_nil, List.getD_cons_zero, List.getD_cons_succ, List.getD_nil, go_sem, Nat.reduceAdd, Nat.reduceBEq, Nat.reduceEqDiff, Nat.reduceLT, Nat.reduceLeDiff, reduceCtorEq, ↓reduceIte]
    refine afin [0] [aI 0, aI 0, aB false] [rI xs] (by simp) rfl (weak_of (by decide) (by simp [RS.slot, List.map_cons, List.map_nil, rowsLe, rowLe, slotsLe, tvLe, TV.ren, AV.ren, C.ren, Dat.ren, Row.ren, TV.hs, AV.hs, C.hs, Dat.hs, get_cons, get_nil, zipSlots, List.getD_cons_zero, List.getD_cons_succ, List.getD_nil, -List.getD_eq_getElem?_getD])) (by simp only [rtv, ssV, hv, Bool.false_and, cond_false, and_self])
  by_cases h2 : xs.length < 2
  · have hd : decide ((xs.length : Int) < 2) = true := decide_eq_true (by omega)
    have hd2 : decide (2 ≤ xs.length) = false := decide_eq_false (by omega)
    repeat (refine And.intro (by first | exact True.intro | omega | kernel_rfl | (simp only [List.length_set, List.length_append, List.length_take, List.length_replicate, List.length_cons, true_and, and_true, List.length_nil, tabR_length]; omega)) ?_)
    refine ⟨_, (l2List_l xs hx).lift [0] (by decide) (by simp) (by simp [RS.slot, List.map_cons, List.map_nil, rowsLe, rowLe, slotsLe, tvLe, TV.ren, AV.ren, C.ren, Dat.ren, Row.ren, TV.hs, AV.hs, C.hs, Dat.hs, get_cons, get_nil, zipSlots, List.getD_cons_zero, List.getD_cons_succ, List.getD_nil, -List.getD_eq_getElem?_getD]) (by simp [RS.slot, List.map_cons, List.map_nil, rowsLe, rowLe, slotsLe, tvLe, TV.ren, AV.ren, C.ren, Dat.ren, Row.ren, TV.hs, AV.hs, C.hs, Dat.hs, get_cons, get_nil, zipSlots, List.getD_cons_zero, List.getD_cons_succ, List.getD_nil, -List.getD_eq_getElem?_getD]) (by simp [RS.slot, List.map_cons, List.map_nil, rowsLe, rowLe, slotsLe, tvLe, TV.ren, AV.ren, C.ren, Dat.ren, Row.ren, TV.hs, AV.hs, C.hs, Dat.hs, get_cons, get_nil, zipSlots, List.getD_cons_zero, List.getD_cons_succ, List.getD_nil, -List.getD_eq_getElem?_getD]) rfl ?_⟩
    rintro _ _ ⟨rfl, rfl⟩
    refine ⟨by simp [ownIn, Row.own], ?_⟩
    simp (dsimp := false) only [hv, hd, liftT, liftH, putBack, freshR, ownIn, Row.own, Row.ren, TV.ren, AV.ren, C.ren, Dat.ren, List.drop_succ_cons, List.drop_nil, List.getD_cons_zero, List.getD_cons_succ, List.getD_nil, go_sem, Nat.reduceAdd, Nat.reduceBEq, Nat.reduceEqDiff, Nat.reduceLT, Nat.reduceLeDiff, reduceCtorEq, ↓reduceIte]
    refine afin [0] [aI 0, aI 0, aB false] [rI xs] (by simp) rfl (weak_of (by decide) (by simp [RS.slot, List.map_cons, List.map_nil, rowsLe, rowLe, slotsLe, tvLe, TV.ren, AV.ren, C.ren, Dat.ren, Row.ren, TV.hs, AV.hs, C.hs, Dat.hs, get_cons, get_nil, zipSlots, List.getD_cons_zero, List.getD_cons_succ, List.getD_nil, -List.getD_eq_getElem?_getD])) (by simp only [rtv, ssV, hv, hd2, Bool.and_false, cond_false, and_self])
  have h64 := validB_len hv
  have hd : decide ((xs.length : Int) < 2) = false := decide_eq_false (by omega)
  have hd2 : decide (2 ≤ xs.length) = true := decide_eq_true (by omega)
  repeat (refine And.intro (by first | exact True.intro | omega | kernel_rfl | (simp only [List.length_set, List.length_append, List.length_take, List.length_replicate, List.length_cons, true_and, and_true, List.length_nil, tabR_length]; omega)) ?_)
  refine ⟨_, (l2List_l xs hx).lift [0] (by decide) (by simp) (by simp [RS.slot, List.map_cons, List.map_nil, rowsLe, rowLe, slotsLe, tvLe, TV.ren, AV.ren, C.ren, Dat.ren, Row.ren, TV.hs, AV.hs, C.hs, Dat.hs, get_cons, get_nil, zipSlots, List.getD_cons_zero, List.getD_cons_succ, List.getD_nil, -List.getD_eq_getElem?_getD]) (by simp [RS.slot, List.map_cons, List.map_nil, rowsLe, rowLe, slotsLe, tvLe, TV.ren, AV.ren, C.ren, Dat.ren, Row.ren, TV.hs, AV.hs, C.hs, Dat.hs, get_cons, get_nil, zipSlots, List.getD_cons_zero, List.getD_cons_succ, List.getD_nil, -List.getD_eq_getElem?_getD]) (by simp [RS.slot, List.map_cons, List.map_nil, rowsLe, rowLe, slotsLe, tvLe, TV.ren, AV.ren, C.ren, Dat.ren, Row.ren, TV.hs, AV.hs, C.hs, Dat.hs, get_cons, get_nil, zipSlots, List.getD_cons_zero, List.getD_cons_succ, List.getD_nil, -List.getD_eq_getElem?_getD]) rfl ?_⟩
  rintro _ _ ⟨rfl, rfl⟩
  refine ⟨by simp [ownIn, Row.own], ?_⟩
  simp (dsimp := false) only [hv, hd, liftT, liftH, putBack, freshR, ownIn, Row.own, Row.ren, TV.ren, AV.ren, C.ren, Dat.ren, List.drop_succ_cons, List.drop_nil, List.getD_cons_zero, List.getD_cons_succ, List.getD_nil, go_sem, Nat.reduceAdd, Nat.reduceBEq, Nat.reduceEqDiff, Nat.reduceLT, Nat.reduceLeDiff, reduceCtorEq, ↓reduceIte]
  repeat (refine And.intro (by first | exact True.intro | omega | kernel_rfl | (simp only [List.length_set, List.length_append, List.length_take, List.length_replicate, List.length_cons, true_and, and_true, List.length_nil, tabR_length]; omega)) ?_)
  refine aloop (σ := Nat) (fun i => ([(0, tS 0 xs.length), (5, tS 1 i), (6, tSS 2 xs.length), (7, tI i)], [rI xs, oI (idZ (List.range i)), cR (List.replicate xs.length (.v (.slice none 0 0)))])) (fun i => i ≤ xs.length) (fun i => xs.length - i) 0 ([0, 1, 2]) (Nat.zero_le _) (weak_of (by decide) (by simp [RS.slot, List.map_cons, List.map_nil, rowsLe, rowLe, slotsLe, tvLe, TV.ren, AV.ren, C.ren, Dat.ren, Row.ren, TV.hs, AV.hs, C.hs, Dat.hs, get_cons, get_nil, zipSlots, List.getD_cons_zero, List.getD_cons_succ, List.getD_nil, -List.getD_eq_getElem?_getD, idZ])) ?_
  intro i hi
  by_cases hin : i < xs.length
  · have hcd : decide ((i : Int) < (xs.length : Int)) = true := decide_eq_true (by omega)
    have hil : (idZ (List.range i)).length = i := by rw [idZ_len, List.length_range]
    have hsn := idL_snoc i
    simp (dsimp := false) only [hcd, hil, go_sem, Nat.reduceAdd, Nat.reduceBEq, Nat.reduceEqDiff, Nat.reduceLT, Nat.reduceLeDiff, reduceCtorEq, ↓reduceIte]
    repeat (refine And.intro (by first | exact True.intro | omega | kernel_rfl | (simp only [List.length_set, List.length_append, List.length_take, List.length_replicate, List.length_cons, true_and, and_true, List.length_nil, tabR_length]; omega)) ?_)
    refine ⟨i + 1, [0, 4, 2], ?_, weak_of (by decide) (by simp [RS.slot, List.map_cons, List.map_nil, rowsLe, rowLe, slotsLe, tvLe, TV.ren, AV.ren, C.ren, Dat.ren, Row.ren, TV.hs, AV.hs, C.hs, Dat.hs, get_cons, get_nil, zipSlots, List.getD_cons_zero, List.getD_cons_succ, List.getD_nil, -List.getD_eq_getElem?_getD, hsn])⟩
    omega
  have hie : i = xs.length := by omega
  subst hie
  have hcd : decide ((xs.length : Int) < (xs.length : Int)) = false := decide_eq_false (by omega)
  simp (dsimp := false) only [hcd, go_sem, Nat.reduceAdd, Nat.reduceBEq, Nat.reduceEqDiff, Nat.reduceLT, Nat.reduceLeDiff, reduceCtorEq, ↓reduceIte]
  have hJ0 : OJ xs ⟨xs.length, en0 xs.length, 1, List.replicate xs.length (.v (.slice none 0 0)), [rI xs, oI (idZ (List.range xs.length)), cR (List.replicate xs.length (.v (.slice none 0 0)))], 0⟩ :=
    ⟨by rw [en0_prs]; rfl, by simp only [en0_len]; omega, by simp only [en0_len]; omega, by simp only [en0_len]; omega, by rw [en0_ids]; rfl, sj0 xs, fun e he => by rw [(en0_bt he).1]; simp⟩
  have hcl := hJ0.sj.cl
  refine aloopQ (σ := SO) (fun s => ([(0, tS 0 xs.length), (5, tS s.hp s.ps.length), (6, tSS 2 xs.length), (8, tI s.c)], s.H)) (fun s => OJ xs s) (fun s => s.g) (⟨xs.length, en0 xs.length, 1, List.replicate xs.length (.v (.slice none 0 0)), [rI xs, oI (idZ (List.range xs.length)), cR (List.replicate xs.length (.v (.slice none 0 0)))], 0⟩) (List.range 3) hJ0 (wk_id (by simp) hcl (by simp [slId, get_cons, get_nil, TV.hs, AV.hs, C.hs, RS.slot, zipSlots, en0_len])) ?_
  clear hJ0 hcl
  rintro Q hQ s ⟨j1, j2, j3, j4, j5, j6, j7⟩
  have l0 := j6.list
  have l2 := j6.los
  have hl0 := getlt l0
  have hl2 := getlt l2
  have hlp := getlt j5
  have hip : (idZ (ids s.ps)).length = s.ps.length := by rw [idZ_len, ids_len]
  by_cases h1 : 1 < s.ps.length
  · have hcd : decide ((1 : Int) < (s.ps.length : Int)) = true := decide_eq_true (by omega)
    simp (dsimp := false) only [hcd, go_sem, Nat.reduceAdd, Nat.reduceBEq, Nat.reduceEqDiff, Nat.reduceLT, Nat.reduceLeDiff, reduceCtorEq, ↓reduceIte]
    repeat (refine And.intro (by first | exact True.intro | omega | kernel_rfl | (simp only [List.length_set, List.length_append, List.length_take, List.length_replicate, List.length_cons, true_and, and_true, List.length_nil, tabR_length]; omega)) ?_)
    have hI0 : IJ xs s ⟨0, [], s.ps, s.H.length, s.cs, s.H ++ [oI []], s.c⟩ := by
      refine ⟨rfl, rfl, .inl (by simp), rfl, by simp, lkp j5, lkn _ _, by show s.H.length ≠ s.hp; omega, ?_, j7⟩
      exact j6.keep (Exc.app (Exc.refl [] s.H) _) (by simp) (fun x hx => by simp at hx ⊢; omega) (by simp) (by simp) (cl_oI j6.cl)
    have hcl := hI0.sj.cl
    refine aloopQ (σ := SI) (fun t => ([(0, tS 0 xs.length), (5, tS s.hp s.ps.length), (6, tSS 2 xs.length), (8, tI t.c), (9, tS t.hn t.N.length), (10, tI t.i)], t.H)) (fun t => IJ xs s t) (fun t => s.ps.length + 2 - t.i) (⟨0, [], s.ps, s.H.length, s.cs, s.H ++ [oI []], s.c⟩) (List.range (s.H ++ [oI []]).length) hI0 (wk_id (by simp) hcl (by simp [slId, get_cons, get_nil, TV.hs, AV.hs, C.hs, RS.slot, zipSlots]; omega)) ?_
    clear hI0 hcl
    rintro Q2 hQ2 ⟨i, N, R, hn, cs, H, c⟩ ⟨i1, i2, i3, i4, i5, i6, i7, i8, i9, i10⟩
    simp only at i1 i2 i3 i4 i5 i6 i7 i8 i9 i10
    have hcl := i9.cl
    have l0' := i9.list
    have l2' := i9.los
    have hH0 := getlt l0'
    have hH2 := getlt l2'
    have hHp := getlt i6
    have hHn := getlt i7
    have hn0 : hn ≠ 0 := fun e => by rw [e, l0'] at i7; cases i7
    have hn2' : hn ≠ 2 := fun e => by rw [e, l2'] at i7; cases i7
    have hp2' : s.hp ≠ 2 := fun e => by rw [e, l2'] at i6; cases i6
    have hNl : (idZ (ids N)).length = N.length := by rw [idZ_len, ids_len]
    have hLl : (idZ (ids s.ps)).length = s.ps.length := by rw [idZ_len, ids_len]
    have hcsl := i9.csl
    have hat : ∀ k, k < R.length → (idZ (ids s.ps)).getD (i + k) 0 = (((ids R).getD k 0 : Nat) : Int) := fun k hk => by
      have hk2 : i + k < s.ps.length := by rcases i3 with h | ⟨h, _⟩
                                           · omega
                                           · rw [h] at hk; simp at hk
      rw [idZ_get (by rw [ids_len]; exact hk2), i2, List.getD_eq_getElem?_getD, List.getD_eq_getElem?_getD, List.getElem?_drop]
    match R, i1, i2, i3, i4, i5, i9, i10, hat with
    | [], i1, i2, i3, i4, i5, i9, i10, hat =>
      have hcd : decide ((i : Int) < (s.ps.length : Int)) = false := decide_eq_false (by rcases i3 with h | h <;> simp at h <;> omega)
      obtain ⟨g, hg⟩ : ∃ g, s.g = g + 1 := ⟨s.g - 1, by omega⟩
      rw [hg, tnT_step (by rw [prs_len]; exact h1)] at j1
      have hrl := rnd_len xs (prs s.ps)
      have e0 : prs N = rnd xs (prs s.ps) := by rw [← i1]; simp [prs, rnd]
      rw [← e0, prs_len, prs_len] at hrl
      simp (dsimp := false) only [hcd, go_sem, Nat.reduceAdd, Nat.reduceBEq, Nat.reduceEqDiff, Nat.reduceLT, Nat.reduceLeDiff, reduceCtorEq, ↓reduceIte]
      refine hQ2 _ _ _ ?_
      simp (dsimp := false) only [go_sem, Nat.reduceAdd, Nat.reduceBEq, Nat.reduceEqDiff, Nat.reduceLT, Nat.reduceLeDiff, reduceCtorEq, ↓reduceIte]
      refine ⟨⟨g, N, hn, cs, H, c⟩, List.range H.length, ⟨⟨?_, by show N.length ≤ g + 1; omega, by show 1 ≤ N.length; omega, by show c + N.length = _; simp at i4; omega, i7, ?_, by simpa using i10⟩, by show g < s.g; omega⟩, wk_id (by omega) hcl (by simp [slId, get_cons, get_nil, TV.hs, AV.hs, C.hs, RS.slot, zipSlots, hHp, hHn, hH0, hH2])⟩
      · show tnT xs g (prs N) c = _
        rw [← j1, e0, prs_len]; congr 1
      · have := i9.keep (Exc.refl [] H) (S' := [2, hn]) (by simp) (fun x hx => by simp at hx ⊢; rcases hx with h | h <;> simp [h]) (by simp) (by simp) hcl
        simpa using this
    | [p], i1, i2, i3, i4, i5, i9, i10, hat =>
      have hil : i + 1 = s.ps.length := by rcases i3 with h | h <;> simp at h; exact h
      have hcd : decide ((i : Int) < (s.ps.length : Int)) = true := decide_eq_true (by omega)
      have deq : ((i : Int) + 1 == (s.ps.length : Int)) = true := by rw [beq_iff_eq]; omega
      have gp : (idZ (ids s.ps)).getD i 0 = (p.1.1 : Int) := hat 0 (by simp)
      have qN : (H ++ [oI [(p.1.1 : Int)]])[hn]? = some (oI (idZ (ids N))) := lkp i7
      have qA : (H ++ [oI [(p.1.1 : Int)]])[H.length]? = some (oI [(p.1.1 : Int)]) := lkn _ _
      simp at i5
      simp (dsimp := false) only [hcd, deq, i6, gp, qN, qA, hNl, hLl, List.length_append, List.length_set, List.length_cons, List.length_nil, List.take_succ_cons, List.take_zero, Int.toNat_natCast, go_sem, Nat.reduceAdd, Nat.reduceBEq, Nat.reduceEqDiff, Nat.reduceLT, Nat.reduceLeDiff, reduceCtorEq, ↓reduceIte]
      repeat (refine And.intro (by first | exact True.intro | omega | kernel_rfl | (simp only [List.length_set, List.length_append, List.length_take, List.length_replicate, List.length_cons, true_and, and_true, List.length_nil, tabR_length]; omega)) ?_)
      have eF : Exc [hn] H ((H ++ [oI [(p.1.1 : Int)]]).set hn .dead ++ [oI (idZ (ids N) ++ [(p.1.1 : Int)])]) := ((Exc.refl [hn] H).app _ |>.set _ (by simp)).app _
      have hcl : Cl ((H ++ [oI [(p.1.1 : Int)]]).set hn .dead ++ [oI (idZ (ids N) ++ [(p.1.1 : Int)])]) := cl_oI (cl_dead (cl_oI hcl))
      refine ⟨⟨i + 2, N ++ [p], [], H.length + 1, cs, (H ++ [oI [(p.1.1 : Int)]]).set hn .dead ++ [oI (idZ (ids N) ++ [(p.1.1 : Int)])], c⟩, List.range ((H ++ [oI [(p.1.1 : Int)]]).set hn .dead ++ [oI (idZ (ids N) ++ [(p.1.1 : Int)])]).length, ⟨⟨?_, ?_, .inr ⟨rfl, by show s.ps.length ≤ i + 2; omega, by show i + 2 ≤ s.ps.length + 1; omega⟩, ?_, ?_, ?_, ?_, ?_, ?_, by simpa using i10⟩, by show s.ps.length + 2 - (i + 2) < s.ps.length + 2 - i; omega⟩, wk_id (by simp) hcl (by simp [slId, get_cons, get_nil, TV.hs, AV.hs, C.hs, RS.slot, zipSlots]; omega)⟩
      · show prs (N ++ [p]) ++ rnd xs (prs []) = _
        rw [← i1, prs_app]; simp [prs, rnd]
      · show ids [] = (ids s.ps).drop (i + 2)
        rw [List.drop_eq_nil_of_le (by rw [ids_len]; omega)]; rfl
      · show c + 0 / 2 = _; simp at i4; omega
      · show (N ++ [p]).length + 0 ≤ _; simp; omega
      · exact eF _ _ i6 (by simp; omega)
      · show (_ ++ [_])[H.length + 1]? = _
        rw [lkn' (by simp), ids_app, idZ_app]; rfl
      · show H.length + 1 ≠ s.hp; omega
      · have := i9.keep eF (S' := [2, s.hp, H.length + 1]) (by simp) (fun x hx => by simp at hx ⊢; rcases hx with h | h | h <;> simp [h]) (by simp; omega) (by simp; omega) hcl
        simpa using this
    | p :: q :: R, i1, i2, i3, i4, i5, i9, i10, hat =>
      have hil : i + (R.length + 2) = s.ps.length := by rcases i3 with h | h <;> simp at h; exact h
      have hcd : decide ((i : Int) < (s.ps.length : Int)) = true := decide_eq_true (by omega)
      have deq : (((i + 1 : Nat) : Int) == (s.ps.length : Int)) = false := by rw [beq_eq_false_iff_ne]; omega
      have e1 : (i : Int) + 1 = ((i + 1 : Nat) : Int) := by omega
      have gp : (idZ (ids s.ps)).getD i 0 = (p.1.1 : Int) := hat 0 (by simp)
      have gq : (idZ (ids s.ps)).getD (i + 1) 0 = (q.1.1 : Int) := hat 1 (by simp)
      have hEp := i9.ent p (by simp)
      have hEq := i9.ent q (by simp)
      have xp := hEp.1
      have xq := hEq.1
      have bp := i10 p (by simp)
      have bq := i10 q (by simp)
      have hcn : c ≤ 64 := by simp at i4; omega
      simp at i5 i4
      by_cases hlt : xs.getD q.1.1 0 < xs.getD p.1.1 0
      · have dlt : decide (xs.getD q.1.1 0 < xs.getD p.1.1 0) = true := decide_eq_true hlt
        by_cases hb : q.1.2 = []
        · --
          have hm : mch xs p.1 q.1 = (q.1.1, q.1.2 ++ [p.1.1]) := by rw [mch, if_pos hlt]
          have hca : q.1.1 < cs.length := by omega
          have hce : cs[q.1.1]? = some (.v (.slice none 0 0)) := by rw [hEq.2.2, cellE, if_pos hb]
          obtain ⟨HC, hHC⟩ : ∃ HC, HC = ((H ++ [oI [(p.1.1 : Int)]]) ++ [oI [(p.1.1 : Int)]]).set 2 (cR (cs.set q.1.1 (cSl (H.length + 1) 1))) := ⟨_, rfl⟩
          have qx : ((H ++ [oI [(p.1.1 : Int)]]) ++ [oI [(p.1.1 : Int)]])[2]? = some (cR cs) := lkp (lkp l2')
          have qn : (H ++ [oI [(p.1.1 : Int)]])[H.length]? = some (oI [(p.1.1 : Int)]) := lkn _ _
          have hC0 : ((H ++ [oI [(p.1.1 : Int)]]) ++ [oI [(p.1.1 : Int)]])[H.length + 1]? = some (oI [(p.1.1 : Int)]) := lkn' (by simp)
          have eC : Exc [2] H HC := by rw [hHC]; exact ((Exc.refl [2] H).app _ |>.app _).set _ (by simp)
          have clC : Cl HC := by
            rw [hHC]
            refine cl_set (cl_oI (cl_oI hcl)) fun h hh => ?_
            simp only [Row.hs, Dat.hs, List.mem_flatMap] at hh
            obtain ⟨c', hc', hh⟩ := hh
            rcases List.mem_or_eq_of_mem_set hc' with h1 | rfl
            · have := hcl _ (List.mem_of_getElem? l2') h (by simp only [Row.hs, Dat.hs, List.mem_flatMap]; exact ⟨c', h1, hh⟩)
              simp; omega
            · simp [C.hs] at hh; simp; omega
          have lC : HC.length = H.length + 2 := by rw [hHC]; simp
          have hC2 : HC[2]? = some (cR (cs.set q.1.1 (cSl (H.length + 1) 1))) := by rw [hHC]; exact lkset (by simp; omega)
          have hC1 : HC[H.length + 1]? = some (oI [(p.1.1 : Int)]) := by rw [hHC]; exact lks hC0 (by omega)
          have hCn : HC[hn]? = some (oI (idZ (ids N))) := eC _ _ i7 (by simp; omega)
          have qN : (HC ++ [oI [(q.1.1 : Int)]])[hn]? = some (oI (idZ (ids N))) := lkp hCn
          have qA : (HC ++ [oI [(q.1.1 : Int)]])[HC.length]? = some (oI [(q.1.1 : Int)]) := lkn _ _
          simp (dsimp := false) only [hcd, deq, e1, i6, gp, gq, l0', xp, xq, dlt, l2', hce, qn, hNl, hca, hLl, List.length_append, List.length_set, List.length_cons, List.length_nil, List.take_succ_cons, List.take_zero, Int.toNat_natCast, go_sem, Nat.reduceAdd, Nat.reduceBEq, Nat.reduceEqDiff, Nat.reduceLT, Nat.reduceLeDiff, reduceCtorEq, ↓reduceIte]
          repeat (refine And.intro (by first | exact True.intro | omega | kernel_rfl | (simp only [List.length_set, List.length_append, List.length_take, List.length_replicate, List.length_cons, true_and, and_true, List.length_nil, tabR_length]; omega)) ?_)
          simp (dsimp := false) only [hcd, deq, e1, i6, gp, gq, l0', dlt, l2', hce, qn, qx, hNl, hca, hLl, ← hHC, qN, qA, List.length_append, List.length_set, List.length_cons, List.length_nil, List.take_succ_cons, List.take_zero, Int.toNat_natCast, go_sem, Nat.reduceAdd, Nat.reduceBEq, Nat.reduceEqDiff, Nat.reduceLT, Nat.reduceLeDiff, reduceCtorEq, ↓reduceIte]
          repeat (refine And.intro (by first | exact True.intro | omega | kernel_rfl | (simp only [List.length_set, List.length_append, List.length_take, List.length_replicate, List.length_cons, true_and, and_true, List.length_nil, tabR_length]; omega)) ?_)
          obtain ⟨w, hw⟩ : ∃ w : En, w = ((q.1.1, q.1.2 ++ [p.1.1]), H.length + 1) := ⟨_, rfl⟩
          have hw1 : w.1 = mch xs p.1 q.1 := by rw [hw, hm]
          have hwi : w.1.1 = q.1.1 := by rw [hw]
          have hw2 : w.2 = H.length + 1 := by rw [hw]
          have hce : cellE w = cSl (H.length + 1) 1 := by rw [hw, cellE, if_neg (by simp)]; simp [hb]
          obtain ⟨HF, hHF⟩ : ∃ HF, HF = (HC ++ [oI [(q.1.1 : Int)]]).set hn .dead ++ [oI (idZ (ids N) ++ [(q.1.1 : Int)])] := ⟨_, rfl⟩
          have eF : Exc [2, hn] H HF := by rw [hHF, hHC]; exact ((((((Exc.refl [2, hn] H).app _).app _).set _ (by simp)).app _).set _ (by simp)).app _
          have hclF : Cl HF := by rw [hHF]; exact cl_oI (cl_dead (cl_oI clC))
          have lF : HF.length = H.length + 4 := by rw [hHF]; simp [lC]
          have hrow : HF[w.2]? = some (oI (idZ w.1.2)) := by
            rw [hw2, show idZ w.1.2 = [(p.1.1 : Int)] by rw [hw]; simp [idZ, hb], hHF]
            exact lkp (lks (lkp hC1) (by omega))
          have hlos : HF[2]? = some (cR (cs.set w.1.1 (cellE w))) := by
            rw [hwi, hce, hHF]
            exact lkp (lks (lkp hC2) hn2')
          have hSJ := i9.step (S' := [2, s.hp, HC.length + 1]) (w := w) eF (fun x hx => by
            simp only [List.mem_cons, List.not_mem_nil, or_false] at hx
            rcases hx with rfl | rfl
            · exact .inl (by simp)
            · exact .inl (by simp)) (fun x hx => by
            simp only [List.mem_cons, List.not_mem_nil, or_false] at hx
            rcases hx with rfl | rfl | rfl
            · exact .inl (by simp)
            · exact .inl (by simp)
            · exact .inr (by omega)) (by simp; omega) hw1 hrow hlos (by omega) (by rw [hw2]; simp; omega) hclF
          rw [← hHF]
          refine ⟨⟨i + 2, N ++ [w], R, HC.length + 1, cs.set w.1.1 (cellE w), HF, c + 1⟩, List.range HF.length, ⟨⟨?_, ?_, .inl (by show i + 2 + R.length = s.ps.length; omega), ?_, ?_, eF _ _ i6 (by simp; omega), ?_, by show HC.length + 1 ≠ s.hp; omega, hSJ, ?_⟩, by show s.ps.length + 2 - (i + 2) < s.ps.length + 2 - i; omega⟩, wk_id (by omega) hclF (by simp [slId, get_cons, get_nil, TV.hs, AV.hs, C.hs, RS.slot, zipSlots] <;> omega)⟩
          · show prs (N ++ [w]) ++ rnd xs (prs R) = _
            rw [← i1, prs_app, List.append_assoc]
            show prs N ++ (w.1 :: rnd xs (prs R)) = prs N ++ rnd xs (p.1 :: q.1 :: prs R)
            rw [rnd_two, hw1]
          · show ids R = (ids s.ps).drop (i + 2)
            have := congrArg (List.drop 2) i2
            rw [List.drop_drop] at this
            exact this
          · show c + 1 + R.length / 2 = _; omega
          · show (N ++ [w]).length + R.length ≤ _; simp; omega
          · show HF[HC.length + 1]? = _
            rw [hHF, lkn' (by simp), ids_app, idZ_app]
            simp [ids, idZ, hwi]
          · intro e he
            simp only [List.mem_append, List.mem_singleton] at he
            show e.1.2.length ≤ c + 1
            rcases he with (he | rfl) | he
            · have := i10 e (by simp [he]); omega
            · rw [hw]; simp; omega
            · have := i10 e (by simp [he]); omega
        · --
          have hm : mch xs p.1 q.1 = (q.1.1, q.1.2 ++ [p.1.1]) := by rw [mch, if_pos hlt]
          have hca : q.1.1 < cs.length := by omega
          have hce : cs[q.1.1]? = some (cSl q.2 q.1.2.length) := by rw [hEq.2.2, cellE, if_neg hb]
          obtain ⟨hrw, hns⟩ := i9.lj.row q (by simp) hb
          have hrl := getlt hrw
          simp only [List.mem_cons, List.not_mem_nil, or_false, not_or] at hns
          obtain ⟨hn2, hnp, hnn⟩ := hns
          have hbl : (idZ q.1.2).length = q.1.2.length := idZ_len _
          obtain ⟨HC, hHC⟩ : ∃ HC, HC = ((H ++ [oI [(p.1.1 : Int)]]).set q.2 .dead ++ [oI (idZ q.1.2 ++ [(p.1.1 : Int)])]).set 2 (cR (cs.set q.1.1 (cSl (H.length + 1) (q.1.2.length + 1)))) := ⟨_, rfl⟩
          have qh : (H ++ [oI [(p.1.1 : Int)]])[q.2]? = some (oI (idZ q.1.2)) := lkp hrw
          have qx : ((H ++ [oI [(p.1.1 : Int)]]).set q.2 .dead ++ [oI (idZ q.1.2 ++ [(p.1.1 : Int)])])[2]? = some (cR cs) := lkp (lks (lkp l2') hn2)
          have qn : (H ++ [oI [(p.1.1 : Int)]])[H.length]? = some (oI [(p.1.1 : Int)]) := lkn _ _
          have hC0 : ((H ++ [oI [(p.1.1 : Int)]]).set q.2 .dead ++ [oI (idZ q.1.2 ++ [(p.1.1 : Int)])])[H.length + 1]? = some (oI (idZ q.1.2 ++ [(p.1.1 : Int)])) := lkn' (by simp)
          have eC : Exc [2, q.2] H HC := by rw [hHC]; exact (((Exc.refl [2, q.2] H).app _).set _ (by simp) |>.app _).set _ (by simp)
          have clC : Cl HC := by
            rw [hHC]
            refine cl_set (cl_oI (cl_dead (cl_oI hcl))) fun h hh => ?_
            simp only [Row.hs, Dat.hs, List.mem_flatMap] at hh
            obtain ⟨c', hc', hh⟩ := hh
            rcases List.mem_or_eq_of_mem_set hc' with h1 | rfl
            · have := hcl _ (List.mem_of_getElem? l2') h (by simp only [Row.hs, Dat.hs, List.mem_flatMap]; exact ⟨c', h1, hh⟩)
              simp; omega
            · simp [C.hs] at hh; simp; omega
          have lC : HC.length = H.length + 2 := by rw [hHC]; simp
          have hC2 : HC[2]? = some (cR (cs.set q.1.1 (cSl (H.length + 1) (q.1.2.length + 1)))) := by rw [hHC]; exact lkset (by simp; omega)
          have hC1 : HC[H.length + 1]? = some (oI (idZ q.1.2 ++ [(p.1.1 : Int)])) := by rw [hHC]; exact lks hC0 (by omega)
          have hCn : HC[hn]? = some (oI (idZ (ids N))) := eC _ _ i7 (by simp; omega)
          have qN : (HC ++ [oI [(q.1.1 : Int)]])[hn]? = some (oI (idZ (ids N))) := lkp hCn
          have qA : (HC ++ [oI [(q.1.1 : Int)]])[HC.length]? = some (oI [(q.1.1 : Int)]) := lkn _ _
          simp (dsimp := false) only [hcd, deq, e1, i6, gp, gq, l0', xp, xq, dlt, l2', hce, qh, hbl, qn, hNl, hca, hLl, List.length_append, List.length_set, List.length_cons, List.length_nil, List.take_succ_cons, List.take_zero, Int.toNat_natCast, go_sem, Nat.reduceAdd, Nat.reduceBEq, Nat.reduceEqDiff, Nat.reduceLT, Nat.reduceLeDiff, reduceCtorEq, ↓reduceIte]
          repeat (refine And.intro (by first | exact True.intro | omega | kernel_rfl | (simp only [List.length_set, List.length_append, List.length_take, List.length_replicate, List.length_cons, true_and, and_true, List.length_nil, tabR_length]; omega)) ?_)
          simp (dsimp := false) only [hcd, deq, e1, i6, gp, gq, l0', dlt, l2', hce, qh, hbl, qn, qx, hNl, hca, hLl, ← hHC, qN, qA, List.length_append, List.length_set, List.length_cons, List.length_nil, List.take_succ_cons, List.take_zero, Int.toNat_natCast, go_sem, Nat.reduceAdd, Nat.reduceBEq, Nat.reduceEqDiff, Nat.reduceLT, Nat.reduceLeDiff, reduceCtorEq, ↓reduceIte]
          repeat (refine And.intro (by first | exact True.intro | omega | kernel_rfl | (simp only [List.length_set, List.length_append, List.length_take, List.length_replicate, List.length_cons, true_and, and_true, List.length_nil, tabR_length]; omega)) ?_)
          obtain ⟨w, hw⟩ : ∃ w : En, w = ((q.1.1, q.1.2 ++ [p.1.1]), H.length + 1) := ⟨_, rfl⟩
          have hw1 : w.1 = mch xs p.1 q.1 := by rw [hw, hm]
          have hwi : w.1.1 = q.1.1 := by rw [hw]
          have hw2 : w.2 = H.length + 1 := by rw [hw]
          have hce : cellE w = cSl (H.length + 1) (q.1.2.length + 1) := by rw [hw, cellE, if_neg (by simp)]; simp
          obtain ⟨HF, hHF⟩ : ∃ HF, HF = (HC ++ [oI [(q.1.1 : Int)]]).set hn .dead ++ [oI (idZ (ids N) ++ [(q.1.1 : Int)])] := ⟨_, rfl⟩
          have eF : Exc [2, q.2, hn] H HF := by rw [hHF, hHC]; exact (((((((Exc.refl [2, q.2, hn] H).app _).set _ (by simp)).app _).set _ (by simp)).app _).set _ (by simp)).app _
          have hclF : Cl HF := by rw [hHF]; exact cl_oI (cl_dead (cl_oI clC))
          have lF : HF.length = H.length + 4 := by rw [hHF]; simp [lC]
          have hrow : HF[w.2]? = some (oI (idZ w.1.2)) := by
            rw [hw2, show idZ w.1.2 = (idZ q.1.2 ++ [(p.1.1 : Int)]) by rw [hw]; simp [idZ], hHF]
            exact lkp (lks (lkp hC1) (by omega))
          have hlos : HF[2]? = some (cR (cs.set w.1.1 (cellE w))) := by
            rw [hwi, hce, hHF]
            exact lkp (lks (lkp hC2) hn2')
          have hw0 : q.2 ≠ 0 := fun e => by rw [e, l0'] at hrw; cases hrw
          have hSJ := i9.step (S' := [2, s.hp, HC.length + 1]) (w := w) eF (fun x hx => by
            simp only [List.mem_cons, List.not_mem_nil, or_false] at hx
            rcases hx with rfl | rfl | rfl
            · exact .inl (by simp)
            · exact .inr (.inr ⟨rfl, hb⟩)
            · exact .inl (by simp)) (fun x hx => by
            simp only [List.mem_cons, List.not_mem_nil, or_false] at hx
            rcases hx with rfl | rfl | rfl
            · exact .inl (by simp)
            · exact .inl (by simp)
            · exact .inr (by omega)) (by simp; omega) hw1 hrow hlos (by omega) (by rw [hw2]; simp; omega) hclF
          rw [← hHF]
          refine ⟨⟨i + 2, N ++ [w], R, HC.length + 1, cs.set w.1.1 (cellE w), HF, c + 1⟩, List.range HF.length, ⟨⟨?_, ?_, .inl (by show i + 2 + R.length = s.ps.length; omega), ?_, ?_, eF _ _ i6 (by simp; omega), ?_, by show HC.length + 1 ≠ s.hp; omega, hSJ, ?_⟩, by show s.ps.length + 2 - (i + 2) < s.ps.length + 2 - i; omega⟩, wk_id (by omega) hclF (by simp [slId, get_cons, get_nil, TV.hs, AV.hs, C.hs, RS.slot, zipSlots] <;> omega)⟩
          · show prs (N ++ [w]) ++ rnd xs (prs R) = _
            rw [← i1, prs_app, List.append_assoc]
            show prs N ++ (w.1 :: rnd xs (prs R)) = prs N ++ rnd xs (p.1 :: q.1 :: prs R)
            rw [rnd_two, hw1]
          · show ids R = (ids s.ps).drop (i + 2)
            have := congrArg (List.drop 2) i2
            rw [List.drop_drop] at this
            exact this
          · show c + 1 + R.length / 2 = _; omega
          · show (N ++ [w]).length + R.length ≤ _; simp; omega
          · show HF[HC.length + 1]? = _
            rw [hHF, lkn' (by simp), ids_app, idZ_app]
            simp [ids, idZ, hwi]
          · intro e he
            simp only [List.mem_append, List.mem_singleton] at he
            show e.1.2.length ≤ c + 1
            rcases he with (he | rfl) | he
            · have := i10 e (by simp [he]); omega
            · rw [hw]; simp; omega
            · have := i10 e (by simp [he]); omega
      · have dlt : decide (xs.getD q.1.1 0 < xs.getD p.1.1 0) = false := decide_eq_false hlt
        by_cases hb : p.1.2 = []
        · --
          have hm : mch xs p.1 q.1 = (p.1.1, p.1.2 ++ [q.1.1]) := by rw [mch, if_neg hlt]
          have hca : p.1.1 < cs.length := by omega
          have hce : cs[p.1.1]? = some (.v (.slice none 0 0)) := by rw [hEp.2.2, cellE, if_pos hb]
          obtain ⟨HC, hHC⟩ : ∃ HC, HC = ((H ++ [oI [(q.1.1 : Int)]]) ++ [oI [(q.1.1 : Int)]]).set 2 (cR (cs.set p.1.1 (cSl (H.length + 1) 1))) := ⟨_, rfl⟩
          have qx : ((H ++ [oI [(q.1.1 : Int)]]) ++ [oI [(q.1.1 : Int)]])[2]? = some (cR cs) := lkp (lkp l2')
          have qn : (H ++ [oI [(q.1.1 : Int)]])[H.length]? = some (oI [(q.1.1 : Int)]) := lkn _ _
          have hC0 : ((H ++ [oI [(q.1.1 : Int)]]) ++ [oI [(q.1.1 : Int)]])[H.length + 1]? = some (oI [(q.1.1 : Int)]) := lkn' (by simp)
          have eC : Exc [2] H HC := by rw [hHC]; exact ((Exc.refl [2] H).app _ |>.app _).set _ (by simp)
          have clC : Cl HC := by
            rw [hHC]
            refine cl_set (cl_oI (cl_oI hcl)) fun h hh => ?_
            simp only [Row.hs, Dat.hs, List.mem_flatMap] at hh
            obtain ⟨c', hc', hh⟩ := hh
            rcases List.mem_or_eq_of_mem_set hc' with h1 | rfl
            · have := hcl _ (List.mem_of_getElem? l2') h (by simp only [Row.hs, Dat.hs, List.mem_flatMap]; exact ⟨c', h1, hh⟩)
              simp; omega
            · simp [C.hs] at hh; simp; omega
          have lC : HC.length = H.length + 2 := by rw [hHC]; simp
          have hC2 : HC[2]? = some (cR (cs.set p.1.1 (cSl (H.length + 1) 1))) := by rw [hHC]; exact lkset (by simp; omega)
          have hC1 : HC[H.length + 1]? = some (oI [(q.1.1 : Int)]) := by rw [hHC]; exact lks hC0 (by omega)
          have hCn : HC[hn]? = some (oI (idZ (ids N))) := eC _ _ i7 (by simp; omega)
          have qN : (HC ++ [oI [(p.1.1 : Int)]])[hn]? = some (oI (idZ (ids N))) := lkp hCn
          have qA : (HC ++ [oI [(p.1.1 : Int)]])[HC.length]? = some (oI [(p.1.1 : Int)]) := lkn _ _
          simp (dsimp := false) only [hcd, deq, e1, i6, gp, gq, l0', xp, xq, dlt, l2', hce, qn, hNl, hca, hLl, List.length_append, List.length_set, List.length_cons, List.length_nil, List.take_succ_cons, List.take_zero, Int.toNat_natCast, go_sem, Nat.reduceAdd, Nat.reduceBEq, Nat.reduceEqDiff, Nat.reduceLT, Nat.reduceLeDiff, reduceCtorEq, ↓reduceIte]
          repeat (refine And.intro (by first | exact True.intro | omega | kernel_rfl | (simp only [List.length_set, List.length_append, List.length_take, List.length_replicate, List.length_cons, true_and, and_true, List.length_nil, tabR_length]; omega)) ?_)
          simp (dsimp := false) only [hcd, deq, e1, i6, gp, gq, l0', dlt, l2', hce, qn, qx, hNl, hca, hLl, ← hHC, qN, qA, List.length_append, List.length_set, List.length_cons, List.length_nil, List.take_succ_cons, List.take_zero, Int.toNat_natCast, go_sem, Nat.reduceAdd, Nat.reduceBEq, Nat.reduceEqDiff, Nat.reduceLT, Nat.reduceLeDiff, reduceCtorEq, ↓reduceIte]
          repeat (refine And.intro (by first | exact True.intro | omega | kernel_rfl | (simp only [List.length_set, List.length_append, List.length_take, List.length_replicate, List.length_cons, true_and, and_true, List.length_nil, tabR_length]; omega)) ?_)
          obtain ⟨w, hw⟩ : ∃ w : En, w = ((p.1.1, p.1.2 ++ [q.1.1]), H.length + 1) := ⟨_, rfl⟩
          have hw1 : w.1 = mch xs p.1 q.1 := by rw [hw, hm]
          have hwi : w.1.1 = p.1.1 := by rw [hw]
          have hw2 : w.2 = H.length + 1 := by rw [hw]
          have hce : cellE w = cSl (H.length + 1) 1 := by rw [hw, cellE, if_neg (by simp)]; simp [hb]
          obtain ⟨HF, hHF⟩ : ∃ HF, HF = (HC ++ [oI [(p.1.1 : Int)]]).set hn .dead ++ [oI (idZ (ids N) ++ [(p.1.1 : Int)])] := ⟨_, rfl⟩
          have eF : Exc [2, hn] H HF := by rw [hHF, hHC]; exact ((((((Exc.refl [2, hn] H).app _).app _).set _ (by simp)).app _).set _ (by simp)).app _
          have hclF : Cl HF := by rw [hHF]; exact cl_oI (cl_dead (cl_oI clC))
          have lF : HF.length = H.length + 4 := by rw [hHF]; simp [lC]
          have hrow : HF[w.2]? = some (oI (idZ w.1.2)) := by
            rw [hw2, show idZ w.1.2 = [(q.1.1 : Int)] by rw [hw]; simp [idZ, hb], hHF]
            exact lkp (lks (lkp hC1) (by omega))
          have hlos : HF[2]? = some (cR (cs.set w.1.1 (cellE w))) := by
            rw [hwi, hce, hHF]
            exact lkp (lks (lkp hC2) hn2')
          have hSJ := i9.step (S' := [2, s.hp, HC.length + 1]) (w := w) eF (fun x hx => by
            simp only [List.mem_cons, List.not_mem_nil, or_false] at hx
            rcases hx with rfl | rfl
            · exact .inl (by simp)
            · exact .inl (by simp)) (fun x hx => by
            simp only [List.mem_cons, List.not_mem_nil, or_false] at hx
            rcases hx with rfl | rfl | rfl
            · exact .inl (by simp)
            · exact .inl (by simp)
            · exact .inr (by omega)) (by simp; omega) hw1 hrow hlos (by omega) (by rw [hw2]; simp; omega) hclF
          rw [← hHF]
          refine ⟨⟨i + 2, N ++ [w], R, HC.length + 1, cs.set w.1.1 (cellE w), HF, c + 1⟩, List.range HF.length, ⟨⟨?_, ?_, .inl (by show i + 2 + R.length = s.ps.length; omega), ?_, ?_, eF _ _ i6 (by simp; omega), ?_, by show HC.length + 1 ≠ s.hp; omega, hSJ, ?_⟩, by show s.ps.length + 2 - (i + 2) < s.ps.length + 2 - i; omega⟩, wk_id (by omega) hclF (by simp [slId, get_cons, get_nil, TV.hs, AV.hs, C.hs, RS.slot, zipSlots] <;> omega)⟩
          · show prs (N ++ [w]) ++ rnd xs (prs R) = _
            rw [← i1, prs_app, List.append_assoc]
            show prs N ++ (w.1 :: rnd xs (prs R)) = prs N ++ rnd xs (p.1 :: q.1 :: prs R)
            rw [rnd_two, hw1]
          · show ids R = (ids s.ps).drop (i + 2)
            have := congrArg (List.drop 2) i2
            rw [List.drop_drop] at this
            exact this
          · show c + 1 + R.length / 2 = _; omega
          · show (N ++ [w]).length + R.length ≤ _; simp; omega
          · show HF[HC.length + 1]? = _
            rw [hHF, lkn' (by simp), ids_app, idZ_app]
            simp [ids, idZ, hwi]
          · intro e he
            simp only [List.mem_append, List.mem_singleton] at he
            show e.1.2.length ≤ c + 1
            rcases he with (he | rfl) | he
            · have := i10 e (by simp [he]); omega
            · rw [hw]; simp; omega
            · have := i10 e (by simp [he]); omega
        · --
          have hm : mch xs p.1 q.1 = (p.1.1, p.1.2 ++ [q.1.1]) := by rw [mch, if_neg hlt]
          have hca : p.1.1 < cs.length := by omega
          have hce : cs[p.1.1]? = some (cSl p.2 p.1.2.length) := by rw [hEp.2.2, cellE, if_neg hb]
          obtain ⟨hrw, hns⟩ := i9.lj.row p (by simp) hb
          have hrl := getlt hrw
          simp only [List.mem_cons, List.not_mem_nil, or_false, not_or] at hns
          obtain ⟨hn2, hnp, hnn⟩ := hns
          have hbl : (idZ p.1.2).length = p.1.2.length := idZ_len _
          obtain ⟨HC, hHC⟩ : ∃ HC, HC = ((H ++ [oI [(q.1.1 : Int)]]).set p.2 .dead ++ [oI (idZ p.1.2 ++ [(q.1.1 : Int)])]).set 2 (cR (cs.set p.1.1 (cSl (H.length + 1) (p.1.2.length + 1)))) := ⟨_, rfl⟩
          have qh : (H ++ [oI [(q.1.1 : Int)]])[p.2]? = some (oI (idZ p.1.2)) := lkp hrw
          have qx : ((H ++ [oI [(q.1.1 : Int)]]).set p.2 .dead ++ [oI (idZ p.1.2 ++ [(q.1.1 : Int)])])[2]? = some (cR cs) := lkp (lks (lkp l2') hn2)
          have qn : (H ++ [oI [(q.1.1 : Int)]])[H.length]? = some (oI [(q.1.1 : Int)]) := lkn _ _
          have hC0 : ((H ++ [oI [(q.1.1 : Int)]]).set p.2 .dead ++ [oI (idZ p.1.2 ++ [(q.1.1 : Int)])])[H.length + 1]? = some (oI (idZ p.1.2 ++ [(q.1.1 : Int)])) := lkn' (by simp)
          have eC : Exc [2, p.2] H HC := by rw [hHC]; exact (((Exc.refl [2, p.2] H).app _).set _ (by simp) |>.app _).set _ (by simp)
          have clC : Cl HC := by
            rw [hHC]
            refine cl_set (cl_oI (cl_dead (cl_oI hcl))) fun h hh => ?_
            simp only [Row.hs, Dat.hs, List.mem_flatMap] at hh
            obtain ⟨c', hc', hh⟩ := hh
            rcases List.mem_or_eq_of_mem_set hc' with h1 | rfl
            · have := hcl _ (List.mem_of_getElem? l2') h (by simp only [Row.hs, Dat.hs, List.mem_flatMap]; exact ⟨c', h1, hh⟩)
              simp; omega
            · simp [C.hs] at hh; simp; omega
          have lC : HC.length = H.length + 2 := by rw [hHC]; simp
          have hC2 : HC[2]? = some (cR (cs.set p.1.1 (cSl (H.length + 1) (p.1.2.length + 1)))) := by rw [hHC]; exact lkset (by simp; omega)
          have hC1 : HC[H.length + 1]? = some (oI (idZ p.1.2 ++ [(q.1.1 : Int)])) := by rw [hHC]; exact lks hC0 (by omega)
          have hCn : HC[hn]? = some (oI (idZ (ids N))) := eC _ _ i7 (by simp; omega)
          have qN : (HC ++ [oI [(p.1.1 : Int)]])[hn]? = some (oI (idZ (ids N))) := lkp hCn
          have qA : (HC ++ [oI [(p.1.1 : Int)]])[HC.length]? = some (oI [(p.1.1 : Int)]) := lkn _ _
          simp (dsimp := false) only [hcd, deq, e1, i6, gp, gq, l0', xp, xq, dlt, l2', hce, qh, hbl, qn, hNl, hca, hLl, List.length_append, List.length_set, List.length_cons, List.length_nil, List.take_succ_cons, List.take_zero, Int.toNat_natCast, go_sem, Nat.reduceAdd, Nat.reduceBEq, Nat.reduceEqDiff, Nat.reduceLT, Nat.reduceLeDiff, reduceCtorEq, ↓reduceIte]
          repeat (refine And.intro (by first | exact True.intro | omega | kernel_rfl | (simp only [List.length_set, List.length_append, List.length_take, List.length_replicate, List.length_cons, true_and, and_true, List.length_nil, tabR_length]; omega)) ?_)
          simp (dsimp := false) only [hcd, deq, e1, i6, gp, gq, l0', dlt, l2', hce, qh, hbl, qn, qx, hNl, hca, hLl, ← hHC, qN, qA, List.length_append, List.length_set, List.length_cons, List.length_nil, List.take_succ_cons, List.take_zero, Int.toNat_natCast, go_sem, Nat.reduceAdd, Nat.reduceBEq, Nat.reduceEqDiff, Nat.reduceLT, Nat.reduceLeDiff, reduceCtorEq, ↓reduceIte]
          repeat (refine And.intro (by first | exact True.intro | omega | kernel_rfl | (simp only [List.length_set, List.length_append, List.length_take, List.length_replicate, List.length_cons, true_and, and_true, List.length_nil, tabR_length]; omega)) ?_)
          obtain ⟨w, hw⟩ : ∃ w : En, w = ((p.1.1, p.1.2 ++ [q.1.1]), H.length + 1) := ⟨_, rfl⟩
          have hw1 : w.1 = mch xs p.1 q.1 := by rw [hw, hm]
          have hwi : w.1.1 = p.1.1 := by rw [hw]
          have hw2 : w.2 = H.length + 1 := by rw [hw]
          have hce : cellE w = cSl (H.length + 1) (p.1.2.length + 1) := by rw [hw, cellE, if_neg (by simp)]; simp
          obtain ⟨HF, hHF⟩ : ∃ HF, HF = (HC ++ [oI [(p.1.1 : Int)]]).set hn .dead ++ [oI (idZ (ids N) ++ [(p.1.1 : Int)])] := ⟨_, rfl⟩
          have eF : Exc [2, p.2, hn] H HF := by rw [hHF, hHC]; exact (((((((Exc.refl [2, p.2, hn] H).app _).set _ (by simp)).app _).set _ (by simp)).app _).set _ (by simp)).app _
          have hclF : Cl HF := by rw [hHF]; exact cl_oI (cl_dead (cl_oI clC))
          have lF : HF.length = H.length + 4 := by rw [hHF]; simp [lC]
          have hrow : HF[w.2]? = some (oI (idZ w.1.2)) := by
            rw [hw2, show idZ w.1.2 = (idZ p.1.2 ++ [(q.1.1 : Int)]) by rw [hw]; simp [idZ], hHF]
            exact lkp (lks (lkp hC1) (by omega))
          have hlos : HF[2]? = some (cR (cs.set w.1.1 (cellE w))) := by
            rw [hwi, hce, hHF]
            exact lkp (lks (lkp hC2) hn2')
          have hw0 : p.2 ≠ 0 := fun e => by rw [e, l0'] at hrw; cases hrw
          have hSJ := i9.step (S' := [2, s.hp, HC.length + 1]) (w := w) eF (fun x hx => by
            simp only [List.mem_cons, List.not_mem_nil, or_false] at hx
            rcases hx with rfl | rfl | rfl
            · exact .inl (by simp)
            · exact .inr (.inl ⟨rfl, hb⟩)
            · exact .inl (by simp)) (fun x hx => by
            simp only [List.mem_cons, List.not_mem_nil, or_false] at hx
            rcases hx with rfl | rfl | rfl
            · exact .inl (by simp)
            · exact .inl (by simp)
            · exact .inr (by omega)) (by simp; omega) hw1 hrow hlos (by omega) (by rw [hw2]; simp; omega) hclF
          rw [← hHF]
          refine ⟨⟨i + 2, N ++ [w], R, HC.length + 1, cs.set w.1.1 (cellE w), HF, c + 1⟩, List.range HF.length, ⟨⟨?_, ?_, .inl (by show i + 2 + R.length = s.ps.length; omega), ?_, ?_, eF _ _ i6 (by simp; omega), ?_, by show HC.length + 1 ≠ s.hp; omega, hSJ, ?_⟩, by show s.ps.length + 2 - (i + 2) < s.ps.length + 2 - i; omega⟩, wk_id (by omega) hclF (by simp [slId, get_cons, get_nil, TV.hs, AV.hs, C.hs, RS.slot, zipSlots] <;> omega)⟩
          · show prs (N ++ [w]) ++ rnd xs (prs R) = _
            rw [← i1, prs_app, List.append_assoc]
            show prs N ++ (w.1 :: rnd xs (prs R)) = prs N ++ rnd xs (p.1 :: q.1 :: prs R)
            rw [rnd_two, hw1]
          · show ids R = (ids s.ps).drop (i + 2)
            have := congrArg (List.drop 2) i2
            rw [List.drop_drop] at this
            exact this
          · show c + 1 + R.length / 2 = _; omega
          · show (N ++ [w]).length + R.length ≤ _; simp; omega
          · show HF[HC.length + 1]? = _
            rw [hHF, lkn' (by simp), ids_app, idZ_app]
            simp [ids, idZ, hwi]
          · intro e he
            simp only [List.mem_append, List.mem_singleton] at he
            show e.1.2.length ≤ c + 1
            rcases he with (he | rfl) | he
            · have := i10 e (by simp [he]); omega
            · rw [hw]; simp; omega
            · have := i10 e (by simp [he]); omega
  -- the way out
  · have hcd : decide ((1 : Int) < (s.ps.length : Int)) = false := decide_eq_false (by omega)
    obtain ⟨e, he⟩ : ∃ e, s.ps = [e] := List.length_eq_one_iff.1 (by omega)
    rw [tnT_end (by rw [prs_len]; omega)] at j1
    obtain ⟨w, bt, r1, r2, r3, r4⟩ := tnR_one (xs := xs) (by omega)
    have k1 : prs s.ps = [(w, bt)] := by rw [← r1, ← j1]
    have k2 : s.c = (tnR xs).2 := by rw [← j1]
    rw [he] at k1
    have k3 : e.1 = (w, bt) := by simpa [prs] using k1
    have hE := j6.ent e (by rw [he]; simp)
    have hb : e.1.2 ≠ [] := by rw [k3]; exact r2
    have hR := j6.lj.row e (by rw [he]; simp) hb
    have h7 := j7 e (by rw [he]; simp)
    rw [k3] at hE hR h7
    have hbl : 0 < bt.length := List.length_pos_iff.2 r2
    have hpl : s.ps.length = 1 := by omega
    have ce : s.cs[w]? = some (cSl e.2 bt.length) := by rw [hE.2.2, cellE, k3, if_neg r2]
    have gp : (idZ (ids s.ps)).getD 0 0 = (w : Int) := by rw [he]; simp [ids, idZ, k3]
    have hbL : (idZ bt).length = bt.length := idZ_len _
    have hat : ∀ k, k < bt.length → (idZ bt).getD k 0 = ((bt.getD k 0 : Nat) : Int) := fun k hk => idZ_get hk
    have hbn : ∀ k, k < bt.length → bt.getD k 0 < xs.length := fun k hk => hE.2.1 _ (by rw [List.getD_eq_getElem?_getD, List.getElem?_eq_getElem hk]; exact List.getElem_mem hk)
    have ga := hat 0 hbl
    have gb := hbn 0 hbl
    have gE : s.H[e.2]? = some (oI (idZ bt)) := hR.1
    have h7b : bt.length ≤ s.c := h7
    have hEl := getlt gE
    have hcl := j6.cl
    have hw : w < xs.length := hE.1
    have hcs := j6.csl
    simp (dsimp := false) only [hcd, go_sem, Nat.reduceAdd, Nat.reduceBEq, Nat.reduceEqDiff, Nat.reduceLT, Nat.reduceLeDiff, reduceCtorEq, ↓reduceIte]
    refine hQ _ _ _ ?_
    simp (dsimp := false) only [hpl, hip, j5, gp, l2, ce, gE, hbL, ga, l0, Int.toNat_natCast, Int.toNat_zero, go_sem, Nat.reduceAdd, Nat.reduceBEq, Nat.reduceEqDiff, Nat.reduceLT, Nat.reduceLeDiff, reduceCtorEq, ↓reduceIte]
    repeat (refine And.intro (by first | exact True.intro | omega | kernel_rfl | (simp only [List.length_set, List.length_append, List.length_take, List.length_replicate, List.length_cons, true_and, and_true, List.length_nil, tabR_length]; omega)) ?_)
    generalize hm0 : xs.getD (bt.getD 0 0) 0 = m0
    have hJ30 : ∀ j, j < 1 → m0 ≤ xs.getD (bt.getD j 0) 0 := fun j hj => by
      have : j = 0 := by omega
      rw [this, hm0]; exact Int.le_refl _
    refine aloopQ (σ := Nat × Int) (fun t => ([(0, tS 0 xs.length), (8, tI (s.c + (t.1 - 1) : Nat)), (13, tS e.2 bt.length), (14, tI t.2), (15, tI t.1)], s.H)) (fun t => 1 ≤ t.1 ∧ t.1 ≤ bt.length ∧ (∃ j, j < t.1 ∧ t.2 = xs.getD (bt.getD j 0) 0) ∧ ∀ j, j < t.1 → t.2 ≤ xs.getD (bt.getD j 0) 0) (fun t => bt.length - t.1) (1, m0) (List.range s.H.length) ⟨Nat.le_refl _, hbl, ⟨0, by omega, hm0.symm⟩, hJ30⟩ (wk_id (by omega) hcl (by simp [slId, get_cons, get_nil, TV.hs, AV.hs, C.hs, RS.slot, zipSlots] <;> omega)) ?_
    rintro Q3 hQ3 ⟨i, m⟩ ⟨i1, i2, i3, i4⟩
    simp only at i1 i2 i3 i4
    by_cases hc : i < bt.length
    · have hcd3 : decide ((i : Int) < (bt.length : Int)) = true := decide_eq_true (by omega)
      have gi := hat i hc
      have gn := hbn i hc
      have hL := least_g (G := s.H) m (xs.getD (bt.getD i 0) 0)
      have hci : s.c + (i - 1) ≤ 1000 := by omega
      simp (dsimp := false) only [hcd3, gE, gi, l0, Int.toNat_natCast, go_sem, Nat.reduceAdd, Nat.reduceBEq, Nat.reduceEqDiff, Nat.reduceLT, Nat.reduceLeDiff, reduceCtorEq, ↓reduceIte]
      refine And.intro (by omega) ?_
      repeat (refine And.intro (by first | exact True.intro | omega | kernel_rfl | (simp only [List.length_set, List.length_append, List.length_take, List.length_replicate, List.length_cons, true_and, and_true, List.length_nil, tabR_length]; omega)) ?_)
      repeat (refine And.intro (by first | exact True.intro | omega | kernel_rfl | (simp only [List.length_set, List.length_append, List.length_take, List.length_replicate, List.length_cons, true_and, and_true, List.length_nil, tabR_length]; omega)) ?_)
      refine ⟨_, (hL).mono ?_⟩
      rintro _ G9 ⟨rfl, h9⟩
      have h9 := h9.symm
      subst h9
      simp (dsimp := false) only [hcd3, go_sem, Nat.reduceAdd, Nat.reduceBEq, Nat.reduceEqDiff, Nat.reduceLT, Nat.reduceLeDiff, reduceCtorEq, ↓reduceIte]
      repeat (refine And.intro (by first | exact True.intro | omega | kernel_rfl | (simp only [List.length_set, List.length_append, List.length_take, List.length_replicate, List.length_cons, true_and, and_true, List.length_nil, tabR_length]; omega)) ?_)
      refine ⟨(i + 1, min m (xs.getD (bt.getD i 0) 0)), List.range s.H.length, ⟨⟨by dsimp only; omega, by dsimp only; omega, ?_, fun j hj => ?_⟩, by dsimp only; omega⟩, wk_id (by omega) hcl (by simp [slId, get_cons, get_nil, TV.hs, AV.hs, C.hs, RS.slot, zipSlots] <;> omega)⟩
      · dsimp only
        rcases Int.le_total m (xs.getD (bt.getD i 0) 0) with h | h
        · obtain ⟨j, hj, e⟩ := i3
          exact ⟨j, by omega, by rw [Int.min_eq_left h, e]⟩
        · exact ⟨i, by omega, by rw [Int.min_eq_right h]⟩
      · dsimp only at hj ⊢
        by_cases hji : j = i
        · subst hji; exact Int.min_le_right _ _
        · have := i4 j (by omega)
          have := Int.min_le_left m (xs.getD (bt.getD i 0) 0)
          omega
    · have hcd3 : decide ((i : Int) < (bt.length : Int)) = false := decide_eq_false (by omega)
      have hib : i = bt.length := by omega
      subst hib
      have hm : (srtL (vals xs bt)).getD 0 0 = m := by
        refine min_unique ?_ fun z hz => ?_
        · obtain ⟨j, hj, e⟩ := i3
          simp only [vals, List.mem_map]
          exact ⟨bt.getD j 0, by rw [List.getD_eq_getElem?_getD, List.getElem?_eq_getElem hj]; exact List.getElem_mem hj, e.symm⟩
        · simp only [vals, List.mem_map] at hz
          obtain ⟨b, hb, rfl⟩ := hz
          obtain ⟨j, hj, rfl⟩ := List.mem_iff_getElem.1 hb
          have := i4 j hj
          have e : bt.getD j 0 = bt[j] := by rw [List.getD_eq_getElem?_getD, List.getElem?_eq_getElem hj]; rfl
          rw [e] at this; exact this
      have eV : ssV xs = [aI m, aI (s.c + (bt.length - 1) : Nat), aB true] := by
        rw [ssV, hv, hd2, r4, hm, ← k2, show s.c + bt.length - 1 = s.c + (bt.length - 1) by omega]; rfl
      simp (dsimp := false) only [hcd3, go_sem, Nat.reduceAdd, Nat.reduceBEq, Nat.reduceEqDiff, Nat.reduceLT, Nat.reduceLeDiff, reduceCtorEq, ↓reduceIte]
      refine hQ3 _ _ _ ?_
      simp (dsimp := false) only [go_sem, Nat.reduceAdd, Nat.reduceBEq, Nat.reduceEqDiff, Nat.reduceLT, Nat.reduceLeDiff, reduceCtorEq, ↓reduceIte]
      refine afin (List.range 1) [aI m, aI (s.c + (bt.length - 1) : Nat), aB true] [rI xs] (by simp) rfl (wk_ext (G := [rI xs]) (Nat.le_refl _) (fun r hr h hh => by simp at hr; subst hr; simp [Row.hs, Dat.hs] at hh) (fun h r e => by match h, e with | 0, e => exact l0.trans e) (by simp [slId, get_cons, get_nil, TV.hs, AV.hs, C.hs, RS.slot, zipSlots])) ⟨by rw [eV]; rfl, rfl⟩
end Go.Proofs.Ytpoappgfmjnioaa
