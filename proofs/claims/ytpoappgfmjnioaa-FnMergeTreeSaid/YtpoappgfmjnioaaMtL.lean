/- The closed facts on the merge tree's types, and contracts: the levels of a merge tree. -/
import Derived.Test.YtpoappgfmjnioaaKth
import Derived.Test.YtpoappgfmjnioaaLeast
import Derived.Test.YtpoappgfmjnioaaNsS
set_option linter.unusedSimpArgs false
set_option linter.unusedVariables false
set_option linter.unusedSectionVars false
namespace Go.Proofs.Ytpoappgfmjnioaa
open Go Go.Ax
set_option maxRecDepth 10000
set_option maxHeartbeats 1000000
theorem u_mt : Try.prog.underlying 49 = some (.struct (fieldsOf Try.prog 49)) := by kernel_rfl
theorem mt_f0 : (fieldsOf Try.prog 49)[0]? = some (fieldAt Try.prog 49 0) := by kernel_rfl
theorem mt_s0 : sz Try.prog (fieldAt Try.prog 49 0).type = some 1 := by kernel_rfl
theorem mt_o0 : (fieldAt Try.prog 49 0).offset = 0 := by kernel_rfl
theorem mt_a0 : isAggB Try.prog (fieldAt Try.prog 49 0).type = some false := by kernel_rfl
theorem mt_all : allSz Try.prog (fieldsOf Try.prog 49).toList = true := by kernel_rfl
theorem sz_mt : sz Try.prog 49 = some 1 := by kernel_rfl
theorem zr_mt : zr Try.prog 49 = some (.agg #[.slice none 0 0]) := by kernel_rfl
theorem ag_mt : isAggB Try.prog 49 = some true := by kernel_rfl
attribute [go_sem] u_mt mt_f0 mt_s0 mt_o0 mt_a0 mt_all sz_mt zr_mt ag_mt

abbrev tMt (h L : Nat) : TV := .a (.agg [.sl 1 h 0 L])
abbrev aMt (h L : Nat) : AV := .agg [.sl 1 h 0 L]
abbrev rC (cs : List C) : Row := .r false (.cells 1 cs)
abbrev oC1 (cs : List C) : Row := .r true (.cells 1 cs)

/-- What is put out from place f on, the sorted blocks of size s; fuel g. -/
def lvT (xs : List Int) (s : Nat) : Nat → Nat → List Int → List Int
  | 0, _, out => out
  | g + 1, f, out => if f < xs.length then lvT xs s g (f + s) (out ++ srtL (seg xs f (min (f + s) xs.length - f))) else out
/-- A level of the merge tree. -/
def lvF (xs : List Int) (s : Nat) : List Int := lvT xs s xs.length 0 []
theorem lvT_end {xs : List Int} {s g f : Nat} {out : List Int} (h : ¬ f < xs.length) : lvT xs s g f out = out := by
  cases g with
  | zero => rfl
  | succ g => rw [lvT, if_neg h]
theorem lvT_step {xs : List Int} {s g f : Nat} {out : List Int} (h : f < xs.length) : lvT xs s (g + 1) f out = lvT xs s g (f + s) (out ++ srtL (seg xs f (min (f + s) xs.length - f))) := by rw [lvT, if_pos h]
theorem lvT_len {xs : List Int} {s : Nat} (hs : 1 ≤ s) : ∀ (g f : Nat) (out : List Int), xs.length ≤ f + g → out.length = min f xs.length → (lvT xs s g f out).length = xs.length
  | 0, f, out, h, ho => by show out.length = _; omega
  | g + 1, f, out, h, ho => by
    by_cases hc : f < xs.length
    · rw [lvT_step hc]
      exact lvT_len hs g (f + s) _ (by omega) (by rw [List.length_append, srtL_len, seg_len]; omega)
    · rw [lvT_end hc]; omega
theorem lvF_len {xs : List Int} {s : Nat} (hs : 1 ≤ s) : (lvF xs s).length = xs.length := lvT_len hs xs.length 0 [] (by omega) (by simp)

theorem l10Level_l (xs : List Int) (s : Nat) (hs : 1 ≤ s) (hs2 : s ≤ 128) (hx : xs.length ≤ 64) : ACalls Try.prog 88 [tS 0 xs.length, tI s] [] [rI xs] (fun t H => t = tS 1 xs.length ∧ H = [rI xs, oI (lvF xs s)]) := by
  refine afun (fun _ => none) [4] 1 Try.func88 rfl rfl mix (by kernel_rfl) (by kernel_rfl) (by simp [Try.f88]) rfl (by simp [msOwn, ownAll, Row.own]) ?_
  simp (dsimp := false) only [go_sem, Nat.reduceAdd, Nat.reduceBEq, Nat.reduceEqDiff, Nat.reduceLT, Nat.reduceLeDiff, reduceCtorEq, ↓reduceIte]
  refine aloop (σ := Nat × Nat × List Int) (fun t => ([(0, tS 0 xs.length), (1, tI s), (5, tS 1 t.2.2.length), (6, tI t.2.1)], [rI xs, oI t.2.2])) (fun t => lvT xs s t.1 t.2.1 t.2.2 = lvF xs s ∧ xs.length ≤ t.2.1 + t.1 ∧ t.2.2.length = min t.2.1 xs.length ∧ t.2.1 ≤ xs.length + s) (fun t => t.1) (xs.length, 0, []) ([0, 1]) ⟨rfl, by dsimp only; omega, by simp, by dsimp only; omega⟩ (weak_of (by decide) (by simp [RS.slot, List.map_cons, List.map_nil, rowsLe, rowLe, slotsLe, tvLe, TV.ren, AV.ren, C.ren, Dat.ren, Row.ren, TV.hs, AV.hs, C.hs, Dat.hs, get_cons, get_nil, zipSlots, List.getD_cons_zero, List.getD_cons_succ, List.getD_nil, -List.getD_eq_getElem?_getD])) ?_
  rintro ⟨g, f, out⟩ ⟨j1, j2, j3, j4⟩
  simp only at j1 j2 j3 j4
  by_cases hc : f < xs.length
  · have hcd : decide ((f : Int) < xs.length) = true := by simp; omega
    obtain ⟨g, rfl⟩ : ∃ g', g = g' + 1 := ⟨g - 1, by omega⟩
    rw [lvT_step hc] at j1
    have e1 : (f : Int) + (s : Int) = ((f + s : Nat) : Int) := by omega
    obtain ⟨to, hto⟩ : ∃ to, to = min (f + s) xs.length := ⟨_, rfl⟩
    have e2 : min ((f + s : Nat) : Int) (xs.length : Int) = (to : Int) := by omega
    rw [← hto] at j1
    have hL := l1Least_l ((f + s : Nat) : Int) (xs.length : Int)
    rw [e2] at hL
    have hS := l2Sorted_l xs f (to - f) (by omega) (by omega)
    have hsl : (srtL (seg xs f (to - f))).length = to - f := by rw [srtL_len, seg_len]
    have htk : (srtL (seg xs f (to - f))).take (to - f) = srtL (seg xs f (to - f)) := List.take_of_length_le (by omega)
    have hal : (out ++ srtL (seg xs f (to - f))).length = out.length + (to - f) := by rw [List.length_append, hsl]
    simp (dsimp := false) only [hcd, e1, go_sem, Nat.reduceAdd, Nat.reduceBEq, Nat.reduceEqDiff, Nat.reduceLT, Nat.reduceLeDiff, reduceCtorEq, ↓reduceIte]
    repeat (refine And.intro (by first | exact True.intro | omega | kernel_rfl | (simp only [List.length_set, List.length_append, List.length_take, List.length_replicate, List.length_cons, true_and, and_true, List.length_nil, tabR_length]; omega)) ?_)
    repeat (refine And.intro (by first | exact True.intro | omega | kernel_rfl | (simp only [List.length_set, List.length_append, List.length_take, List.length_replicate, List.length_cons, true_and, and_true, List.length_nil, tabR_length]; omega)) ?_)
    refine ⟨_, (hL).lift [] (by decide) (by simp) (by simp [RS.slot, List.map_cons, List.map_nil, rowsLe, rowLe, slotsLe, tvLe, TV.ren, AV.ren, C.ren, Dat.ren, Row.ren, TV.hs, AV.hs, C.hs, Dat.hs, get_cons, get_nil, zipSlots, List.getD_cons_zero, List.getD_cons_succ, List.getD_nil, -List.getD_eq_getElem?_getD]) (by simp [RS.slot, List.map_cons, List.map_nil, rowsLe, rowLe, slotsLe, tvLe, TV.ren, AV.ren, C.ren, Dat.ren, Row.ren, TV.hs, AV.hs, C.hs, Dat.hs, get_cons, get_nil, zipSlots, List.getD_cons_zero, List.getD_cons_succ, List.getD_nil, -List.getD_eq_getElem?_getD]) (by simp [RS.slot, List.map_cons, List.map_nil, rowsLe, rowLe, slotsLe, tvLe, TV.ren, AV.ren, C.ren, Dat.ren, Row.ren, TV.hs, AV.hs, C.hs, Dat.hs, get_cons, get_nil, zipSlots, List.getD_cons_zero, List.getD_cons_succ, List.getD_nil, -List.getD_eq_getElem?_getD]) rfl ?_⟩
    rintro _ _ ⟨rfl, rfl⟩
    refine ⟨by simp [ownIn, Row.own], ?_⟩
    simp (dsimp := false) only [Int.toNat_natCast, Nat.zero_add, liftT, liftH, putBack, freshR, ownIn, Row.own, Row.ren, TV.ren, AV.ren, C.ren, Dat.ren, List.drop_succ_cons, List.drop_nil, List.getD_cons_zero, List.getD_cons_succ, List.getD_nil, go_sem, Nat.reduceAdd, Nat.reduceBEq, Nat.reduceEqDiff, Nat.reduceLT, Nat.reduceLeDiff, reduceCtorEq, ↓reduceIte]
    repeat (refine And.intro (by first | exact True.intro | omega | kernel_rfl | (simp only [List.length_set, List.length_append, List.length_take, List.length_replicate, List.length_cons, true_and, and_true, List.length_nil, tabR_length]; omega)) ?_)
    repeat (refine And.intro (by first | exact True.intro | omega | kernel_rfl | (simp only [List.length_set, List.length_append, List.length_take, List.length_replicate, List.length_cons, true_and, and_true, List.length_nil, tabR_length]; omega)) ?_)
    refine ⟨_, (hS).lift [0] (by decide) (by simp) (by simp [RS.slot, List.map_cons, List.map_nil, rowsLe, rowLe, slotsLe, tvLe, TV.ren, AV.ren, C.ren, Dat.ren, Row.ren, TV.hs, AV.hs, C.hs, Dat.hs, get_cons, get_nil, zipSlots, List.getD_cons_zero, List.getD_cons_succ, List.getD_nil, -List.getD_eq_getElem?_getD]) (by simp [RS.slot, List.map_cons, List.map_nil, rowsLe, rowLe, slotsLe, tvLe, TV.ren, AV.ren, C.ren, Dat.ren, Row.ren, TV.hs, AV.hs, C.hs, Dat.hs, get_cons, get_nil, zipSlots, List.getD_cons_zero, List.getD_cons_succ, List.getD_nil, -List.getD_eq_getElem?_getD]) (by simp [RS.slot, List.map_cons, List.map_nil, rowsLe, rowLe, slotsLe, tvLe, TV.ren, AV.ren, C.ren, Dat.ren, Row.ren, TV.hs, AV.hs, C.hs, Dat.hs, get_cons, get_nil, zipSlots, List.getD_cons_zero, List.getD_cons_succ, List.getD_nil, -List.getD_eq_getElem?_getD]) rfl ?_⟩
    rintro _ _ ⟨rfl, rfl⟩
    refine ⟨by simp [ownIn, Row.own], ?_⟩
    simp (dsimp := false) only [hsl, e1, liftT, liftH, putBack, freshR, ownIn, Row.own, Row.ren, TV.ren, AV.ren, C.ren, Dat.ren, List.drop_succ_cons, List.drop_nil, List.getD_cons_zero, List.getD_cons_succ, List.getD_nil, go_sem, Nat.reduceAdd, Nat.reduceBEq, Nat.reduceEqDiff, Nat.reduceLT, Nat.reduceLeDiff, reduceCtorEq, ↓reduceIte]
    repeat (refine And.intro (by first | exact True.intro | omega | kernel_rfl | (simp only [List.length_set, List.length_append, List.length_take, List.length_replicate, List.length_cons, true_and, and_true, List.length_nil, tabR_length]; omega)) ?_)
    refine ⟨(g, f + s, out ++ srtL (seg xs f (to - f))), [0, 3], ?_, weak_of (by decide) (by simp [RS.slot, List.map_cons, List.map_nil, rowsLe, rowLe, slotsLe, tvLe, TV.ren, AV.ren, C.ren, Dat.ren, Row.ren, TV.hs, AV.hs, C.hs, Dat.hs, get_cons, get_nil, zipSlots, List.getD_cons_zero, List.getD_cons_succ, List.getD_nil, -List.getD_eq_getElem?_getD, htk, hsl, srtL_len, seg_len])⟩
    dsimp only
    exact ⟨⟨j1, by omega, by rw [hal]; omega, by omega⟩, by omega⟩
  · have hcd : decide ((f : Int) < xs.length) = false := by simp; omega
    rw [lvT_end hc] at j1
    have hol : out.length = xs.length := by omega
    simp (dsimp := false) only [hcd, hol, go_sem, Nat.reduceAdd, Nat.reduceBEq, Nat.reduceEqDiff, Nat.reduceLT, Nat.reduceLeDiff, reduceCtorEq, ↓reduceIte]
    refine afin [0, 1] [aS 1 xs.length] [rI xs, oI (lvF xs s)] (by simp) rfl (weak_of (by decide) (by simp [RS.slot, List.map_cons, List.map_nil, rowsLe, rowLe, slotsLe, tvLe, TV.ren, AV.ren, C.ren, Dat.ren, Row.ren, TV.hs, AV.hs, C.hs, Dat.hs, get_cons, get_nil, zipSlots, List.getD_cons_zero, List.getD_cons_succ, List.getD_nil, -List.getD_eq_getElem?_getD, j1])) (by simp [rtv, j1, -List.getD_eq_getElem?_getD])
end Go.Proofs.Ytpoappgfmjnioaa
