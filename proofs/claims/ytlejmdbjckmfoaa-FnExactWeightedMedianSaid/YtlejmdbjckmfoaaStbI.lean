/- Contracts: the library's stable sort. -/
import Derived.Test.YtlejmdbjckmfoaaPlStb
import Derived.Test.YtlejmdbjckmfoaaTail
import Derived.Test.YtlejmdbjckmfoaaVal
set_option linter.unusedSimpArgs false
set_option linter.unusedVariables false
set_option linter.unusedSectionVars false
namespace Go.Proofs.Ytlejmdbjckmfoaa
open Go Go.Ax
set_option maxRecDepth 10000
set_option maxHeartbeats 1000000
/-- The box of the captured list. -/
abbrev bL (n : Nat) : Row := .r false (.cells 1 [.sl 1 1 0 n])

theorem swapR_i (ls : List Int) (g : FuncId) (zs : List Int) (a b n : Nat) (ha : a + n ≤ zs.length) (hb : b + n ≤ zs.length) (hN : zs.length ≤ 281474976710656) :
    ACalls Try.prog 134 [tS 0 zs.length, tI a, tI b, tI n, tF g [(2, 0, 0)]] [0] [oI zs , rI ls, bL ls.length] (fun t H => t = .tup [] ∧ H = [oI (swR (0 : Int) zs a b n) , rI ls, bL ls.length]) := by
  refine afun (fun i => match i with | 3 => some ⟨[0], .op 0 .held (.op 1 .held (.op 2 .held (.op 3 .held (.op 4 .held (.op 5 .held (.op 6 .held (.op 7 .held (.op 8 .held (.op 9 .held (.op 10 .held (.op 11 .held (.op 12 .held (.op 13 .now (.op 14 .held (.op 15 .held (.op 16 .held (.op 17 .held (.op 18 .held (.op 19 .now (.op 20 .held (.op 21 .only (.op 22 .held (.op 23 .only .nil)))))))))))))))))))))))⟩ | _ => none) [] 3 Try.func134 rfl rfl mix (by kernel_rfl) (by kernel_rfl) (by simp [Try.f134]) rfl (by simp [msOwn, ownAll, Row.own]) ?_
  simp (dsimp := false) only [go_sem, Nat.reduceAdd, Nat.reduceBEq, Nat.reduceEqDiff, Nat.reduceLT, Nat.reduceLeDiff, reduceCtorEq, ↓reduceIte]
  refine aloop (σ := Nat) (fun i => ([(0, tS 0 zs.length), (1, tI a), (2, tI b), (3, tI n), (10, tI i)], [oI (swR (0 : Int) zs a b i) , rI ls, bL ls.length])) (fun i => i ≤ n) (fun i => n - i) 0 [0, 1, 2] (by omega) (weak_of (by decide) (by simp [RS.slot, List.map_cons, List.map_nil, rowsLe, rowLe, slotsLe, tvLe, TV.ren, AV.ren, C.ren, Dat.ren, Row.ren, TV.hs, AV.hs, C.hs, Dat.hs, get_cons, get_nil, zipSlots, List.getD_cons_zero, List.getD_cons_succ, List.getD_nil, -List.getD_eq_getElem?_getD, swR])) ?_
  intro i hi
  have hl := swR_len (0 : Int) zs a b i
  by_cases hc : i < n
  · have hcd : decide ((i : Int) < n) = true := by simp; omega
    have e1 : (a : Int) + (i : Int) = ((a + i : Nat) : Int) := by omega
    have e2 : (b : Int) + (i : Int) = ((b + i : Nat) : Int) := by omega
    simp (dsimp := false) only [hcd, e1, e2, Int.toNat_natCast, go_sem, Nat.reduceAdd, Nat.reduceBEq, Nat.reduceEqDiff, Nat.reduceLT, Nat.reduceLeDiff, reduceCtorEq, ↓reduceIte]
    repeat (refine And.intro (by first | exact True.intro | omega | kernel_rfl | (simp only [List.length_set, List.length_append, List.length_take, List.length_replicate, List.length_cons, true_and, and_true, List.length_nil, tabR_length]; omega)) ?_)
    refine ⟨i + 1, [0, 1, 2], ?_, weak_of (by decide) (by simp [RS.slot, List.map_cons, List.map_nil, rowsLe, rowLe, slotsLe, tvLe, TV.ren, AV.ren, C.ren, Dat.ren, Row.ren, TV.hs, AV.hs, C.hs, Dat.hs, get_cons, get_nil, zipSlots, List.getD_cons_zero, List.getD_cons_succ, List.getD_nil, -List.getD_eq_getElem?_getD, swR, swD])⟩
    omega
  · have hcd : decide ((i : Int) < n) = false := by simp; omega
    have e : i = n := by omega
    subst e
    simp (dsimp := false) only [hcd, go_sem, Nat.reduceAdd, Nat.reduceBEq, Nat.reduceEqDiff, Nat.reduceLT, Nat.reduceLeDiff, reduceCtorEq, ↓reduceIte]
    refine afin [0, 1, 2] [] [oI (swR (0 : Int) zs a b i) , rI ls, bL ls.length] (by simp) rfl (weak_of (by decide) (by simp [RS.slot, List.map_cons, List.map_nil, rowsLe, rowLe, slotsLe, tvLe, TV.ren, AV.ren, C.ren, Dat.ren, Row.ren, TV.hs, AV.hs, C.hs, Dat.hs, get_cons, get_nil, zipSlots, List.getD_cons_zero, List.getD_cons_succ, List.getD_nil, -List.getD_eq_getElem?_getD])) (by simp [rtv])

theorem rotate_i (ls : List Int) (g : FuncId) (zs : List Int) (a m b : Nat) (h1 : a < m) (h2 : m < b) (h3 : b ≤ zs.length) (hN : zs.length ≤ 281474976710656) :
    ACalls Try.prog 127 [tS 0 zs.length, tI a, tI m, tI b, tF g [(2, 0, 0)]] [0] [oI zs , rI ls, bL ls.length] (fun t H => t = .tup [] ∧ H = [oI (rotD zs a m b) , rI ls, bL ls.length]) := by
  refine afun (fun _ => none) [] 3 Try.func127 rfl rfl mix (by kernel_rfl) (by kernel_rfl) (by simp [Try.f127]) rfl (by simp [msOwn, ownAll, Row.own]) ?_
  have e1 : (m : Int) - (a : Int) = ((m - a : Nat) : Int) := by omega
  have e2 : (b : Int) - (m : Int) = ((b - m : Nat) : Int) := by omega
  simp (dsimp := false) only [e1, e2, go_sem, Nat.reduceAdd, Nat.reduceBEq, Nat.reduceEqDiff, Nat.reduceLT, Nat.reduceLeDiff, reduceCtorEq, ↓reduceIte]
  repeat (refine And.intro (by first | exact True.intro | omega | kernel_rfl | (simp only [List.length_set, List.length_append, List.length_take, List.length_replicate, List.length_cons, true_and, and_true, List.length_nil, tabR_length]; omega)) ?_)
  have e3 : m - (m - a) = a := by omega
  have e4 : m + (b - m) = b := by omega
  refine aloop (σ := Nat × Nat × List Int) (fun s => ([(0, tS 0 zs.length), (2, tI m), (4, tF g [(2, 0, 0)]), (10, tI s.1), (11, tI s.2.1)], [oI s.2.2 , rI ls, bL ls.length])) (fun s => 0 < s.1 ∧ 0 < s.2.1 ∧ s.1 ≤ m ∧ m + s.2.1 ≤ zs.length ∧ s.2.2.length = zs.length ∧ rotD s.2.2 (m - s.1) m (m + s.2.1) = rotD zs a m b) (fun s => s.1 + s.2.1) (m - a, b - m, zs) [0, 1, 2] ⟨by dsimp only; omega, by dsimp only; omega, by dsimp only; omega, by dsimp only; omega, rfl, by dsimp only; rw [e3, e4]⟩ (weak_of (by decide) (by simp [RS.slot, List.map_cons, List.map_nil, rowsLe, rowLe, slotsLe, tvLe, TV.ren, AV.ren, C.ren, Dat.ren, Row.ren, TV.hs, AV.hs, C.hs, Dat.hs, get_cons, get_nil, zipSlots, List.getD_cons_zero, List.getD_cons_succ, List.getD_nil, -List.getD_eq_getElem?_getD])) ?_
  rintro ⟨i, j, ys⟩ ⟨hi, hj, him, hjm, hl, hr⟩
  simp only at hi hj him hjm hl hr
  have e5 : (m : Int) - (i : Int) = ((m - i : Nat) : Int) := by omega
  by_cases hc : i = j
  · subst hc
    have hcd : ((i : Int) != (i : Int)) = false := by simp
    have hsw := swapR_i ls g ys (m - i) m i (by omega) (by omega) (by omega)
    rw [hl, rot_same (0 : Int) him (by omega), hr] at hsw
    simp (dsimp := false) only [hcd, e5, go_sem, Nat.reduceAdd, Nat.reduceBEq, Nat.reduceEqDiff, Nat.reduceLT, Nat.reduceLeDiff, reduceCtorEq, ↓reduceIte]
    repeat (refine And.intro (by first | exact True.intro | omega | kernel_rfl | (simp only [List.length_set, List.length_append, List.length_take, List.length_replicate, List.length_cons, true_and, and_true, List.length_nil, tabR_length]; omega)) ?_)
    refine ⟨_, (hsw).lift [0, 1, 2] (by decide) (by simp) (by simp [RS.slot, List.map_cons, List.map_nil, rowsLe, rowLe, slotsLe, tvLe, TV.ren, AV.ren, C.ren, Dat.ren, Row.ren, TV.hs, AV.hs, C.hs, Dat.hs, get_cons, get_nil, zipSlots, List.getD_cons_zero, List.getD_cons_succ, List.getD_nil, -List.getD_eq_getElem?_getD]) (by simp [RS.slot, List.map_cons, List.map_nil, rowsLe, rowLe, slotsLe, tvLe, TV.ren, AV.ren, C.ren, Dat.ren, Row.ren, TV.hs, AV.hs, C.hs, Dat.hs, get_cons, get_nil, zipSlots, List.getD_cons_zero, List.getD_cons_succ, List.getD_nil, -List.getD_eq_getElem?_getD]) (by simp [RS.slot, List.map_cons, List.map_nil, rowsLe, rowLe, slotsLe, tvLe, TV.ren, AV.ren, C.ren, Dat.ren, Row.ren, TV.hs, AV.hs, C.hs, Dat.hs, get_cons, get_nil, zipSlots, List.getD_cons_zero, List.getD_cons_succ, List.getD_nil, -List.getD_eq_getElem?_getD]) rfl ?_⟩
    rintro _ _ ⟨rfl, rfl⟩
    refine ⟨by simp [ownIn, Row.own], ?_⟩
    simp (dsimp := false) only [liftT, liftH, putBack, freshR, ownIn, Row.own, Row.ren, TV.ren, AV.ren, C.ren, Dat.ren, List.drop_succ_cons, List.drop_nil, List.getD_cons_zero, List.getD_cons_succ, List.getD_nil, go_sem, Nat.reduceAdd, Nat.reduceBEq, Nat.reduceEqDiff, Nat.reduceLT, Nat.reduceLeDiff, reduceCtorEq, ↓reduceIte]
    refine afin [0, 1, 2] [] [oI (rotD zs a m b) , rI ls, bL ls.length] (by simp) rfl (weak_of (by decide) (by simp [RS.slot, List.map_cons, List.map_nil, rowsLe, rowLe, slotsLe, tvLe, TV.ren, AV.ren, C.ren, Dat.ren, Row.ren, TV.hs, AV.hs, C.hs, Dat.hs, get_cons, get_nil, zipSlots, List.getD_cons_zero, List.getD_cons_succ, List.getD_nil, -List.getD_eq_getElem?_getD])) (by simp [rtv])
  · have hcd : ((i : Int) != (j : Int)) = true := by simp; omega
    by_cases hg : j < i
    · have hgd : decide ((j : Int) < i) = true := by simp; omega
      have e6 : (i : Int) - (j : Int) = ((i - j : Nat) : Int) := by omega
      have hsw := swapR_i ls g ys (m - i) m j (by omega) (by omega) (by omega)
      have hrm := rot_more (0 : Int) (xs := ys) him (by omega) hg
      rw [hl] at hsw
      simp (dsimp := false) only [hcd, hgd, e5, e6, go_sem, Nat.reduceAdd, Nat.reduceBEq, Nat.reduceEqDiff, Nat.reduceLT, Nat.reduceLeDiff, reduceCtorEq, ↓reduceIte]
      repeat (refine And.intro (by first | exact True.intro | omega | kernel_rfl | (simp only [List.length_set, List.length_append, List.length_take, List.length_replicate, List.length_cons, true_and, and_true, List.length_nil, tabR_length]; omega)) ?_)
      refine ⟨_, (hsw).lift [0, 1, 2] (by decide) (by simp) (by simp [RS.slot, List.map_cons, List.map_nil, rowsLe, rowLe, slotsLe, tvLe, TV.ren, AV.ren, C.ren, Dat.ren, Row.ren, TV.hs, AV.hs, C.hs, Dat.hs, get_cons, get_nil, zipSlots, List.getD_cons_zero, List.getD_cons_succ, List.getD_nil, -List.getD_eq_getElem?_getD]) (by simp [RS.slot, List.map_cons, List.map_nil, rowsLe, rowLe, slotsLe, tvLe, TV.ren, AV.ren, C.ren, Dat.ren, Row.ren, TV.hs, AV.hs, C.hs, Dat.hs, get_cons, get_nil, zipSlots, List.getD_cons_zero, List.getD_cons_succ, List.getD_nil, -List.getD_eq_getElem?_getD]) (by simp [RS.slot, List.map_cons, List.map_nil, rowsLe, rowLe, slotsLe, tvLe, TV.ren, AV.ren, C.ren, Dat.ren, Row.ren, TV.hs, AV.hs, C.hs, Dat.hs, get_cons, get_nil, zipSlots, List.getD_cons_zero, List.getD_cons_succ, List.getD_nil, -List.getD_eq_getElem?_getD]) rfl ?_⟩
      rintro _ _ ⟨rfl, rfl⟩
      refine ⟨by simp [ownIn, Row.own], ?_⟩
      simp (dsimp := false) only [e6, liftT, liftH, putBack, freshR, ownIn, Row.own, Row.ren, TV.ren, AV.ren, C.ren, Dat.ren, List.drop_succ_cons, List.drop_nil, List.getD_cons_zero, List.getD_cons_succ, List.getD_nil, go_sem, Nat.reduceAdd, Nat.reduceBEq, Nat.reduceEqDiff, Nat.reduceLT, Nat.reduceLeDiff, reduceCtorEq, ↓reduceIte]
      repeat (refine And.intro (by first | exact True.intro | omega | kernel_rfl | (simp only [List.length_set, List.length_append, List.length_take, List.length_replicate, List.length_cons, true_and, and_true, List.length_nil, tabR_length]; omega)) ?_)
      refine ⟨(i - j, j, swR (0 : Int) ys (m - i) m j), [0, 1, 2], ?_, weak_of (by decide) (by simp [RS.slot, List.map_cons, List.map_nil, rowsLe, rowLe, slotsLe, tvLe, TV.ren, AV.ren, C.ren, Dat.ren, Row.ren, TV.hs, AV.hs, C.hs, Dat.hs, get_cons, get_nil, zipSlots, List.getD_cons_zero, List.getD_cons_succ, List.getD_nil, -List.getD_eq_getElem?_getD])⟩
      dsimp only
      exact ⟨⟨by omega, hj, by omega, hjm, by rw [swR_len]; exact hl, by rw [hrm]; exact hr⟩, by omega⟩
    · have hgd : decide ((j : Int) < i) = false := by simp; omega
      have e6 : (j : Int) - (i : Int) = ((j - i : Nat) : Int) := by omega
      have e7 : (m : Int) + (j : Int) - (i : Int) = ((m + j - i : Nat) : Int) := by omega
      have hsw := swapR_i ls g ys (m - i) (m + j - i) i (by omega) (by omega) (by omega)
      have hrm := rot_less (0 : Int) (xs := ys) him (by omega) (show i < j by omega)
      rw [hl] at hsw
      simp (dsimp := false) only [hcd, hgd, e5, e7, go_sem, Nat.reduceAdd, Nat.reduceBEq, Nat.reduceEqDiff, Nat.reduceLT, Nat.reduceLeDiff, reduceCtorEq, ↓reduceIte]
      repeat (refine And.intro (by first | exact True.intro | omega | kernel_rfl | (simp only [List.length_set, List.length_append, List.length_take, List.length_replicate, List.length_cons, true_and, and_true, List.length_nil, tabR_length]; omega)) ?_)
      refine ⟨_, (hsw).lift [0, 1, 2] (by decide) (by simp) (by simp [RS.slot, List.map_cons, List.map_nil, rowsLe, rowLe, slotsLe, tvLe, TV.ren, AV.ren, C.ren, Dat.ren, Row.ren, TV.hs, AV.hs, C.hs, Dat.hs, get_cons, get_nil, zipSlots, List.getD_cons_zero, List.getD_cons_succ, List.getD_nil, -List.getD_eq_getElem?_getD]) (by simp [RS.slot, List.map_cons, List.map_nil, rowsLe, rowLe, slotsLe, tvLe, TV.ren, AV.ren, C.ren, Dat.ren, Row.ren, TV.hs, AV.hs, C.hs, Dat.hs, get_cons, get_nil, zipSlots, List.getD_cons_zero, List.getD_cons_succ, List.getD_nil, -List.getD_eq_getElem?_getD]) (by simp [RS.slot, List.map_cons, List.map_nil, rowsLe, rowLe, slotsLe, tvLe, TV.ren, AV.ren, C.ren, Dat.ren, Row.ren, TV.hs, AV.hs, C.hs, Dat.hs, get_cons, get_nil, zipSlots, List.getD_cons_zero, List.getD_cons_succ, List.getD_nil, -List.getD_eq_getElem?_getD]) rfl ?_⟩
      rintro _ _ ⟨rfl, rfl⟩
      refine ⟨by simp [ownIn, Row.own], ?_⟩
      simp (dsimp := false) only [e6, liftT, liftH, putBack, freshR, ownIn, Row.own, Row.ren, TV.ren, AV.ren, C.ren, Dat.ren, List.drop_succ_cons, List.drop_nil, List.getD_cons_zero, List.getD_cons_succ, List.getD_nil, go_sem, Nat.reduceAdd, Nat.reduceBEq, Nat.reduceEqDiff, Nat.reduceLT, Nat.reduceLeDiff, reduceCtorEq, ↓reduceIte]
      repeat (refine And.intro (by first | exact True.intro | omega | kernel_rfl | (simp only [List.length_set, List.length_append, List.length_take, List.length_replicate, List.length_cons, true_and, and_true, List.length_nil, tabR_length]; omega)) ?_)
      refine ⟨(i, j - i, swR (0 : Int) ys (m - i) (m + j - i) i), [0, 1, 2], ?_, weak_of (by decide) (by simp [RS.slot, List.map_cons, List.map_nil, rowsLe, rowLe, slotsLe, tvLe, TV.ren, AV.ren, C.ren, Dat.ren, Row.ren, TV.hs, AV.hs, C.hs, Dat.hs, get_cons, get_nil, zipSlots, List.getD_cons_zero, List.getD_cons_succ, List.getD_nil, -List.getD_eq_getElem?_getD])⟩
      dsimp only
      exact ⟨⟨hi, by omega, him, by omega, by rw [swR_len]; exact hl, by rw [hrm]; exact hr⟩, by omega⟩

theorem insSort_i (ls : List Int) {κ : Int → Int} {ok : Int → Prop} {cv : Int → Int → Int} (hcv : ∀ x y, ok x → ok y → (cv x y < 0 ↔ κ x < κ y)) (g : FuncId) (hg : ∀ (zs : List Int) (x y : Int), ok x → ok y → ACalls Try.prog g [tI x, tI y , .a (.c (.ptr 2 0 0))] [] [rI zs , rI ls, bL ls.length] (fun t H => t = tI (cv x y) ∧ H = [rI zs , rI ls, bL ls.length])) (zs0 : List Int) (a b : Nat) (ha : a ≤ zs0.length) (hb : b ≤ zs0.length) (hN : zs0.length ≤ 281474976710656) (hok : ∀ i, i < zs0.length → ok (zs0.getD i (0 : Int))) :
    ACalls Try.prog 112 [tS 0 zs0.length, tI a, tI b, tF g [(2, 0, 0)]] [0] [oI zs0 , rI ls, bL ls.length] (fun t H => ∃ ys, (t = .tup [] ∧ H = [oI ys , rI ls, bL ls.length]) ∧ SB (0 : Int) κ a b zs0 ys ∧ SO (0 : Int) κ a b ys) := by
  refine afun (fun i => match i with | 4 => some ⟨[], .op 0 .held (.op 1 .held (.op 2 .held (.op 3 .held (.op 4 .held (.op 5 .held (.op 6 .held (.op 7 .held (.op 8 .now (.op 9 .held (.op 10 .held (.op 11 .held (.op 12 .held (.op 13 .now (.op 14 .only (.op 15 .held (.op 16 .held .nil))))))))))))))))⟩ | 6 => some ⟨[0], .op 0 .held (.op 1 .held (.op 2 .held (.op 3 .held (.op 4 .held (.op 5 .held (.op 6 .held (.op 7 .held (.op 8 .held (.op 9 .now (.op 10 .held (.op 11 .held (.op 12 .held (.op 13 .now (.op 14 .held (.op 15 .only (.op 16 .held (.op 17 .only .nil)))))))))))))))))⟩ | _ => none) [] 3 Try.func112 rfl rfl mix (by kernel_rfl) (by kernel_rfl) (by simp [Try.f112]) rfl (by simp [msOwn, ownAll, Row.own]) ?_
  rcases (Nat.lt_or_ge a b).symm with hab | hab
  · have ea : (a : Int) + 1 = ((a + 1 : Nat) : Int) := by omega
    simp (dsimp := false) only [ea, go_sem, Nat.reduceAdd, Nat.reduceBEq, Nat.reduceEqDiff, Nat.reduceLT, Nat.reduceLeDiff, reduceCtorEq, ↓reduceIte]
    repeat (refine And.intro (by first | exact True.intro | omega | kernel_rfl | (simp only [List.length_set, List.length_append, List.length_take, List.length_replicate, List.length_cons, true_and, and_true, List.length_nil, tabR_length]; omega)) ?_)
    refine aloop (σ := Unit) (fun s => ([(0, tS 0 zs0.length), (1, tI a), (2, tI b), (3, tF g [(2, 0, 0)]), (8, tI (a + 1 : Nat))], [oI zs0 , rI ls, bL ls.length])) (fun s => True) (fun s => 0) () [0, 1, 2] trivial (weak_of (by decide) (by simp [RS.slot, List.map_cons, List.map_nil, rowsLe, rowLe, slotsLe, tvLe, TV.ren, AV.ren, C.ren, Dat.ren, Row.ren, TV.hs, AV.hs, C.hs, Dat.hs, get_cons, get_nil, zipSlots, List.getD_cons_zero, List.getD_cons_succ, List.getD_nil, -List.getD_eq_getElem?_getD])) ?_
    intro _ _
    have hcd : decide (((a + 1 : Nat) : Int) < b) = false := by simp; omega
    simp (dsimp := false) only [hcd, go_sem, Nat.reduceAdd, Nat.reduceBEq, Nat.reduceEqDiff, Nat.reduceLT, Nat.reduceLeDiff, reduceCtorEq, ↓reduceIte]
    refine afin [0, 1, 2] [] [oI zs0 , rI ls, bL ls.length] (by simp) rfl (weak_of (by decide) (by simp [RS.slot, List.map_cons, List.map_nil, rowsLe, rowLe, slotsLe, tvLe, TV.ren, AV.ren, C.ren, Dat.ren, Row.ren, TV.hs, AV.hs, C.hs, Dat.hs, get_cons, get_nil, zipSlots, List.getD_cons_zero, List.getD_cons_succ, List.getD_nil, -List.getD_eq_getElem?_getD])) (by exact ⟨zs0, ⟨rfl, rfl⟩, SB.refl .., SO.of_le _ _ _ (by omega)⟩)
  have ea : (a : Int) + 1 = ((a + 1 : Nat) : Int) := by omega
  simp (dsimp := false) only [ea, go_sem, Nat.reduceAdd, Nat.reduceBEq, Nat.reduceEqDiff, Nat.reduceLT, Nat.reduceLeDiff, reduceCtorEq, ↓reduceIte]
  repeat (refine And.intro (by first | exact True.intro | omega | kernel_rfl | (simp only [List.length_set, List.length_append, List.length_take, List.length_replicate, List.length_cons, true_and, and_true, List.length_nil, tabR_length]; omega)) ?_)
  refine aloopQ (σ := Nat × List Int) (fun s => ([(0, tS 0 zs0.length), (1, tI a), (2, tI b), (3, tF g [(2, 0, 0)]), (8, tI s.1)], [oI s.2 , rI ls, bL ls.length])) (fun s => a + 1 ≤ s.1 ∧ s.1 ≤ b ∧ SB (0 : Int) κ a b zs0 s.2 ∧ SO (0 : Int) κ a s.1 s.2) (fun s => b - s.1) (a + 1, zs0) [0, 1, 2] ⟨Nat.le_refl _, by omega, SB.refl .., SO.of_le _ _ _ (by omega)⟩ (weak_of (by decide) (by simp [RS.slot, List.map_cons, List.map_nil, rowsLe, rowLe, slotsLe, tvLe, TV.ren, AV.ren, C.ren, Dat.ren, Row.ren, TV.hs, AV.hs, C.hs, Dat.hs, get_cons, get_nil, zipSlots, List.getD_cons_zero, List.getD_cons_succ, List.getD_nil, -List.getD_eq_getElem?_getD])) ?_
  rintro Q hQ ⟨i, ys⟩ ⟨hai, hib, hsb, hso⟩
  simp only at hai hib hsb hso
  by_cases hc : i < b
  · have hcd : decide ((i : Int) < b) = true := by simp; omega
    simp (dsimp := false) only [hcd, go_sem, Nat.reduceAdd, Nat.reduceBEq, Nat.reduceEqDiff, Nat.reduceLT, Nat.reduceLeDiff, reduceCtorEq, ↓reduceIte]
    repeat (refine And.intro (by first | exact True.intro | omega | kernel_rfl | (simp only [List.length_set, List.length_append, List.length_take, List.length_replicate, List.length_cons, true_and, and_true, List.length_nil, tabR_length]; omega)) ?_)
    refine aloopQ (σ := Nat × List Int) (fun t => ([(0, tS 0 zs0.length), (1, tI a), (2, tI b), (3, tF g [(2, 0, 0)]), (8, tI i), (9, tI t.1)], [oI t.2 , rI ls, bL ls.length])) (fun t => a ≤ t.1 ∧ t.1 ≤ i ∧ SB (0 : Int) κ a b zs0 t.2 ∧ IP (0 : Int) κ a i t.1 t.2) (fun t => t.1) (i, ys) [0, 1, 2] ⟨by dsimp only; omega, Nat.le_refl _, hsb, IP.start hso⟩ (weak_of (by decide) (by simp [RS.slot, List.map_cons, List.map_nil, rowsLe, rowLe, slotsLe, tvLe, TV.ren, AV.ren, C.ren, Dat.ren, Row.ren, TV.hs, AV.hs, C.hs, Dat.hs, get_cons, get_nil, zipSlots, List.getD_cons_zero, List.getD_cons_succ, List.getD_nil, -List.getD_eq_getElem?_getD])) ?_
    rintro Q2 hQ2 ⟨j, ws⟩ ⟨haj, hji, hws, hip⟩
    simp only at haj hji hws hip
    have hl := hws.len
    have hok2 := hws.oks hb hok
    by_cases hj : j = a
    · subst hj
      have hjd : decide ((j : Int) < j) = false := by simp
      simp (dsimp := false) only [hjd, go_sem, Nat.reduceAdd, Nat.reduceBEq, Nat.reduceEqDiff, Nat.reduceLT, Nat.reduceLeDiff, reduceCtorEq, ↓reduceIte]
      refine hQ2 _ _ _ ?_
      simp (dsimp := false) only [go_sem, Nat.reduceAdd, Nat.reduceBEq, Nat.reduceEqDiff, Nat.reduceLT, Nat.reduceLeDiff, reduceCtorEq, ↓reduceIte]
      repeat (refine And.intro (by first | exact True.intro | omega | kernel_rfl | (simp only [List.length_set, List.length_append, List.length_take, List.length_replicate, List.length_cons, true_and, and_true, List.length_nil, tabR_length]; omega)) ?_)
      refine ⟨(i + 1, ws), [0, 1, 2], ?_, weak_of (by decide) (by simp [RS.slot, List.map_cons, List.map_nil, rowsLe, rowLe, slotsLe, tvLe, TV.ren, AV.ren, C.ren, Dat.ren, Row.ren, TV.hs, AV.hs, C.hs, Dat.hs, get_cons, get_nil, zipSlots, List.getD_cons_zero, List.getD_cons_succ, List.getD_nil, -List.getD_eq_getElem?_getD])⟩
      dsimp only
      exact ⟨⟨by omega, by omega, hws, hip.fin hji (.inl rfl) haj⟩, by omega⟩
    · obtain ⟨k, rfl⟩ : ∃ k, j = k + 1 := ⟨j - 1, by omega⟩
      have hjd : decide ((a : Int) < ((k + 1 : Nat) : Int)) = true := by simp; omega
      have ek : ((k + 1 : Nat) : Int) - 1 = (k : Int) := by omega
      have hcmp := hcv (ws.getD (k + 1) (0 : Int)) (ws.getD k (0 : Int)) (hok2 _ (by omega)) (hok2 _ (by omega))
      have hgc := hg ws (ws.getD (k + 1) (0 : Int)) (ws.getD k (0 : Int)) (hok2 _ (by omega)) (hok2 _ (by omega))
      by_cases hlt : κ (ws.getD (k + 1) (0 : Int)) < κ (ws.getD k (0 : Int))
      · have hd : decide (cv (ws.getD (k + 1) (0 : Int)) (ws.getD k (0 : Int)) < 0) = true := decide_eq_true (hcmp.mpr hlt)
        simp (dsimp := false) only [hjd, ek, Int.toNat_natCast, go_sem, Nat.reduceAdd, Nat.reduceBEq, Nat.reduceEqDiff, Nat.reduceLT, Nat.reduceLeDiff, reduceCtorEq, ↓reduceIte]
        repeat (refine And.intro (by first | exact True.intro | omega | kernel_rfl | (simp only [List.length_set, List.length_append, List.length_take, List.length_replicate, List.length_cons, true_and, and_true, List.length_nil, tabR_length]; omega)) ?_)
        repeat (refine And.intro (by first | exact True.intro | omega | kernel_rfl | (simp only [List.length_set, List.length_append, List.length_take, List.length_replicate, List.length_cons, true_and, and_true, List.length_nil, tabR_length]; omega)) ?_)
        refine ⟨_, And.intro ?_ ((hgc).lift [0, 1, 2] (by decide) (by simp) (by simp [RS.slot, List.map_cons, List.map_nil, rowsLe, rowLe, slotsLe, tvLe, TV.ren, AV.ren, C.ren, Dat.ren, Row.ren, TV.hs, AV.hs, C.hs, Dat.hs, get_cons, get_nil, zipSlots, List.getD_cons_zero, List.getD_cons_succ, List.getD_nil, -List.getD_eq_getElem?_getD]) (by simp [RS.slot, List.map_cons, List.map_nil, rowsLe, rowLe, slotsLe, tvLe, TV.ren, AV.ren, C.ren, Dat.ren, Row.ren, TV.hs, AV.hs, C.hs, Dat.hs, get_cons, get_nil, zipSlots, List.getD_cons_zero, List.getD_cons_succ, List.getD_nil, -List.getD_eq_getElem?_getD]) (by simp [RS.slot, List.map_cons, List.map_nil, rowsLe, rowLe, slotsLe, tvLe, TV.ren, AV.ren, C.ren, Dat.ren, Row.ren, TV.hs, AV.hs, C.hs, Dat.hs, get_cons, get_nil, zipSlots, List.getD_cons_zero, List.getD_cons_succ, List.getD_nil, -List.getD_eq_getElem?_getD]) rfl ?_)⟩
        · simp [msIn]
        rintro _ _ ⟨rfl, rfl⟩
        refine ⟨by simp [ownIn, Row.own], ?_⟩
        simp (dsimp := false) only [hd, ek, Int.toNat_natCast, liftT, liftH, putBack, freshR, ownIn, Row.own, Row.ren, TV.ren, AV.ren, C.ren, Dat.ren, List.drop_succ_cons, List.drop_nil, List.getD_cons_zero, List.getD_cons_succ, List.getD_nil, go_sem, Nat.reduceAdd, Nat.reduceBEq, Nat.reduceEqDiff, Nat.reduceLT, Nat.reduceLeDiff, reduceCtorEq, ↓reduceIte]
        repeat (refine And.intro (by first | exact True.intro | omega | kernel_rfl | (simp only [List.length_set, List.length_append, List.length_take, List.length_replicate, List.length_cons, true_and, and_true, List.length_nil, tabR_length]; omega)) ?_)
        refine ⟨(k, swD (0 : Int) ws (k + 1) k), [0, 1, 2], ?_, weak_of (by decide) (by simp [RS.slot, List.map_cons, List.map_nil, rowsLe, rowLe, slotsLe, tvLe, TV.ren, AV.ren, C.ren, Dat.ren, Row.ren, TV.hs, AV.hs, C.hs, Dat.hs, get_cons, get_nil, zipSlots, List.getD_cons_zero, List.getD_cons_succ, List.getD_nil, -List.getD_eq_getElem?_getD, swD])⟩
        dsimp only
        exact ⟨⟨by omega, by omega, hws.swpD (by omega) hb (by omega) hlt, hip.step (by omega) hji (by omega) hlt⟩, by omega⟩
      · have hd : decide (cv (ws.getD (k + 1) (0 : Int)) (ws.getD k (0 : Int)) < 0) = false := decide_eq_false (fun h => hlt (hcmp.mp h))
        simp (dsimp := false) only [hjd, ek, Int.toNat_natCast, go_sem, Nat.reduceAdd, Nat.reduceBEq, Nat.reduceEqDiff, Nat.reduceLT, Nat.reduceLeDiff, reduceCtorEq, ↓reduceIte]
        repeat (refine And.intro (by first | exact True.intro | omega | kernel_rfl | (simp only [List.length_set, List.length_append, List.length_take, List.length_replicate, List.length_cons, true_and, and_true, List.length_nil, tabR_length]; omega)) ?_)
        repeat (refine And.intro (by first | exact True.intro | omega | kernel_rfl | (simp only [List.length_set, List.length_append, List.length_take, List.length_replicate, List.length_cons, true_and, and_true, List.length_nil, tabR_length]; omega)) ?_)
        refine ⟨_, And.intro ?_ ((hgc).lift [0, 1, 2] (by decide) (by simp) (by simp [RS.slot, List.map_cons, List.map_nil, rowsLe, rowLe, slotsLe, tvLe, TV.ren, AV.ren, C.ren, Dat.ren, Row.ren, TV.hs, AV.hs, C.hs, Dat.hs, get_cons, get_nil, zipSlots, List.getD_cons_zero, List.getD_cons_succ, List.getD_nil, -List.getD_eq_getElem?_getD]) (by simp [RS.slot, List.map_cons, List.map_nil, rowsLe, rowLe, slotsLe, tvLe, TV.ren, AV.ren, C.ren, Dat.ren, Row.ren, TV.hs, AV.hs, C.hs, Dat.hs, get_cons, get_nil, zipSlots, List.getD_cons_zero, List.getD_cons_succ, List.getD_nil, -List.getD_eq_getElem?_getD]) (by simp [RS.slot, List.map_cons, List.map_nil, rowsLe, rowLe, slotsLe, tvLe, TV.ren, AV.ren, C.ren, Dat.ren, Row.ren, TV.hs, AV.hs, C.hs, Dat.hs, get_cons, get_nil, zipSlots, List.getD_cons_zero, List.getD_cons_succ, List.getD_nil, -List.getD_eq_getElem?_getD]) rfl ?_)⟩
        · simp [msIn]
        rintro _ _ ⟨rfl, rfl⟩
        refine ⟨by simp [ownIn, Row.own], ?_⟩
        simp (dsimp := false) only [hd, ek, Int.toNat_natCast, liftT, liftH, putBack, freshR, ownIn, Row.own, Row.ren, TV.ren, AV.ren, C.ren, Dat.ren, List.drop_succ_cons, List.drop_nil, List.getD_cons_zero, List.getD_cons_succ, List.getD_nil, go_sem, Nat.reduceAdd, Nat.reduceBEq, Nat.reduceEqDiff, Nat.reduceLT, Nat.reduceLeDiff, reduceCtorEq, ↓reduceIte]
        refine hQ2 _ _ _ ?_
        simp (dsimp := false) only [go_sem, Nat.reduceAdd, Nat.reduceBEq, Nat.reduceEqDiff, Nat.reduceLT, Nat.reduceLeDiff, reduceCtorEq, ↓reduceIte]
        repeat (refine And.intro (by first | exact True.intro | omega | kernel_rfl | (simp only [List.length_set, List.length_append, List.length_take, List.length_replicate, List.length_cons, true_and, and_true, List.length_nil, tabR_length]; omega)) ?_)
        refine ⟨(i + 1, ws), [0, 1, 2], ?_, weak_of (by decide) (by simp [RS.slot, List.map_cons, List.map_nil, rowsLe, rowLe, slotsLe, tvLe, TV.ren, AV.ren, C.ren, Dat.ren, Row.ren, TV.hs, AV.hs, C.hs, Dat.hs, get_cons, get_nil, zipSlots, List.getD_cons_zero, List.getD_cons_succ, List.getD_nil, -List.getD_eq_getElem?_getD])⟩
        dsimp only
        exact ⟨⟨by omega, by omega, hws, hip.fin hji (.inr (by show κ (ws.getD k (0 : Int)) ≤ _; omega)) haj⟩, by omega⟩
  · have hcd : decide ((i : Int) < b) = false := by simp; omega
    have e : i = b := by omega
    subst e
    simp (dsimp := false) only [hcd, go_sem, Nat.reduceAdd, Nat.reduceBEq, Nat.reduceEqDiff, Nat.reduceLT, Nat.reduceLeDiff, reduceCtorEq, ↓reduceIte]
    refine hQ _ _ _ ?_
    simp (dsimp := false) only [go_sem, Nat.reduceAdd, Nat.reduceBEq, Nat.reduceEqDiff, Nat.reduceLT, Nat.reduceLeDiff, reduceCtorEq, ↓reduceIte]
    refine afin [0, 1, 2] [] [oI ys , rI ls, bL ls.length] (by simp) rfl (weak_of (by decide) (by simp [RS.slot, List.map_cons, List.map_nil, rowsLe, rowLe, slotsLe, tvLe, TV.ren, AV.ren, C.ren, Dat.ren, Row.ren, TV.hs, AV.hs, C.hs, Dat.hs, get_cons, get_nil, zipSlots, List.getD_cons_zero, List.getD_cons_succ, List.getD_nil, -List.getD_eq_getElem?_getD])) (by exact ⟨ys, ⟨rfl, rfl⟩, hsb, hso⟩)
end Go.Proofs.Ytlejmdbjckmfoaa
