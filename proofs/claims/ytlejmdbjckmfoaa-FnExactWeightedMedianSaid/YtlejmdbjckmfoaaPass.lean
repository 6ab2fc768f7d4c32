/- Contracts: the number of passes that a radix sort needs. -/
import Derived.Test.YtlejmdbjckmfoaaDc
set_option linter.unusedSimpArgs false
set_option linter.unusedVariables false
set_option linter.unusedSectionVars false
namespace Go.Proofs.Ytlejmdbjckmfoaa
open Go Go.Ax
set_option maxRecDepth 10000
set_option maxHeartbeats 1000000

/-! ### Plain facts -/
/-- The number of digits. -/
def dgF (b : Nat) : Nat → Nat → Nat
  | 0, _ => 1
  | f + 1, n => if n < b then 1 else 1 + dgF b f (n / b)
theorem dgF_lt {b n : Nat} (f : Nat) (h : n < b) : dgF b f n = 1 := by
  cases f with
  | zero => rfl
  | succ f => rw [dgF, if_pos h]
theorem dgF_ge {b n : Nat} (f : Nat) (h : ¬ n < b) : dgF b (f + 1) n = 1 + dgF b f (n / b) := by rw [dgF, if_neg h]
theorem dgF_mono (b : Nat) : ∀ (f n m : Nat), n ≤ m → dgF b f n ≤ dgF b f m
  | 0, _, _, _ => Nat.le_refl _
  | f + 1, n, m, h => by
    by_cases h1 : n < b
    · rw [dgF_lt _ h1]
      by_cases h2 : m < b
      · rw [dgF_lt _ h2]; exact Nat.le_refl _
      · rw [dgF_ge _ h2]; omega
    · rw [dgF_ge _ h1, dgF_ge _ (show ¬ m < b by omega)]
      have := dgF_mono b f (n / b) (m / b) (Nat.div_le_div_right h)
      omega
theorem dgF_bd (b : Nat) : ∀ (f n : Nat), 1 ≤ dgF b f n ∧ dgF b f n ≤ f + 1
  | 0, _ => by simp [dgF]
  | f + 1, n => by
    have := dgF_bd b f (n / b)
    rw [dgF]
    split <;> omega
theorem half_lt {b n f : Nat} (hb : 2 ≤ b) (h : n < 2 ^ (f + 1)) : n / b < 2 ^ f := by
  rw [Nat.div_lt_iff_lt_mul (by omega)]
  have : 2 ^ f * 2 ≤ 2 ^ f * b := Nat.mul_le_mul_left _ hb
  rw [Nat.pow_succ] at h
  omega

def kN (r : Int × Int) : Nat := (r.1 + 100000).toNat
theorem kN_bd {r : Int × Int} (h : keyB r.1 = true) : ((kN r : Nat) : Int) = r.1 + 100000 ∧ kN r ≤ 200000 := by
  simp only [keyB, inB, Bool.and_eq_true, decide_eq_true_eq] at h
  unfold kN
  omega
/-- The passes of the first i records. -/
def pF (b : Nat) (rs : List (Int × Int)) : Nat → Nat
  | 0 => 0
  | i + 1 => max (pF b rs i) (dgF b 18 (kN (rz rs i)))
/-- The first record of greatest key among the first i + 1. -/
def mxR (rs : List (Int × Int)) : Nat → Int × Int
  | 0 => rz rs 0
  | i + 1 => if (mxR rs i).1 < (rz rs (i + 1)).1 then rz rs (i + 1) else mxR rs i
theorem mxR_mem (rs : List (Int × Int)) : ∀ i, i < rs.length → ∃ j, j ≤ i ∧ mxR rs i = rz rs j
  | 0, h => ⟨0, by omega, rfl⟩
  | i + 1, h => by
    obtain ⟨j, hj, e⟩ := mxR_mem rs i (by omega)
    rw [mxR]
    split
    · exact ⟨i + 1, by omega, rfl⟩
    · exact ⟨j, by omega, e⟩
theorem pF_mx {b : Nat} {rs : List (Int × Int)} (hk : ∀ i, i < rs.length → keyB (rz rs i).1 = true) : ∀ i, i < rs.length → pF b rs (i + 1) = dgF b 18 (kN (mxR rs i))
  | 0, h => by simp only [pF, mxR]; have := dgF_bd b 18 (kN (rz rs 0)); omega
  | i + 1, h => by
    have ih := pF_mx (b := b) hk i (by omega)
    obtain ⟨j, hj, e⟩ := mxR_mem rs i (by omega)
    have h1 := kN_bd (hk (i + 1) h)
    have h2 := kN_bd (hk j (by omega))
    rw [← e] at h2
    rw [pF, ih, mxR]
    by_cases hlt : (mxR rs i).1 < (rz rs (i + 1)).1
    · rw [if_pos hlt]
      have := dgF_mono b 18 (kN (mxR rs i)) (kN (rz rs (i + 1))) (by omega)
      omega
    · rw [if_neg hlt]
      have := dgF_mono b 18 (kN (rz rs (i + 1))) (kN (mxR rs i)) (by omega)
      omega

/-! ### Walks -/
theorem l1Most_l (a b : Int) : ACalls Try.prog 98 [tI a, tI b] [] [] (fun t H => t = tI (max a b) ∧ H = []) := by
  refine afun (fun _ => none) [4] 0 Try.func98 rfl rfl mix (by kernel_rfl) (by kernel_rfl) (by simp [Try.f98]) rfl (by simp [msOwn, ownAll, Row.own]) ?_
  by_cases h : b < a
  · have hd : decide (b < a) = true := decide_eq_true h
    simp (dsimp := false) only [hd, go_sem, Nat.reduceAdd, Nat.reduceBEq, Nat.reduceEqDiff, Nat.reduceLT, Nat.reduceLeDiff, reduceCtorEq, ↓reduceIte]
    have e : max a b = a := by omega
    refine afin [] [aI a] [] (by simp) rfl (weak_of (by decide) (by simp [RS.slot, List.map_cons, List.map_nil, rowsLe, rowLe, slotsLe, tvLe, TV.ren, AV.ren, C.ren, Dat.ren, Row.ren, TV.hs, AV.hs, C.hs, Dat.hs, get_cons, get_nil, zipSlots, List.getD_cons_zero, List.getD_cons_succ, List.getD_nil, -List.getD_eq_getElem?_getD, e])) (by simp [rtv, e, -List.getD_eq_getElem?_getD])
  · have hd : decide (b < a) = false := decide_eq_false h
    simp (dsimp := false) only [hd, go_sem, Nat.reduceAdd, Nat.reduceBEq, Nat.reduceEqDiff, Nat.reduceLT, Nat.reduceLeDiff, reduceCtorEq, ↓reduceIte]
    have e : max a b = b := by omega
    refine afin [] [aI b] [] (by simp) rfl (weak_of (by decide) (by simp [RS.slot, List.map_cons, List.map_nil, rowsLe, rowLe, slotsLe, tvLe, TV.ren, AV.ren, C.ren, Dat.ren, Row.ren, TV.hs, AV.hs, C.hs, Dat.hs, get_cons, get_nil, zipSlots, List.getD_cons_zero, List.getD_cons_succ, List.getD_nil, -List.getD_eq_getElem?_getD, e])) (by simp [rtv, e, -List.getD_eq_getElem?_getD])

theorem tdivN (a b : Nat) : (a : Int).tdiv (b : Int) = ((a / b : Nat) : Int) := by
  rw [Int.tdiv_eq_ediv_of_nonneg (by omega)]
  exact (Int.natCast_ediv a b).symm

theorem l8Passes_l (rs : List (Int × Int)) (B : Nat) (hv : recsB rs = true) (hB : 2 ≤ B) (hB2 : B ≤ 256) : ACalls Try.prog 69 [tR 0 rs.length, tI B] [] [rR rs] (fun t H => t = tI (pF B rs rs.length) ∧ H = [rR rs]) := by
  have h64 := recsB_len hv
  have hpb : ∀ i, pF B rs i ≤ 19 := fun i => by
    induction i with
    | zero => simp [pF]
    | succ i ih => rw [pF]; have := dgF_bd B 18 (kN (rz rs i)); omega
  refine afun (fun _ => none) [4] 1 Try.func69 rfl rfl mix (by kernel_rfl) (by kernel_rfl) (by simp [Try.f69]) rfl (by simp [msOwn, ownAll, Row.own]) ?_
  simp (dsimp := false) only [go_sem, Nat.reduceAdd, Nat.reduceBEq, Nat.reduceEqDiff, Nat.reduceLT, Nat.reduceLeDiff, reduceCtorEq, ↓reduceIte]
  refine aloop (σ := Nat) (fun i => ([(0, tR 0 rs.length), (1, tI B), (5, tI (pF B rs i)), (6, tI i)], [rR rs])) (fun i => i ≤ rs.length) (fun i => rs.length - i) 0 [0] (by omega) (weak_of (by decide) (by simp [RS.slot, List.map_cons, List.map_nil, rowsLe, rowLe, slotsLe, tvLe, TV.ren, AV.ren, C.ren, Dat.ren, Row.ren, TV.hs, AV.hs, C.hs, Dat.hs, get_cons, get_nil, zipSlots, List.getD_cons_zero, List.getD_cons_succ, List.getD_nil, -List.getD_eq_getElem?_getD, pF])) ?_
  intro i hi
  by_cases hc : i < rs.length
  · have hcd : decide ((i : Int) < rs.length) = true := by simp; omega
    have hk := kN_bd (recsB_key hv hc)
    simp (dsimp := false) only [hcd, Int.toNat_natCast, go_sem, Nat.reduceAdd, Nat.reduceBEq, Nat.reduceEqDiff, Nat.reduceLT, Nat.reduceLeDiff, reduceCtorEq, ↓reduceIte]
    repeat (refine And.intro (by first | exact True.intro | omega | kernel_rfl | (simp only [List.length_set, List.length_append, List.length_take, List.length_replicate, List.length_cons, true_and, and_true, List.length_nil, tabR_length]; omega)) ?_)
    rw [← hk.1]
    repeat (refine And.intro (by first | exact True.intro | omega | kernel_rfl | (simp only [List.length_set, List.length_append, List.length_take, List.length_replicate, List.length_cons, true_and, and_true, List.length_nil, tabR_length]; omega)) ?_)
    refine aloop (σ := Nat × Nat × Nat) (fun s => ([(0, tR 0 rs.length), (1, tI B), (5, tI (pF B rs i)), (6, tI i), (7, tI s.2.1), (8, tI s.2.2)], [rR rs])) (fun s => s.2.1 < 2 ^ s.1 ∧ s.2.2 + dgF B s.1 s.2.1 = 1 + dgF B 18 (kN (rz rs i)) ∧ s.2.2 ≤ 100 ∧ s.2.1 ≤ 200000) (fun s => s.2.1) (18, kN (rz rs i), 1) [0] ⟨by show kN (rz rs i) < 2 ^ 18; have := hk.2; omega, rfl, by show 1 ≤ 100; omega, hk.2⟩ (weak_of (by decide) (by simp [RS.slot, List.map_cons, List.map_nil, rowsLe, rowLe, slotsLe, tvLe, TV.ren, AV.ren, C.ren, Dat.ren, Row.ren, TV.hs, AV.hs, C.hs, Dat.hs, get_cons, get_nil, zipSlots, List.getD_cons_zero, List.getD_cons_succ, List.getD_nil, -List.getD_eq_getElem?_getD])) ?_
    rintro ⟨f, n, g⟩ ⟨j1, j2, j3, j4⟩
    simp only at j1 j2 j3 j4
    by_cases hn : n < B
    · have hnd : decide ((B : Int) ≤ n) = false := decide_eq_false (by omega)
      rw [dgF_lt f hn] at j2
      simp (dsimp := false) only [hnd, go_sem, Nat.reduceAdd, Nat.reduceBEq, Nat.reduceEqDiff, Nat.reduceLT, Nat.reduceLeDiff, reduceCtorEq, ↓reduceIte]
      repeat (refine And.intro (by first | exact True.intro | omega | kernel_rfl | (simp only [List.length_set, List.length_append, List.length_take, List.length_replicate, List.length_cons, true_and, and_true, List.length_nil, tabR_length]; omega)) ?_)
      refine ⟨_, (l1Most_l (pF B rs i) g).lift [] (by decide) (by simp) (by simp [RS.slot, List.map_cons, List.map_nil, rowsLe, rowLe, slotsLe, tvLe, TV.ren, AV.ren, C.ren, Dat.ren, Row.ren, TV.hs, AV.hs, C.hs, Dat.hs, get_cons, get_nil, zipSlots, List.getD_cons_zero, List.getD_cons_succ, List.getD_nil, -List.getD_eq_getElem?_getD]) (by simp [RS.slot, List.map_cons, List.map_nil, rowsLe, rowLe, slotsLe, tvLe, TV.ren, AV.ren, C.ren, Dat.ren, Row.ren, TV.hs, AV.hs, C.hs, Dat.hs, get_cons, get_nil, zipSlots, List.getD_cons_zero, List.getD_cons_succ, List.getD_nil, -List.getD_eq_getElem?_getD]) (by simp [RS.slot, List.map_cons, List.map_nil, rowsLe, rowLe, slotsLe, tvLe, TV.ren, AV.ren, C.ren, Dat.ren, Row.ren, TV.hs, AV.hs, C.hs, Dat.hs, get_cons, get_nil, zipSlots, List.getD_cons_zero, List.getD_cons_succ, List.getD_nil, -List.getD_eq_getElem?_getD]) rfl ?_⟩
      rintro _ _ ⟨rfl, rfl⟩
      refine ⟨by simp [ownIn, Row.own], ?_⟩
      simp (dsimp := false) only [hnd, liftT, liftH, putBack, freshR, ownIn, Row.own, Row.ren, TV.ren, AV.ren, C.ren, Dat.ren, List.drop_succ_cons, List.drop_nil, List.getD_cons_zero, List.getD_cons_succ, List.getD_nil, go_sem, Nat.reduceAdd, Nat.reduceBEq, Nat.reduceEqDiff, Nat.reduceLT, Nat.reduceLeDiff, reduceCtorEq, ↓reduceIte]
      repeat (refine And.intro (by first | exact True.intro | omega | kernel_rfl | (simp only [List.length_set, List.length_append, List.length_take, List.length_replicate, List.length_cons, true_and, and_true, List.length_nil, tabR_length]; omega)) ?_)
      have e : max ((pF B rs i : Nat) : Int) (g : Int) = ((pF B rs (i + 1) : Nat) : Int) := by rw [pF]; omega
      refine ⟨i + 1, [0], ?_, weak_of (by decide) (by simp [RS.slot, List.map_cons, List.map_nil, rowsLe, rowLe, slotsLe, tvLe, TV.ren, AV.ren, C.ren, Dat.ren, Row.ren, TV.hs, AV.hs, C.hs, Dat.hs, get_cons, get_nil, zipSlots, List.getD_cons_zero, List.getD_cons_succ, List.getD_nil, -List.getD_eq_getElem?_getD, e])⟩
      omega
    · have hnd : decide ((B : Int) ≤ n) = true := decide_eq_true (by omega)
      obtain ⟨f, rfl⟩ : ∃ f', f = f' + 1 := by
        cases f with
        | zero => simp at j1; omega
        | succ f => exact ⟨f, rfl⟩
      rw [dgF_ge f hn] at j2
      have h2 := half_lt hB j1
      have h3 : n / B < n := Nat.div_lt_self (by omega) (by omega)
      have hb := dgF_bd B f (n / B)
      have hb2 := dgF_bd B 18 (kN (rz rs i))
      obtain ⟨q, hq⟩ : ∃ q, q = n / B := ⟨_, rfl⟩
      rw [← hq] at j2 h2 h3 hb
      simp (dsimp := false) only [hnd, tdivN, ← hq, go_sem, Nat.reduceAdd, Nat.reduceBEq, Nat.reduceEqDiff, Nat.reduceLT, Nat.reduceLeDiff, reduceCtorEq, ↓reduceIte]
      repeat (refine And.intro (by first | exact True.intro | omega | kernel_rfl | (simp only [List.length_set, List.length_append, List.length_take, List.length_replicate, List.length_cons, true_and, and_true, List.length_nil, tabR_length]; omega)) ?_)
      have eg : ((g + 1 : Nat) : Int) = (g : Int) + 1 := by omega
      refine ⟨(f, q, g + 1), [0], ?_, weak_of (by decide) (by simp [RS.slot, List.map_cons, List.map_nil, rowsLe, rowLe, slotsLe, tvLe, TV.ren, AV.ren, C.ren, Dat.ren, Row.ren, TV.hs, AV.hs, C.hs, Dat.hs, get_cons, get_nil, zipSlots, List.getD_cons_zero, List.getD_cons_succ, List.getD_nil, -List.getD_eq_getElem?_getD, eg])⟩
      dsimp only
      exact ⟨⟨h2, by omega, by omega, by omega⟩, h3⟩
  · have hcd : decide ((i : Int) < rs.length) = false := by simp; omega
    have e : i = rs.length := by omega
    subst e
    simp (dsimp := false) only [hcd, go_sem, Nat.reduceAdd, Nat.reduceBEq, Nat.reduceEqDiff, Nat.reduceLT, Nat.reduceLeDiff, reduceCtorEq, ↓reduceIte]
    refine afin [0] [aI (pF B rs rs.length)] [rR rs] (by simp) rfl (weak_of (by decide) (by simp [RS.slot, List.map_cons, List.map_nil, rowsLe, rowLe, slotsLe, tvLe, TV.ren, AV.ren, C.ren, Dat.ren, Row.ren, TV.hs, AV.hs, C.hs, Dat.hs, get_cons, get_nil, zipSlots, List.getD_cons_zero, List.getD_cons_succ, List.getD_nil, -List.getD_eq_getElem?_getD])) (by simp [rtv])

def cmpI (a b : Int) : Int := if a < b then -1 else if b < a then 1 else 0
theorem isNaN_l (x : Int) : ACalls Try.prog 107 [tI x] [] [] (fun t H => t = tB false ∧ H = []) := by
  refine afun (fun _ => none) [2] 0 Try.func107 rfl rfl mix (by kernel_rfl) (by kernel_rfl) (by simp [Try.f107]) rfl (by simp [msOwn, ownAll, Row.own]) ?_
  simp (dsimp := false) only [go_sem, Nat.reduceAdd, Nat.reduceBEq, Nat.reduceEqDiff, Nat.reduceLT, Nat.reduceLeDiff, reduceCtorEq, ↓reduceIte]
  refine afin [] [aB false] [] (by simp) rfl (weak_of (by decide) (by simp [RS.slot, List.map_cons, List.map_nil, rowsLe, rowLe, slotsLe, tvLe, TV.ren, AV.ren, C.ren, Dat.ren, Row.ren, TV.hs, AV.hs, C.hs, Dat.hs, get_cons, get_nil, zipSlots, List.getD_cons_zero, List.getD_cons_succ, List.getD_nil, -List.getD_eq_getElem?_getD])) (by simp [rtv])
theorem compare_l (a b : Int) : ACalls Try.prog 89 [tI a, tI b] [] [] (fun t H => t = tI (cmpI a b) ∧ H = []) := by
  refine afun (fun _ => none) [4] 0 Try.func89 rfl rfl mix (by kernel_rfl) (by kernel_rfl) (by simp [Try.f89]) rfl (by simp [msOwn, ownAll, Row.own]) ?_
  simp (dsimp := false) only [go_sem, Nat.reduceAdd, Nat.reduceBEq, Nat.reduceEqDiff, Nat.reduceLT, Nat.reduceLeDiff, reduceCtorEq, ↓reduceIte]
  repeat (refine And.intro (by first | exact True.intro | omega | kernel_rfl | (simp only [List.length_set, List.length_append, List.length_take, List.length_replicate, List.length_cons, true_and, and_true, List.length_nil, tabR_length]; omega)) ?_)
  refine ⟨_, (isNaN_l a).lift [] (by decide) (by simp) (by simp [RS.slot, List.map_cons, List.map_nil, rowsLe, rowLe, slotsLe, tvLe, TV.ren, AV.ren, C.ren, Dat.ren, Row.ren, TV.hs, AV.hs, C.hs, Dat.hs, get_cons, get_nil, zipSlots, List.getD_cons_zero, List.getD_cons_succ, List.getD_nil, -List.getD_eq_getElem?_getD]) (by simp [RS.slot, List.map_cons, List.map_nil, rowsLe, rowLe, slotsLe, tvLe, TV.ren, AV.ren, C.ren, Dat.ren, Row.ren, TV.hs, AV.hs, C.hs, Dat.hs, get_cons, get_nil, zipSlots, List.getD_cons_zero, List.getD_cons_succ, List.getD_nil, -List.getD_eq_getElem?_getD]) (by simp [RS.slot, List.map_cons, List.map_nil, rowsLe, rowLe, slotsLe, tvLe, TV.ren, AV.ren, C.ren, Dat.ren, Row.ren, TV.hs, AV.hs, C.hs, Dat.hs, get_cons, get_nil, zipSlots, List.getD_cons_zero, List.getD_cons_succ, List.getD_nil, -List.getD_eq_getElem?_getD]) rfl ?_⟩
  rintro _ _ ⟨rfl, rfl⟩
  refine ⟨by simp [ownIn, Row.own], ?_⟩
  simp (dsimp := false) only [liftT, liftH, putBack, freshR, ownIn, Row.own, Row.ren, TV.ren, AV.ren, C.ren, Dat.ren, List.drop_succ_cons, List.drop_nil, List.getD_cons_zero, List.getD_cons_succ, List.getD_nil, go_sem, Nat.reduceAdd, Nat.reduceBEq, Nat.reduceEqDiff, Nat.reduceLT, Nat.reduceLeDiff, reduceCtorEq, ↓reduceIte]
  repeat (refine And.intro (by first | exact True.intro | omega | kernel_rfl | (simp only [List.length_set, List.length_append, List.length_take, List.length_replicate, List.length_cons, true_and, and_true, List.length_nil, tabR_length]; omega)) ?_)
  refine ⟨_, (isNaN_l b).lift [] (by decide) (by simp) (by simp [RS.slot, List.map_cons, List.map_nil, rowsLe, rowLe, slotsLe, tvLe, TV.ren, AV.ren, C.ren, Dat.ren, Row.ren, TV.hs, AV.hs, C.hs, Dat.hs, get_cons, get_nil, zipSlots, List.getD_cons_zero, List.getD_cons_succ, List.getD_nil, -List.getD_eq_getElem?_getD]) (by simp [RS.slot, List.map_cons, List.map_nil, rowsLe, rowLe, slotsLe, tvLe, TV.ren, AV.ren, C.ren, Dat.ren, Row.ren, TV.hs, AV.hs, C.hs, Dat.hs, get_cons, get_nil, zipSlots, List.getD_cons_zero, List.getD_cons_succ, List.getD_nil, -List.getD_eq_getElem?_getD]) (by simp [RS.slot, List.map_cons, List.map_nil, rowsLe, rowLe, slotsLe, tvLe, TV.ren, AV.ren, C.ren, Dat.ren, Row.ren, TV.hs, AV.hs, C.hs, Dat.hs, get_cons, get_nil, zipSlots, List.getD_cons_zero, List.getD_cons_succ, List.getD_nil, -List.getD_eq_getElem?_getD]) rfl ?_⟩
  rintro _ _ ⟨rfl, rfl⟩
  refine ⟨by simp [ownIn, Row.own], ?_⟩
  simp (dsimp := false) only [liftT, liftH, putBack, freshR, ownIn, Row.own, Row.ren, TV.ren, AV.ren, C.ren, Dat.ren, List.drop_succ_cons, List.drop_nil, List.getD_cons_zero, List.getD_cons_succ, List.getD_nil, go_sem, Nat.reduceAdd, Nat.reduceBEq, Nat.reduceEqDiff, Nat.reduceLT, Nat.reduceLeDiff, reduceCtorEq, ↓reduceIte]
  by_cases h : a < b
  · have hd : decide (a < b) = true := decide_eq_true h
    simp (dsimp := false) only [hd, go_sem, Nat.reduceAdd, Nat.reduceBEq, Nat.reduceEqDiff, Nat.reduceLT, Nat.reduceLeDiff, reduceCtorEq, ↓reduceIte]
    refine afin [] [aI (-1)] [] (by simp) rfl (weak_of (by decide) (by simp [RS.slot, List.map_cons, List.map_nil, rowsLe, rowLe, slotsLe, tvLe, TV.ren, AV.ren, C.ren, Dat.ren, Row.ren, TV.hs, AV.hs, C.hs, Dat.hs, get_cons, get_nil, zipSlots, List.getD_cons_zero, List.getD_cons_succ, List.getD_nil, -List.getD_eq_getElem?_getD, cmpI, h])) (by simp [rtv, cmpI, h, -List.getD_eq_getElem?_getD])
  · have hd : decide (a < b) = false := decide_eq_false h
    by_cases h2 : b < a
    · have hd2 : decide (b < a) = true := decide_eq_true h2
      simp (dsimp := false) only [hd, hd2, go_sem, Nat.reduceAdd, Nat.reduceBEq, Nat.reduceEqDiff, Nat.reduceLT, Nat.reduceLeDiff, reduceCtorEq, ↓reduceIte]
      refine afin [] [aI 1] [] (by simp) rfl (weak_of (by decide) (by simp [RS.slot, List.map_cons, List.map_nil, rowsLe, rowLe, slotsLe, tvLe, TV.ren, AV.ren, C.ren, Dat.ren, Row.ren, TV.hs, AV.hs, C.hs, Dat.hs, get_cons, get_nil, zipSlots, List.getD_cons_zero, List.getD_cons_succ, List.getD_nil, -List.getD_eq_getElem?_getD, cmpI, h, h2])) (by simp [rtv, cmpI, h, h2, -List.getD_eq_getElem?_getD])
    · have hd2 : decide (b < a) = false := decide_eq_false h2
      simp (dsimp := false) only [hd, hd2, go_sem, Nat.reduceAdd, Nat.reduceBEq, Nat.reduceEqDiff, Nat.reduceLT, Nat.reduceLeDiff, reduceCtorEq, ↓reduceIte]
      refine afin [] [aI 0] [] (by simp) rfl (weak_of (by decide) (by simp [RS.slot, List.map_cons, List.map_nil, rowsLe, rowLe, slotsLe, tvLe, TV.ren, AV.ren, C.ren, Dat.ren, Row.ren, TV.hs, AV.hs, C.hs, Dat.hs, get_cons, get_nil, zipSlots, List.getD_cons_zero, List.getD_cons_succ, List.getD_nil, -List.getD_eq_getElem?_getD, cmpI, h, h2])) (by simp [rtv, cmpI, h, h2, -List.getD_eq_getElem?_getD])
theorem compareKeys_l (r s : Int × Int) : ACalls Try.prog 94 [tRec r, tRec s] [] [] (fun t H => t = tI (cmpI r.1 s.1) ∧ H = []) := by
  refine afun (fun _ => none) [4] 0 Try.func94 rfl rfl mix (by kernel_rfl) (by kernel_rfl) (by simp [Try.f94]) rfl (by simp [msOwn, ownAll, Row.own]) ?_
  simp (dsimp := false) only [go_sem, Nat.reduceAdd, Nat.reduceBEq, Nat.reduceEqDiff, Nat.reduceLT, Nat.reduceLeDiff, reduceCtorEq, ↓reduceIte]
  repeat (refine And.intro (by first | exact True.intro | omega | kernel_rfl | (simp only [List.length_set, List.length_append, List.length_take, List.length_replicate, List.length_cons, true_and, and_true, List.length_nil, tabR_length]; omega)) ?_)
  repeat (refine And.intro (by first | exact True.intro | omega | kernel_rfl | (simp only [List.length_set, List.length_append, List.length_take, List.length_replicate, List.length_cons, true_and, and_true, List.length_nil, tabR_length]; omega)) ?_)
  refine ⟨_, (compare_l r.1 s.1).lift [] (by decide) (by simp) (by simp [RS.slot, List.map_cons, List.map_nil, rowsLe, rowLe, slotsLe, tvLe, TV.ren, AV.ren, C.ren, Dat.ren, Row.ren, TV.hs, AV.hs, C.hs, Dat.hs, get_cons, get_nil, zipSlots, List.getD_cons_zero, List.getD_cons_succ, List.getD_nil, -List.getD_eq_getElem?_getD]) (by simp [RS.slot, List.map_cons, List.map_nil, rowsLe, rowLe, slotsLe, tvLe, TV.ren, AV.ren, C.ren, Dat.ren, Row.ren, TV.hs, AV.hs, C.hs, Dat.hs, get_cons, get_nil, zipSlots, List.getD_cons_zero, List.getD_cons_succ, List.getD_nil, -List.getD_eq_getElem?_getD]) (by simp [RS.slot, List.map_cons, List.map_nil, rowsLe, rowLe, slotsLe, tvLe, TV.ren, AV.ren, C.ren, Dat.ren, Row.ren, TV.hs, AV.hs, C.hs, Dat.hs, get_cons, get_nil, zipSlots, List.getD_cons_zero, List.getD_cons_succ, List.getD_nil, -List.getD_eq_getElem?_getD]) rfl ?_⟩
  rintro _ _ ⟨rfl, rfl⟩
  refine ⟨by simp [ownIn, Row.own], ?_⟩
  simp (dsimp := false) only [liftT, liftH, putBack, freshR, ownIn, Row.own, Row.ren, TV.ren, AV.ren, C.ren, Dat.ren, List.drop_succ_cons, List.drop_nil, List.getD_cons_zero, List.getD_cons_succ, List.getD_nil, go_sem, Nat.reduceAdd, Nat.reduceBEq, Nat.reduceEqDiff, Nat.reduceLT, Nat.reduceLeDiff, reduceCtorEq, ↓reduceIte]
  refine afin [] [aI (cmpI r.1 s.1)] [] (by simp) rfl (weak_of (by decide) (by simp [RS.slot, List.map_cons, List.map_nil, rowsLe, rowLe, slotsLe, tvLe, TV.ren, AV.ren, C.ren, Dat.ren, Row.ren, TV.hs, AV.hs, C.hs, Dat.hs, get_cons, get_nil, zipSlots, List.getD_cons_zero, List.getD_cons_succ, List.getD_nil, -List.getD_eq_getElem?_getD])) (by simp [rtv])

abbrev oC (r : Int × Int) : Row := .r true (.cells 2 [.v (.int .i64 r.1), .v (.int .i64 r.2)])
theorem maxFunc_l (rs : List (Int × Int)) (h1 : 1 ≤ rs.length) (hx : rs.length ≤ 281474976710656) : ACalls Try.prog 99 [tR 0 rs.length, tF 94 []] [] [rR rs] (fun t H => t = tRec (mxR rs (rs.length - 1)) ∧ H = [rR rs]) := by
  have hlt : decide ((rs.length : Int) < 1) = false := by simp; omega
  refine afunC (fun i => match i with | 7 => some ⟨[], .op 0 .held (.op 1 .held (.op 2 .held (.op 3 .held (.op 4 .now (.op 5 .now (.op 6 .only (.op 7 .held .nil)))))))⟩ | _ => none) [.c 4 65] 1 Try.func99 rfl rfl mix (by kernel_rfl) (by kernel_rfl) (by simp [Try.f99, RS.slot]) rfl (by simp [msOwn, ownAll, Row.own]) ?_
  simp (dsimp := false) only [hlt, go_sem, Nat.reduceAdd, Nat.reduceBEq, Nat.reduceEqDiff, Nat.reduceLT, Nat.reduceLeDiff, reduceCtorEq, ↓reduceIte]
  repeat (refine And.intro (by first | exact True.intro | omega | kernel_rfl | (simp only [List.length_set, List.length_append, List.length_take, List.length_replicate, List.length_cons, true_and, and_true, List.length_nil, tabR_length]; omega)) ?_)
  simp only [Int.toNat_zero]
  refine aloop (σ := Nat) (fun i => ([(0, tR 0 rs.length), (1, tF 94 []), (4, .a (.c (.ptr 1 0 0))), (5, .a (.c (.ptr 2 0 0))), (6, tI (i + 1 : Nat))], [rR rs, oC (0, 0), oC (mxR rs i)])) (fun i => i < rs.length) (fun i => rs.length - i) 0 [0, 1, 2] (by omega) (weak_of (by decide) (by simp [RS.slot, List.map_cons, List.map_nil, rowsLe, rowLe, slotsLe, tvLe, TV.ren, AV.ren, C.ren, Dat.ren, Row.ren, TV.hs, AV.hs, C.hs, Dat.hs, get_cons, get_nil, zipSlots, List.getD_cons_zero, List.getD_cons_succ, List.getD_nil, -List.getD_eq_getElem?_getD, mxR])) ?_
  intro i hi
  by_cases hc : i + 1 < rs.length
  · have hcd : decide (((i + 1 : Nat) : Int) < rs.length) = true := decide_eq_true (by omega)
    simp (dsimp := false) only [hcd, Int.toNat_natCast, go_sem, Nat.reduceAdd, Nat.reduceBEq, Nat.reduceEqDiff, Nat.reduceLT, Nat.reduceLeDiff, reduceCtorEq, ↓reduceIte]
    repeat (refine And.intro (by first | exact True.intro | omega | kernel_rfl | (simp only [List.length_set, List.length_append, List.length_take, List.length_replicate, List.length_cons, true_and, and_true, List.length_nil, tabR_length]; omega)) ?_)
    repeat (refine And.intro (by first | exact True.intro | omega | kernel_rfl | (simp only [List.length_set, List.length_append, List.length_take, List.length_replicate, List.length_cons, true_and, and_true, List.length_nil, tabR_length]; omega)) ?_)
    refine ⟨_, And.intro ?_ ((compareKeys_l (rz rs (i + 1)) (mxR rs i)).lift [] (by decide) (by simp) (by simp [RS.slot, List.map_cons, List.map_nil, rowsLe, rowLe, slotsLe, tvLe, TV.ren, AV.ren, C.ren, Dat.ren, Row.ren, TV.hs, AV.hs, C.hs, Dat.hs, get_cons, get_nil, zipSlots, List.getD_cons_zero, List.getD_cons_succ, List.getD_nil, -List.getD_eq_getElem?_getD]) (by simp [RS.slot, List.map_cons, List.map_nil, rowsLe, rowLe, slotsLe, tvLe, TV.ren, AV.ren, C.ren, Dat.ren, Row.ren, TV.hs, AV.hs, C.hs, Dat.hs, get_cons, get_nil, zipSlots, List.getD_cons_zero, List.getD_cons_succ, List.getD_nil, -List.getD_eq_getElem?_getD]) (by simp [RS.slot, List.map_cons, List.map_nil, rowsLe, rowLe, slotsLe, tvLe, TV.ren, AV.ren, C.ren, Dat.ren, Row.ren, TV.hs, AV.hs, C.hs, Dat.hs, get_cons, get_nil, zipSlots, List.getD_cons_zero, List.getD_cons_succ, List.getD_nil, -List.getD_eq_getElem?_getD]) rfl ?_)⟩
    · simp [msIn]
    rintro _ _ ⟨rfl, rfl⟩
    refine ⟨by simp [ownIn, Row.own], ?_⟩
    simp (dsimp := false) only [hcd, liftT, liftH, putBack, freshR, ownIn, Row.own, Row.ren, TV.ren, AV.ren, C.ren, Dat.ren, List.drop_succ_cons, List.drop_nil, List.getD_cons_zero, List.getD_cons_succ, List.getD_nil, go_sem, Nat.reduceAdd, Nat.reduceBEq, Nat.reduceEqDiff, Nat.reduceLT, Nat.reduceLeDiff, reduceCtorEq, ↓reduceIte]
    by_cases hlt : (mxR rs i).1 < (rz rs (i + 1)).1
    · have hd : decide (0 < cmpI (rz rs (i + 1)).1 (mxR rs i).1) = true := by
        unfold cmpI; rw [if_neg (by omega), if_pos hlt]; rfl
      have e : mxR rs (i + 1) = rz rs (i + 1) := by rw [mxR, if_pos hlt]
      simp (dsimp := false) only [hd, Int.toNat_natCast, go_sem, Nat.reduceAdd, Nat.reduceBEq, Nat.reduceEqDiff, Nat.reduceLT, Nat.reduceLeDiff, reduceCtorEq, ↓reduceIte]
      repeat (refine And.intro (by first | exact True.intro | omega | kernel_rfl | (simp only [List.length_set, List.length_append, List.length_take, List.length_replicate, List.length_cons, true_and, and_true, List.length_nil, tabR_length]; omega)) ?_)
      refine ⟨i + 1, [0, 1, 2], ?_, weak_of (by decide) (by simp [RS.slot, List.map_cons, List.map_nil, rowsLe, rowLe, slotsLe, tvLe, TV.ren, AV.ren, C.ren, Dat.ren, Row.ren, TV.hs, AV.hs, C.hs, Dat.hs, get_cons, get_nil, zipSlots, List.getD_cons_zero, List.getD_cons_succ, List.getD_nil, -List.getD_eq_getElem?_getD, e])⟩
      omega
    · have hd : decide (0 < cmpI (rz rs (i + 1)).1 (mxR rs i).1) = false := by
        unfold cmpI
        by_cases h9 : (rz rs (i + 1)).1 < (mxR rs i).1
        · rw [if_pos h9]; rfl
        · rw [if_neg h9, if_neg hlt]; rfl
      have e : mxR rs (i + 1) = mxR rs i := by rw [mxR, if_neg hlt]
      simp (dsimp := false) only [hd, go_sem, Nat.reduceAdd, Nat.reduceBEq, Nat.reduceEqDiff, Nat.reduceLT, Nat.reduceLeDiff, reduceCtorEq, ↓reduceIte]
      repeat (refine And.intro (by first | exact True.intro | omega | kernel_rfl | (simp only [List.length_set, List.length_append, List.length_take, List.length_replicate, List.length_cons, true_and, and_true, List.length_nil, tabR_length]; omega)) ?_)
      refine ⟨i + 1, [0, 1, 2], ?_, weak_of (by decide) (by simp [RS.slot, List.map_cons, List.map_nil, rowsLe, rowLe, slotsLe, tvLe, TV.ren, AV.ren, C.ren, Dat.ren, Row.ren, TV.hs, AV.hs, C.hs, Dat.hs, get_cons, get_nil, zipSlots, List.getD_cons_zero, List.getD_cons_succ, List.getD_nil, -List.getD_eq_getElem?_getD, e])⟩
      omega
  · have hcd : decide (((i + 1 : Nat) : Int) < rs.length) = false := decide_eq_false (by omega)
    have e : i = rs.length - 1 := by omega
    simp (dsimp := false) only [hcd, go_sem, Nat.reduceAdd, Nat.reduceBEq, Nat.reduceEqDiff, Nat.reduceLT, Nat.reduceLeDiff, reduceCtorEq, ↓reduceIte]
    repeat (refine And.intro (by first | exact True.intro | omega | kernel_rfl | (simp only [List.length_set, List.length_append, List.length_take, List.length_replicate, List.length_cons, true_and, and_true, List.length_nil, tabR_length]; omega)) ?_)
    rw [← e]
    refine afin [0] [aRec (mxR rs i)] [rR rs] (by simp) rfl (weak_of (by decide) (by simp [RS.slot, List.map_cons, List.map_nil, rowsLe, rowLe, slotsLe, tvLe, TV.ren, AV.ren, C.ren, Dat.ren, Row.ren, TV.hs, AV.hs, C.hs, Dat.hs, get_cons, get_nil, zipSlots, List.getD_cons_zero, List.getD_cons_succ, List.getD_nil, -List.getD_eq_getElem?_getD])) (by simp [rtv])
theorem passesNeeded_l (rs : List (Int × Int)) (B : Nat) (hv : recsB rs = true) (hB : 2 ≤ B) (hB2 : B ≤ 256) : ACalls Try.prog 71 [tR 0 rs.length, tI B] [] [rR rs] (fun t H => t = tI (pF B rs rs.length) ∧ H = [rR rs]) := by
  have h64 := recsB_len hv
  refine afun (fun _ => none) [4] 1 Try.func71 rfl rfl mix (by kernel_rfl) (by kernel_rfl) (by simp [Try.f71]) rfl (by simp [msOwn, ownAll, Row.own]) ?_
  by_cases h0 : rs.length = 0
  · have hb : ((rs.length : Int) == 0) = true := by rw [beq_iff_eq]; omega
    simp (dsimp := false) only [hb, go_sem, Nat.reduceAdd, Nat.reduceBEq, Nat.reduceEqDiff, Nat.reduceLT, Nat.reduceLeDiff, reduceCtorEq, ↓reduceIte]
    refine afin [0] [aI 0] [rR rs] (by simp) rfl (weak_of (by decide) (by simp [RS.slot, List.map_cons, List.map_nil, rowsLe, rowLe, slotsLe, tvLe, TV.ren, AV.ren, C.ren, Dat.ren, Row.ren, TV.hs, AV.hs, C.hs, Dat.hs, get_cons, get_nil, zipSlots, List.getD_cons_zero, List.getD_cons_succ, List.getD_nil, -List.getD_eq_getElem?_getD, h0, pF])) (by simp [rtv, h0, pF, -List.getD_eq_getElem?_getD])
  · have hb : ((rs.length : Int) == 0) = false := by rw [beq_eq_false_iff_ne]; omega
    obtain ⟨j, hj, ej⟩ := mxR_mem rs (rs.length - 1) (by omega)
    have hkm : keyB (mxR rs (rs.length - 1)).1 = true := by rw [ej]; exact recsB_key hv (by omega)
    have hk := kN_bd hkm
    have hpf := pF_mx (b := B) (fun i hi => recsB_key hv hi) (rs.length - 1) (by omega)
    rw [show rs.length - 1 + 1 = rs.length by omega] at hpf
    rw [hpf]
    obtain ⟨N, hN⟩ : ∃ N, N = kN (mxR rs (rs.length - 1)) := ⟨_, rfl⟩
    have hmx := maxFunc_l rs (by omega) (by omega)
    obtain ⟨m, hm⟩ : ∃ m, m = mxR rs (rs.length - 1) := ⟨_, rfl⟩
    rw [← hm] at hmx hk hN
    rw [← hN] at hk
    rw [← hm, ← hN]
    have hdb := dgF_bd B 18 N
    obtain ⟨q, hq⟩ : ∃ q, q = N / B := ⟨_, rfl⟩
    have hqN : q ≤ N := by rw [hq]; exact Nat.div_le_self _ _
    have hq0 : 1 + (if q = 0 then 0 else dgF B 17 q) = dgF B 18 N ∧ q < 2 ^ 17 := by
      refine ⟨?_, by rw [hq]; exact half_lt hB (show N < 2 ^ 18 by omega)⟩
      by_cases hNB : N < B
      · rw [dgF_lt _ hNB, hq, Nat.div_eq_of_lt hNB]; rfl
      · have hp : 0 < N / B := Nat.div_pos (by omega) (by omega)
        rw [dgF_ge _ hNB, hq, if_neg (by omega)]
    simp (dsimp := false) only [hb, go_sem, Nat.reduceAdd, Nat.reduceBEq, Nat.reduceEqDiff, Nat.reduceLT, Nat.reduceLeDiff, reduceCtorEq, ↓reduceIte]
    repeat (refine And.intro (by first | exact True.intro | omega | kernel_rfl | (simp only [List.length_set, List.length_append, List.length_take, List.length_replicate, List.length_cons, true_and, and_true, List.length_nil, tabR_length]; omega)) ?_)
    refine ⟨_, (hmx).lift [0] (by decide) (by simp) (by simp [RS.slot, List.map_cons, List.map_nil, rowsLe, rowLe, slotsLe, tvLe, TV.ren, AV.ren, C.ren, Dat.ren, Row.ren, TV.hs, AV.hs, C.hs, Dat.hs, get_cons, get_nil, zipSlots, List.getD_cons_zero, List.getD_cons_succ, List.getD_nil, -List.getD_eq_getElem?_getD]) (by simp [RS.slot, List.map_cons, List.map_nil, rowsLe, rowLe, slotsLe, tvLe, TV.ren, AV.ren, C.ren, Dat.ren, Row.ren, TV.hs, AV.hs, C.hs, Dat.hs, get_cons, get_nil, zipSlots, List.getD_cons_zero, List.getD_cons_succ, List.getD_nil, -List.getD_eq_getElem?_getD]) (by simp [RS.slot, List.map_cons, List.map_nil, rowsLe, rowLe, slotsLe, tvLe, TV.ren, AV.ren, C.ren, Dat.ren, Row.ren, TV.hs, AV.hs, C.hs, Dat.hs, get_cons, get_nil, zipSlots, List.getD_cons_zero, List.getD_cons_succ, List.getD_nil, -List.getD_eq_getElem?_getD]) rfl ?_⟩
    rintro _ _ ⟨rfl, rfl⟩
    refine ⟨by simp [ownIn, Row.own], ?_⟩
    simp (dsimp := false) only [hb, liftT, liftH, putBack, freshR, ownIn, Row.own, Row.ren, TV.ren, AV.ren, C.ren, Dat.ren, List.drop_succ_cons, List.drop_nil, List.getD_cons_zero, List.getD_cons_succ, List.getD_nil, go_sem, Nat.reduceAdd, Nat.reduceBEq, Nat.reduceEqDiff, Nat.reduceLT, Nat.reduceLeDiff, reduceCtorEq, ↓reduceIte]
    rw [← hk.1]
    simp only [tdivN, ← hq]
    repeat (refine And.intro (by first | exact True.intro | omega | kernel_rfl | (simp only [List.length_set, List.length_append, List.length_take, List.length_replicate, List.length_cons, true_and, and_true, List.length_nil, tabR_length]; omega)) ?_)
    refine aloop (σ := Nat × Nat × Nat) (fun s => ([(1, tI (B : Int)), (5, tI s.2.1), (6, tI s.2.2)], [rR rs])) (fun s => s.2.1 < 2 ^ s.1 ∧ s.2.2 + (if s.2.1 = 0 then 0 else dgF B s.1 s.2.1) = dgF B 18 N ∧ s.2.1 ≤ 200000) (fun s => s.2.1) (17, q, 1) [0] ⟨hq0.2, hq0.1, by show q ≤ 200000; omega⟩ (weak_of (by decide) (by simp [RS.slot, List.map_cons, List.map_nil, rowsLe, rowLe, slotsLe, tvLe, TV.ren, AV.ren, C.ren, Dat.ren, Row.ren, TV.hs, AV.hs, C.hs, Dat.hs, get_cons, get_nil, zipSlots, List.getD_cons_zero, List.getD_cons_succ, List.getD_nil, -List.getD_eq_getElem?_getD])) ?_
    rintro ⟨f, n, g⟩ ⟨j1, j2, j4⟩
    simp only at j1 j2 j4
    by_cases hn : n = 0
    · have hnd : decide (0 < (n : Int)) = false := decide_eq_false (by omega)
      rw [if_pos hn] at j2
      simp (dsimp := false) only [hnd, go_sem, Nat.reduceAdd, Nat.reduceBEq, Nat.reduceEqDiff, Nat.reduceLT, Nat.reduceLeDiff, reduceCtorEq, ↓reduceIte]
      have e : g = dgF B 18 N := by omega
      rw [← e]
      refine afin [0] [aI g] [rR rs] (by simp) rfl (weak_of (by decide) (by simp [RS.slot, List.map_cons, List.map_nil, rowsLe, rowLe, slotsLe, tvLe, TV.ren, AV.ren, C.ren, Dat.ren, Row.ren, TV.hs, AV.hs, C.hs, Dat.hs, get_cons, get_nil, zipSlots, List.getD_cons_zero, List.getD_cons_succ, List.getD_nil, -List.getD_eq_getElem?_getD])) (by simp [rtv])
    · have hnd : decide (0 < (n : Int)) = true := decide_eq_true (by omega)
      rw [if_neg hn] at j2
      have hdf := dgF_bd B f n
      obtain ⟨p, hp⟩ : ∃ p, p = n / B := ⟨_, rfl⟩
      have hpn : p < n := by rw [hp]; exact Nat.div_lt_self (by omega) (by omega)
      obtain ⟨f, rfl⟩ : ∃ f', f = f' + 1 := by
        cases f with
        | zero => simp at j1; omega
        | succ f => exact ⟨f, rfl⟩
      have h2 := half_lt hB j1
      have hs : dgF B (f + 1) n = 1 + (if p = 0 then 0 else dgF B f p) := by
        by_cases hNB : n < B
        · rw [dgF_lt _ hNB, hp, Nat.div_eq_of_lt hNB]; rfl
        · have hp0 : 0 < n / B := Nat.div_pos (by omega) (by omega)
          rw [dgF_ge _ hNB, hp, if_neg (by omega)]
      rw [← hp] at h2
      simp (dsimp := false) only [hnd, tdivN, ← hp, go_sem, Nat.reduceAdd, Nat.reduceBEq, Nat.reduceEqDiff, Nat.reduceLT, Nat.reduceLeDiff, reduceCtorEq, ↓reduceIte]
      repeat (refine And.intro (by first | exact True.intro | omega | kernel_rfl | (simp only [List.length_set, List.length_append, List.length_take, List.length_replicate, List.length_cons, true_and, and_true, List.length_nil, tabR_length]; omega)) ?_)
      have eg : ((g + 1 : Nat) : Int) = (g : Int) + 1 := by omega
      refine ⟨(f, p, g + 1), [0], ?_, weak_of (by decide) (by simp [RS.slot, List.map_cons, List.map_nil, rowsLe, rowLe, slotsLe, tvLe, TV.ren, AV.ren, C.ren, Dat.ren, Row.ren, TV.hs, AV.hs, C.hs, Dat.hs, get_cons, get_nil, zipSlots, List.getD_cons_zero, List.getD_cons_succ, List.getD_nil, -List.getD_eq_getElem?_getD, eg])⟩
      dsimp only
      exact ⟨⟨h2, by omega, by omega⟩, hpn⟩

def pnV (rs : List (Int × Int)) (base : Int) : List AV := cond (recsB rs && inB base 2 256) [aI (pF base.toNat rs rs.length), aB true] [aI 0, aB false]

end Go.Proofs.Ytlejmdbjckmfoaa
