/- Plain facts on partitions: no program in sight. -/
import Derived.Test.YtfkokcmnmmfcbaaOwn
set_option linter.unusedSimpArgs false
set_option linter.unusedVariables false
set_option linter.unusedSectionVars false
namespace Go.Proofs.Ytfkokcmnmmfcbaa
open Go Go.Ax

theorem swp_comm (zs : List Int) (a b : Nat) : swp zs a b = swp zs b a := by
  unfold swp
  by_cases h : a = b
  · subst h; rfl
  · rw [List.set_comm _ _ h]

/-- The elements among the first k for which q holds. -/
def selF (q : Int → Bool) (xs : List Int) : Nat → List Int
  | 0 => []
  | k + 1 => if q (xs.getD k 0) = true then selF q xs k ++ [xs.getD k 0] else selF q xs k
theorem selF_len (q : Int → Bool) (xs : List Int) : ∀ k, (selF q xs k).length ≤ k
  | 0 => by simp [selF]
  | k + 1 => by
    have := selF_len q xs k
    unfold selF; split
    · simp; omega
    · omega
theorem selF_t {q : Int → Bool} {xs : List Int} {k : Nat} (h : q (xs.getD k 0) = true) : selF q xs (k + 1) = selF q xs k ++ [xs.getD k 0] := by rw [selF, if_pos h]
theorem selF_f {q : Int → Bool} {xs : List Int} {k : Nat} (h : q (xs.getD k 0) = false) : selF q xs (k + 1) = selF q xs k := by rw [selF, if_neg (by rw [h]; exact Bool.false_ne_true)]
theorem selF_filter (q : Int → Bool) (xs : List Int) : ∀ k, k ≤ xs.length → selF q xs k = (xs.take k).filter q
  | 0, _ => by simp [selF]
  | k + 1, h => by
    have e : xs.take (k + 1) = xs.take k ++ [xs.getD k 0] := by
      rw [List.take_add_one, getD_lt (by omega)]
      simp [List.getElem?_eq_getElem (show k < xs.length by omega)]
    rw [e, List.filter_append, ← selF_filter q xs k (by omega), selF]
    rw [List.filter_cons, List.filter_nil]
    cases hq : q (xs.getD k 0)
    · rw [if_neg Bool.false_ne_true, if_neg Bool.false_ne_true, List.append_nil]
    · rw [if_pos rfl, if_pos rfl]

def qL (p : Int) (y : Int) : Bool := decide (y < p)
def qM (p q : Int) (y : Int) : Bool := !decide (y < p) && !decide (q < y)
def qG (p q : Int) (y : Int) : Bool := !decide (y < p) && decide (q < y)

/-- Lomuto's rounds. -/
def lomF (zs0 : List Int) (L : Nat) : Nat → Nat × List Int
  | 0 => (0, zs0)
  | i + 1 => if (lomF zs0 L i).2.getD i 0 < (lomF zs0 L i).2.getD L 0 then ((lomF zs0 L i).1 + 1, swp (lomF zs0 L i).2 i (lomF zs0 L i).1) else lomF zs0 L i
theorem lomF_bd (zs0 : List Int) (L : Nat) : ∀ i, (lomF zs0 L i).1 ≤ i ∧ (lomF zs0 L i).2.length = zs0.length
  | 0 => ⟨Nat.le_refl _, rfl⟩
  | i + 1 => by
    have := lomF_bd zs0 L i
    unfold lomF; split
    · simp only [swp_len]; omega
    · omega
theorem lomF_t {zs0 : List Int} {L i : Nat} (h : (lomF zs0 L i).2.getD i 0 < (lomF zs0 L i).2.getD L 0) : lomF zs0 L (i + 1) = ((lomF zs0 L i).1 + 1, swp (lomF zs0 L i).2 i (lomF zs0 L i).1) := by rw [lomF, if_pos h]
theorem lomF_f {zs0 : List Int} {L i : Nat} (h : ¬ (lomF zs0 L i).2.getD i 0 < (lomF zs0 L i).2.getD L 0) : lomF zs0 L (i + 1) = lomF zs0 L i := by rw [lomF, if_neg h]
def lomR (xs : List Int) (p : Nat) : Nat × List Int := lomF (swp xs p (xs.length - 1)) (xs.length - 1) (xs.length - 1)
def lomuto (xs : List Int) (p : Nat) : List Int := swp (lomR xs p).2 (lomR xs p).1 (xs.length - 1)

/-- Hoare's scans and rounds. -/
def upF (zs : List Int) (x : Int) : Nat → Nat → Nat
  | 0, i => i
  | f + 1, i => if zs.getD i 0 < x then upF zs x f (i + 1) else i
def dnF (zs : List Int) (x : Int) : Nat → Nat → Nat
  | 0, k => k
  | f + 1, k => if x < zs.getD k 0 then dnF zs x f (k - 1) else k
theorem upF_eq (zs : List Int) (x : Int) : ∀ (f a i : Nat), a ≤ i → (∀ j, a ≤ j → j < i → zs.getD j 0 < x) → ¬ zs.getD i 0 < x → i ≤ a + f → upF zs x f a = i
  | 0, a, i, h1, h2, h3, h4 => by simp [upF]; omega
  | f + 1, a, i, h1, h2, h3, h4 => by
    unfold upF
    by_cases e : a = i
    · subst e; rw [if_neg h3]
    · rw [if_pos (h2 a (Nat.le_refl _) (by omega))]
      exact upF_eq zs x f (a + 1) i (by omega) (fun j hj hji => h2 j (by omega) hji) h3 (by omega)
theorem dnF_eq (zs : List Int) (x : Int) : ∀ (f b k : Nat), k ≤ b → (∀ j, k < j → j ≤ b → x < zs.getD j 0) → ¬ x < zs.getD k 0 → b ≤ k + f → dnF zs x f b = k
  | 0, b, k, h1, h2, h3, h4 => by simp [dnF]; omega
  | f + 1, b, k, h1, h2, h3, h4 => by
    unfold dnF
    by_cases e : b = k
    · subst e; rw [if_neg h3]
    · rw [if_pos (h2 b (by omega) (Nat.le_refl _))]
      exact dnF_eq zs x f (b - 1) k (by omega) (fun j hj hji => h2 j hj (by omega)) h3 (by omega)
def hoaF (x : Int) (n : Nat) : Nat → Nat → Nat → List Int → List Int × Nat
  | 0, _, _, zs => (zs, 0)
  | f + 1, a, b, zs => if dnF zs x n (b - 1) ≤ upF zs x n a then (zs, dnF zs x n (b - 1) + 1)
    else hoaF x n f (upF zs x n a + 1) (dnF zs x n (b - 1)) (swp zs (upF zs x n a) (dnF zs x n (b - 1)))
def hoare (xs : List Int) : List Int × Nat := hoaF (xs.getD 0 0) xs.length (xs.length + 1) 0 xs.length xs
theorem hoaF_stop {x : Int} {n f a b i k : Nat} {zs : List Int} (hu : upF zs x n a = i) (hd : dnF zs x n (b - 1) = k) (h : k ≤ i) : hoaF x n (f + 1) a b zs = (zs, k + 1) := by rw [hoaF, hu, hd, if_pos h]
theorem hoaF_go {x : Int} {n f a b i k : Nat} {zs : List Int} (hu : upF zs x n a = i) (hd : dnF zs x n (b - 1) = k) (h : ¬ k ≤ i) : hoaF x n (f + 1) a b zs = hoaF x n f (i + 1) k (swp zs i k) := by rw [hoaF, hu, hd, if_neg h]
theorem swp_get (zs : List Int) {a b : Nat} (q : Nat) (ha : a < zs.length) (hb : b < zs.length) : (swp zs a b).getD q 0 = if q = b then zs.getD a 0 else if q = a then zs.getD b 0 else zs.getD q 0 := by
  unfold swp
  simp only [List.getD_eq_getElem?_getD, List.getElem?_set, List.length_set]
  by_cases h1 : q = b
  · subst h1; simp [hb]
  · by_cases h2 : q = a
    · subst h2; simp [ha, h1, Ne.symm h1]
    · simp [h1, h2, Ne.symm h1, Ne.symm h2]

theorem hoaF_len (x : Int) (n : Nat) : ∀ (f a b : Nat) (zs : List Int), (hoaF x n f a b zs).1.length = zs.length
  | 0, _, _, _ => rfl
  | f + 1, a, b, zs => by
    unfold hoaF; split
    · rfl
    · rw [hoaF_len x n f]; exact swp_len _ _ _
theorem hoare_len (xs : List Int) : (hoare xs).1.length = xs.length := hoaF_len _ _ _ _ _ _

/-- The rounds of the three-way partition of the part that starts at o. -/
def twF (o : Nat) (x : Int) : Nat → Nat → Nat → Nat → List Int → Nat × Nat × List Int
  | 0, lt, _, gt, zs => (lt, gt, zs)
  | f + 1, lt, i, gt, zs =>
    if i < gt then
      if zs.getD (o + i) 0 < x then twF o x f (lt + 1) (i + 1) gt (swp zs (o + i) (o + lt))
      else if x < zs.getD (o + i) 0 then twF o x f lt i (gt - 1) (swp zs (o + i) (o + (gt - 1)))
      else twF o x f lt (i + 1) gt zs
    else (lt, gt, zs)
theorem twF_out {o : Nat} {x : Int} {f lt i gt : Nat} {zs : List Int} (h : ¬ i < gt) : twF o x f lt i gt zs = (lt, gt, zs) := by
  cases f with
  | zero => rfl
  | succ f => rw [twF, if_neg h]
theorem twF_lt {o : Nat} {x : Int} {f lt i gt : Nat} {zs : List Int} (h : i < gt) (h1 : zs.getD (o + i) 0 < x) : twF o x (f + 1) lt i gt zs = twF o x f (lt + 1) (i + 1) gt (swp zs (o + i) (o + lt)) := by rw [twF, if_pos h, if_pos h1]
theorem twF_gt {o : Nat} {x : Int} {f lt i gt : Nat} {zs : List Int} (h : i < gt) (h1 : ¬ zs.getD (o + i) 0 < x) (h2 : x < zs.getD (o + i) 0) : twF o x (f + 1) lt i gt zs = twF o x f lt i (gt - 1) (swp zs (o + i) (o + (gt - 1))) := by rw [twF, if_pos h, if_neg h1, if_pos h2]
theorem twF_eq {o : Nat} {x : Int} {f lt i gt : Nat} {zs : List Int} (h : i < gt) (h1 : ¬ zs.getD (o + i) 0 < x) (h2 : ¬ x < zs.getD (o + i) 0) : twF o x (f + 1) lt i gt zs = twF o x f lt (i + 1) gt zs := by rw [twF, if_pos h, if_neg h1, if_neg h2]
theorem twF_bd (o : Nat) (x : Int) : ∀ (f lt i gt : Nat) (zs : List Int), lt ≤ i → i ≤ gt → gt ≤ i + f → lt ≤ (twF o x f lt i gt zs).1 ∧ (twF o x f lt i gt zs).1 ≤ (twF o x f lt i gt zs).2.1 ∧ (twF o x f lt i gt zs).2.1 ≤ gt ∧ (twF o x f lt i gt zs).2.2.length = zs.length
  | 0, lt, i, gt, zs, h1, h2, h3 => by simp [twF]; omega
  | f + 1, lt, i, gt, zs, h1, h2, h3 => by
    by_cases h : i < gt
    · by_cases c1 : zs.getD (o + i) 0 < x
      · rw [twF_lt h c1]
        have := twF_bd o x f (lt + 1) (i + 1) gt (swp zs (o + i) (o + lt)) (by omega) (by omega) (by omega)
        rw [swp_len] at this; omega
      · by_cases c2 : x < zs.getD (o + i) 0
        · rw [twF_gt h c1 c2]
          have := twF_bd o x f lt i (gt - 1) (swp zs (o + i) (o + (gt - 1))) (by omega) (by omega) (by omega)
          rw [swp_len] at this; omega
        · rw [twF_eq h c1 c2]
          exact twF_bd o x f lt (i + 1) gt zs (by omega) (by omega) (by omega)
    · rw [twF_out h]; simp; omega
def tway (o n : Nat) (x : Int) (zs : List Int) : Nat × Nat × List Int := twF o x n 0 0 n zs
theorem tway_bd (o n : Nat) (x : Int) (zs : List Int) : (tway o n x zs).1 ≤ (tway o n x zs).2.1 ∧ (tway o n x zs).2.1 ≤ n ∧ (tway o n x zs).2.2.length = zs.length := by
  have := twF_bd o x n 0 0 n zs (by omega) (by omega) (by omega)
  unfold tway; omega
end Go.Proofs.Ytfkokcmnmmfcbaa
