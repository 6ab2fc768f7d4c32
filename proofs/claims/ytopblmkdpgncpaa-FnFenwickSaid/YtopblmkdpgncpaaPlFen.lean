/- Plain facts on Fenwick trees: no program in sight. -/
import Derived.Test.YtopblmkdpgncpaaPl
import Derived.IntWalk
set_option linter.unusedSimpArgs false
set_option linter.unusedVariables false
set_option linter.unusedSectionVars false
namespace Go.Proofs.Ytopblmkdpgncpaa
open Go Go.Ax

/-- The largest power of two that divides n, by doubling. -/
def lowF : Nat → Nat → Nat → Nat
  | 0, _, l => l
  | f + 1, n, l => if n % (2 * l) = 0 then lowF f n (2 * l) else l
def lowN (n : Nat) : Nat := lowF 8 n 1
set_option maxRecDepth 100000 in
theorem lowN_bd' : ∀ n : Fin 66, 1 ≤ n.val → 1 ≤ lowN n.val ∧ lowN n.val ≤ n.val := by decide
theorem lowN_bd {n : Nat} (h1 : 1 ≤ n) (h2 : n ≤ 65) : 1 ≤ lowN n ∧ lowN n ≤ n := lowN_bd' ⟨n, by omega⟩ h1
set_option maxRecDepth 100000 in
theorem lowN_bits' : ∀ n : Fin 66, IntKind.i64.wrap ((BitVec.ofInt 64 (n.val : Int) &&& BitVec.ofInt 64 (0 - (n.val : Int))).toNat : Int) = (lowN n.val : Int) ∨ n.val = 0 := by decide
set_option maxRecDepth 100000 in
/-- Between a node and the next one that covers it no node covers what it covers. -/
theorem low_gap' : ∀ k : Fin 64, ∀ q : Fin 64, k.val < q.val → q.val < k.val + lowN (k.val + 1) → k.val < q.val + 1 - lowN (q.val + 1) := by decide
set_option maxRecDepth 100000 in
theorem low_next' : ∀ k : Fin 64, k.val + lowN (k.val + 1) < 64 → k.val + lowN (k.val + 1) + 1 - lowN (k.val + lowN (k.val + 1) + 1) ≤ k.val + 1 - lowN (k.val + 1) := by decide
/-- Node k covers index i. -/
def inCh (i k : Nat) : Bool := decide (k + 1 - lowN (k + 1) ≤ i) && decide (i ≤ k)
theorem inCh_self {i : Nat} (h : i < 64) : inCh i i = true := by
  have := lowN_bd (n := i + 1) (by omega) (by omega)
  simp [inCh]; omega
theorem inCh_gap {i k q : Nat} (hq : q < 64) (h : inCh i k = true) (h1 : k < q) (h2 : q < k + lowN (k + 1)) : inCh i q = false := by
  simp only [inCh, Bool.and_eq_true, decide_eq_true_eq] at h
  have := low_gap' ⟨k, by omega⟩ ⟨q, hq⟩ h1 h2
  simp only at this
  simp only [inCh, Bool.and_eq_false_iff, decide_eq_false_iff_not]; omega
theorem inCh_next {i k : Nat} (h : inCh i k = true) (h2 : k + lowN (k + 1) < 64) : inCh i (k + lowN (k + 1)) = true := by
  simp only [inCh, Bool.and_eq_true, decide_eq_true_eq] at h ⊢
  have := low_next' ⟨k, by omega⟩ h2
  simp only at this
  omega

/-- The sum of n values from lo on. -/
def sumF (v : Nat → Int) (lo : Nat) : Nat → Int
  | 0 => 0
  | n + 1 => sumF v lo n + v (lo + n)
theorem sumF_bd {v : Nat → Int} {lo : Nat} {b : Int} : ∀ n : Nat, (∀ i, i < n → 0 ≤ v (lo + i) ∧ v (lo + i) ≤ b) → 0 ≤ sumF v lo n ∧ sumF v lo n ≤ n * b
  | 0, _ => by simp [sumF]
  | n + 1, h => by
    have h1 := sumF_bd n (fun i hi => h i (by omega))
    have h2 := h n (by omega)
    simp only [sumF]
    have e : ((n + 1 : Nat) : Int) * b = n * b + b := by rw [Int.natCast_add, Int.add_mul]; simp
    rw [e]
    constructor <;> omega
theorem sumF_congr {v u : Nat → Int} {lo : Nat} : ∀ n : Nat, (∀ i, i < n → v (lo + i) = u (lo + i)) → sumF v lo n = sumF u lo n
  | 0, _ => rfl
  | n + 1, h => by simp only [sumF, sumF_congr n (fun i hi => h i (by omega)), h n (by omega)]
theorem sumF_split (v : Nat → Int) (lo a : Nat) : ∀ b, sumF v lo (a + b) = sumF v lo a + sumF v (lo + a) b
  | 0 => by simp [sumF]
  | b + 1 => by
    rw [← Nat.add_assoc, sumF, sumF, sumF_split v lo a b, Nat.add_assoc lo a b]; omega
/-- The sums of a tree of values. -/
def fenS (v : Nat → Int) (i : Nat) : Int := sumF v (i + 1 - lowN (i + 1)) (lowN (i + 1))
/-- What node k holds once i values are in. -/
def parS (v : Nat → Int) (i k : Nat) : Int := sumF (fun t => if inCh t k = true then v t else 0) 0 i
theorem sumF_zero {v : Nat → Int} {lo : Nat} : ∀ n : Nat, (∀ i, i < n → v (lo + i) = 0) → sumF v lo n = 0
  | 0, _ => rfl
  | n + 1, h => by rw [sumF, sumF_zero n (fun i hi => h i (by omega)), h n (by omega)]; rfl
theorem parS_all (v : Nat → Int) {n k : Nat} (hk : k < n) (hn : n ≤ 64) : parS v n k = fenS v k := by
  have hb := lowN_bd (n := k + 1) (by omega) (by omega)
  unfold parS fenS
  have e : n = (k + 1 - lowN (k + 1)) + (lowN (k + 1) + (n - (k + 1))) := by omega
  rw [e, sumF_split, sumF_split, Nat.zero_add]
  have a1 : sumF (fun t => if inCh t k = true then v t else 0) 0 (k + 1 - lowN (k + 1)) = 0 := sumF_zero _ (fun i hi => by
    have : inCh (0 + i) k = false := by simp only [inCh, Bool.and_eq_false_iff, decide_eq_false_iff_not]; omega
    simp only [this, Bool.false_eq_true, if_false])
  have a3 : sumF (fun t => if inCh t k = true then v t else 0) (k + 1 - lowN (k + 1) + lowN (k + 1)) (n - (k + 1)) = 0 := sumF_zero _ (fun i hi => by
    have : inCh (k + 1 - lowN (k + 1) + lowN (k + 1) + i) k = false := by simp only [inCh, Bool.and_eq_false_iff, decide_eq_false_iff_not]; omega
    simp only [this, Bool.false_eq_true, if_false])
  have a2 : sumF (fun t => if inCh t k = true then v t else 0) (k + 1 - lowN (k + 1)) (lowN (k + 1)) = sumF v (k + 1 - lowN (k + 1)) (lowN (k + 1)) := sumF_congr _ (fun i hi => by
    have : inCh (k + 1 - lowN (k + 1) + i) k = true := by simp only [inCh, Bool.and_eq_true, decide_eq_true_eq]; omega
    simp only [this, if_true])
  rw [a1, a2, a3]; omega
theorem parS_bd {v : Nat → Int} {b : Int} (hb : 0 ≤ b) {i k : Nat} (h : ∀ t, t < i → 0 ≤ v t ∧ v t ≤ b) : 0 ≤ parS v i k ∧ parS v i k ≤ i * b := by
  refine sumF_bd i (fun t ht => ?_)
  split
  · have := h (0 + t) (by omega); exact this
  · omega
/-- The sum of the first n values, by the nodes. -/
def prefS (s : Nat → Int) : Nat → Nat → Int
  | 0, _ => 0
  | f + 1, n => if n = 0 then 0 else s (n - 1) + prefS s f (n - lowN n)
def prefU : Nat → Nat → Nat
  | 0, _ => 0
  | f + 1, n => if n = 0 then 0 else 1 + prefU f (n - lowN n)
theorem prefS_zero (s : Nat → Int) (f : Nat) : prefS s f 0 = 0 := by cases f <;> simp [prefS]
theorem prefU_zero (f : Nat) : prefU f 0 = 0 := by cases f <;> simp [prefU]
theorem prefS_pos (s : Nat → Int) {f n : Nat} (h : n ≠ 0) : prefS s (f + 1) n = s (n - 1) + prefS s f (n - lowN n) := by rw [prefS, if_neg h]
theorem prefU_pos {f n : Nat} (h : n ≠ 0) : prefU (f + 1) n = 1 + prefU f (n - lowN n) := by rw [prefU, if_neg h]
theorem prefS_bd {s : Nat → Int} {b : Int} (hb : 0 ≤ b) : ∀ (f n : Nat), n ≤ 65 → (∀ t, t < n → 0 ≤ s t ∧ s t ≤ b) → 0 ≤ prefS s f n ∧ prefS s f n ≤ f * b
  | 0, n, _, _ => by simp [prefS]
  | f + 1, n, hn, h => by
    by_cases h0 : n = 0
    · subst h0; rw [prefS_zero]
      have : (0 : Int) ≤ ((f + 1 : Nat) : Int) * b := Int.mul_nonneg (by omega) hb
      omega
    · rw [prefS_pos s h0]
      have h1 := lowN_bd (n := n) (by omega) hn
      have h2 := prefS_bd hb f (n - lowN n) (by omega) (fun t ht => h t (by omega))
      have h3 := h (n - 1) (by omega)
      have e : ((f + 1 : Nat) : Int) * b = f * b + b := by rw [Int.natCast_add, Int.add_mul]; simp
      rw [e]
      constructor <;> omega
theorem prefU_le : ∀ (f n : Nat), prefU f n ≤ f
  | 0, _ => Nat.le_refl _
  | f + 1, n => by
    unfold prefU; split
    · omega
    · have := prefU_le f (n - lowN n); omega

/-! ### The values of sums, wrapped and not -/
def wIn (vs : Nat → Int) (v : Int) (lo : Nat) : Nat → Int
  | 0 => v
  | j + 1 => w64 (wIn vs v lo j - vs (lo + j))
/-- The values of sums, in the machine's numbers. -/
def wList (s : Nat → Int) : Nat → List Int
  | 0 => []
  | i + 1 => wList s i ++ [wIn (fun k => (wList s i).getD k 0) (s i) (i + 1 - lowN (i + 1)) (lowN (i + 1) - 1)]
theorem wList_len (s : Nat → Int) : ∀ n, (wList s n).length = n
  | 0 => rfl
  | n + 1 => by simp [wList, wList_len s n]
def wV (s : Nat → Int) (i : Nat) : Int := (wList s (i + 1)).getD i 0
theorem wList_get (s : Nat → Int) : ∀ {n k : Nat}, k < n → (wList s n).getD k 0 = wV s k
  | n + 1, k, h => by
    by_cases e : k = n
    · subst e; rfl
    · have hk : k < n := by omega
      rw [wList, List.getD_eq_getElem?_getD, List.getElem?_append_left (by rw [wList_len]; exact hk), ← List.getD_eq_getElem?_getD, wList_get s hk]
theorem wIn_congr {vs us : Nat → Int} {v : Int} {lo : Nat} : ∀ n : Nat, (∀ j, j < n → vs (lo + j) = us (lo + j)) → wIn vs v lo n = wIn us v lo n
  | 0, _ => rfl
  | n + 1, h => by simp only [wIn, wIn_congr n (fun j hj => h j (by omega)), h n (by omega)]
theorem wV_eq (s : Nat → Int) {i : Nat} (hi : i < 64) : wV s i = wIn (wV s) (s i) (i + 1 - lowN (i + 1)) (lowN (i + 1) - 1) := by
  have hb := lowN_bd (n := i + 1) (by omega) (by omega)
  unfold wV
  rw [wList, List.getD_eq_getElem?_getD, List.getElem?_append_right (by rw [wList_len]; exact Nat.le_refl _), wList_len]
  simp only [Nat.sub_self, List.getElem?_cons_zero, Option.getD_some]
  exact wIn_congr _ (fun j hj => wList_get s (by omega))
theorem wList_tab (s : Nat → Int) : ∀ n, wList s n = tabR (wV s) n
  | 0 => rfl
  | n + 1 => by
    rw [tabR_succ, ← wList_tab s n, wList]
    congr 1
    have : (wList s (n + 1)).getD n 0 = wV s n := rfl
    rw [wList, List.getD_eq_getElem?_getD, List.getElem?_append_right (by rw [wList_len]; exact Nat.le_refl _), wList_len] at this
    simpa using this
theorem w64_eq {n : Int} (h : -9223372036854775808 ≤ n ∧ n ≤ 9223372036854775807) : w64 n = n := by
  unfold w64; rw [IntKind.wrap_i64]; omega

theorem w64_w64_sub (a b : Int) : w64 (w64 a - b) = w64 (a - b) := by
  unfold w64; rw [IntKind.wrap_i64, IntKind.wrap_i64, IntKind.wrap_i64]; omega
theorem wIn_eq (vs : Nat → Int) (v : Int) (lo : Nat) (hv : -9223372036854775808 ≤ v ∧ v ≤ 9223372036854775807) : ∀ j, wIn vs v lo j = w64 (v - sumF vs lo j)
  | 0 => by simp [wIn, sumF, w64_eq hv]
  | j + 1 => by
    rw [wIn, wIn_eq vs v lo hv j, w64_w64_sub, sumF]
    congr 1; omega
theorem prefS_fuel (s : Nat → Int) : ∀ (f g n : Nat), n ≤ f → n ≤ g → n ≤ 65 → prefS s f n = prefS s g n
  | 0, g, n, h1, h2, h3 => by
    have : n = 0 := by omega
    subst this; rw [prefS_zero, prefS_zero]
  | f + 1, 0, n, h1, h2, h3 => by
    have : n = 0 := by omega
    subst this; rw [prefS_zero, prefS_zero]
  | f + 1, g + 1, n, h1, h2, h3 => by
    by_cases h0 : n = 0
    · subst h0; rw [prefS_zero, prefS_zero]
    · have hb := lowN_bd (n := n) (by omega) h3
      rw [prefS_pos s h0, prefS_pos s h0, prefS_fuel s f g (n - lowN n) (by omega) (by omega) (by omega)]
theorem prefS_step (s : Nat → Int) {n : Nat} (h1 : 1 ≤ n) (h2 : n ≤ 64) : prefS s 65 n = s (n - 1) + prefS s 65 (n - lowN n) := by
  have hb := lowN_bd (n := n) h1 (by omega)
  rw [show (65 : Nat) = 64 + 1 from rfl, prefS_pos s (by omega), prefS_fuel s 64 (64 + 1) (n - lowN n) (by omega) (by omega) (by omega)]
/-- The differences of the prefix sums. -/
def dV (s : Nat → Int) (i : Nat) : Int := prefS s 65 (i + 1) - prefS s 65 i
theorem dV_tel (s : Nat → Int) : ∀ n, sumF (dV s) 0 n = prefS s 65 n
  | 0 => by simp [sumF, prefS_zero]
  | n + 1 => by rw [sumF, dV_tel s n, Nat.zero_add, dV]; omega
theorem dV_node (s : Nat → Int) {i : Nat} (hi : i < 64) : sumF (dV s) (i + 1 - lowN (i + 1)) (lowN (i + 1)) = s i := by
  have hb := lowN_bd (n := i + 1) (by omega) (by omega)
  have h1 := prefS_step s (n := i + 1) (by omega) (by omega)
  have h2 := dV_tel s (i + 1)
  have h3 := dV_tel s (i + 1 - lowN (i + 1))
  have e : i + 1 = (i + 1 - lowN (i + 1)) + lowN (i + 1) := by omega
  rw [e, sumF_split, ← e, Nat.zero_add] at h2
  simp only [Nat.add_sub_cancel] at h1
  omega
theorem sumF_last (v : Nat → Int) (lo : Nat) {c : Nat} (h : 1 ≤ c) : sumF v lo c = sumF v lo (c - 1) + v (lo + (c - 1)) := by
  obtain ⟨d, rfl⟩ : ∃ d, c = d + 1 := ⟨c - 1, by omega⟩
  rfl
/-- Valid in the program's sense: the wrapped values are the differences. -/
theorem fen_to (s : Nat → Int) (n : Nat) (hn : n ≤ 64) (hs : ∀ i, i < n → 0 ≤ s i ∧ s i ≤ 64000) (hv : ∀ i, i < n → 0 ≤ dV s i ∧ dV s i ≤ 1000) : ∀ i, i < n → wV s i = dV s i := by
  intro i
  induction i using Nat.strongRecOn with
  | _ i ih =>
    intro hi
    have hb := lowN_bd (n := i + 1) (by omega) (by omega)
    have h1 := dV_node s (i := i) (by omega)
    rw [sumF_last _ _ hb.1, show i + 1 - lowN (i + 1) + (lowN (i + 1) - 1) = i from by omega] at h1
    have h2 : sumF (wV s) (i + 1 - lowN (i + 1)) (lowN (i + 1) - 1) = sumF (dV s) (i + 1 - lowN (i + 1)) (lowN (i + 1) - 1) := sumF_congr _ (fun j hj => ih _ (by omega) (by omega))
    have h3 := hs i hi
    have h4 := hv i hi
    rw [wV_eq s (by omega), wIn_eq _ _ _ (by omega), h2, w64_eq (by omega)]
    omega
/-- Valid in the reference's sense: the sums are those of the wrapped values, which are the differences. -/
theorem fen_from (s : Nat → Int) (n : Nat) (hn : n ≤ 64) (hs : ∀ i, i < n → -9223372036854775808 ≤ s i ∧ s i ≤ 9223372036854775807) (hv : ∀ i, i < n → 0 ≤ wV s i ∧ wV s i ≤ 1000) :
    (∀ i, i < n → s i = fenS (wV s) i) ∧ (∀ i, i < n → 0 ≤ s i ∧ s i ≤ 64000) ∧ (∀ m, m ≤ n → prefS s 65 m = sumF (wV s) 0 m) ∧ ∀ i, i < n → dV s i = wV s i := by
  have hS : ∀ i, i < n → s i = fenS (wV s) i := fun i hi => by
    have hb := lowN_bd (n := i + 1) (by omega) (by omega)
    have h1 := hs i hi
    have h2 := hv i hi
    have h3 := sumF_bd (v := wV s) (lo := i + 1 - lowN (i + 1)) (b := 1000) (lowN (i + 1) - 1) (fun j hj => hv _ (by omega))
    have h4 : wV s i = w64 (s i - sumF (wV s) (i + 1 - lowN (i + 1)) (lowN (i + 1) - 1)) := by rw [wV_eq s (by omega), wIn_eq _ _ _ h1]
    unfold fenS
    rw [sumF_last _ _ hb.1, show i + 1 - lowN (i + 1) + (lowN (i + 1) - 1) = i from by omega]
    unfold w64 at h4; rw [IntKind.wrap_i64] at h4; omega
  have hP : ∀ m, m ≤ n → prefS s 65 m = sumF (wV s) 0 m := by
    intro m
    induction m using Nat.strongRecOn with
    | _ m ih =>
      intro hm
      by_cases h0 : m = 0
      · subst h0; rw [prefS_zero]; rfl
      · have hb := lowN_bd (n := m) (by omega) (by omega)
        rw [prefS_step s (by omega) (by omega), ih (m - lowN m) (by omega) (by omega), hS (m - 1) (by omega)]
        unfold fenS
        rw [show m - 1 + 1 = m from by omega]
        have e := sumF_split (wV s) 0 (m - lowN m) (lowN m)
        rw [show m - lowN m + lowN m = m from by omega, Nat.zero_add] at e
        omega
  refine ⟨hS, fun i hi => ?_, hP, fun i hi => ?_⟩
  · have hb := lowN_bd (n := i + 1) (by omega) (by omega)
    have h3 := sumF_bd (v := wV s) (lo := i + 1 - lowN (i + 1)) (b := 1000) (lowN (i + 1)) (fun j hj => hv _ (by omega))
    have := hS i hi
    unfold fenS at this
    omega
  · unfold dV
    rw [hP (i + 1) (by omega), hP i (by omega), sumF, Nat.zero_add]; omega
end Go.Proofs.Ytopblmkdpgncpaa
