/- Plain facts: a Fenwick tree that was built holds the values it was built from. -/
import Derived.Test.YtopblmkdpgncpaaFenD
import Derived.Test.YtopblmkdpgncpaaFenE
import Derived.Test.YtopblmkdpgncpaaPlSeg
set_option linter.unusedSimpArgs false
set_option linter.unusedVariables false
set_option linter.unusedSectionVars false
namespace Go.Proofs.Ytopblmkdpgncpaa
open Go Go.Ax
set_option maxRecDepth 10000

def bld (vs : List Int) : List Int := tabR (fenS (sF vs)) vs.length
theorem bld_len (vs : List Int) : (bld vs).length = vs.length := tabR_length _ _
theorem bld_get (vs : List Int) {i : Nat} (h : i < vs.length) : sF (bld vs) i = fenS (sF vs) i := tabR_get _ h
theorem bld_bd {vs : List Int} (h64 : vs.length ≤ 64) (hb : ∀ i, i < vs.length → 0 ≤ vs.getD i 0 ∧ vs.getD i 0 ≤ 1000) : ∀ i, i < vs.length → 0 ≤ sF (bld vs) i ∧ sF (bld vs) i ≤ 64000 := fun i hi => by
  have hl := lowN_bd (n := i + 1) (by omega) (by omega)
  rw [bld_get vs hi]
  have := sumF_bd (v := sF vs) (lo := i + 1 - lowN (i + 1)) (b := 1000) (lowN (i + 1)) (fun j hj => hb _ (by omega))
  unfold fenS
  omega
theorem bld_I64 {vs : List Int} (h64 : vs.length ≤ 64) (hb : ∀ i, i < vs.length → 0 ≤ vs.getD i 0 ∧ vs.getD i 0 ≤ 1000) : I64s (bld vs) := fun i hi => by
  rw [bld_len] at hi
  have := bld_bd h64 hb i hi
  unfold sF at this
  omega
theorem bld_wV {vs : List Int} (h64 : vs.length ≤ 64) (hb : ∀ i, i < vs.length → 0 ≤ vs.getD i 0 ∧ vs.getD i 0 ≤ 1000) : ∀ i, i < vs.length → wV (sF (bld vs)) i = sF vs i := by
  intro i
  induction i using Nat.strongRecOn with
  | _ i ih =>
    intro hi
    have hl := lowN_bd (n := i + 1) (by omega) (by omega)
    have h1 := bld_bd h64 hb i hi
    have h2 : sumF (wV (sF (bld vs))) (i + 1 - lowN (i + 1)) (lowN (i + 1) - 1) = sumF (sF vs) (i + 1 - lowN (i + 1)) (lowN (i + 1) - 1) := sumF_congr _ (fun j hj => ih _ (by omega) (by omega))
    have h3 := bld_get vs hi
    unfold fenS at h3
    rw [sumF_last _ _ hl.1, show i + 1 - lowN (i + 1) + (lowN (i + 1) - 1) = i from by omega] at h3
    have h4 := hb i hi
    have h5 : sF vs i = vs.getD i 0 := rfl
    rw [wV_eq _ (by omega), wIn_eq _ _ _ (by omega), h2, w64_eq (by omega)]
    omega
theorem bld_wList {vs : List Int} (h64 : vs.length ≤ 64) (hb : ∀ i, i < vs.length → 0 ≤ vs.getD i 0 ∧ vs.getD i 0 ≤ 1000) : wList (sF (bld vs)) (bld vs).length = vs := by
  rw [bld_len]
  refine list_ext_getD (by rw [wList_len]) (fun i hi => ?_)
  rw [wList_len] at hi
  rw [wList_get _ hi, bld_wV h64 hb i hi]; rfl
theorem bld_fenB {vs : List Int} (hm : mulB vs = true) : fenB (bld vs) = true := by
  obtain ⟨h64, hb⟩ := mulB_t hm
  simp only [fenB, Bool.and_eq_true, decide_eq_true_eq]
  rw [bld_wList h64 hb, bld_len]
  exact ⟨h64, hm⟩
theorem bld_pref {vs : List Int} (hm : mulB vs = true) {m : Nat} (h : m ≤ vs.length) : prefS (sF (bld vs)) 65 m = sumF (sF vs) 0 m := by
  obtain ⟨h64, hb⟩ := mulB_t hm
  have hw := bld_I64 h64 hb
  have hl := bld_len vs
  have hf := fen_from (sF (bld vs)) vs.length h64 (fun i hi => hw i (by omega)) (fun i hi => by rw [bld_wV h64 hb i hi]; exact hb i hi)
  rw [hf.2.2.1 m h]
  exact sumF_congr _ (fun i hi => bld_wV h64 hb _ (by omega))
theorem prefU_7' : ∀ m : Fin 65, prefU 65 m.val ≤ 7 := by decide
theorem prefU_7 {m : Nat} (h : m ≤ 64) : prefU 65 m ≤ 7 := prefU_7' ⟨m, by omega⟩
theorem cntF_mono (i : Nat) : ∀ (d e k : Nat), d ≤ e → cntF i d k ≤ cntF i e k
  | 0, e, k, _ => by rw [cntF]; exact Nat.zero_le _
  | d + 1, 0, k, h => by omega
  | d + 1, e + 1, k, h => by
    have := cntF_mono i d e (k + 1) (by omega)
    rw [cntF, cntF]
    omega
theorem cntF_7' : ∀ i : Fin 64, cntF i.val (64 - i.val) i.val ≤ 7 := by decide
theorem cntF_bds {i n : Nat} (h : i < n) (hn : n ≤ 64) : 1 ≤ cntF i (n - i) i ∧ cntF i (n - i) i ≤ 7 := by
  have h1 := cntF_7' ⟨i, by omega⟩
  have h2 := cntF_mono i (n - i) (64 - i) i (by omega)
  refine ⟨?_, by simp only at h1; omega⟩
  obtain ⟨d, hd⟩ : ∃ d, n - i = d + 1 := ⟨n - i - 1, by omega⟩
  rw [hd, cntF, inCh_self (by omega), cond_true]
  omega

/-- What the selection found. -/
theorem selV_ok (s : Nat → Int) (k : Int) : ∀ d i : Nat, selV s k d i = [aI 0, aB false] ∨ ∃ j, i ≤ j ∧ j < i + d ∧ selV s k d i = [aI j, aB true] ∧ k < prefS s 65 (j + 1) ∧ ∀ q, i ≤ q → q < j → ¬ k < prefS s 65 (q + 1)
  | 0, i => .inl rfl
  | d + 1, i => by
    rw [selV]
    by_cases h : k < prefS s 65 (i + 1)
    · right
      exact ⟨i, Nat.le_refl _, by omega, by rw [decide_eq_true h, cond_true], h, fun q h1 h2 => by omega⟩
    · rw [decide_eq_false h, cond_false]
      rcases selV_ok s k d (i + 1) with h1 | ⟨j, h1, h2, h3, h4, h5⟩
      · exact .inl h1
      · right
        refine ⟨j, by omega, by omega, h3, h4, fun q hq1 hq2 => ?_⟩
        by_cases e : q = i
        · subst e; exact h
        · exact h5 q (by omega) hq2
theorem sel_below (p : Nat → Int) (k : Int) (j : Nat) (h0 : p 0 ≤ k) (h5 : ∀ q, q < j → ¬ k < p (q + 1)) : p j ≤ k := by
  cases j with
  | zero => exact h0
  | succ j => exact Int.not_lt.mp (h5 j (Nat.lt_succ_self j))
theorem fp_at {ss : List Int} (h1 : fenB ss = true) (j : Nat) (hj : inB (j : Int) 0 (ss.length : Int) = true) : fpV ss (j : Int) = [aI (prefS (sF ss) 65 j), aI (prefU 65 j : Nat), aB true] := by
  simp only [fpV, fpOk, h1, hj, Bool.and_self, cond_true, Int.toNat_natCast]
theorem rank_case (ss : List Int) (k : Int) : fsV ss k = [aI 0, aB false] ∨ ∃ (j : Nat) (A B : Int) (U V : Nat), fsV ss k = [aI j, aB true] ∧ fpV ss (j : Int) = [aI A, aI U, aB true] ∧ fpV ss ((j : Int) + 1) = [aI B, aI V, aB true] ∧ decide (A ≤ k) = true ∧ decide (k < B) = true ∧ j ≤ 64 := by
  cases hok : fsOk ss k
  · left; simp only [fsV, hok, cond_false]
  · have hok2 := hok
    simp only [fsOk, Bool.and_eq_true, decide_eq_true_eq] at hok2
    have h64 := (fenB_t hok2.1).1
    have hin : ∀ j : Nat, j ≤ ss.length → inB (j : Int) 0 (ss.length : Int) = true := fun j hj => by
      simp only [inB, Bool.and_eq_true, decide_eq_true_eq]; omega
    have hp0 : prefS (sF ss) 65 0 ≤ k := by rw [prefS_zero]; exact hok2.2
    obtain ⟨p, hp⟩ : ∃ p : Nat → Int, p = fun m => prefS (sF ss) 65 m := ⟨_, rfl⟩
    rcases selV_ok (sF ss) k ss.length 0 with hs | ⟨j, h1, h2, hs, h4, h5⟩
    · left; simp only [fsV, hok, cond_true, hs]
    · right
      have h2' : j < ss.length := by rw [Nat.zero_add] at h2; exact h2
      refine ⟨j, prefS (sF ss) 65 j, prefS (sF ss) 65 (j + 1), prefU 65 j, prefU 65 (j + 1), by simp only [fsV, hok, cond_true, hs], fp_at hok2.1 j (hin j (Nat.le_of_lt h2')), ?_, ?_, decide_eq_true h4, Nat.le_of_lt (Nat.lt_of_lt_of_le h2' h64)⟩
      · have := fp_at hok2.1 (j + 1) (hin (j + 1) h2')
        rwa [Int.natCast_add, Int.natCast_one] at this
      · exact decide_eq_true (sel_below (fun m => prefS (sF ss) 65 m) k j hp0 (fun q hq => h5 q (Nat.zero_le _) hq))
end Go.Proofs.Ytopblmkdpgncpaa
