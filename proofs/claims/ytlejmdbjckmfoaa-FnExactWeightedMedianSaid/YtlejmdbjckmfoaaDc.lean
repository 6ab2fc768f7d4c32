/- Contracts: counts of digits of records. -/
import Derived.Test.YtlejmdbjckmfoaaRec
set_option linter.unusedSimpArgs false
set_option linter.unusedVariables false
set_option linter.unusedSectionVars false
namespace Go.Proofs.Ytlejmdbjckmfoaa
open Go Go.Ax
set_option maxRecDepth 10000
set_option maxHeartbeats 1000000

theorem digitF_bd {key base place : Int} (hk : inB key (-100000) 100000 = true) (hb : inB base 2 256 = true) : 0 ≤ digitF key base place ∧ digitF key base place < base := by
  simp only [inB, Bool.and_eq_true, decide_eq_true_eq] at hk hb
  have hd := (divs_bd (key + 100000) base (by omega) (by omega) (by omega) place.toNat).1
  unfold digitF
  rw [Int.tmod_eq_emod_of_nonneg hd]
  exact ⟨Int.emod_nonneg _ (by omega), Int.emod_lt_of_pos _ (by omega)⟩

/-- The counts after i records. -/
def cntF (base place : Int) (rs : List (Int × Int)) : Nat → List Int
  | 0 => List.replicate base.toNat 0
  | i + 1 => (cntF base place rs i).set (digitF (rz rs i).1 base place).toNat ((cntF base place rs i).getD (digitF (rz rs i).1 base place).toNat 0 + 1)
theorem cntF_len (base place : Int) (rs : List (Int × Int)) : ∀ i, (cntF base place rs i).length = base.toNat
  | 0 => by simp [cntF]
  | i + 1 => by simp [cntF, cntF_len base place rs i]
theorem cntF_bd (base place : Int) (rs : List (Int × Int)) : ∀ (i q : Nat), 0 ≤ (cntF base place rs i).getD q 0 ∧ (cntF base place rs i).getD q 0 ≤ i
  | 0, q => by
    have : (List.replicate base.toNat (0 : Int)).getD q 0 = 0 := by
      simp only [List.getD_eq_getElem?_getD, List.getElem?_replicate]
      split <;> rfl
    simp only [cntF, this]; omega
  | i + 1, q => by
    have h1 := cntF_bd base place rs i q
    have h2 := cntF_bd base place rs i (digitF (rz rs i).1 base place).toNat
    simp only [cntF, List.getD_eq_getElem?_getD, List.getElem?_set] at h1 h2 ⊢
    split
    · split
      · simp only [Option.getD_some]; omega
      · simp only [Option.getD_none]; omega
    · omega

def dcOk (rs : List (Int × Int)) (base place : Int) : Bool := recsB rs && (inB base 2 256 && inB place 0 17)

theorem dcOk_t {rs : List (Int × Int)} {base place : Int} (h : dcOk rs base place = true) : recsB rs = true ∧ (inB base 2 256 && inB place 0 17) = true ∧ inB base 2 256 = true ∧ inB place 0 17 = true ∧ ∃ B : Nat, base = (B : Int) ∧ 2 ≤ B ∧ B ≤ 256 := by
  simp only [dcOk, Bool.and_eq_true] at h
  have h2 := h.2.1
  simp only [inB, Bool.and_eq_true, decide_eq_true_eq] at h2
  exact ⟨h.1, by simp [h.2], h.2.1, h.2.2, base.toNat, by omega, by omega, by omega⟩

end Go.Proofs.Ytlejmdbjckmfoaa
