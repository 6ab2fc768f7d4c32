/- The closed facts on halving by a shift. -/
import Derived.Test.YtlejmdbjckmfoaaAxTy
set_option linter.unusedSimpArgs false
set_option linter.unusedVariables false
set_option linter.unusedSectionVars false
namespace Go.Proofs.Ytlejmdbjckmfoaa
open Go Go.Ax
theorem u_uint : Try.prog.underlying 103 = some (.int .u64) := by kernel_rfl
theorem ag_uint : isAggB Try.prog 103 = some false := by kernel_rfl
attribute [go_sem] u_uint ag_uint
theorem shr1 (n : Nat) : ashift BinOp.shr IntKind.u64 (n : Int) 1 = some (True, .a (.c (.v (.int .u64 ((n / 2 : Nat) : Int))))) := by
  have e : (n : Int).fdiv (2 ^ (1 : Int).toNat) = ((n / 2 : Nat) : Int) := by
    show (n : Int).fdiv 2 = _
    rw [Int.fdiv_eq_ediv_of_nonneg _ (by omega)]; omega
  have e2 : (0 ≤ (1 : Int) ∧ (1 : Int) < (IntKind.u64.bits : Int)) = True := by simp [IntKind.bits]
  show some ((0 ≤ (1 : Int) ∧ (1 : Int) < (IntKind.u64.bits : Int)), _) = _
  rw [e2]
  show some (True, TV.a (.c (.v (.int .u64 ((n : Int).fdiv (2 ^ (1 : Int).toNat)))))) = _
  rw [e]
theorem wrapU (n : Nat) (h : n ≤ 1125899906842624) : IntKind.u64.wrap (n : Int) = (n : Int) := by
  simp [IntKind.wrap, IntKind.bits]
  omega
end Go.Proofs.Ytlejmdbjckmfoaa
