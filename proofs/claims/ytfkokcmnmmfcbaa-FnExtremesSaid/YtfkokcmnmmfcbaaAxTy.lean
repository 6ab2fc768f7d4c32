/- The closed facts on the program's types that the abstract walk wants. -/
import Derived.Test.YtfkokcmnmmfcbaaProg
import Derived.Test.YtfkokcmnmmfcbaaAxEval
import Derived.KernelRfl
set_option linter.unusedSimpArgs false
set_option linter.unusedVariables false
set_option linter.unusedSectionVars false
namespace Go.Proofs.Ytfkokcmnmmfcbaa
open Go Go.Ax
def fieldsOf (P : Program) (t : TypeId) : Array Field :=
  match P.underlying t with
  | some (.struct fs) => fs
  | _ => #[]
def fieldAt (P : Program) (t : TypeId) (k : Nat) : Field := (fieldsOf P t)[k]!
theorem mix : Try.prog.follows .mixedOrders = true := by kernel_rfl
theorem u_int : Try.prog.underlying 3 = some (.int .i64) := by kernel_rfl
theorem sz_int : sz Try.prog 3 = some 1 := by kernel_rfl
theorem by_int : byt Try.prog 3 = some 8 := by kernel_rfl
theorem zr_int : zr Try.prog 3 = some (.int .i64 0) := by kernel_rfl
theorem u_bool : Try.prog.underlying 4 = some .bool := by kernel_rfl
theorem sz_bool : sz Try.prog 4 = some 1 := by kernel_rfl
theorem by_bool : byt Try.prog 4 = some 1 := by kernel_rfl
theorem zr_bool : zr Try.prog 4 = some (.bool false) := by kernel_rfl
theorem u_ints : Try.prog.underlying 22 = some (.slice 3) := by kernel_rfl
theorem ag_int : isAggB Try.prog 3 = some false := by kernel_rfl
theorem ag_bool : isAggB Try.prog 4 = some false := by kernel_rfl
theorem ag_ints : isAggB Try.prog 22 = some false := by kernel_rfl
theorem ag_fib : isAggB Try.prog 48 = some false := by kernel_rfl
theorem u_fib : (Try.prog.underlying 48).isSome = true := by kernel_rfl
attribute [go_sem] ag_int ag_bool ag_ints ag_fib u_ints u_int u_bool sz_int by_int zr_int sz_bool by_bool zr_bool 
end Go.Proofs.Ytfkokcmnmmfcbaa
