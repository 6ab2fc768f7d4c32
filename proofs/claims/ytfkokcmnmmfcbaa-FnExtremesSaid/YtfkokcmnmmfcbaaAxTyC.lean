/- The closed facts on the drawing cursor's types. -/
import Derived.Test.YtfkokcmnmmfcbaaAxTyF
set_option linter.unusedSimpArgs false
set_option linter.unusedVariables false
set_option linter.unusedSectionVars false
namespace Go.Proofs.Ytfkokcmnmmfcbaa
open Go Go.Ax
theorem u_u8 : Try.prog.underlying 5 = some (.int .u8) := by kernel_rfl
theorem sz_u8 : sz Try.prog 5 = some 1 := by kernel_rfl
theorem ag_u8 : isAggB Try.prog 5 = some false := by kernel_rfl
theorem zr_u8 : zr Try.prog 5 = some (.int .u8 0) := by kernel_rfl
theorem u_u8s : Try.prog.underlying 28 = some (.slice 5) := by kernel_rfl
theorem ag_u8s : isAggB Try.prog 28 = some false := by kernel_rfl
theorem u_u64 : Try.prog.underlying 43 = some (.int .u64) := by kernel_rfl
theorem ag_u64 : isAggB Try.prog 43 = some false := by kernel_rfl
attribute [go_sem] u_u8 sz_u8 ag_u8 zr_u8 u_u8s ag_u8s u_u64 ag_u64
theorem u_cur : Try.prog.underlying 45 = some (.struct (fieldsOf Try.prog 45)) := by kernel_rfl
theorem cur_f0 : (fieldsOf Try.prog 45)[0]? = some (fieldAt Try.prog 45 0) := by kernel_rfl
theorem cur_f1 : (fieldsOf Try.prog 45)[1]? = some (fieldAt Try.prog 45 1) := by kernel_rfl
theorem cur_f2 : (fieldsOf Try.prog 45)[2]? = some (fieldAt Try.prog 45 2) := by kernel_rfl
theorem cur_s0 : sz Try.prog (fieldAt Try.prog 45 0).type = some 1 := by kernel_rfl
theorem cur_s1 : sz Try.prog (fieldAt Try.prog 45 1).type = some 1 := by kernel_rfl
theorem cur_s2 : sz Try.prog (fieldAt Try.prog 45 2).type = some 1 := by kernel_rfl
theorem cur_o0 : (fieldAt Try.prog 45 0).offset = 0 := by kernel_rfl
theorem cur_o1 : (fieldAt Try.prog 45 1).offset = 1 := by kernel_rfl
theorem cur_o2 : (fieldAt Try.prog 45 2).offset = 2 := by kernel_rfl
theorem cur_a0 : isAggB Try.prog (fieldAt Try.prog 45 0).type = some false := by kernel_rfl
theorem cur_a1 : isAggB Try.prog (fieldAt Try.prog 45 1).type = some false := by kernel_rfl
theorem cur_a2 : isAggB Try.prog (fieldAt Try.prog 45 2).type = some false := by kernel_rfl
theorem cur_all : allSz Try.prog (fieldsOf Try.prog 45).toList = true := by kernel_rfl
theorem sz_cur : sz Try.prog 45 = some 3 := by kernel_rfl
theorem zr_cur : zr Try.prog 45 = some (.agg #[.slice none 0 0, .int .i64 0, .int .u64 0]) := by kernel_rfl
theorem ag_cur : isAggB Try.prog 45 = some true := by kernel_rfl
attribute [go_sem] u_cur cur_f0 cur_f1 cur_f2 cur_s0 cur_s1 cur_s2 cur_o0 cur_o1 cur_o2 cur_a0 cur_a1 cur_a2 cur_all sz_cur zr_cur ag_cur
/-- The cursor's row: the text in row h, of length n. -/
abbrev rCur (h n at_ : Nat) (seed : Int) : Row := .r true (.cells 3 [.sl 1 h 0 n, .v (.int .i64 at_), .v (.int .u64 seed)])
abbrev rU8 (cs : List Int) : Row := .r false (.ints .u8 cs)
end Go.Proofs.Ytfkokcmnmmfcbaa
