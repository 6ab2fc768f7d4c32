/- The closed facts on the types of records. -/
import Derived.Test.YtlejmdbjckmfoaaAxTy
set_option linter.unusedSimpArgs false
set_option linter.unusedVariables false
set_option linter.unusedSectionVars false
namespace Go.Proofs.Ytlejmdbjckmfoaa
open Go Go.Ax

theorem u_irec : Try.prog.underlying 65 = some (.struct (fieldsOf Try.prog 65)) := by kernel_rfl
theorem irec_f0 : (fieldsOf Try.prog 65)[0]? = some (fieldAt Try.prog 65 0) := by kernel_rfl
theorem irec_s0 : sz Try.prog (fieldAt Try.prog 65 0).type = some 1 := by kernel_rfl
theorem irec_o0 : (fieldAt Try.prog 65 0).offset = 0 := by kernel_rfl
theorem irec_a0 : isAggB Try.prog (fieldAt Try.prog 65 0).type = some false := by kernel_rfl
theorem irec_f1 : (fieldsOf Try.prog 65)[1]? = some (fieldAt Try.prog 65 1) := by kernel_rfl
theorem irec_s1 : sz Try.prog (fieldAt Try.prog 65 1).type = some 1 := by kernel_rfl
theorem irec_o1 : (fieldAt Try.prog 65 1).offset = 1 := by kernel_rfl
theorem irec_a1 : isAggB Try.prog (fieldAt Try.prog 65 1).type = some false := by kernel_rfl
theorem irec_all : allSz Try.prog (fieldsOf Try.prog 65).toList = true := by kernel_rfl
theorem sz_irec : sz Try.prog 65 = some 2 := by kernel_rfl
theorem by_irec : byt Try.prog 65 = some 16 := by kernel_rfl
theorem zr_irec : zr Try.prog 65 = some (.agg #[.int .i64 0, .int .i64 0]) := by kernel_rfl
theorem ag_irec : isAggB Try.prog 65 = some true := by kernel_rfl
theorem u_irecs : Try.prog.underlying 33 = some (.slice 65) := by kernel_rfl
theorem ag_irecs : isAggB Try.prog 33 = some false := by kernel_rfl
theorem u_lrec : Try.prog.underlying 68 = some (.struct (fieldsOf Try.prog 68)) := by kernel_rfl
theorem lrec_f0 : (fieldsOf Try.prog 68)[0]? = some (fieldAt Try.prog 68 0) := by kernel_rfl
theorem lrec_s0 : sz Try.prog (fieldAt Try.prog 68 0).type = some 1 := by kernel_rfl
theorem lrec_o0 : (fieldAt Try.prog 68 0).offset = 0 := by kernel_rfl
theorem lrec_a0 : isAggB Try.prog (fieldAt Try.prog 68 0).type = some false := by kernel_rfl
theorem lrec_f1 : (fieldsOf Try.prog 68)[1]? = some (fieldAt Try.prog 68 1) := by kernel_rfl
theorem lrec_s1 : sz Try.prog (fieldAt Try.prog 68 1).type = some 1 := by kernel_rfl
theorem lrec_o1 : (fieldAt Try.prog 68 1).offset = 1 := by kernel_rfl
theorem lrec_a1 : isAggB Try.prog (fieldAt Try.prog 68 1).type = some false := by kernel_rfl
theorem lrec_all : allSz Try.prog (fieldsOf Try.prog 68).toList = true := by kernel_rfl
theorem sz_lrec : sz Try.prog 68 = some 2 := by kernel_rfl
theorem by_lrec : byt Try.prog 68 = some 16 := by kernel_rfl
theorem zr_lrec : zr Try.prog 68 = some (.agg #[.int .i64 0, .int .i64 0]) := by kernel_rfl
theorem ag_lrec : isAggB Try.prog 68 = some true := by kernel_rfl
theorem u_lrecs : Try.prog.underlying 31 = some (.slice 68) := by kernel_rfl
theorem ag_lrecs : isAggB Try.prog 31 = some false := by kernel_rfl
theorem ag_frb : isAggB Try.prog 70 = some false := by kernel_rfl
theorem u_frb : (Try.prog.underlying 70).isSome = true := by kernel_rfl
attribute [go_sem] u_irec irec_f0 irec_s0 irec_o0 irec_a0 irec_f1 irec_s1 irec_o1 irec_a1 irec_all sz_irec by_irec zr_irec ag_irec u_irecs ag_irecs u_lrec lrec_f0 lrec_s0 lrec_o0 lrec_a0 lrec_f1 lrec_s1 lrec_o1 lrec_a1 lrec_all sz_lrec by_lrec zr_lrec ag_lrec u_lrecs ag_lrecs ag_frb
end Go.Proofs.Ytlejmdbjckmfoaa
