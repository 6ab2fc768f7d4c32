/- The closed facts on the Fenwick tree's types. -/
import Derived.Test.YtopblmkdpgncpaaAxTy
set_option linter.unusedSimpArgs false
set_option linter.unusedVariables false
set_option linter.unusedSectionVars false
namespace Go.Proofs.Ytopblmkdpgncpaa
open Go Go.Ax
theorem u_fen : Try.prog.underlying 27 = some (.struct (fieldsOf Try.prog 27)) := by kernel_rfl
theorem fen_f0 : (fieldsOf Try.prog 27)[0]? = some (fieldAt Try.prog 27 0) := by kernel_rfl
theorem fen_s0 : sz Try.prog (fieldAt Try.prog 27 0).type = some 1 := by kernel_rfl
theorem fen_o0 : (fieldAt Try.prog 27 0).offset = 0 := by kernel_rfl
theorem fen_a0 : isAggB Try.prog (fieldAt Try.prog 27 0).type = some false := by kernel_rfl
theorem fen_all : allSz Try.prog (fieldsOf Try.prog 27).toList = true := by kernel_rfl
theorem sz_fen : sz Try.prog 27 = some 1 := by kernel_rfl
theorem zr_fen : zr Try.prog 27 = some (.agg #[.slice none 0 0]) := by kernel_rfl
theorem ag_fen : isAggB Try.prog 27 = some true := by kernel_rfl
attribute [go_sem] u_fen fen_f0 fen_s0 fen_o0 fen_a0 fen_all sz_fen zr_fen ag_fen
theorem u_lfen : Try.prog.underlying 24 = some (.struct (fieldsOf Try.prog 24)) := by kernel_rfl
theorem lfen_f0 : (fieldsOf Try.prog 24)[0]? = some (fieldAt Try.prog 24 0) := by kernel_rfl
theorem lfen_s0 : sz Try.prog (fieldAt Try.prog 24 0).type = some 1 := by kernel_rfl
theorem lfen_o0 : (fieldAt Try.prog 24 0).offset = 0 := by kernel_rfl
theorem lfen_a0 : isAggB Try.prog (fieldAt Try.prog 24 0).type = some false := by kernel_rfl
theorem lfen_all : allSz Try.prog (fieldsOf Try.prog 24).toList = true := by kernel_rfl
theorem sz_lfen : sz Try.prog 24 = some 1 := by kernel_rfl
theorem zr_lfen : zr Try.prog 24 = some (.agg #[.slice none 0 0]) := by kernel_rfl
theorem ag_lfen : isAggB Try.prog 24 = some true := by kernel_rfl
attribute [go_sem] u_lfen lfen_f0 lfen_s0 lfen_o0 lfen_a0 lfen_all sz_lfen zr_lfen ag_lfen
abbrev tFen (h n : Nat) : TV := .a (.agg [.sl 1 h 0 n])
abbrev aFen (h n : Nat) : AV := .agg [.sl 1 h 0 n]
abbrev aFN : AV := .agg [.v (.slice none 0 0)]
abbrev tFN : TV := .a (.agg [.v (.slice none 0 0)])
abbrev bF (h n : Nat) : Row := .r true (.cells 1 [.sl 1 h 0 n])
end Go.Proofs.Ytopblmkdpgncpaa
