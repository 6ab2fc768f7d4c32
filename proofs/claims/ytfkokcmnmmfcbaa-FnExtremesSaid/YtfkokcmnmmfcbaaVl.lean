/- Contracts: the helpers of the laws over drawn arguments. -/
import Derived.Test.YtfkokcmnmmfcbaaAxTyC
import Derived.Test.YtfkokcmnmmfcbaaCur
import Derived.Test.YtfkokcmnmmfcbaaLaw
set_option linter.unusedSimpArgs false
set_option linter.unusedVariables false
set_option linter.unusedSectionVars false
namespace Go.Proofs.Ytfkokcmnmmfcbaa
open Go Go.Ax
set_option maxRecDepth 10000
set_option maxHeartbeats 1000000

theorem vBig_l (cs : List Int) (hl : cs.length ≤ 9223372036854775807) : ACalls Try.prog 9 [tS 0 cs.length] [] [rU8 cs] (fun t H => ∃ b : Bool, (b = false → cs.length ≤ 65536) ∧ t = tB b ∧ H = [rU8 cs]) := by
  refine afun (fun _ => none) [2] 1 Try.func9 rfl rfl mix (by kernel_rfl) (by kernel_rfl) (by simp [Try.f9]) rfl (by simp [msOwn, ownAll, Row.own]) ?_
  simp (dsimp := false) only [go_sem, Nat.reduceAdd, Nat.reduceBEq, Nat.reduceEqDiff, Nat.reduceLT, Nat.reduceLeDiff, reduceCtorEq, ↓reduceIte]
  repeat (refine And.intro (by first | exact True.intro | omega | kernel_rfl | (simp only [List.length_set, List.length_append, List.length_take, List.length_replicate, List.length_cons, true_and, and_true, List.length_nil, tabR_length]; omega)) ?_)
  obtain ⟨b, hb⟩ : ∃ b, b = decide (65536 < (cs.length : Int)) := ⟨_, rfl⟩
  have hb2 : b = false → cs.length ≤ 65536 := fun h => by rw [h] at hb; have := of_decide_eq_false hb.symm; omega
  rw [← hb]
  clear hb
  refine afin [0] [aB b] [rU8 cs] (by simp) rfl (weak_of (by decide) (by simp [RS.slot, List.map_cons, List.map_nil, rowsLe, rowLe, slotsLe, tvLe, TV.ren, AV.ren, C.ren, Dat.ren, Row.ren, TV.hs, AV.hs, C.hs, Dat.hs, get_cons, get_nil, zipSlots, List.getD_cons_zero, List.getD_cons_succ, List.getD_nil, -List.getD_eq_getElem?_getD])) (by exact ⟨b, hb2, rfl, rfl⟩)

end Go.Proofs.Ytfkokcmnmmfcbaa
