/- Contracts of the drawing cursor. -/
import Derived.Test.YtfkokcmnmmfcbaaAxTyC
set_option linter.unusedSimpArgs false
set_option linter.unusedVariables false
set_option linter.unusedSectionVars false
namespace Go.Proofs.Ytfkokcmnmmfcbaa
open Go Go.Ax
set_option maxRecDepth 10000
set_option maxHeartbeats 1000000

def U8s (cs : List Int) : Prop := ∀ i, i < cs.length → 0 ≤ cs.getD i 0 ∧ cs.getD i 0 ≤ 255
theorem and255 (x : Int) : ∃ b : Nat, b ≤ 255 ∧ IntKind.u64.wrap (BitVec.ofInt IntKind.u64.bits x &&& BitVec.ofInt IntKind.u64.bits 255).toNat = (b : Int) := by
  refine ⟨(BitVec.ofInt IntKind.u64.bits x &&& BitVec.ofInt IntKind.u64.bits 255).toNat, ?_, ?_⟩
  · rw [BitVec.toNat_and]
    exact Nat.le_trans Nat.and_le_right (by decide)
  · have h : (BitVec.ofInt IntKind.u64.bits x &&& BitVec.ofInt IntKind.u64.bits 255).toNat ≤ 255 := by
      rw [BitVec.toNat_and]
      exact Nat.le_trans Nat.and_le_right (by decide)
    generalize (BitVec.ofInt IntKind.u64.bits x &&& BitVec.ofInt IntKind.u64.bits 255).toNat = b at h
    revert b
    decide

theorem next_l (cs : List Int) (at_ : Nat) (seed : Int) (hc : U8s cs) (hl : cs.length ≤ 281474976710656) (ha : at_ ≤ 281474976710656) :
    ACalls Try.prog 36 [.a (.c (.ptr 0 0 0))] [0] [rCur 1 cs.length at_ seed, rU8 cs] (fun t H => ∃ (b : Nat) (s : Int), b ≤ 255 ∧ t = tI b ∧ H = [rCur 1 cs.length (at_ + 1) s, rU8 cs]) := by
  refine afun (fun i => match i with | 2 => some ⟨[], .op 0 .held (.op 1 .held (.op 2 .held (.op 3 .now (.op 4 .held (.op 5 .held (.op 6 .held (.op 7 .now (.op 8 .held (.op 9 .held .nil)))))))))⟩ | 3 => some ⟨[], .op 0 .held (.op 1 .held (.op 2 .held (.op 3 .now (.op 4 .held (.op 5 .held (.op 6 .held (.op 7 .now (.op 8 .held (.op 9 .now (.op 10 .held (.op 11 .held .nil)))))))))))⟩ | 6 => some ⟨[], .op 0 .held (.op 1 .held (.op 2 .held (.op 3 .now (.op 4 .held (.op 5 .held (.op 6 .held (.op 7 .now (.op 8 .held (.op 9 .held .nil)))))))))⟩ | _ => none) [2] 2 Try.func36 rfl rfl mix (by kernel_rfl) (by kernel_rfl) (by simp [Try.f36]) rfl (by simp [msOwn, ownAll, Row.own]) ?_
  by_cases h : at_ < cs.length
  · have hd : decide ((at_ : Int) < cs.length) = true := by simp; omega
    have hd2 : decide ((at_ : Int) + 1 ≤ cs.length) = true := by simp; omega
    have hb := hc at_ h
    obtain ⟨b, hbe⟩ : ∃ b : Nat, cs.getD at_ 0 = (b : Int) := ⟨(cs.getD at_ 0).toNat, by omega⟩
    rw [hbe] at hb
    simp (dsimp := false) only [hd, hbe, go_sem, Nat.reduceAdd, Nat.reduceBEq, Nat.reduceEqDiff, Nat.reduceLT, Nat.reduceLeDiff, reduceCtorEq, ↓reduceIte]
    repeat (refine And.intro (by first | exact True.intro | omega | kernel_rfl | (simp only [List.length_set, List.length_append, List.length_take, List.length_replicate, List.length_cons, true_and, and_true, List.length_nil, tabR_length]; omega)) ?_)
    simp (dsimp := false) only [hd2, go_sem, Nat.reduceAdd, Nat.reduceBEq, Nat.reduceEqDiff, Nat.reduceLT, Nat.reduceLeDiff, reduceCtorEq, ↓reduceIte]
    generalize IntKind.u64.wrap (IntKind.u64.wrap (IntKind.u64.wrap (seed * 6364136223846793005) + IntKind.u64.wrap (b : Int)) + 907907) = s2
    refine afin [0, 1] [aI b] [rCur 1 cs.length (at_ + 1) s2, rU8 cs] (by simp) rfl (weak_of (by decide) (by simp [RS.slot, List.map_cons, List.map_nil, rowsLe, rowLe, slotsLe, tvLe, TV.ren, AV.ren, C.ren, Dat.ren, Row.ren, TV.hs, AV.hs, C.hs, Dat.hs, get_cons, get_nil, zipSlots, List.getD_cons_zero, List.getD_cons_succ, List.getD_nil, -List.getD_eq_getElem?_getD])) (by exact ⟨b, s2, by omega, rfl, rfl⟩)
  · have hd : decide ((at_ : Int) < cs.length) = false := by simp; omega
    have hd2 : decide ((at_ : Int) + 1 ≤ cs.length) = false := by simp; omega
    simp (dsimp := false) only [hd, go_sem, Nat.reduceAdd, Nat.reduceBEq, Nat.reduceEqDiff, Nat.reduceLT, Nat.reduceLeDiff, reduceCtorEq, ↓reduceIte]
    repeat (refine And.intro (by first | exact True.intro | omega | kernel_rfl | (simp only [List.length_set, List.length_append, List.length_take, List.length_replicate, List.length_cons, true_and, and_true, List.length_nil, tabR_length]; omega)) ?_)
    generalize IntKind.u64.wrap (IntKind.u64.wrap (IntKind.u64.wrap (seed * 6364136223846793005) + IntKind.u64.wrap 0) + 907907) = s2
    obtain ⟨b, hb, e⟩ := and255 (s2.fdiv (2 ^ (40 : Int).toNat))
    simp (dsimp := false) only [hd2, show ∀ a : Int, ashift BinOp.shr IntKind.u64 a 40 = some (0 ≤ (40 : Int) ∧ (40 : Int) < (IntKind.u64.bits : Int), .a (.c (.v (.int .u64 (a.fdiv (2 ^ (40 : Int).toNat)))))) from fun _ => rfl, abits, e, go_sem, Nat.reduceAdd, Nat.reduceBEq, Nat.reduceEqDiff, Nat.reduceLT, Nat.reduceLeDiff, reduceCtorEq, ↓reduceIte]
    try refine And.intro ⟨by decide, by decide⟩ ?_
    try simp only [e]
    repeat (refine And.intro (by first | exact True.intro | omega | kernel_rfl | (simp only [List.length_set, List.length_append, List.length_take, List.length_replicate, List.length_cons, true_and, and_true, List.length_nil, tabR_length]; omega)) ?_)
    refine afin [0, 1] [aI b] [rCur 1 cs.length (at_ + 1) s2, rU8 cs] (by simp) rfl (weak_of (by decide) (by simp [RS.slot, List.map_cons, List.map_nil, rowsLe, rowLe, slotsLe, tvLe, TV.ren, AV.ren, C.ren, Dat.ren, Row.ren, TV.hs, AV.hs, C.hs, Dat.hs, get_cons, get_nil, zipSlots, List.getD_cons_zero, List.getD_cons_succ, List.getD_nil, -List.getD_eq_getElem?_getD])) (by exact ⟨b, s2, hb, rfl, rfl⟩)
end Go.Proofs.Ytfkokcmnmmfcbaa
