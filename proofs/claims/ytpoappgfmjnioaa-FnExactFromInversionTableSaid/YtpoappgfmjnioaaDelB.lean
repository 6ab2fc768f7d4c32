/- The library's Delete, by its contract, in the abstract layer: from the world that the contract names to the abstract heap. -/
import Derived.Test.YtpoappgfmjnioaaDelL
import Derived.Test.YtpoappgfmjnioaaAxTy
import Derived.Test.YtpoappgfmjnioaaPl
import Derived.Sort.Grow
import Derived.Shelf.Slices.Delete
set_option linter.unusedSimpArgs false
set_option linter.unusedVariables false
set_option linter.unusedSectionVars false
namespace Go.Proofs.Ytpoappgfmjnioaa
open Go Go.Ax Go.Sort Go.RowKit

theorem putCellsD_get (enc : Int → Value) (off : Nat) (d : Array Int) (c : Array Value) (i : Nat) : (putCells enc off d c)[i]? = (c[i]?).map fun x => if off ≤ i ∧ i < off + d.size then enc d[i - off]! else x := by
  simp [putCells]
theorem putCellsD_size (enc : Int → Value) (off : Nat) (d : Array Int) (c : Array Value) : (putCells enc off d c).size = c.size := by
  simp [putCells]
theorem delW_heap (enc : Int → Value) (w : World) (n blk off : Nat) (d : Array Int) {k : Nat} :
    (putRow enc (Sort.ahead w n) blk off d).heap[k]? = if blk = k then (w.heap[k]?).map (onCells (putCells enc off d)) else w.heap[k]? := by
  simp only [putRow, mapBlock, heap_ahead, Array.getElem?_modify]

/-- A list without one element. -/
def delF (xs : List Int) (i : Nat) : List Int := xs.take i ++ xs.drop (i + 1)
theorem delF_len {xs : List Int} {i : Nat} (h : i < xs.length) : (delF xs i).length = xs.length - 1 := by simp [delF]; omega
theorem delF_get {xs : List Int} {i : Nat} (h : i < xs.length) (y : List Int) (j : Nat) (hj : j < (delF xs i).length) : (xs.take i ++ xs.drop (i + 1) ++ y)[j]? = (delF xs i)[j]? := List.getElem?_append_left hj

theorem delete_l (xs : List Int) (i : Nat) (hi : i < xs.length) (hx : xs.length ≤ 281474976710656) :
    ACalls Try.prog 66 [tS 0 xs.length, tI i, tI (i + 1 : Nat)] [0] [oI xs] (fun t H => t = tS 0 (xs.length - 1) ∧ H = [oI (delF xs i)]) := by
  refine ⟨⟨_, Try.func66, by kernel_rfl, by kernel_rfl⟩, by simp, ?_⟩
  intro φ Wr w vs hR hW hF
  cases hF with
  | cons h1 h2 =>
    cases h2 with
    | cons h3 h4 =>
    cases h4 with
    | cons h5 h6 =>
    cases h6
    obtain ⟨p, a, cap, hp, hesz, rfl, hlc, hcm, hcap⟩ := h1
    have h3' : _ = Value.int .i64 i := h3
    have h5' : _ = Value.int .i64 ((i + 1 : Nat) : Int) := h5
    subst h3' h5'
    have hc0 : cap ≠ 0 := by omega
    obtain ⟨rfl, hroom⟩ := hcap.resolve_left hc0
    have hrow := hR.row 0 _ p rfl hp
    obtain ⟨e1, e2, e3⟩ := hrow
    obtain ⟨f1, f2, f3⟩ := e3 rfl
    have hrm : p.room ≠ 0 := by omega
    obtain ⟨hWr, cur, e, hheap, hsz⟩ := f3.resolve_left hrm
    have hblk : p.blk < w.heap.size := lt_of_heap hheap
    have had : p.ad 0 0 = ⟨p.blk, 0, none⟩ := by simp [Pl.ad, f2]
    rw [had]
    rw [hesz, Nat.mul_one] at hsz
    have hcell : ∀ j, j < xs.length → cur[j]? = some (.int .i64 (xs.getD j 0)) := fun j hj => by
      obtain ⟨y, hy, hcr⟩ := e2 j (.v (.int .i64 (xs.getD j 0))) (by simp [Dat.den, hj])
      have hcr' : y = _ := hcr
      subst hcr'
      rw [cell_eq, f2, Nat.zero_add] at hy
      simpa only [hheap] using hy
    have hH : Holds (Value.int .i64) w p.blk 0 xs.toArray := fun j hj => by
      have hj' : j < xs.length := by simpa using hj
      rw [Nat.zero_add]
      refine ⟨?_, ?_⟩
      · rw [cell_eq]
        simp only [hheap]
        rw [hcell j hj']
        simp [hj']
      · simp [World.frozen?, hheap]
    refine (Any.slices_Delete_int_arr Try.laysd23 p.blk 0 cap i (i + 1) xs.toArray w hH (by simpa using hlc) (by unfold maxLen at hcm; omega) (by omega) (by simp; omega)).mono ?_
    rintro ex w' ⟨rfl, n, rfl⟩
    have hdl := delF_len hi
    obtain ⟨D, hD⟩ : ∃ D : List Int, D = delF xs i ++ List.replicate (i + 1 - i) 0 := ⟨_, rfl⟩
    have hDe : (xs.toArray.toList.take i ++ xs.toArray.toList.drop (i + 1) ++ List.replicate (i + 1 - i) 0).toArray = D.toArray := by rw [hD]; rfl
    rw [hDe]
    have hDl : D.length = xs.length := by rw [hD]; simp [hdl]; omega
    have hhp := fun k => delW_heap (Value.int .i64) w n p.blk 0 D.toArray (k := k)
    have hhb : (putRow (Value.int .i64) (Sort.ahead w n) p.blk 0 D.toArray).heap[p.blk]? = some (.cells (putCells (Value.int .i64) 0 D.toArray cur) e (0, 0)) := by
      rw [hhp, if_pos rfl, hheap]; rfl
    have hup := hR.upd (w' := putRow (Value.int .i64) (Sort.ahead w n) p.blk 0 D.toArray) (h := 0) (d := .ints .i64 xs) (d' := .ints .i64 (delF xs i)) (p := p) rfl hp
      (fun k hk hkb => by rw [hhp k, if_neg (Ne.symm hkb)]) hrm
      ⟨e1, fun j c hc => by
        simp only [Dat.den, List.getElem?_map, Option.map_eq_some_iff] at hc
        obtain ⟨y, hy, rfl⟩ := hc
        have hjl : j < (delF xs i).length := (List.getElem?_eq_some_iff.1 hy).1
        refine ⟨.int .i64 y, ?_, rfl⟩
        rw [cell_eq, f2, Nat.zero_add]
        simp only [hhb]
        rw [putCellsD_get, hcell j (by omega)]
        have hjD : j < D.length := by omega
        have hy2 : D[j] = y := by
          have : D[j]? = (delF xs i)[j]? := by rw [hD]; exact List.getElem?_append_left hjl
          rw [hy, List.getElem?_eq_getElem hjD] at this
          simpa using this
        simp [hjD, hy2], fun _ => ⟨by
        have h9 : xs.length ≤ p.room * p.esz := by simpa [Row.den, Dat.den] using f1
        simp only [Row.den, Dat.den, List.length_map]; omega, f2, .inr ⟨hWr, _, e, hhb, by rw [putCellsD_size, hsz, hesz, Nat.mul_one]⟩⟩⟩
    refine ⟨φ, tS 0 (xs.length - 1), _, _, rfl, List.prefix_refl _, ⟨p, some ⟨p.blk, 0, none⟩, cap, hp, hesz, by simp, by omega, hcm, .inr ⟨by rw [had], hroom⟩⟩, hup, ⟨rfl, rfl, rfl, by simp, fun k hk hkb => ?_⟩, rfl, rfl⟩
    exact (hhp k).trans (if_neg (hkb 0 (by simp) p hp hrm))
end Go.Proofs.Ytpoappgfmjnioaa
