/- A sort of the library, by its contract, in the abstract layer: from the world that the contract names to the abstract heap. -/
import Derived.Test.YtfkokcmnmmfcbaaAxTy
import Derived.Test.YtfkokcmnmmfcbaaPlSort
import Derived.Sort.Grow
set_option linter.unusedSimpArgs false
set_option linter.unusedVariables false
set_option linter.unusedSectionVars false
namespace Go.Proofs.Ytfkokcmnmmfcbaa
open Go Go.Ax Go.Sort Go.RowKit

theorem putCells_get (enc : Int → Value) (off : Nat) (d : Array Int) (c : Array Value) (i : Nat) : (putCells enc off d c)[i]? = (c[i]?).map fun x => if off ≤ i ∧ i < off + d.size then enc d[i - off]! else x := by
  simp [putCells]
theorem putCells_size (enc : Int → Value) (off : Nat) (d : Array Int) (c : Array Value) : (putCells enc off d c).size = c.size := by
  simp [putCells]
theorem sortW_heap (enc : Int → Value) (w : World) (n blk off : Nat) (d : Array Int) (os : Array Obj) {k : Nat} (hk : k < w.heap.size) :
    (grow (putRow enc (Sort.ahead w n) blk off d) os).heap[k]? = if blk = k then (w.heap[k]?).map (onCells (putCells enc off d)) else w.heap[k]? := by
  rw [heap_grow_old _ _ (by simpa using hk)]
  simp only [putRow, mapBlock, heap_ahead, Array.getElem?_modify]

theorem sort_abs {P : Program} {k : FuncId} (hE : Enters P k)
    (hN : ∀ (p : Option Addr) (cap : Nat) (w : World), Calls P k #[.slice p 0 cap] w fun e w' => e = .returned (.tuple #[]) ∧ w' = w)
    (hS : ∀ (blk off cap : Nat) (zs : List Int) (w : World), Holds (Value.int .i64) w blk off zs.toArray → blk < w.heap.size → zs.length < 4611686018427387904 →
      Calls P k #[.slice (some ⟨blk, off, none⟩) zs.length cap] w fun e w' => e = .returned (.tuple #[]) ∧ ∃ n os, w' = grow (putRow (Value.int .i64) (Sort.ahead w n) blk off (zs.mergeSort fun x y => decide (x ≤ y)).toArray) os)
    (xs : List Int) (hx : xs.length ≤ 281474976710656) : ACalls P k [tS 0 xs.length] [0] [oI xs] (fun t H => t = .tup [] ∧ H = [oI (srtL xs)]) := by
  refine ⟨hE, by simp, ?_⟩
  intro φ Wr w vs hR hW hF
  cases hF with
  | cons h1 h2 =>
    cases h2
    obtain ⟨p, a, cap, hp, hesz, rfl, hlc, hcm, hcap⟩ := h1
    by_cases h0 : xs.length = 0
    · have : xs = [] := List.eq_nil_of_length_eq_zero h0
      subst this
      refine (hN a cap w).mono ?_
      rintro e w' ⟨rfl, rfl⟩
      exact ⟨φ, .tup [], _, _, rfl, List.prefix_refl _, ⟨[], rfl, .nil⟩, hR, Keep.refl _ _ _, rfl, by simp [srtL]⟩
    · have hc0 : cap ≠ 0 := by omega
      obtain ⟨rfl, hroom⟩ := hcap.resolve_left hc0
      have hrow := hR.row 0 _ p rfl hp
      obtain ⟨e1, e2, e3⟩ := hrow
      obtain ⟨f1, f2, f3⟩ := e3 rfl
      have hrm : p.room ≠ 0 := by omega
      obtain ⟨hWr, cur, e, hheap, hsz⟩ := f3.resolve_left hrm
      have hblk : p.blk < w.heap.size := lt_of_heap hheap
      have had : p.ad 0 0 = ⟨p.blk, 0, none⟩ := by simp [Pl.ad, f2]
      rw [had]
      rw [hesz, Nat.mul_one] at hsz
      have hcell : ∀ j, j < xs.length → cur[j]? = some (.int .i64 (xs.getD j 0)) := fun j hj => by
        obtain ⟨y, hy, hcr⟩ := e2 j (.v (.int .i64 (xs.getD j 0))) (by simp [Dat.den, hj])
        have hcr' : y = _ := hcr
        subst hcr'
        rw [cell_eq, f2, Nat.zero_add] at hy
        simpa only [hheap] using hy
      have hH : Holds (Value.int .i64) w p.blk 0 xs.toArray := fun j hj => by
        have hj' : j < xs.length := by simpa using hj
        rw [Nat.zero_add]
        refine ⟨?_, ?_⟩
        · rw [cell_eq]
          simp only [hheap]
          rw [hcell j hj']
          simp [hj']
        · simp [World.frozen?, hheap]
      refine (hS p.blk 0 cap xs w hH hblk (by omega)).mono ?_
      rintro ex w' ⟨rfl, n, os, rfl⟩
      have hsl : (srtL xs).length = xs.length := srtL_len xs
      have hhp := fun k hk => sortW_heap (Value.int .i64) w n p.blk 0 (srtL xs).toArray os (k := k) hk
      have hhb : (grow (putRow (Value.int .i64) (Sort.ahead w n) p.blk 0 (srtL xs).toArray) os).heap[p.blk]? = some (.cells (putCells (Value.int .i64) 0 (srtL xs).toArray cur) e (0, 0)) := by
        rw [hhp _ hblk, if_pos rfl, hheap]; rfl
      have hup := hR.upd (w' := grow (putRow (Value.int .i64) (Sort.ahead w n) p.blk 0 (srtL xs).toArray) os) (h := 0) (d := .ints .i64 xs) (d' := .ints .i64 (srtL xs)) (p := p) rfl hp
        (fun k hk hkb => by rw [hhp k hk, if_neg (Ne.symm hkb)]) hrm
        ⟨e1, fun i c hc => by
          simp only [Dat.den, List.getElem?_map, Option.map_eq_some_iff] at hc
          obtain ⟨y, hy, rfl⟩ := hc
          have hil : i < xs.length := by
            have := (List.getElem?_eq_some_iff.1 hy).1
            omega
          refine ⟨.int .i64 y, ?_, rfl⟩
          rw [cell_eq, f2, Nat.zero_add]
          simp only [hhb]
          rw [putCells_get, hcell i hil]
          have hil2 : i < (srtL xs).length := by omega
          have hy2 : (srtL xs)[i] = y := by
            rw [List.getElem?_eq_getElem hil2] at hy
            simpa using hy
          simp [hil2, hy2], fun _ => ⟨by
          have h9 : xs.length ≤ p.room * p.esz := by simpa [Row.den, Dat.den] using f1
          simpa [Row.den, Dat.den, hsl] using h9, f2, .inr ⟨hWr, _, e, hhb, by rw [putCells_size, hsz, hesz, Nat.mul_one]⟩⟩⟩
      refine ⟨φ, .tup [], _, _, rfl, List.prefix_refl _, ⟨[], rfl, .nil⟩, hup, ⟨rfl, rfl, rfl, by simp, fun k hk hkb => ?_⟩, rfl, rfl⟩
      exact (hhp k hk).trans (if_neg (hkb 0 (by simp) p hp hrm))
end Go.Proofs.Ytfkokcmnmmfcbaa
