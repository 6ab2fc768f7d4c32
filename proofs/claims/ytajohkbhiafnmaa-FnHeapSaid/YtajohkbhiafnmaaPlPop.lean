/- Facts: a heap stays as it is when it is built again; popping takes the greatest and leaves a heap of the rest. -/
import Derived.Test.YtajohkbhiafnmaaPlPush
set_option linter.unusedSimpArgs false
set_option linter.unusedVariables false
set_option linter.unusedSectionVars false
namespace Go.Proofs.Ytajohkbhiafnmaa
open Go Go.Ax

theorem siftF_hpstay {d n f i : Nat} {zs : List Int} (hd : 2 ≤ d) (h : HP d 0 n 0 zs) : siftF d 0 n f i zs = (zs, 0) := by
  by_cases h1 : d * i + 1 < n
  · have hb := best_bd (zs := zs) (o := 0) h1 hd
    have hp := best_par (zs := zs) (o := 0) hd h1
    exact siftF_stay h1 (h i _ hp (by omega) (Nat.zero_le _))
  · exact siftF_out h1
theorem buildF_hpstay {d n : Nat} {zs : List Int} (hd : 2 ≤ d) (h : HP d 0 n 0 zs) : ∀ c, buildF d 0 n c (zs, 0) = (zs, 0)
  | 0 => rfl
  | c + 1 => by
    rw [buildF, siftF_hpstay hd h]
    exact buildF_hpstay hd h c
theorem heapF_hpstay {d n : Nat} {zs : List Int} (hd : 2 ≤ d) (h : HP d 0 n 0 zs) : heapF d 0 n zs = (zs, 0) := buildF_hpstay hd h _

theorem getD_take {zs : List Int} {c i : Nat} (h : i < c) : (zs.take c).getD i 0 = zs.getD i 0 := by
  simp [List.getD_eq_getElem?_getD, List.getElem?_take, h]
theorem pop_top {S hs : List Int} {d c : Nat} (hd : 2 ≤ d) (hc : 0 < c) (hcS : c ≤ S.length) (hl : hs.length = c) (hs0 : SSeg 0 S.length S) (hp : hs.Perm (S.take c)) (hh : HP d 0 c 0 hs) :
    hs.getD 0 0 = S.getD (c - 1) 0 := by
  have hmem : ∀ {L : List Int} {i : Nat}, i < L.length → L.getD i 0 ∈ L := fun {L i} h => by
    rw [List.getD_eq_getElem?_getD, List.getElem?_eq_getElem h]; exact List.getElem_mem h
  have hTl : (S.take c).length = c := by simp; omega
  have a : hs.getD 0 0 ∈ S.take c := hp.mem_iff.mp (hmem (by omega))
  obtain ⟨i, hi, ei⟩ := List.mem_iff_getElem.mp a
  have ei2 : S.getD i 0 = hs.getD 0 0 := by
    rw [← ei, ← getD_take (zs := S) (c := c) (by omega), List.getD_eq_getElem?_getD, List.getElem?_eq_getElem hi]; rfl
  have b : (S.take c).getD (c - 1) 0 ∈ hs := hp.mem_iff.mpr (hmem (by omega))
  rw [getD_take (by omega)] at b
  obtain ⟨j, hj, ej⟩ := List.mem_iff_getElem.mp b
  have ej2 : hs.getD j 0 = S.getD (c - 1) 0 := by rw [← ej, List.getD_eq_getElem?_getD, List.getElem?_eq_getElem hj]; rfl
  have h1 := hp_top hd hh j (by omega)
  rw [Nat.zero_add, Nat.zero_add] at h1
  have h2 : S.getD i 0 ≤ S.getD (c - 1) 0 := by
    by_cases e : i = c - 1
    · rw [e]; exact Int.le_refl _
    · have := hs0 i (c - 1) (by omega) (by omega)
      rwa [Nat.zero_add, Nat.zero_add] at this
  omega
theorem take_snoc {S : List Int} {m : Nat} (h : m < S.length) : S.take (m + 1) = S.take m ++ [S.getD m 0] := by
  rw [List.take_add_one, List.getD_eq_getElem?_getD, List.getElem?_eq_getElem h]; rfl
theorem seg_take {zs : List Int} {m : Nat} (h : m ≤ zs.length) : seg zs 0 m = zs.take m :=
  list_ext_getD (by rw [seg_len]; simp; omega) (fun i hi => by
    rw [seg_len] at hi
    rw [seg_get _ _ hi, Nat.zero_add, getD_take hi])
theorem pop_rest {S hs : List Int} {d m : Nat} (hd : 2 ≤ d) (hcS : m + 1 ≤ S.length) (hl : hs.length = m + 1) (hs0 : SSeg 0 S.length S) (hp : hs.Perm (S.take (m + 1))) (hh : HP d 0 (m + 1) 0 hs) :
    ((popP hs d).1.take m).Perm (S.take m) ∧ HP d 0 m 0 ((popP hs d).1.take m) := by
  have htop := pop_top hd (by omega) hcS hl hs0 hp hh
  rw [Nat.add_sub_cancel] at htop
  have hpl := popP_len hs d
  obtain ⟨ws, hws⟩ : ∃ ws, ws = hs.set 0 (hs.getD m 0) := ⟨_, rfl⟩
  have hwl : ws.length = m + 1 := by rw [hws]; simpa using hl
  have e : popP hs d = siftF d 0 m m 0 ws := by unfold popP; rw [hl, Nat.add_sub_cancel, Int.toNat_natCast, hws]
  have hw : ∀ k, 0 < k → ws.getD k 0 = hs.getD k 0 := fun k hk => by rw [hws]; simp [List.getD_eq_getElem?_getD, List.getElem?_set, show ¬ (0 = k) by omega]
  have hps := siftF_ps d 0 m hd m 0 ws (by omega)
  have hhp : HP d 0 m 0 (siftF d 0 m m 0 ws).1 := siftF_hp d 0 m 0 hd m 0 ws (by omega) (Nat.le_refl _) (by omega) (fun p j hpj hj _ hp0 => by
    have l1 := par_lt (by omega) hpj
    rw [Nat.zero_add, Nat.zero_add, hw j (by omega), hw p (by omega)]
    have := hh p j hpj (by omega) (Nat.zero_le _)
    rwa [Nat.zero_add, Nat.zero_add] at this) (fun p j _ _ hp0 _ => by have := par_lt (by omega) hp0; omega)
  rw [e] at hpl ⊢
  have hq := hps.perm
  rw [seg_take (by omega), seg_take (by omega)] at hq
  refine ⟨?_, fun i j hij hj hc => ?_⟩
  · have hwp : (ws.take m).Perm (S.take m) := by
      cases m with
      | zero => simp
      | succ k =>
        cases hs with
        | nil => simp at hl
        | cons a t =>
          have h1 : ws.take (k + 1) = (a :: t).getD (k + 1) 0 :: t.take k := by rw [hws]; rfl
          have h2 : (a :: t) = (a :: t.take k) ++ [(a :: t).getD (k + 1) 0] := by
            have h3 := take_snoc (S := a :: t) (m := k + 1) (by omega)
            rw [List.take_of_length_le (by omega)] at h3
            exact h3
          obtain ⟨v, hv⟩ : ∃ v, v = (a :: t).getD (k + 1) 0 := ⟨_, rfl⟩
          rw [← hv] at h1 h2
          have ha : a = S.getD (k + 1) 0 := htop
          rw [take_snoc (by omega), ← ha] at hp
          rw [h1]
          refine List.Perm.cons_inv (a := a) ?_
          have h4 : (a :: v :: t.take k).Perm (a :: t) := by
            rw [h2]
            exact (List.Perm.swap v a _).trans (List.perm_append_singleton v (a :: t.take k)).symm
          exact h4.trans (hp.trans (List.perm_append_singleton a _))
    first
      | exact hq.trans hwp
      | exact hq.symm.trans hwp
  · have l1 := par_lt (by omega) hij
    rw [Nat.zero_add, Nat.zero_add, getD_take hj, getD_take (by omega)]
    have := hhp i j hij hj (Nat.zero_le _)
    rwa [Nat.zero_add, Nat.zero_add] at this
end Go.Proofs.Ytajohkbhiafnmaa
