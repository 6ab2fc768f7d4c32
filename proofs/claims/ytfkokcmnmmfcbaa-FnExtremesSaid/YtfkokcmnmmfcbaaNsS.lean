/- Contracts: the laws' helpers on slices of slices, a symbolic number of them. -/
import Derived.Test.YtfkokcmnmmfcbaaNst
import Derived.Test.YtfkokcmnmmfcbaaVal
set_option linter.unusedSimpArgs false
set_option linter.unusedVariables false
set_option linter.unusedSectionVars false
namespace Go.Proofs.Ytfkokcmnmmfcbaa
open Go Go.Ax
set_option maxRecDepth 10000
set_option maxHeartbeats 1000000
theorem u_ss : Try.prog.underlying 37 = some (.slice 22) := by kernel_rfl
theorem ag_ss : isAggB Try.prog 37 = some false := by kernel_rfl
theorem sz_ss : sz Try.prog 37 = some 1 := by kernel_rfl
theorem sz_ints : sz Try.prog 22 = some 1 := by kernel_rfl
theorem by_ints : byt Try.prog 22 = some 24 := by kernel_rfl
theorem zr_ints : zr Try.prog 22 = some (.slice none 0 0) := by kernel_rfl
attribute [go_sem] u_ss ag_ss sz_ss sz_ints by_ints zr_ints

theorem ownAll_ro : ∀ {H : Hp} {i : Nat} {ms : List Nat}, (∀ r ∈ H, r.own = false) → ownAll i ms H
  | [], _, _, _ => trivial
  | r :: H, i, ms, h => ⟨fun ho => absurd ho (by rw [h r (by simp)]; simp), ownAll_ro fun x hx => h x (by simp [hx])⟩

/-! ### The flat ones, in any heap -/

theorem rowLe_rw {ρ : List Nat} {o : Bool} {xs : List Int} : rowLe ρ (rI xs) (some (rwI o xs)) := ⟨by simp, rfl, by simp [Dat.hs]⟩

theorem toIntS_g {G : Hp} {h : Nat} {o : Bool} {xs : List Int} (hG : G[h]? = some (rwI o xs)) (hb : 8 * xs.length ≤ 281474976710656) :
    ACalls Try.prog 6 [tS h xs.length] [] G (fun t G' => t = tS G.length xs.length ∧ G' = G ++ [oI xs]) := by
  have hl : ACalls Try.prog 6 [tS 0 xs.length] [] [rI xs] (fun t H => t = tS 1 xs.length ∧ H = [rI xs] ++ [oI xs]) := toIntS_ok xs hb
  refine (ACalls.liftN hl [h] (by simp [Row.own]) (by simp [Row.own]) (by simp) rfl ?_ (by simp [TV.ren, AV.ren, C.ren]) (by simp [TV.hs, AV.hs, C.hs])).mono ?_
  · intro i h' row h1 h2
    match i, h1, h2 with
    | 0, h1, h2 =>
      simp at h1 h2; subst h1; subst h2
      rw [hG]; exact ⟨getlt hG, rowLe_rw⟩
  · rintro t G' ⟨rfl, rfl⟩
    simp [TV.ren, AV.ren, C.ren, freshR, Row.ren, Dat.ren]

theorem eqIntS_g {G : Hp} {a b : Nat} {o o' : Bool} {xs : List Int} (hA : G[a]? = some (rwI o xs)) (hB : G[b]? = some (rwI o' xs)) (hab : a ≠ b) (hx : xs.length ≤ 281474976710656) :
    ACalls Try.prog 8 [tS a xs.length, tS b xs.length] [] G (fun t G' => t = tB true ∧ G' = G) := by
  have hl : ACalls Try.prog 8 [tS 0 xs.length, tS 1 xs.length] [] [rI xs, rI xs] (fun t H => t = tB true ∧ H = [rI xs, rI xs] ++ []) := eqIntS_same xs hx
  refine (ACalls.liftN hl [a, b] (by simp [Row.own]) (by simp [Row.own]) (by simp [hab]) rfl ?_ (by simp [TV.ren, AV.ren, C.ren]) (by simp [TV.hs, AV.hs, C.hs])).mono ?_
  · intro i h' row h1 h2
    match i, h1, h2 with
    | 0, h1, h2 =>
      simp at h1 h2; subst h1; subst h2
      rw [hA]; exact ⟨getlt hA, rowLe_rw⟩
    | 1, h1, h2 =>
      simp at h1 h2; subst h1; subst h2
      rw [hB]; exact ⟨getlt hB, rowLe_rw⟩
  · rintro t G' ⟨rfl, rfl⟩
    simp [TV.ren, AV.ren, C.ren]

/-! ### Equal -/

/-! ### Marked and held -/

def tot : List (List Int) → Nat
  | [] => 0
  | x :: xss => x.length + tot xss
theorem tot_app : ∀ (a b : List (List Int)), tot (a ++ b) = tot a + tot b
  | [], b => by simp [tot]
  | x :: a, b => by simp [tot, tot_app a b]; omega
theorem tot_take {xss : List (List Int)} {i : Nat} {x : List Int} (h : xss[i]? = some x) : tot (xss.take (i + 1)) = tot (xss.take i) + x.length := by
  have hi := h
  rw [List.take_add_one, h, tot_app]; simp [tot]
theorem tot_le : ∀ (xss : List (List Int)) (i : Nat), tot (xss.take i) ≤ tot xss
  | [], i => by simp [tot]
  | x :: xss, 0 => by simp [tot]
  | x :: xss, i + 1 => by simp only [List.take_succ_cons, tot]; have := tot_le xss i; omega
theorem tot_mem {xss : List (List Int)} {x : List Int} (h : x ∈ xss) : x.length ≤ tot xss := by
  induction xss with
  | nil => simp at h
  | cons y ys ih =>
    simp only [tot]
    rcases List.mem_cons.1 h with rfl | h
    · omega
    · have := ih h; omega
/-- The groups' rows, marked one after the other. -/
def mkA : Int → List (List Int) → List (List Int)
  | _, [] => []
  | k, x :: xss => marked x k x.length :: mkA (k + x.length) xss
theorem mkA_len : ∀ (k : Int) (xss : List (List Int)), (mkA k xss).length = xss.length
  | _, [] => rfl
  | k, x :: xss => by simp [mkA, mkA_len _ xss]
theorem mkA_get : ∀ (k : Int) (xss : List (List Int)) (i : Nat) (x : List Int), xss[i]? = some x → (mkA k xss)[i]? = some (marked x (k + tot (xss.take i)) x.length)
  | _, [], i, x, h => by simp at h
  | k, y :: xss, 0, x, h => by simp at h; subst h; simp [mkA, tot]
  | k, y :: xss, i + 1, x, h => by
    simp only [mkA, List.getElem?_cons_succ, List.take_succ_cons, tot]
    rw [mkA_get _ xss i x (by simpa using h)]
    congr 2; omega
theorem nsC_mkA : ∀ (b : Nat) (k : Int) (xss : List (List Int)), nsC b (mkA k xss) = nsC b xss
  | _, _, [] => rfl
  | b, k, x :: xss => by simp only [mkA, nsC, nsC_mkA, marked_length (Nat.le_refl x.length)]
/-- The first i rows marked. -/
def mkU (k : Int) (xss : List (List Int)) (i : Nat) : List (List Int) := (mkA k xss).take i ++ xss.drop i
theorem nsC_take : ∀ (b : Nat) (xss : List (List Int)) (i : Nat), nsC b (xss.take i) = (nsC b xss).take i
  | _, [], i => by simp [nsC]
  | _, x :: xss, 0 => by simp [nsC]
  | b, x :: xss, i + 1 => by simp [nsC, nsC_take (b + 1) xss i]
theorem mkU_len {k : Int} {xss : List (List Int)} {i : Nat} : (mkU k xss i).length = xss.length := by
  simp only [mkU, List.length_append, List.length_take, List.length_drop, mkA_len]; omega
theorem nsC_mkU (b : Nat) (k : Int) (xss : List (List Int)) (i : Nat) : nsC b (mkU k xss i) = nsC b xss := by
  have h : xss = xss.take i ++ xss.drop i := (List.take_append_drop i xss).symm
  have hl : ((mkA k xss).take i).length = (xss.take i).length := by simp [mkA_len]
  rw [mkU, nsC_app, nsC_take, nsC_mkA, ← nsC_take, hl, ← nsC_app, ← h]
theorem mkU_at {k : Int} {xss : List (List Int)} {i : Nat} {x : List Int} (h : xss[i]? = some x) : (mkU k xss i)[i]? = some x := by
  have hi := getlt (G := xss.map rI) (h := i) (r := rI x) (by simp [h])
  rw [List.length_map] at hi
  rw [mkU, List.getElem?_append_right (by simp [mkA_len]; omega), List.getElem?_drop]
  simp only [List.length_take, mkA_len]
  rw [show i + (i - min i xss.length) = i by omega, h]
theorem mkU_set {k : Int} {xss : List (List Int)} {i : Nat} {x : List Int} (h : xss[i]? = some x) : (mkU k xss i).set i (marked x (k + tot (xss.take i)) x.length) = mkU k xss (i + 1) := by
  have hi := getlt (G := xss.map rI) (h := i) (r := rI x) (by simp [h])
  rw [List.length_map] at hi
  have hg := mkA_get k xss i x h
  refine List.ext_getElem? fun j => ?_
  simp only [mkU, List.getElem?_set, List.getElem?_append, List.length_take, List.length_append, List.length_drop, mkA_len, List.getElem?_take, List.getElem?_drop]
  by_cases e : i = j
  · subst e
    rw [if_pos rfl, if_pos (by omega), if_pos (by omega), if_pos (by omega), hg]
  · rw [if_neg e]
    by_cases e2 : j < i
    · rw [if_pos (by omega), if_pos (by omega), if_pos (by omega), if_pos (by omega)]
    · rw [if_neg (by omega), if_neg (by omega)]; congr 1; omega

theorem ownAll_of : ∀ {H : Hp} {i : Nat} {ms : List Nat}, (∀ (j : Nat) r, H[j]? = some r → r.own = true → i + j ∈ ms) → ownAll i ms H
  | [], _, _, _ => trivial
  | r :: H, i, ms, h => ⟨fun ho => by have := h 0 r (by simp) ho; simpa using this, ownAll_of fun j r' hj ho => by have := h (j + 1) r' (by simpa using hj) ho; rwa [show i + 1 + j = i + (j + 1) by omega]⟩
theorem msOwn_of {H : Hp} : ∀ {ms : List Nat}, (∀ m ∈ ms, ∃ d, H[m]? = some (.r true d)) → msOwn H ms
  | [], _ => trivial
  | m :: ms, h => by
    obtain ⟨d, hd⟩ := h m (by simp)
    refine ⟨?_, msOwn_of fun x hx => h x (by simp [hx])⟩
    rw [hd]; trivial
theorem nst_ms (xss : List (List Int)) : msOwn (nst false true 0 xss) (List.range' 1 xss.length) ∧ ownAll 0 (List.range' 1 xss.length) (nst false true 0 xss) := by
  constructor
  · refine msOwn_of fun m hm => ?_
    rw [List.mem_range'_1] at hm
    obtain ⟨j, rfl⟩ : ∃ j, m = j + 1 := ⟨m - 1, by omega⟩
    exact ⟨_, by rw [nst, List.getElem?_cons_succ, List.getElem?_map, List.getElem?_eq_getElem (by omega)]; rfl⟩
  · refine ownAll_of fun j r hj ho => ?_
    have hjl := getlt hj
    rw [nst_len] at hjl
    cases j with
    | zero => simp only [nst, List.getElem?_cons_zero, Option.some.injEq] at hj; subst hj; simp [Row.own] at ho
    | succ j => rw [List.mem_range'_1]; omega

end Go.Proofs.Ytfkokcmnmmfcbaa
