/- Plain facts on stable sorting: exchanges, rotations, merges; no program in sight. -/
import Derived.Test.YtfkokcmnmmfcbaaPl
set_option linter.unusedSimpArgs false
set_option linter.unusedVariables false
set_option linter.unusedSectionVars false
namespace Go.Proofs.Ytfkokcmnmmfcbaa
open Go Go.Ax

/-! ### Exchanges -/
/-- Two elements exchanged. -/
def swD {α : Type} (d : α) (xs : List α) (i k : Nat) : List α := (xs.set i (xs.getD k d)).set k (xs.getD i d)
theorem swD_len {α : Type} (d : α) (xs : List α) (i k : Nat) : (swD d xs i k).length = xs.length := by simp [swD]
theorem swD_get {α : Type} (d : α) {xs : List α} {i k : Nat} (hi : i < xs.length) (hk : k < xs.length) (q : Nat) : (swD d xs i k).getD q d = if q = k then xs.getD i d else if q = i then xs.getD k d else xs.getD q d := by
  unfold swD
  simp only [List.getD_eq_getElem?_getD, List.getElem?_set, List.length_set]
  by_cases h1 : q = k
  · subst h1; simp [hk]
  · rw [if_neg (Ne.symm h1), if_neg h1]
    by_cases h2 : q = i
    · subst h2; simp [hi]
    · rw [if_neg (Ne.symm h2), if_neg h2]
theorem extD {α : Type} (d : α) {xs ys : List α} (hl : xs.length = ys.length) (h : ∀ i, i < xs.length → xs.getD i d = ys.getD i d) : xs = ys := by
  apply List.ext_getElem hl
  intro i h1 h2
  have := h i h1
  simpa [List.getD_eq_getElem?_getD, h1, h2] using this
theorem dropD {α : Type} (d : α) {xs : List α} {i : Nat} (h : i < xs.length) : xs.drop i = xs.getD i d :: xs.drop (i + 1) := by
  rw [List.drop_eq_getElem_cons h]
  simp [List.getD_eq_getElem?_getD, h]
theorem memD {α : Type} (d : α) {xs : List α} {i : Nat} (h : i < xs.length) : xs.getD i d ∈ xs := by
  simp only [List.getD_eq_getElem?_getD, List.getElem?_eq_getElem h, Option.getD_some]
  exact List.getElem_mem h

/-! ### Lists with the same elements of each key, in the same order -/
/-- The elements of a key. -/
def kf {α : Type} (κ : α → Int) (c : Int) (xs : List α) : List α := xs.filter (fun x => decide (κ x = c))
theorem kf_app {α : Type} (κ : α → Int) (c : Int) (xs ys : List α) : kf κ c (xs ++ ys) = kf κ c xs ++ kf κ c ys := List.filter_append ..
theorem kf_nil_of {α : Type} {κ : α → Int} {c : Int} {xs : List α} (h : ∀ x ∈ xs, κ x ≠ c) : kf κ c xs = [] := by
  unfold kf
  rw [List.filter_eq_nil_iff]
  intro x hx
  simpa using h x hx

/-- ys is xs, the part from a to b arranged anew, the elements of a key in their order. -/
structure SB {α : Type} (d : α) (κ : α → Int) (a b : Nat) (xs ys : List α) : Prop where
  len : ys.length = xs.length
  out : ∀ q, q < a ∨ b ≤ q → ys.getD q d = xs.getD q d
  flt : ∀ c, kf κ c ys = kf κ c xs
theorem SB.refl {α : Type} (d : α) (κ : α → Int) (a b : Nat) (xs : List α) : SB d κ a b xs xs := ⟨rfl, fun _ _ => rfl, fun _ => rfl⟩
theorem SB.trans {α : Type} {d : α} {κ : α → Int} {a b : Nat} {xs ys zs : List α} (h1 : SB d κ a b xs ys) (h2 : SB d κ a b ys zs) : SB d κ a b xs zs :=
  ⟨h2.len.trans h1.len, fun q hq => (h2.out q hq).trans (h1.out q hq), fun c => (h2.flt c).trans (h1.flt c)⟩
theorem SB.mono {α : Type} {d : α} {κ : α → Int} {a b a' b' : Nat} {xs ys : List α} (h : SB d κ a b xs ys) (h1 : a' ≤ a) (h2 : b ≤ b') : SB d κ a' b' xs ys :=
  ⟨h.len, fun q hq => h.out q (by omega), h.flt⟩
theorem cut3 {α : Type} (xs : List α) {a b : Nat} (h : a ≤ b) : xs = xs.take a ++ ((xs.drop a).take (b - a) ++ xs.drop b) := by
  have e : xs.drop b = (xs.drop a).drop (b - a) := by rw [List.drop_drop]; congr 1; omega
  rw [e, List.take_append_drop, List.take_append_drop]
theorem take_ext {α : Type} (d : α) {xs ys : List α} {a : Nat} (hl : ys.length = xs.length) (h : ∀ q, q < a → ys.getD q d = xs.getD q d) : ys.take a = xs.take a := by
  apply extD d (by simp [hl])
  intro i hi
  have h1 : i < a := by simp at hi; omega
  have := h i h1
  simp only [List.getD_eq_getElem?_getD, List.getElem?_take, if_pos h1] at this ⊢
  exact this
theorem drop_ext {α : Type} (d : α) {xs ys : List α} {b : Nat} (hl : ys.length = xs.length) (h : ∀ q, b ≤ q → ys.getD q d = xs.getD q d) : ys.drop b = xs.drop b := by
  apply extD d (by simp [hl])
  intro i hi
  have := h (b + i) (by omega)
  simp only [List.getD_eq_getElem?_getD, List.getElem?_drop] at this ⊢
  exact this
theorem SB.mid {α : Type} {d : α} {κ : α → Int} {a b : Nat} {xs ys : List α} (h : SB d κ a b xs ys) (hab : a ≤ b) (c : Int) : kf κ c ((ys.drop a).take (b - a)) = kf κ c ((xs.drop a).take (b - a)) := by
  have h1 := h.flt c
  rw [cut3 xs hab, cut3 ys hab, take_ext d h.len (fun q hq => h.out q (.inl hq)), drop_ext d h.len (fun q hq => h.out q (.inr hq))] at h1
  simp only [kf_app] at h1
  exact List.append_cancel_right (List.append_cancel_left h1)
theorem SB.mem {α : Type} {d : α} {κ : α → Int} {a b : Nat} {xs ys : List α} (h : SB d κ a b xs ys) (hb : b ≤ xs.length) {p : Nat} (h1 : a ≤ p) (h2 : p < b) : ∃ q, a ≤ q ∧ q < b ∧ ys.getD p d = xs.getD q d := by
  have hm : ys.getD p d ∈ kf κ (κ (ys.getD p d)) ((ys.drop a).take (b - a)) := by
    unfold kf
    rw [List.mem_filter]
    refine ⟨?_, by simp⟩
    rw [List.mem_iff_getElem?]
    refine ⟨p - a, ?_⟩
    have hp : p < ys.length := by rw [h.len]; omega
    rw [List.getElem?_take, if_pos (by omega), List.getElem?_drop, show a + (p - a) = p by omega]
    simp [List.getD_eq_getElem?_getD, hp]
  rw [h.mid (by omega)] at hm
  have hm2 := (List.mem_filter.mp hm).1
  obtain ⟨i, hi⟩ := List.mem_iff_getElem?.mp hm2
  have hlt : i < b - a := by
    have := (List.getElem?_eq_some_iff.mp hi).1
    simp at this; omega
  rw [List.getElem?_take, if_pos hlt, List.getElem?_drop] at hi
  refine ⟨a + i, by omega, by omega, ?_⟩
  rw [List.getD_eq_getElem?_getD (l := xs), hi]
  rfl
theorem SB.adj {α : Type} {d : α} {κ : α → Int} {xs : List α} {i : Nat} (h : i + 1 < xs.length) (hk : κ (xs.getD i d) ≠ κ (xs.getD (i + 1) d)) : SB d κ i (i + 2) xs (swD d xs i (i + 1)) := by
  refine ⟨swD_len .., fun q hq => ?_, fun c => ?_⟩
  · rw [swD_get d (by omega) h, if_neg (by omega), if_neg (by omega)]
  · have e1 : xs = xs.take i ++ (xs.getD i d :: xs.getD (i + 1) d :: xs.drop (i + 2)) := by
      rw [← dropD d h, ← dropD d (show i < xs.length by omega), List.take_append_drop]
    have e2 : swD d xs i (i + 1) = xs.take i ++ (xs.getD (i + 1) d :: xs.getD i d :: xs.drop (i + 2)) := by
      have hl := swD_len d xs i (i + 1)
      have g := swD_get d (show i < xs.length by omega) h
      rw [← take_ext d hl (fun q (hq : q < i) => by rw [g, if_neg (by omega), if_neg (by omega)]), ← drop_ext d hl (fun q (hq : i + 2 ≤ q) => by rw [g, if_neg (by omega), if_neg (by omega)])]
      have g0 := g i
      have g1 := g (i + 1)
      rw [if_neg (by omega), if_pos rfl] at g0
      rw [if_pos rfl] at g1
      rw [← g0, ← g1, ← dropD d (by rw [hl]; exact h), ← dropD d (by rw [hl]; omega), List.take_append_drop]
    rw [e2]
    conv => rhs; rw [e1]
    rw [kf_app, kf_app]
    congr 1
    unfold kf
    simp only [List.filter_cons, decide_eq_true_eq]
    split
    · split
      · omega
      · rfl
    · rfl

/-! ### Sorted parts -/
def SO {α : Type} (d : α) (κ : α → Int) (a b : Nat) (xs : List α) : Prop := ∀ p q, a ≤ p → p < q → q < b → κ (xs.getD p d) ≤ κ (xs.getD q d)
theorem SO.le {α : Type} {d : α} {κ : α → Int} {a b : Nat} {xs : List α} (h : SO d κ a b xs) {p q : Nat} (h1 : a ≤ p) (h2 : p ≤ q) (h3 : q < b) : κ (xs.getD p d) ≤ κ (xs.getD q d) := by
  by_cases e : p = q
  · subst e; exact Int.le_refl _
  · exact h p q h1 (by omega) h3
theorem SO.mono {α : Type} {d : α} {κ : α → Int} {a b a' b' : Nat} {xs : List α} (h : SO d κ a b xs) (h1 : a ≤ a') (h2 : b' ≤ b) : SO d κ a' b' xs := fun p q hp hpq hq => h p q (by omega) hpq (by omega)
theorem SO.same {α : Type} {d : α} {κ : α → Int} {a b : Nat} {xs ys : List α} (h : SO d κ a b xs) (e : ∀ q, a ≤ q → q < b → ys.getD q d = xs.getD q d) : SO d κ a b ys := fun p q hp hpq hq => by
  rw [e p hp (by omega), e q (by omega) hq]; exact h p q hp hpq hq
theorem SO.of_le {α : Type} (d : α) (κ : α → Int) {a b : Nat} (xs : List α) (h : b ≤ a + 1) : SO d κ a b xs := fun p q hp hpq hq => by omega
theorem SO.join {α : Type} {d : α} {κ : α → Int} {a m b : Nat} {xs : List α} (h1 : SO d κ a m xs) (h2 : SO d κ m b xs) (h : ∀ p q, a ≤ p → p < m → m ≤ q → q < b → κ (xs.getD p d) ≤ κ (xs.getD q d)) : SO d κ a b xs := fun p q hp hpq hq => by
  by_cases e1 : q < m
  · exact h1 p q hp hpq e1
  · by_cases e2 : p < m
    · exact h p q hp e2 (by omega) hq
    · exact h2 p q (by omega) hpq hq

/-! ### The stable arrangement -/
def insB {α : Type} (κ : α → Int) (x : α) : List α → List α
  | [] => [x]
  | y :: ys => if κ x < κ y then x :: y :: ys else y :: insB κ x ys
def stbF {α : Type} (κ : α → Int) (xs : List α) : List α := xs.foldl (fun l x => insB κ x l) []
theorem insB_mem {α : Type} {κ : α → Int} {x z : α} : ∀ {ys : List α}, z ∈ insB κ x ys ↔ z = x ∨ z ∈ ys
  | [] => by simp [insB]
  | y :: ys => by
    rw [insB]
    split
    · simp
    · simp only [List.mem_cons, insB_mem (ys := ys)]
      constructor
      · rintro (h | h | h) <;> simp [h]
      · rintro (h | h | h) <;> simp [h]
theorem insB_pw {α : Type} {κ : α → Int} {x : α} : ∀ {ys : List α}, ys.Pairwise (fun a b => κ a ≤ κ b) → (insB κ x ys).Pairwise (fun a b => κ a ≤ κ b)
  | [], _ => by simp [insB]
  | y :: ys, h => by
    rw [insB]
    have h' := List.pairwise_cons.mp h
    split
    · rename_i hlt
      refine List.pairwise_cons.mpr ⟨fun z hz => ?_, h⟩
      rcases List.mem_cons.mp hz with rfl | hz
      · omega
      · have := h'.1 z hz; omega
    · rename_i hlt
      refine List.pairwise_cons.mpr ⟨fun z hz => ?_, insB_pw h'.2⟩
      rcases insB_mem.mp hz with rfl | hz
      · omega
      · exact h'.1 z hz
theorem insB_kf {α : Type} {κ : α → Int} {x : α} (c : Int) : ∀ {ys : List α}, ys.Pairwise (fun a b => κ a ≤ κ b) → kf κ c (insB κ x ys) = kf κ c (ys ++ [x])
  | [], _ => rfl
  | y :: ys, h => by
    have h' := List.pairwise_cons.mp h
    rw [insB]
    split
    · rename_i hlt
      rw [kf_app]
      by_cases e : κ x = c
      · have e2 : kf κ c (y :: ys) = [] := kf_nil_of (fun z hz => by
          rcases List.mem_cons.mp hz with rfl | hz
          · omega
          · have := h'.1 z hz; omega)
        have e3 : kf κ c (x :: y :: ys) = kf κ c [x] ++ kf κ c (y :: ys) := by rw [← kf_app]; rfl
        rw [e3, e2]; simp
      · have e3 : kf κ c (x :: y :: ys) = kf κ c [x] ++ kf κ c (y :: ys) := by rw [← kf_app]; rfl
        have e4 : kf κ c [x] = [] := kf_nil_of (by simpa using e)
        rw [e3, e4]; simp
    · have e3 : kf κ c (y :: insB κ x ys) = kf κ c [y] ++ kf κ c (insB κ x ys) := by rw [← kf_app]; rfl
      rw [e3, insB_kf c h'.2, ← kf_app]; rfl
theorem fold_pw {α : Type} {κ : α → Int} : ∀ (xs acc : List α), acc.Pairwise (fun a b => κ a ≤ κ b) → (xs.foldl (fun l x => insB κ x l) acc).Pairwise (fun a b => κ a ≤ κ b)
  | [], _, h => h
  | x :: xs, acc, h => fold_pw xs (insB κ x acc) (insB_pw h)
theorem fold_kf {α : Type} {κ : α → Int} (c : Int) : ∀ (xs acc : List α), acc.Pairwise (fun a b => κ a ≤ κ b) → kf κ c (xs.foldl (fun l x => insB κ x l) acc) = kf κ c (acc ++ xs)
  | [], acc, _ => by simp
  | x :: xs, acc, h => by
    rw [List.foldl_cons, fold_kf c xs _ (insB_pw h), kf_app, insB_kf c h, ← kf_app]; simp
theorem stbF_pw {α : Type} (κ : α → Int) (xs : List α) : (stbF κ xs).Pairwise (fun a b => κ a ≤ κ b) := fold_pw xs [] List.Pairwise.nil
theorem stbF_kf {α : Type} (κ : α → Int) (xs : List α) (c : Int) : kf κ c (stbF κ xs) = kf κ c xs := by
  have := fold_kf (κ := κ) c xs [] List.Pairwise.nil
  simpa [stbF] using this
theorem stbF_snoc {α : Type} (κ : α → Int) (xs : List α) (x : α) : stbF κ (xs ++ [x]) = insB κ x (stbF κ xs) := by simp [stbF]
theorem sort_uniq {α : Type} {κ : α → Int} : ∀ {xs ys : List α}, xs.Pairwise (fun a b => κ a ≤ κ b) → ys.Pairwise (fun a b => κ a ≤ κ b) → (∀ c, kf κ c xs = kf κ c ys) → xs = ys
  | [], [], _, _, _ => rfl
  | [], y :: ys, _, _, h => by have := h (κ y); simp [kf] at this
  | x :: xs, [], _, _, h => by have := h (κ x); simp [kf] at this
  | x :: xs, y :: ys, h1, h2, h => by
    have h1' := List.pairwise_cons.mp h1
    have h2' := List.pairwise_cons.mp h2
    have hx : κ y ≤ κ x := by
      have hm : x ∈ kf κ (κ x) (y :: ys) := by rw [← h]; simp [kf]
      rcases List.mem_cons.mp (List.mem_filter.mp hm).1 with rfl | hm
      · exact Int.le_refl _
      · exact h2'.1 _ hm
    have hy : κ x ≤ κ y := by
      have hm : y ∈ kf κ (κ y) (x :: xs) := by rw [h]; simp [kf]
      rcases List.mem_cons.mp (List.mem_filter.mp hm).1 with rfl | hm
      · exact Int.le_refl _
      · exact h1'.1 _ hm
    have e : κ x = κ y := by omega
    have hh : ∀ c, (if κ x = c then x :: kf κ c xs else kf κ c xs) = (if κ y = c then y :: kf κ c ys else kf κ c ys) := fun c => by
      have := h c
      simpa [kf, List.filter_cons] using this
    have h0 := hh (κ x)
    rw [if_pos rfl, if_pos e.symm] at h0
    have exy : x = y := (List.cons.inj h0).1
    subst exy
    congr 1
    refine sort_uniq h1'.2 h2'.2 (fun c => ?_)
    have hc := hh c
    by_cases ec : κ x = c
    · rw [if_pos ec, if_pos ec] at hc; exact (List.cons.inj hc).2
    · rw [if_neg ec, if_neg ec] at hc; exact hc
theorem SO.pw {α : Type} {d : α} {κ : α → Int} {xs : List α} (h : SO d κ 0 xs.length xs) : xs.Pairwise (fun a b => κ a ≤ κ b) := by
  rw [List.pairwise_iff_getElem]
  intro i j hi hj hij
  have := h i j (by omega) hij hj
  simpa [List.getD_eq_getElem?_getD, hi, hj] using this
theorem kf_len {α : Type} {κ : α → Int} {xs ys : List α} (h : ∀ c, kf κ c xs = kf κ c ys) : xs.length = ys.length := by
  have e1 : stbF κ xs = stbF κ ys := sort_uniq (stbF_pw κ xs) (stbF_pw κ ys) (fun c => by rw [stbF_kf, stbF_kf, h c])
  have hl : ∀ (zs acc : List α), (zs.foldl (fun l x => insB κ x l) acc).length = zs.length + acc.length := by
    intro zs
    induction zs with
    | nil => intro acc; simp
    | cons z zs ih =>
      intro acc
      have hi : ∀ l : List α, (insB κ z l).length = l.length + 1 := by
        intro l
        induction l with
        | nil => rfl
        | cons y l ih2 => rw [insB]; split <;> simp [ih2]
      rw [List.foldl_cons, ih, hi]; simp; omega
  have h1 := hl xs []
  have h2 := hl ys []
  have e2 := congrArg List.length e1
  unfold stbF at e2
  simp at h1 h2
  omega
theorem stbF_len {α : Type} (κ : α → Int) (xs : List α) : (stbF κ xs).length = xs.length := kf_len (stbF_kf κ xs)
theorem SB.stb {α : Type} {d : α} {κ : α → Int} {xs ys : List α} (h : SB d κ 0 xs.length xs ys) (h2 : SO d κ 0 xs.length ys) : ys = stbF κ xs :=
  sort_uniq (by rw [← h.len] at h2; exact h2.pw) (stbF_pw κ xs) (fun c => by rw [h.flt, stbF_kf])

/-! ### Rotation -/
def rotD {α : Type} (xs : List α) (a m b : Nat) : List α := xs.take a ++ ((xs.drop m).take (b - m) ++ ((xs.drop a).take (m - a) ++ xs.drop b))
theorem rotD_len {α : Type} {xs : List α} {a m b : Nat} (h1 : a ≤ m) (h2 : m ≤ b) (h3 : b ≤ xs.length) : (rotD xs a m b).length = xs.length := by
  simp [rotD]; omega
theorem rotD_get {α : Type} (d : α) {xs : List α} {a m b : Nat} (h1 : a ≤ m) (h2 : m ≤ b) (h3 : b ≤ xs.length) (q : Nat) :
    (rotD xs a m b).getD q d = if q < a then xs.getD q d else if q < a + (b - m) then xs.getD (q - a + m) d else if q < b then xs.getD (q - (b - m)) d else xs.getD q d := by
  simp only [rotD, List.getD_eq_getElem?_getD]
  by_cases e1 : q < a
  · rw [if_pos e1, List.getElem?_append_left (by simp; omega), List.getElem?_take, if_pos e1]
  · rw [if_neg e1, List.getElem?_append_right (by simp; omega), List.length_take, Nat.min_eq_left (by omega)]
    by_cases e2 : q < a + (b - m)
    · rw [if_pos e2, List.getElem?_append_left (by simp; omega), List.getElem?_take, if_pos (by omega), List.getElem?_drop, show m + (q - a) = q - a + m by omega]
    · rw [if_neg e2, List.getElem?_append_right (by simp; omega), List.length_take, List.length_drop, Nat.min_eq_left (by omega)]
      by_cases e3 : q < b
      · rw [if_pos e3, List.getElem?_append_left (by simp; omega), List.getElem?_take, if_pos (by omega), List.getElem?_drop, show a + (q - a - (b - m)) = q - (b - m) by omega]
      · rw [if_neg e3, List.getElem?_append_right (by simp; omega), List.length_take, List.length_drop, Nat.min_eq_left (by omega), List.getElem?_drop, show b + (q - a - (b - m) - (m - a)) = q by omega]
theorem rotD_SB {α : Type} {d : α} {κ : α → Int} {xs : List α} {a m b : Nat} (h1 : a ≤ m) (h2 : m ≤ b) (h3 : b ≤ xs.length)
    (h : ∀ p q, a ≤ p → p < m → m ≤ q → q < b → κ (xs.getD q d) < κ (xs.getD p d)) : SB d κ a b xs (rotD xs a m b) := by
  refine ⟨rotD_len h1 h2 h3, fun q hq => ?_, fun c => ?_⟩
  · rw [rotD_get d h1 h2 h3]
    rcases hq with hq | hq
    · rw [if_pos hq]
    · rw [if_neg (by omega), if_neg (by omega), if_neg (by omega)]
  · have e : xs = xs.take a ++ ((xs.drop a).take (m - a) ++ ((xs.drop m).take (b - m) ++ xs.drop b)) := by
      have e1 := cut3 xs (show a ≤ m from h1)
      have e2 := cut3 (xs.drop m) (show 0 ≤ b - m by omega)
      rw [List.take_zero, List.nil_append, List.drop_zero, Nat.sub_zero, List.drop_drop, show m + (b - m) = b by omega] at e2
      rw [← e2]; exact e1
    have hL : ∀ x ∈ (xs.drop a).take (m - a), ∃ p, a ≤ p ∧ p < m ∧ x = xs.getD p d := fun x hx => by
      obtain ⟨i, hi⟩ := List.mem_iff_getElem?.mp hx
      have hlt : i < m - a := by
        have := (List.getElem?_eq_some_iff.mp hi).1
        simp at this; omega
      rw [List.getElem?_take, if_pos hlt, List.getElem?_drop] at hi
      exact ⟨a + i, by omega, by omega, by rw [List.getD_eq_getElem?_getD, hi]; rfl⟩
    have hR : ∀ x ∈ (xs.drop m).take (b - m), ∃ p, m ≤ p ∧ p < b ∧ x = xs.getD p d := fun x hx => by
      obtain ⟨i, hi⟩ := List.mem_iff_getElem?.mp hx
      have hlt : i < b - m := by
        have := (List.getElem?_eq_some_iff.mp hi).1
        simp at this; omega
      rw [List.getElem?_take, if_pos hlt, List.getElem?_drop] at hi
      exact ⟨m + i, by omega, by omega, by rw [List.getD_eq_getElem?_getD, hi]; rfl⟩
    have key : kf κ c ((xs.drop a).take (m - a)) = [] ∨ kf κ c ((xs.drop m).take (b - m)) = [] := by
      by_cases hc : ∃ x ∈ (xs.drop a).take (m - a), κ x = c
      · obtain ⟨x, hx, hxc⟩ := hc
        obtain ⟨p, hp1, hp2, rfl⟩ := hL x hx
        right
        refine kf_nil_of (fun y hy => ?_)
        obtain ⟨q, hq1, hq2, rfl⟩ := hR y hy
        have := h p q hp1 hp2 hq1 hq2
        omega
      · left
        exact kf_nil_of (fun x hx hxc => hc ⟨x, hx, hxc⟩)
    conv => rhs; rw [e]
    unfold rotD
    simp only [kf_app]
    rcases key with k | k <;> rw [k] <;> simp
theorem rotD_left {α : Type} (d : α) {xs : List α} {m b : Nat} (h2 : m ≤ b) (h3 : b ≤ xs.length) : rotD xs m m b = xs := by
  apply extD d (rotD_len (Nat.le_refl _) h2 h3)
  intro i _
  rw [rotD_get d (Nat.le_refl _) h2 h3]
  split
  · rfl
  · split
    · congr 1; omega
    · split
      · omega
      · rfl
theorem rotD_right {α : Type} (d : α) {xs : List α} {a m : Nat} (h2 : a ≤ m) (h3 : m ≤ xs.length) : rotD xs a m m = xs := by
  apply extD d (rotD_len h2 (Nat.le_refl _) h3)
  intro i _
  rw [rotD_get d h2 (Nat.le_refl _) h3]
  split
  · rfl
  · split
    · omega
    · split
      · congr 1; omega
      · rfl

/-! ### Exchanges of two parts -/
def swR {α : Type} (d : α) (xs : List α) (a b : Nat) : Nat → List α
  | 0 => xs
  | n + 1 => swD d (swR d xs a b n) (a + n) (b + n)
theorem swR_len {α : Type} (d : α) (xs : List α) (a b : Nat) : ∀ n, (swR d xs a b n).length = xs.length
  | 0 => rfl
  | n + 1 => by rw [swR, swD_len, swR_len d xs a b n]
theorem swR_get {α : Type} (d : α) {xs : List α} {a b : Nat} : ∀ n, a + n ≤ b → b + n ≤ xs.length → ∀ q, (swR d xs a b n).getD q d = if a ≤ q ∧ q < a + n then xs.getD (b + (q - a)) d else if b ≤ q ∧ q < b + n then xs.getD (a + (q - b)) d else xs.getD q d
  | 0, _, _, q => by rw [if_neg (by omega), if_neg (by omega)]; rfl
  | n + 1, h1, h2, q => by
    have ih := swR_get d n (xs := xs) (a := a) (b := b) (by omega) (by omega)
    rw [swR, swD_get d (by rw [swR_len]; omega) (by rw [swR_len]; omega), ih, ih, ih]
    repeat' split
    all_goals first | omega | rfl | (congr 1 <;> omega)
theorem rot_more {α : Type} (d : α) {xs : List α} {m i j : Nat} (hi : i ≤ m) (hj : m + j ≤ xs.length) (h : j < i) : rotD (swR d xs (m - i) m j) (m - (i - j)) m (m + j) = rotD xs (m - i) m (m + j) := by
  have hl := swR_len d xs (m - i) m j
  apply extD d
  · rw [rotD_len (by omega) (by omega) (by omega), rotD_len (by omega) (by omega) (by omega), hl]
  · intro q _
    rw [rotD_get d (by omega) (by omega) (by omega), rotD_get d (by omega) (by omega) (by omega)]
    simp only [swR_get d j (show m - i + j ≤ m by omega) (show m + j ≤ xs.length from hj)]
    repeat' split
    all_goals first | omega | (congr 1 <;> omega)
theorem rot_less {α : Type} (d : α) {xs : List α} {m i j : Nat} (hi : i ≤ m) (hj : m + j ≤ xs.length) (h : i < j) : rotD (swR d xs (m - i) (m + j - i) i) (m - i) m (m + (j - i)) = rotD xs (m - i) m (m + j) := by
  have hl := swR_len d xs (m - i) (m + j - i) i
  apply extD d
  · rw [rotD_len (by omega) (by omega) (by omega), rotD_len (by omega) (by omega) (by omega), hl]
  · intro q _
    rw [rotD_get d (by omega) (by omega) (by omega), rotD_get d (by omega) (by omega) (by omega)]
    simp only [swR_get d i (show m - i + i ≤ m + j - i by omega) (show m + j - i + i ≤ xs.length by omega)]
    repeat' split
    all_goals first | omega | (congr 1 <;> omega)
theorem rot_same {α : Type} (d : α) {xs : List α} {m i : Nat} (hi : i ≤ m) (hj : m + i ≤ xs.length) : swR d xs (m - i) m i = rotD xs (m - i) m (m + i) := by
  have hl := swR_len d xs (m - i) m i
  apply extD d
  · rw [rotD_len (by omega) (by omega) (by omega), hl]
  · intro q _
    rw [rotD_get d (by omega) (by omega) (by omega), swR_get d i (show m - i + i ≤ m by omega) hj]
    repeat' split
    all_goals first | omega | (congr 1 <;> omega)

/-! ### The merge -/
/-- Of two sorted parts, what stands when the search has ended: the part from start on comes behind. -/
structure Fnd {α : Type} (d : α) (κ : α → Int) (p lo hi start : Nat) (xs : List α) : Prop where
  lo_le : lo ≤ start
  le_hi : start ≤ hi
  below : ∀ c, lo ≤ c → c < start → κ (xs.getD c d) ≤ κ (xs.getD (p - c) d)
  above : ∀ c, start ≤ c → c < hi → κ (xs.getD (p - c) d) < κ (xs.getD c d)

theorem sym_rot {α : Type} {d : α} {κ : α → Int} {a m b start : Nat} {xs : List α} (h1 : a < m) (h2 : m < b) (h3 : b ≤ xs.length) (s1 : SO d κ a m xs) (s2 : SO d κ m b xs)
    (hf : Fnd d κ ((a + b) / 2 + m - 1) (if m > (a + b) / 2 then (a + b) / 2 + m - b else a) (if m > (a + b) / 2 then (a + b) / 2 else m) start xs) :
    a ≤ start ∧ start ≤ m ∧ start ≤ (a + b) / 2 ∧ m ≤ (a + b) / 2 + m - start ∧ (a + b) / 2 + m - start ≤ b ∧
    SB d κ a b xs (rotD xs start m ((a + b) / 2 + m - start)) ∧
    SO d κ a start (rotD xs start m ((a + b) / 2 + m - start)) ∧ SO d κ start ((a + b) / 2) (rotD xs start m ((a + b) / 2 + m - start)) ∧
    SO d κ ((a + b) / 2) ((a + b) / 2 + m - start) (rotD xs start m ((a + b) / 2 + m - start)) ∧ SO d κ ((a + b) / 2 + m - start) b (rotD xs start m ((a + b) / 2 + m - start)) ∧
    ∀ p q, a ≤ p → p < (a + b) / 2 → (a + b) / 2 ≤ q → q < b → κ ((rotD xs start m ((a + b) / 2 + m - start)).getD p d) ≤ κ ((rotD xs start m ((a + b) / 2 + m - start)).getD q d) := by
  obtain ⟨mid, hmid⟩ : ∃ mid, mid = (a + b) / 2 := ⟨_, rfl⟩
  have hm1 : a < mid := by omega
  have hm2 : mid < b := by omega
  have hm3 : 2 * mid ≤ a + b := by omega
  have hm4 : a + b < 2 * mid + 2 := by omega
  rw [← hmid] at hf ⊢
  obtain ⟨hlo, hhi, hbel, habv⟩ := hf
  have bl : a ≤ start ∧ start ≤ m ∧ start ≤ mid ∧ mid + m - start ≤ b := by
    split at hlo <;> split at hhi <;> omega
  obtain ⟨b1, b2, b3, b4⟩ := bl
  have b5 : m ≤ mid + m - start := by omega
  obtain ⟨en, hen⟩ : ∃ en, en = mid + m - start := ⟨_, rfl⟩
  rw [← hen] at b4 b5 ⊢
  -- what stands in front of the rotated parts and behind them
  have hAB : ∀ p q, start ≤ p → p < m → m ≤ q → q < en → κ (xs.getD q d) < κ (xs.getD p d) := fun p q hp1 hp2 hq1 hq2 => by
    have hst : start < (if m > mid then mid else m) := by split <;> omega
    have h0 := habv start (Nat.le_refl _) hst
    have h4 := s1.le b1 hp1 hp2
    have h5 := s2.le (p := q) (q := mid + m - 1 - start) hq1 (by omega) (by omega)
    omega
  have hLR : ∀ p q, a ≤ p → p < start → en ≤ q → q < b → κ (xs.getD p d) ≤ κ (xs.getD q d) := fun p q hp1 hp2 hq1 hq2 => by
    have hst : (if m > mid then mid + m - b else a) ≤ start - 1 := by split <;> omega
    have h0 := hbel (start - 1) hst (by omega)
    rw [show mid + m - 1 - (start - 1) = en by omega] at h0
    have h4 := s1.le (p := p) (q := start - 1) hp1 (by omega) (by omega)
    have h5 := s2.le (p := en) (q := q) b5 hq1 hq2
    omega
  have g := rotD_get d (xs := xs) b2 b5 (by omega)
  have hsb := (rotD_SB (d := d) (κ := κ) b2 b5 (by omega) hAB).mono (a' := a) (b' := b) b1 b4
  have gA : ∀ q, q < start → (rotD xs start m en).getD q d = xs.getD q d := fun q hq => by rw [g, if_pos hq]
  have gB : ∀ q, start ≤ q → q < mid → (rotD xs start m en).getD q d = xs.getD (q - start + m) d := fun q h1 h2 => by rw [g, if_neg (by omega), if_pos (by omega)]
  have gC : ∀ q, mid ≤ q → q < en → (rotD xs start m en).getD q d = xs.getD (q - (en - m)) d := fun q h1 h2 => by rw [g, if_neg (by omega), if_neg (by omega), if_pos (by omega)]
  have gD : ∀ q, en ≤ q → (rotD xs start m en).getD q d = xs.getD q d := fun q h1 => by rw [g, if_neg (by omega), if_neg (by omega), if_neg (by omega)]
  refine ⟨b1, b2, b3, b5, b4, hsb, ?_, ?_, ?_, ?_, ?_⟩
  · intro p q hp hpq hq
    rw [gA p (by omega), gA q hq]; exact s1 p q hp hpq (by omega)
  · intro p q hp hpq hq
    rw [gB p hp (by omega), gB q (by omega) hq]; exact s2 _ _ (by omega) (by omega) (by omega)
  · intro p q hp hpq hq
    rw [gC p hp (by omega), gC q (by omega) hq]; exact s1 _ _ (by omega) (by omega) (by omega)
  · intro p q hp hpq hq
    rw [gD p hp, gD q (by omega)]; exact s2 _ _ (by omega) (by omega) (by omega)
  · intro p q hp1 hp2 hq1 hq2
    by_cases e1 : p < start
    · rw [gA p e1]
      by_cases e2 : q < en
      · rw [gC q hq1 e2]; exact s1 _ _ hp1 (by omega) (by omega)
      · rw [gD q (by omega)]; exact hLR p q hp1 e1 (by omega) hq2
    · rw [gB p (by omega) hp2]
      by_cases e2 : q < en
      · rw [gC q hq1 e2]; exact Int.le_of_lt (hAB _ _ (by omega) (by omega) (by omega) (by omega))
      · rw [gD q (by omega)]; exact s2 _ _ (by omega) (by omega) (by omega)

theorem sym_end {α : Type} {d : α} {κ : α → Int} {a mid b : Nat} {xs ys zs : List α} (h2 : a ≤ mid) (h3 : mid ≤ b) (hb : b ≤ xs.length)
    (hc : ∀ p q, a ≤ p → p < mid → mid ≤ q → q < b → κ (xs.getD p d) ≤ κ (xs.getD q d))
    (e1 : SB d κ a mid xs ys) (s1 : SO d κ a mid ys) (e2 : SB d κ mid b ys zs) (s2 : SO d κ mid b zs) : SB d κ a b xs zs ∧ SO d κ a b zs := by
  refine ⟨(e1.mono (Nat.le_refl _) h3).trans (e2.mono h2 (Nat.le_refl _)), SO.join (s1.same (fun q h4 h5 => e2.out q (.inl h5))) s2 (fun p q hp1 hp2 hq1 hq2 => ?_)⟩
  rw [e2.out p (.inl hp2)]
  obtain ⟨p', hp3, hp4, hp5⟩ := e1.mem (by omega) hp1 hp2
  obtain ⟨q', hq3, hq4, hq5⟩ := e2.mem (by rw [e1.len]; exact hb) hq1 hq2
  rw [hp5, hq5, e1.out q' (.inr hq3)]
  exact hc p' q' hp3 hp4 hq3 hq4

/-- One element moved up. -/
structure MvU {α : Type} (d : α) (κ : α → Int) (a k b : Nat) (xs zs : List α) : Prop where
  sb : SB d κ a b xs zs
  low : ∀ q, a ≤ q → q < k → zs.getD q d = xs.getD (q + 1) d
  at_ : zs.getD k d = xs.getD a d
  high : ∀ q, k < q → zs.getD q d = xs.getD q d
theorem MvU.start {α : Type} (d : α) (κ : α → Int) (a b : Nat) (xs : List α) : MvU d κ a a b xs xs := ⟨SB.refl .., fun q h1 h2 => by omega, rfl, fun q _ => rfl⟩
theorem MvU.step {α : Type} {d : α} {κ : α → Int} {a k b : Nat} {xs zs : List α} (h : MvU d κ a k b xs zs) (hak : a ≤ k) (hk : k + 1 < b) (hb : b ≤ xs.length) (hlt : κ (xs.getD (k + 1) d) < κ (xs.getD a d)) : MvU d κ a (k + 1) b xs (swD d zs k (k + 1)) := by
  have hl := h.sb.len
  have g := swD_get d (xs := zs) (i := k) (k := k + 1) (by omega) (by omega)
  refine ⟨h.sb.trans ((SB.adj (by omega) ?_).mono hak (by omega)), fun q h1 h2 => ?_, ?_, fun q hq => ?_⟩
  · rw [h.at_, h.high _ (by omega)]; omega
  · rw [g, if_neg (by omega)]
    by_cases e : q = k
    · rw [if_pos e, h.high _ (by omega), e]
    · rw [if_neg e, h.low q h1 (by omega)]
  · rw [g, if_pos rfl, h.at_]
  · rw [g, if_neg (by omega), if_neg (by omega), h.high q (by omega)]
theorem MvU.fin {α : Type} {d : α} {κ : α → Int} {a k b : Nat} {xs zs : List α} (h : MvU d κ a k b xs zs) (hak : a ≤ k) (hk : k < b) (s : SO d κ (a + 1) b xs)
    (h1 : ∀ q, a < q → q ≤ k → κ (xs.getD q d) < κ (xs.getD a d)) (h2 : ∀ q, k < q → q < b → κ (xs.getD a d) ≤ κ (xs.getD q d)) : SO d κ a b zs := fun p q hp hpq hq => by
  by_cases e1 : q < k
  · rw [h.low p hp (by omega), h.low q (by omega) e1]; exact s _ _ (by omega) (by omega) (by omega)
  · by_cases e2 : q = k
    · rw [e2, h.at_, h.low p hp (by omega)]; exact Int.le_of_lt (h1 _ (by omega) (by omega))
    · rw [h.high q (by omega)]
      by_cases e3 : p < k
      · rw [h.low p hp e3]; exact s _ _ (by omega) (by omega) hq
      · by_cases e4 : p = k
        · rw [e4, h.at_]; exact h2 q (by omega) hq
        · rw [h.high p (by omega)]; exact s _ _ (by omega) hpq hq
/-- One element moved down. -/
structure MvD {α : Type} (d : α) (κ : α → Int) (a k m b : Nat) (xs zs : List α) : Prop where
  sb : SB d κ a b xs zs
  low : ∀ q, q < k → zs.getD q d = xs.getD q d
  at_ : zs.getD k d = xs.getD m d
  high : ∀ q, k < q → q ≤ m → zs.getD q d = xs.getD (q - 1) d
theorem MvD.start {α : Type} (d : α) (κ : α → Int) (a m b : Nat) (xs : List α) : MvD d κ a m m b xs xs := ⟨SB.refl .., fun q _ => rfl, rfl, fun q h1 h2 => by omega⟩
theorem MvD.step {α : Type} {d : α} {κ : α → Int} {a k m b : Nat} {xs zs : List α} (h : MvD d κ a (k + 1) m b xs zs) (hak : a ≤ k) (hk : k + 1 ≤ m) (hm : m < b) (hb : b ≤ xs.length) (hlt : κ (xs.getD m d) < κ (xs.getD k d)) : MvD d κ a k m b xs (swD d zs (k + 1) k) := by
  have hl := h.sb.len
  have g := swD_get d (xs := zs) (i := k + 1) (k := k) (by omega) (by omega)
  have e : swD d zs (k + 1) k = swD d zs k (k + 1) := by
    apply extD d (by rw [swD_len, swD_len])
    intro q _
    rw [g, swD_get d (xs := zs) (i := k) (k := k + 1) (by omega) (by omega)]
    by_cases e1 : q = k
    · rw [if_pos e1, if_neg (by omega), if_pos e1]
    · rw [if_neg e1]
      by_cases e2 : q = k + 1
      · rw [if_pos e2, if_pos e2]
      · rw [if_neg e2, if_neg e2, if_neg e1]
  refine ⟨?_, fun q hq => ?_, ?_, fun q h1 h2 => ?_⟩
  · rw [e]
    refine h.sb.trans ((SB.adj (by omega) ?_).mono hak (by omega))
    rw [h.at_, h.low _ (by omega)]; omega
  · rw [g, if_neg (by omega), if_neg (by omega), h.low q (by omega)]
  · rw [g, if_pos rfl, h.at_]
  · rw [g, if_neg (by omega)]
    by_cases e : q = k + 1
    · rw [if_pos e, h.low _ (by omega), e]; rfl
    · rw [if_neg e, h.high q (by omega) h2]
theorem MvD.fin {α : Type} {d : α} {κ : α → Int} {a k m : Nat} {xs zs : List α} (h : MvD d κ a k m (m + 1) xs zs) (hak : a ≤ k) (hk : k ≤ m) (s : SO d κ a m xs)
    (h1 : ∀ q, a ≤ q → q < k → κ (xs.getD q d) ≤ κ (xs.getD m d)) (h2 : ∀ q, k ≤ q → q < m → κ (xs.getD m d) < κ (xs.getD q d)) : SO d κ a (m + 1) zs := fun p q hp hpq hq => by
  by_cases e1 : q < k
  · rw [h.low p (by omega), h.low q e1]; exact s _ _ hp hpq (by omega)
  · by_cases e2 : q = k
    · rw [e2, h.at_, h.low p (by omega)]; exact h1 p hp (by omega)
    · rw [h.high q (by omega) (by omega)]
      by_cases e3 : p < k
      · rw [h.low p e3]
        exact s _ _ hp (by omega) (by omega)
      · by_cases e4 : p = k
        · rw [e4, h.at_]; exact Int.le_of_lt (h2 _ (by omega) (by omega))
        · rw [h.high p (by omega) (by omega)]; exact s _ _ (by omega) (by omega) (by omega)

/-! ### Insertion -/
/-- Sorted from a to i, the element at j aside. -/
def IP {α : Type} (d : α) (κ : α → Int) (a i j : Nat) (xs : List α) : Prop := ∀ p q, a ≤ p → p < q → q ≤ i → q ≠ j → κ (xs.getD p d) ≤ κ (xs.getD q d)
theorem IP.start {α : Type} {d : α} {κ : α → Int} {a i : Nat} {xs : List α} (h : SO d κ a i xs) : IP d κ a i i xs := fun p q hp hpq hq hn => h p q hp hpq (by omega)
theorem IP.step {α : Type} {d : α} {κ : α → Int} {a i k : Nat} {xs : List α} (h : IP d κ a i (k + 1) xs) (hi : i < xs.length) (hk : k + 1 ≤ i) (ha : a ≤ k) (hlt : κ (xs.getD (k + 1) d) < κ (xs.getD k d)) : IP d κ a i k (swD d xs (k + 1) k) := fun p q hp hpq hq hn => by
  rw [swD_get d (by omega) (by omega), swD_get d (by omega) (by omega)]
  by_cases e1 : p = k
  · rw [if_pos e1, if_neg hn]
    by_cases e2 : q = k + 1
    · rw [if_pos e2]; omega
    · rw [if_neg e2]; have := h k q (by omega) (by omega) hq e2; omega
  · rw [if_neg e1]
    by_cases e2 : p = k + 1
    · rw [if_pos e2, if_neg (by omega), if_neg (by omega)]; exact h k q (by omega) (by omega) hq (by omega)
    · rw [if_neg e2, if_neg hn]
      by_cases e3 : q = k + 1
      · rw [if_pos e3]; exact h p k hp (by omega) (by omega) (by omega)
      · rw [if_neg e3]; exact h p q hp hpq hq e3
theorem IP.fin {α : Type} {d : α} {κ : α → Int} {a i j : Nat} {xs : List α} (h : IP d κ a i j xs) (hj : j ≤ i) (hj2 : j = a ∨ κ (xs.getD (j - 1) d) ≤ κ (xs.getD j d)) (ha : a ≤ j) : SO d κ a (i + 1) xs := fun p q hp hpq hq => by
  by_cases e : q = j
  · subst e
    rcases hj2 with h0 | h0
    · omega
    · by_cases e2 : p = q - 1
      · subst e2; exact h0
      · have := h p (q - 1) hp (by omega) (by omega) (by omega); omega
  · exact h p q hp hpq (by omega) e
theorem SB.swpD {α : Type} {d : α} {κ : α → Int} {a b k : Nat} {xs ys : List α} (h : SB d κ a b xs ys) (hk : k + 1 < b) (hb : b ≤ xs.length) (ha : a ≤ k) (hlt : κ (ys.getD (k + 1) d) < κ (ys.getD k d)) : SB d κ a b xs (swD d ys (k + 1) k) := by
  have hl := h.len
  have e : swD d ys (k + 1) k = swD d ys k (k + 1) := by
    apply extD d (by rw [swD_len, swD_len])
    intro q _
    rw [swD_get d (by omega) (by omega), swD_get d (by omega) (by omega)]
    by_cases e1 : q = k
    · rw [if_pos e1, if_neg (by omega), if_pos e1]
    · rw [if_neg e1]
      by_cases e2 : q = k + 1
      · rw [if_pos e2, if_pos e2]
      · rw [if_neg e2, if_neg e2, if_neg e1]
  rw [e]
  exact h.trans ((SB.adj (by omega) (by omega)).mono ha (by omega))
/-- All elements keep a property. -/
theorem SB.oks {α : Type} {d : α} {κ : α → Int} {a b : Nat} {xs ys : List α} (h : SB d κ a b xs ys) (hb : b ≤ xs.length) {ok : α → Prop} (hok : ∀ i, i < xs.length → ok (xs.getD i d)) : ∀ i, i < ys.length → ok (ys.getD i d) := fun i hi => by
  rw [h.len] at hi
  by_cases e : a ≤ i ∧ i < b
  · obtain ⟨q, h1, h2, h3⟩ := h.mem hb e.1 e.2
    rw [h3]; exact hok q (by omega)
  · rw [h.out i (by omega)]; exact hok i hi

/-! ### Searches -/
/-- Where the element at a goes among those from m to b: all before i are less, none from j on is. -/
structure S1 {α : Type} (d : α) (κ : α → Int) (a m b i j : Nat) (xs : List α) : Prop where
  mi : m ≤ i
  ij : i ≤ j
  jb : j ≤ b
  lo : ∀ q, m ≤ q → q < i → κ (xs.getD q d) < κ (xs.getD a d)
  hi : ∀ q, j ≤ q → q < b → κ (xs.getD a d) ≤ κ (xs.getD q d)
theorem S1.up {α : Type} {d : α} {κ : α → Int} {a m b i j h : Nat} {xs : List α} (s : S1 d κ a m b i j xs) (so : SO d κ m b xs) (h1 : i ≤ h) (h2 : h < j) (hlt : κ (xs.getD h d) < κ (xs.getD a d)) : S1 d κ a m b (h + 1) j xs :=
  ⟨by have := s.mi; omega, by omega, s.jb, fun q h3 h4 => by have := so.le h3 (show q ≤ h by omega) (by have := s.jb; omega); omega, s.hi⟩
theorem S1.down {α : Type} {d : α} {κ : α → Int} {a m b i j h : Nat} {xs : List α} (s : S1 d κ a m b i j xs) (so : SO d κ m b xs) (h1 : i ≤ h) (h2 : h < j) (hlt : ¬ κ (xs.getD h d) < κ (xs.getD a d)) : S1 d κ a m b i h xs :=
  ⟨s.mi, h1, by have := s.jb; omega, s.lo, fun q h3 h4 => by have := so.le (show m ≤ h by have := s.mi; omega) h3 h4; omega⟩
/-- Where the element at m goes among those from a to m: none before i is greater, all from j on are. -/
structure S2 {α : Type} (d : α) (κ : α → Int) (a m i j : Nat) (xs : List α) : Prop where
  ai : a ≤ i
  ij : i ≤ j
  jm : j ≤ m
  lo : ∀ q, a ≤ q → q < i → κ (xs.getD q d) ≤ κ (xs.getD m d)
  hi : ∀ q, j ≤ q → q < m → κ (xs.getD m d) < κ (xs.getD q d)
theorem S2.up {α : Type} {d : α} {κ : α → Int} {a m i j h : Nat} {xs : List α} (s : S2 d κ a m i j xs) (so : SO d κ a m xs) (h1 : i ≤ h) (h2 : h < j) (hlt : ¬ κ (xs.getD m d) < κ (xs.getD h d)) : S2 d κ a m (h + 1) j xs :=
  ⟨by have := s.ai; omega, by omega, s.jm, fun q h3 h4 => by have := so.le h3 (show q ≤ h by omega) (by have := s.jm; omega); omega, s.hi⟩
theorem S2.down {α : Type} {d : α} {κ : α → Int} {a m i j h : Nat} {xs : List α} (s : S2 d κ a m i j xs) (so : SO d κ a m xs) (h1 : i ≤ h) (h2 : h < j) (hlt : κ (xs.getD m d) < κ (xs.getD h d)) : S2 d κ a m i h xs :=
  ⟨s.ai, h1, by have := s.jm; omega, s.lo, fun q h3 h4 => by have := so.le (show a ≤ h by have := s.ai; omega) h3 h4; omega⟩
/-- The search of the merge. -/
structure S3 {α : Type} (d : α) (κ : α → Int) (p lo hi i j : Nat) (xs : List α) : Prop where
  li : lo ≤ i
  ij : i ≤ j
  jh : j ≤ hi
  below : ∀ c, lo ≤ c → c < i → κ (xs.getD c d) ≤ κ (xs.getD (p - c) d)
  above : ∀ c, j ≤ c → c < hi → κ (xs.getD (p - c) d) < κ (xs.getD c d)
/-- The bounds of the search. -/
structure SL {α : Type} (d : α) (κ : α → Int) (a m b p lo hi : Nat) (xs : List α) : Prop where
  lohi : lo ≤ hi
  alo : a ≤ lo
  him : hi ≤ m
  plo : p < b + lo
  phi : ∀ c, c < hi → m ≤ p - c ∧ c ≤ p
  s1 : SO d κ a m xs
  s2 : SO d κ m b xs
theorem S3.up {α : Type} {d : α} {κ : α → Int} {a m b p lo hi i j h : Nat} {xs : List α} (s : S3 d κ p lo hi i j xs) (l : SL d κ a m b p lo hi xs) (h1 : i ≤ h) (h2 : h < j) (hlt : ¬ κ (xs.getD (p - h) d) < κ (xs.getD h d)) : S3 d κ p lo hi (h + 1) j xs := by
  obtain ⟨l1, l2, l3, l4, l5, l6, l7⟩ := l
  obtain ⟨t1, t2, t3, t4, t5⟩ := s
  refine ⟨by omega, by omega, t3, fun c h3 h4 => ?_, t5⟩
  have e1 := l6.le (show a ≤ c by omega) (show c ≤ h by omega) (by omega)
  have e3 := l5 h (by omega)
  have e2 := l7.le e3.1 (show p - h ≤ p - c by omega) (by omega)
  omega
theorem S3.down {α : Type} {d : α} {κ : α → Int} {a m b p lo hi i j h : Nat} {xs : List α} (s : S3 d κ p lo hi i j xs) (l : SL d κ a m b p lo hi xs) (h1 : i ≤ h) (h2 : h < j) (hlt : κ (xs.getD (p - h) d) < κ (xs.getD h d)) : S3 d κ p lo hi i h xs := by
  obtain ⟨l1, l2, l3, l4, l5, l6, l7⟩ := l
  obtain ⟨t1, t2, t3, t4, t5⟩ := s
  refine ⟨by omega, by omega, by omega, t4, fun c h3 h4 => ?_⟩
  have e1 := l6.le (show a ≤ h by omega) h3 (by omega)
  have e3 := l5 c h4
  have e2 := l7.le e3.1 (show p - c ≤ p - h by omega) (by omega)
  omega
theorem S3.fin {α : Type} {d : α} {κ : α → Int} {p lo hi i : Nat} {xs : List α} (s : S3 d κ p lo hi i i xs) : Fnd d κ p lo hi i xs := ⟨s.li, s.jh, s.below, s.above⟩
theorem SL.mk' {α : Type} {d : α} {κ : α → Int} {a m b : Nat} {xs : List α} (h1 : a < m) (h2 : m < b) (s1 : SO d κ a m xs) (s2 : SO d κ m b xs) :
    SL d κ a m b ((a + b) / 2 + m - 1) (if m > (a + b) / 2 then (a + b) / 2 + m - b else a) (if m > (a + b) / 2 then (a + b) / 2 else m) xs := by
  refine ⟨?_, ?_, ?_, ?_, fun c hc => ?_, s1, s2⟩
  · split <;> omega
  · split <;> omega
  · split <;> omega
  · split <;> omega
  · split at hc <;> omega

/-! ### The blocks -/
/-- Every block of size s is sorted. -/
def BL {α : Type} (d : α) (κ : α → Int) (s n : Nat) (xs : List α) : Prop := ∀ t, s ∣ t → SO d κ t (min (t + s) n) xs
/-- The blocks of size 2 s up to a, and those of size s behind. -/
structure BM {α : Type} (d : α) (κ : α → Int) (s n a : Nat) (xs zs : List α) : Prop where
  sb : SB d κ 0 n xs zs
  dv : 2 * s ∣ a
  lo : ∀ t, 2 * s ∣ t → t < a → SO d κ t (min (t + 2 * s) n) zs
  hi : ∀ t, s ∣ t → a ≤ t → SO d κ t (min (t + s) n) zs
theorem dvd_gap {s t a : Nat} (h1 : s ∣ t) (h2 : s ∣ a) (h : t < a) : t + s ≤ a := by
  have h3 : s ∣ a - t := Nat.dvd_sub h2 h1
  have := Nat.le_of_dvd (by omega) h3
  omega
theorem dvd2 {s t : Nat} (h : 2 * s ∣ t) : s ∣ t := Nat.dvd_trans (Nat.dvd_mul_left s 2) h
/-- The blocks of size s up to a are sorted. -/
structure BI {α : Type} (d : α) (κ : α → Int) (s n a : Nat) (xs zs : List α) : Prop where
  sb : SB d κ 0 n xs zs
  dv : s ∣ a
  le : a ≤ n
  lo : ∀ t, s ∣ t → t < a → SO d κ t (t + s) zs
theorem BI.start {α : Type} (d : α) (κ : α → Int) (s n : Nat) (xs : List α) : BI d κ s n 0 xs xs := ⟨SB.refl .., Nat.dvd_zero _, by omega, fun t _ ht => by omega⟩
theorem BI.step {α : Type} {d : α} {κ : α → Int} {s n a : Nat} {xs zs ws : List α} (h : BI d κ s n a xs zs) (hs : 0 < s) (ha : a + s ≤ n) (e : SB d κ a (a + s) zs ws) (so : SO d κ a (a + s) ws) : BI d κ s n (a + s) xs ws := by
  refine ⟨h.sb.trans (e.mono (by omega) ha), Nat.dvd_add h.dv (Nat.dvd_refl _), ha, fun t ht hta => ?_⟩
  by_cases e1 : t = a
  · subst e1; exact so
  · have hta2 : t < a := by
      rcases Nat.lt_or_ge t a with h1 | h1
      · exact h1
      · have := dvd_gap h.dv ht (by omega); omega
    have := dvd_gap ht h.dv hta2
    exact (h.lo t ht hta2).same (fun q h1 h2 => e.out q (by omega))
theorem BI.fin {α : Type} {d : α} {κ : α → Int} {s n a : Nat} {xs zs ws : List α} (h : BI d κ s n a xs zs) (ha : n < a + s) (e : SB d κ a n zs ws) (so : SO d κ a n ws) : SB d κ 0 n xs ws ∧ BL d κ s n ws := by
  refine ⟨h.sb.trans (e.mono (by omega) (Nat.le_refl _)), fun t ht => ?_⟩
  by_cases e1 : t < a
  · have := dvd_gap ht h.dv e1
    exact ((h.lo t ht e1).mono (Nat.le_refl _) (by omega)).same (fun q h1 h2 => e.out q (by omega))
  · exact so.mono (by omega) (by omega)
theorem BM.start {α : Type} {d : α} {κ : α → Int} {s n : Nat} {xs zs : List α} (h : SB d κ 0 n xs zs) (hb : BL d κ s n zs) : BM d κ s n 0 xs zs := ⟨h, Nat.dvd_zero _, fun t _ ht => by omega, fun t ht _ => hb t ht⟩
theorem BM.step {α : Type} {d : α} {κ : α → Int} {s n a : Nat} {xs zs ws : List α} (h : BM d κ s n a xs zs) (hs : 0 < s) (hn : n ≤ xs.length) (ha : a + s < n) (e : SB d κ a (min (a + 2 * s) n) zs ws) (so : SO d κ a (min (a + 2 * s) n) ws) : BM d κ s n (a + 2 * s) xs ws := by
  refine ⟨h.sb.trans (e.mono (by omega) (by omega)), Nat.dvd_add h.dv (Nat.dvd_refl _), fun t ht hta => ?_, fun t ht hta => ?_⟩
  · by_cases e1 : t = a
    · subst e1; exact so
    · have hta2 : t < a := by
        rcases Nat.lt_or_ge t a with h1 | h1
        · exact h1
        · have := dvd_gap h.dv ht (by omega); omega
      have := dvd_gap ht h.dv hta2
      exact (h.lo t ht hta2).same (fun q h1 h2 => e.out q (by omega))
  · exact (h.hi t ht (by omega)).same (fun q h1 h2 => e.out q (by omega))
theorem BM.left {α : Type} {d : α} {κ : α → Int} {s n a : Nat} {xs zs : List α} (h : BM d κ s n a xs zs) (ha : a + s ≤ n) : SO d κ a (a + s) zs := by
  have := h.hi a (dvd2 h.dv) (Nat.le_refl _)
  rwa [Nat.min_eq_left ha] at this
theorem BM.right {α : Type} {d : α} {κ : α → Int} {s n a : Nat} {xs zs : List α} (h : BM d κ s n a xs zs) : SO d κ (a + s) (min (a + 2 * s) n) zs := by
  have := h.hi (a + s) (Nat.dvd_add (dvd2 h.dv) (Nat.dvd_refl _)) (by omega)
  rwa [show a + s + s = a + 2 * s by omega] at this
theorem BM.fin {α : Type} {d : α} {κ : α → Int} {s n a : Nat} {xs zs : List α} (h : BM d κ s n a xs zs) (ha : n ≤ a + s) : BL d κ (2 * s) n zs := fun t ht => by
  by_cases e1 : t < a
  · exact h.lo t ht e1
  · have h1 := h.hi t (dvd2 ht) (by omega)
    exact h1.mono (Nat.le_refl _) (by omega)
theorem BL.fin {α : Type} {d : α} {κ : α → Int} {s n : Nat} {zs : List α} (h : BL d κ s n zs) (hn : n ≤ s) : SO d κ 0 n zs := by
  have := h 0 (Nat.dvd_zero _)
  rwa [Nat.zero_add, Nat.min_eq_right hn] at this
end Go.Proofs.Ytfkokcmnmmfcbaa
