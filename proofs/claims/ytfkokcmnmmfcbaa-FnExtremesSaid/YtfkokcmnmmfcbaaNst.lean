/- AX: rows of rows, a symbolic number of them: what a heap says of them, and how contracts on them are lifted. -/
import Derived.Test.YtfkokcmnmmfcbaaLaw
set_option linter.unusedSimpArgs false
set_option linter.unusedVariables false
set_option linter.unusedSectionVars false
namespace Go.Proofs.Ytfkokcmnmmfcbaa
open Go Go.Ax
set_option maxRecDepth 10000
set_option maxHeartbeats 1000000

abbrev tSS (h L : Nat) : TV := .a (.c (.sl 1 h 0 L))
abbrev aSS (h L : Nat) : AV := .c (.sl 1 h 0 L)
abbrev rwI (o : Bool) (xs : List Int) : Row := .r o (.ints .i64 xs)

/-- The cells of a slice of slices that lie at b, b + 1, ... -/
def nsC : Nat → List (List Int) → List C
  | _, [] => []
  | b, x :: xss => .sl 1 b 0 x.length :: nsC (b + 1) xss
theorem nsC_len : ∀ (b : Nat) (xss : List (List Int)), (nsC b xss).length = xss.length
  | _, [] => rfl
  | b, x :: xss => by simp [nsC, nsC_len (b + 1) xss]
theorem nsC_get : ∀ (b : Nat) (xss : List (List Int)) (i : Nat), (nsC b xss)[i]? = (xss[i]?).map fun x => .sl 1 (b + i) 0 x.length
  | _, [], i => by simp [nsC]
  | b, x :: xss, 0 => by simp [nsC]
  | b, x :: xss, i + 1 => by
    simp only [nsC, List.getElem?_cons_succ]
    rw [nsC_get (b + 1) xss i, show b + 1 + i = b + (i + 1) by omega]
theorem nsC_at {b : Nat} {xss : List (List Int)} {i : Nat} {x : List Int} (h : xss[i]? = some x) : (nsC b xss)[i]? = some (.sl 1 (b + i) 0 x.length) := by rw [nsC_get, h]; rfl
theorem nsC_app : ∀ (b : Nat) (xss yss : List (List Int)), nsC b (xss ++ yss) = nsC b xss ++ nsC (b + xss.length) yss
  | b, [], yss => by simp [nsC]
  | b, x :: xss, yss => by
    simp only [List.cons_append, nsC, List.length_cons]
    rw [nsC_app (b + 1) xss yss, show b + 1 + xss.length = b + (xss.length + 1) by omega]

/-- The group's own rows. -/
def nst (o o' : Bool) (b : Nat) (xss : List (List Int)) : Hp := .r o (.cells 1 (nsC (b + 1) xss)) :: xss.map (rwI o')
theorem nst_len (o o' : Bool) (b : Nat) (xss : List (List Int)) : (nst o o' b xss).length = xss.length + 1 := by simp [nst]

/-- What a heap says of a group at c. -/
structure Nst (o o' : Bool) (G : Hp) (c : Nat) (xss : List (List Int)) : Prop where
  cells : G[c]? = some (.r o (.cells 1 (nsC (c + 1) xss)))
  rows : ∀ (i : Nat) x, xss[i]? = some x → G[c + 1 + i]? = some (rwI o' x)

theorem getlt {G : Hp} {h : Nat} {r : Row} (e : G[h]? = some r) : h < G.length := by
  rcases Nat.lt_or_ge h G.length with h' | h'
  · exact h'
  · rw [List.getElem?_eq_none h'] at e; cases e
theorem Nst.lt {o o' : Bool} {G : Hp} {c : Nat} {xss : List (List Int)} (h : Nst o o' G c xss) : c + xss.length < G.length := by
  rcases Nat.eq_zero_or_pos xss.length with h0 | h0
  · have := getlt h.cells; omega
  · have h1 := h.rows (xss.length - 1) xss[xss.length - 1] (List.getElem?_eq_getElem (by omega))
    have := getlt h1; omega
theorem Nst.at (o o' : Bool) (A B : Hp) (xss : List (List Int)) : Nst o o' (A ++ (nst o o' A.length xss ++ B)) A.length xss := by
  constructor
  · rw [List.getElem?_append_right (Nat.le_refl _), Nat.sub_self]; rfl
  · intro i x hx
    have hi : i < xss.length := by
      rcases Nat.lt_or_ge i xss.length with h' | h'
      · exact h'
      · rw [List.getElem?_eq_none h'] at hx; cases hx
    rw [List.getElem?_append_right (by omega), List.getElem?_append_left (by rw [nst_len]; omega), show A.length + 1 + i - A.length = i + 1 by omega]
    simp only [nst, List.getElem?_cons_succ, List.getElem?_map, hx]; rfl
/-- All that a heap says, another says too. -/
def Ext (G G' : Hp) : Prop := ∀ (h : Nat) r, G[h]? = some r → G'[h]? = some r
theorem Ext.app (G X : Hp) : Ext G (G ++ X) := fun h r e => by rw [List.getElem?_append_left (getlt e)]; exact e
theorem Ext.trans {A B D : Hp} (h : Ext A B) (h' : Ext B D) : Ext A D := fun i r e => h' i r (h i r e)
theorem Nst.ext {o o' : Bool} {G G' : Hp} {c : Nat} {xss : List (List Int)} (h : Nst o o' G c xss) (he : Ext G G') : Nst o o' G' c xss := ⟨he _ _ h.cells, fun i x hx => he _ _ (h.rows i x hx)⟩

theorem lkp {G : Hp} {X : Hp} {h : Nat} {r : Row} (e : G[h]? = some r) : (G ++ X)[h]? = some r := Ext.app G X h r e
theorem lkn (G : Hp) (r : Row) : (G ++ [r])[G.length]? = some r := by rw [List.getElem?_append_right (Nat.le_refl _), Nat.sub_self]; rfl
theorem lks {G : Hp} {h j : Nat} {r r' : Row} (e : G[h]? = some r) (hj : j ≠ h) : (G.set j r')[h]? = some r := by rw [List.getElem?_set_ne hj]; exact e
abbrev cR (cs : List C) : Row := .r true (.cells 1 cs)
abbrev cSl (h n : Nat) : C := .sl 1 h 0 n
theorem sameFrom_of {ms : List Nat} : ∀ {i : Nat} {H1 H : Hp}, H1.length ≤ H.length → (∀ k, k < H1.length → i + k ∈ ms ∨ H[k]? = H1[k]?) → sameFrom ms i H1 H
  | _, [], _, _, _ => trivial
  | i, r :: H1, [], hl, _ => by simp at hl
  | i, r :: H1, r' :: H, hl, h => by
    refine ⟨?_, sameFrom_of (by simpa using hl) fun k hk => ?_⟩
    · have := h 0 (by simp)
      simpa using this
    · have := h (k + 1) (by simpa using hk)
      rw [show i + 1 + k = i + (k + 1) by omega]
      simpa using this
theorem sameFrom_refl (ms : List Nat) (i : Nat) (H : Hp) : sameFrom ms i H H := sameFrom_of (Nat.le_refl _) fun _ _ => .inr rfl
theorem sameFrom_app (ms : List Nat) (i : Nat) (H X : Hp) : sameFrom ms i H (H ++ X) := sameFrom_of (by simp) fun k hk => .inr (by rw [List.getElem?_append_left hk])
theorem sameFrom_set {ms : List Nat} {h : Nat} (H : Hp) (r : Row) (hm : h ∈ ms) : sameFrom ms 0 H (H.set h r) := sameFrom_of (by simp) fun k hk => by
  by_cases e : h = k
  · subst e; left; simpa using hm
  · right; rw [List.getElem?_set_ne e]

/-! ### Lists of handles -/

theorem rowsLe_of {ρ : List Nat} {H : Hp} : ∀ {hs : List Nat} {rows : Hp}, hs.length = rows.length → (∀ (i h : Nat) row, hs[i]? = some h → rows[i]? = some row → rowLe ρ row H[h]?) → rowsLe ρ H hs rows
  | [], [], _, _ => trivial
  | h :: hs, r :: rows, hl, hp => ⟨hp 0 h r (by simp) (by simp), rowsLe_of (by simpa using hl) fun i h' row h1 h2 => hp (i + 1) h' row (by simpa using h1) (by simpa using h2)⟩
  | [], _ :: _, hl, _ => by simp at hl
  | _ :: _, [], hl, _ => by simp at hl

theorem putBack_ro (ρ : List Nat) : ∀ (H H' : Hp) (hs : List Nat) (G : Hp), (∀ r ∈ H, r.own = false) → putBack ρ H H' hs G = G
  | r :: H, r' :: H', h :: hs, G, hr => by
    rw [putBack, if_neg (by rw [hr r (by simp)]; simp)]
    exact putBack_ro ρ H H' hs G fun x hx => hr x (by simp [hx])
  | [], _, _, _, _ => by simp [putBack]
  | _ :: _, [], _, _, _ => by simp [putBack]
  | _ :: _, _ :: _, [], _, _ => by simp [putBack]

theorem ownIn_app : ∀ {H X : Hp}, (∀ r ∈ X, r.own = true) → ownIn H (H ++ X)
  | [], [], _ => trivial
  | [], x :: X, h => ⟨.inr (h x (by simp)), ownIn_app (H := []) (X := X) fun r hr => h r (by simp [hr])⟩
  | r :: H, X, h => ⟨fun ho => .inr ho, ownIn_app h⟩

/-- A reading call's contract, in any heap that has its rows; what it makes comes to the end. -/
theorem ACalls.liftN {P : Program} {k : FuncId} {args gargs : List TV} {H G : Hp} {t0 : TV} {X : Hp} (hl : ACalls P k args [] H (fun t H' => t = t0 ∧ H' = H ++ X)) (ρ : List Nat)
    (hro : ∀ r ∈ H, r.own = false) (hX : ∀ r ∈ X, r.own = true) (hnd : ρ.Nodup) (hlen : ρ.length = H.length)
    (hrow : ∀ (i h : Nat) row, ρ[i]? = some h → H[i]? = some row → h < G.length ∧ rowLe ρ row G[h]?) (hargs : gargs = args.map (TV.ren ρ)) (hhs : ∀ t ∈ args, ∀ h ∈ t.hs, h < ρ.length) :
    ACalls P k gargs [] G (fun t G' => t = t0.ren (ρ ++ freshR G.length X) ∧ G' = G ++ X.map (Row.ren (ρ ++ freshR G.length X))) := by
  refine hl.lift ρ hnd (fun h hh => ?_) (rowsLe_of hlen fun i h row h1 h2 => (hrow i h row h1 h2).2) hargs hhs rfl ?_
  · obtain ⟨i, hi, rfl⟩ := List.mem_iff_getElem.1 hh
    exact (hrow i _ H[i] (List.getElem?_eq_getElem hi) (List.getElem?_eq_getElem (by omega))).1
  · rintro t H' ⟨rfl, rfl⟩
    refine ⟨ownIn_app hX, ?_, ?_⟩
    · simp only [liftT, List.drop_left]
    · simp only [liftH, List.drop_left]
      rw [putBack_ro _ _ _ _ _ hro]

theorem pb_val {ρ' ρ : List Nat} {H H' G : Hp} {i g : Nat} {r r' : Row} (hnd : ρ.Nodup) (h1 : ρ[i]? = some g) (h2 : H[i]? = some r) (ho : r.own = true) (h3 : H'[i]? = some r') (hg : g < G.length) : (putBack ρ' H H' ρ G)[g]? = some (r'.ren ρ') := by
  have hl := pb_len ρ' H H' ρ G
  have he := List.getElem?_eq_getElem (l := putBack ρ' H H' ρ G) (i := g) (by omega)
  rcases pb_get ρ' H H' ρ G g _ he with ⟨i', r1, r1', e1, e2, e3, e4, e5⟩ | ⟨e1, e2⟩
  · have hil : i' < ρ.length := by
      rcases Nat.lt_or_ge i' ρ.length with h' | h'
      · exact h'
      · rw [List.getElem?_eq_none h'] at e1; cases e1
    have : i' = i := (List.getElem?_inj hil hnd).1 (e1.trans h1.symm)
    subst this
    rw [h3] at e4; cases e4
    rw [he, e5]
  · have := e1 i r r' h1 h2 h3
    rw [ho] at this; cases this
theorem pb_keep {ρ' ρ : List Nat} {H H' G : Hp} {g : Nat} (hn : ∀ (i : Nat) r, ρ[i]? = some g → H[i]? = some r → r.own = false) : (putBack ρ' H H' ρ G)[g]? = G[g]? := by
  have hl := pb_len ρ' H H' ρ G
  rcases Nat.lt_or_ge g G.length with hg | hg
  · have he := List.getElem?_eq_getElem (l := putBack ρ' H H' ρ G) (i := g) (by omega)
    rcases pb_get ρ' H H' ρ G g _ he with ⟨i', r1, r1', e1, e2, e3, e4, e5⟩ | ⟨e1, e2⟩
    · have := hn i' r1 e1 e2
      rw [e3] at this; cases this
    · rw [he, e2]
  · rw [List.getElem?_eq_none (by omega), List.getElem?_eq_none hg]

/-! ### States that stay as they are -/

def slId (N : Nat) (f : F) : F → Prop
  | [] => True
  | (k, t) :: l => (get f k = some t ∧ ∀ h ∈ t.hs, h < N) ∧ slId N f l
theorem C.ren_id {N : Nat} {c : C} (h : ∀ x ∈ c.hs, x < N) : c.ren (List.range N) = c := by
  have key : ∀ x, x < N → (List.range N).getD x 0 = x := fun x hx => by simp [List.getD, hx]
  cases c with
  | any => rfl
  | v x => rfl
  | sl e g o n => simp only [C.ren]; rw [key g (h g (by simp [C.hs]))]
  | ptr g i s => simp only [C.ren]; rw [key g (h g (by simp [C.hs]))]
  | fn f cs =>
    simp only [C.ren]
    congr 1
    refine (List.map_congr_left fun x hx => ?_).trans (List.map_id _)
    rw [key x.1 (h x.1 (by simp only [C.hs, List.mem_map]; exact ⟨x, hx, rfl⟩))]; rfl
theorem AV.ren_id {N : Nat} {c : AV} (h : ∀ x ∈ c.hs, x < N) : c.ren (List.range N) = c := by
  cases c with
  | c x => simp only [AV.ren]; rw [C.ren_id h]
  | agg xs =>
    simp only [AV.ren]
    congr 1
    refine (List.map_congr_left fun x hx => ?_).trans (List.map_id _)
    exact C.ren_id fun y hy => h y (by simp only [AV.hs, List.mem_flatMap]; exact ⟨x, hx, hy⟩)
theorem TV.ren_id {N : Nat} {c : TV} (h : ∀ x ∈ c.hs, x < N) : c.ren (List.range N) = c := by
  cases c with
  | a x => simp only [TV.ren]; rw [AV.ren_id h]
  | tup xs =>
    simp only [TV.ren]
    congr 1
    refine (List.map_congr_left fun x hx => ?_).trans (List.map_id _)
    exact AV.ren_id fun y hy => h y (by simp only [TV.hs, List.mem_flatMap]; exact ⟨x, hx, hy⟩)
theorem slId_ok {N : Nat} {f : F} : ∀ {f' : F}, slId N f f' → slotsLe (List.range N) f f'
  | [], _ => trivial
  | (k, t) :: l, h => by
    refine ⟨?_, slId_ok h.2⟩
    have gen : get f k = some (t.ren (List.range N)) ∧ ∀ h ∈ t.hs, h < (List.range N).length := by
      rw [TV.ren_id h.1.2, List.length_range]; exact h.1
    unfold tvLe
    split
    · rw [h.1.1]; simp
    · exact gen
def Row.hs : Row → List Nat
  | .dead => []
  | .r _ d => d.hs
/-- All handles in a heap are its own. -/
def Cl (G : Hp) : Prop := ∀ r ∈ G, ∀ h ∈ Row.hs r, h < G.length
theorem wk_id {m : Nat} {f f' : F} {H : Hp} (hm : m ≤ H.length) (hcl : Cl H) (hs : slId H.length f f') : Weak m (List.range H.length) f H f' H := by
  refine ⟨by rw [List.take_range, Nat.min_eq_left hm], List.nodup_range, fun h hh => by simpa using hh, rowsLe_of (by simp) fun i h row h1 h2 => ?_, slId_ok hs⟩
  have hi : i < H.length := getlt h2
  rw [List.getElem?_range hi] at h1
  cases h1
  rw [h2]
  have hc := hcl row (List.mem_of_getElem? h2)
  cases row with
  | dead => trivial
  | r o d =>
    refine ⟨id, ?_, fun h hh => by rw [List.length_range]; exact hc h hh⟩
    cases d with
    | cells n cs =>
      simp only [Dat.ren]
      congr 1
      refine ((List.map_congr_left fun x hx => ?_).trans (List.map_id _)).symm
      exact C.ren_id fun y hy => hc y (by simp only [Row.hs, Dat.hs, List.mem_flatMap]; exact ⟨x, hx, hy⟩)
    | _ => rfl

theorem wk_ext {m : Nat} {f f' : F} {G H : Hp} (hm : m ≤ G.length) (hcl : Cl G) (he : Ext G H) (hs : slId G.length f f') : Weak m (List.range G.length) f H f' G := by
  have h0 := wk_id (m := m) (f := f) hm hcl hs
  refine ⟨h0.fix, h0.nodup, fun h hh => ?_, rowsLe_of (by simp) fun i h row h1 h2 => ?_, h0.slots⟩
  · have := h0.inb h hh
    have := getlt (he h _ (List.getElem?_eq_getElem this)); exact this
  · have hi : i < G.length := getlt h2
    rw [List.getElem?_range hi] at h1
    cases h1
    obtain ⟨h', e1, e2⟩ := rowsLe_get h0.rows i row h2
    rw [List.getElem?_range hi] at e1
    cases e1
    rw [h2] at e2
    rw [he i row h2]; exact e2
theorem cl_app {G X : Hp} (hG : Cl G) (hX : ∀ r ∈ X, ∀ h ∈ Row.hs r, h < (G ++ X).length) : Cl (G ++ X) := by
  intro r hr h hh
  rcases List.mem_append.1 hr with h1 | h1
  · have := hG r h1 h hh
    rw [List.length_append]; omega
  · exact hX r h1 h hh

/-! ### Groups, seen through a list of handles -/

theorem nsC_ren (ρ : List Nat) : ∀ (b c : Nat) (xss : List (List Int)), (∀ i, i < xss.length → ρ.getD (b + i) 0 = c + i) → (nsC b xss).map (C.ren ρ) = nsC c xss
  | _, _, [], _ => rfl
  | b, c, x :: xss, h => by
    simp only [nsC, List.map_cons, C.ren]
    rw [nsC_ren ρ (b + 1) (c + 1) xss (fun i hi => by rw [show b + 1 + i = b + (i + 1) by omega, h (i + 1) (by simp; omega)]; omega)]
    have := h 0 (by simp)
    rw [Nat.add_zero] at this
    rw [this]; rfl
theorem freshR_range : ∀ (X : Hp) (g : Nat), freshR g X = List.range' g X.length
  | [], _ => rfl
  | _ :: X, g => by rw [freshR, freshR_range X (g + 1)]; rfl
/-- A fresh group comes to the end of any heap as it is. -/
theorem nst_fresh {o o' : Bool} {ρ : List Nat} {b g : Nat} {xss : List (List Int)} (hb : ρ.length = b) : (nst o o' b xss).map (Row.ren (ρ ++ freshR g (nst o o' b xss))) = nst o o' g xss := by
  rw [freshR_range, nst_len]
  simp only [nst, List.map_cons, Row.ren, Dat.ren]
  rw [nsC_ren _ (b + 1) (g + 1) xss (fun i hi => ?_)]
  · congr 1
    rw [List.map_map]
    exact List.map_congr_left fun x hx => rfl
  · rw [List.getD, List.getElem?_append_right (by omega), List.getElem?_range' (by omega)]
    simp only [Option.getD_some]; omega
theorem nst_own {b : Nat} {xss : List (List Int)} : ∀ r ∈ nst true true b xss, r.own = true := by
  intro r hr
  simp only [nst, List.mem_cons, List.mem_map] at hr
  rcases hr with rfl | ⟨x, _, rfl⟩ <;> rfl
theorem nst_ro {b : Nat} {xss : List (List Int)} : ∀ r ∈ nst false false b xss, r.own = false := by
  intro r hr
  simp only [nst, List.mem_cons, List.mem_map] at hr
  rcases hr with rfl | ⟨x, _, rfl⟩ <;> rfl
theorem nsC_hs : ∀ (b : Nat) (xss : List (List Int)), ∀ c ∈ nsC b xss, ∀ h ∈ c.hs, b ≤ h ∧ h < b + xss.length
  | _, [], c, hc => by simp [nsC] at hc
  | b, x :: xss, c, hc => by
    intro h hh
    simp only [nsC, List.mem_cons] at hc
    rcases hc with rfl | hc
    · simp only [C.hs, List.mem_singleton] at hh; subst hh; simp
    · have := nsC_hs (b + 1) xss c hc h hh
      simp only [List.length_cons]; omega

/-- Two groups that are only read. -/
def nst2 (xss yss : List (List Int)) : Hp := .r false (.cells 1 (nsC 2 xss)) :: .r false (.cells 1 (nsC (2 + xss.length) yss)) :: (xss.map rI ++ yss.map rI)
theorem nst2_len (xss yss : List (List Int)) : (nst2 xss yss).length = 2 + xss.length + yss.length := by simp [nst2]; omega
theorem nst2_ro {xss yss : List (List Int)} : ∀ r ∈ nst2 xss yss, r.own = false := by
  intro r hr
  simp only [nst2, List.mem_cons, List.mem_append, List.mem_map] at hr
  rcases hr with rfl | rfl | ⟨x, _, rfl⟩ | ⟨x, _, rfl⟩ <;> rfl
theorem nst2_cl (xss yss : List (List Int)) : Cl (nst2 xss yss) := by
  intro r hr h hh
  rw [nst2_len]
  simp only [nst2, List.mem_cons, List.mem_append, List.mem_map] at hr
  rcases hr with rfl | rfl | ⟨x, _, rfl⟩ | ⟨x, _, rfl⟩
  · simp only [Row.hs, Dat.hs, List.mem_flatMap] at hh
    obtain ⟨c, hc, hh⟩ := hh
    have := nsC_hs _ _ c hc h hh; omega
  · simp only [Row.hs, Dat.hs, List.mem_flatMap] at hh
    obtain ⟨c, hc, hh⟩ := hh
    have := nsC_hs _ _ c hc h hh; omega
  · simp [Row.hs, Dat.hs] at hh
  · simp [Row.hs, Dat.hs] at hh
theorem nst_cl (o o' : Bool) (xss : List (List Int)) : Cl (nst o o' 0 xss) := by
  intro r hr h hh
  rw [nst_len]
  simp only [nst, List.mem_cons, List.mem_map] at hr
  rcases hr with rfl | ⟨x, _, rfl⟩
  · simp only [Row.hs, Dat.hs, List.mem_flatMap] at hh
    obtain ⟨c, hc, hh⟩ := hh
    have := nsC_hs _ _ c hc h hh; omega
  · simp [Row.hs, Dat.hs] at hh
theorem nst2_a {xss yss : List (List Int)} {i : Nat} {x : List Int} (h : xss[i]? = some x) : (nst2 xss yss)[2 + i]? = some (rI x) := by
  have hi : i < xss.length := by
    rcases Nat.lt_or_ge i xss.length with h' | h'
    · exact h'
    · rw [List.getElem?_eq_none h'] at h; cases h
  rw [nst2, show 2 + i = i + 2 by omega, List.getElem?_cons_succ, List.getElem?_cons_succ, List.getElem?_append_left (by simpa using hi), List.getElem?_map, h]; rfl
theorem nst2_b {xss yss : List (List Int)} {i : Nat} {x : List Int} (h : yss[i]? = some x) : (nst2 xss yss)[2 + xss.length + i]? = some (rI x) := by
  rw [nst2, show 2 + xss.length + i = (xss.length + i) + 2 by omega, List.getElem?_cons_succ, List.getElem?_cons_succ, List.getElem?_append_right (by simp), List.length_map, show xss.length + i - xss.length = i by omega, List.getElem?_map, h]; rfl

theorem range'_getD {a n i : Nat} (h : i < n) : (List.range' a n).getD i 0 = a + i := by rw [List.getD, List.getElem?_range' h]; simp

/-- The rows of one group. -/
theorem nst_rowsN {N : Nat} {o o' p p' : Bool} (hp : p = true → o = true) (hp' : p' = true → o' = true) {G : Hp} {c : Nat} {xss : List (List Int)} (hN : Nst o o' G c xss) (hNn : xss.length + 1 ≤ N) : ∀ (i h : Nat) row, (List.range' c N)[i]? = some h → (nst p p' 0 xss)[i]? = some row → h < G.length ∧ rowLe (List.range' c N) row G[h]? := by
  intro i h row h1 h2
  have hi : i < xss.length + 1 := by have := getlt h2; rwa [nst_len] at this
  rw [List.getElem?_range' (by omega)] at h1
  have e : h = c + i := by simpa using h1.symm
  subst e
  have hlt := hN.lt
  refine ⟨by omega, ?_⟩
  cases i with
  | zero =>
    simp only [nst, List.getElem?_cons_zero, Option.some.injEq] at h2
    subst h2
    change rowLe _ _ (G[c]?)
    rw [hN.cells]
    refine ⟨hp, ?_, ?_⟩
    · simp only [Dat.ren]; rw [nsC_ren _ (0 + 1) (c + 1) xss (fun i hi => ?_)]
      rw [range'_getD (by omega)]; omega
    · intro h hh
      simp only [Dat.hs, List.mem_flatMap] at hh
      obtain ⟨x, hx, hh⟩ := hh
      have := nsC_hs _ _ x hx h hh
      simp; omega
  | succ i =>
    simp only [nst, List.getElem?_cons_succ, List.getElem?_map, Option.map_eq_some_iff] at h2
    obtain ⟨x, hx, rfl⟩ := h2
    rw [show c + (i + 1) = c + 1 + i by omega, hN.rows i x hx]
    exact ⟨hp', rfl, by simp [Dat.hs]⟩

theorem nst_rowsG {o o' p p' : Bool} (hp : p = true → o = true) (hp' : p' = true → o' = true) {G : Hp} {c : Nat} {xss : List (List Int)} (hN : Nst o o' G c xss) : ∀ (i h : Nat) row, (List.range' c (xss.length + 1))[i]? = some h → (nst p p' 0 xss)[i]? = some row → h < G.length ∧ rowLe (List.range' c (xss.length + 1)) row G[h]? :=
  nst_rowsN hp hp' hN (Nat.le_refl _)
theorem nst_rows {o o' : Bool} {G : Hp} {c : Nat} {xss : List (List Int)} (hN : Nst o o' G c xss) : ∀ (i h : Nat) row, (List.range' c (xss.length + 1))[i]? = some h → (nst false false 0 xss)[i]? = some row → h < G.length ∧ rowLe (List.range' c (xss.length + 1)) row G[h]? :=
  nst_rowsG (by simp) (by simp) hN

/-- A call that reads one group, in any heap that has it. -/
theorem ACalls.lift1 {P : Program} {k : FuncId} {args gargs : List TV} {G : Hp} {t0 : TV} {X : Hp} {o o' : Bool} {c : Nat} {xss : List (List Int)} (hN : Nst o o' G c xss)
    (hl : ACalls P k args [] (nst false false 0 xss) (fun t H' => t = t0 ∧ H' = nst false false 0 xss ++ X)) (hX : ∀ r ∈ X, r.own = true)
    (hargs : gargs = args.map (TV.ren (List.range' c (xss.length + 1)))) (hhs : ∀ t ∈ args, ∀ h ∈ t.hs, h < xss.length + 1) :
    ACalls P k gargs [] G (fun t G' => t = t0.ren (List.range' c (xss.length + 1) ++ freshR G.length X) ∧ G' = G ++ X.map (Row.ren (List.range' c (xss.length + 1) ++ freshR G.length X))) :=
  ACalls.liftN hl _ nst_ro hX List.nodup_range' (by rw [nst_len]; simp) (nst_rows hN) hargs (fun t ht h hh => by simpa using hhs t ht h hh)

/-- The handles of two groups. -/
theorem nst2_rho {G : Hp} {o1 o1' o2 o2' : Bool} {a b : Nat} {xss yss : List (List Int)} (hA : Nst o1 o1' G a xss) (hB : Nst o2 o2' G b yss) (hd : a + xss.length < b ∨ b + yss.length < a) :
    ∃ ρ : List Nat, ρ.Nodup ∧ ρ.length = (nst2 xss yss).length ∧ (∀ (i h : Nat) row, ρ[i]? = some h → (nst2 xss yss)[i]? = some row → h < G.length ∧ rowLe ρ row G[h]?) ∧ ρ.getD 0 0 = a ∧ ρ.getD 1 0 = b ∧ ρ.length = 2 + xss.length + yss.length := by
  obtain ⟨ρ, hρ⟩ : ∃ ρ, ρ = a :: b :: (List.range' (a + 1) xss.length ++ List.range' (b + 1) yss.length) := ⟨_, rfl⟩
  have hlen : ρ.length = 2 + xss.length + yss.length := by rw [hρ]; simp; omega
  have g2 : ∀ i, i < xss.length → ρ[2 + i]? = some (a + 1 + i) := fun i hi => by
    rw [hρ, show 2 + i = i + 2 by omega, List.getElem?_cons_succ, List.getElem?_cons_succ, List.getElem?_append_left (by simpa using hi), List.getElem?_range' hi]; simp
  have g3 : ∀ i, i < yss.length → ρ[2 + xss.length + i]? = some (b + 1 + i) := fun i hi => by
    rw [hρ, show 2 + xss.length + i = (xss.length + i) + 2 by omega, List.getElem?_cons_succ, List.getElem?_cons_succ, List.getElem?_append_right (by simp), List.length_range', show xss.length + i - xss.length = i by omega, List.getElem?_range' hi]; simp
  have hla := hA.lt
  have hlb := hB.lt
  have hnd : ρ.Nodup := by
    rw [hρ]
    refine List.nodup_cons.2 ⟨?_, List.nodup_cons.2 ⟨?_, List.nodup_append.2 ⟨List.nodup_range', List.nodup_range', ?_⟩⟩⟩
    · simp only [List.mem_cons, List.mem_append, List.mem_range'_1]; omega
    · simp only [List.mem_append, List.mem_range'_1]; omega
    · intro x hx y hy
      simp only [List.mem_range'_1] at hx hy
      omega
  refine ⟨ρ, hnd, by rw [hlen, nst2_len], ?_, by rw [hρ]; rfl, by rw [hρ]; rfl, hlen⟩
  · intro i h row h1 h2
    match i, h1, h2 with
    | 0, h1, h2 =>
      rw [hρ] at h1
      simp only [List.getElem?_cons_zero, Option.some.injEq] at h1
      simp only [nst2, List.getElem?_cons_zero, Option.some.injEq] at h2
      subst h1; subst h2
      refine ⟨by omega, ?_⟩
      rw [hA.cells]
      refine ⟨by simp, ?_, ?_⟩
      · simp only [Dat.ren]; rw [nsC_ren _ 2 (a + 1) xss (fun i hi => by rw [List.getD, g2 i hi]; rfl)]
      · intro h hh
        simp only [Dat.hs, List.mem_flatMap] at hh
        obtain ⟨x, hx, hh⟩ := hh
        have := nsC_hs _ _ x hx h hh
        omega
    | 1, h1, h2 =>
      rw [hρ] at h1
      simp only [List.getElem?_cons_zero, List.getElem?_cons_succ, Option.some.injEq] at h1
      simp only [nst2, List.getElem?_cons_zero, List.getElem?_cons_succ, Option.some.injEq] at h2
      subst h1; subst h2
      refine ⟨by omega, ?_⟩
      rw [hB.cells]
      refine ⟨by simp, ?_, ?_⟩
      · simp only [Dat.ren]; rw [nsC_ren _ (2 + xss.length) (b + 1) yss (fun i hi => by rw [List.getD, g3 i hi]; rfl)]
      · intro h hh
        simp only [Dat.hs, List.mem_flatMap] at hh
        obtain ⟨x, hx, hh⟩ := hh
        have := nsC_hs _ _ x hx h hh
        omega
    | i + 2, h1, h2 =>
      have hi2 := getlt h2
      rw [nst2_len] at hi2
      rcases Nat.lt_or_ge i xss.length with hi | hi
      · rw [show i + 2 = 2 + i by omega] at h1 h2
        rw [g2 i hi] at h1
        rw [nst2_a (List.getElem?_eq_getElem hi)] at h2
        cases h1; cases h2
        rw [hA.rows i _ (List.getElem?_eq_getElem hi)]
        exact ⟨by omega, by simp, rfl, by simp [Dat.hs]⟩
      · obtain ⟨j, rfl⟩ : ∃ j, i = xss.length + j := ⟨i - xss.length, by omega⟩
        have hj : j < yss.length := by omega
        rw [show xss.length + j + 2 = 2 + xss.length + j by omega] at h1 h2
        rw [g3 j hj] at h1
        rw [nst2_b (List.getElem?_eq_getElem hj)] at h2
        cases h1; cases h2
        rw [hB.rows j _ (List.getElem?_eq_getElem hj)]
        exact ⟨by omega, by simp, rfl, by simp [Dat.hs]⟩
/-- A call that reads two groups. -/
theorem ACalls.lift2 {P : Program} {k : FuncId} {G : Hp} {v : Value} {o1 o1' o2 o2' : Bool} {a b : Nat} {xss yss : List (List Int)} (hA : Nst o1 o1' G a xss) (hB : Nst o2 o2' G b yss) (hd : a + xss.length < b ∨ b + yss.length < a)
    (hl : ACalls P k [tSS 0 xss.length, tSS 1 yss.length] [] (nst2 xss yss) (fun t H' => t = .a (.c (.v v)) ∧ H' = nst2 xss yss)) :
    ACalls P k [tSS a xss.length, tSS b yss.length] [] G (fun t G' => t = .a (.c (.v v)) ∧ G' = G) := by
  obtain ⟨ρ, h1, h2, h3, h4, h5, h6⟩ := nst2_rho hA hB hd
  have hl' : ACalls P k [tSS 0 xss.length, tSS 1 yss.length] [] (nst2 xss yss) (fun t H' => t = .a (.c (.v v)) ∧ H' = nst2 xss yss ++ []) := by simpa using hl
  refine (ACalls.liftN hl' ρ nst2_ro (by simp) h1 h2 h3 ?_ ?_).mono ?_
  · simp only [List.map_cons, List.map_nil, TV.ren, AV.ren, C.ren, h4, h5]
  · intro t ht h hh
    simp only [List.mem_cons, List.not_mem_nil, or_false] at ht
    rcases ht with rfl | rfl <;> simp [TV.hs, AV.hs, C.hs] at hh <;> omega
  · rintro t G' ⟨rfl, rfl⟩
    exact ⟨rfl, by simp⟩

/-! ### Regions that turn rows of a group -/

theorem nsC_one : ∀ (b : Nat) (xss : List (List Int)), (nsC b xss).all C.isOne = true
  | _, [] => rfl
  | b, x :: xss => by simp only [nsC, List.all_cons, nsC_one (b + 1) xss]; rfl
def SF (ms : List Nat) (H1 H : Hp) : Prop := H1.length ≤ H.length ∧ ∀ k, k < H1.length → k ∈ ms ∨ H[k]? = H1[k]?
theorem SF.refl (ms : List Nat) (H : Hp) : SF ms H H := ⟨Nat.le_refl _, fun _ _ => .inr rfl⟩
theorem SF.app {ms : List Nat} {H1 H : Hp} (h : SF ms H1 H) (X : Hp) : SF ms H1 (H ++ X) :=
  ⟨by have := h.1; simp; omega, fun k hk => by rw [List.getElem?_append_left (by have := h.1; omega)]; exact h.2 k hk⟩
theorem SF.set {ms : List Nat} {H1 H : Hp} (h : SF ms H1 H) {j : Nat} (r : Row) (hj : j ∈ ms ∨ H1.length ≤ j) : SF ms H1 (H.set j r) :=
  ⟨by simpa using h.1, fun k hk => by
    by_cases e : j = k
    · subst e; exact hj.imp id fun h => by omega
    · rw [List.getElem?_set_ne e]; exact h.2 k hk⟩
theorem SF.same {ms : List Nat} {H1 H : Hp} (h : SF ms H1 H) : sameFrom ms 0 H1 H := sameFrom_of h.1 fun k hk => by simpa using h.2 k hk

/-- A group that is scattered over a heap, seen as one. -/
theorem wk_nst {m : Nat} {f f' : F} {G : Hp} (pre : Hp) (ph : List Nat) (c : Nat) (cs : List C) (hs : List Nat) (xss : List (List Int))
    (hm : (ph ++ c :: hs).take m = List.range m) (hnd : (ph ++ c :: hs).Nodup) (hpl : ph.length = pre.length)
    (hpre : ∀ (i h : Nat) r, ph[i]? = some h → pre[i]? = some r → G[h]? = some r ∧ (∀ ρ, rowLe ρ r (some r)))
    (hc : G[c]? = some (.r true (.cells 1 cs))) (hcl : cs.length = xss.length) (hl : hs.length = xss.length)
    (hr : ∀ (i h : Nat) x, hs[i]? = some h → xss[i]? = some x → cs[i]? = some (.sl 1 h 0 x.length) ∧ G[h]? = some (oI x))
    (hsl : slotsLe (ph ++ c :: hs) f f') : Weak m (ph ++ c :: hs) f G f' (pre ++ nst true true pre.length xss) := by
  have hlen : (ph ++ c :: hs).length = (pre ++ nst true true pre.length xss).length := by rw [List.length_append, List.length_append, nst_len, List.length_cons, hpl, hl]
  have gp : ∀ i, i < pre.length → (ph ++ c :: hs)[i]? = ph[i]? := fun i hi => List.getElem?_append_left (by omega)
  have gc : (ph ++ c :: hs)[pre.length]? = some c := by rw [List.getElem?_append_right (by omega), hpl, Nat.sub_self]; rfl
  have gh : ∀ i, (ph ++ c :: hs)[pre.length + 1 + i]? = hs[i]? := fun i => by rw [List.getElem?_append_right (by omega), hpl, show pre.length + 1 + i - pre.length = i + 1 by omega, List.getElem?_cons_succ]
  have key : ∀ (i h : Nat) row, (ph ++ c :: hs)[i]? = some h → (pre ++ nst true true pre.length xss)[i]? = some row → ∃ old, G[h]? = some old ∧ rowLe (ph ++ c :: hs) row (some old) := by
    intro i h row h1 h2
    rcases Nat.lt_trichotomy i pre.length with hi | hi | hi
    · rw [gp i hi] at h1
      rw [List.getElem?_append_left hi] at h2
      obtain ⟨e1, e2⟩ := hpre i h row h1 h2
      exact ⟨_, e1, e2 _⟩
    · subst hi
      rw [gc] at h1; cases h1
      rw [List.getElem?_append_right (Nat.le_refl _), Nat.sub_self, nst, List.getElem?_cons_zero] at h2
      cases h2
      refine ⟨_, hc, id, ?_, ?_⟩
      · simp only [Dat.ren]
        congr 1
        refine List.ext_getElem? fun j => ?_
        rw [List.getElem?_map, nsC_get]
        rcases Nat.lt_or_ge j xss.length with hj | hj
        · have e1 := List.getElem?_eq_getElem hj
          have e2 := List.getElem?_eq_getElem (l := hs) (i := j) (by omega)
          rw [(hr j _ _ e2 e1).1, e1]
          simp only [Option.map_some, C.ren]
          rw [List.getD, gh j, e2]; rfl
        · rw [List.getElem?_eq_none (by omega), List.getElem?_eq_none hj]; rfl
      · intro h hh
        simp only [Dat.hs, List.mem_flatMap] at hh
        obtain ⟨x, hx, hh⟩ := hh
        have := nsC_hs _ _ x hx h hh
        rw [hlen, List.length_append, nst_len]; omega
    · obtain ⟨j, rfl⟩ : ∃ j, i = pre.length + 1 + j := ⟨i - pre.length - 1, by omega⟩
      rw [gh j] at h1
      rw [List.getElem?_append_right (by omega), show pre.length + 1 + j - pre.length = j + 1 by omega, nst, List.getElem?_cons_succ, List.getElem?_map] at h2
      simp only [Option.map_eq_some_iff] at h2
      obtain ⟨x, hx, rfl⟩ := h2
      exact ⟨_, (hr j h x h1 hx).2, id, rfl, by simp [Dat.hs]⟩
  refine ⟨hm, hnd, fun h hh => ?_, rowsLe_of hlen fun i h row h1 h2 => ?_, hsl⟩
  · obtain ⟨i, hi, rfl⟩ := List.mem_iff_getElem.1 hh
    obtain ⟨old, e, _⟩ := key i _ _ (List.getElem?_eq_getElem hi) (List.getElem?_eq_getElem (by omega))
    exact getlt e
  · obtain ⟨old, e, hle⟩ := key i h row h1 h2
    rw [e]; exact hle
theorem rowLe_same (ρ : List Nat) (o : Bool) (k : IntKind) (xs : List Int) : rowLe ρ (.r o (.ints k xs)) (some (.r o (.ints k xs))) := ⟨id, rfl, by simp [Dat.hs]⟩
theorem cl_pre {o o' : Bool} (pre : Hp) (xss : List (List Int)) (hp : ∀ r ∈ pre, Row.hs r = []) : Cl (pre ++ nst o o' pre.length xss) := by
  intro r hr h hh
  rw [List.length_append, nst_len]
  rcases List.mem_append.1 hr with hr | hr
  · rw [hp r hr] at hh; simp at hh
  · simp only [nst, List.mem_cons, List.mem_map] at hr
    rcases hr with rfl | ⟨x, _, rfl⟩
    · simp only [Row.hs, Dat.hs, List.mem_flatMap] at hh
      obtain ⟨c, hc, hh⟩ := hh
      have := nsC_hs _ _ c hc h hh; omega
    · simp [Row.hs, Dat.hs] at hh
theorem nst_pre {o o' : Bool} (pre : Hp) (xss : List (List Int)) : Nst o o' (pre ++ nst o o' pre.length xss) pre.length xss := by
  have := Nst.at o o' pre [] xss
  simpa using this
end Go.Proofs.Ytfkokcmnmmfcbaa
