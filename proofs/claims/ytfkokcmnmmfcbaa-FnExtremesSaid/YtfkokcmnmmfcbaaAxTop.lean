/- AX: forgetting, loops, whole functions: a function whose code meets the abstract weakest precondition meets its contract; a contract over few rows holds in any heap that has them. -/
import Derived.Test.YtfkokcmnmmfcbaaAxSound
set_option linter.unusedSimpArgs false
set_option linter.unusedVariables false
set_option linter.unusedSectionVars false
namespace Go.Ax
open Go

/-! ### Forgetting -/

theorem CR.ren {φ φ' : List Pl} {ρ : List Nat} (hφ : ∀ (i : Nat), i < ρ.length → φ'[i]? = φ[ρ.getD i 0]?) {c : C} {y : Value} (hh : ∀ h ∈ c.hs, h < ρ.length) (hc : CR φ (c.ren ρ) y) : CR φ' c y := by
  cases c with
  | any => trivial
  | v x => exact hc
  | sl e h off len =>
    obtain ⟨p, a, cap, hp, r⟩ := hc
    exact ⟨p, a, cap, by rw [hφ h (hh h (by simp [C.hs]))]; exact hp, r⟩
  | ptr h i s =>
    obtain ⟨p, hp, r⟩ := hc
    exact ⟨p, by rw [hφ h (hh h (by simp [C.hs]))]; exact hp, r⟩
  | fn f cs =>
    obtain ⟨vs, hy, hf⟩ := hc
    refine ⟨vs, hy, ?_⟩
    have hf' := F2.of_map hf
    have : ∀ (cs : List (Nat × Nat × Nat)) (vs : List Value), (∀ h ∈ cs.map (·.1), h < ρ.length) → F2 (fun (c : Nat × Nat × Nat) z => ∃ p, φ[(ρ.getD c.1 0, c.2).1]? = some p ∧ z = Value.pointer (some (p.ad (ρ.getD c.1 0, c.2).2.1 (ρ.getD c.1 0, c.2).2.2))) cs vs →
        F2 (fun (c : Nat × Nat × Nat) z => ∃ p, φ'[c.1]? = some p ∧ z = Value.pointer (some (p.ad c.2.1 c.2.2))) cs vs := by
      intro cs vs hb hf
      induction hf with
      | nil => exact .nil
      | cons h1 _ ih =>
        obtain ⟨p, hp, hz⟩ := h1
        exact .cons ⟨p, by rw [hφ _ (hb _ (by simp))]; exact hp, hz⟩ (ih fun h hh => hb h (by simp at hh ⊢; exact .inr hh))
    exact this cs vs hh hf'

theorem F2.hs_mono {α β : Type} {R S : α → β → Prop} {as : List α} {bs : List β} (h : F2 R as bs) (hm : ∀ a b, a ∈ as → R a b → S a b) : F2 S as bs := by
  induction h with
  | nil => exact .nil
  | cons h1 _ ih => exact .cons (hm _ _ (by simp) h1) (ih fun a b ha => hm a b (by simp [ha]))

theorem AVR.ren {φ φ' : List Pl} {ρ : List Nat} (hφ : ∀ (i : Nat), i < ρ.length → φ'[i]? = φ[ρ.getD i 0]?) {c : AV} {y : Value} (hh : ∀ h ∈ c.hs, h < ρ.length) (hc : AVR φ (c.ren ρ) y) : AVR φ' c y := by
  cases c with
  | c x => exact CR.ren hφ hh hc
  | agg xs =>
    obtain ⟨ys, hy, hf⟩ := hc
    exact ⟨ys, hy, (F2.of_map hf).hs_mono fun a b ha hr => CR.ren hφ (fun h hh' => hh h (by simp only [AV.hs, List.mem_flatMap]; exact ⟨a, ha, hh'⟩)) hr⟩

theorem TR.ren {φ φ' : List Pl} {ρ : List Nat} (hφ : ∀ (i : Nat), i < ρ.length → φ'[i]? = φ[ρ.getD i 0]?) {c : TV} {y : Value} (hh : ∀ h ∈ c.hs, h < ρ.length) (hc : TR φ (c.ren ρ) y) : TR φ' c y := by
  cases c with
  | a x => exact AVR.ren hφ hh hc
  | tup xs =>
    obtain ⟨ys, hy, hf⟩ := hc
    exact ⟨ys, hy, (F2.of_map hf).hs_mono fun a b ha hr => AVR.ren hφ (fun h hh' => hh h (by simp only [TV.hs, List.mem_flatMap]; exact ⟨a, ha, hh'⟩)) hr⟩

theorem den_ren {ρ : List Nat} (d : Dat) : (d.ren ρ).den = d.den.map (C.ren ρ) := by
  cases d with
  | ints k xs => simp [Dat.ren, Dat.den, C.ren]
  | bools bs => simp [Dat.ren, Dat.den, C.ren]
  | recs rs => simp only [Dat.ren, Dat.den]; induction rs with | nil => rfl | cons r rs ih => simp only [List.flatMap_cons, List.map_append]; rw [← ih]; rfl
  | cells n cs => rfl

theorem den_hs {ρ : List Nat} {d : Dat} (hh : ∀ h ∈ d.hs, h < ρ.length) : ∀ c ∈ d.den, ∀ h ∈ c.hs, h < ρ.length := by
  cases d with
  | ints k xs => intro c hc h hh'; simp only [Dat.den, List.mem_map] at hc; obtain ⟨_, _, rfl⟩ := hc; simp [C.hs] at hh'
  | bools bs => intro c hc h hh'; simp only [Dat.den, List.mem_map] at hc; obtain ⟨_, _, rfl⟩ := hc; simp [C.hs] at hh'
  | recs rs => intro c hc h hh'; simp only [Dat.den, List.mem_flatMap] at hc; obtain ⟨_, _, hc⟩ := hc; simp at hc; rcases hc with rfl | rfl <;> simp [C.hs] at hh'
  | cells n cs => intro c hc h hh'; exact hh h (by simp only [Dat.hs, List.mem_flatMap]; exact ⟨c, hc, hh'⟩)

theorem esz_ren {ρ : List Nat} (d : Dat) : (d.ren ρ).esz = d.esz := by cases d <;> rfl

theorem rowsLe_len {ρ : List Nat} {H : Hp} : ∀ {hs : List Nat} {rows : Hp}, rowsLe ρ H hs rows → rows.length = hs.length
  | [], [], _ => rfl
  | _ :: _, _ :: _, h => by simp [rowsLe_len h.2]
  | [], _ :: _, h => h.elim
  | _ :: _, [], h => h.elim

theorem rowsLe_get {ρ : List Nat} {H : Hp} : ∀ {hs : List Nat} {rows : Hp}, rowsLe ρ H hs rows → ∀ (i : Nat) row, rows[i]? = some row → ∃ h, hs[i]? = some h ∧ rowLe ρ row H[h]?
  | [], [], _, i, row, h => by simp at h
  | h :: hs, r :: rows, hl, 0, row, hr => by simp at hr; subst hr; exact ⟨h, by simp, hl.1⟩
  | h :: hs, r :: rows, hl, i + 1, row, hr => by
    obtain ⟨h', h1, h2⟩ := rowsLe_get hl.2 i row (by simpa using hr)
    exact ⟨h', by simpa using h1, h2⟩
  | [], _ :: _, h, _, _, _ => h.elim
  | _ :: _, [], h, _, _, _ => h.elim

theorem slotsLe_get {ρ : List Nat} {f : F} : ∀ {f' : F}, slotsLe ρ f f' → ∀ k t, get f' k = some t → tvLe ρ t (get f k)
  | [], _, k, t, h => by simp [get] at h
  | (j, u) :: l, hs, k, t, h => by
    simp only [get] at h
    split at h
    · rename_i he; simp at h; subst h; subst he; exact hs.1
    · exact slotsLe_get hs.2 k t h

variable {P : Program} {φ0 : List Pl} {w0 : World} {Wr : Nat → Prop} {n : Nat}

theorem rowOK_ren {φ φ' : List Pl} {ρ : List Nat} {w : World} {p : Pl} (hφ : ∀ (i : Nat), i < ρ.length → φ'[i]? = φ[ρ.getD i 0]?) {row old : Row} (hl : rowLe ρ row (some old)) (h : RowOK φ Wr w p old) : RowOK φ' Wr w p row := by
  cases row with
  | dead => trivial
  | r own d =>
    cases old with
    | dead => exact hl.elim
    | r own' d' =>
      obtain ⟨ho, rfl, hh⟩ := hl
      refine ⟨by rw [h.1, esz_ren], fun i c hi => ?_, fun hown => ?_⟩
      · obtain ⟨y, hy, hc⟩ := h.2.1 i (c.ren ρ) (by rw [den_ren, List.getElem?_map, hi]; rfl)
        exact ⟨y, hy, CR.ren hφ (den_hs hh c (List.mem_of_getElem? hi)) hc⟩
      · have := h.2.2 (ho hown)
        rw [den_ren, List.length_map] at this
        exact this

theorem weak_rh {φ : List Pl} {H H' : Hp} {w : World} {ρ : List Nat} (hR : RH φ Wr H w) (hnd : ρ.Nodup) (hin : ∀ h ∈ ρ, h < H.length) (hrows : rowsLe ρ H ρ H') :
    ∃ φ', φ'.length = ρ.length ∧ (∀ (i : Nat), i < ρ.length → φ'[i]? = φ[ρ.getD i 0]?) ∧ RH φ' Wr H' w := by
  have hget : ∀ (i : Nat), i < ρ.length → (ρ.map fun h => φ.getD h ⟨0, 0, 0, 0⟩)[i]? = φ[ρ.getD i 0]? := fun i hi => by
    have h1 : ρ.getD i 0 = ρ[i] := by simp [List.getD, hi]
    have h2 : ρ[i] < φ.length := by rw [hR.len]; exact hin _ (List.getElem_mem hi)
    rw [List.getElem?_map, List.getElem?_eq_getElem hi, h1, List.getElem?_eq_getElem h2]
    simp [List.getD, h2]
  have hlen := rowsLe_len hrows
  refine ⟨ρ.map fun h => φ.getD h ⟨0, 0, 0, 0⟩, by simp, hget, ?_⟩
  have key : ∀ (i : Nat) row p, H'[i]? = some row → (ρ.map fun h => φ.getD h ⟨0, 0, 0, 0⟩)[i]? = some p → ∃ h old, ρ[i]? = some h ∧ H[h]? = some old ∧ φ[h]? = some p ∧ rowLe ρ row (some old) := fun i row p hi hp => by
    obtain ⟨h, hh, hle⟩ := rowsLe_get hrows i row hi
    have hil : i < ρ.length := by
      rcases Nat.lt_or_ge i ρ.length with h' | h'
      · exact h'
      · rw [List.getElem?_eq_none h'] at hh; cases hh
    rw [hget i hil] at hp
    have he : ρ.getD i 0 = h := by simp [List.getD, hh]
    rw [he] at hp
    have hlt := hin h (List.mem_of_getElem? hh)
    exact ⟨h, H[h], hh, List.getElem?_eq_getElem hlt, hp, by rw [List.getElem?_eq_getElem hlt] at hle; exact hle⟩
  refine ⟨by simp [hlen], fun i row p hi hp => ?_, fun i j row row' p p' hij hi hj hp hp' ho hrm hs => ?_⟩
  · obtain ⟨h, old, _, hold, hph, hle⟩ := key i row p hi hp
    exact rowOK_ren hget hle (hR.row h old p hold hph)
  · obtain ⟨h, old, hh, hold, hph, hle⟩ := key i row p hi hp
    obtain ⟨h', old', hh', hold', hph', hle'⟩ := key j row' p' hj hp'
    have hne : h ≠ h' := by
      intro he; subst he
      have hil : i < ρ.length := by
        rcases Nat.lt_or_ge i ρ.length with h' | h'
        · exact h'
        · rw [List.getElem?_eq_none h'] at hh; cases hh
      exact hij ((List.getElem?_inj hil hnd).1 (hh.trans hh'.symm))
    have hown : old.own = true := by
      cases row with
      | dead => simp [Row.own] at ho
      | r own d =>
        cases old with
        | dead => exact hle.elim
        | r own' d' => exact hle.1 ho
    refine hR.sep h h' old old' p p' hne hold hold' hph hph' hown hrm ?_
    cases row' with
    | dead => simp [Row.den, Row.own] at hs
    | r own d =>
      cases old' with
      | dead => exact hle'.elim
      | r own' d' =>
        obtain ⟨h1, rfl, _⟩ := hle'
        rcases hs with hs | hs
        · left; simp only [Row.den] at hs ⊢; rw [den_ren]; simpa using hs
        · exact .inr ⟨h1 hs.1, hs.2⟩

theorem tvLe_ok {φ φ' : List Pl} {ρ : List Nat} (hφ : ∀ (i : Nat), i < ρ.length → φ'[i]? = φ[ρ.getD i 0]?) {f : F} {a : Act} (hr : RA φ n f a) {k : Nat} {t : TV} (hl : tvLe ρ t (get f k)) : k < n ∧ ∃ y, a.tmps[k]? = some y ∧ TR φ' t y := by
  have gen : (get f k = some (t.ren ρ) ∧ ∀ h ∈ t.hs, h < ρ.length) → k < n ∧ ∃ y, a.tmps[k]? = some y ∧ TR φ' t y := fun ⟨h1, h2⟩ => by
    obtain ⟨h3, y, h4, h5⟩ := hr.slot k _ h1
    exact ⟨h3, y, h4, TR.ren hφ h2 h5⟩
  unfold tvLe at hl
  split at hl
  · cases hg : get f k with
    | none => exact absurd hg hl
    | some u =>
      obtain ⟨h3, y, h4, _⟩ := hr.slot k u hg
      exact ⟨h3, y, h4, trivial⟩
  · exact gen hl

theorem weak_ok {m : Nat} {ρ : List Nat} {f f' : F} {H H' : Hp} {a : Act} {w : World} (hm : φ0.length = m) (hw : Weak m ρ f H f' H') (hRR : RR φ0 w0 Wr n f H a w) : RR φ0 w0 Wr n f' H' a w := by
  obtain ⟨φ, hpre, hr, hR, hk⟩ := hRR
  obtain ⟨φ', hl, hget, hR'⟩ := weak_rh hR hw.nodup hw.inb hw.rows
  refine ⟨φ', ?_, ⟨hr.size, hr.defers, fun k t hk' => tvLe_ok hget hr (slotsLe_get hw.slots k t hk')⟩, hR', hk⟩
  have hle : m ≤ ρ.length := by
    have := congrArg List.length hw.fix
    simp at this; omega
  obtain ⟨t, rfl⟩ := hpre
  refine List.prefix_iff_eq_take.2 (List.ext_getElem? fun i => ?_)
  rw [List.getElem?_take]
  split
  · rename_i hi
    rw [hget i (by omega)]
    have : ρ.getD i 0 = i := by
      have h1 : (ρ.take m)[i]? = (List.range m)[i]? := by rw [hw.fix]
      rw [List.getElem?_take, if_pos (by omega), List.getElem?_range (by omega)] at h1
      simp [List.getD, h1]
    rw [this, List.getElem?_append_left hi]
  · rename_i hi
    rw [List.getElem?_eq_none (by omega)]

/-! ### Code -/

/-- What holds of the model's state at a piece of code's end. -/
def LQ (φ0 : List Pl) (w0 : World) (Wr : Nat → Prop) (n : Nat) (Q : Exit → F → Hp → Prop) (e : Exit) (a : Act) (w : World) : Prop :=
  (∀ c, e ≠ .panic c) ∧ e ≠ .outgrown ∧ ∃ f H, RR φ0 w0 Wr n f H a w ∧ Q e f H

theorem RR.start {f : F} {H : Hp} {a : Act} {w : World} (hRR : RR φ0 w0 Wr n f H a w) : RR φ0 w0 Wr n f H a { w with drawn := w.drawn + 1 } := by
  obtain ⟨φ, h1, h2, h3, h4⟩ := hRR
  exact ⟨φ, h1, h2, h3.same fun _ _ => rfl, h4.trans ⟨rfl, rfl, rfl, Nat.le_refl _, fun _ _ _ => rfl⟩⟩

theorem awp_ok {m : Nat} {D : Nat → Option DR} (hm : φ0.length = m) (hW : ∀ b, w0.heap.size ≤ b → Wr b) (hmix : P.follows .mixedOrders = true) : ∀ (c : Code) (Q : Exit → F → Hp → Prop) (f : F) (H : Hp) (a : Act) (w : World),
    codeOK D n c = true → awp P m D c Q f H → RR φ0 w0 Wr n f H a w → c.wp P (LQ φ0 w0 Wr n Q) a w
  | .skip, Q, f, H, a, w, _, h, hRR => wp_skip ⟨(fun _ => by simp), by simp, f, H, hRR, h⟩
  | .exit id, Q, f, H, a, w, _, h, hRR => wp_exit ⟨(fun _ => by simp), by simp, f, H, hRR, h⟩
  | .ret, Q, f, H, a, w, _, h, hRR => wp_ret ⟨(fun _ => by simp), by simp, f, H, hRR, h⟩
  | .region id ops draw, Q, f, H, a, w, hc, h, hRR => by
    have hd : ∀ o ∈ ops.toList, ∀ k, o.dst = some k → k < n := fun o ho k hk => by
      simp only [codeOK, Bool.and_eq_true, Array.all_eq_true_iff_forall_mem] at hc
      have := hc.2 o (by simpa using ho)
      rw [hk] at this; simpa using this
    simp only [awp] at h
    cases draw with
    | false =>
      simp only [Bool.false_eq_true, if_false] at h
      split at h
      · exact wp_region_list (awpOps_ok hW (fun f H a w hq hRR => ⟨(fun _ => by simp), by simp, f, H, hRR, hq⟩) ops.toList f H a w hd hRR h)
      · exact wp_region_list (awpOpsW_ok hW (fun f H a w hq hRR => ⟨(fun _ => by simp), by simp, f, H, hRR, hq⟩) ops.toList f H a w hd hRR h)
    | true =>
      simp only [if_true] at h
      obtain ⟨d, hD, ms, ord, hord0, hms, hord⟩ : ∃ d, D id = some d ∧ ∃ ms ord, d.ord.core = ord ∧ msOwn H ms ∧ awpOrd P ops.toList ms H (Q .normal) ord f H := by
        split at h
        · rename_i ms0 ord hD
          obtain ⟨ms, h1, h2⟩ := h
          exact ⟨_, hD, ms, ord, rfl, h1, h2⟩
        · rename_i ms ord hno hD
          refine ⟨_, hD, ms, ord, ?_, h⟩
          cases ord with
          | free r => exact absurd rfl (hno r)
          | _ => rfl
        · exact h.elim
      · have hB : drawOK ops d.ord = true := by
          simp only [codeOK, Bool.and_eq_true, drawsOK, if_true, hD] at hc
          exact hc.1
        rw [drawOK, hord0] at hB
        simp only [Bool.and_eq_true, beq_iff_eq] at hB
        obtain ⟨hsel, hfrom⟩ := hB
        obtain ⟨φ1, hpre, hr, hR, hkw⟩ := hRR.start
        have hms' := msOwn_ok hms
        have hR1 : RH φ1 (Wr1 φ1 H { w with drawn := w.drawn + 1 }) H { w with drawn := w.drawn + 1 } := hR.wr fun i d p hi hp hrm _ => .inr ⟨i, d, p, hi, hp, hrm, rfl⟩
        have hend : ∀ f' H' a' w' φ, Q .normal f' H' → DR' φ1 H { w with drawn := w.drawn + 1 } ms n f' H' a' w' φ → LQ φ0 w0 Wr n Q .normal a' w' := fun f' H' a' w' φ hq hD => by
          have hup : ∀ k, Wr1 φ1 H { w with drawn := w.drawn + 1 } k → Wr k := fun k hk => by
            rcases hk with hk | ⟨h, dd, p, hh, hp, hrm, rfl⟩
            · exact hW k (Nat.le_trans hkw.size hk)
            · rcases ((hR.row h _ p hh hp).2.2 rfl).2.2 with h0 | ⟨h1, _⟩
              · exact absurd h0 hrm
              · exact h1
          exact ⟨(fun _ => by simp), by simp, f', H', ⟨φ, hpre.trans hD.pre, hD.ra, hD.rh.wr fun i d p _ _ _ hw => hup _ hw,
            hkw.trans ⟨hD.kw.os, hD.kw.tape, hD.kw.output, hD.kw.size, fun k hk hn => hD.kw.block k hk fun hw => hn (hup k hw)⟩⟩, hq⟩
        refine wp_region_R (R := RW ops φ1 ms { w with drawn := w.drawn + 1 }) hmix ?_
        have hfin := awpOrd_ok hR1 hms' hsel hd hend (fun c a w hp => hp.1 c rfl) ord ops.size (Array.replicate ops.size false) f H a _ φ1 hfrom ⟨List.prefix_refl _, hr, hR1, KeepW.refl _ _, fun _ _ _ => rfl, Nat.le_refl _, fun _ _ _ => rfl⟩ hord
        exact hfin
  | .seq x y, Q, f, H, a, w, hc, h, hRR => by
    simp only [codeOK, Bool.and_eq_true] at hc
    simp only [awp] at h
    refine wp_seq (wp_mono (awp_ok hm hW hmix x _ f H a w hc.1 h hRR) fun e a' w' hq => ?_)
    obtain ⟨hp, ho, f', H', hRR', hq⟩ := hq
    cases e with
    | normal => exact awp_ok hm hW hmix y Q f' H' a' w' hc.2 hq hRR'
    | panic c => exact absurd rfl (hp c)
    | outgrown => exact absurd rfl ho
    | exit id => exact ⟨(fun _ => by simp), by simp, f', H', hRR', hq⟩
    | goto l => exact ⟨(fun _ => by simp), by simp, f', H', hRR', hq⟩
    | ret => exact ⟨(fun _ => by simp), by simp, f', H', hRR', hq⟩
  | .cond x y z, Q, f, H, a, w, hc, h, hRR => by
    simp only [codeOK, Bool.and_eq_true] at hc
    simp only [awp] at h
    split at h
    · rename_i b hb
      obtain ⟨φ, hpre, hr, hR, hkw⟩ := id hRR
      have he : a.eval x = .bool b := hr.ev hb
      exact wp_cond_split he (fun ht => awp_ok hm hW hmix y Q f H a w hc.1 (h.1 ht) hRR) (fun ht => awp_ok hm hW hmix z Q f H a w hc.2 (h.2 ht) hRR)
    · exact h.elim
  | .block id c, Q, f, H, a, w, hc, h, hRR => by
    simp only [codeOK] at hc
    simp only [awp] at h
    refine wp_block (wp_mono (awp_ok hm hW hmix c _ f H a w hc h hRR) fun e a' w' hq => ?_)
    obtain ⟨hp, ho, f', H', hRR', hq⟩ := hq
    cases e with
    | normal => exact ⟨(fun _ => by simp), by simp, f', H', hRR', hq⟩
    | panic c => exact absurd rfl (hp c)
    | outgrown => exact absurd rfl ho
    | exit i =>
      simp only [bQ] at hq
      simp only [Exit.inBlock]
      split
      · rename_i hi; rw [if_pos hi] at hq; exact ⟨(fun _ => by simp), by simp, f', H', hRR', hq⟩
      · rename_i hi; rw [if_neg hi] at hq; exact ⟨(fun _ => by simp), by simp, f', H', hRR', hq⟩
    | goto l => exact ⟨(fun _ => by simp), by simp, f', H', hRR', hq⟩
    | ret => exact ⟨(fun _ => by simp), by simp, f', H', hRR', hq⟩
  | .loop c, Q, f, H, a, w, hc, h, hRR => by
    simp only [codeOK] at hc
    simp only [awp, ALoop] at h
    obtain ⟨σ, st, J, μ, ⟨s0, ρ0, hJ0, hw0⟩, hround⟩ := h
    -- the state's number is carried by the invariant; the measure is read off the least state that fits
    have key : ∀ N s a w, μ s ≤ N → J s → RR φ0 w0 Wr n (st s).1 (st s).2 a w → ∀ (b : Frame) (k : List Item) (cs : List Frame),
        ∃ e a' w', LQ φ0 w0 Wr n Q e a' w' ∧ Arrives P (lone (b.at a (.code c :: .inLoop c :: k)) cs w) b k cs e a' w' := by
      intro N
      induction N with
      | zero =>
        intro s a w hN hJ hR b k cs
        obtain ⟨e, a₁, w₁, hq, harr⟩ := awp_ok hm hW hmix c _ _ _ a w hc (hround s hJ) hR b (.inLoop c :: k) cs
        obtain ⟨hp, ho, f', H', hRR', hq⟩ := hq
        cases e with
        | normal => obtain ⟨s', ρ, ⟨_, hlt⟩, _⟩ := hq; omega
        | panic c => exact absurd rfl (hp c)
        | outgrown => exact absurd rfl ho
        | exit id => exact ⟨_, a₁, w₁, ⟨(fun _ => by simp), by simp, f', H', hRR', hq⟩, .pass (x := .inLoop c) rfl (fun _ _ => .inl (by simp)) harr⟩
        | goto l => exact ⟨_, a₁, w₁, ⟨(fun _ => by simp), by simp, f', H', hRR', hq⟩, .pass (x := .inLoop c) rfl (fun _ _ => .inl (by simp)) harr⟩
        | ret => exact ⟨_, a₁, w₁, ⟨(fun _ => by simp), by simp, f', H', hRR', hq⟩, .pass (x := .inLoop c) rfl (fun _ _ => .inl (by simp)) harr⟩
      | succ N ih =>
        intro s a w hN hJ hR b k cs
        obtain ⟨e, a₁, w₁, hq, harr⟩ := awp_ok hm hW hmix c _ _ _ a w hc (hround s hJ) hR b (.inLoop c :: k) cs
        obtain ⟨hp, ho, f', H', hRR', hq⟩ := hq
        cases e with
        | normal =>
          obtain ⟨s', ρ, ⟨hJ', hlt⟩, hwk⟩ := hq
          obtain ⟨e₂, a₂, w₂, hq₂, harr₂⟩ := ih s' a₁ w₁ (by omega) hJ' (weak_ok hm hwk hRR') b k cs
          exact ⟨e₂, a₂, w₂, hq₂, .of_steps (Steps.trans harr (.one step_inLoop)) harr₂⟩
        | panic c => exact absurd rfl (hp c)
        | outgrown => exact absurd rfl ho
        | exit id => exact ⟨_, a₁, w₁, ⟨(fun _ => by simp), by simp, f', H', hRR', hq⟩, .pass (x := .inLoop c) rfl (fun _ _ => .inl (by simp)) harr⟩
        | goto l => exact ⟨_, a₁, w₁, ⟨(fun _ => by simp), by simp, f', H', hRR', hq⟩, .pass (x := .inLoop c) rfl (fun _ _ => .inl (by simp)) harr⟩
        | ret => exact ⟨_, a₁, w₁, ⟨(fun _ => by simp), by simp, f', H', hRR', hq⟩, .pass (x := .inLoop c) rfl (fun _ _ => .inl (by simp)) harr⟩
    intro b k cs
    obtain ⟨e, a', w', hq, harr⟩ := key (μ s0) s0 a w (Nat.le_refl _) hJ0 (weak_ok hm hw0 hRR) b k cs
    exact ⟨e, a', w', hq, .of_steps (.one step_loop) harr⟩
  | .rangeFunc _ _ _ _, _, _, _, _, _, _, h, _ => h.elim
  | .scope _, _, _, _, _, _, _, h, _ => h.elim
  | .label _, _, _, _, _, _, _, h, _ => h.elim
  | .goto _, _, _, _, _, _, _, h, _ => h.elim
  | .refuse _, _, _, _, _, _, _, h, _ => h.elim

/-! ### A whole function -/

theorem initF_get : ∀ (ts : List TV) (k i : Nat) (t : TV), get (initF k ts) i = some t → k ≤ i ∧ ts[i - k]? = some t
  | [], k, i, t, h => by simp [initF, get] at h
  | u :: ts, k, i, t, h => by
    simp only [initF, get] at h
    split at h
    · rename_i he; simp at h; subst h; subst he; exact ⟨Nat.le_refl _, by simp⟩
    · obtain ⟨h1, h2⟩ := initF_get ts (k + 1) i t h
      exact ⟨by omega, by rw [show i - k = (i - (k + 1)) + 1 by omega]; simpa using h2⟩

theorem results_run {fn : Func} {slots : List Nat} (h : fn.results = (slots.map ResultVar.tmp).toArray) (h4 : slots.length ≤ 4) (tmps : Array Value) (w : World) :
    (results fn tmps).run P w = .ok (match slots with | [s] => tmps.getD s undef | _ => .tuple (slots.map fun s => tmps.getD s undef).toArray) w := by
  match slots, h4 with
  | [], _ => simp [results, h]
  | [s], _ => simp [results, h]
  | [s, s'], _ => simp [results, h]
  | [s, s', s''], _ => simp [results, h]
  | [s, s', s'', s'''], _ => simp [results, h]
  | _ :: _ :: _ :: _ :: _ :: _, h4 => simp at h4

theorem zip_get : ∀ (slots : List Nat) (xs : List AV), slots.Nodup → ∀ (i s : Nat) x, slots[i]? = some s → xs[i]? = some x → get (zipSlots slots xs) s = some (.a x)
  | [], _, _, i, s, x, h, _ => by simp at h
  | k :: ks, [], _, i, s, x, _, h => by simp at h
  | k :: ks, y :: ys, hn, 0, s, x, h1, h2 => by
    simp at h1 h2; subst h1; subst h2
    simp [zipSlots, get]
  | k :: ks, y :: ys, hn, i + 1, s, x, h1, h2 => by
    have hn' := List.nodup_cons.1 hn
    have h1' : ks[i]? = some s := by simpa using h1
    have hne : s ≠ k := fun e => hn'.1 (e ▸ List.mem_of_getElem? h1')
    simp only [zipSlots, get, if_neg hne]
    exact zip_get ks ys hn'.2 i s x h1' (by simpa using h2)

theorem acalls_of {k : FuncId} {fn : Func} {c : Code} (D : Nat → Option DR) {args : List TV} {ms : List Nat} {H : Hp} {R : TV → Hp → Prop} {m : Nat} {slots : List Nat}
    (hf : P.funcs[k]? = some fn) (hb : fn.body = some c) (hname : (fn.name == "runtime.NumGoroutine") = false) (hres : fn.results = (slots.map ResultVar.tmp).toArray) (hnd : slots.Nodup) (h4 : slots.length ≤ 4)
    (hmix : P.follows .mixedOrders = true) (hc : codeOK D fn.ntmps c = true) (hal : args.length ≤ fn.ntmps) (hm : H.length = m)
    (hms : ∀ m ∈ ms, ∃ d, H[m]? = some (.r true d)) (hms' : ∀ (i : Nat) d, H[i]? = some (.r true d) → i ∈ ms)
    (h : awp P m D c (AFin m slots R) (initF 0 args) H) : ACalls P k args ms H R := by
  refine ⟨⟨fn, hf, hname, by simp [hb]⟩, hms, fun φ Wr w vs hR hW hvs => ?_⟩
  refine calls_of_wp hf hb ?_
  have hl := hvs.length
  -- the blocks that this call may write
  let Wi : Nat → Prop := fun k => w.heap.size ≤ k ∨ ∃ h ∈ ms, ∃ p, φ[h]? = some p ∧ p.room ≠ 0 ∧ p.blk = k
  have hRi : RH φ Wi H w := hR.wr fun i d p hi hp hrm _ => .inr ⟨i, hms' i d hi, p, hp, hrm, rfl⟩
  have hstart : RR φ w Wi fn.ntmps (initF 0 args) H { tmps := vs.toArray ++ Array.replicate (fn.ntmps - vs.toArray.size) undef, defers := [] } w := by
    refine ⟨φ, List.prefix_refl _, ⟨by simp; omega, rfl, fun i t hi => ?_⟩, hRi, KeepW.refl _ _⟩
    obtain ⟨_, h2⟩ := initF_get args 0 i t hi
    obtain ⟨y, hy, ht⟩ := hvs.get (show args[i]? = some t by simpa using h2)
    have hlt : i < vs.length := by
      rcases Nat.lt_or_ge i vs.length with h' | h'
      · exact h'
      · rw [List.getElem?_eq_none h'] at hy; cases hy
    exact ⟨by omega, y, by rw [Array.getElem?_append_left (by simpa using hlt)]; simpa using hy, ht⟩
  refine wp_mono (awp_ok (w0 := w) (Wr := Wi) (by rw [hR.len, hm]) (fun b hb => .inl hb) hmix c _ _ H _ w hc h hstart) fun e a w' hq => ?_
  obtain ⟨hp, ho, f, H', hRR, hfin⟩ := hq
  obtain ⟨he, ρ, xs, H'', hxl, hwk, hRR'⟩ := hfin
  obtain ⟨φ', hpre, hra, hrh, hkw⟩ := weak_ok (by rw [hR.len, hm]) hwk hRR
  have hWi : ∀ k, Wi k → Wr k := fun k hk => by
    rcases hk with hk | ⟨h, hh, p, hp, hrm, rfl⟩
    · exact hW k hk
    · obtain ⟨d, hd⟩ := hms h hh
      rcases ((hR.row h _ p hd hp).2.2 rfl).2.2 with h0 | ⟨h1, _⟩
      · exact absurd h0 hrm
      · exact h1
  have hkeep : Keep φ ms w w' := ⟨hkw.os, hkw.tape, hkw.output, hkw.size, fun k hk hn => hkw.block k hk fun hw => by
    rcases hw with hw | ⟨h, hh, p, hp, hrm, he⟩
    · omega
    · exact hn h hh p hp hrm he⟩
  have hslot : ∀ (i s : Nat) x, slots[i]? = some s → xs[i]? = some x → AVR φ' x (a.tmps.getD s undef) := by
    intro i s x h1 h2
    obtain ⟨_, y, hy, ht⟩ := hra.slot s _ (zip_get slots xs hnd i s x h1 h2)
    rw [Array.getD_eq_getD_getElem?, hy]; exact ht
  have hgoal : ∀ v, (results fn a.tmps).run P w' = .ok v w' → TR φ' (rtv xs) v → bodyPost P fn (fun e w' => ∃ φ' ret v H', e = .returned v ∧ φ <+: φ' ∧ TR φ' ret v ∧ RH φ' Wr H' w' ∧ Keep φ ms w w' ∧ R ret H') e a w' := fun v hv ht => by
    have := hra.defers
    rcases he with rfl | rfl
    · exact bodyPost_ret hv this ⟨φ', _, v, H'', rfl, hpre, ht, hrh.wr fun i d p _ _ _ hw => hWi _ hw, hkeep, hRR'⟩
    · exact bodyPost_end hv this ⟨φ', _, v, H'', rfl, hpre, ht, hrh.wr fun i d p _ _ _ hw => hWi _ hw, hkeep, hRR'⟩
  have hrun := results_run (P := P) hres h4 a.tmps w'
  refine hgoal _ hrun ?_
  match slots, xs, hxl, hslot with
  | [], [], _, _ => exact ⟨[], rfl, .nil⟩
  | [s], [x], _, hslot => exact hslot 0 s x rfl rfl
  | s :: s' :: r, x :: x' :: xr, hxl, hslot =>
    refine ⟨_, rfl, F2.of_get (by simpa using hxl) fun i y hy => ?_⟩
    have hil : i < (s :: s' :: r).length := by
      rcases Nat.lt_or_ge i (s :: s' :: r).length with h' | h'
      · exact h'
      · rw [List.getElem?_eq_none (by rw [hxl]; exact h')] at hy; cases hy
    exact ⟨_, by rw [List.getElem?_map, List.getElem?_eq_getElem hil]; rfl, hslot i _ y (List.getElem?_eq_getElem hil) hy⟩

/-! ### Results that lie in variables -/

/-- The value that a result is. -/
def RS.val (P : Program) (w : World) (tmps : Array Value) : RS → Value → Prop
  | .t s, v => v = tmps.getD s undef
  | .c s ty, v => ∃ ad, tmps.getD s undef = .pointer (some ad) ∧ (loadVar ty ad).run P w = .ok v w

def retV : List Value → Value
  | [v] => v
  | vs => .tuple vs.toArray

theorem results_runC {fn : Func} {rs : List RS} (h : fn.results = (rs.map RS.rv).toArray) (tmps : Array Value) (w : World) {vs : List Value} (hv : F2 (RS.val P w tmps) rs vs) :
    (results fn tmps).run P w = .ok (retV vs) w := by
  unfold results
  rw [h]
  simp only [Sem.run_bind]
  rw [mapM_run (P := P) (w := w) (vs := vs)]
  · simp only [Result.andThen_ok, Sem.run_pure]
    match vs with
    | [] => rfl
    | [v] => rfl
    | v :: v' :: vs => simp [retV]
  · clear h
    induction hv with
    | nil => exact .nil
    | @cons r v rs vs h1 _ ih =>
      refine .cons ?_ ih
      cases r with
      | t s => simp only [RS.val] at h1; subst h1; simp [RS.rv]
      | c s ty => obtain ⟨ad, h2, h3⟩ := h1; simp only [RS.rv, h2, asAddr, Sem.run_bind, Sem.run_pure, Result.andThen_ok, h3]

theorem lres_ok {φ : List Pl} {Wr : Nat → Prop} {H : Hp} {w : World} {n : Nat} (hR : RH φ Wr H w) : ∀ {rs : List RS} {f f' : F} {a : Act} {vc : Prop}, RA φ n f a → lres P H rs f = some (vc, f') → vc → (rs.map RS.slot).Nodup →
    ∃ a', RA φ n f' a' ∧ a'.defers = a.defers ∧ (∀ k, ¬ k ∈ rs.map RS.slot → a'.tmps.getD k undef = a.tmps.getD k undef) ∧ (∀ r ∈ rs, RS.val P w a.tmps r (a'.tmps.getD r.slot undef))
  | [], f, f', a, vc, hr, h, hvc, _ => by
    simp only [lres, Option.some.injEq, Prod.mk.injEq] at h
    obtain ⟨-, rfl⟩ := h
    exact ⟨a, hr, rfl, fun _ _ => rfl, fun r hm => by simp at hm⟩
  | .t s :: rs, f, f', a, vc, hr, h, hvc, hn => by
    simp only [lres] at h
    have hn' := List.nodup_cons.1 hn
    obtain ⟨a', h1, h2, h3, h4⟩ := lres_ok hR hr h hvc hn'.2
    refine ⟨a', h1, h2, fun k hk => h3 k (by simp at hk ⊢; exact hk.2), fun r hm => ?_⟩
    rcases List.mem_cons.1 hm with rfl | hm
    · exact h3 s hn'.1
    · exact h4 r hm
  | .c s ty :: rs, f, f', a, vc, hr, h, hvc, hn => by
    simp only [lres] at h
    have hn' := List.nodup_cons.1 hn
    split at h
    · rename_i x hx
      split at h
      · rename_i vc1 t hld
        split at h
        · rename_i vc2 f2 hrec
          simp only [Option.some.injEq, Prod.mk.injEq] at h
          obtain ⟨rfl, rfl⟩ := h
          obtain ⟨hlt, y, hy, ht⟩ := hr.slot s x hx
          obtain ⟨z, hz, h0, i, s', p, hpt, hp, _, hrun⟩ := opLd_ok (P := P) hR ht hld hvc.1
          subst hpt
          obtain ⟨p', hp', hye⟩ := ht
          have hpp : p' = p := by rw [hp] at hp'; exact (Option.some.inj hp').symm
          subst hpp
          have hr2 : RA φ n ((s, t) :: f) (a.put (some s) z) := hr.put (d := some s) (fun k hk => by cases hk; exact hlt) hz
          obtain ⟨a', h1, h2, h3, h4⟩ := lres_ok hR hr2 hrec hvc.2 hn'.2
          have hput : ∀ k, ¬ k = s → (a.put (some s) z).tmps.getD k undef = a.tmps.getD k undef := fun k hk => by
            simp [Act.put, Array.getElem?_setIfInBounds_ne (Ne.symm hk)]
          refine ⟨a', h1, by rw [h2]; rfl, fun k hk => ?_, fun r hm => ?_⟩
          · simp only [List.map_cons, List.mem_cons, not_or] at hk
            rw [h3 k hk.2, hput k hk.1]
          · rcases List.mem_cons.1 hm with rfl | hm
            · have e : a'.tmps.getD s undef = z := by
                rw [h3 s hn'.1]
                have : s < a.tmps.size := by rw [hr.size]; exact hlt
                simp [Act.put, this]
              have hsl : RS.slot (.c s ty) = s := rfl
              rw [hsl, e]
              refine ⟨p'.ad i s', by rw [Array.getD_eq_getD_getElem?, hy, hye]; rfl, ?_⟩
              have := hrun w rfl
              rw [hye] at this
              simpa [Instr.loadAt, Instr.sureAddr] using this
            · have hne : ¬ r.slot = s := fun e => hn'.1 (by have : RS.slot (.c s ty) = s := rfl; rw [this, ← e]; exact List.mem_map_of_mem hm)
              have := h4 r hm
              cases r with
              | t q => simp only [RS.val, RS.slot] at this hne ⊢; rw [this, hput q hne]
              | c q ty' => obtain ⟨ad, g1, g2⟩ := this; simp only [RS.slot] at hne; exact ⟨ad, by rw [← hput q hne]; exact g1, g2⟩
        · cases h
      · cases h
    · cases h

theorem acalls_ofC {k : FuncId} {fn : Func} {c : Code} (D : Nat → Option DR) {args : List TV} {ms : List Nat} {H : Hp} {R : TV → Hp → Prop} {m : Nat} {rs : List RS}
    (hf : P.funcs[k]? = some fn) (hb : fn.body = some c) (hname : (fn.name == "runtime.NumGoroutine") = false) (hres : fn.results = (rs.map RS.rv).toArray) (hnd : (rs.map RS.slot).Nodup)
    (hmix : P.follows .mixedOrders = true) (hc : codeOK D fn.ntmps c = true) (hal : args.length ≤ fn.ntmps) (hm : H.length = m)
    (hms : ∀ m ∈ ms, ∃ d, H[m]? = some (.r true d)) (hms' : ∀ (i : Nat) d, H[i]? = some (.r true d) → i ∈ ms)
    (h : awp P m D c (AFinC P m rs R) (initF 0 args) H) : ACalls P k args ms H R := by
  refine ⟨⟨fn, hf, hname, by simp [hb]⟩, hms, fun φ Wr w vs hR hW hvs => ?_⟩
  refine calls_of_wp hf hb ?_
  have hl := hvs.length
  let Wi : Nat → Prop := fun k => w.heap.size ≤ k ∨ ∃ h ∈ ms, ∃ p, φ[h]? = some p ∧ p.room ≠ 0 ∧ p.blk = k
  have hRi : RH φ Wi H w := hR.wr fun i d p hi hp hrm _ => .inr ⟨i, hms' i d hi, p, hp, hrm, rfl⟩
  have hstart : RR φ w Wi fn.ntmps (initF 0 args) H { tmps := vs.toArray ++ Array.replicate (fn.ntmps - vs.toArray.size) undef, defers := [] } w := by
    refine ⟨φ, List.prefix_refl _, ⟨by simp; omega, rfl, fun i t hi => ?_⟩, hRi, KeepW.refl _ _⟩
    obtain ⟨_, h2⟩ := initF_get args 0 i t hi
    obtain ⟨y, hy, ht⟩ := hvs.get (show args[i]? = some t by simpa using h2)
    have hlt : i < vs.length := by
      rcases Nat.lt_or_ge i vs.length with h' | h'
      · exact h'
      · rw [List.getElem?_eq_none h'] at hy; cases hy
    exact ⟨by omega, y, by rw [Array.getElem?_append_left (by simpa using hlt)]; simpa using hy, ht⟩
  refine wp_mono (awp_ok (w0 := w) (Wr := Wi) (by rw [hR.len, hm]) (fun b hb => .inl hb) hmix c _ _ H _ w hc h hstart) fun e a w' hq => ?_
  obtain ⟨hp, ho, f0, H', hRR0, hfin0⟩ := hq
  unfold AFinC at hfin0
  split at hfin0
  case h_2 => exact hfin0.elim
  rename_i vc f hlres
  obtain ⟨hvc, hfin⟩ := hfin0
  obtain ⟨φ0, hpre0, hra0, hrh0, hkw0⟩ := hRR0
  obtain ⟨a', hra', hdef', _, hvals⟩ := lres_ok (P := P) hrh0 hra0 hlres hvc hnd
  have hRR : RR φ w Wi fn.ntmps f H' a' w' := ⟨φ0, hpre0, hra', hrh0, hkw0⟩
  obtain ⟨he, ρ, xs, H'', hxl, hwk, hRR'⟩ := hfin
  obtain ⟨φ', hpre, hra, hrh, hkw⟩ := weak_ok (by rw [hR.len, hm]) hwk hRR
  have hWi : ∀ k, Wi k → Wr k := fun k hk => by
    rcases hk with hk | ⟨h, hh, p, hp, hrm, rfl⟩
    · exact hW k hk
    · obtain ⟨d, hd⟩ := hms h hh
      rcases ((hR.row h _ p hd hp).2.2 rfl).2.2 with h0 | ⟨h1, _⟩
      · exact absurd h0 hrm
      · exact h1
  have hkeep : Keep φ ms w w' := ⟨hkw.os, hkw.tape, hkw.output, hkw.size, fun k hk hn => hkw.block k hk fun hw => by
    rcases hw with hw | ⟨h, hh, p, hp, hrm, he⟩
    · omega
    · exact hn h hh p hp hrm he⟩
  have hslot : ∀ (i s : Nat) x, (rs.map RS.slot)[i]? = some s → xs[i]? = some x → AVR φ' x (a'.tmps.getD s undef) := by
    intro i s x h1 h2
    obtain ⟨_, y, hy, ht⟩ := hra.slot s _ (zip_get _ xs hnd i s x h1 h2)
    rw [Array.getD_eq_getD_getElem?, hy]; exact ht
  have hgoal : ∀ v, (results fn a.tmps).run P w' = .ok v w' → TR φ' (rtv xs) v → bodyPost P fn (fun e w' => ∃ φ' ret v H', e = .returned v ∧ φ <+: φ' ∧ TR φ' ret v ∧ RH φ' Wr H' w' ∧ Keep φ ms w w' ∧ R ret H') e a w' := fun v hv ht => by
    have := hra0.defers
    rcases he with rfl | rfl
    · exact bodyPost_ret hv this ⟨φ', _, v, H'', rfl, hpre, ht, hrh.wr fun i d p _ _ _ hw => hWi _ hw, hkeep, hRR'⟩
    · exact bodyPost_end hv this ⟨φ', _, v, H'', rfl, hpre, ht, hrh.wr fun i d p _ _ _ hw => hWi _ hw, hkeep, hRR'⟩
  have hrun := results_runC (P := P) hres a.tmps w' (vs := rs.map fun r => a'.tmps.getD r.slot undef) (F2.of_get (by simp) fun i r hi => by
    exact ⟨_, by rw [List.getElem?_map, hi]; rfl, hvals r (List.mem_of_getElem? hi)⟩)
  refine hgoal _ hrun ?_
  have hxl' : xs.length = rs.length := by simpa using hxl
  match rs, xs, hxl', hslot with
  | [], [], _, _ => exact ⟨[], rfl, .nil⟩
  | [r], [x], _, hslot => exact hslot 0 r.slot x rfl rfl
  | r :: r' :: rr, x :: x' :: xr, hxl', hslot =>
    refine ⟨_, rfl, F2.of_get (by simpa using hxl') fun i y hy => ?_⟩
    have hil : i < (r :: r' :: rr).length := by
      rcases Nat.lt_or_ge i (r :: r' :: rr).length with h' | h'
      · exact h'
      · rw [List.getElem?_eq_none (by rw [hxl']; exact h')] at hy; cases hy
    have hgo : ((r :: r' :: rr).map fun r => a'.tmps.getD r.slot undef)[i]? = some (a'.tmps.getD ((r :: r' :: rr)[i]).slot undef) := by rw [List.getElem?_map, List.getElem?_eq_getElem hil]; rfl
    exact ⟨_, hgo, hslot i _ y (by rw [List.getElem?_map, List.getElem?_eq_getElem hil]; rfl) hy⟩
end Go.Ax
