/-
  THE IDEAL LAYER, PART S: what was written is written no more: it is told by its contents from then on.
-/
import Derived.Test.YtkjgadanaknleaaIdR
namespace Go.Id
open Go.RowKit
set_option linter.unusedVariables false
set_option linter.unusedSimpArgs false

theorem Sim.freeze {μ : Mu} {σ : St} {w : World} (h : Sim μ σ w) {j : Nat} {cs : List D} (hj : σ.obj j = some (.cells cs)) :
    ∃ μ' : Mu, μ.le μ' ∧ Sim μ' (σ.put j none) w ∧ ∃ b o, μ.loc j = some (b, o) ∧ ∀ i d, cs[i]? = some d → ∃ v, μ'.own b (o + i) = .imm v ∧ CR μ' d [v] := by
  obtain ⟨b, o, h1, h2, h3, h4⟩ := h.obj j cs hj
  have hin : ∀ o', o ≤ o' → o' < o + cs.length → μ.own b o' = .obj j ∧ ∃ v, w.cell? ⟨b, o', none⟩ = some v := by
    intro o' g1 g2
    obtain ⟨k1, k2, v, k3, k4⟩ := h4 (o' - o) cs[o' - o] (by rw [List.getElem?_eq_getElem])
    rw [show o + (o' - o) = o' by omega] at k1 k3
    exact ⟨k1, v, k3⟩
  let μ' : Mu := { μ with own := fun b' o' => if b' = b ∧ o ≤ o' ∧ o' < o + cs.length then (match w.cell? ⟨b, o', none⟩ with | some v => .imm v | none => .none) else μ.own b' o' }
  have hown : ∀ b' o', μ'.own b' o' = if b' = b ∧ o ≤ o' ∧ o' < o + cs.length then (match w.cell? ⟨b, o', none⟩ with | some v => .imm v | none => .none) else μ.own b' o' := fun _ _ => rfl
  have hkeep : ∀ b' o', μ.own b' o' ≠ .obj j → μ'.own b' o' = μ.own b' o' := by
    intro b' o' hne
    rw [hown, if_neg]
    rintro ⟨rfl, g1, g2⟩
    exact hne (hin o' g1 g2).1
  have hle : μ.le μ' := by
    refine ⟨fun b' o' v e => ?_, fun _ _ h => h, fun _ _ h => h, rfl⟩
    rw [hkeep _ _ (by rw [e]; simp), e]
  refine ⟨μ', hle, ⟨fun b' o' v e => ?_, fun i cs' e => ?_, fun t e => ?_, fun b' o' hb => ?_, fun i hi => ?_, h.bel⟩, b, o, h1, fun i d hi => ?_⟩
  · rw [hown] at e
    split at e
    · rename_i hc
      obtain ⟨rfl, g1, g2⟩ := hc
      obtain ⟨_, u, g3⟩ := hin o' g1 g2
      rw [g3] at e ⊢
      simp only [Own.imm.injEq] at e
      rw [e]
    · exact h.imm _ _ _ e
  · by_cases hij : i = j
    · subst hij; simp [St.put] at e
    · simp [St.put, hij] at e
      obtain ⟨b', o', m1, m2, m3, m4⟩ := h.obj i cs' e
      refine ⟨b', o', m1, m2, m3, fun k d hk => ?_⟩
      obtain ⟨g1, g2, v, g3, g4⟩ := m4 k d hk
      exact ⟨by rw [hkeep _ _ (by rw [g1]; simpa using hij), g1], g2, v, g3, g4.mono hle⟩
  · have ht : t ≠ j := by intro ht; subst ht; simp [St.put] at e
    simp [St.put, ht] at e
    obtain ⟨b', e', k, m1, m2, m3, m4⟩ := h.tok t e
    refine ⟨b', e', k, m1, m2, m3, fun i hi => ?_⟩
    obtain ⟨g1, g2, v, g3⟩ := m4 i hi
    exact ⟨by rw [hkeep _ _ (by rw [g1]; simp), g1], g2, v, g3⟩
  · rw [hkeep _ _ (by rw [h.blk b' o' hb]; simp)]; exact h.blk b' o' hb
  · have := h.nxt i hi
    refine ⟨?_, this.2⟩
    simp only [St.put]; split
    · rfl
    · exact this.1
  · obtain ⟨k1, k2, v, k3, k4⟩ := h4 i d hi
    have hlt := (List.getElem?_eq_some_iff.1 hi).1
    refine ⟨v, ?_, k4.mono hle⟩
    rw [hown, if_pos ⟨rfl, by omega, by omega⟩, k3]

theorem CRat.of {μ : Mu} : ∀ {cs : List D} {b o : Nat}, (∀ i d, cs[i]? = some d → ∃ v, μ.own b (o + i) = .imm v ∧ CR μ d [v]) → CRat μ cs b o
  | [], _, _, _ => by simp only [CRat]
  | d :: ds, b, o, h => by
    simp only [CRat]
    refine ⟨by simpa using h 0 d rfl, CRat.of fun i x hi => ?_⟩
    have := h (i + 1) x (by simpa using hi)
    rwa [show o + (i + 1) = o + 1 + i by omega] at this
/-- Scalars that nobody writes any more. -/
theorem imm_row {μ : Mu} : ∀ {cs : List D} {b o : Nat}, (∀ i d, cs[i]? = some d → ∃ v, μ.own b (o + i) = .imm v ∧ CR μ d [v]) → cs.all scal = true → ∃ vs, vs.length = cs.length ∧ vs.all Value.oneCell' = true ∧ ImmAt μ b o vs ∧ CRl μ cs vs
  | [], _, _, _, _ => ⟨[], rfl, rfl, fun i v e => by simp at e, by simp only [CRl]⟩
  | d :: ds, b, o, h, hs => by
    simp only [List.all_cons, Bool.and_eq_true] at hs
    obtain ⟨v, h1, h2⟩ := h 0 d rfl
    obtain ⟨ws, g1, g2, g3, g4⟩ := imm_row (cs := ds) (b := b) (o := o + 1) (fun i x hi => by
      have := h (i + 1) x (by simpa using hi)
      rwa [show o + (i + 1) = o + 1 + i by omega] at this) hs.2
    refine ⟨v :: ws, by simp [g1], by simp [(scal_cell hs.1 h2).1, g2], fun i u e => ?_, ?_⟩
    · cases i with
      | zero => simp at e; subst e; exact h1
      | succ i =>
        have := g3 i u (by simpa using e)
        rwa [show o + 1 + i = o + (i + 1) by omega] at this
    · simp only [CRl]; exact ⟨v, ws, rfl, h2, g4⟩
theorem chunks_length (sz : Nat) : ∀ (n : Nat) (cs : List D), (chunks sz n cs).length = n
  | 0, _ => rfl
  | n + 1, cs => by rw [chunks, List.length_cons, chunks_length sz n]
theorem CRes.of {μ : Mu} {sz : Nat} : ∀ {n : Nat} {cs : List D} {b o : Nat}, n * sz ≤ cs.length → (∀ i d, cs[i]? = some d → ∃ v, μ.own b (o + i) = .imm v ∧ CR μ d [v]) → cs.all scal = true → CRes μ sz (chunks sz n cs) b o
  | 0, _, _, _, _, _, _ => by simp only [chunks, CRes]
  | n + 1, cs, b, o, hn, h, hs => by
    rw [Nat.succ_mul] at hn
    simp only [chunks, CRes]
    have hs1 : (cs.take sz).all scal = true := by
      rw [List.all_eq_true] at hs ⊢
      exact fun x hx => hs x (List.mem_of_mem_take hx)
    have hs2 : (cs.drop sz).all scal = true := by
      rw [List.all_eq_true] at hs ⊢
      exact fun x hx => hs x (List.mem_of_mem_drop hx)
    refine ⟨?_, CRes.of (by rw [List.length_drop]; omega) (fun i d hi => ?_) hs2⟩
    · obtain ⟨vs, g1, g2, g3, g4⟩ := imm_row (cs := cs.take sz) (b := b) (o := o) (fun i d hi => by
        rw [List.getElem?_take] at hi
        split at hi
        · exact h i d hi
        · cases hi) hs1
      refine ⟨vs, by rw [g1, List.length_take]; omega, g2, g3, ?_⟩
      split
      · rename_i h1
        subst h1
        cases cs with
        | nil => simp at hn
        | cons d ds =>
          simp only [List.take_succ_cons, List.take_zero, CRl] at g4
          obtain ⟨v, ws, rfl, k1, rfl⟩ := g4
          exact k1
      · simp only [CR]; exact g4
    · rw [List.getElem?_drop] at hi
      have := h _ d hi
      rwa [show o + (sz + i) = o + sz + i by omega] at this

/-- A datum whose variable 'j' is written no more. -/
inductive Frz (j : Nat) (cs : List D) : D → D → Prop
  | refl (d : D) : Frz j cs d d
  | slc (off sz len : Nat) (r : Room) (h : off + len * sz ≤ cs.length) (hs : cs.all scal = true) : Frz j cs (.rslc j off sz len r) (.slc sz (chunks sz len (cs.drop off)) r)
  | box (off : Nat) : Frz j cs (.ref j off) (.box cs off)
inductive Frzs (j : Nat) (cs : List D) : List D → List D → Prop
  | nil : Frzs j cs [] []
  | cons {d d' : D} {l l' : List D} (h : Frz j cs d d') (hs : Frzs j cs l l') : Frzs j cs (d :: l) (d' :: l')
inductive FrzO (j : Nat) (cs : List D) : Out → Out → Prop
  | one {d d' : D} (h : Frz j cs d d') : FrzO j cs (.ret d) (.ret d')
  | many {l l' : List D} (h : Frzs j cs l l') : FrzO j cs (.ret (.tuple l)) (.ret (.tuple l'))

theorem Frz.sound {μ μ' : Mu} (hle : μ.le μ') {j : Nat} {cs : List D} {b o : Nat} (hl : μ.loc j = some (b, o)) (hi : ∀ i d, cs[i]? = some d → ∃ v, μ'.own b (o + i) = .imm v ∧ CR μ' d [v]) {d d' : D} (h : Frz j cs d d') {v : Value} (hv : VR μ d v) : VR μ' d' v := by
  cases h with
  | refl => exact hv.mono hle
  | slc off sz len r h hs =>
    obtain ⟨h0, hc⟩ := hv
    simp only [CR] at hc
    obtain ⟨b', o', cap, g1, g2, g3⟩ := hc
    rw [hl] at g1
    simp only [Option.some.injEq, Prod.mk.injEq] at g1
    obtain ⟨rfl, rfl⟩ := g1
    refine ⟨by cases v <;> first | exact h0 | rfl, ?_⟩
    simp only [CR]
    refine ⟨b, o + off, cap, ?_, CRes.of (by rw [List.length_drop]; omega) (fun i d hi' => ?_) ?_, ?_⟩
    · rw [chunks_length]; exact g2
    · rw [List.getElem?_drop] at hi'
      have := hi _ d hi'
      rwa [show o + (off + i) = o + off + i by omega] at this
    · rw [List.all_eq_true] at hs ⊢
      exact fun x hx => hs x (List.mem_of_mem_drop hx)
    · rw [chunks_length]; exact g3.mono hle
  | box off =>
    obtain ⟨h0, hc⟩ := hv
    simp only [CR] at hc
    obtain ⟨b', o', g1, g2⟩ := hc
    rw [hl] at g1
    simp only [Option.some.injEq, Prod.mk.injEq] at g1
    obtain ⟨rfl, rfl⟩ := g1
    refine ⟨by cases v <;> first | exact h0 | rfl, ?_⟩
    simp only [CR]
    exact ⟨b, o, g2, CRat.of hi⟩
theorem Frzs.sound {μ μ' : Mu} (hle : μ.le μ') {j : Nat} {cs : List D} {b o : Nat} (hl : μ.loc j = some (b, o)) (hi : ∀ i d, cs[i]? = some d → ∃ v, μ'.own b (o + i) = .imm v ∧ CR μ' d [v]) : ∀ {l l' : List D}, Frzs j cs l l' → ∀ {vs : List Value}, CRt μ l vs → CRt μ' l' vs
  | _, _, .nil, vs, h => by simpa only [CRt] using h
  | _, _, .cons h hs, vs, hv => by
    simp only [CRt] at hv ⊢
    obtain ⟨v, ws, rfl, h1, h2, h3⟩ := hv
    have := Frz.sound hle hl hi h ⟨h1, h2⟩
    exact ⟨v, ws, rfl, this.1, this.2, Frzs.sound hle hl hi hs h3⟩
theorem FrzO.sound {μ μ' : Mu} (hle : μ.le μ') {j : Nat} {cs : List D} {b o : Nat} (hl : μ.loc j = some (b, o)) (hi : ∀ i d, cs[i]? = some d → ∃ v, μ'.own b (o + i) = .imm v ∧ CR μ' d [v]) {x x' : Out} (h : FrzO j cs x x') {e : Ending} (hv : PRel μ x e) : PRel μ' x' e := by
  cases h with
  | one h => cases e <;> simp only [PRel] at hv ⊢; exact Frz.sound hle hl hi h hv
  | many h =>
    cases e <;> simp only [PRel] at hv ⊢
    obtain ⟨h0, hc⟩ := hv
    simp only [CR] at hc
    obtain ⟨ws, h1, h2⟩ := hc
    refine ⟨by rename_i v; cases v <;> first | exact h0 | rfl, ?_⟩
    simp only [CR]
    exact ⟨ws, h1, Frzs.sound hle hl hi h h2⟩
/-- WHAT IS RETURNED MAY BE TOLD BY ITS CONTENTS, IF NOBODY WRITES IT ANY MORE. -/
theorem Ok.freeze {P : Program} {f : FuncId} {args : List D} {σ : St} {Post : Out → St → Prop} (h : Ok P f args σ (fun o s => Post o s ∨ ∃ j cs o', s.obj j = some (.cells cs) ∧ FrzO j cs o o' ∧ Post o' (s.put j none))) : Ok P f args σ Post :=
  fun μ w vs hs ha => (h μ w vs hs ha).mono fun e w' ⟨μ', σ', out, h1, h2, h3, h4⟩ => by
    rcases h4 with h4 | ⟨j, cs, o', g1, g2, g3⟩
    · exact ⟨μ', σ', out, h1, h2, h3, h4⟩
    · obtain ⟨μ'', k1, k2, b, o, k3, k4⟩ := h2.freeze g1
      exact ⟨μ'', _, o', h1.trans k1, k2, g2.sound k1 k3 k4 h3, g3⟩
end Go.Id
