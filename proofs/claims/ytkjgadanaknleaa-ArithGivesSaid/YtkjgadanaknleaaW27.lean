/-
  THE WALKS, PART 27: the law of what stands alone.
-/
import Derived.Test.YtkjgadanaknleaaW26
namespace Go.Proofs.Ytkjgadanaknleaa
open Go Go.Id
set_option linter.unusedSimpArgs false
set_option linter.unusedVariables false
set_option maxRecDepth 100000
set_option maxHeartbeats 4000000

/-- An error is told by a number that is not nought. -/
def NoZ : Except Int Rd → Prop
  | .ok _ => True
  | .error e => e ≠ 0
theorem parse_nz : ∀ f, (∀ l d, 4 * l.length + 4 ≤ f → NoZ (exprF f l d)) ∧ (∀ l d, 4 * l.length + 3 ≤ f → NoZ (condF f l d)) ∧ (∀ least l d, 4 * l.length + 2 ≤ f → NoZ (binF f least l d)) ∧
    (∀ l d, 4 * l.length + 1 ≤ f → NoZ (unF f l d)) ∧ (∀ least x d, 4 * x.rest.length + 1 ≤ f → NoZ (loopF f least x d))
  | 0 => ⟨fun _ _ h => by omega, fun _ _ h => by omega, fun _ _ _ h => by omega, fun _ _ h => by omega, fun _ _ _ h => by omega⟩
  | f + 1 => by
    obtain ⟨he, hc, hb, hu, hl⟩ := parse_nz f
    obtain ⟨se, sc, sb, su, sl⟩ := subF f
    refine ⟨fun l d hm => ?_, fun l d hm => ?_, fun least l d hm => ?_, fun l d hm => ?_, fun least x d hm => ?_⟩
    · rw [exprF.eq_def]
      simp only []
      split
      · rename_i a b r
        simp only [List.length_cons] at hm
        split
        · have := he r d (by omega)
          split
          · trivial
          · rename_i e h; rw [h] at this; exact this
        · exact hc _ _ (by simp only [List.length_cons]; omega)
      · exact hc _ _ (by omega)
    · rw [condF]
      have h0 := hb 1 l d (by omega)
      split
      · rename_i e h; rw [h] at h0; exact h0
      · rename_i x1 h1
        have s1 := (sb _ _ _ _ h1).2
        split
        · rename_i q r hr
          rw [hr] at s1
          simp only [List.length_cons] at s1
          split
          · have h2 := he r d (by omega)
            split
            · rename_i e h; rw [h] at h2; exact h2
            · rename_i y hy
              have s2 := (se _ _ _ hy).2
              split
              · rename_i c r' hr'
                rw [hr'] at s2
                simp only [List.length_cons] at s2
                split
                · have h3 := hc r' d (by omega)
                  split
                  · rename_i e h; rw [h] at h3; exact h3
                  · trivial
                · show (61 : Int) ≠ 0; decide
              · show (61 : Int) ≠ 0; decide
          · trivial
        · trivial
    · rw [binF]
      have h0 := hu l d (by omega)
      split
      · rename_i e h; rw [h] at h0; exact h0
      · rename_i x1 h1
        have s1 := (su _ _ _ h1).2
        exact hl _ _ _ (by omega)
    · rw [unF.eq_def]
      simp only []
      split
      · show (63 : Int) ≠ 0; decide
      · split
        · show (61 : Int) ≠ 0; decide
        · rename_i a r
          simp only [List.length_cons] at hm
          split
          · trivial
          · split
            · have h0 := hu r (d + 1) (by omega)
              split
              · rename_i e h; rw [h] at h0; exact h0
              · trivial
            · split
              · have h0 := he r (d + 1) (by omega)
                split
                · rename_i e h; rw [h] at h0; exact h0
                · split
                  · split
                    · trivial
                    · show (61 : Int) ≠ 0; decide
                  · show (61 : Int) ≠ 0; decide
              · show (61 : Int) ≠ 0; decide
    · rw [loopF]
      split
      · split
        · show (61 : Int) ≠ 0; decide
        · rename_i q r hr
          rw [hr] at hm
          simp only [List.length_cons] at hm
          have h0 := hb (levelOf q.sign + 1) r d (by omega)
          split
          · rename_i e h; rw [h] at h0; exact h0
          · rename_i y hy
            have s1 := (sb _ _ _ _ hy).2
            exact hl _ _ _ (by show 4 * y.rest.length + 1 ≤ f; omega)
      · trivial
theorem num_nz {s : List UInt8} {e : Int} (h : numF s = .error e) : e ≠ 0 := by
  unfold numF at h
  split at h
  · cases h
  · split at h
    · cases h
    · split at h
      · cases h
      · rename_i hn; cases h; intro h2; rw [h2] at hn; simp at hn
theorem get_nz {s : List UInt8} {l : List V} {e : Int} (h : getF s l = .error e) : e ≠ 0 := by
  unfold getF at h
  split at h
  · cases h
  · exact num_nz h
def NoI : Except Int Int → Prop
  | .ok _ => True
  | .error e => e ≠ 0
theorem NoI.ite {c : Prop} [Decidable c] {x y : Except Int Int} (h1 : NoI x) (h2 : NoI y) : NoI (if c then x else y) := by split <;> assumption
theorem two_nz {s : List UInt8} {a b e : Int} (h : twoF s a b = .error e) : e ≠ 0 := by
  have key : NoI (twoF s a b) := by
    unfold twoF
    repeat' (refine NoI.ite ?_ ?_)
    all_goals (first | exact trivial | (show (42 : Int) ≠ 0; decide) | (show (41 : Int) ≠ 0; decide))
  rw [h] at key; exact key
theorem give_nz {s name : List UInt8} {v e : Int} {l : List V} (h : giveF s name v l = .error e) : e ≠ 0 := by
  unfold giveF at h
  split at h
  · cases h
  · split at h
    · rename_i e' he; cases h; exact get_nz he
    · exact two_nz h
theorem set_nz {name : List UInt8} {n e : Int} {l : List V} (h : setF name n l = .error e) : e ≠ 0 := by
  unfold setF at h
  split at h
  · cases h; decide
  · cases h
theorem eval_nz : ∀ (x : Nd) (l : List V) (e : Int), evalF x l = .error e → e ≠ 0
  | .leaf t, l, e, h => by
    rw [evalF] at h
    split at h
    · cases h
    · split at h
      · cases h
      · rename_i e' he; cases h; exact get_nz he
  | .gives t a x, l, e, h => by
    rw [evalF] at h
    split at h
    · rename_i e' he; cases h; exact eval_nz x l _ he
    · split at h
      · rename_i e' he; cases h; exact give_nz he
      · split at h
        · rename_i e' he; cases h; exact set_nz he
        · cases h
  | .one t x, l, e, h => by
    rw [evalF] at h
    split at h
    · rename_i e' he; cases h; exact eval_nz x l _ he
    · cases h
  | .cond t x y z, l, e, h => by
    rw [evalF] at h
    split at h
    · rename_i e' he; cases h; exact eval_nz x l _ he
    · split at h
      · exact eval_nz z _ _ h
      · exact eval_nz y _ _ h
  | .two t x y, l, e, h => by
    rw [evalF] at h
    split at h
    · rename_i e' he; cases h; exact eval_nz x l _ he
    · split at h
      · cases h
      · split at h
        · cases h
        · split at h
          · rename_i e' he; cases h; exact eval_nz y _ _ he
          · split at h
            · cases h
            · split at h
              · rename_i e' he; cases h; exact two_nz he
              · cases h
theorem arith_nz {s : List UInt8} {l : List V} {e : Int} (h : arithF s l = .error e) : e ≠ 0 := by
  rw [arithF] at h
  split at h
  · cases h; decide
  · split at h
    · rename_i e' he; cases h; exact tokens_err _ _ _ _ (Nat.le_refl _) he
    · rename_i ts hts
      split at h
      · cases h
      · split at h
        · rename_i e' he; cases h
          have := (parse_nz (4 * ts.length + 4)).1 ts 0 (Nat.le_refl _)
          rw [he] at this; exact this
        · split at h
          · exact eval_nz _ _ _ h
          · cases h; decide
end Go.Proofs.Ytkjgadanaknleaa
