/-
  THE PLAIN LAW, PART 25: what is read with more fuel, with a parenthesis behind it, and deeper.
-/
import Derived.Test.YtkjgadanaknleaaW24
namespace Go.Proofs.Ytkjgadanaknleaa
open Go Go.Id
set_option linter.unusedSimpArgs false
set_option linter.unusedVariables false
set_option maxRecDepth 100000
set_option maxHeartbeats 4000000

/-- More fuel changes nothing. -/
theorem parse_more : ∀ f, (∀ l d x, exprF f l d = .ok x → exprF (f + 1) l d = .ok x) ∧ (∀ l d x, condF f l d = .ok x → condF (f + 1) l d = .ok x) ∧
    (∀ least l d x, binF f least l d = .ok x → binF (f + 1) least l d = .ok x) ∧ (∀ l d x, unF f l d = .ok x → unF (f + 1) l d = .ok x) ∧
    (∀ least x d y, loopF f least x d = .ok y → loopF (f + 1) least x d = .ok y)
  | 0 => by
    refine ⟨?_, ?_, ?_, ?_, ?_⟩ <;> intros <;> simp_all [exprF, condF, binF, unF, loopF]
  | f + 1 => by
    obtain ⟨he, hc, hb, hu, hl⟩ := parse_more f
    refine ⟨fun l d x h => ?_, fun l d x h => ?_, fun least l d x h => ?_, fun l d x h => ?_, fun least x d y h => ?_⟩
    · rw [exprF.eq_def] at h ⊢
      simp only [] at h ⊢
      split at h
      · rename_i a b r
        split at h
        · rename_i hg
          (try simp only []); rw [if_pos hg]
          split at h
          · rename_i y hy; rw [he _ _ _ hy]; exact h
          · cases h
        · rename_i hg
          (try simp only []); rw [if_neg hg]
          exact hc _ _ _ h
      · rename_i hno
        first
          | exact hc _ _ _ h
          | (split
             · rename_i a b r; exact absurd rfl (hno a b r)
             · exact hc _ _ _ h)
    · rw [condF] at h ⊢
      split at h
      · cases h
      · rename_i x1 h1
        rw [hb _ _ _ _ h1]
        simp only []
        split at h
        · rename_i q r hr
          (try rw [hr]); (try simp only [])
          split at h
          · rename_i hq
            rw [if_pos hq]
            split at h
            · cases h
            · rename_i y hy
              rw [he _ _ _ hy]; simp only []
              split at h
              · rename_i c r' hr'
                (try rw [hr']); (try simp only [])
                split at h
                · rename_i hcs
                  rw [if_pos hcs]
                  split at h
                  · cases h
                  · rename_i z hz
                    rw [hc _ _ _ hz]; exact h
                · cases h
              · cases h
          · rename_i hq; rw [if_neg hq]; exact h
        · rename_i hr; (try rw [hr]); exact h
    · rw [binF] at h ⊢
      split at h
      · cases h
      · rename_i x1 h1
        rw [hu _ _ _ h1]; exact hl _ _ _ _ h
    · rw [unF.eq_def] at h ⊢
      simp only [] at h ⊢
      split at h
      · cases h
      · rename_i hd
        rw [if_neg hd]
        split at h
        · cases h
        · rename_i a r
          (try simp only [])
          split at h
          · rename_i hs; rw [if_pos hs]; exact h
          · rename_i hs
            rw [if_neg hs]
            split at h
            · rename_i h2
              rw [if_pos h2]
              split at h
              · cases h
              · rename_i x1 h1; rw [hu _ _ _ h1]; exact h
            · rename_i h2
              rw [if_neg h2]
              split at h
              · rename_i h3
                rw [if_pos h3]
                split at h
                · cases h
                · rename_i x1 h1; rw [he _ _ _ h1]; exact h
              · cases h
    · rw [loopF] at h ⊢
      split at h
      · rename_i hv
        rw [if_pos hv]
        split at h
        · cases h
        · rename_i q r hr
          (try rw [hr]); (try simp only [])
          split at h
          · cases h
          · rename_i y1 h1
            rw [hb _ _ _ _ h1]; exact hl _ _ _ _ h
      · rename_i hv; rw [if_neg hv]; exact h
theorem expr_more {f : Nat} (k : Nat) {l : List Tok} {d : Int} {x : Rd} (h : exprF f l d = .ok x) : exprF (f + k) l d = .ok x := by
  induction k with
  | zero => exact h
  | succ k ih => exact (parse_more (f + k)).1 _ _ _ ih

/-- A parenthesis behind is left. -/
theorem parse_rp : ∀ f, (∀ l d nd r, exprF f l d = .ok ⟨nd, r⟩ → exprF f (l ++ [rpT]) d = .ok ⟨nd, r ++ [rpT]⟩) ∧ (∀ l d nd r, condF f l d = .ok ⟨nd, r⟩ → condF f (l ++ [rpT]) d = .ok ⟨nd, r ++ [rpT]⟩) ∧
    (∀ least l d nd r, 1 ≤ least → binF f least l d = .ok ⟨nd, r⟩ → binF f least (l ++ [rpT]) d = .ok ⟨nd, r ++ [rpT]⟩) ∧ (∀ l d nd r, unF f l d = .ok ⟨nd, r⟩ → unF f (l ++ [rpT]) d = .ok ⟨nd, r ++ [rpT]⟩) ∧
    (∀ least n l d nd r, 1 ≤ least → loopF f least ⟨n, l⟩ d = .ok ⟨nd, r⟩ → loopF f least ⟨n, l ++ [rpT]⟩ d = .ok ⟨nd, r ++ [rpT]⟩)
  | 0 => by
    refine ⟨?_, ?_, ?_, ?_, ?_⟩ <;> intros <;> simp_all [exprF, condF, binF, unF, loopF]
  | f + 1 => by
    obtain ⟨he, hc, hb, hu, hl⟩ := parse_rp f
    refine ⟨fun l d nd r h => ?_, fun l d nd r h => ?_, fun least l d nd r h1 h => ?_, fun l d nd r h => ?_, fun least n l d nd r h1 h => ?_⟩
    · cases l with
      | nil =>
        rw [exprF] at h
        · have := hc _ _ _ _ h
          rw [List.nil_append] at this ⊢
          rw [exprF]
          · exact this
          · intro a b r h; cases h
        · intro a b r h; cases h
      | cons a l =>
        cases l with
        | nil =>
          rw [exprF] at h
          · have := hc _ _ _ _ h
            rw [show [a] ++ [rpT] = [a, rpT] from rfl] at this ⊢
            rw [exprF, if_neg (by have : isGives rpT.sign = false := by decide
                                  rw [this]; simp)]
            exact this
          · intro a b r h; cases h
        | cons b l =>
          rw [exprF] at h
          rw [show (a :: b :: l) ++ [rpT] = a :: b :: (l ++ [rpT]) from rfl, exprF]
          split at h
          · rename_i hg
            rw [if_pos hg]
            split at h
            · rename_i y hy
              obtain ⟨yn, yr⟩ := y
              rw [he _ _ _ _ hy]
              cases h; rfl
            · cases h
          · rename_i hg
            rw [if_neg hg]
            exact hc _ _ _ _ h
    · rw [condF] at h ⊢
      split at h
      · cases h
      · rename_i x1 h1
        obtain ⟨xn, xr⟩ := x1
        rw [hb _ _ _ _ _ (by decide) h1]
        simp only [] at h ⊢
        cases xr with
        | nil =>
          simp only [] at h
          cases h
          simp only [List.nil_append]
          rw [if_neg (by decide)]
        | cons q qr =>
          simp only [List.cons_append] at h ⊢
          split at h
          · rename_i hq
            rw [if_pos hq]
            split at h
            · cases h
            · rename_i y hy
              obtain ⟨yn, yr⟩ := y
              rw [he _ _ _ _ hy]
              simp only [] at h ⊢
              cases yr with
              | nil => cases h
              | cons c cr =>
                simp only [List.cons_append] at h ⊢
                split at h
                · rename_i hcs
                  rw [if_pos hcs]
                  split at h
                  · cases h
                  · rename_i z hz
                    obtain ⟨zn, zr⟩ := z
                    rw [hc _ _ _ _ hz]
                    cases h; rfl
                · cases h
          · rename_i hq
            rw [if_neg hq]
            cases h; rfl
    · rw [binF] at h ⊢
      split at h
      · cases h
      · rename_i x1 h2
        obtain ⟨xn, xr⟩ := x1
        rw [hu _ _ _ _ h2]
        exact hl _ _ _ _ _ _ h1 h
    · rw [unF.eq_def] at h ⊢
      simp only [] at h ⊢
      split at h
      · cases h
      · rename_i hd
        rw [if_neg hd]
        cases l with
        | nil => cases h
        | cons a l =>
          simp only [List.cons_append] at h ⊢
          split at h
          · rename_i hs; rw [if_pos hs]; cases h; rfl
          · rename_i hs
            rw [if_neg hs]
            split at h
            · rename_i h2
              rw [if_pos h2]
              split at h
              · cases h
              · rename_i x1 h1
                obtain ⟨xn, xr⟩ := x1
                rw [hu _ _ _ _ h1]; cases h; rfl
            · rename_i h2
              rw [if_neg h2]
              split at h
              · rename_i h3
                rw [if_pos h3]
                split at h
                · cases h
                · rename_i x1 h1
                  obtain ⟨xn, xr⟩ := x1
                  rw [he _ _ _ _ h1]
                  simp only [] at h ⊢
                  cases xr with
                  | nil => cases h
                  | cons c cr =>
                    simp only [List.cons_append] at h ⊢
                    split at h
                    · rename_i h4; rw [if_pos h4]; cases h; rfl
                    · cases h
              · cases h
    · rw [loopF] at h ⊢
      cases l with
      | nil =>
        have e1 : ¬ levelOf (nextOf (⟨n, []⟩ : Rd).rest) ≥ least := by show ¬ levelOf [] ≥ least; have : levelOf [] = 0 := rfl; omega
        have e2 : ¬ levelOf (nextOf (⟨n, [] ++ [rpT]⟩ : Rd).rest) ≥ least := by show ¬ levelOf [41] ≥ least; have : levelOf [41] = 0 := rfl; omega
        rw [if_neg e1] at h
        rw [if_neg e2]
        cases h; rfl
      | cons q qr =>
        simp only [List.cons_append] at h ⊢
        split at h
        · rename_i hv
          have hv' : levelOf (nextOf (q :: (qr ++ [rpT]))) ≥ least := hv
          rw [if_pos hv']
          split at h
          · cases h
          · rename_i y1 h2
            obtain ⟨yn, yr⟩ := y1
            rw [hb _ _ _ _ _ (by have := level_le q.sign; omega) h2]
            exact hl _ _ _ _ _ _ h1 h
        · rename_i hv
          have hv' : ¬ levelOf (nextOf (q :: (qr ++ [rpT]))) ≥ least := hv
          rw [if_neg hv']
          cases h; rfl

/-- Deeper it is read as it was, or it is too deep. -/
def Deep (R R' : Except Int Rd) : Prop := ∀ x, R = .ok x → R' = .ok x ∨ R' = .error 63
theorem parse_deep : ∀ f, (∀ l d, Deep (exprF f l d) (exprF f l (d + 1))) ∧ (∀ l d, Deep (condF f l d) (condF f l (d + 1))) ∧
    (∀ least l d, Deep (binF f least l d) (binF f least l (d + 1))) ∧ (∀ l d, Deep (unF f l d) (unF f l (d + 1))) ∧
    (∀ least x d, Deep (loopF f least x d) (loopF f least x (d + 1)))
  | 0 => by
    refine ⟨?_, ?_, ?_, ?_, ?_⟩ <;> intros <;> intro x h <;> simp_all [exprF, condF, binF, unF, loopF]
  | f + 1 => by
    obtain ⟨he, hc, hb, hu, hl⟩ := parse_deep f
    refine ⟨fun l d x h => ?_, fun l d x h => ?_, fun least l d x h => ?_, fun l d x h => ?_, fun least x d y h => ?_⟩
    · rw [exprF.eq_def] at h ⊢
      simp only [] at h ⊢
      split at h
      · rename_i a b r
        split at h
        · rename_i hg
          (try simp only []); rw [if_pos hg]
          split at h
          · rename_i y hy
            rcases he _ _ y hy with h1 | h1 <;> rw [h1]
            · exact .inl h
            · exact .inr (by trivial)
          · cases h
        · rename_i hg
          (try simp only []); rw [if_neg hg]
          exact hc _ _ _ h
      · rename_i hno
        first
          | exact hc _ _ _ h
          | (split
             · rename_i a b r; exact absurd rfl (hno a b r)
             · exact hc _ _ _ h)
    · rw [condF] at h ⊢
      split at h
      · cases h
      · rename_i x1 h1
        rcases hb _ _ _ _ h1 with g1 | g1 <;> rw [g1] <;> simp only []
        · split at h
          · rename_i q r hr
            (try rw [hr]); (try simp only [])
            split at h
            · rename_i hq
              rw [if_pos hq]
              split at h
              · cases h
              · rename_i y hy
                rcases he _ _ _ hy with g2 | g2 <;> rw [g2] <;> simp only []
                · split at h
                  · rename_i c r' hr'
                    (try rw [hr']); (try simp only [])
                    split at h
                    · rename_i hcs
                      rw [if_pos hcs]
                      split at h
                      · cases h
                      · rename_i z hz
                        rcases hc _ _ _ hz with g3 | g3 <;> rw [g3]
                        · exact .inl h
                        · exact .inr (by trivial)
                    · cases h
                  · cases h
                · exact .inr (by trivial)
            · rename_i hq; rw [if_neg hq]; exact .inl h
          · rename_i hr; (try rw [hr]); exact .inl h
        · exact .inr (by trivial)
    · rw [binF] at h ⊢
      split at h
      · cases h
      · rename_i x1 h1
        rcases hu _ _ _ h1 with g1 | g1 <;> rw [g1]
        · exact hl _ _ _ _ h
        · exact .inr (by trivial)
    · rw [unF.eq_def] at h ⊢
      simp only [] at h ⊢
      split at h
      · cases h
      · rename_i hd
        by_cases hd2 : d + 1 + 1 > 65
        · rw [if_pos hd2]; exact .inr (by trivial)
        · rw [if_neg hd2]
          split at h
          · cases h
          · rename_i a r
            (try simp only [])
            split at h
            · rename_i hs; rw [if_pos hs]; exact .inl h
            · rename_i hs
              rw [if_neg hs]
              split at h
              · rename_i h2
                rw [if_pos h2]
                split at h
                · cases h
                · rename_i x1 h1
                  rcases hu _ _ _ h1 with g1 | g1 <;> rw [g1]
                  · exact .inl h
                  · exact .inr (by trivial)
              · rename_i h2
                rw [if_neg h2]
                split at h
                · rename_i h3
                  rw [if_pos h3]
                  split at h
                  · cases h
                  · rename_i x1 h1
                    rcases he _ _ _ h1 with g1 | g1 <;> rw [g1]
                    · exact .inl h
                    · exact .inr (by trivial)
                · cases h
    · rw [loopF] at h ⊢
      split at h
      · rename_i hv
        rw [if_pos hv]
        split at h
        · cases h
        · rename_i q r hr
          (try rw [hr]); (try simp only [])
          split at h
          · cases h
          · rename_i y1 h1
            rcases hb _ _ _ _ h1 with g1 | g1 <;> rw [g1]
            · exact hl _ _ _ _ h
            · exact .inr (by trivial)
      · rename_i hv; rw [if_neg hv]; exact .inl h
end Go.Proofs.Ytkjgadanaknleaa
