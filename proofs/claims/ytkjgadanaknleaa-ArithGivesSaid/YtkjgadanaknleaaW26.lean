/-
  THE PLAIN LAW, PART 26: what stands in parentheses is what it is alone.
-/
import Derived.Test.YtkjgadanaknleaaW25
namespace Go.Proofs.Ytkjgadanaknleaa
open Go Go.Id
set_option linter.unusedSimpArgs false
set_option linter.unusedVariables false
set_option maxRecDepth 100000
set_option maxHeartbeats 4000000

theorem tokens_grow : ∀ (f : Nat) (s : List UInt8) (l r : List Tok), tokensF f s l = .ok r → l.length ≤ r.length
  | f, [], l, r, h => by
    have : l = r := by cases f <;> simpa [tokensF] using h
    subst this; exact Nat.le_refl _
  | 0, c :: s, l, r, h => by simp [tokensF] at h
  | f + 1, c :: s, l, r, h => by
    rw [tokensF] at h
    split at h
    · exact tokens_grow f _ _ _ h
    · simp only [] at h
      split at h
      · have := tokens_grow f _ _ _ h; simp at this; omega
      · split at h
        · cases h
        · split at h
          · split at h
            · cases h
            · have := tokens_grow f _ _ _ h; simp at this; omega
          · split at h
            · cases h
            · have := tokens_grow f _ _ _ h; simp at this; omega
theorem tokens_blank : ∀ (f : Nat) (s : List UInt8), tokensF f s [] = .ok [] → ∀ x ∈ s, blankB x = true
  | f, [], h => by simp
  | 0, c :: s, h => by simp [tokensF] at h
  | f + 1, c :: s, h => by
    rw [tokensF] at h
    split at h
    · rename_i hb
      intro x hx
      rcases List.mem_cons.1 hx with rfl | hx
      · exact hb
      · exact tokens_blank f s h x hx
    · simp only [] at h
      split at h
      · have := tokens_grow f _ _ _ h; simp at this
      · split at h
        · cases h
        · split at h
          · split at h
            · cases h
            · have := tokens_grow f _ _ _ h; simp at this
          · split at h
            · cases h
            · have := tokens_grow f _ _ _ h; simp at this
theorem blank_of {c : UInt8} (h : blankB c = true) : c = 32 ∨ c = 9 ∨ c = 10 := by
  have e : c.toNat.toUInt8 = c := by simp
  simp only [blankB, e, decide_eq_true_eq] at h
  simp only [Lib.indexByte] at h
  by_cases h1 : c = 32
  · exact .inl h1
  · by_cases h2 : c = 9
    · exact .inr (.inl h2)
    · by_cases h3 : c = 10
      · exact .inr (.inr h3)
      · exfalso
        have g1 : ¬ 32 = c := fun e => h1 e.symm
        have g2 : ¬ 9 = c := fun e => h2 e.symm
        have g3 : ¬ 10 = c := fun e => h3 e.symm
        simp [g1, g2, g3] at h
/-- In parentheses. -/
theorem expr_paren {f : Nat} {ts : List Tok} {nd : Nd} (h : exprF f ts 0 = .ok ⟨nd, []⟩) : exprF (f + 4) (lpT :: (ts ++ [rpT])) 0 = .ok ⟨nd, []⟩ ∨ exprF (f + 4) (lpT :: (ts ++ [rpT])) 0 = .error 63 := by
  have h1 : exprF f (ts ++ [rpT]) 0 = .ok ⟨nd, [rpT]⟩ := (parse_rp f).1 _ _ _ _ h
  have hun : unF (f + 1) (lpT :: (ts ++ [rpT])) 0 = .ok ⟨nd, []⟩ ∨ unF (f + 1) (lpT :: (ts ++ [rpT])) 0 = .error 63 := by
    rw [unF.eq_def]
    simp only []
    rw [if_neg (by decide), if_neg (by decide), if_neg (by decide), if_pos (by decide)]
    rcases (parse_deep f).1 _ _ _ h1 with h2 | h2 <;> rw [h2]
    · simp only []
      rw [if_pos (by decide)]
      exact .inl rfl
    · exact .inr rfl
  have hl : loopF (f + 1) 1 ⟨nd, []⟩ 0 = .ok ⟨nd, []⟩ := loopF_end (by show ¬ levelOf [] ≥ 1; have : levelOf [] = 0 := rfl; omega)
  have hex : exprF (f + 4) (lpT :: (ts ++ [rpT])) 0 = condF (f + 3) (lpT :: (ts ++ [rpT])) 0 := by
    cases ts with
    | nil => rw [show lpT :: ([] ++ [rpT]) = [lpT, rpT] from rfl, exprF, if_neg (by decide)]
    | cons a ts =>
      rw [List.cons_append, exprF, if_neg (by
        have : (lpT.name == []) = true := rfl
        simp [this])]
  rw [hex, condF, binF]
  rcases hun with h2 | h2 <;> rw [h2]
  · simp only [hl]
    exact .inl trivial
  · exact .inr rfl
theorem alone {s : List UInt8} {l : List V} {r : Int × List V} (hs : s.length ≤ 2000) (hl : l.length ≤ 64) (h : arithF s l = .ok r) :
    ((∀ x ∈ s, x = 32 ∨ x = 9 ∨ x = 10) ∧ arithF (32 :: 40 :: (s ++ [41, 10, 9])) l = .error 61) ∨ arithF (32 :: 40 :: (s ++ [41, 10, 9])) l = .ok r ∨ arithF (32 :: 40 :: (s ++ [41, 10, 9])) l = .error 63 := by
  rw [arithF, if_neg (by omega)] at h
  cases hts : tokensF s.length s [] with
  | error e => rw [hts] at h; cases h
  | ok ts =>
    rw [hts] at h
    simp only [] at h
    by_cases hne : ts = []
    · left
      subst hne
      refine ⟨fun x hx => blank_of (tokens_blank _ _ hts x hx), ?_⟩
      have hlen : ¬ (8192 < (32 :: 40 :: (s ++ [41, 10, 9])).length ∨ 64 < l.length) := by simp; omega
      rw [arithF, if_neg hlen, tokens_alone hts]
      rfl
    · right
      rw [if_neg hne] at h
      cases hx : exprF (4 * ts.length + 4) ts 0 with
      | error e => rw [hx] at h; cases h
      | ok x =>
        rw [hx] at h
        simp only [] at h
        by_cases hr : x.rest = []
        · rw [if_pos hr] at h
          obtain ⟨nd, rest⟩ := x
          simp only [] at hr
          subst hr
          have hlen : ¬ (8192 < (32 :: 40 :: (s ++ [41, 10, 9])).length ∨ 64 < l.length) := by simp; omega
          rw [arithF, if_neg hlen, tokens_alone hts]
          simp only []
          rw [if_neg (by simp)]
          have hf : 4 * (lpT :: (ts ++ [rpT])).length + 4 = (4 * ts.length + 4) + 4 + 4 := by simp; omega
          rw [hf]
          rcases expr_paren (expr_more 4 hx) with h2 | h2 <;> rw [h2]
          · simp only []
            rw [if_pos trivial]
            exact .inl h
          · exact .inr rfl
        · rw [if_neg hr] at h; cases h
end Go.Proofs.Ytkjgadanaknleaa
