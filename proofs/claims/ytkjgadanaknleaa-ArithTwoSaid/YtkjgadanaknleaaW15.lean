/-
  THE PLAIN LAW, PART 15: what is cut, and what is read, is such that it can be reckoned.
-/
import Derived.Test.YtkjgadanaknleaaW11
namespace Go.Proofs.Ytkjgadanaknleaa
open Go Go.Id
set_option linter.unusedSimpArgs false
set_option linter.unusedVariables false
set_option maxRecDepth 100000
set_option maxHeartbeats 4000000

/-- What a token that was cut is like. -/
def TOk (t : Tok) : Prop := t.sign.length ≤ 9000 ∧ (t.sign ≠ [] → t.name = []) ∧ I64 t.n
theorem signL_len (s : List UInt8) : ∀ l : List (List UInt8), (∀ x ∈ l, x.length ≤ 3) → (signL s l).length ≤ 3
  | [], _ => by simp [signL]
  | x :: l, h => by
    rw [signL]
    split
    · exact h x (List.mem_cons_self ..)
    · exact signL_len s l fun y hy => h y (List.mem_cons_of_mem _ hy)
theorem signOf_len (s : List UInt8) : (signOf s).length ≤ 3 := signL_len s signs (by decide)
theorem constF_rng (s : List UInt8) : I64 (constF s).1 := by
  unfold constF; repeat' split
  all_goals exact I64.wrap _
theorem tokens_good : ∀ (f : Nat) (s : List UInt8) (l r : List Tok), (∀ t ∈ l, TOk t) → tokensF f s l = .ok r → ∀ t ∈ r, TOk t
  | f, [], l, r, hl, h => by
    have : l = r := by cases f <;> simpa [tokensF] using h
    subst this; exact hl
  | 0, c :: r', l, r, hl, h => by simp [tokensF] at h
  | f + 1, c :: r', l, r, hl, h => by
    have app : ∀ x : Tok, TOk x → ∀ t ∈ l ++ [x], TOk t := fun x hx t ht => by
      rcases List.mem_append.1 ht with h | h
      · exact hl t h
      · rw [List.mem_singleton.1 h]; exact hx
    rw [tokensF] at h
    split at h
    · exact tokens_good f _ _ _ hl h
    · simp only [] at h
      split at h
      · refine tokens_good f _ _ _ (app _ ⟨?_, fun _ => rfl, ?_⟩) h
        · have := signOf_len (undollar (c :: r')); simp only []; omega
        · unfold I64; simp only []; omega
      · split at h
        · cases h
        · split at h
          · split at h
            · cases h
            · exact tokens_good f _ _ _ (app _ ⟨by simp, fun h => absurd rfl h, constF_rng _⟩) h
          · split at h
            · cases h
            · exact tokens_good f _ _ _ (app _ ⟨by simp, fun h => absurd rfl h, by unfold I64; simp only []; omega⟩) h
theorem tokens_err : ∀ (f : Nat) (s : List UInt8) (l : List Tok) (e : Int), s.length ≤ f → tokensF f s l = .error e → e ≠ 0
  | f, [], l, e, hl, h => by cases f <;> simp [tokensF] at h
  | 0, c :: r', l, e, hl, h => by simp at hl
  | f + 1, c :: r', l, e, hl, h => by
    have hu := undollar_len (c :: r')
    simp only [List.length_cons] at hl hu
    rw [tokensF] at h
    split at h
    · exact tokens_err f _ _ _ (by omega) h
    · simp only [] at h
      split at h
      · rename_i h1
        refine tokens_err f _ _ _ ?_ h
        have : (signOf (undollar (c :: r'))).length ≠ 0 := by
          intro h2
          rw [List.eq_nil_of_length_eq_zero h2] at h1; simp at h1
        rw [List.length_drop]; omega
      · split at h
        · cases h; decide
        · rename_i h2
          have h3 : runN (undollar (c :: r')) ≠ 0 := by
            intro h4; rw [h4] at h2; simp at h2
          split at h
          · split at h
            · rename_i h5; cases h
              intro h6; rw [h6] at h5; simp at h5
            · exact tokens_err f _ _ _ (by rw [List.length_drop]; omega) h
          · split at h
            · cases h; decide
            · exact tokens_err f _ _ _ (by rw [List.length_drop]; omega) h
theorem lv_ite {s x : List UInt8} {k n : Int} {G : Prop} (hx : s = x → G) (hn : 1 ≤ n → G) : 1 ≤ (if (s == x) = true then k else n) → G := by
  split
  · rename_i h; intro _; exact hx (by simpa using h)
  · exact hn
theorem level_pos {s : List UInt8} (h : 1 ≤ levelOf s) : s ≠ [] ∧ isGives s = false ∧ s ≠ [63] := by
  revert h
  unfold levelOf
  repeat' (refine lv_ite ?_ ?_)
  all_goals (first | (rintro rfl; exact ⟨by decide, by decide, by decide⟩) | (intro h; omega))
theorem parse_good : ∀ f, (∀ l d x, exprF f l d = .ok x → (∀ t ∈ l, TOk t) → NdOk x.nd) ∧ (∀ l d x, condF f l d = .ok x → (∀ t ∈ l, TOk t) → NdOk x.nd) ∧
    (∀ least l d x, 1 ≤ least → binF f least l d = .ok x → (∀ t ∈ l, TOk t) → NdOk x.nd) ∧ (∀ l d x, unF f l d = .ok x → (∀ t ∈ l, TOk t) → NdOk x.nd) ∧
    (∀ least x d y, 1 ≤ least → loopF f least x d = .ok y → NdOk x.nd → (∀ t ∈ x.rest, TOk t) → NdOk y.nd)
  | 0 => by
    refine ⟨?_, ?_, ?_, ?_, ?_⟩ <;> intros <;> simp_all [exprF, condF, binF, unF, loopF]
  | f + 1 => by
    obtain ⟨he, hc, hb, hu, hl⟩ := parse_good f
    obtain ⟨se, sc, sb, su, sl⟩ := subF f
    have suf : ∀ {r l : List Tok}, r <:+ l → (∀ t ∈ l, TOk t) → ∀ t ∈ r, TOk t := fun hs h t ht => h t (hs.subset ht)
    have tl : ∀ {a : Tok} {l : List Tok}, (∀ t ∈ a :: l, TOk t) → ∀ t ∈ l, TOk t := fun h t ht => h t (List.mem_cons_of_mem _ ht)
    have hd : ∀ {a : Tok} {l : List Tok}, (∀ t ∈ a :: l, TOk t) → TOk a := fun h => h _ (List.mem_cons_self ..)
    refine ⟨fun l d x h ht => ?_, fun l d x h ht => ?_, fun least l d x h1 h ht => ?_, fun l d x h ht => ?_, fun least x d y h1 h hx ht => ?_⟩
    · rw [exprF.eq_def] at h
      simp only [] at h
      split at h
      · rename_i a b r
        split at h
        · rename_i hg
          simp only [Bool.and_eq_true] at hg
          split at h
          · rename_i y hy; cases h
            have hb2 := hd (tl ht)
            exact ⟨hb2.2.1 (by rintro h; rw [h] at hg; simp [isGives] at hg), hb2.1, hg.2, he _ _ _ hy (tl (tl ht))⟩
          · cases h
        · exact hc _ _ _ h ht
      · exact hc _ _ _ h ht
    · rw [condF] at h
      split at h
      · cases h
      · rename_i x1 h1
        have n1 := hb _ _ _ _ (by decide) h1 ht
        have s1 := sb _ _ _ _ h1
        split at h
        · rename_i q r hr
          rw [hr] at s1
          have t1 := suf s1.1 ht
          split at h
          · rename_i hq
            split at h
            · cases h
            · rename_i y hy
              have n2 := he _ _ _ hy (tl t1)
              have s2 := se _ _ _ hy
              split at h
              · rename_i c r' hr'
                rw [hr'] at s2
                have t2 := suf s2.1 (tl t1)
                split at h
                · split at h
                  · cases h
                  · rename_i z hz
                    cases h
                    have hqs : q.sign = [63] := by simpa using hq
                    exact ⟨(hd t1).2.1 (by rw [hqs]; simp), hqs, n1, n2, hc _ _ _ hz (tl t2)⟩
                · cases h
              · cases h
          · cases h; exact n1
        · cases h; exact n1
    · rw [binF] at h
      split at h
      · cases h
      · rename_i x1 h2
        exact hl _ _ _ _ h1 h (hu _ _ _ h2 ht) (suf (su _ _ _ h2).1 ht)
    · rw [unF.eq_def] at h
      simp only [] at h
      split at h
      · cases h
      · split at h
        · cases h
        · rename_i a r
          have ha := hd ht
          split at h
          · rename_i hs; cases h
            exact ⟨by simpa using hs, ha.2.2⟩
          · rename_i hs
            have hne : a.sign ≠ [] := by simpa using hs
            split at h
            · rename_i hsg
              split at h
              · cases h
              · rename_i x1 h1; cases h
                refine ⟨ha.2.1 hne, ha.1, hne, ?_, hu _ _ _ h1 (tl ht)⟩
                simp only [Bool.or_eq_true, beq_iff_eq] at hsg
                rcases hsg with ((h2 | h2) | h2) | h2 <;> rw [h2] <;> decide
            · split at h
              · split at h
                · cases h
                · rename_i x1 h1
                  split at h
                  · rename_i c r' hr
                    split at h
                    · cases h
                      have h3 := he _ _ _ h1 (tl ht)
                      exact h3
                    · cases h
                  · cases h
              · cases h
    · rw [loopF] at h
      split at h
      · rename_i hlv
        split at h
        · cases h
        · rename_i q r hr
          rw [hr] at hlv ht
          simp only [nextOf] at hlv
          split at h
          · cases h
          · rename_i y1 h2
            have hq := level_pos (s := q.sign) (by omega)
            have n2 := hb _ _ _ _ (by omega) h2 (tl ht)
            refine hl _ _ _ _ h1 h ⟨(hd ht).2.1 hq.1, (hd ht).1, hq.1, hq.2.1, hq.2.2, hx, n2⟩ (suf (sb _ _ _ _ h2).1 (tl ht))
      · cases h; exact hx
end Go.Proofs.Ytkjgadanaknleaa
