/-
  THE PLAIN LAW, PART 52: what is read has the document's signs, so the document reckons it.
-/
import Derived.Test.YtkjgadanaknleaaY11
import Derived.Test.YtkjgadanaknleaaW15
namespace Go.Proofs.Ytkjgadanaknleaa
open Go Go.Id
set_option linter.unusedSimpArgs false
set_option linter.unusedVariables false
set_option maxRecDepth 100000
set_option maxHeartbeats 4000000

theorem sg_nil : SgOk [] := List.mem_cons_self ..
theorem tokens_sg : ∀ (f : Nat) (s : List UInt8) (l r : List Tok), (∀ t ∈ l, SgOk t.sign) → tokensF f s l = .ok r → ∀ t ∈ r, SgOk t.sign
  | f, [], l, r, hl, h => by
    have : l = r := by cases f <;> simpa [tokensF] using h
    subst this; exact hl
  | 0, c :: r', l, r, hl, h => by simp [tokensF] at h
  | f + 1, c :: r', l, r, hl, h => by
    have app : ∀ x : Tok, SgOk x.sign → ∀ t ∈ l ++ [x], SgOk t.sign := fun x hx t ht => by
      rcases List.mem_append.1 ht with h | h
      · exact hl t h
      · rw [List.mem_singleton.1 h]; exact hx
    rw [tokensF] at h
    split at h
    · exact tokens_sg f _ _ _ hl h
    · simp only [] at h
      split at h
      · exact tokens_sg f _ _ _ (app _ (signOf_ok _)) h
      · split at h
        · cases h
        · split at h
          · split at h
            · cases h
            · exact tokens_sg f _ _ _ (app _ sg_nil) h
          · split at h
            · cases h
            · exact tokens_sg f _ _ _ (app _ sg_nil) h
/-- The signs are the document's. -/
def NdS : Nd → Prop
  | .leaf _ => True
  | .gives t _ x => SgOk t.sign ∧ NdS x
  | .one t x => SgOk t.sign ∧ NdS x
  | .two t x y => SgOk t.sign ∧ NdS x ∧ NdS y
  | .cond _ x y z => NdS x ∧ NdS y ∧ NdS z
theorem ndR_of : ∀ x : Nd, NdOk x → NdS x → NdR x
  | .leaf _, _, _ => trivial
  | .gives t a x, h, g => ⟨by rw [gives_eq g.1]; exact h.2.2.1, ndR_of x h.2.2.2 g.2⟩
  | .one t x, h, g => ⟨by rw [gives_eq g.1]; exact h.2.2.2.1, ndR_of x h.2.2.2.2 g.2⟩
  | .two t x y, h, g => ⟨by rw [gives_eq g.1]; exact h.2.2.2.1, ndR_of x h.2.2.2.2.2.1 g.2.1, ndR_of y h.2.2.2.2.2.2 g.2.2⟩
  | .cond t x y z, h, g => ⟨ndR_of x h.2.2.1 g.1, ndR_of y h.2.2.2.1 g.2.1, ndR_of z h.2.2.2.2 g.2.2⟩
theorem parse_sg : ∀ f, (∀ l d x, exprF f l d = .ok x → (∀ t ∈ l, SgOk t.sign) → NdS x.nd) ∧ (∀ l d x, condF f l d = .ok x → (∀ t ∈ l, SgOk t.sign) → NdS x.nd) ∧
    (∀ least l d x, binF f least l d = .ok x → (∀ t ∈ l, SgOk t.sign) → NdS x.nd) ∧ (∀ l d x, unF f l d = .ok x → (∀ t ∈ l, SgOk t.sign) → NdS x.nd) ∧
    (∀ least x d y, loopF f least x d = .ok y → NdS x.nd → (∀ t ∈ x.rest, SgOk t.sign) → NdS y.nd)
  | 0 => by
    refine ⟨?_, ?_, ?_, ?_, ?_⟩ <;> intros <;> simp_all [exprF, condF, binF, unF, loopF]
  | f + 1 => by
    obtain ⟨he, hc, hb, hu, hl⟩ := parse_sg f
    obtain ⟨se, sc, sb, su, sl⟩ := subF f
    have suf : ∀ {r l : List Tok}, r <:+ l → (∀ t ∈ l, SgOk t.sign) → ∀ t ∈ r, SgOk t.sign := fun hs h t ht => h t (hs.subset ht)
    have tl : ∀ {a : Tok} {l : List Tok}, (∀ t ∈ a :: l, SgOk t.sign) → ∀ t ∈ l, SgOk t.sign := fun h t ht => h t (List.mem_cons_of_mem _ ht)
    have hd : ∀ {a : Tok} {l : List Tok}, (∀ t ∈ a :: l, SgOk t.sign) → SgOk a.sign := fun h => h _ (List.mem_cons_self ..)
    refine ⟨fun l d x h ht => ?_, fun l d x h ht => ?_, fun least l d x h ht => ?_, fun l d x h ht => ?_, fun least x d y h hx ht => ?_⟩
    · rw [exprF.eq_def] at h
      simp only [] at h
      split at h
      · split at h
        · split at h
          · rename_i y hy; cases h
            exact ⟨hd (tl ht), he _ _ _ hy (tl (tl ht))⟩
          · cases h
        · exact hc _ _ _ h ht
      · exact hc _ _ _ h ht
    · rw [condF] at h
      split at h
      · cases h
      · rename_i x1 h1
        have n1 := hb _ _ _ _ h1 ht
        have s1 := sb _ _ _ _ h1
        split at h
        · rename_i q r hr
          rw [hr] at s1
          have t1 := suf s1.1 ht
          split at h
          · split at h
            · cases h
            · rename_i y hy
              have n2 := he _ _ _ hy (tl t1)
              have s2 := se _ _ _ hy
              split at h
              · rename_i c r' hr'
                rw [hr'] at s2
                have t2 := suf s2.1 (tl t1)
                split at h
                · split at h
                  · cases h
                  · rename_i z hz
                    cases h
                    exact ⟨n1, n2, hc _ _ _ hz (tl t2)⟩
                · cases h
              · cases h
          · cases h; exact n1
        · cases h; exact n1
    · rw [binF] at h
      split at h
      · cases h
      · rename_i x1 h2
        exact hl _ _ _ _ h (hu _ _ _ h2 ht) (suf (su _ _ _ h2).1 ht)
    · rw [unF.eq_def] at h
      simp only [] at h
      split at h
      · cases h
      · split at h
        · cases h
        · split at h
          · cases h; trivial
          · split at h
            · split at h
              · cases h
              · rename_i x1 h1; cases h
                exact ⟨hd ht, hu _ _ _ h1 (tl ht)⟩
            · split at h
              · split at h
                · cases h
                · rename_i x1 h1
                  split at h
                  · split at h
                    · cases h
                      have h3 := he _ _ _ h1 (tl ht)
                      exact h3
                    · cases h
                  · cases h
              · cases h
    · rw [loopF] at h
      split at h
      · split at h
        · cases h
        · rename_i q r hr
          rw [hr] at ht
          split at h
          · cases h
          · rename_i y1 h2
            have n2 := hb _ _ _ _ h2 (tl ht)
            exact hl _ _ _ _ h ⟨hd ht, hx, n2⟩ (suf (sb _ _ _ _ h2).1 (tl ht))
      · cases h; exact hx
theorem rk_all : ∀ x : Nd, NdOk x → NdR x → RK x
  | .leaf t, h, g => rk_leaf t h
  | .gives t a x, h, g => rk_gives t a x h g.1 (rk_all x h.2.2.2 g.2)
  | .one t x, h, g => rk_one t x h g.1 (rk_all x h.2.2.2.2 g.2)
  | .two t x y, h, g => rk_two t x y h g.1 (rk_all x h.2.2.2.2.2.1 g.2.1) (rk_all y h.2.2.2.2.2.2 g.2.2)
  | .cond t x y z, h, g => rk_cond t x y z h (rk_all x h.2.2.1 g.1) (rk_all y h.2.2.2.1 g.2.1) (rk_all z h.2.2.2.2 g.2.2)
end Go.Proofs.Ytkjgadanaknleaa
