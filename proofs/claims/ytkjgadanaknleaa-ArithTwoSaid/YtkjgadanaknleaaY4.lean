/-
  THE PLAIN LAW, PART 44: reading, without the count of steps.
-/
import Derived.Test.YtkjgadanaknleaaW5
namespace Go.Proofs.Ytkjgadanaknleaa
open Go Go.Id
set_option linter.unusedSimpArgs false
set_option linter.unusedVariables false
set_option maxRecDepth 100000
set_option maxHeartbeats 4000000

/-- An error is told by a number that is not nought. -/
def NZ : Except Int Rd → Prop
  | .ok _ => True
  | .error e => e ≠ 0
theorem parse_nz2 : ∀ f, (∀ l d, 4 * l.length + 4 ≤ f → NZ (exprF f l d)) ∧ (∀ l d, 4 * l.length + 3 ≤ f → NZ (condF f l d)) ∧ (∀ least l d, 4 * l.length + 2 ≤ f → NZ (binF f least l d)) ∧
    (∀ l d, 4 * l.length + 1 ≤ f → NZ (unF f l d)) ∧ (∀ least x d, 4 * x.rest.length + 1 ≤ f → NZ (loopF f least x d))
  | 0 => ⟨fun _ _ h => by omega, fun _ _ h => by omega, fun _ _ _ h => by omega, fun _ _ h => by omega, fun _ _ _ h => by omega⟩
  | f + 1 => by
    obtain ⟨he, hc, hb, hu, hl⟩ := parse_nz2 f
    obtain ⟨se, sc, sb, su, sl⟩ := subF f
    refine ⟨fun l d hm => ?_, fun l d hm => ?_, fun least l d hm => ?_, fun l d hm => ?_, fun least x d hm => ?_⟩
    · rw [exprF.eq_def]
      simp only []
      split
      · rename_i a b r
        simp only [List.length_cons] at hm
        split
        · have := he r d (by omega)
          split
          · trivial
          · rename_i e h; rw [h] at this; exact this
        · exact hc _ _ (by simp only [List.length_cons]; omega)
      · exact hc _ _ (by omega)
    · rw [condF]
      have h0 := hb 1 l d (by omega)
      split
      · rename_i e h; rw [h] at h0; exact h0
      · rename_i x1 h1
        have s1 := (sb _ _ _ _ h1).2
        split
        · rename_i q r hr
          rw [hr] at s1
          simp only [List.length_cons] at s1
          split
          · have h2 := he r d (by omega)
            split
            · rename_i e h; rw [h] at h2; exact h2
            · rename_i y hy
              have s2 := (se _ _ _ hy).2
              split
              · rename_i c r' hr'
                rw [hr'] at s2
                simp only [List.length_cons] at s2
                split
                · have h3 := hc r' d (by omega)
                  split
                  · rename_i e h; rw [h] at h3; exact h3
                  · trivial
                · show (61 : Int) ≠ 0; decide
              · show (61 : Int) ≠ 0; decide
          · trivial
        · trivial
    · rw [binF]
      have h0 := hu l d (by omega)
      split
      · rename_i e h; rw [h] at h0; exact h0
      · rename_i x1 h1
        have s1 := (su _ _ _ h1).2
        exact hl _ _ _ (by omega)
    · rw [unF.eq_def]
      simp only []
      split
      · show (63 : Int) ≠ 0; decide
      · split
        · show (61 : Int) ≠ 0; decide
        · rename_i a r
          simp only [List.length_cons] at hm
          split
          · trivial
          · split
            · have h0 := hu r (d + 1) (by omega)
              split
              · rename_i e h; rw [h] at h0; exact h0
              · trivial
            · split
              · have h0 := he r (d + 1) (by omega)
                split
                · rename_i e h; rw [h] at h0; exact h0
                · split
                  · split
                    · trivial
                    · show (61 : Int) ≠ 0; decide
                  · show (61 : Int) ≠ 0; decide
              · show (61 : Int) ≠ 0; decide
    · rw [loopF]
      split
      · split
        · show (61 : Int) ≠ 0; decide
        · rename_i q r hr
          rw [hr] at hm
          simp only [List.length_cons] at hm
          have h0 := hb (levelOf q.sign + 1) r d (by omega)
          split
          · rename_i e h; rw [h] at h0; exact h0
          · rename_i y hy
            have s1 := (sb _ _ _ _ hy).2
            exact hl _ _ _ (by show 4 * y.rest.length + 1 ≤ f; omega)
      · trivial

/-- More steps change nothing, if there were enough. -/
def Same (a b : Except Int Rd) : Prop := a ≠ .error 0 → b = a
theorem parse_same : ∀ f, (∀ l d, Same (exprF f l d) (exprF (f + 1) l d)) ∧ (∀ l d, Same (condF f l d) (condF (f + 1) l d)) ∧ (∀ least l d, Same (binF f least l d) (binF (f + 1) least l d)) ∧
    (∀ l d, Same (unF f l d) (unF (f + 1) l d)) ∧ (∀ least x d, Same (loopF f least x d) (loopF (f + 1) least x d))
  | 0 => by
    refine ⟨?_, ?_, ?_, ?_, ?_⟩ <;> intros <;> intro h <;> simp [exprF, condF, binF, unF, loopF] at h
  | f + 1 => by
    obtain ⟨he, hc, hb, hu, hl⟩ := parse_same f
    refine ⟨fun l d h => ?_, fun l d h => ?_, fun least l d h => ?_, fun l d h => ?_, fun least x d h => ?_⟩
    · rw [exprF.eq_def] at h
      rw [exprF.eq_def, exprF.eq_def (f + 1)]
      simp only [] at h ⊢
      split
      · rename_i a b r
        simp only [] at h
        split
        · rename_i hg
          rw [if_pos hg] at h
          by_cases h0 : exprF f r d = .error 0
          · rw [h0] at h; exact absurd rfl h
          · rw [he _ _ h0]
        · rename_i hg
          rw [if_neg hg] at h
          exact hc _ _ h
      · rename_i hn
        refine hc _ _ ?_
        split at h
        · rename_i a b r
          exact absurd rfl (hn a b r)
        · exact h
    · rw [condF] at h
      rw [condF, condF.eq_def (f + 1)]
      simp only []
      by_cases h0 : binF f 1 l d = .error 0
      · rw [h0] at h; exact absurd rfl h
      · rw [hb _ _ _ h0]
        cases h1 : binF f 1 l d with
        | error e => rfl
        | ok x =>
          rw [h1] at h
          simp only [] at h ⊢
          cases hr : x.rest with
          | nil => rfl
          | cons q r =>
            rw [hr] at h
            simp only [] at h ⊢
            split
            · rename_i hq
              rw [if_pos hq] at h
              by_cases h2 : exprF f r d = .error 0
              · rw [h2] at h; exact absurd rfl h
              · rw [he _ _ h2]
                cases h3 : exprF f r d with
                | error e => rfl
                | ok y =>
                  rw [h3] at h
                  simp only [] at h ⊢
                  cases hr' : y.rest with
                  | nil => rfl
                  | cons c r' =>
                    rw [hr'] at h
                    simp only [] at h ⊢
                    split
                    · rename_i hc'
                      rw [if_pos hc'] at h
                      by_cases h4 : condF f r' d = .error 0
                      · rw [h4] at h; exact absurd rfl h
                      · rw [hc _ _ h4]
                    · rfl
            · rfl
    · rw [binF] at h
      rw [binF, binF.eq_def (f + 1)]
      simp only []
      by_cases h0 : unF f l d = .error 0
      · rw [h0] at h; exact absurd rfl h
      · rw [hu _ _ h0]
        cases h1 : unF f l d with
        | error e => rfl
        | ok x =>
          rw [h1] at h
          exact hl _ _ _ h
    · rw [unF.eq_def] at h
      rw [unF.eq_def, unF.eq_def (f + 1)]
      simp only [] at h ⊢
      split
      · rfl
      · rename_i hd
        rw [if_neg hd] at h
        cases l with
        | nil => rfl
        | cons a r =>
          simp only [] at h ⊢
          split
          · rfl
          · rename_i h1
            rw [if_neg h1] at h
            split
            · rename_i h2
              rw [if_pos h2] at h
              by_cases h3 : unF f r (d + 1) = .error 0
              · rw [h3] at h; exact absurd rfl h
              · rw [hu _ _ h3]
            · rename_i h2
              rw [if_neg h2] at h
              split
              · rename_i h4
                rw [if_pos h4] at h
                by_cases h3 : exprF f r (d + 1) = .error 0
                · rw [h3] at h; exact absurd rfl h
                · rw [he _ _ h3]
              · rfl
    · rw [loopF] at h
      rw [loopF, loopF.eq_def (f + 1)]
      simp only []
      split
      · rename_i hlv
        rw [if_pos hlv] at h
        cases hr : x.rest with
        | nil => rfl
        | cons q r =>
          rw [hr] at h
          simp only [] at h ⊢
          by_cases h0 : binF f (levelOf q.sign + 1) r d = .error 0
          · rw [h0] at h; exact absurd rfl h
          · rw [hb _ _ _ h0]
            cases h1 : binF f (levelOf q.sign + 1) r d with
            | error e => rfl
            | ok y =>
              rw [h1] at h
              exact hl _ _ _ h
      · rfl
theorem NZ.ne {r : Except Int Rd} (h : NZ r) : r ≠ .error 0 := by
  intro h2; rw [h2] at h; exact h rfl
theorem same_up {F : Nat → Except Int Rd} {m : Nat} (hs : ∀ f, Same (F f) (F (f + 1))) (hn : ∀ f, m ≤ f → NZ (F f)) : ∀ f, m ≤ f → F f = F m := by
  intro f
  induction f with
  | zero => intro h; rw [Nat.le_zero.1 h]
  | succ f ih =>
    intro h
    by_cases he : m = f + 1
    · rw [he]
    · rw [hs f (hn f (by omega)).ne, ih (by omega)]

/-! Reading, with as many steps as it takes. -/
def exprE (l : List Tok) (d : Int) : Except Int Rd := exprF (4 * l.length + 4) l d
def condE (l : List Tok) (d : Int) : Except Int Rd := condF (4 * l.length + 3) l d
def binE (k : Int) (l : List Tok) (d : Int) : Except Int Rd := binF (4 * l.length + 2) k l d
def unE (l : List Tok) (d : Int) : Except Int Rd := unF (4 * l.length + 1) l d
def loopE (k : Int) (x : Rd) (d : Int) : Except Int Rd := loopF (4 * x.rest.length + 1) k x d
theorem exprF_E {f : Nat} {l : List Tok} {d : Int} (h : 4 * l.length + 4 ≤ f) : exprF f l d = exprE l d :=
  same_up (F := fun f => exprF f l d) (fun f => (parse_same f).1 l d) (fun f hf => (parse_nz2 f).1 l d hf) f h
theorem condF_E {f : Nat} {l : List Tok} {d : Int} (h : 4 * l.length + 3 ≤ f) : condF f l d = condE l d :=
  same_up (F := fun f => condF f l d) (fun f => (parse_same f).2.1 l d) (fun f hf => (parse_nz2 f).2.1 l d hf) f h
theorem binF_E {f : Nat} {k : Int} {l : List Tok} {d : Int} (h : 4 * l.length + 2 ≤ f) : binF f k l d = binE k l d :=
  same_up (F := fun f => binF f k l d) (fun f => (parse_same f).2.2.1 k l d) (fun f hf => (parse_nz2 f).2.2.1 k l d hf) f h
theorem unF_E {f : Nat} {l : List Tok} {d : Int} (h : 4 * l.length + 1 ≤ f) : unF f l d = unE l d :=
  same_up (F := fun f => unF f l d) (fun f => (parse_same f).2.2.2.1 l d) (fun f hf => (parse_nz2 f).2.2.2.1 l d hf) f h
theorem loopF_E {f : Nat} {k : Int} {x : Rd} {d : Int} (h : 4 * x.rest.length + 1 ≤ f) : loopF f k x d = loopE k x d :=
  same_up (F := fun f => loopF f k x d) (fun f => (parse_same f).2.2.2.2 k x d) (fun f hf => (parse_nz2 f).2.2.2.2 k x d hf) f h
theorem unE_sub {l : List Tok} {d : Int} {x : Rd} (h : unE l d = .ok x) : Sub x.rest l := (subF _).2.2.2.1 _ _ _ h
theorem binE_sub {k : Int} {l : List Tok} {d : Int} {x : Rd} (h : binE k l d = .ok x) : Sub x.rest l := (subF _).2.2.1 _ _ _ _ h
theorem exprE_sub {l : List Tok} {d : Int} {x : Rd} (h : exprE l d = .ok x) : Sub x.rest l := (subF _).1 _ _ _ h
theorem condE_sub {l : List Tok} {d : Int} {x : Rd} (h : condE l d = .ok x) : Sub x.rest l := (subF _).2.1 _ _ _ h
theorem exprE_nz {l : List Tok} {d e : Int} (h : exprE l d = .error e) : e ≠ 0 := by have := (parse_nz2 _).1 l d (Nat.le_refl _); unfold exprE at h; rw [h] at this; exact this
theorem condE_nz {l : List Tok} {d e : Int} (h : condE l d = .error e) : e ≠ 0 := by have := (parse_nz2 _).2.1 l d (Nat.le_refl _); unfold condE at h; rw [h] at this; exact this
theorem binE_nz {k : Int} {l : List Tok} {d e : Int} (h : binE k l d = .error e) : e ≠ 0 := by have := (parse_nz2 _).2.2.1 k l d (Nat.le_refl _); unfold binE at h; rw [h] at this; exact this
theorem unE_nz {l : List Tok} {d e : Int} (h : unE l d = .error e) : e ≠ 0 := by have := (parse_nz2 _).2.2.2.1 l d (Nat.le_refl _); unfold unE at h; rw [h] at this; exact this

/-! The steps. -/
theorem exprE_gives {a b : Tok} {r : List Tok} {d : Int} (h : (!(a.name == []) && isGives b.sign) = true) : exprE (a :: b :: r) d = match exprE r d with
    | .ok x => .ok ⟨.gives b a x.nd, x.rest⟩
    | .error e => .error e := by
  rw [exprE, exprF.eq_def]
  simp only []
  rw [if_pos h, exprF_E (by simp only [List.length_cons]; omega)]
  rfl
theorem exprE_cond {l : List Tok} {d : Int} (h : ∀ a b r, l = a :: b :: r → (!(a.name == []) && isGives b.sign) = false) : exprE l d = condE l d := by
  rw [exprE, exprF.eq_def]
  simp only []
  split
  · rename_i a b r
    rw [if_neg (by rw [h a b r rfl]; decide), condF_E (Nat.le_refl _)]
  · rw [condF_E (Nat.le_refl _)]
theorem condE_eq (l : List Tok) (d : Int) : condE l d = match binE 1 l d with
    | .error e => .error e
    | .ok x => match x.rest with
      | q :: r => if q.sign == [63] then
          match exprE r d with
          | .error e => .error e
          | .ok y => match y.rest with
            | c :: r' => if c.sign == [58] then
                match condE r' d with
                | .error e => .error e
                | .ok z => .ok ⟨.cond q x.nd y.nd z.nd, z.rest⟩
              else .error 61
            | [] => .error 61
        else .ok x
      | [] => .ok x := by
  rw [condE, condF, binF_E (Nat.le_refl _)]
  cases h1 : binE 1 l d with
  | error e => rfl
  | ok x =>
    have s1 := (binE_sub h1).2
    simp only []
    cases hr : x.rest with
    | nil => rfl
    | cons q r =>
      rw [hr] at s1
      simp only [List.length_cons] at s1
      simp only []
      rw [exprF_E (by omega)]
      cases h3 : exprE r d with
      | error e => rfl
      | ok y =>
        have s2 := (exprE_sub h3).2
        simp only []
        cases hr' : y.rest with
        | nil => rfl
        | cons c r' =>
          rw [hr'] at s2
          simp only [List.length_cons] at s2
          simp only []
          rw [condF_E (by omega)]
          rfl
theorem binE_eq (k : Int) (l : List Tok) (d : Int) : binE k l d = match unE l d with
    | .error e => .error e
    | .ok x => loopE k x d := by
  rw [binE, binF, unF_E (Nat.le_refl _)]
  cases h1 : unE l d with
  | error e => rfl
  | ok x =>
    have s1 := (unE_sub h1).2
    simp only []
    rw [loopF_E (by omega)]
theorem loopE_stop {k : Int} {x : Rd} {d : Int} (h : levelOf (nextOf x.rest) < k) : loopE k x d = .ok x := by
  rw [loopE, loopF, if_neg (by omega)]
theorem loopE_go {k : Int} {nd : Nd} {q : Tok} {r : List Tok} {d : Int} (h : levelOf q.sign ≥ k) : loopE k ⟨nd, q :: r⟩ d = match binE (levelOf q.sign + 1) r d with
    | .error e => .error e
    | .ok y => loopE k ⟨.two q nd y.nd, y.rest⟩ d := by
  rw [loopE, loopF, if_pos (show levelOf (nextOf (q :: r)) ≥ k from h)]
  simp only [List.length_cons]
  rw [binF_E (by omega)]
  cases h1 : binE (levelOf q.sign + 1) r d with
  | error e => rfl
  | ok y =>
    have s1 := (binE_sub h1).2
    simp only []
    rw [loopF_E (by show 4 * y.rest.length + 1 ≤ _; omega)]
theorem unE_deep {l : List Tok} {d : Int} (h : d + 1 > 65) : unE l d = .error 63 := by
  rw [unE, unF.eq_def]; simp only []; rw [if_pos h]
theorem unE_nil {d : Int} (h : ¬ d + 1 > 65) : unE [] d = .error 61 := by
  rw [unE, unF.eq_def]; simp only []; rw [if_neg h]
theorem unE_cons {a : Tok} {r : List Tok} {d : Int} (h : ¬ d + 1 > 65) : unE (a :: r) d = if a.sign == [] then .ok ⟨.leaf a, r⟩
      else if a.sign == [43] || a.sign == [45] || a.sign == [33] || a.sign == [126] then
        match unE r (d + 1) with
        | .error e => .error e
        | .ok x => .ok ⟨.one a x.nd, x.rest⟩
      else if a.sign == [40] then
        match exprE r (d + 1) with
        | .error e => .error e
        | .ok x => match x.rest with
          | c :: r' => if c.sign == [41] then .ok ⟨x.nd, r'⟩ else .error 61
          | [] => .error 61
      else .error 61 := by
  rw [unE, unF.eq_def]; simp only []; rw [if_neg h, unF_E (by simp only [List.length_cons]; omega), exprF_E (by simp only [List.length_cons]; omega)]
  rfl

/-! What binds closer is read first. -/
theorem loopE_split (m : Int) (d : Int) : ∀ (n : Nat) (x : Rd), x.rest.length ≤ n → loopE m x d = match loopE (m + 1) x d with
    | .error e => .error e
    | .ok a => loopE m a d := by
  intro n
  induction n with
  | zero =>
    rintro ⟨nd, rest⟩ h
    cases rest with
    | cons q r => simp at h
    | nil =>
      by_cases h1 : levelOf (nextOf []) < m + 1
      · rw [loopE_stop (k := m + 1) h1]
      · have : (0 : Int) = levelOf [] := by decide
        rw [loopE, loopF, if_pos (show levelOf (nextOf []) ≥ m by omega), loopE, loopF, if_pos (show levelOf (nextOf []) ≥ m + 1 by omega)]
  | succ n ih =>
    rintro ⟨nd, rest⟩ h
    by_cases h1 : levelOf (nextOf rest) < m + 1
    · rw [loopE_stop (k := m + 1) h1]
    · cases rest with
      | nil => rw [loopE, loopF, if_pos (show levelOf (nextOf []) ≥ m by omega), loopE, loopF, if_pos (show levelOf (nextOf []) ≥ m + 1 by omega)]
      | cons q r =>
        have h2 : levelOf q.sign ≥ m + 1 := by simp only [nextOf] at h1; omega
        rw [loopE_go (by omega), loopE_go h2]
        cases h3 : binE (levelOf q.sign + 1) r d with
        | error e => rfl
        | ok y =>
          have s1 := (binE_sub h3).2
          simp only [List.length_cons] at h
          simp only []
          exact ih _ (by show y.rest.length ≤ n; omega)
theorem binE_split (k : Int) (l : List Tok) (d : Int) : binE k l d = match binE (k + 1) l d with
    | .error e => .error e
    | .ok a => loopE k a d := by
  rw [binE_eq, binE_eq (k + 1)]
  cases h : unE l d with
  | error e => rfl
  | ok x => exact loopE_split k d _ x (Nat.le_refl _)
theorem loopE_next (m : Int) (d : Int) : ∀ (n : Nat) (x y : Rd), x.rest.length ≤ n → loopE m x d = .ok y → levelOf (nextOf y.rest) < m := by
  intro n
  induction n with
  | zero =>
    rintro ⟨nd, rest⟩ y h hy
    cases rest with
    | cons q r => simp at h
    | nil =>
      by_cases h1 : levelOf (nextOf []) < m
      · rw [loopE_stop (x := ⟨nd, []⟩) h1] at hy; cases hy; exact h1
      · rw [loopE, loopF, if_pos (show levelOf (nextOf []) ≥ m by omega)] at hy; cases hy
  | succ n ih =>
    rintro ⟨nd, rest⟩ y h hy
    by_cases h1 : levelOf (nextOf rest) < m
    · rw [loopE_stop (x := ⟨nd, rest⟩) h1] at hy; cases hy; exact h1
    · cases rest with
      | nil => rw [loopE, loopF, if_pos (show levelOf (nextOf []) ≥ m by omega)] at hy; cases hy
      | cons q r =>
        rw [loopE_go (by simp only [nextOf] at h1; omega)] at hy
        cases h3 : binE (levelOf q.sign + 1) r d with
        | error e => rw [h3] at hy; cases hy
        | ok z =>
          rw [h3] at hy
          have s1 := (binE_sub h3).2
          simp only [List.length_cons] at h
          exact ih _ _ (by show z.rest.length ≤ n; omega) hy
theorem binE_next {k : Int} {l : List Tok} {d : Int} {y : Rd} (h : binE k l d = .ok y) : levelOf (nextOf y.rest) < k := by
  rw [binE_eq] at h
  cases h1 : unE l d with
  | error e => rw [h1] at h; cases h
  | ok x => rw [h1] at h; exact loopE_next k d _ x y (Nat.le_refl _) h
end Go.Proofs.Ytkjgadanaknleaa
