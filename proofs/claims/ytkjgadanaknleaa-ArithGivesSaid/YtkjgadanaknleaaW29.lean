/-
  THE PLAIN LAW, PART 29: a name that is given what a text is.
-/
import Derived.Test.YtkjgadanaknleaaW28
namespace Go.Proofs.Ytkjgadanaknleaa
open Go Go.Id
set_option linter.unusedSimpArgs false
set_option linter.unusedVariables false
set_option maxRecDepth 100000
set_option maxHeartbeats 4000000

theorem name_head {name : List UInt8} (h : nameB name = true) : ∃ c r, name = c :: r ∧ letterB c.toNat = true ∧ name.takeWhile wordB = name ∧ name.length ≤ 64 := by
  simp only [nameB, Bool.and_eq_true, Bool.not_eq_true', beq_eq_false_iff_ne, decide_eq_true_eq, beq_iff_eq] at h
  obtain ⟨h1, h2, h3⟩ := h
  cases name with
  | nil => exact absurd rfl h1
  | cons c r =>
    simp only [namedN] at h3
    have hl : letterB c.toNat = true := by
      by_cases hc : letterB c.toNat = true
      · exact hc
      · rw [if_neg hc] at h3; simp at h3; omega
    rw [if_pos hl] at h3
    have h4 : (r.takeWhile wordB).length = r.length := by simp only [List.length_cons] at h3; omega
    have h5 : r.takeWhile wordB = r := (List.takeWhile_sublist _).eq_of_length h4
    refine ⟨c, r, rfl, hl, ?_, by omega⟩
    rw [List.takeWhile_cons, if_pos (by simp [wordB, hl]), h5]
theorem letter_no {c : UInt8} (h : letterB c.toNat = true) : (∀ k ∈ ([32, 9, 10, 36, 60, 62, 61, 33, 38, 124, 43, 45, 42, 47, 37, 94, 126, 63, 58, 40, 41] : List UInt8), c ≠ k) ∧ digitB c.toNat = false := by
  constructor
  · intro k hk hc
    subst hc
    revert h
    have : ∀ k ∈ ([32, 9, 10, 36, 60, 62, 61, 33, 38, 124, 43, 45, 42, 47, 37, 94, 126, 63, 58, 40, 41] : List UInt8), letterB k.toNat = false := by decide
    rw [this c hk]; simp
  · simp only [letterB, Bool.or_eq_true, Bool.and_eq_true, decide_eq_true_eq, beq_iff_eq] at h
    simp only [digitB, Bool.and_eq_false_imp, decide_eq_true_eq, decide_eq_false_iff_not]
    omega
theorem hasPre_head {c y : UInt8} {s x : List UInt8} (h : c ≠ y) : hasPre (c :: s) (y :: x) = false := by
  unfold hasPre
  rw [Bool.and_eq_false_imp]
  intro _
  rw [List.length_cons, List.take_succ_cons, beq_eq_false_iff_ne]
  intro e
  exact h (List.cons.inj e).1
theorem signL_none {c : UInt8} {s : List UInt8} : ∀ l : List (List UInt8), (∀ x ∈ l, ∃ y r, x = y :: r ∧ c ≠ y) → signL (c :: s) l = []
  | [], _ => rfl
  | x :: l, h => by
    obtain ⟨y, r, rfl, hy⟩ := h x (List.mem_cons_self ..)
    rw [signL, hasPre_head hy, if_neg (by simp), signL_none l fun z hz => h z (List.mem_cons_of_mem _ hz)]
theorem sign_letter {c : UInt8} {s : List UInt8} (h : letterB c.toNat = true) : signOf (c :: s) = [] := by
  refine signL_none signs fun x hx => ?_
  have hne := (letter_no h).1
  have : ∀ x ∈ signs, ∃ y, x.head? = some y ∧ y ∈ ([32, 9, 10, 36, 60, 62, 61, 33, 38, 124, 43, 45, 42, 47, 37, 94, 126, 63, 58, 40, 41] : List UInt8) := by
    intro x hx
    have hall : signs.all (fun x => match x.head? with | some y => ([32, 9, 10, 36, 60, 62, 61, 33, 38, 124, 43, 45, 42, 47, 37, 94, 126, 63, 58, 40, 41] : List UInt8).contains y | none => false) = true := by decide
    have := List.all_eq_true.1 hall x hx
    cases hh : x.head? with
    | none => rw [hh] at this; cases this
    | some y => rw [hh] at this; exact ⟨y, rfl, by simpa using this⟩
  obtain ⟨y, h1, h2⟩ := this x hx
  cases x with
  | nil => cases h1
  | cons z r => simp at h1; subst h1; exact ⟨z, r, rfl, hne _ h2⟩
def nmT (name : List UInt8) : Tok := ⟨[], name, 0⟩
def eqT : Tok := ⟨[61], [], 0⟩
theorem blank_letter {c : UInt8} (h : letterB c.toNat = true) : blankB c = false := by
  rw [← Bool.not_eq_true]
  intro hb
  have := (letter_no h).1
  rcases blank_of hb with e | e | e
  · exact this 32 (by simp) e
  · exact this 9 (by simp) e
  · exact this 10 (by simp) e
/-- A name with something behind it that is no part of it. -/
theorem tokens_name {name t : List UInt8} (hn : nameB name = true) (ht : t = [] ∨ ∃ c r, t = c :: r ∧ wordB c = false) (g : Nat) (l : List Tok) : tokensF (g + 1) (name ++ t) l = tokensF g t (l ++ [nmT name]) := by
  obtain ⟨c, r, rfl, hl, htw, h64⟩ := name_head hn
  have hrun : runN ((c :: r) ++ t) = (c :: r).length := by
    rcases ht with rfl | ⟨d, t', rfl, hd⟩
    · rw [List.append_nil, runN, htw]
    · rw [run_stop hd, runN, htw]
  rw [List.cons_append, tokensF, if_neg (by rw [blank_letter hl]; simp)]
  have hu : undollar (c :: (r ++ t)) = (c :: r) ++ t := by
    unfold undollar
    have : ((c.toNat : Int) == 36) = false := by
      rw [beq_eq_false_iff_ne]
      intro e
      have e2 : c.toNat = 36 := by omega
      have h36 : c = 36 := UInt8.toNat_inj.1 e2
      exact (letter_no hl).1 36 (by simp) h36
    simp [this]
  simp only [hu]
  rw [if_neg (by rw [List.cons_append, sign_letter hl]; simp), hrun, if_neg (by simp; omega)]
  have hg : ((c :: r) ++ t).getD 0 0 = c := rfl
  rw [hg, (letter_no hl).2, if_neg (by simp), List.take_left, if_neg (by rw [hn]; simp), List.drop_left]
  rfl
theorem sign_eq {s : List UInt8} (h : s.head? ≠ some 61) : signOf (61 :: s) = [61] := by
  cases s with
  | nil => rfl
  | cons a r =>
    have ha : a ≠ 61 := by simpa using h
    have h2 : hasPre (61 :: a :: r) [61, 61] = false := by
      unfold hasPre
      rw [Bool.and_eq_false_imp]
      intro _
      simp [ha]
    have h1 : hasPre (61 :: a :: r) [61] = true := by simp [hasPre]; omega
    have hh : ∀ y x, (61 : UInt8) ≠ y → hasPre (61 :: a :: r) (y :: x) = false := fun y x hy => hasPre_head hy
    simp [signOf, signs, signL, h1, h2, hh]
theorem tokens_eq {s : List UInt8} (h : s.head? ≠ some 61) (g : Nat) (l : List Tok) : tokensF (g + 1) (61 :: s) l = tokensF g s (l ++ [eqT]) := by
  rw [tokensF, if_neg (by decide)]
  have hu : undollar (61 :: s) = 61 :: s := by simp [undollar]
  simp only [hu, sign_eq h]
  rw [if_pos (by decide)]
  rfl
theorem tokens_give {name s : List UInt8} {ts : List Tok} (hn : nameB name = true) (h61 : s.head? ≠ some 61) (h : tokensF s.length s [] = .ok ts) : tokensF (name ++ 61 :: s).length (name ++ 61 :: s) [] = .ok (nmT name :: eqT :: ts) := by
  have hlen : (name ++ 61 :: s).length = (name.length + s.length) + 1 := by simp; omega
  obtain ⟨c, r, hc, _, _, _⟩ := name_head hn
  have hpos : 1 ≤ name.length := by rw [hc]; simp
  obtain ⟨k, hk⟩ : ∃ k, name.length + s.length = k + 1 := ⟨name.length + s.length - 1, by omega⟩
  rw [hlen, tokens_name hn (.inr ⟨61, s, rfl, by decide⟩), hk, tokens_eq h61]
  have e := tokens_acc [nmT name, eqT] k s []
  rw [List.append_nil] at e
  rw [show ([] ++ [nmT name]) ++ [eqT] = [nmT name, eqT] from rfl, e, tokens_fuel k s.length s [] (by omega) (Nat.le_refl _), h]
  rfl
/-- A text that begins with '=' is wrong. -/
theorem eq_wrong {s : List UInt8} {l : List V} {r : Int × List V} (h : arithF (61 :: s) l = .ok r) : False := by
  rw [arithF] at h
  split at h
  · cases h
  · have hx : ∃ x, (x = [61] ∨ x = [61, 61]) ∧ signOf (61 :: s) = x := by
      by_cases h61 : s.head? = some 61
      · refine ⟨[61, 61], .inr rfl, ?_⟩
        cases s with
        | nil => cases h61
        | cons a r =>
          have ha : a = 61 := by simpa using h61
          subst ha
          have h2 : hasPre (61 :: 61 :: r) [61, 61] = true := by simp [hasPre]; omega
          have hh : ∀ y x, (61 : UInt8) ≠ y → hasPre (61 :: 61 :: r) (y :: x) = false := fun y x hy => hasPre_head hy
          simp [signOf, signs, signL, h2, hh]
      · exact ⟨[61], .inl rfl, sign_eq h61⟩
    obtain ⟨x, hx1, hx2⟩ := hx
    have hu : undollar (61 :: s) = 61 :: s := by simp [undollar]
    have ht : tokensF (61 :: s).length (61 :: s) [] = tokensF s.length ((61 :: s).drop x.length) [⟨x, [], 0⟩] := by
      rw [List.length_cons, tokensF, if_neg (by decide)]
      simp only [hu, hx2]
      rw [if_pos (by rcases hx1 with h | h <;> subst h <;> decide)]
      rfl
    rw [ht] at h
    have e := tokens_acc [⟨x, [], 0⟩] s.length ((61 :: s).drop x.length) []
    rw [List.append_nil] at e
    rw [e] at h
    cases hts : tokensF s.length ((61 :: s).drop x.length) [] with
    | error e' => rw [hts] at h; cases h
    | ok ts =>
      rw [hts] at h
      simp only [List.cons_append, List.nil_append] at h
      rw [if_neg (by simp)] at h
      have hex : exprF (4 * ((⟨x, [], 0⟩ : Tok) :: ts).length + 4) (⟨x, [], 0⟩ :: ts) 0 = .error 61 := by
        have hf : 4 * ((⟨x, [], 0⟩ : Tok) :: ts).length + 4 = (4 * ts.length + 4) + 4 := by simp; omega
        rw [hf]
        have hun : unF (4 * ts.length + 4 + 1) (⟨x, [], 0⟩ :: ts) 0 = .error 61 := by
          rw [unF.eq_def]
          simp only []
          rcases hx1 with h | h <;> subst h <;> rfl
        have hc : condF (4 * ts.length + 4 + 3) (⟨x, [], 0⟩ :: ts) 0 = .error 61 := by rw [condF, binF, hun]
        cases ts with
        | nil => rw [exprF]; exact hc; intro a b r h; cases h
        | cons b ts => rw [exprF, if_neg (by simp)]; exact hc
      rw [hex] at h
      cases h
theorem get_put (name val : List UInt8) : ∀ l : List V, getF name (putV name val l) = numF val
  | [] => by simp [putV, getF, findV]
  | v :: l => by
    rw [putV]
    by_cases h : (v.name == name) = true
    · rw [if_pos h]; simp [getF, findV, h]
    · rw [if_neg h]
      have ih := get_put name val l
      simp only [Bool.not_eq_true] at h
      rw [show v = ⟨v.name, v.value⟩ from rfl, get_miss h]; exact ih
theorem put_get (name val : List UInt8) : ∀ (l : List V) (i : Nat) (h : i < l.length) (h2 : i < (putV name val l).length), l[i].name ≠ name → (putV name val l)[i] = l[i]
  | v :: l, i, h, h2, hne => by
    by_cases hv : (v.name == name) = true
    · simp only [putV, if_pos hv]
      cases i with
      | zero => exact absurd (by simpa using hv) hne
      | succ i => rfl
    · simp only [putV, if_neg hv]
      cases i with
      | zero => rfl
      | succ i =>
        simp only [List.getElem_cons_succ] at hne ⊢
        exact put_get name val l i (by simpa using h) _ hne
/-- What is given. -/
theorem gives_law {name s : List UInt8} {l v w : List V} {n m : Int} (hn : nameB name = true) (hs : s.length ≤ 2000) (hl : l.length ≤ 64) (h : arithF s l = .ok (n, v)) (h2 : arithF (name ++ 61 :: s) l = .ok (m, w)) : m = n ∧ w = putV name (textF n) v := by
  have h61 : s.head? ≠ some 61 := by
    intro e
    cases s with
    | nil => cases e
    | cons a r =>
      have : a = 61 := by simpa using e
      subst this
      exact eq_wrong h
  obtain ⟨c, r, hc, _, _, h64⟩ := name_head hn
  have hlen : ¬ (8192 < (name ++ 61 :: s).length ∨ 64 < l.length) := by simp; omega
  rw [arithF, if_neg (by omega)] at h
  cases hts : tokensF s.length s [] with
  | error e => rw [hts] at h; cases h
  | ok ts =>
    rw [hts] at h
    simp only [] at h
    rw [arithF, if_neg hlen, tokens_give hn h61 hts] at h2
    simp only [] at h2
    rw [if_neg (by simp)] at h2
    have hnm : (name == []) = false := by rw [hc]; rfl
    have hcond : (!((nmT name).name == []) && isGives eqT.sign) = true := by
      have e1 : (nmT name).name = name := rfl
      have e2 : isGives eqT.sign = true := by decide
      rw [e1, e2, hnm]; rfl
    have hf : 4 * (nmT name :: eqT :: ts).length + 4 = (4 * ts.length + 4) + 7 + 1 := by simp; omega
    rw [hf] at h2
    by_cases hne : ts = []
    · subst hne
      rw [exprF, if_pos hcond] at h2
      have : exprF (4 * ([] : List Tok).length + 4 + 7) [] 0 = .error 61 := rfl
      rw [this] at h2
      cases h2
    · rw [if_neg hne] at h
      cases hx : exprF (4 * ts.length + 4) ts 0 with
      | error e => rw [hx] at h; cases h
      | ok x =>
        rw [hx] at h
        simp only [] at h
        by_cases hr : x.rest = []
        · rw [if_pos hr] at h
          rw [exprF, if_pos hcond, expr_more 7 hx] at h2
          simp only [] at h2
          rw [if_pos hr] at h2
          rw [evalF, h] at h2
          have hg : giveF eqT.sign (nmT name).name n v = .ok n := by rw [giveF, if_pos (by decide)]
          simp only [hg] at h2
          cases hset : setF (nmT name).name n v with
          | error e => rw [hset] at h2; cases h2
          | ok l' =>
            rw [hset] at h2
            simp only [Except.ok.injEq, Prod.mk.injEq] at h2
            obtain ⟨rfl, rfl⟩ := h2
            unfold setF at hset
            split at hset
            · cases hset
            · cases hset; exact ⟨rfl, rfl⟩
        · rw [if_neg hr] at h; cases h
theorem name_alone {name : List UInt8} {l : List V} {n : Int} (hn : nameB name = true) (hl : l.length ≤ 64) (hg : getF name l = .ok n) : arithF name l = .ok (n, l) := by
  obtain ⟨c, r, hc, _, _, h64⟩ := name_head hn
  have ht : tokensF name.length name [] = .ok [nmT name] := by
    have := tokens_name hn (.inl rfl) (name.length - 1) []
    rw [List.append_nil] at this
    rw [show name.length = name.length - 1 + 1 by rw [hc]; simp, this]
    cases name.length - 1 <;> rfl
  rw [arithF, if_neg (by omega), ht]
  simp only []
  rw [if_neg (by simp)]
  have hx : exprF (4 * [nmT name].length + 4) [nmT name] 0 = .ok ⟨.leaf (nmT name), []⟩ := rfl
  rw [hx]
  simp only [if_true]
  have : ((nmT name).name == []) = false := by show (name == []) = false; rw [hc]; rfl
  rw [evalF, if_neg (by rw [this]; simp)]
  have e : (nmT name).name = name := rfl
  rw [e, hg]
end Go.Proofs.Ytkjgadanaknleaa
