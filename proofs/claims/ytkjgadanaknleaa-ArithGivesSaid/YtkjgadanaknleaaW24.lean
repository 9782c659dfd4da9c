/-
  THE PLAIN LAW, PART 24: what is cut of a text with something behind it that stands by itself.
-/
import Derived.Test.YtkjgadanaknleaaW20
namespace Go.Proofs.Ytkjgadanaknleaa
open Go Go.Id
set_option linter.unusedSimpArgs false
set_option linter.unusedVariables false
set_option maxRecDepth 100000
set_option maxHeartbeats 4000000

theorem hasPre_stop {u t x : List UInt8} {c : UInt8} (hu : u ≠ []) (hx : c ∉ x.drop 1) : hasPre (u ++ c :: t) x = hasPre u x := by
  unfold hasPre
  by_cases h : x.length ≤ u.length
  · rw [List.take_append_of_le_length h]
    congr 1
    simp only [List.length_append, List.length_cons]
    rw [decide_eq_true (by omega), decide_eq_true (by omega)]
  · have e1 : decide ((u.length : Int) ≥ x.length) = false := by simp; omega
    rw [e1, Bool.false_and, Bool.and_eq_false_imp]
    intro _
    rw [beq_eq_false_iff_ne]
    intro e
    apply hx
    obtain ⟨k, hk⟩ : ∃ k, x.length = u.length + (k + 1) := ⟨x.length - u.length - 1, by omega⟩
    rw [hk, List.take_length_add_append] at e
    rw [← e]
    cases u with
    | nil => exact absurd rfl hu
    | cons a u => simp
theorem signL_stop {u t : List UInt8} {c : UInt8} (hu : u ≠ []) : ∀ l : List (List UInt8), (∀ x ∈ l, c ∉ x.drop 1) → signL (u ++ c :: t) l = signL u l
  | [], _ => rfl
  | x :: l, h => by
    rw [signL, signL, hasPre_stop hu (h x (List.mem_cons_self ..)), signL_stop hu l fun y hy => h y (List.mem_cons_of_mem _ hy)]
theorem run_stop {t : List UInt8} {c : UInt8} (hc : wordB c = false) : ∀ u : List UInt8, runN (u ++ c :: t) = runN u
  | [] => by simp [runN, hc]
  | a :: u => by
    have ih := run_stop (t := t) hc u
    unfold runN at ih ⊢
    rw [List.cons_append, List.takeWhile_cons, List.takeWhile_cons]
    split
    · simp only [List.length_cons, ih]
    · rfl
theorem undollar_stop {u t : List UInt8} {c : UInt8} (hu : u ≠ []) (hc : letterB c.toNat = false) : undollar (u ++ c :: t) = undollar u ++ c :: t := by
  cases u with
  | nil => exact absurd rfl hu
  | cons a u =>
    cases u with
    | nil => simp [undollar, hc]
    | cons b u =>
      unfold undollar
      simp only [List.cons_append, List.getD_cons_zero, List.getD_cons_succ, List.length_cons, List.length_append]
      have e1 : decide (((u.length + (t.length + 1) + 1 + 1 : Nat) : Int) > 1) = true := by simp; omega
      have e2 : decide (((u.length + 1 + 1 : Nat) : Int) > 1) = true := by simp; omega
      rw [e1, e2]
      split <;> rfl
theorem tokens_fuel : ∀ (f g : Nat) (s : List UInt8) (l : List Tok), s.length ≤ f → s.length ≤ g → tokensF f s l = tokensF g s l
  | f, g, [], l, _, _ => by cases f <;> cases g <;> rfl
  | 0, _, c :: r, l, h, _ => by simp at h
  | _, 0, c :: r, l, _, h => by simp at h
  | f + 1, g + 1, c :: r, l, h1, h2 => by
    have hu := undollar_len (c :: r)
    simp only [List.length_cons] at h1 h2 hu
    rw [tokensF, tokensF]
    split
    · exact tokens_fuel f g _ _ (by omega) (by omega)
    · simp only []
      split
      · rename_i hs
        have : (signOf (undollar (c :: r))).length ≠ 0 := by
          intro h2; rw [List.eq_nil_of_length_eq_zero h2] at hs; simp at hs
        exact tokens_fuel f g _ _ (by rw [List.length_drop]; omega) (by rw [List.length_drop]; omega)
      · split
        · rfl
        · rename_i hn
          have h3 : runN (undollar (c :: r)) ≠ 0 := by intro h4; rw [h4] at hn; simp at hn
          split
          · split
            · rfl
            · exact tokens_fuel f g _ _ (by rw [List.length_drop]; omega) (by rw [List.length_drop]; omega)
          · split
            · rfl
            · exact tokens_fuel f g _ _ (by rw [List.length_drop]; omega) (by rw [List.length_drop]; omega)
theorem run_le (s : List UInt8) : runN s ≤ s.length := tw_le _ _
/-- What stands behind is cut by itself. -/
theorem tokens_stop {t : List UInt8} {c : UInt8} (hw : wordB c = false) (hl : letterB c.toNat = false) (hs : ∀ x ∈ signs, c ∉ x.drop 1) : ∀ (f : Nat) (s : List UInt8) (l r : List Tok) (g : Nat), s.length ≤ f → tokensF f s l = .ok r → (s ++ c :: t).length ≤ g →
    tokensF g (s ++ c :: t) l = tokensF g (c :: t) r
  | f, [], l, r, g, _, h, _ => by
    have : l = r := by cases f <;> simpa [tokensF] using h
    subst this; rfl
  | 0, a :: u, l, r, g, h, _, _ => by simp at h
  | f + 1, a :: u, l, r, 0, _, _, hg => by simp at hg
  | f + 1, a :: u, l, r, g + 1, hf, h, hg => by
    have hu := undollar_len (a :: u)
    have hne := undollar_ne (s := a :: u) (by simp)
    simp only [List.length_cons, List.length_append] at hf hg hu
    have fin : ∀ (x : List UInt8) (l' : List Tok), x.length ≤ f → x.length ≤ u.length → tokensF f x l' = .ok r → tokensF g (x ++ c :: t) l' = tokensF (g + 1) (c :: t) r := fun x l' h1 h2 h3 => by
      rw [tokens_stop hw hl hs f x l' r g h1 h3 (by simp only [List.length_append, List.length_cons]; omega)]
      exact tokens_fuel _ _ _ _ (by simp only [List.length_cons]; omega) (by simp only [List.length_cons]; omega)
    rw [List.cons_append, tokensF]
    rw [tokensF] at h
    split at h
    · rename_i hb
      rw [if_pos hb]
      exact fin u l (by omega) (by omega) h
    · rename_i hb
      rw [if_neg hb]
      simp only [] at h ⊢
      rw [show a :: (u ++ c :: t) = (a :: u) ++ c :: t from rfl, undollar_stop (by simp) hl]
      have e1 : signOf (undollar (a :: u) ++ c :: t) = signOf (undollar (a :: u)) := signL_stop hne signs hs
      have e2 := run_stop (t := t) hw (undollar (a :: u))
      have hsp := sign_pre (undollar (a :: u))
      have hrl := run_le (undollar (a :: u))
      generalize undollar (a :: u) = v at h hu hne e1 e2 hsp hrl ⊢
      rw [e1, e2]
      have e3 : (v ++ c :: t).getD 0 0 = v.getD 0 0 := by
        cases v with
        | nil => exact absurd rfl hne
        | cons x v => rfl
      have e4 : (v ++ c :: t).take (runN v) = v.take (runN v) := List.take_append_of_le_length hrl
      have e5 : (v ++ c :: t).drop (runN v) = v.drop (runN v) ++ c :: t := List.drop_append_of_le_length hrl
      have e6 : (v ++ c :: t).drop (signOf v).length = v.drop (signOf v).length ++ c :: t := List.drop_append_of_le_length hsp
      rw [e3, e4, e5, e6]
      split at h
      · rename_i h1
        rw [if_pos h1]
        have : (signOf v).length ≠ 0 := by
          intro h2; rw [List.eq_nil_of_length_eq_zero h2] at h1; simp at h1
        exact fin _ _ (by rw [List.length_drop]; omega) (by rw [List.length_drop]; omega) h
      · rename_i h1
        rw [if_neg h1]
        split at h
        · cases h
        · rename_i h2
          rw [if_neg h2]
          have h3 : runN v ≠ 0 := by intro h4; rw [h4] at h2; simp at h2
          split at h
          · rename_i h4
            rw [if_pos h4]
            split at h
            · cases h
            · rename_i h5
              rw [if_neg h5]
              exact fin _ _ (by rw [List.length_drop]; omega) (by rw [List.length_drop]; omega) h
          · rename_i h4
            rw [if_neg h4]
            split at h
            · cases h
            · rename_i h5
              rw [if_neg h5]
              exact fin _ _ (by rw [List.length_drop]; omega) (by rw [List.length_drop]; omega) h
/-- What was cut before stays. -/
theorem tokens_acc (p : List Tok) : ∀ (f : Nat) (s : List UInt8) (l : List Tok), tokensF f s (p ++ l) = (match tokensF f s l with | .ok r => .ok (p ++ r) | .error e => .error e)
  | f, [], l => by cases f <;> simp [tokensF]
  | 0, c :: r, l => by simp [tokensF]
  | f + 1, c :: r, l => by
    rw [tokensF, tokensF]
    split
    · exact tokens_acc p f _ _
    · simp only [List.append_assoc]
      split
      · exact tokens_acc p f _ _
      · split
        · rfl
        · split
          · split
            · rfl
            · exact tokens_acc p f _ _
          · split
            · rfl
            · exact tokens_acc p f _ _
def lpT : Tok := ⟨[40], [], 0⟩
def rpT : Tok := ⟨[41], [], 0⟩
theorem sign_lp (w : List UInt8) : signOf (40 :: w) = [40] := by simp [signOf, signs, signL, hasPre]; omega
/-- A text in parentheses, with blanks about it, cut. -/
theorem tokens_alone {s : List UInt8} {r : List Tok} (h : tokensF s.length s [] = .ok r) : tokensF (32 :: 40 :: (s ++ [41, 10, 9])).length (32 :: 40 :: (s ++ [41, 10, 9])) [] = .ok (lpT :: (r ++ [rpT])) := by
  have e1 : ∀ g l, tokensF (g + 1) (32 :: 40 :: (s ++ [41, 10, 9])) l = tokensF g (40 :: (s ++ [41, 10, 9])) l := fun g l => by
    rw [tokensF, if_pos (by decide)]
  have e2 : ∀ g l, tokensF (g + 1) (40 :: (s ++ [41, 10, 9])) l = tokensF g (s ++ [41, 10, 9]) (l ++ [lpT]) := fun g l => by
    rw [tokensF, if_neg (by decide)]
    have : undollar (40 :: (s ++ [41, 10, 9])) = 40 :: (s ++ [41, 10, 9]) := by simp [undollar]
    simp only [this, sign_lp]
    rw [if_pos (by decide)]
    rfl
  simp only [List.length_cons]
  rw [e1, e2, List.nil_append]
  have e3 := tokens_acc [lpT] (s ++ [41, 10, 9]).length (s ++ [41, 10, 9]) []
  rw [List.append_nil] at e3
  rw [e3, tokens_stop (c := 41) (by decide) (by decide) (by decide) _ s [] r _ (Nat.le_refl _) h (Nat.le_refl _)]
  rw [tokens_fuel _ 3 [41, 10, 9] r (by simp) (by simp)]
  have e4 : tokensF 3 [41, 10, 9] r = .ok (r ++ [rpT]) := by
    rw [tokensF, if_neg (by decide)]
    rfl
  rw [e4]
  rfl
end Go.Proofs.Ytkjgadanaknleaa
