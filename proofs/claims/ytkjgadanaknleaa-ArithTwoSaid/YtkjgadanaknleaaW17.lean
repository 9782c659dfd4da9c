/-
  THE WALKS, PART 17: what the laws call besides: the document's texts of numbers, and whether variables are the same.
-/
import Derived.Test.YtkjgadanaknleaaW16
import Derived.KernelRfl
namespace Go.Proofs.Ytkjgadanaknleaa
open Go Go.Id
set_option linter.unusedSimpArgs false
set_option linter.unusedVariables false
set_option maxRecDepth 100000
set_option maxHeartbeats 4000000

/-- The document's digits. -/
def rbF (b : Nat) : Nat → Nat → List UInt8
  | 0, _ => []
  | f + 1, n => if n < b then [digB n] else rbF b f (n / b) ++ [digB (n % b)]
theorem rbF_len (b : Nat) : ∀ (f n : Nat), (rbF b f n).length ≤ f
  | 0, _ => by simp [rbF]
  | f + 1, n => by
    rw [rbF]; split
    · simp
    · have := rbF_len b f (n / b); simp; omega
theorem baseA_rb (b : Nat) (hb : 2 ≤ b) : ∀ (f n : Nat) (acc : List UInt8), baseA b f n acc = rbF b f n ++ acc
  | 0, n, acc => rfl
  | f + 1, n, acc => by
    rw [baseA, rbF]
    by_cases h : n < b
    · rw [if_pos (Nat.div_eq_of_lt h), if_pos h, Nat.mod_eq_of_lt h]; rfl
    · rw [if_neg h, if_neg (by
        intro h2
        have := (Nat.div_eq_zero_iff_lt (show 0 < b by omega)).1 h2
        exact h this), baseA_rb b hb f]
      simp
theorem baseF_rb (b n : Nat) (hb : 2 ≤ b) : baseF b n = rbF b 64 n := by rw [baseF, baseA_rb b hb]; simp
theorem dig_slice (n b : Nat) (hb2 : 2 ≤ b) (hb16 : b ≤ 16) : isl (.str [48, 49, 50, 51, 52, 53, 54, 55, 56, 57, 97, 98, 99, 100, 101, 102]) (some (.int .u64 ((n : Int).tmod b))) (some (.int .u64 ((n : Int).tmod b + 1))) = some (.str [digB (n % b)]) := by
  have h : n % b < 16 := by have := Nat.mod_lt n (show b > 0 by omega); omega
  have e : ((n : Int).tmod b) = ((n % b : Nat) : Int) := rfl
  rw [e, isl_lohi _ _ _ _ _ ⟨by omega, by omega, by simp; omega⟩]
  generalize n % b = k at h
  have : k = 0 ∨ k = 1 ∨ k = 2 ∨ k = 3 ∨ k = 4 ∨ k = 5 ∨ k = 6 ∨ k = 7 ∨ k = 8 ∨ k = 9 ∨ k = 10 ∨ k = 11 ∨ k = 12 ∨ k = 13 ∨ k = 14 ∨ k = 15 := by omega
  rcases this with h | h | h | h | h | h | h | h | h | h | h | h | h | h | h | h <;> subst h <;> rfl
theorem rbase_ok (b : Nat) (hb2 : 2 ≤ b) (hb16 : b ≤ 16) : ∀ (f n : Nat), f ≤ 64 → 1 ≤ f → n < 2 ^ f → ∀ σ : St, Ok Try.prog 25 [.int .u64 n, .int .i64 b] σ (fun o s' => s' = σ ∧ o = .ret (.str (rbF b f n)))
  | 0, _, _, h, _, _ => by omega
  | f + 1, n, hf, _, hn, σ => by
    apply en25
    have e1 : decide ((b : Int) < 2) = false := by simp; omega
    have e2 : decide ((b : Int) > 16) = false := by simp; omega
    have e3 := dig_slice n b hb2 hb16
    have hn64 : n < 18446744073709551616 := Nat.lt_of_lt_of_le hn (Nat.le_trans (Nat.pow_le_pow_right (by decide) hf) (by decide))
    have hq : ((n : Int).tdiv b) = ((n / b : Nat) : Int) := rfl
    have hq2 : n / b ≤ n := Nat.div_le_self _ _
    have hq3 : IntKind.u64.wrap ((n : Int).tdiv b) = ((n / b : Nat) : Int) := by
      rw [hq]; exact wru64 _ ⟨Int.natCast_nonneg _, by have h9 : ((n / b : Nat) : Int) ≤ ((18446744073709551615 : Nat) : Int) := Int.ofNat_le.2 (by omega); simpa using h9⟩
    have hr1 : IntKind.u64.wrap ((n : Int).tmod b + 1) = (n : Int).tmod b + 1 := by
      have h : n % b < 16 := by have := Nat.mod_lt n (show b > 0 by omega); omega
      have e : ((n : Int).tmod b) = ((n % b : Nat) : Int) := rfl
      rw [e]; exact wru64 _ (by omega)
    simp -dsimp (maxSteps := 2000000) (disch := first | omega | (simp; done) | (simp; omega)) only [SA, SB, SC, SD, SE, SF, SG, Nat.reduceLT, Nat.reduceAdd, Nat.reduceSub, Nat.reduceMul, Nat.reduceLeDiff, Nat.reduceEqDiff, Nat.reduceBEq, Int.reduceToNat, Int.reduceLE, Int.reduceLT, Int.reduceEq, Int.reduceNeg, reduceCtorEq, ↓reduceIte, ic25, List.replicate_succ, List.replicate_zero]
    (repeat' (first | simp -dsimp (maxSteps := 2000000) (disch := first | omega | (simp; done) | (simp; omega)) only [SA, SB, SC, SD, SE, SF, SG, Nat.reduceLT, Nat.reduceAdd, Nat.reduceSub, Nat.reduceMul, Nat.reduceLeDiff, Nat.reduceEqDiff, Nat.reduceBEq, Int.reduceToNat, Int.reduceLE, Int.reduceLT, Int.reduceEq, Int.reduceNeg, reduceCtorEq, ↓reduceIte, e1, e2, e3, hr1] | refine Cut.go ?_ | refine Both.intro ?_ ?_ | (refine Br.intro ?_ ?_ <;> intro hb <;> have hb' := hb <;> (try simp only [SH] at hb') <;> (try simp -dsimp (maxSteps := 2000000) (disch := first | omega | (simp; done) | (simp; omega)) only [SA, SB, SC, SD, SE, SF, SG, Nat.reduceLT, Nat.reduceAdd, Nat.reduceSub, Nat.reduceMul, Nat.reduceLeDiff, Nat.reduceEqDiff, Nat.reduceBEq, Int.reduceToNat, Int.reduceLE, Int.reduceLT, Int.reduceEq, Int.reduceNeg, reduceCtorEq, ↓reduceIte, hb, e1, e2, e3, hr1]))))
    · have hlt : n < b := by omega
      rw [rbF, if_pos hlt, Nat.mod_eq_of_lt hlt]
    · have hge : ¬ n < b := by omega
      have hf1 : 1 ≤ f := by
        rcases Nat.eq_zero_or_pos f with h | h
        · subst h; simp at hn; omega
        · exact h
      have hlt2 : n / b < 2 ^ f := by
        refine (Nat.div_lt_iff_lt_mul (by omega)).2 ?_
        rw [Nat.pow_succ] at hn
        exact Nat.lt_of_lt_of_le hn (Nat.mul_le_mul_left _ hb2)
      have hl := rbF_len b f (n / b)
      (repeat' (first | simp -dsimp (maxSteps := 2000000) (disch := first | omega | (simp; done) | (simp; omega)) only [SA, SB, SC, SD, SE, SF, SG, Nat.reduceLT, Nat.reduceAdd, Nat.reduceSub, Nat.reduceMul, Nat.reduceLeDiff, Nat.reduceEqDiff, Nat.reduceBEq, Int.reduceToNat, Int.reduceLE, Int.reduceLT, Int.reduceEq, Int.reduceNeg, reduceCtorEq, ↓reduceIte, hq3] | refine Cut.go ?_ | refine Both.intro ?_ ?_ | refine pass gd25 (rbase_ok b hb2 hb16 f (n / b) (by omega) hf1 hlt2 σ) ?_ | (refine Br.intro ?_ ?_ <;> intro hb <;> have hb' := hb <;> (try simp only [SH] at hb') <;> (try simp -dsimp (maxSteps := 2000000) (disch := first | omega | (simp; done) | (simp; omega)) only [SA, SB, SC, SD, SE, SF, SG, Nat.reduceLT, Nat.reduceAdd, Nat.reduceSub, Nat.reduceMul, Nat.reduceLeDiff, Nat.reduceEqDiff, Nat.reduceBEq, Int.reduceToNat, Int.reduceLE, Int.reduceLT, Int.reduceEq, Int.reduceNeg, reduceCtorEq, ↓reduceIte, hb, hq3]))))
      rw [rbF, if_neg hge]
theorem rbase_call {n : Nat} {σ : St} {K : Out → St → Prop} (hn : n ≤ 18446744073709551615) (hk : K (.ret (.str (baseF 10 n))) σ) : goodFn Try.prog 25 = true ∧ Ok Try.prog 25 [.int .u64 n, .int .i64 10] σ K := by
  rw [baseF_rb 10 n (by decide)] at hk
  exact pass gd25 (rbase_ok 10 (by decide) (by decide) 64 n (by decide) (by decide) (by omega) σ) hk
theorem rtext_ok (n : Int) (h : -9223372036854775808 ≤ n ∧ n ≤ 9223372036854775807) (σ : St) : Ok Try.prog 14 [.int .i64 n] σ (fun o s' => s' = σ ∧ o = .ret (.str (textF n))) := by
  apply en14
  simp -dsimp (maxSteps := 2000000) (disch := first | omega | (simp; done) | (simp; omega)) only [SA, SB, SC, SD, SE, SF, SG, Nat.reduceLT, Nat.reduceAdd, Nat.reduceSub, Nat.reduceMul, Nat.reduceLeDiff, Nat.reduceEqDiff, Nat.reduceBEq, Int.reduceToNat, Int.reduceLE, Int.reduceLT, Int.reduceEq, Int.reduceNeg, reduceCtorEq, ↓reduceIte, ic14, List.replicate_succ, List.replicate_zero]
  (repeat' (first | simp -dsimp (maxSteps := 2000000) (disch := first | omega | (simp; done) | (simp; omega)) only [SA, SB, SC, SD, SE, SF, SG, Nat.reduceLT, Nat.reduceAdd, Nat.reduceSub, Nat.reduceMul, Nat.reduceLeDiff, Nat.reduceEqDiff, Nat.reduceBEq, Int.reduceToNat, Int.reduceLE, Int.reduceLT, Int.reduceEq, Int.reduceNeg, reduceCtorEq, ↓reduceIte] | refine Cut.go ?_ | refine Both.intro ?_ ?_ | (refine Br.intro ?_ ?_ <;> intro hb <;> have hb' := hb <;> (try simp only [SH] at hb') <;> (try simp -dsimp (maxSteps := 2000000) (disch := first | omega | (simp; done) | (simp; omega)) only [SA, SB, SC, SD, SE, SF, SG, Nat.reduceLT, Nat.reduceAdd, Nat.reduceSub, Nat.reduceMul, Nat.reduceLeDiff, Nat.reduceEqDiff, Nat.reduceBEq, Int.reduceToNat, Int.reduceLE, Int.reduceLT, Int.reduceEq, Int.reduceNeg, reduceCtorEq, ↓reduceIte, hb]))))
  · have e : n = ((n.natAbs : Nat) : Int) := by omega
    have e2 : IntKind.u64.wrap n = ((n.natAbs : Nat) : Int) := by rw [wru64 _ (by omega)]; exact e
    have e4 : ∀ K : Out → St → Prop, goodFn Try.prog 25 = true ∧ Ok Try.prog 25 [D.int IntKind.u64 (n.natAbs : Nat), D.int IntKind.i64 10] σ K → goodFn Try.prog 25 = true ∧ Ok Try.prog 25 [D.int IntKind.u64 n, D.int IntKind.i64 10] σ K := fun K h => by rw [e]; exact h
    refine e4 _ (rbase_call (by omega) ?_)
    (repeat' (first | simp -dsimp (maxSteps := 2000000) (disch := first | omega | (simp; done) | (simp; omega)) only [SA, SB, SC, SD, SE, SF, SG, Nat.reduceLT, Nat.reduceAdd, Nat.reduceSub, Nat.reduceMul, Nat.reduceLeDiff, Nat.reduceEqDiff, Nat.reduceBEq, Int.reduceToNat, Int.reduceLE, Int.reduceLT, Int.reduceEq, Int.reduceNeg, reduceCtorEq, ↓reduceIte] | refine Cut.go ?_ | refine Both.intro ?_ ?_ | (refine Br.intro ?_ ?_ <;> intro hb <;> have hb' := hb <;> (try simp only [SH] at hb') <;> (try simp -dsimp (maxSteps := 2000000) (disch := first | omega | (simp; done) | (simp; omega)) only [SA, SB, SC, SD, SE, SF, SG, Nat.reduceLT, Nat.reduceAdd, Nat.reduceSub, Nat.reduceMul, Nat.reduceLeDiff, Nat.reduceEqDiff, Nat.reduceBEq, Int.reduceToNat, Int.reduceLE, Int.reduceLT, Int.reduceEq, Int.reduceNeg, reduceCtorEq, ↓reduceIte, hb]))))
    rw [textF, if_neg (by omega)]
  · have e2 : IntKind.u64.wrap n = n + 18446744073709551616 := by
      have : IntKind.u64.wrap n = n % 18446744073709551616 := by simp [IntKind.wrap, IntKind.bits, IntKind.signed]
      rw [this]; omega
    have e3 : IntKind.u64.wrap (0 - (n + 18446744073709551616)) = ((n.natAbs : Nat) : Int) := by
      have : IntKind.u64.wrap (0 - (n + 18446744073709551616)) = (0 - (n + 18446744073709551616)) % 18446744073709551616 := by simp [IntKind.wrap, IntKind.bits, IntKind.signed]
      rw [this]; omega
    have hl := baseF_len 10 n.natAbs
    (repeat' (first | simp -dsimp (maxSteps := 2000000) (disch := first | omega | (simp; done) | (simp; omega)) only [SA, SB, SC, SD, SE, SF, SG, Nat.reduceLT, Nat.reduceAdd, Nat.reduceSub, Nat.reduceMul, Nat.reduceLeDiff, Nat.reduceEqDiff, Nat.reduceBEq, Int.reduceToNat, Int.reduceLE, Int.reduceLT, Int.reduceEq, Int.reduceNeg, reduceCtorEq, ↓reduceIte, e2, e3] | refine Cut.go ?_ | refine Both.intro ?_ ?_ | refine (rbase_call (n := n.natAbs) (by omega)) ?_ | (refine Br.intro ?_ ?_ <;> intro hb <;> have hb' := hb <;> (try simp only [SH] at hb') <;> (try simp -dsimp (maxSteps := 2000000) (disch := first | omega | (simp; done) | (simp; omega)) only [SA, SB, SC, SD, SE, SF, SG, Nat.reduceLT, Nat.reduceAdd, Nat.reduceSub, Nat.reduceMul, Nat.reduceLeDiff, Nat.reduceEqDiff, Nat.reduceBEq, Int.reduceToNat, Int.reduceLE, Int.reduceLT, Int.reduceEq, Int.reduceNeg, reduceCtorEq, ↓reduceIte, hb, e2, e3]))))
    rw [textF, if_pos (by omega)]
theorem rtext_call {n : Int} {σ : St} {K : Out → St → Prop} (h : I64 n) (hk : K (.ret (.str (textF n))) σ) : goodFn Try.prog 14 = true ∧ Ok Try.prog 14 [.int .i64 n] σ K := pass gd14 (rtext_ok n h σ) hk
end Go.Proofs.Ytkjgadanaknleaa
