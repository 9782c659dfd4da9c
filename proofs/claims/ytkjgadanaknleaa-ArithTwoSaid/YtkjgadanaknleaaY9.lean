/-
  THE WALKS, PART 49: the document reckons with two numbers.
-/
import Derived.Test.YtkjgadanaknleaaY8
namespace Go.Proofs.Ytkjgadanaknleaa
open Go Go.Id
set_option linter.unusedSimpArgs false
set_option linter.unusedVariables false
set_option maxRecDepth 100000
set_option maxHeartbeats 4000000

theorem rtwo_0 (a b : Int) (σ : St) : Ok Try.prog 49 [.str [47], .int .i64 a, .int .i64 b] σ (fun o s' => s' = σ ∧ ∃ n e, o = .ret (.tuple [.int .i64 n, .int .i64 e]) ∧ ValP (twoF [47] a b) n e) := by
  apply en49
  have f0 : (([47] : List UInt8) == [47]) = true := rfl
  have f1 : (([47] : List UInt8) == [37]) = false := rfl
  have f2 : (([47] : List UInt8) == [60, 60]) = false := rfl
  have f3 : (([47] : List UInt8) == [62, 62]) = false := rfl
  have f4 : (([47] : List UInt8) == [43]) = false := rfl
  have f5 : (([47] : List UInt8) == [45]) = false := rfl
  have f6 : (([47] : List UInt8) == [42]) = false := rfl
  have f7 : (([47] : List UInt8) == [60]) = false := rfl
  have f8 : (([47] : List UInt8) == [62, 61]) = false := rfl
  have f9 : (([47] : List UInt8) == [62]) = false := rfl
  have f10 : (([47] : List UInt8) == [60, 61]) = false := rfl
  have f11 : (([47] : List UInt8) == [61, 61]) = false := rfl
  have f12 : (([47] : List UInt8) == [33, 61]) = false := rfl
  have f13 : (([47] : List UInt8) == [38]) = false := rfl
  have f14 : (([47] : List UInt8) == [94]) = false := rfl
  simp -dsimp (maxSteps := 2000000) (disch := first | omega | (simp; done) | (simp; omega)) only [SA, SB, SC, SD, SE, SF, SG, Nat.reduceLT, Nat.reduceAdd, Nat.reduceSub, Nat.reduceMul, Nat.reduceLeDiff, Nat.reduceEqDiff, Nat.reduceBEq, Int.reduceToNat, Int.reduceLE, Int.reduceLT, Int.reduceEq, Int.reduceNeg, reduceCtorEq, ↓reduceIte, ic49, List.replicate_succ, List.replicate_zero]
  (repeat' (first | simp -dsimp (maxSteps := 2000000) (disch := first | omega | (simp; done) | (simp; omega)) only [SA, SB, SC, SD, SE, SF, SG, Nat.reduceLT, Nat.reduceAdd, Nat.reduceSub, Nat.reduceMul, Nat.reduceLeDiff, Nat.reduceEqDiff, Nat.reduceBEq, Int.reduceToNat, Int.reduceLE, Int.reduceLT, Int.reduceEq, Int.reduceNeg, reduceCtorEq, ↓reduceIte, f0, f1, f2, f3, f4, f5, f6, f7, f8, f9, f10, f11, f12, f13, f14] | refine Cut.go ?_ | refine Both.intro ?_ ?_ | refine truth_call ?_ | (refine Br.intro ?_ ?_ <;> intro hb <;> have hb' := hb <;> (try simp only [SH] at hb') <;> (try simp -dsimp (maxSteps := 2000000) (disch := first | omega | (simp; done) | (simp; omega)) only [SA, SB, SC, SD, SE, SF, SG, Nat.reduceLT, Nat.reduceAdd, Nat.reduceSub, Nat.reduceMul, Nat.reduceLeDiff, Nat.reduceEqDiff, Nat.reduceBEq, Int.reduceToNat, Int.reduceLE, Int.reduceLT, Int.reduceEq, Int.reduceNeg, reduceCtorEq, ↓reduceIte, hb, f0, f1, f2, f3, f4, f5, f6, f7, f8, f9, f10, f11, f12, f13, f14]))))
  all_goals exact ⟨_, _, rfl, by simp only [twoF, f0, f1, f2, f3, f4, f5, f6, f7, f8, f9, f10, f11, f12, f13, f14, hb, Bool.false_eq_true, if_true, if_false, ValP, and_self]⟩
theorem rtwo_1 (a b : Int) (σ : St) : Ok Try.prog 49 [.str [37], .int .i64 a, .int .i64 b] σ (fun o s' => s' = σ ∧ ∃ n e, o = .ret (.tuple [.int .i64 n, .int .i64 e]) ∧ ValP (twoF [37] a b) n e) := by
  apply en49
  have f0 : (([37] : List UInt8) == [47]) = false := rfl
  have f1 : (([37] : List UInt8) == [37]) = true := rfl
  have f2 : (([37] : List UInt8) == [60, 60]) = false := rfl
  have f3 : (([37] : List UInt8) == [62, 62]) = false := rfl
  have f4 : (([37] : List UInt8) == [43]) = false := rfl
  have f5 : (([37] : List UInt8) == [45]) = false := rfl
  have f6 : (([37] : List UInt8) == [42]) = false := rfl
  have f7 : (([37] : List UInt8) == [60]) = false := rfl
  have f8 : (([37] : List UInt8) == [62, 61]) = false := rfl
  have f9 : (([37] : List UInt8) == [62]) = false := rfl
  have f10 : (([37] : List UInt8) == [60, 61]) = false := rfl
  have f11 : (([37] : List UInt8) == [61, 61]) = false := rfl
  have f12 : (([37] : List UInt8) == [33, 61]) = false := rfl
  have f13 : (([37] : List UInt8) == [38]) = false := rfl
  have f14 : (([37] : List UInt8) == [94]) = false := rfl
  simp -dsimp (maxSteps := 2000000) (disch := first | omega | (simp; done) | (simp; omega)) only [SA, SB, SC, SD, SE, SF, SG, Nat.reduceLT, Nat.reduceAdd, Nat.reduceSub, Nat.reduceMul, Nat.reduceLeDiff, Nat.reduceEqDiff, Nat.reduceBEq, Int.reduceToNat, Int.reduceLE, Int.reduceLT, Int.reduceEq, Int.reduceNeg, reduceCtorEq, ↓reduceIte, ic49, List.replicate_succ, List.replicate_zero]
  (repeat' (first | simp -dsimp (maxSteps := 2000000) (disch := first | omega | (simp; done) | (simp; omega)) only [SA, SB, SC, SD, SE, SF, SG, Nat.reduceLT, Nat.reduceAdd, Nat.reduceSub, Nat.reduceMul, Nat.reduceLeDiff, Nat.reduceEqDiff, Nat.reduceBEq, Int.reduceToNat, Int.reduceLE, Int.reduceLT, Int.reduceEq, Int.reduceNeg, reduceCtorEq, ↓reduceIte, f0, f1, f2, f3, f4, f5, f6, f7, f8, f9, f10, f11, f12, f13, f14] | refine Cut.go ?_ | refine Both.intro ?_ ?_ | refine truth_call ?_ | (refine Br.intro ?_ ?_ <;> intro hb <;> have hb' := hb <;> (try simp only [SH] at hb') <;> (try simp -dsimp (maxSteps := 2000000) (disch := first | omega | (simp; done) | (simp; omega)) only [SA, SB, SC, SD, SE, SF, SG, Nat.reduceLT, Nat.reduceAdd, Nat.reduceSub, Nat.reduceMul, Nat.reduceLeDiff, Nat.reduceEqDiff, Nat.reduceBEq, Int.reduceToNat, Int.reduceLE, Int.reduceLT, Int.reduceEq, Int.reduceNeg, reduceCtorEq, ↓reduceIte, hb, f0, f1, f2, f3, f4, f5, f6, f7, f8, f9, f10, f11, f12, f13, f14]))))
  all_goals exact ⟨_, _, rfl, by simp only [twoF, f0, f1, f2, f3, f4, f5, f6, f7, f8, f9, f10, f11, f12, f13, f14, hb, Bool.false_eq_true, if_true, if_false, ValP, and_self]⟩
theorem rtwo_2 (a b : Int) (σ : St) : Ok Try.prog 49 [.str [60, 60], .int .i64 a, .int .i64 b] σ (fun o s' => s' = σ ∧ ∃ n e, o = .ret (.tuple [.int .i64 n, .int .i64 e]) ∧ ValP (twoF [60, 60] a b) n e) := by
  apply en49
  have f0 : (([60, 60] : List UInt8) == [47]) = false := rfl
  have f1 : (([60, 60] : List UInt8) == [37]) = false := rfl
  have f2 : (([60, 60] : List UInt8) == [60, 60]) = true := rfl
  have f3 : (([60, 60] : List UInt8) == [62, 62]) = false := rfl
  have f4 : (([60, 60] : List UInt8) == [43]) = false := rfl
  have f5 : (([60, 60] : List UInt8) == [45]) = false := rfl
  have f6 : (([60, 60] : List UInt8) == [42]) = false := rfl
  have f7 : (([60, 60] : List UInt8) == [60]) = false := rfl
  have f8 : (([60, 60] : List UInt8) == [62, 61]) = false := rfl
  have f9 : (([60, 60] : List UInt8) == [62]) = false := rfl
  have f10 : (([60, 60] : List UInt8) == [60, 61]) = false := rfl
  have f11 : (([60, 60] : List UInt8) == [61, 61]) = false := rfl
  have f12 : (([60, 60] : List UInt8) == [33, 61]) = false := rfl
  have f13 : (([60, 60] : List UInt8) == [38]) = false := rfl
  have f14 : (([60, 60] : List UInt8) == [94]) = false := rfl
  by_cases hb0 : b < 0 ∨ b > 63
  · have hc : (decide (b < 0) || decide (b > 63)) = true := by
      rcases hb0 with h | h
      · rw [decide_eq_true h, Bool.true_or]
      · rw [decide_eq_true h, Bool.or_true]
    simp -dsimp (maxSteps := 2000000) (disch := first | omega | (simp; done) | (simp; omega)) only [SA, SB, SC, SD, SE, SF, SG, Nat.reduceLT, Nat.reduceAdd, Nat.reduceSub, Nat.reduceMul, Nat.reduceLeDiff, Nat.reduceEqDiff, Nat.reduceBEq, Int.reduceToNat, Int.reduceLE, Int.reduceLT, Int.reduceEq, Int.reduceNeg, reduceCtorEq, ↓reduceIte, ic49, List.replicate_succ, List.replicate_zero]
    (repeat' (first | simp -dsimp (maxSteps := 2000000) (disch := first | omega | (simp; done) | (simp; omega)) only [SA, SB, SC, SD, SE, SF, SG, Nat.reduceLT, Nat.reduceAdd, Nat.reduceSub, Nat.reduceMul, Nat.reduceLeDiff, Nat.reduceEqDiff, Nat.reduceBEq, Int.reduceToNat, Int.reduceLE, Int.reduceLT, Int.reduceEq, Int.reduceNeg, reduceCtorEq, ↓reduceIte, f0, f1, f2, f3, f4, f5, f6, f7, f8, f9, f10, f11, f12, f13, f14] | refine Cut.go ?_ | refine Both.intro ?_ ?_ | refine truth_call ?_ | (refine Br.intro ?_ ?_ <;> intro hb <;> have hb' := hb <;> (try simp only [SH] at hb') <;> (try simp -dsimp (maxSteps := 2000000) (disch := first | omega | (simp; done) | (simp; omega)) only [SA, SB, SC, SD, SE, SF, SG, Nat.reduceLT, Nat.reduceAdd, Nat.reduceSub, Nat.reduceMul, Nat.reduceLeDiff, Nat.reduceEqDiff, Nat.reduceBEq, Int.reduceToNat, Int.reduceLE, Int.reduceLT, Int.reduceEq, Int.reduceNeg, reduceCtorEq, ↓reduceIte, hb, f0, f1, f2, f3, f4, f5, f6, f7, f8, f9, f10, f11, f12, f13, f14]))))
    all_goals (first | (exfalso; omega) | exact ⟨_, _, rfl, by simp only [twoF, f0, f1, f2, f3, f4, f5, f6, f7, f8, f9, f10, f11, f12, f13, f14, hc, Bool.false_eq_true, if_true, if_false, ValP]⟩)
  · have hc : (decide (b < 0) || decide (b > 63)) = false := by
      rw [decide_eq_false (by omega), decide_eq_false (by omega), Bool.or_false]
    have hw : IntKind.u64.wrap b = b := wru64 _ (by omega)
    simp -dsimp (maxSteps := 2000000) (disch := first | omega | (simp; done) | (simp; omega)) only [SA, SB, SC, SD, SE, SF, SG, Nat.reduceLT, Nat.reduceAdd, Nat.reduceSub, Nat.reduceMul, Nat.reduceLeDiff, Nat.reduceEqDiff, Nat.reduceBEq, Int.reduceToNat, Int.reduceLE, Int.reduceLT, Int.reduceEq, Int.reduceNeg, reduceCtorEq, ↓reduceIte, ic49, List.replicate_succ, List.replicate_zero]
    (repeat' (first | simp -dsimp (maxSteps := 2000000) (disch := first | omega | (simp; done) | (simp; omega)) only [SA, SB, SC, SD, SE, SF, SG, Nat.reduceLT, Nat.reduceAdd, Nat.reduceSub, Nat.reduceMul, Nat.reduceLeDiff, Nat.reduceEqDiff, Nat.reduceBEq, Int.reduceToNat, Int.reduceLE, Int.reduceLT, Int.reduceEq, Int.reduceNeg, reduceCtorEq, ↓reduceIte, f0, f1, f2, f3, f4, f5, f6, f7, f8, f9, f10, f11, f12, f13, f14, hw] | refine Cut.go ?_ | refine Both.intro ?_ ?_ | refine truth_call ?_ | (refine Br.intro ?_ ?_ <;> intro hb <;> have hb' := hb <;> (try simp only [SH] at hb') <;> (try simp -dsimp (maxSteps := 2000000) (disch := first | omega | (simp; done) | (simp; omega)) only [SA, SB, SC, SD, SE, SF, SG, Nat.reduceLT, Nat.reduceAdd, Nat.reduceSub, Nat.reduceMul, Nat.reduceLeDiff, Nat.reduceEqDiff, Nat.reduceBEq, Int.reduceToNat, Int.reduceLE, Int.reduceLT, Int.reduceEq, Int.reduceNeg, reduceCtorEq, ↓reduceIte, hb, f0, f1, f2, f3, f4, f5, f6, f7, f8, f9, f10, f11, f12, f13, f14, hw]))))
    all_goals (first | (exfalso; omega) | exact ⟨_, _, rfl, by simp only [twoF, f0, f1, f2, f3, f4, f5, f6, f7, f8, f9, f10, f11, f12, f13, f14, hc, Bool.false_eq_true, if_true, if_false, ValP, and_self]⟩)
theorem rtwo_3 (a b : Int) (σ : St) : Ok Try.prog 49 [.str [62, 62], .int .i64 a, .int .i64 b] σ (fun o s' => s' = σ ∧ ∃ n e, o = .ret (.tuple [.int .i64 n, .int .i64 e]) ∧ ValP (twoF [62, 62] a b) n e) := by
  apply en49
  have f0 : (([62, 62] : List UInt8) == [47]) = false := rfl
  have f1 : (([62, 62] : List UInt8) == [37]) = false := rfl
  have f2 : (([62, 62] : List UInt8) == [60, 60]) = false := rfl
  have f3 : (([62, 62] : List UInt8) == [62, 62]) = true := rfl
  have f4 : (([62, 62] : List UInt8) == [43]) = false := rfl
  have f5 : (([62, 62] : List UInt8) == [45]) = false := rfl
  have f6 : (([62, 62] : List UInt8) == [42]) = false := rfl
  have f7 : (([62, 62] : List UInt8) == [60]) = false := rfl
  have f8 : (([62, 62] : List UInt8) == [62, 61]) = false := rfl
  have f9 : (([62, 62] : List UInt8) == [62]) = false := rfl
  have f10 : (([62, 62] : List UInt8) == [60, 61]) = false := rfl
  have f11 : (([62, 62] : List UInt8) == [61, 61]) = false := rfl
  have f12 : (([62, 62] : List UInt8) == [33, 61]) = false := rfl
  have f13 : (([62, 62] : List UInt8) == [38]) = false := rfl
  have f14 : (([62, 62] : List UInt8) == [94]) = false := rfl
  by_cases hb0 : b < 0 ∨ b > 63
  · have hc : (decide (b < 0) || decide (b > 63)) = true := by
      rcases hb0 with h | h
      · rw [decide_eq_true h, Bool.true_or]
      · rw [decide_eq_true h, Bool.or_true]
    simp -dsimp (maxSteps := 2000000) (disch := first | omega | (simp; done) | (simp; omega)) only [SA, SB, SC, SD, SE, SF, SG, Nat.reduceLT, Nat.reduceAdd, Nat.reduceSub, Nat.reduceMul, Nat.reduceLeDiff, Nat.reduceEqDiff, Nat.reduceBEq, Int.reduceToNat, Int.reduceLE, Int.reduceLT, Int.reduceEq, Int.reduceNeg, reduceCtorEq, ↓reduceIte, ic49, List.replicate_succ, List.replicate_zero]
    (repeat' (first | simp -dsimp (maxSteps := 2000000) (disch := first | omega | (simp; done) | (simp; omega)) only [SA, SB, SC, SD, SE, SF, SG, Nat.reduceLT, Nat.reduceAdd, Nat.reduceSub, Nat.reduceMul, Nat.reduceLeDiff, Nat.reduceEqDiff, Nat.reduceBEq, Int.reduceToNat, Int.reduceLE, Int.reduceLT, Int.reduceEq, Int.reduceNeg, reduceCtorEq, ↓reduceIte, f0, f1, f2, f3, f4, f5, f6, f7, f8, f9, f10, f11, f12, f13, f14] | refine Cut.go ?_ | refine Both.intro ?_ ?_ | refine truth_call ?_ | (refine Br.intro ?_ ?_ <;> intro hb <;> have hb' := hb <;> (try simp only [SH] at hb') <;> (try simp -dsimp (maxSteps := 2000000) (disch := first | omega | (simp; done) | (simp; omega)) only [SA, SB, SC, SD, SE, SF, SG, Nat.reduceLT, Nat.reduceAdd, Nat.reduceSub, Nat.reduceMul, Nat.reduceLeDiff, Nat.reduceEqDiff, Nat.reduceBEq, Int.reduceToNat, Int.reduceLE, Int.reduceLT, Int.reduceEq, Int.reduceNeg, reduceCtorEq, ↓reduceIte, hb, f0, f1, f2, f3, f4, f5, f6, f7, f8, f9, f10, f11, f12, f13, f14]))))
    all_goals (first | (exfalso; omega) | exact ⟨_, _, rfl, by simp only [twoF, f0, f1, f2, f3, f4, f5, f6, f7, f8, f9, f10, f11, f12, f13, f14, hc, Bool.false_eq_true, if_true, if_false, ValP]⟩)
  · have hc : (decide (b < 0) || decide (b > 63)) = false := by
      rw [decide_eq_false (by omega), decide_eq_false (by omega), Bool.or_false]
    have hw : IntKind.u64.wrap b = b := wru64 _ (by omega)
    simp -dsimp (maxSteps := 2000000) (disch := first | omega | (simp; done) | (simp; omega)) only [SA, SB, SC, SD, SE, SF, SG, Nat.reduceLT, Nat.reduceAdd, Nat.reduceSub, Nat.reduceMul, Nat.reduceLeDiff, Nat.reduceEqDiff, Nat.reduceBEq, Int.reduceToNat, Int.reduceLE, Int.reduceLT, Int.reduceEq, Int.reduceNeg, reduceCtorEq, ↓reduceIte, ic49, List.replicate_succ, List.replicate_zero]
    (repeat' (first | simp -dsimp (maxSteps := 2000000) (disch := first | omega | (simp; done) | (simp; omega)) only [SA, SB, SC, SD, SE, SF, SG, Nat.reduceLT, Nat.reduceAdd, Nat.reduceSub, Nat.reduceMul, Nat.reduceLeDiff, Nat.reduceEqDiff, Nat.reduceBEq, Int.reduceToNat, Int.reduceLE, Int.reduceLT, Int.reduceEq, Int.reduceNeg, reduceCtorEq, ↓reduceIte, f0, f1, f2, f3, f4, f5, f6, f7, f8, f9, f10, f11, f12, f13, f14, hw] | refine Cut.go ?_ | refine Both.intro ?_ ?_ | refine truth_call ?_ | (refine Br.intro ?_ ?_ <;> intro hb <;> have hb' := hb <;> (try simp only [SH] at hb') <;> (try simp -dsimp (maxSteps := 2000000) (disch := first | omega | (simp; done) | (simp; omega)) only [SA, SB, SC, SD, SE, SF, SG, Nat.reduceLT, Nat.reduceAdd, Nat.reduceSub, Nat.reduceMul, Nat.reduceLeDiff, Nat.reduceEqDiff, Nat.reduceBEq, Int.reduceToNat, Int.reduceLE, Int.reduceLT, Int.reduceEq, Int.reduceNeg, reduceCtorEq, ↓reduceIte, hb, f0, f1, f2, f3, f4, f5, f6, f7, f8, f9, f10, f11, f12, f13, f14, hw]))))
    all_goals (first | (exfalso; omega) | exact ⟨_, _, rfl, by simp only [twoF, f0, f1, f2, f3, f4, f5, f6, f7, f8, f9, f10, f11, f12, f13, f14, hc, Bool.false_eq_true, if_true, if_false, ValP, and_self]⟩)
theorem rtwo_4 (a b : Int) (σ : St) : Ok Try.prog 49 [.str [43], .int .i64 a, .int .i64 b] σ (fun o s' => s' = σ ∧ ∃ n e, o = .ret (.tuple [.int .i64 n, .int .i64 e]) ∧ ValP (twoF [43] a b) n e) := by
  apply en49
  have f0 : (([43] : List UInt8) == [47]) = false := rfl
  have f1 : (([43] : List UInt8) == [37]) = false := rfl
  have f2 : (([43] : List UInt8) == [60, 60]) = false := rfl
  have f3 : (([43] : List UInt8) == [62, 62]) = false := rfl
  have f4 : (([43] : List UInt8) == [43]) = true := rfl
  have f5 : (([43] : List UInt8) == [45]) = false := rfl
  have f6 : (([43] : List UInt8) == [42]) = false := rfl
  have f7 : (([43] : List UInt8) == [60]) = false := rfl
  have f8 : (([43] : List UInt8) == [62, 61]) = false := rfl
  have f9 : (([43] : List UInt8) == [62]) = false := rfl
  have f10 : (([43] : List UInt8) == [60, 61]) = false := rfl
  have f11 : (([43] : List UInt8) == [61, 61]) = false := rfl
  have f12 : (([43] : List UInt8) == [33, 61]) = false := rfl
  have f13 : (([43] : List UInt8) == [38]) = false := rfl
  have f14 : (([43] : List UInt8) == [94]) = false := rfl
  simp -dsimp (maxSteps := 2000000) (disch := first | omega | (simp; done) | (simp; omega)) only [SA, SB, SC, SD, SE, SF, SG, Nat.reduceLT, Nat.reduceAdd, Nat.reduceSub, Nat.reduceMul, Nat.reduceLeDiff, Nat.reduceEqDiff, Nat.reduceBEq, Int.reduceToNat, Int.reduceLE, Int.reduceLT, Int.reduceEq, Int.reduceNeg, reduceCtorEq, ↓reduceIte, ic49, List.replicate_succ, List.replicate_zero]
  (repeat' (first | simp -dsimp (maxSteps := 2000000) (disch := first | omega | (simp; done) | (simp; omega)) only [SA, SB, SC, SD, SE, SF, SG, Nat.reduceLT, Nat.reduceAdd, Nat.reduceSub, Nat.reduceMul, Nat.reduceLeDiff, Nat.reduceEqDiff, Nat.reduceBEq, Int.reduceToNat, Int.reduceLE, Int.reduceLT, Int.reduceEq, Int.reduceNeg, reduceCtorEq, ↓reduceIte, f0, f1, f2, f3, f4, f5, f6, f7, f8, f9, f10, f11, f12, f13, f14] | refine Cut.go ?_ | refine Both.intro ?_ ?_ | refine truth_call ?_ | (refine Br.intro ?_ ?_ <;> intro hb <;> have hb' := hb <;> (try simp only [SH] at hb') <;> (try simp -dsimp (maxSteps := 2000000) (disch := first | omega | (simp; done) | (simp; omega)) only [SA, SB, SC, SD, SE, SF, SG, Nat.reduceLT, Nat.reduceAdd, Nat.reduceSub, Nat.reduceMul, Nat.reduceLeDiff, Nat.reduceEqDiff, Nat.reduceBEq, Int.reduceToNat, Int.reduceLE, Int.reduceLT, Int.reduceEq, Int.reduceNeg, reduceCtorEq, ↓reduceIte, hb, f0, f1, f2, f3, f4, f5, f6, f7, f8, f9, f10, f11, f12, f13, f14]))))
  refine ⟨_, _, rfl, ?_⟩
  simp only [twoF, f0, f1, f2, f3, f4, f5, f6, f7, f8, f9, f10, f11, f12, f13, f14, Bool.false_eq_true, if_true, if_false, ValP, and_true, and_self, flagI]
theorem rtwo_5 (a b : Int) (σ : St) : Ok Try.prog 49 [.str [45], .int .i64 a, .int .i64 b] σ (fun o s' => s' = σ ∧ ∃ n e, o = .ret (.tuple [.int .i64 n, .int .i64 e]) ∧ ValP (twoF [45] a b) n e) := by
  apply en49
  have f0 : (([45] : List UInt8) == [47]) = false := rfl
  have f1 : (([45] : List UInt8) == [37]) = false := rfl
  have f2 : (([45] : List UInt8) == [60, 60]) = false := rfl
  have f3 : (([45] : List UInt8) == [62, 62]) = false := rfl
  have f4 : (([45] : List UInt8) == [43]) = false := rfl
  have f5 : (([45] : List UInt8) == [45]) = true := rfl
  have f6 : (([45] : List UInt8) == [42]) = false := rfl
  have f7 : (([45] : List UInt8) == [60]) = false := rfl
  have f8 : (([45] : List UInt8) == [62, 61]) = false := rfl
  have f9 : (([45] : List UInt8) == [62]) = false := rfl
  have f10 : (([45] : List UInt8) == [60, 61]) = false := rfl
  have f11 : (([45] : List UInt8) == [61, 61]) = false := rfl
  have f12 : (([45] : List UInt8) == [33, 61]) = false := rfl
  have f13 : (([45] : List UInt8) == [38]) = false := rfl
  have f14 : (([45] : List UInt8) == [94]) = false := rfl
  simp -dsimp (maxSteps := 2000000) (disch := first | omega | (simp; done) | (simp; omega)) only [SA, SB, SC, SD, SE, SF, SG, Nat.reduceLT, Nat.reduceAdd, Nat.reduceSub, Nat.reduceMul, Nat.reduceLeDiff, Nat.reduceEqDiff, Nat.reduceBEq, Int.reduceToNat, Int.reduceLE, Int.reduceLT, Int.reduceEq, Int.reduceNeg, reduceCtorEq, ↓reduceIte, ic49, List.replicate_succ, List.replicate_zero]
  (repeat' (first | simp -dsimp (maxSteps := 2000000) (disch := first | omega | (simp; done) | (simp; omega)) only [SA, SB, SC, SD, SE, SF, SG, Nat.reduceLT, Nat.reduceAdd, Nat.reduceSub, Nat.reduceMul, Nat.reduceLeDiff, Nat.reduceEqDiff, Nat.reduceBEq, Int.reduceToNat, Int.reduceLE, Int.reduceLT, Int.reduceEq, Int.reduceNeg, reduceCtorEq, ↓reduceIte, f0, f1, f2, f3, f4, f5, f6, f7, f8, f9, f10, f11, f12, f13, f14] | refine Cut.go ?_ | refine Both.intro ?_ ?_ | refine truth_call ?_ | (refine Br.intro ?_ ?_ <;> intro hb <;> have hb' := hb <;> (try simp only [SH] at hb') <;> (try simp -dsimp (maxSteps := 2000000) (disch := first | omega | (simp; done) | (simp; omega)) only [SA, SB, SC, SD, SE, SF, SG, Nat.reduceLT, Nat.reduceAdd, Nat.reduceSub, Nat.reduceMul, Nat.reduceLeDiff, Nat.reduceEqDiff, Nat.reduceBEq, Int.reduceToNat, Int.reduceLE, Int.reduceLT, Int.reduceEq, Int.reduceNeg, reduceCtorEq, ↓reduceIte, hb, f0, f1, f2, f3, f4, f5, f6, f7, f8, f9, f10, f11, f12, f13, f14]))))
  refine ⟨_, _, rfl, ?_⟩
  simp only [twoF, f0, f1, f2, f3, f4, f5, f6, f7, f8, f9, f10, f11, f12, f13, f14, Bool.false_eq_true, if_true, if_false, ValP, and_true, and_self, flagI]
theorem rtwo_6 (a b : Int) (σ : St) : Ok Try.prog 49 [.str [42], .int .i64 a, .int .i64 b] σ (fun o s' => s' = σ ∧ ∃ n e, o = .ret (.tuple [.int .i64 n, .int .i64 e]) ∧ ValP (twoF [42] a b) n e) := by
  apply en49
  have f0 : (([42] : List UInt8) == [47]) = false := rfl
  have f1 : (([42] : List UInt8) == [37]) = false := rfl
  have f2 : (([42] : List UInt8) == [60, 60]) = false := rfl
  have f3 : (([42] : List UInt8) == [62, 62]) = false := rfl
  have f4 : (([42] : List UInt8) == [43]) = false := rfl
  have f5 : (([42] : List UInt8) == [45]) = false := rfl
  have f6 : (([42] : List UInt8) == [42]) = true := rfl
  have f7 : (([42] : List UInt8) == [60]) = false := rfl
  have f8 : (([42] : List UInt8) == [62, 61]) = false := rfl
  have f9 : (([42] : List UInt8) == [62]) = false := rfl
  have f10 : (([42] : List UInt8) == [60, 61]) = false := rfl
  have f11 : (([42] : List UInt8) == [61, 61]) = false := rfl
  have f12 : (([42] : List UInt8) == [33, 61]) = false := rfl
  have f13 : (([42] : List UInt8) == [38]) = false := rfl
  have f14 : (([42] : List UInt8) == [94]) = false := rfl
  simp -dsimp (maxSteps := 2000000) (disch := first | omega | (simp; done) | (simp; omega)) only [SA, SB, SC, SD, SE, SF, SG, Nat.reduceLT, Nat.reduceAdd, Nat.reduceSub, Nat.reduceMul, Nat.reduceLeDiff, Nat.reduceEqDiff, Nat.reduceBEq, Int.reduceToNat, Int.reduceLE, Int.reduceLT, Int.reduceEq, Int.reduceNeg, reduceCtorEq, ↓reduceIte, ic49, List.replicate_succ, List.replicate_zero]
  (repeat' (first | simp -dsimp (maxSteps := 2000000) (disch := first | omega | (simp; done) | (simp; omega)) only [SA, SB, SC, SD, SE, SF, SG, Nat.reduceLT, Nat.reduceAdd, Nat.reduceSub, Nat.reduceMul, Nat.reduceLeDiff, Nat.reduceEqDiff, Nat.reduceBEq, Int.reduceToNat, Int.reduceLE, Int.reduceLT, Int.reduceEq, Int.reduceNeg, reduceCtorEq, ↓reduceIte, f0, f1, f2, f3, f4, f5, f6, f7, f8, f9, f10, f11, f12, f13, f14] | refine Cut.go ?_ | refine Both.intro ?_ ?_ | refine truth_call ?_ | (refine Br.intro ?_ ?_ <;> intro hb <;> have hb' := hb <;> (try simp only [SH] at hb') <;> (try simp -dsimp (maxSteps := 2000000) (disch := first | omega | (simp; done) | (simp; omega)) only [SA, SB, SC, SD, SE, SF, SG, Nat.reduceLT, Nat.reduceAdd, Nat.reduceSub, Nat.reduceMul, Nat.reduceLeDiff, Nat.reduceEqDiff, Nat.reduceBEq, Int.reduceToNat, Int.reduceLE, Int.reduceLT, Int.reduceEq, Int.reduceNeg, reduceCtorEq, ↓reduceIte, hb, f0, f1, f2, f3, f4, f5, f6, f7, f8, f9, f10, f11, f12, f13, f14]))))
  refine ⟨_, _, rfl, ?_⟩
  simp only [twoF, f0, f1, f2, f3, f4, f5, f6, f7, f8, f9, f10, f11, f12, f13, f14, Bool.false_eq_true, if_true, if_false, ValP, and_true, and_self, flagI]
theorem rtwo_7 (a b : Int) (σ : St) : Ok Try.prog 49 [.str [60], .int .i64 a, .int .i64 b] σ (fun o s' => s' = σ ∧ ∃ n e, o = .ret (.tuple [.int .i64 n, .int .i64 e]) ∧ ValP (twoF [60] a b) n e) := by
  apply en49
  have f0 : (([60] : List UInt8) == [47]) = false := rfl
  have f1 : (([60] : List UInt8) == [37]) = false := rfl
  have f2 : (([60] : List UInt8) == [60, 60]) = false := rfl
  have f3 : (([60] : List UInt8) == [62, 62]) = false := rfl
  have f4 : (([60] : List UInt8) == [43]) = false := rfl
  have f5 : (([60] : List UInt8) == [45]) = false := rfl
  have f6 : (([60] : List UInt8) == [42]) = false := rfl
  have f7 : (([60] : List UInt8) == [60]) = true := rfl
  have f8 : (([60] : List UInt8) == [62, 61]) = false := rfl
  have f9 : (([60] : List UInt8) == [62]) = false := rfl
  have f10 : (([60] : List UInt8) == [60, 61]) = false := rfl
  have f11 : (([60] : List UInt8) == [61, 61]) = false := rfl
  have f12 : (([60] : List UInt8) == [33, 61]) = false := rfl
  have f13 : (([60] : List UInt8) == [38]) = false := rfl
  have f14 : (([60] : List UInt8) == [94]) = false := rfl
  simp -dsimp (maxSteps := 2000000) (disch := first | omega | (simp; done) | (simp; omega)) only [SA, SB, SC, SD, SE, SF, SG, Nat.reduceLT, Nat.reduceAdd, Nat.reduceSub, Nat.reduceMul, Nat.reduceLeDiff, Nat.reduceEqDiff, Nat.reduceBEq, Int.reduceToNat, Int.reduceLE, Int.reduceLT, Int.reduceEq, Int.reduceNeg, reduceCtorEq, ↓reduceIte, ic49, List.replicate_succ, List.replicate_zero]
  (repeat' (first | simp -dsimp (maxSteps := 2000000) (disch := first | omega | (simp; done) | (simp; omega)) only [SA, SB, SC, SD, SE, SF, SG, Nat.reduceLT, Nat.reduceAdd, Nat.reduceSub, Nat.reduceMul, Nat.reduceLeDiff, Nat.reduceEqDiff, Nat.reduceBEq, Int.reduceToNat, Int.reduceLE, Int.reduceLT, Int.reduceEq, Int.reduceNeg, reduceCtorEq, ↓reduceIte, f0, f1, f2, f3, f4, f5, f6, f7, f8, f9, f10, f11, f12, f13, f14] | refine Cut.go ?_ | refine Both.intro ?_ ?_ | refine truth_call ?_ | (refine Br.intro ?_ ?_ <;> intro hb <;> have hb' := hb <;> (try simp only [SH] at hb') <;> (try simp -dsimp (maxSteps := 2000000) (disch := first | omega | (simp; done) | (simp; omega)) only [SA, SB, SC, SD, SE, SF, SG, Nat.reduceLT, Nat.reduceAdd, Nat.reduceSub, Nat.reduceMul, Nat.reduceLeDiff, Nat.reduceEqDiff, Nat.reduceBEq, Int.reduceToNat, Int.reduceLE, Int.reduceLT, Int.reduceEq, Int.reduceNeg, reduceCtorEq, ↓reduceIte, hb, f0, f1, f2, f3, f4, f5, f6, f7, f8, f9, f10, f11, f12, f13, f14]))))
  refine ⟨_, _, rfl, ?_⟩
  simp only [twoF, f0, f1, f2, f3, f4, f5, f6, f7, f8, f9, f10, f11, f12, f13, f14, Bool.false_eq_true, if_true, if_false, ValP, and_true, and_self, flagI]
  all_goals (try (grind))
theorem rtwo_8 (a b : Int) (σ : St) : Ok Try.prog 49 [.str [62, 61], .int .i64 a, .int .i64 b] σ (fun o s' => s' = σ ∧ ∃ n e, o = .ret (.tuple [.int .i64 n, .int .i64 e]) ∧ ValP (twoF [62, 61] a b) n e) := by
  apply en49
  have f0 : (([62, 61] : List UInt8) == [47]) = false := rfl
  have f1 : (([62, 61] : List UInt8) == [37]) = false := rfl
  have f2 : (([62, 61] : List UInt8) == [60, 60]) = false := rfl
  have f3 : (([62, 61] : List UInt8) == [62, 62]) = false := rfl
  have f4 : (([62, 61] : List UInt8) == [43]) = false := rfl
  have f5 : (([62, 61] : List UInt8) == [45]) = false := rfl
  have f6 : (([62, 61] : List UInt8) == [42]) = false := rfl
  have f7 : (([62, 61] : List UInt8) == [60]) = false := rfl
  have f8 : (([62, 61] : List UInt8) == [62, 61]) = true := rfl
  have f9 : (([62, 61] : List UInt8) == [62]) = false := rfl
  have f10 : (([62, 61] : List UInt8) == [60, 61]) = false := rfl
  have f11 : (([62, 61] : List UInt8) == [61, 61]) = false := rfl
  have f12 : (([62, 61] : List UInt8) == [33, 61]) = false := rfl
  have f13 : (([62, 61] : List UInt8) == [38]) = false := rfl
  have f14 : (([62, 61] : List UInt8) == [94]) = false := rfl
  simp -dsimp (maxSteps := 2000000) (disch := first | omega | (simp; done) | (simp; omega)) only [SA, SB, SC, SD, SE, SF, SG, Nat.reduceLT, Nat.reduceAdd, Nat.reduceSub, Nat.reduceMul, Nat.reduceLeDiff, Nat.reduceEqDiff, Nat.reduceBEq, Int.reduceToNat, Int.reduceLE, Int.reduceLT, Int.reduceEq, Int.reduceNeg, reduceCtorEq, ↓reduceIte, ic49, List.replicate_succ, List.replicate_zero]
  (repeat' (first | simp -dsimp (maxSteps := 2000000) (disch := first | omega | (simp; done) | (simp; omega)) only [SA, SB, SC, SD, SE, SF, SG, Nat.reduceLT, Nat.reduceAdd, Nat.reduceSub, Nat.reduceMul, Nat.reduceLeDiff, Nat.reduceEqDiff, Nat.reduceBEq, Int.reduceToNat, Int.reduceLE, Int.reduceLT, Int.reduceEq, Int.reduceNeg, reduceCtorEq, ↓reduceIte, f0, f1, f2, f3, f4, f5, f6, f7, f8, f9, f10, f11, f12, f13, f14] | refine Cut.go ?_ | refine Both.intro ?_ ?_ | refine truth_call ?_ | (refine Br.intro ?_ ?_ <;> intro hb <;> have hb' := hb <;> (try simp only [SH] at hb') <;> (try simp -dsimp (maxSteps := 2000000) (disch := first | omega | (simp; done) | (simp; omega)) only [SA, SB, SC, SD, SE, SF, SG, Nat.reduceLT, Nat.reduceAdd, Nat.reduceSub, Nat.reduceMul, Nat.reduceLeDiff, Nat.reduceEqDiff, Nat.reduceBEq, Int.reduceToNat, Int.reduceLE, Int.reduceLT, Int.reduceEq, Int.reduceNeg, reduceCtorEq, ↓reduceIte, hb, f0, f1, f2, f3, f4, f5, f6, f7, f8, f9, f10, f11, f12, f13, f14]))))
  refine ⟨_, _, rfl, ?_⟩
  simp only [twoF, f0, f1, f2, f3, f4, f5, f6, f7, f8, f9, f10, f11, f12, f13, f14, Bool.false_eq_true, if_true, if_false, ValP, and_true, and_self, flagI]
  all_goals (try (grind))
theorem rtwo_9 (a b : Int) (σ : St) : Ok Try.prog 49 [.str [62], .int .i64 a, .int .i64 b] σ (fun o s' => s' = σ ∧ ∃ n e, o = .ret (.tuple [.int .i64 n, .int .i64 e]) ∧ ValP (twoF [62] a b) n e) := by
  apply en49
  have f0 : (([62] : List UInt8) == [47]) = false := rfl
  have f1 : (([62] : List UInt8) == [37]) = false := rfl
  have f2 : (([62] : List UInt8) == [60, 60]) = false := rfl
  have f3 : (([62] : List UInt8) == [62, 62]) = false := rfl
  have f4 : (([62] : List UInt8) == [43]) = false := rfl
  have f5 : (([62] : List UInt8) == [45]) = false := rfl
  have f6 : (([62] : List UInt8) == [42]) = false := rfl
  have f7 : (([62] : List UInt8) == [60]) = false := rfl
  have f8 : (([62] : List UInt8) == [62, 61]) = false := rfl
  have f9 : (([62] : List UInt8) == [62]) = true := rfl
  have f10 : (([62] : List UInt8) == [60, 61]) = false := rfl
  have f11 : (([62] : List UInt8) == [61, 61]) = false := rfl
  have f12 : (([62] : List UInt8) == [33, 61]) = false := rfl
  have f13 : (([62] : List UInt8) == [38]) = false := rfl
  have f14 : (([62] : List UInt8) == [94]) = false := rfl
  simp -dsimp (maxSteps := 2000000) (disch := first | omega | (simp; done) | (simp; omega)) only [SA, SB, SC, SD, SE, SF, SG, Nat.reduceLT, Nat.reduceAdd, Nat.reduceSub, Nat.reduceMul, Nat.reduceLeDiff, Nat.reduceEqDiff, Nat.reduceBEq, Int.reduceToNat, Int.reduceLE, Int.reduceLT, Int.reduceEq, Int.reduceNeg, reduceCtorEq, ↓reduceIte, ic49, List.replicate_succ, List.replicate_zero]
  (repeat' (first | simp -dsimp (maxSteps := 2000000) (disch := first | omega | (simp; done) | (simp; omega)) only [SA, SB, SC, SD, SE, SF, SG, Nat.reduceLT, Nat.reduceAdd, Nat.reduceSub, Nat.reduceMul, Nat.reduceLeDiff, Nat.reduceEqDiff, Nat.reduceBEq, Int.reduceToNat, Int.reduceLE, Int.reduceLT, Int.reduceEq, Int.reduceNeg, reduceCtorEq, ↓reduceIte, f0, f1, f2, f3, f4, f5, f6, f7, f8, f9, f10, f11, f12, f13, f14] | refine Cut.go ?_ | refine Both.intro ?_ ?_ | refine truth_call ?_ | (refine Br.intro ?_ ?_ <;> intro hb <;> have hb' := hb <;> (try simp only [SH] at hb') <;> (try simp -dsimp (maxSteps := 2000000) (disch := first | omega | (simp; done) | (simp; omega)) only [SA, SB, SC, SD, SE, SF, SG, Nat.reduceLT, Nat.reduceAdd, Nat.reduceSub, Nat.reduceMul, Nat.reduceLeDiff, Nat.reduceEqDiff, Nat.reduceBEq, Int.reduceToNat, Int.reduceLE, Int.reduceLT, Int.reduceEq, Int.reduceNeg, reduceCtorEq, ↓reduceIte, hb, f0, f1, f2, f3, f4, f5, f6, f7, f8, f9, f10, f11, f12, f13, f14]))))
  refine ⟨_, _, rfl, ?_⟩
  simp only [twoF, f0, f1, f2, f3, f4, f5, f6, f7, f8, f9, f10, f11, f12, f13, f14, Bool.false_eq_true, if_true, if_false, ValP, and_true, and_self, flagI]
  all_goals (try (grind))
theorem rtwo_10 (a b : Int) (σ : St) : Ok Try.prog 49 [.str [60, 61], .int .i64 a, .int .i64 b] σ (fun o s' => s' = σ ∧ ∃ n e, o = .ret (.tuple [.int .i64 n, .int .i64 e]) ∧ ValP (twoF [60, 61] a b) n e) := by
  apply en49
  have f0 : (([60, 61] : List UInt8) == [47]) = false := rfl
  have f1 : (([60, 61] : List UInt8) == [37]) = false := rfl
  have f2 : (([60, 61] : List UInt8) == [60, 60]) = false := rfl
  have f3 : (([60, 61] : List UInt8) == [62, 62]) = false := rfl
  have f4 : (([60, 61] : List UInt8) == [43]) = false := rfl
  have f5 : (([60, 61] : List UInt8) == [45]) = false := rfl
  have f6 : (([60, 61] : List UInt8) == [42]) = false := rfl
  have f7 : (([60, 61] : List UInt8) == [60]) = false := rfl
  have f8 : (([60, 61] : List UInt8) == [62, 61]) = false := rfl
  have f9 : (([60, 61] : List UInt8) == [62]) = false := rfl
  have f10 : (([60, 61] : List UInt8) == [60, 61]) = true := rfl
  have f11 : (([60, 61] : List UInt8) == [61, 61]) = false := rfl
  have f12 : (([60, 61] : List UInt8) == [33, 61]) = false := rfl
  have f13 : (([60, 61] : List UInt8) == [38]) = false := rfl
  have f14 : (([60, 61] : List UInt8) == [94]) = false := rfl
  simp -dsimp (maxSteps := 2000000) (disch := first | omega | (simp; done) | (simp; omega)) only [SA, SB, SC, SD, SE, SF, SG, Nat.reduceLT, Nat.reduceAdd, Nat.reduceSub, Nat.reduceMul, Nat.reduceLeDiff, Nat.reduceEqDiff, Nat.reduceBEq, Int.reduceToNat, Int.reduceLE, Int.reduceLT, Int.reduceEq, Int.reduceNeg, reduceCtorEq, ↓reduceIte, ic49, List.replicate_succ, List.replicate_zero]
  (repeat' (first | simp -dsimp (maxSteps := 2000000) (disch := first | omega | (simp; done) | (simp; omega)) only [SA, SB, SC, SD, SE, SF, SG, Nat.reduceLT, Nat.reduceAdd, Nat.reduceSub, Nat.reduceMul, Nat.reduceLeDiff, Nat.reduceEqDiff, Nat.reduceBEq, Int.reduceToNat, Int.reduceLE, Int.reduceLT, Int.reduceEq, Int.reduceNeg, reduceCtorEq, ↓reduceIte, f0, f1, f2, f3, f4, f5, f6, f7, f8, f9, f10, f11, f12, f13, f14] | refine Cut.go ?_ | refine Both.intro ?_ ?_ | refine truth_call ?_ | (refine Br.intro ?_ ?_ <;> intro hb <;> have hb' := hb <;> (try simp only [SH] at hb') <;> (try simp -dsimp (maxSteps := 2000000) (disch := first | omega | (simp; done) | (simp; omega)) only [SA, SB, SC, SD, SE, SF, SG, Nat.reduceLT, Nat.reduceAdd, Nat.reduceSub, Nat.reduceMul, Nat.reduceLeDiff, Nat.reduceEqDiff, Nat.reduceBEq, Int.reduceToNat, Int.reduceLE, Int.reduceLT, Int.reduceEq, Int.reduceNeg, reduceCtorEq, ↓reduceIte, hb, f0, f1, f2, f3, f4, f5, f6, f7, f8, f9, f10, f11, f12, f13, f14]))))
  refine ⟨_, _, rfl, ?_⟩
  simp only [twoF, f0, f1, f2, f3, f4, f5, f6, f7, f8, f9, f10, f11, f12, f13, f14, Bool.false_eq_true, if_true, if_false, ValP, and_true, and_self, flagI]
  all_goals (try (grind))
theorem rtwo_11 (a b : Int) (σ : St) : Ok Try.prog 49 [.str [61, 61], .int .i64 a, .int .i64 b] σ (fun o s' => s' = σ ∧ ∃ n e, o = .ret (.tuple [.int .i64 n, .int .i64 e]) ∧ ValP (twoF [61, 61] a b) n e) := by
  apply en49
  have f0 : (([61, 61] : List UInt8) == [47]) = false := rfl
  have f1 : (([61, 61] : List UInt8) == [37]) = false := rfl
  have f2 : (([61, 61] : List UInt8) == [60, 60]) = false := rfl
  have f3 : (([61, 61] : List UInt8) == [62, 62]) = false := rfl
  have f4 : (([61, 61] : List UInt8) == [43]) = false := rfl
  have f5 : (([61, 61] : List UInt8) == [45]) = false := rfl
  have f6 : (([61, 61] : List UInt8) == [42]) = false := rfl
  have f7 : (([61, 61] : List UInt8) == [60]) = false := rfl
  have f8 : (([61, 61] : List UInt8) == [62, 61]) = false := rfl
  have f9 : (([61, 61] : List UInt8) == [62]) = false := rfl
  have f10 : (([61, 61] : List UInt8) == [60, 61]) = false := rfl
  have f11 : (([61, 61] : List UInt8) == [61, 61]) = true := rfl
  have f12 : (([61, 61] : List UInt8) == [33, 61]) = false := rfl
  have f13 : (([61, 61] : List UInt8) == [38]) = false := rfl
  have f14 : (([61, 61] : List UInt8) == [94]) = false := rfl
  simp -dsimp (maxSteps := 2000000) (disch := first | omega | (simp; done) | (simp; omega)) only [SA, SB, SC, SD, SE, SF, SG, Nat.reduceLT, Nat.reduceAdd, Nat.reduceSub, Nat.reduceMul, Nat.reduceLeDiff, Nat.reduceEqDiff, Nat.reduceBEq, Int.reduceToNat, Int.reduceLE, Int.reduceLT, Int.reduceEq, Int.reduceNeg, reduceCtorEq, ↓reduceIte, ic49, List.replicate_succ, List.replicate_zero]
  (repeat' (first | simp -dsimp (maxSteps := 2000000) (disch := first | omega | (simp; done) | (simp; omega)) only [SA, SB, SC, SD, SE, SF, SG, Nat.reduceLT, Nat.reduceAdd, Nat.reduceSub, Nat.reduceMul, Nat.reduceLeDiff, Nat.reduceEqDiff, Nat.reduceBEq, Int.reduceToNat, Int.reduceLE, Int.reduceLT, Int.reduceEq, Int.reduceNeg, reduceCtorEq, ↓reduceIte, f0, f1, f2, f3, f4, f5, f6, f7, f8, f9, f10, f11, f12, f13, f14] | refine Cut.go ?_ | refine Both.intro ?_ ?_ | refine truth_call ?_ | (refine Br.intro ?_ ?_ <;> intro hb <;> have hb' := hb <;> (try simp only [SH] at hb') <;> (try simp -dsimp (maxSteps := 2000000) (disch := first | omega | (simp; done) | (simp; omega)) only [SA, SB, SC, SD, SE, SF, SG, Nat.reduceLT, Nat.reduceAdd, Nat.reduceSub, Nat.reduceMul, Nat.reduceLeDiff, Nat.reduceEqDiff, Nat.reduceBEq, Int.reduceToNat, Int.reduceLE, Int.reduceLT, Int.reduceEq, Int.reduceNeg, reduceCtorEq, ↓reduceIte, hb, f0, f1, f2, f3, f4, f5, f6, f7, f8, f9, f10, f11, f12, f13, f14]))))
  refine ⟨_, _, rfl, ?_⟩
  simp only [twoF, f0, f1, f2, f3, f4, f5, f6, f7, f8, f9, f10, f11, f12, f13, f14, Bool.false_eq_true, if_true, if_false, ValP, and_true, and_self, flagI]
  all_goals (try (grind))
theorem rtwo_12 (a b : Int) (σ : St) : Ok Try.prog 49 [.str [33, 61], .int .i64 a, .int .i64 b] σ (fun o s' => s' = σ ∧ ∃ n e, o = .ret (.tuple [.int .i64 n, .int .i64 e]) ∧ ValP (twoF [33, 61] a b) n e) := by
  apply en49
  have f0 : (([33, 61] : List UInt8) == [47]) = false := rfl
  have f1 : (([33, 61] : List UInt8) == [37]) = false := rfl
  have f2 : (([33, 61] : List UInt8) == [60, 60]) = false := rfl
  have f3 : (([33, 61] : List UInt8) == [62, 62]) = false := rfl
  have f4 : (([33, 61] : List UInt8) == [43]) = false := rfl
  have f5 : (([33, 61] : List UInt8) == [45]) = false := rfl
  have f6 : (([33, 61] : List UInt8) == [42]) = false := rfl
  have f7 : (([33, 61] : List UInt8) == [60]) = false := rfl
  have f8 : (([33, 61] : List UInt8) == [62, 61]) = false := rfl
  have f9 : (([33, 61] : List UInt8) == [62]) = false := rfl
  have f10 : (([33, 61] : List UInt8) == [60, 61]) = false := rfl
  have f11 : (([33, 61] : List UInt8) == [61, 61]) = false := rfl
  have f12 : (([33, 61] : List UInt8) == [33, 61]) = true := rfl
  have f13 : (([33, 61] : List UInt8) == [38]) = false := rfl
  have f14 : (([33, 61] : List UInt8) == [94]) = false := rfl
  simp -dsimp (maxSteps := 2000000) (disch := first | omega | (simp; done) | (simp; omega)) only [SA, SB, SC, SD, SE, SF, SG, Nat.reduceLT, Nat.reduceAdd, Nat.reduceSub, Nat.reduceMul, Nat.reduceLeDiff, Nat.reduceEqDiff, Nat.reduceBEq, Int.reduceToNat, Int.reduceLE, Int.reduceLT, Int.reduceEq, Int.reduceNeg, reduceCtorEq, ↓reduceIte, ic49, List.replicate_succ, List.replicate_zero]
  (repeat' (first | simp -dsimp (maxSteps := 2000000) (disch := first | omega | (simp; done) | (simp; omega)) only [SA, SB, SC, SD, SE, SF, SG, Nat.reduceLT, Nat.reduceAdd, Nat.reduceSub, Nat.reduceMul, Nat.reduceLeDiff, Nat.reduceEqDiff, Nat.reduceBEq, Int.reduceToNat, Int.reduceLE, Int.reduceLT, Int.reduceEq, Int.reduceNeg, reduceCtorEq, ↓reduceIte, f0, f1, f2, f3, f4, f5, f6, f7, f8, f9, f10, f11, f12, f13, f14] | refine Cut.go ?_ | refine Both.intro ?_ ?_ | refine truth_call ?_ | (refine Br.intro ?_ ?_ <;> intro hb <;> have hb' := hb <;> (try simp only [SH] at hb') <;> (try simp -dsimp (maxSteps := 2000000) (disch := first | omega | (simp; done) | (simp; omega)) only [SA, SB, SC, SD, SE, SF, SG, Nat.reduceLT, Nat.reduceAdd, Nat.reduceSub, Nat.reduceMul, Nat.reduceLeDiff, Nat.reduceEqDiff, Nat.reduceBEq, Int.reduceToNat, Int.reduceLE, Int.reduceLT, Int.reduceEq, Int.reduceNeg, reduceCtorEq, ↓reduceIte, hb, f0, f1, f2, f3, f4, f5, f6, f7, f8, f9, f10, f11, f12, f13, f14]))))
  refine ⟨_, _, rfl, ?_⟩
  simp only [twoF, f0, f1, f2, f3, f4, f5, f6, f7, f8, f9, f10, f11, f12, f13, f14, Bool.false_eq_true, if_true, if_false, ValP, and_true, and_self, flagI]
  all_goals (try (grind))
theorem rtwo_13 (a b : Int) (σ : St) : Ok Try.prog 49 [.str [38], .int .i64 a, .int .i64 b] σ (fun o s' => s' = σ ∧ ∃ n e, o = .ret (.tuple [.int .i64 n, .int .i64 e]) ∧ ValP (twoF [38] a b) n e) := by
  apply en49
  have f0 : (([38] : List UInt8) == [47]) = false := rfl
  have f1 : (([38] : List UInt8) == [37]) = false := rfl
  have f2 : (([38] : List UInt8) == [60, 60]) = false := rfl
  have f3 : (([38] : List UInt8) == [62, 62]) = false := rfl
  have f4 : (([38] : List UInt8) == [43]) = false := rfl
  have f5 : (([38] : List UInt8) == [45]) = false := rfl
  have f6 : (([38] : List UInt8) == [42]) = false := rfl
  have f7 : (([38] : List UInt8) == [60]) = false := rfl
  have f8 : (([38] : List UInt8) == [62, 61]) = false := rfl
  have f9 : (([38] : List UInt8) == [62]) = false := rfl
  have f10 : (([38] : List UInt8) == [60, 61]) = false := rfl
  have f11 : (([38] : List UInt8) == [61, 61]) = false := rfl
  have f12 : (([38] : List UInt8) == [33, 61]) = false := rfl
  have f13 : (([38] : List UInt8) == [38]) = true := rfl
  have f14 : (([38] : List UInt8) == [94]) = false := rfl
  simp -dsimp (maxSteps := 2000000) (disch := first | omega | (simp; done) | (simp; omega)) only [SA, SB, SC, SD, SE, SF, SG, Nat.reduceLT, Nat.reduceAdd, Nat.reduceSub, Nat.reduceMul, Nat.reduceLeDiff, Nat.reduceEqDiff, Nat.reduceBEq, Int.reduceToNat, Int.reduceLE, Int.reduceLT, Int.reduceEq, Int.reduceNeg, reduceCtorEq, ↓reduceIte, ic49, List.replicate_succ, List.replicate_zero]
  (repeat' (first | simp -dsimp (maxSteps := 2000000) (disch := first | omega | (simp; done) | (simp; omega)) only [SA, SB, SC, SD, SE, SF, SG, Nat.reduceLT, Nat.reduceAdd, Nat.reduceSub, Nat.reduceMul, Nat.reduceLeDiff, Nat.reduceEqDiff, Nat.reduceBEq, Int.reduceToNat, Int.reduceLE, Int.reduceLT, Int.reduceEq, Int.reduceNeg, reduceCtorEq, ↓reduceIte, f0, f1, f2, f3, f4, f5, f6, f7, f8, f9, f10, f11, f12, f13, f14] | refine Cut.go ?_ | refine Both.intro ?_ ?_ | refine truth_call ?_ | (refine Br.intro ?_ ?_ <;> intro hb <;> have hb' := hb <;> (try simp only [SH] at hb') <;> (try simp -dsimp (maxSteps := 2000000) (disch := first | omega | (simp; done) | (simp; omega)) only [SA, SB, SC, SD, SE, SF, SG, Nat.reduceLT, Nat.reduceAdd, Nat.reduceSub, Nat.reduceMul, Nat.reduceLeDiff, Nat.reduceEqDiff, Nat.reduceBEq, Int.reduceToNat, Int.reduceLE, Int.reduceLT, Int.reduceEq, Int.reduceNeg, reduceCtorEq, ↓reduceIte, hb, f0, f1, f2, f3, f4, f5, f6, f7, f8, f9, f10, f11, f12, f13, f14]))))
  refine ⟨_, _, rfl, ?_⟩
  simp only [twoF, f0, f1, f2, f3, f4, f5, f6, f7, f8, f9, f10, f11, f12, f13, f14, Bool.false_eq_true, if_true, if_false, ValP, and_true, and_self, flagI]
theorem rtwo_14 (a b : Int) (σ : St) : Ok Try.prog 49 [.str [94], .int .i64 a, .int .i64 b] σ (fun o s' => s' = σ ∧ ∃ n e, o = .ret (.tuple [.int .i64 n, .int .i64 e]) ∧ ValP (twoF [94] a b) n e) := by
  apply en49
  have f0 : (([94] : List UInt8) == [47]) = false := rfl
  have f1 : (([94] : List UInt8) == [37]) = false := rfl
  have f2 : (([94] : List UInt8) == [60, 60]) = false := rfl
  have f3 : (([94] : List UInt8) == [62, 62]) = false := rfl
  have f4 : (([94] : List UInt8) == [43]) = false := rfl
  have f5 : (([94] : List UInt8) == [45]) = false := rfl
  have f6 : (([94] : List UInt8) == [42]) = false := rfl
  have f7 : (([94] : List UInt8) == [60]) = false := rfl
  have f8 : (([94] : List UInt8) == [62, 61]) = false := rfl
  have f9 : (([94] : List UInt8) == [62]) = false := rfl
  have f10 : (([94] : List UInt8) == [60, 61]) = false := rfl
  have f11 : (([94] : List UInt8) == [61, 61]) = false := rfl
  have f12 : (([94] : List UInt8) == [33, 61]) = false := rfl
  have f13 : (([94] : List UInt8) == [38]) = false := rfl
  have f14 : (([94] : List UInt8) == [94]) = true := rfl
  simp -dsimp (maxSteps := 2000000) (disch := first | omega | (simp; done) | (simp; omega)) only [SA, SB, SC, SD, SE, SF, SG, Nat.reduceLT, Nat.reduceAdd, Nat.reduceSub, Nat.reduceMul, Nat.reduceLeDiff, Nat.reduceEqDiff, Nat.reduceBEq, Int.reduceToNat, Int.reduceLE, Int.reduceLT, Int.reduceEq, Int.reduceNeg, reduceCtorEq, ↓reduceIte, ic49, List.replicate_succ, List.replicate_zero]
  (repeat' (first | simp -dsimp (maxSteps := 2000000) (disch := first | omega | (simp; done) | (simp; omega)) only [SA, SB, SC, SD, SE, SF, SG, Nat.reduceLT, Nat.reduceAdd, Nat.reduceSub, Nat.reduceMul, Nat.reduceLeDiff, Nat.reduceEqDiff, Nat.reduceBEq, Int.reduceToNat, Int.reduceLE, Int.reduceLT, Int.reduceEq, Int.reduceNeg, reduceCtorEq, ↓reduceIte, f0, f1, f2, f3, f4, f5, f6, f7, f8, f9, f10, f11, f12, f13, f14] | refine Cut.go ?_ | refine Both.intro ?_ ?_ | refine truth_call ?_ | (refine Br.intro ?_ ?_ <;> intro hb <;> have hb' := hb <;> (try simp only [SH] at hb') <;> (try simp -dsimp (maxSteps := 2000000) (disch := first | omega | (simp; done) | (simp; omega)) only [SA, SB, SC, SD, SE, SF, SG, Nat.reduceLT, Nat.reduceAdd, Nat.reduceSub, Nat.reduceMul, Nat.reduceLeDiff, Nat.reduceEqDiff, Nat.reduceBEq, Int.reduceToNat, Int.reduceLE, Int.reduceLT, Int.reduceEq, Int.reduceNeg, reduceCtorEq, ↓reduceIte, hb, f0, f1, f2, f3, f4, f5, f6, f7, f8, f9, f10, f11, f12, f13, f14]))))
  refine ⟨_, _, rfl, ?_⟩
  simp only [twoF, f0, f1, f2, f3, f4, f5, f6, f7, f8, f9, f10, f11, f12, f13, f14, Bool.false_eq_true, if_true, if_false, ValP, and_true, and_self, flagI]
theorem rtwo_or (s : List UInt8) (a b : Int) (σ : St) (f0 : (s == [47]) = false) (f1 : (s == [37]) = false) (f2 : (s == [60, 60]) = false) (f3 : (s == [62, 62]) = false) (f4 : (s == [43]) = false) (f5 : (s == [45]) = false) (f6 : (s == [42]) = false) (f7 : (s == [60]) = false) (f8 : (s == [62, 61]) = false) (f9 : (s == [62]) = false) (f10 : (s == [60, 61]) = false) (f11 : (s == [61, 61]) = false) (f12 : (s == [33, 61]) = false) (f13 : (s == [38]) = false) (f14 : (s == [94]) = false) : Ok Try.prog 49 [.str s, .int .i64 a, .int .i64 b] σ (fun o s' => s' = σ ∧ ∃ n e, o = .ret (.tuple [.int .i64 n, .int .i64 e]) ∧ ValP (twoF s a b) n e) := by
  apply en49
  simp -dsimp (maxSteps := 2000000) (disch := first | omega | (simp; done) | (simp; omega)) only [SA, SB, SC, SD, SE, SF, SG, Nat.reduceLT, Nat.reduceAdd, Nat.reduceSub, Nat.reduceMul, Nat.reduceLeDiff, Nat.reduceEqDiff, Nat.reduceBEq, Int.reduceToNat, Int.reduceLE, Int.reduceLT, Int.reduceEq, Int.reduceNeg, reduceCtorEq, ↓reduceIte, ic49, List.replicate_succ, List.replicate_zero]
  (repeat' (first | simp -dsimp (maxSteps := 2000000) (disch := first | omega | (simp; done) | (simp; omega)) only [SA, SB, SC, SD, SE, SF, SG, Nat.reduceLT, Nat.reduceAdd, Nat.reduceSub, Nat.reduceMul, Nat.reduceLeDiff, Nat.reduceEqDiff, Nat.reduceBEq, Int.reduceToNat, Int.reduceLE, Int.reduceLT, Int.reduceEq, Int.reduceNeg, reduceCtorEq, ↓reduceIte, f0, f1, f2, f3, f4, f5, f6, f7, f8, f9, f10, f11, f12, f13, f14] | refine Cut.go ?_ | refine Both.intro ?_ ?_ | refine truth_call ?_ | (refine Br.intro ?_ ?_ <;> intro hb <;> have hb' := hb <;> (try simp only [SH] at hb') <;> (try simp -dsimp (maxSteps := 2000000) (disch := first | omega | (simp; done) | (simp; omega)) only [SA, SB, SC, SD, SE, SF, SG, Nat.reduceLT, Nat.reduceAdd, Nat.reduceSub, Nat.reduceMul, Nat.reduceLeDiff, Nat.reduceEqDiff, Nat.reduceBEq, Int.reduceToNat, Int.reduceLE, Int.reduceLT, Int.reduceEq, Int.reduceNeg, reduceCtorEq, ↓reduceIte, hb, f0, f1, f2, f3, f4, f5, f6, f7, f8, f9, f10, f11, f12, f13, f14]))))
  exact ⟨_, _, rfl, by simp only [twoF, f0, f1, f2, f3, f4, f5, f6, f7, f8, f9, f10, f11, f12, f13, f14, Bool.false_eq_true, if_true, if_false, ValP, and_self]⟩
theorem rtwo_ok (s : List UInt8) (a b : Int) (σ : St) : Ok Try.prog 49 [.str s, .int .i64 a, .int .i64 b] σ (fun o s' => s' = σ ∧ ∃ n e, o = .ret (.tuple [.int .i64 n, .int .i64 e]) ∧ ValP (twoF s a b) n e) := by
  by_cases h0 : s = [47]
  · subst h0; exact rtwo_0 a b σ
  by_cases h1 : s = [37]
  · subst h1; exact rtwo_1 a b σ
  by_cases h2 : s = [60, 60]
  · subst h2; exact rtwo_2 a b σ
  by_cases h3 : s = [62, 62]
  · subst h3; exact rtwo_3 a b σ
  by_cases h4 : s = [43]
  · subst h4; exact rtwo_4 a b σ
  by_cases h5 : s = [45]
  · subst h5; exact rtwo_5 a b σ
  by_cases h6 : s = [42]
  · subst h6; exact rtwo_6 a b σ
  by_cases h7 : s = [60]
  · subst h7; exact rtwo_7 a b σ
  by_cases h8 : s = [62, 61]
  · subst h8; exact rtwo_8 a b σ
  by_cases h9 : s = [62]
  · subst h9; exact rtwo_9 a b σ
  by_cases h10 : s = [60, 61]
  · subst h10; exact rtwo_10 a b σ
  by_cases h11 : s = [61, 61]
  · subst h11; exact rtwo_11 a b σ
  by_cases h12 : s = [33, 61]
  · subst h12; exact rtwo_12 a b σ
  by_cases h13 : s = [38]
  · subst h13; exact rtwo_13 a b σ
  by_cases h14 : s = [94]
  · subst h14; exact rtwo_14 a b σ
  exact rtwo_or s a b σ (beq_eq_false_iff_ne.2 h0) (beq_eq_false_iff_ne.2 h1) (beq_eq_false_iff_ne.2 h2) (beq_eq_false_iff_ne.2 h3) (beq_eq_false_iff_ne.2 h4) (beq_eq_false_iff_ne.2 h5) (beq_eq_false_iff_ne.2 h6) (beq_eq_false_iff_ne.2 h7) (beq_eq_false_iff_ne.2 h8) (beq_eq_false_iff_ne.2 h9) (beq_eq_false_iff_ne.2 h10) (beq_eq_false_iff_ne.2 h11) (beq_eq_false_iff_ne.2 h12) (beq_eq_false_iff_ne.2 h13) (beq_eq_false_iff_ne.2 h14)
theorem rtwo_call {s : List UInt8} {a b : Int} {σ : St} {K : Out → St → Prop} (hk : ∀ n e, ValP (twoF s a b) n e → K (.ret (.tuple [.int .i64 n, .int .i64 e])) σ) : goodFn Try.prog 49 = true ∧ Ok Try.prog 49 [.str s, .int .i64 a, .int .i64 b] σ K :=
  ⟨gd49, (rtwo_ok s a b σ).mono fun o s' ⟨h1, n, e, h2, h3⟩ => by subst h1; subst h2; exact hk n e h3⟩
end Go.Proofs.Ytkjgadanaknleaa
