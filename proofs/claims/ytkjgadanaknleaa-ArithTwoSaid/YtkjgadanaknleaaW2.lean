/-
  THE WALKS, PART 2: constants, and numbers written.
-/
import Derived.Test.YtkjgadanaknleaaW1
namespace Go.Proofs.Ytkjgadanaknleaa
open Go Go.Id
set_option linter.unusedSimpArgs false
set_option linter.unusedVariables false
set_option maxRecDepth 100000
set_option maxHeartbeats 4000000

def is0 (s : List UInt8) : Bool := decide ((s.length : Int) > 1) && ((s.getD 0 0).toNat : Int) == 48
def constF (s : List UInt8) : Int × Int :=
  if hasPre s [48, 120] || hasPre s [48, 88] then (IntKind.i64.wrap (readF (s.drop 2) 16 9223372036854775807).1, (readF (s.drop 2) 16 9223372036854775807).2)
  else if is0 s then (IntKind.i64.wrap (readF (s.drop 1) 8 9223372036854775807).1, (readF (s.drop 1) 8 9223372036854775807).2)
  else (IntKind.i64.wrap (readF s 10 9223372036854775807).1, (readF s 10 9223372036854775807).2)
theorem hasPre_len {s p : List UInt8} (h : hasPre s p = true) : p.length ≤ s.length := by
  simp only [hasPre, Bool.and_eq_true, decide_eq_true_eq] at h
  omega
theorem constant_ok (s : List UInt8) (hs : s.length ≤ 9223372036854775807) (σ : St) : Ok Try.prog 32 [.str s] σ (fun o s' => s' = σ ∧ o = .ret (.tuple [.int .i64 (constF s).1, .int .i64 (constF s).2])) := by
  apply en32
  have h1 : (s.drop 1).length ≤ s.length := by simp
  have h2 : (s.drop 2).length ≤ s.length := by simp
  by_cases hx : hasPre s [48, 120] = true
  · have hl := hasPre_len hx
    simp only [List.length_cons, List.length_nil] at hl
    simp -dsimp (maxSteps := 2000000) (disch := first | omega | (simp; done) | (simp; omega)) only [SA, SB, SC, SD, SE, SF, SG, Nat.reduceLT, Nat.reduceAdd, Nat.reduceSub, Nat.reduceMul, Nat.reduceLeDiff, Nat.reduceEqDiff, Nat.reduceBEq, Int.reduceToNat, Int.reduceLE, Int.reduceLT, Int.reduceEq, Int.reduceNeg, reduceCtorEq, ↓reduceIte, ic32, List.replicate_succ, List.replicate_zero]
    (repeat' (first | simp -dsimp (maxSteps := 2000000) (disch := first | omega | (simp; done) | (simp; omega)) only [SA, SB, SC, SD, SE, SF, SG, Nat.reduceLT, Nat.reduceAdd, Nat.reduceSub, Nat.reduceMul, Nat.reduceLeDiff, Nat.reduceEqDiff, Nat.reduceBEq, Int.reduceToNat, Int.reduceLE, Int.reduceLT, Int.reduceEq, Int.reduceNeg, reduceCtorEq, ↓reduceIte, hx] | refine Cut.go ?_ | refine Both.intro ?_ ?_ | refine pass gd53 (hasPrefix_ok _ _ _) ?_ | refine pass gd54 (read_ok _ _ _ (by omega) (by omega) (by omega) _) ?_ | (refine Br.intro ?_ ?_ <;> intro hb <;> have hb' := hb <;> (try simp only [SH] at hb') <;> (try simp -dsimp (maxSteps := 2000000) (disch := first | omega | (simp; done) | (simp; omega)) only [SA, SB, SC, SD, SE, SF, SG, Nat.reduceLT, Nat.reduceAdd, Nat.reduceSub, Nat.reduceMul, Nat.reduceLeDiff, Nat.reduceEqDiff, Nat.reduceBEq, Int.reduceToNat, Int.reduceLE, Int.reduceLT, Int.reduceEq, Int.reduceNeg, reduceCtorEq, ↓reduceIte, hb, hx]))))
    all_goals simp only [constF, hx, Bool.true_or, if_true]
  · simp only [Bool.not_eq_true] at hx
    by_cases hy : hasPre s [48, 88] = true
    · have hl := hasPre_len hy
      simp only [List.length_cons, List.length_nil] at hl
      simp -dsimp (maxSteps := 2000000) (disch := first | omega | (simp; done) | (simp; omega)) only [SA, SB, SC, SD, SE, SF, SG, Nat.reduceLT, Nat.reduceAdd, Nat.reduceSub, Nat.reduceMul, Nat.reduceLeDiff, Nat.reduceEqDiff, Nat.reduceBEq, Int.reduceToNat, Int.reduceLE, Int.reduceLT, Int.reduceEq, Int.reduceNeg, reduceCtorEq, ↓reduceIte, ic32, List.replicate_succ, List.replicate_zero]
      (repeat' (first | simp -dsimp (maxSteps := 2000000) (disch := first | omega | (simp; done) | (simp; omega)) only [SA, SB, SC, SD, SE, SF, SG, Nat.reduceLT, Nat.reduceAdd, Nat.reduceSub, Nat.reduceMul, Nat.reduceLeDiff, Nat.reduceEqDiff, Nat.reduceBEq, Int.reduceToNat, Int.reduceLE, Int.reduceLT, Int.reduceEq, Int.reduceNeg, reduceCtorEq, ↓reduceIte, hx, hy] | refine Cut.go ?_ | refine Both.intro ?_ ?_ | refine pass gd53 (hasPrefix_ok _ _ _) ?_ | refine pass gd54 (read_ok _ _ _ (by omega) (by omega) (by omega) _) ?_ | (refine Br.intro ?_ ?_ <;> intro hb <;> have hb' := hb <;> (try simp only [SH] at hb') <;> (try simp -dsimp (maxSteps := 2000000) (disch := first | omega | (simp; done) | (simp; omega)) only [SA, SB, SC, SD, SE, SF, SG, Nat.reduceLT, Nat.reduceAdd, Nat.reduceSub, Nat.reduceMul, Nat.reduceLeDiff, Nat.reduceEqDiff, Nat.reduceBEq, Int.reduceToNat, Int.reduceLE, Int.reduceLT, Int.reduceEq, Int.reduceNeg, reduceCtorEq, ↓reduceIte, hb, hx, hy]))))
      all_goals simp only [constF, hx, hy, Bool.false_or, if_true]
    · simp only [Bool.not_eq_true] at hy
      simp -dsimp (maxSteps := 2000000) (disch := first | omega | (simp; done) | (simp; omega)) only [SA, SB, SC, SD, SE, SF, SG, Nat.reduceLT, Nat.reduceAdd, Nat.reduceSub, Nat.reduceMul, Nat.reduceLeDiff, Nat.reduceEqDiff, Nat.reduceBEq, Int.reduceToNat, Int.reduceLE, Int.reduceLT, Int.reduceEq, Int.reduceNeg, reduceCtorEq, ↓reduceIte, ic32, List.replicate_succ, List.replicate_zero]
      (repeat' (first | simp -dsimp (maxSteps := 2000000) (disch := first | omega | (simp; done) | (simp; omega)) only [SA, SB, SC, SD, SE, SF, SG, Nat.reduceLT, Nat.reduceAdd, Nat.reduceSub, Nat.reduceMul, Nat.reduceLeDiff, Nat.reduceEqDiff, Nat.reduceBEq, Int.reduceToNat, Int.reduceLE, Int.reduceLT, Int.reduceEq, Int.reduceNeg, reduceCtorEq, ↓reduceIte, hx, hy] | refine Cut.go ?_ | refine Both.intro ?_ ?_ | refine pass gd53 (hasPrefix_ok _ _ _) ?_ | refine pass gd54 (read_ok _ _ _ (by omega) (by omega) (by omega) _) ?_ | (refine Br.intro ?_ ?_ <;> intro hb <;> have hb' := hb <;> (try simp only [SH] at hb') <;> (try simp -dsimp (maxSteps := 2000000) (disch := first | omega | (simp; done) | (simp; omega)) only [SA, SB, SC, SD, SE, SF, SG, Nat.reduceLT, Nat.reduceAdd, Nat.reduceSub, Nat.reduceMul, Nat.reduceLeDiff, Nat.reduceEqDiff, Nat.reduceBEq, Int.reduceToNat, Int.reduceLE, Int.reduceLT, Int.reduceEq, Int.reduceNeg, reduceCtorEq, ↓reduceIte, hb, hx, hy]))))
      all_goals (simp only [constF, is0, hx, hy, Bool.or_self, Bool.false_eq_true, if_false]; simp only [*, decide_true, decide_false, beq_self_eq_true, Bool.and_self, Bool.and_false, Bool.false_and, Bool.false_eq_true, ↓reduceIte])
theorem constant_call {s : List UInt8} {σ : St} {K : Out → St → Prop} (hs : s.length ≤ 9223372036854775807) (hk : K (.ret (.tuple [.int .i64 (constF s).1, .int .i64 (constF s).2])) σ) : goodFn Try.prog 32 = true ∧ Ok Try.prog 32 [.str s] σ K := pass gd32 (constant_ok s hs σ) hk
end Go.Proofs.Ytkjgadanaknleaa
