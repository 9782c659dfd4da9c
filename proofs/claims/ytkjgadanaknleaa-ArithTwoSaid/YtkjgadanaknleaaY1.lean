/-
  THE WALKS, PART 41: the document's constants and decimals; whether a byte is in a text; the sign at a place.
-/
import Derived.Test.YtkjgadanaknleaaY0
namespace Go.Proofs.Ytkjgadanaknleaa
open Go Go.Id
set_option linter.unusedSimpArgs false
set_option linter.unusedVariables false
set_option maxRecDepth 100000
set_option maxHeartbeats 4000000

theorem hasPre_2 (s : List UInt8) (a b : UInt8) : hasPre s [a, b] = (decide ((s.length : Int) ≥ 2) && (decide (((s.getD 0 0).toNat : Int) = a.toNat) && decide (((s.getD 1 0).toNat : Int) = b.toNat))) := by
  match s with
  | [] => rfl
  | [x] => simp [hasPre]
  | x :: y :: r =>
    simp only [hasPre, List.length_cons, List.length_nil, List.take_succ_cons, List.take_zero, List.getD_cons_zero, List.getD_cons_succ]
    have e1 : decide ((x.toNat : Int) = a.toNat) = (x == a) := by
      by_cases h : x = a
      · subst h; simp
      · rw [beq_eq_false_iff_ne.2 h, decide_eq_false]
        intro h2; exact h (UInt8.toNat_inj.1 (by omega))
    have e2 : decide ((y.toNat : Int) = b.toNat) = (y == b) := by
      by_cases h : y = b
      · subst h; simp
      · rw [beq_eq_false_iff_ne.2 h, decide_eq_false]
        intro h2; exact h (UInt8.toNat_inj.1 (by omega))
    rw [e1, e2, decide_eq_true (by omega), decide_eq_true (by omega)]
    simp
theorem is0_eq (s : List UInt8) : is0 s = (decide ((s.length : Int) ≥ 2) && decide (((s.getD 0 0).toNat : Int) = 48)) := by
  rw [is0]
  congr 1
theorem hasPre_1 (s : List UInt8) (a : UInt8) : hasPre s [a] = (decide ((s.length : Int) > 0) && decide (((s.getD 0 0).toNat : Int) = a.toNat)) := by
  match s with
  | [] => rfl
  | x :: r =>
    simp only [hasPre, List.length_cons, List.length_nil, List.take_succ_cons, List.take_zero, List.getD_cons_zero]
    have e1 : decide ((x.toNat : Int) = a.toNat) = (x == a) := by
      by_cases h : x = a
      · subst h; simp
      · rw [beq_eq_false_iff_ne.2 h, decide_eq_false]
        intro h2; exact h (UInt8.toNat_inj.1 (by omega))
    rw [e1, decide_eq_true (by omega), decide_eq_true (by omega)]
    simp
theorem rconst_ok (s : List UInt8) (hs : s.length ≤ 9223372036854775807) (σ : St) : Ok Try.prog 45 [.str s] σ (fun o s' => s' = σ ∧ o = .ret (.tuple [.int .i64 (constF s).1, .int .i64 (constF s).2])) := by
  apply en45
  have h1 : (s.drop 1).length ≤ s.length := by simp
  have h2 : (s.drop 2).length ≤ s.length := by simp
  simp -dsimp (maxSteps := 2000000) (disch := first | omega | (simp; done) | (simp; omega)) only [SA, SB, SC, SD, SE, SF, SG, Nat.reduceLT, Nat.reduceAdd, Nat.reduceSub, Nat.reduceMul, Nat.reduceLeDiff, Nat.reduceEqDiff, Nat.reduceBEq, Int.reduceToNat, Int.reduceLE, Int.reduceLT, Int.reduceEq, Int.reduceNeg, reduceCtorEq, ↓reduceIte, ic45, List.replicate_succ, List.replicate_zero]
  (repeat' (first | simp -dsimp (maxSteps := 2000000) (disch := first | omega | (simp; done) | (simp; omega)) only [SA, SB, SC, SD, SE, SF, SG, Nat.reduceLT, Nat.reduceAdd, Nat.reduceSub, Nat.reduceMul, Nat.reduceLeDiff, Nat.reduceEqDiff, Nat.reduceBEq, Int.reduceToNat, Int.reduceLE, Int.reduceLT, Int.reduceEq, Int.reduceNeg, reduceCtorEq, ↓reduceIte] | refine Cut.go ?_ | refine Both.intro ?_ ?_ | refine rdigits_call (by omega) (by omega) (by omega) ?_ | (refine Br.intro ?_ ?_ <;> intro hb <;> have hb' := hb <;> (try simp only [SH] at hb') <;> (try simp -dsimp (maxSteps := 2000000) (disch := first | omega | (simp; done) | (simp; omega)) only [SA, SB, SC, SD, SE, SF, SG, Nat.reduceLT, Nat.reduceAdd, Nat.reduceSub, Nat.reduceMul, Nat.reduceLeDiff, Nat.reduceEqDiff, Nat.reduceBEq, Int.reduceToNat, Int.reduceLE, Int.reduceLT, Int.reduceEq, Int.reduceNeg, reduceCtorEq, ↓reduceIte, hb]))))
  all_goals (first
    | (exfalso; omega)
    | (have g1 := hasPre_2 s 48 120
       have g2 := hasPre_2 s 48 88
       have g3 := is0_eq s
       simp only [show (48 : UInt8).toNat = 48 from rfl, show (120 : UInt8).toNat = 120 from rfl, show (88 : UInt8).toNat = 88 from rfl, Int.cast_ofNat_Int] at g1 g2
       simp only [*, decide_true, decide_false, Bool.and_true, Bool.true_and, Bool.and_false, Bool.false_and] at g1 g2 g3
       simp [constF, g1, g2, g3]))
theorem rdecimal_ok (s : List UInt8) (hs : s.length ≤ 9223372036854775807) (σ : St) : Ok Try.prog 68 [.str s] σ (fun o s' => s' = σ ∧ o = .ret (.tuple [.int .i64 (decimalF s).1, .int .i64 (decimalF s).2])) := by
  apply en68
  have h1 : (s.drop 1).length ≤ s.length := by simp
  simp -dsimp (maxSteps := 2000000) (disch := first | omega | (simp; done) | (simp; omega)) only [SA, SB, SC, SD, SE, SF, SG, Nat.reduceLT, Nat.reduceAdd, Nat.reduceSub, Nat.reduceMul, Nat.reduceLeDiff, Nat.reduceEqDiff, Nat.reduceBEq, Int.reduceToNat, Int.reduceLE, Int.reduceLT, Int.reduceEq, Int.reduceNeg, reduceCtorEq, ↓reduceIte, ic68, List.replicate_succ, List.replicate_zero]
  (repeat' (first | simp -dsimp (maxSteps := 2000000) (disch := first | omega | (simp; done) | (simp; omega)) only [SA, SB, SC, SD, SE, SF, SG, Nat.reduceLT, Nat.reduceAdd, Nat.reduceSub, Nat.reduceMul, Nat.reduceLeDiff, Nat.reduceEqDiff, Nat.reduceBEq, Int.reduceToNat, Int.reduceLE, Int.reduceLT, Int.reduceEq, Int.reduceNeg, reduceCtorEq, ↓reduceIte] | refine Cut.go ?_ | refine Both.intro ?_ ?_ | refine rdigits_call (by omega) (by omega) (by omega) ?_ | (refine Br.intro ?_ ?_ <;> intro hb <;> have hb' := hb <;> (try simp only [SH] at hb') <;> (try simp -dsimp (maxSteps := 2000000) (disch := first | omega | (simp; done) | (simp; omega)) only [SA, SB, SC, SD, SE, SF, SG, Nat.reduceLT, Nat.reduceAdd, Nat.reduceSub, Nat.reduceMul, Nat.reduceLeDiff, Nat.reduceEqDiff, Nat.reduceBEq, Int.reduceToNat, Int.reduceLE, Int.reduceLT, Int.reduceEq, Int.reduceNeg, reduceCtorEq, ↓reduceIte, hb]))))
  all_goals (first
    | (exfalso; omega)
    | (have g1 := hasPre_1 s 45
       have g2 := hasPre_1 s 43
       simp only [show (45 : UInt8).toNat = 45 from rfl, show (43 : UInt8).toNat = 43 from rfl, Int.cast_ofNat_Int] at g1 g2
       simp only [*, decide_true, decide_false, Bool.and_true, Bool.true_and, Bool.and_false, Bool.false_and] at g1 g2
       simp [decimalF, cutPre, g1, g2]))
theorem has_ok (s : List UInt8) (c : UInt8) (hs : s.length ≤ 9223372036854775807) (σ : St) : Ok Try.prog 41 [.str s, .int .u8 c.toNat] σ (fun o s' => s' = σ ∧ o = .ret (.bool (s.any (· == c)))) := by
  apply en41
  simp -dsimp (maxSteps := 2000000) (disch := first | omega | (simp; done) | (simp; omega)) only [SA, SB, SC, SD, SE, SF, SG, Nat.reduceLT, Nat.reduceAdd, Nat.reduceSub, Nat.reduceMul, Nat.reduceLeDiff, Nat.reduceEqDiff, Nat.reduceBEq, Int.reduceToNat, Int.reduceLE, Int.reduceLT, Int.reduceEq, Int.reduceNeg, reduceCtorEq, ↓reduceIte, ic41, List.replicate_succ, List.replicate_zero]
  (repeat' (first | simp -dsimp (maxSteps := 2000000) (disch := first | omega | (simp; done) | (simp; omega)) only [SA, SB, SC, SD, SE, SF, SG, Nat.reduceLT, Nat.reduceAdd, Nat.reduceSub, Nat.reduceMul, Nat.reduceLeDiff, Nat.reduceEqDiff, Nat.reduceBEq, Int.reduceToNat, Int.reduceLE, Int.reduceLT, Int.reduceEq, Int.reduceNeg, reduceCtorEq, ↓reduceIte] | refine Cut.go ?_ | refine Both.intro ?_ ?_ | (refine Br.intro ?_ ?_ <;> intro hb <;> have hb' := hb <;> (try simp only [SH] at hb') <;> (try simp -dsimp (maxSteps := 2000000) (disch := first | omega | (simp; done) | (simp; omega)) only [SA, SB, SC, SD, SE, SF, SG, Nat.reduceLT, Nat.reduceAdd, Nat.reduceSub, Nat.reduceMul, Nat.reduceLeDiff, Nat.reduceEqDiff, Nat.reduceBEq, Int.reduceToNat, Int.reduceLE, Int.reduceLT, Int.reduceEq, Int.reduceNeg, reduceCtorEq, ↓reduceIte, hb]))))
  refine loop_go (α := Nat) (fun k => [.str s, .int .u8 c.toNat] ++ List.replicate 2 .junk ++ [.bool false, .int .i64 k] ++ List.replicate 11 .junk) (fun _ => σ) (fun k => s.length - k) (fun k => k ≤ s.length ∧ s.any (· == c) = (s.drop k).any (· == c)) 0 ⟨by omega, rfl⟩ (by ((try simp only [List.replicate_succ, List.replicate_zero, List.cons_append, List.nil_append]); repeat' (first | exact trivial | refine ⟨.inl rfl, ?_⟩ | refine ⟨.inr rfl, ?_⟩ | refine ⟨.inr (by simp), ?_⟩))) (Drops.refl _) ?_
  rintro k ⟨hk, hr⟩
  simp -dsimp (maxSteps := 2000000) (disch := first | omega | (simp; done) | (simp; omega)) only [SA, SB, SC, SD, SE, SF, SG, Nat.reduceLT, Nat.reduceAdd, Nat.reduceSub, Nat.reduceMul, Nat.reduceLeDiff, Nat.reduceEqDiff, Nat.reduceBEq, Int.reduceToNat, Int.reduceLE, Int.reduceLT, Int.reduceEq, Int.reduceNeg, reduceCtorEq, ↓reduceIte, List.replicate_succ, List.replicate_zero]
  (repeat' (first | simp -dsimp (maxSteps := 2000000) (disch := first | omega | (simp; done) | (simp; omega)) only [SA, SB, SC, SD, SE, SF, SG, Nat.reduceLT, Nat.reduceAdd, Nat.reduceSub, Nat.reduceMul, Nat.reduceLeDiff, Nat.reduceEqDiff, Nat.reduceBEq, Int.reduceToNat, Int.reduceLE, Int.reduceLT, Int.reduceEq, Int.reduceNeg, reduceCtorEq, ↓reduceIte] | refine Cut.go ?_ | refine Both.intro ?_ ?_ | (refine Br.intro ?_ ?_ <;> intro hb <;> have hb' := hb <;> (try simp only [SH] at hb') <;> (try simp -dsimp (maxSteps := 2000000) (disch := first | omega | (simp; done) | (simp; omega)) only [SA, SB, SC, SD, SE, SF, SG, Nat.reduceLT, Nat.reduceAdd, Nat.reduceSub, Nat.reduceMul, Nat.reduceLeDiff, Nat.reduceEqDiff, Nat.reduceBEq, Int.reduceToNat, Int.reduceLE, Int.reduceLT, Int.reduceEq, Int.reduceNeg, reduceCtorEq, ↓reduceIte, hb]))))
  · have : s.getD k 0 = c := UInt8.toNat_inj.1 (by omega)
    rw [drop_at (by omega), List.any_cons, this, beq_self_eq_true, Bool.true_or] at hr
    rw [hr]
  · have : ¬ s.getD k 0 = c := fun h => by subst h; omega
    rw [drop_at (by omega), List.any_cons, beq_eq_false_iff_ne.2 this, Bool.false_or] at hr
    exact Round.go (k + 1) (by omega) ⟨by omega, hr⟩ (by ((try simp only [List.replicate_succ, List.replicate_zero, List.cons_append, List.nil_append]); repeat' (first | exact trivial | refine ⟨.inl rfl, ?_⟩ | refine ⟨.inr rfl, ?_⟩ | refine ⟨.inr (by simp), ?_⟩))) (Drops.refl _)
  · rw [List.drop_eq_nil_of_le (by omega)] at hr
    rw [hr]; rfl
theorem rconst_call {s : List UInt8} {σ : St} {K : Out → St → Prop} (hs : s.length ≤ 9223372036854775807) (hk : K (.ret (.tuple [.int .i64 (constF s).1, .int .i64 (constF s).2])) σ) : goodFn Try.prog 45 = true ∧ Ok Try.prog 45 [.str s] σ K := pass gd45 (rconst_ok s hs σ) hk
theorem rdecimal_call {s : List UInt8} {σ : St} {K : Out → St → Prop} (hs : s.length ≤ 9223372036854775807) (hk : K (.ret (.tuple [.int .i64 (decimalF s).1, .int .i64 (decimalF s).2])) σ) : goodFn Try.prog 68 = true ∧ Ok Try.prog 68 [.str s] σ K := pass gd68 (rdecimal_ok s hs σ) hk
theorem has_call {s : List UInt8} {c : UInt8} {σ : St} {K : Out → St → Prop} (hs : s.length ≤ 9223372036854775807) (hk : K (.ret (.bool (s.any (· == c)))) σ) : goodFn Try.prog 41 = true ∧ Ok Try.prog 41 [.str s, .int .u8 c.toNat] σ K := pass gd41 (has_ok s c hs σ) hk
end Go.Proofs.Ytkjgadanaknleaa
