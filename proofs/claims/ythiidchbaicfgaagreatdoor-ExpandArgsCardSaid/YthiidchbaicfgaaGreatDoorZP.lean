/-
  THE WALKS, layer 13, PART 24: the document's names, exactly; comparing, exactly.
-/
import Derived.Test.YthiidchbaicfgaaGreatDoorZO
namespace Go.Proofs.YthiidchbaicfgaaGreatDoor
open Go Go.Id
set_option linter.unusedSimpArgs false
set_option linter.unusedVariables false
set_option maxRecDepth 100000
set_option maxHeartbeats 8000000

theorem nameAt22x (s : List UInt8) (hs : s.length ≤ 1000000) (σ : St) : Ok Tryz.prog 22 [.str s, .int .i64 0] σ (fun o s' => o = .ret (.int .i64 (namedN s)) ∧ s' = σ) := by
  apply en22
  simp -dsimp (maxSteps := 2000000) (disch := first | omega | (simp; done) | (simp; omega)) only [SA, SB, SC, SD, SE, SF, SG, SI, Nat.reduceLT, Nat.reduceAdd, Nat.reduceSub, Nat.reduceMul, Nat.reduceLeDiff, Nat.reduceEqDiff, Nat.reduceBEq, Int.reduceToNat, Int.reduceLE, Int.reduceLT, Int.reduceEq, Int.reduceNeg, reduceCtorEq, ↓reduceIte, ic22, List.replicate_succ, List.replicate_zero]
  (repeat' (first | simp -dsimp (maxSteps := 2000000) (disch := first | omega | (simp; done) | (simp; omega)) only [SA, SB, SC, SD, SE, SF, SG, SI, Nat.reduceLT, Nat.reduceAdd, Nat.reduceSub, Nat.reduceMul, Nat.reduceLeDiff, Nat.reduceEqDiff, Nat.reduceBEq, Int.reduceToNat, Int.reduceLE, Int.reduceLT, Int.reduceEq, Int.reduceNeg, reduceCtorEq, ↓reduceIte] | refine Cut.go ?_ | refine Both.intro ?_ ?_ | (refine Br.intro ?_ ?_ <;> intro hb <;> have hb' := hb <;> (try simp only [SH] at hb') <;> (try simp -dsimp (maxSteps := 2000000) (disch := first | omega | (simp; done) | (simp; omega)) only [SA, SB, SC, SD, SE, SF, SG, SI, Nat.reduceLT, Nat.reduceAdd, Nat.reduceSub, Nat.reduceMul, Nat.reduceLeDiff, Nat.reduceEqDiff, Nat.reduceBEq, Int.reduceToNat, Int.reduceLE, Int.reduceLT, Int.reduceEq, Int.reduceNeg, reduceCtorEq, ↓reduceIte, hb]))))
  refine loop_go (fun a : Nat => [.str s, .int .i64 0, .junk, .junk, .int .i64 0, .int .i64 a] ++ List.replicate 29 .junk) (fun _ => σ) (fun a => s.length - a) (fun a => a ≤ s.length ∧ (0 < a → letterB (s.getD 0 0) = true) ∧ ∀ k, k < a → nameC (s.getD k 0) = true) 0 ⟨Nat.zero_le _, fun h => absurd h (by omega), fun k hk => absurd hk (by omega)⟩ (by ((try simp only [List.replicate_succ, List.replicate_zero, List.cons_append, List.nil_append]); repeat' (first | exact trivial | refine ⟨.inl rfl, ?_⟩ | refine ⟨.inr rfl, ?_⟩ | refine ⟨.inr (by simp), ?_⟩))) (Drops.refl _) ?_
  rintro n ⟨h1, h0, h2⟩
  have z : (0 : Int) + n = (n : Int) := by omega
  simp -dsimp (maxSteps := 2000000) (disch := first | omega | (simp; done) | (simp; omega)) only [SA, SB, SC, SD, SE, SF, SG, SI, Nat.reduceLT, Nat.reduceAdd, Nat.reduceSub, Nat.reduceMul, Nat.reduceLeDiff, Nat.reduceEqDiff, Nat.reduceBEq, Int.reduceToNat, Int.reduceLE, Int.reduceLT, Int.reduceEq, Int.reduceNeg, reduceCtorEq, ↓reduceIte, List.replicate_succ, List.replicate_zero]
  have fin : (n = 0 → letterB (s.getD 0 0) = false) → (0 < n → n < s.length → nameC (s.getD n 0) = false) → (Out.ret (.int .i64 n) = Out.ret (.int .i64 (namedN s))) := fun g h => by
    by_cases hn : n = 0
    · subst hn
      rw [namedN, g rfl]; rfl
    · rw [namedN, h0 (by omega), if_pos rfl, takeWhile_len nameC s n h1 h2 (h (by omega))]
  have go : nameC (s.getD n 0) = true → ∀ k, k < n + 1 → nameC (s.getD k 0) = true := fun h k hk => by
    by_cases hkn : k = n
    · rw [hkn]; exact h
    · exact h2 k (by omega)
  by_cases hn : n < s.length
  · have hcond : decide ((n : Int) < s.length) = true := by simp; exact hn
    have ia := idx_at s n hn
    cases hl1 : letterB (s.getD n 0)
    · by_cases hz : n = 0
      · have hc2 : decide ((n : Int) > 0) = false := by simp; omega
        (repeat' (first | simp -dsimp (maxSteps := 2000000) (disch := first | omega | (simp; done) | (simp; omega)) only [SA, SB, SC, SD, SE, SF, SG, SI, Nat.reduceLT, Nat.reduceAdd, Nat.reduceSub, Nat.reduceMul, Nat.reduceLeDiff, Nat.reduceEqDiff, Nat.reduceBEq, Int.reduceToNat, Int.reduceLE, Int.reduceLT, Int.reduceEq, Int.reduceNeg, reduceCtorEq, ↓reduceIte, z, hcond, hc2, ia, hl1] | refine Cut.go ?_ | refine Both.intro ?_ ?_ | refine via gd42 (letter42x _ _) ?_ | refine via gd37 (digit37x _ _) ?_ | (refine Br.intro ?_ ?_ <;> intro hb <;> have hb' := hb <;> (try simp only [SH] at hb') <;> (try simp -dsimp (maxSteps := 2000000) (disch := first | omega | (simp; done) | (simp; omega)) only [SA, SB, SC, SD, SE, SF, SG, SI, Nat.reduceLT, Nat.reduceAdd, Nat.reduceSub, Nat.reduceMul, Nat.reduceLeDiff, Nat.reduceEqDiff, Nat.reduceBEq, Int.reduceToNat, Int.reduceLE, Int.reduceLT, Int.reduceEq, Int.reduceNeg, reduceCtorEq, ↓reduceIte, hb, z, hcond, hc2, ia, hl1]))))
        exact fin (fun _ => by rw [← hl1, hz]) fun h => absurd h (by omega)
      · have hc2 : decide ((n : Int) > 0) = true := by simp; omega
        cases hd1 : digitB (s.getD n 0)
        · (repeat' (first | simp -dsimp (maxSteps := 2000000) (disch := first | omega | (simp; done) | (simp; omega)) only [SA, SB, SC, SD, SE, SF, SG, SI, Nat.reduceLT, Nat.reduceAdd, Nat.reduceSub, Nat.reduceMul, Nat.reduceLeDiff, Nat.reduceEqDiff, Nat.reduceBEq, Int.reduceToNat, Int.reduceLE, Int.reduceLT, Int.reduceEq, Int.reduceNeg, reduceCtorEq, ↓reduceIte, z, hcond, hc2, ia, hl1, hd1] | refine Cut.go ?_ | refine Both.intro ?_ ?_ | refine via gd42 (letter42x _ _) ?_ | refine via gd37 (digit37x _ _) ?_ | (refine Br.intro ?_ ?_ <;> intro hb <;> have hb' := hb <;> (try simp only [SH] at hb') <;> (try simp -dsimp (maxSteps := 2000000) (disch := first | omega | (simp; done) | (simp; omega)) only [SA, SB, SC, SD, SE, SF, SG, SI, Nat.reduceLT, Nat.reduceAdd, Nat.reduceSub, Nat.reduceMul, Nat.reduceLeDiff, Nat.reduceEqDiff, Nat.reduceBEq, Int.reduceToNat, Int.reduceLE, Int.reduceLT, Int.reduceEq, Int.reduceNeg, reduceCtorEq, ↓reduceIte, hb, z, hcond, hc2, ia, hl1, hd1]))))
          exact fin (fun h => absurd h hz) fun _ _ => by rw [nameC, hl1, hd1]; rfl
        · (repeat' (first | simp -dsimp (maxSteps := 2000000) (disch := first | omega | (simp; done) | (simp; omega)) only [SA, SB, SC, SD, SE, SF, SG, SI, Nat.reduceLT, Nat.reduceAdd, Nat.reduceSub, Nat.reduceMul, Nat.reduceLeDiff, Nat.reduceEqDiff, Nat.reduceBEq, Int.reduceToNat, Int.reduceLE, Int.reduceLT, Int.reduceEq, Int.reduceNeg, reduceCtorEq, ↓reduceIte, z, hcond, hc2, ia, hl1, hd1] | refine Cut.go ?_ | refine Both.intro ?_ ?_ | refine via gd42 (letter42x _ _) ?_ | refine via gd37 (digit37x _ _) ?_ | (refine Br.intro ?_ ?_ <;> intro hb <;> have hb' := hb <;> (try simp only [SH] at hb') <;> (try simp -dsimp (maxSteps := 2000000) (disch := first | omega | (simp; done) | (simp; omega)) only [SA, SB, SC, SD, SE, SF, SG, SI, Nat.reduceLT, Nat.reduceAdd, Nat.reduceSub, Nat.reduceMul, Nat.reduceLeDiff, Nat.reduceEqDiff, Nat.reduceBEq, Int.reduceToNat, Int.reduceLE, Int.reduceLT, Int.reduceEq, Int.reduceNeg, reduceCtorEq, ↓reduceIte, hb, z, hcond, hc2, ia, hl1, hd1]))))
          exact Round.go (n + 1) (by omega) ⟨by omega, fun _ => h0 (by omega), go (by rw [nameC, hd1, Bool.or_true])⟩ (by ((try simp only [List.replicate_succ, List.replicate_zero, List.cons_append, List.nil_append]); repeat' (first | exact trivial | refine ⟨.inl rfl, ?_⟩ | refine ⟨.inr rfl, ?_⟩ | refine ⟨.inr (by simp), ?_⟩))) (Drops.refl _)
    · (repeat' (first | simp -dsimp (maxSteps := 2000000) (disch := first | omega | (simp; done) | (simp; omega)) only [SA, SB, SC, SD, SE, SF, SG, SI, Nat.reduceLT, Nat.reduceAdd, Nat.reduceSub, Nat.reduceMul, Nat.reduceLeDiff, Nat.reduceEqDiff, Nat.reduceBEq, Int.reduceToNat, Int.reduceLE, Int.reduceLT, Int.reduceEq, Int.reduceNeg, reduceCtorEq, ↓reduceIte, z, hcond, ia, hl1] | refine Cut.go ?_ | refine Both.intro ?_ ?_ | refine via gd42 (letter42x _ _) ?_ | refine via gd37 (digit37x _ _) ?_ | (refine Br.intro ?_ ?_ <;> intro hb <;> have hb' := hb <;> (try simp only [SH] at hb') <;> (try simp -dsimp (maxSteps := 2000000) (disch := first | omega | (simp; done) | (simp; omega)) only [SA, SB, SC, SD, SE, SF, SG, SI, Nat.reduceLT, Nat.reduceAdd, Nat.reduceSub, Nat.reduceMul, Nat.reduceLeDiff, Nat.reduceEqDiff, Nat.reduceBEq, Int.reduceToNat, Int.reduceLE, Int.reduceLT, Int.reduceEq, Int.reduceNeg, reduceCtorEq, ↓reduceIte, hb, z, hcond, ia, hl1]))))
      refine Round.go (n + 1) (by omega) ⟨by omega, fun _ => ?_, go (by rw [nameC, hl1, Bool.true_or])⟩ (by ((try simp only [List.replicate_succ, List.replicate_zero, List.cons_append, List.nil_append]); repeat' (first | exact trivial | refine ⟨.inl rfl, ?_⟩ | refine ⟨.inr rfl, ?_⟩ | refine ⟨.inr (by simp), ?_⟩))) (Drops.refl _)
      by_cases hz : n = 0
      · rw [← hz]; exact hl1
      · exact h0 (by omega)
  · have hcond : decide ((n : Int) < s.length) = false := by simp; omega
    (repeat' (first | simp -dsimp (maxSteps := 2000000) (disch := first | omega | (simp; done) | (simp; omega)) only [SA, SB, SC, SD, SE, SF, SG, SI, Nat.reduceLT, Nat.reduceAdd, Nat.reduceSub, Nat.reduceMul, Nat.reduceLeDiff, Nat.reduceEqDiff, Nat.reduceBEq, Int.reduceToNat, Int.reduceLE, Int.reduceLT, Int.reduceEq, Int.reduceNeg, reduceCtorEq, ↓reduceIte, z, hcond] | refine Cut.go ?_ | refine Both.intro ?_ ?_ | (refine Br.intro ?_ ?_ <;> intro hb <;> have hb' := hb <;> (try simp only [SH] at hb') <;> (try simp -dsimp (maxSteps := 2000000) (disch := first | omega | (simp; done) | (simp; omega)) only [SA, SB, SC, SD, SE, SF, SG, SI, Nat.reduceLT, Nat.reduceAdd, Nat.reduceSub, Nat.reduceMul, Nat.reduceLeDiff, Nat.reduceEqDiff, Nat.reduceBEq, Int.reduceToNat, Int.reduceLE, Int.reduceLT, Int.reduceEq, Int.reduceNeg, reduceCtorEq, ↓reduceIte, hb, z, hcond]))))
    refine fin (fun h => ?_) fun _ h => absurd h hn
    have : s = [] := List.length_eq_zero_iff.1 (by omega)
    subst this; rfl
theorem name8x (s : List UInt8) (σ : St) : Ok Tryz.prog 8 [.str s] σ (fun o s' => o = .ret (.bool (nameB s)) ∧ s' = σ) := by
  apply en8
  simp -dsimp (maxSteps := 2000000) (disch := first | omega | (simp; done) | (simp; omega)) only [SA, SB, SC, SD, SE, SF, SG, SI, Nat.reduceLT, Nat.reduceAdd, Nat.reduceSub, Nat.reduceMul, Nat.reduceLeDiff, Nat.reduceEqDiff, Nat.reduceBEq, Int.reduceToNat, Int.reduceLE, Int.reduceLT, Int.reduceEq, Int.reduceNeg, reduceCtorEq, ↓reduceIte, ic8, List.replicate_succ, List.replicate_zero]
  by_cases hs : s.length ≤ 64
  · (repeat' (first | simp -dsimp (maxSteps := 2000000) (disch := first | omega | (simp; done) | (simp; omega)) only [SA, SB, SC, SD, SE, SF, SG, SI, Nat.reduceLT, Nat.reduceAdd, Nat.reduceSub, Nat.reduceMul, Nat.reduceLeDiff, Nat.reduceEqDiff, Nat.reduceBEq, Int.reduceToNat, Int.reduceLE, Int.reduceLT, Int.reduceEq, Int.reduceNeg, reduceCtorEq, ↓reduceIte] | refine Cut.go ?_ | refine Both.intro ?_ ?_ | refine via gd22 (nameAt22x _ (by omega) _) ?_ | (refine Br.intro ?_ ?_ <;> intro hb <;> have hb' := hb <;> (try simp only [SH] at hb') <;> (try simp -dsimp (maxSteps := 2000000) (disch := first | omega | (simp; done) | (simp; omega)) only [SA, SB, SC, SD, SE, SF, SG, SI, Nat.reduceLT, Nat.reduceAdd, Nat.reduceSub, Nat.reduceMul, Nat.reduceLeDiff, Nat.reduceEqDiff, Nat.reduceBEq, Int.reduceToNat, Int.reduceLE, Int.reduceLT, Int.reduceEq, Int.reduceNeg, reduceCtorEq, ↓reduceIte, hb]))))
    all_goals (unfold nameB; refine obool ?_; simp only [beq_iff_eq, Bool.false_eq_true, false_iff, decide_eq_true_eq]; omega)
  · have hcond : decide ((s.length : Int) ≤ 64) = false := by simp; omega
    (repeat' (first | simp -dsimp (maxSteps := 2000000) (disch := first | omega | (simp; done) | (simp; omega)) only [SA, SB, SC, SD, SE, SF, SG, SI, Nat.reduceLT, Nat.reduceAdd, Nat.reduceSub, Nat.reduceMul, Nat.reduceLeDiff, Nat.reduceEqDiff, Nat.reduceBEq, Int.reduceToNat, Int.reduceLE, Int.reduceLT, Int.reduceEq, Int.reduceNeg, reduceCtorEq, ↓reduceIte, hcond] | refine Cut.go ?_ | refine Both.intro ?_ ?_ | (refine Br.intro ?_ ?_ <;> intro hb <;> have hb' := hb <;> (try simp only [SH] at hb') <;> (try simp -dsimp (maxSteps := 2000000) (disch := first | omega | (simp; done) | (simp; omega)) only [SA, SB, SC, SD, SE, SF, SG, SI, Nat.reduceLT, Nat.reduceAdd, Nat.reduceSub, Nat.reduceMul, Nat.reduceLeDiff, Nat.reduceEqDiff, Nat.reduceBEq, Int.reduceToNat, Int.reduceLE, Int.reduceLT, Int.reduceEq, Int.reduceNeg, reduceCtorEq, ↓reduceIte, hb, hcond]))))
    all_goals (unfold nameB; refine obool ?_; simp only [Bool.false_eq_true, false_iff]; omega)

/-! Comparing. -/
def cb (a b : List UInt8) : Int := Lib.compareBytes a b
theorem cmpD_eq (a b : List UInt8) : cmpD a b = .int .i64 (cb a b) := by rw [cmpD, Lib.cmp_eq]; simp [cb]
theorem cmpx_ext {a b : List UInt8} {σ : St} {K : D → St → Prop} (hk : K (.int .i64 (cb a b)) σ) : ExtOk Tryz.prog 77 [.str a, .str b] σ K := (ext_cmp a b σ).mono fun d s ⟨h1, h2⟩ => by subst h1; subst h2; rw [cmpD_eq]; exact hk
theorem cmp64x (a b : List UInt8) (σ : St) : Ok Tryz.prog 64 [.str a, .str b] σ (fun o s' => o = .ret (.int .i64 (cb a b)) ∧ s' = σ) := by
  apply en64
  simp -dsimp (maxSteps := 2000000) (disch := first | omega | (simp; done) | (simp; omega)) only [SA, SB, SC, SD, SE, SF, SG, SI, Nat.reduceLT, Nat.reduceAdd, Nat.reduceSub, Nat.reduceMul, Nat.reduceLeDiff, Nat.reduceEqDiff, Nat.reduceBEq, Int.reduceToNat, Int.reduceLE, Int.reduceLT, Int.reduceEq, Int.reduceNeg, reduceCtorEq, ↓reduceIte, ic64, List.replicate_succ, List.replicate_zero]
  (repeat' (first | simp -dsimp (maxSteps := 2000000) (disch := first | omega | (simp; done) | (simp; omega)) only [SA, SB, SC, SD, SE, SF, SG, SI, Nat.reduceLT, Nat.reduceAdd, Nat.reduceSub, Nat.reduceMul, Nat.reduceLeDiff, Nat.reduceEqDiff, Nat.reduceBEq, Int.reduceToNat, Int.reduceLE, Int.reduceLT, Int.reduceEq, Int.reduceNeg, reduceCtorEq, ↓reduceIte] | refine Cut.go ?_ | refine Both.intro ?_ ?_ | refine cmpx_ext ?_ | (refine Br.intro ?_ ?_ <;> intro hb <;> have hb' := hb <;> (try simp only [SH] at hb') <;> (try simp -dsimp (maxSteps := 2000000) (disch := first | omega | (simp; done) | (simp; omega)) only [SA, SB, SC, SD, SE, SF, SG, SI, Nat.reduceLT, Nat.reduceAdd, Nat.reduceSub, Nat.reduceMul, Nat.reduceLeDiff, Nat.reduceEqDiff, Nat.reduceBEq, Int.reduceToNat, Int.reduceLE, Int.reduceLT, Int.reduceEq, Int.reduceNeg, reduceCtorEq, ↓reduceIte, hb]))))
theorem cmp46x (a b : List UInt8) (σ : St) : Ok Tryz.prog 46 [.str a, .str b] σ (fun o s' => o = .ret (.int .i64 (cb a b)) ∧ s' = σ) := by
  apply en46
  simp -dsimp (maxSteps := 2000000) (disch := first | omega | (simp; done) | (simp; omega)) only [SA, SB, SC, SD, SE, SF, SG, SI, Nat.reduceLT, Nat.reduceAdd, Nat.reduceSub, Nat.reduceMul, Nat.reduceLeDiff, Nat.reduceEqDiff, Nat.reduceBEq, Int.reduceToNat, Int.reduceLE, Int.reduceLT, Int.reduceEq, Int.reduceNeg, reduceCtorEq, ↓reduceIte, ic46, List.replicate_succ, List.replicate_zero]
  (repeat' (first | simp -dsimp (maxSteps := 2000000) (disch := first | omega | (simp; done) | (simp; omega)) only [SA, SB, SC, SD, SE, SF, SG, SI, Nat.reduceLT, Nat.reduceAdd, Nat.reduceSub, Nat.reduceMul, Nat.reduceLeDiff, Nat.reduceEqDiff, Nat.reduceBEq, Int.reduceToNat, Int.reduceLE, Int.reduceLT, Int.reduceEq, Int.reduceNeg, reduceCtorEq, ↓reduceIte] | refine Cut.go ?_ | refine Both.intro ?_ ?_ | refine via gd64 (cmp64x _ _ _) ?_ | (refine Br.intro ?_ ?_ <;> intro hb <;> have hb' := hb <;> (try simp only [SH] at hb') <;> (try simp -dsimp (maxSteps := 2000000) (disch := first | omega | (simp; done) | (simp; omega)) only [SA, SB, SC, SD, SE, SF, SG, SI, Nat.reduceLT, Nat.reduceAdd, Nat.reduceSub, Nat.reduceMul, Nat.reduceLeDiff, Nat.reduceEqDiff, Nat.reduceBEq, Int.reduceToNat, Int.reduceLE, Int.reduceLT, Int.reduceEq, Int.reduceNeg, reduceCtorEq, ↓reduceIte, hb]))))
theorem cmp45x (a b c : List UInt8) (σ : St) : Ok Tryz.prog 45 [.agg [.str a, .str b], .str c] σ (fun o s' => (∃ m, σ.next ≤ m ∧ s' = ⟨σ.obj, m⟩) ∧ o = .ret (.int .i64 (cb a c))) := by
  refine Ok.fresh fun hf => Ok.drop ?_
  apply en45
  simp -dsimp (maxSteps := 2000000) (disch := first | omega | (simp; done) | (simp; omega)) only [SA, SB, SC, SD, SE, SF, SG, SI, Nat.reduceLT, Nat.reduceAdd, Nat.reduceSub, Nat.reduceMul, Nat.reduceLeDiff, Nat.reduceEqDiff, Nat.reduceBEq, Int.reduceToNat, Int.reduceLE, Int.reduceLT, Int.reduceEq, Int.reduceNeg, reduceCtorEq, ↓reduceIte, ic45, List.replicate_succ, List.replicate_zero]
  (repeat' (first | simp -dsimp (maxSteps := 2000000) (disch := first | omega | (simp; done) | (simp; omega)) only [SA, SB, SC, SD, SE, SF, SG, SI, Nat.reduceLT, Nat.reduceAdd, Nat.reduceSub, Nat.reduceMul, Nat.reduceLeDiff, Nat.reduceEqDiff, Nat.reduceBEq, Int.reduceToNat, Int.reduceLE, Int.reduceLT, Int.reduceEq, Int.reduceNeg, reduceCtorEq, ↓reduceIte] | refine Cut.go ?_ | refine Both.intro ?_ ?_ | refine via gd46 (cmp46x _ _ _) ?_ | (refine Br.intro ?_ ?_ <;> intro hb <;> have hb' := hb <;> (try simp only [SH] at hb') <;> (try simp -dsimp (maxSteps := 2000000) (disch := first | omega | (simp; done) | (simp; omega)) only [SA, SB, SC, SD, SE, SF, SG, SI, Nat.reduceLT, Nat.reduceAdd, Nat.reduceSub, Nat.reduceMul, Nat.reduceLeDiff, Nat.reduceEqDiff, Nat.reduceBEq, Int.reduceToNat, Int.reduceLE, Int.reduceLT, Int.reduceEq, Int.reduceNeg, reduceCtorEq, ↓reduceIte, hb]))))
  exact ⟨_, drops_old hf (fun i hi => by rw [alloc_obj, if_neg (by omega)]), _, by rw [alloc_next]; omega, rfl⟩
theorem cb_refl : ∀ a, cb a a = 0
  | [] => rfl
  | x :: a => by
    have := cb_refl a
    have hlt : ¬ x < x := UInt8.lt_irrefl x
    unfold cb at this ⊢
    unfold Lib.compareBytes
    simp only [hlt, if_false, this]
theorem cb_zero : ∀ a b, cb a b = 0 → a = b
  | [], [], _ => rfl
  | [], _ :: _, h => by cases h
  | _ :: _, [], h => by cases h
  | x :: a, y :: b, h => by
    unfold cb at h
    unfold Lib.compareBytes at h
    split at h
    · cases h
    split at h
    · cases h
    rename_i h1 h2
    have : x = y := UInt8.le_antisymm (UInt8.not_lt.1 h2) (UInt8.not_lt.1 h1)
    subst this
    rw [cb_zero a b h]
theorem cb_range : ∀ a b, cb a b = -1 ∨ cb a b = 0 ∨ cb a b = 1
  | [], [] => .inr (.inl rfl)
  | [], _ :: _ => .inl rfl
  | _ :: _, [] => .inr (.inr rfl)
  | x :: a, y :: b => by
    have := cb_range a b
    unfold cb at this ⊢
    unfold Lib.compareBytes
    split
    · exact .inl rfl
    split
    · exact .inr (.inr rfl)
    · exact this
theorem cb_neg : ∀ a b, cb a b = - cb b a
  | [], [] => rfl
  | [], _ :: _ => rfl
  | _ :: _, [] => rfl
  | x :: a, y :: b => by
    have := cb_neg a b
    unfold cb at this ⊢
    unfold Lib.compareBytes
    by_cases h1 : x < y
    · have h2 : ¬ y < x := UInt8.not_lt.2 (UInt8.le_of_lt h1)
      simp [h1, h2]
    · by_cases h2 : y < x
      · simp [h1, h2]
      · simp only [h1, h2, if_false, this]
theorem cb_trans : ∀ a b c, cb a b < 0 → cb b c ≤ 0 → cb a c < 0
  | [], [], c, h, _ => by cases h
  | [], _ :: _, [], _, h => by simp [cb, Lib.compareBytes] at h
  | [], _ :: _, _ :: _, _, _ => by simp [cb, Lib.compareBytes]
  | _ :: _, [], _, h, _ => by simp [cb, Lib.compareBytes] at h
  | _ :: _, _ :: _, [], _, h => by simp [cb, Lib.compareBytes] at h
  | x :: a, y :: b, z :: c, h1, h2 => by
    have ih := cb_trans a b c
    unfold cb at h1 h2 ih ⊢
    unfold Lib.compareBytes at h1 h2 ⊢
    by_cases a1 : x < y
    · by_cases a2 : y < z
      · have : x < z := UInt8.lt_trans a1 a2
        simp [this]
      · by_cases a3 : z < y
        · simp [a2, a3] at h2
        · have : y = z := UInt8.le_antisymm (UInt8.not_lt.1 a3) (UInt8.not_lt.1 a2)
          subst this
          simp [a1]
    · by_cases a4 : y < x
      · simp [a1, a4] at h1
      · have : x = y := UInt8.le_antisymm (UInt8.not_lt.1 a4) (UInt8.not_lt.1 a1)
        subst this
        by_cases a2 : x < z
        · simp [a2]
        · by_cases a3 : z < x
          · simp [a2, a3] at h2
          · simp only [a1, a4, a2, a3, if_false] at h1 h2 ⊢
            exact ih h1 h2
end Go.Proofs.YthiidchbaicfgaaGreatDoor
