/-
  THE WALKS, layer 13, PART 33: the document's table is made, exactly.
-/
import Derived.Test.YthiidchbaicfgaaGreatDoorYB
namespace Go.Proofs.YthiidchbaicfgaaGreatDoor
open Go Go.Id
set_option linter.unusedSimpArgs false
set_option linter.unusedVariables false
set_option maxRecDepth 100000
set_option maxHeartbeats 8000000

theorem setArgs41x {x y z a : D} {ag : List (List UInt8)} (sx : scal x = true) (sy : scal y = true) (sz : scal z = true) (ha : Strs a ag) (hal : ag.length ≤ 1000000) (σ : St) :
    Pure 41 [.agg [x, y, z], a] σ fun o => o = .ret (.tuple [.agg [x, if argsB ag then a else y, z], .int .i64 (if argsB ag then 0 else 2)]) := by
  refine Ok.fresh fun hf => Ok.drop ?_
  have sa := ha.scal
  have hla := ha.len
  have hd : dcells (.agg [x, y, z]) = some [x, y, z] := by simp [dcells, sx, sy, sz]
  have hd2 : dcells (.agg [x, a, z]) = some [x, a, z] := dcells3 sx sa sz
  have da := dcells_sc sa
  have w1 : (σ.next + 1 = σ.next) = False := by simp
  have w2 : (σ.next = σ.next + 1) = False := by simp
  apply en41
  simp -dsimp (maxSteps := 2000000) (disch := first | omega | (simp; done) | (simp; omega)) only [SA, SB, SC, SD, SE, SF, SG, SI, Nat.reduceLT, Nat.reduceAdd, Nat.reduceSub, Nat.reduceMul, Nat.reduceLeDiff, Nat.reduceEqDiff, Nat.reduceBEq, Int.reduceToNat, Int.reduceLE, Int.reduceLT, Int.reduceEq, Int.reduceNeg, reduceCtorEq, ↓reduceIte, ic41, List.replicate_succ, List.replicate_zero]
  have low1 : ∀ (c : List D), ∀ i, i < σ.next → ((((σ.alloc (.cells [x, y, z])).alloc (.cells [.nils, .nils, .int .i64 0])).put (σ.next + 1) (some (.cells c)))).obj i = σ.obj i := fun c i hi => by
    rw [put_obj, if_neg (by omega), two_obj, if_neg (by omega), if_neg (by omega)]
  have low2 : ∀ (c d : List D), ∀ i, i < σ.next → ((((σ.alloc (.cells [x, y, z])).alloc (.cells [.nils, .nils, .int .i64 0])).put σ.next (some (.cells d))).put (σ.next + 1) (some (.cells c))).obj i = σ.obj i := fun c d i hi => by
    rw [put_obj, if_neg (by omega), put_obj, if_neg (by omega), two_obj, if_neg (by omega), if_neg (by omega)]
  have fin1 : argsB ag = false → ∃ s', Drops (((σ.alloc (.cells [x, y, z])).alloc (.cells [.nils, .nils, .int .i64 0])).put (σ.next + 1) (some (.cells [x, y, z]))) s' ∧ (∃ m, σ.next ≤ m ∧ s' = ⟨σ.obj, m⟩) ∧ Out.ret (.tuple [.agg [x, y, z], .int .i64 2]) = .ret (.tuple [.agg [x, if argsB ag then a else y, z], .int .i64 (if argsB ag then 0 else 2)]) := fun h => by
    refine ⟨_, drops_old hf (low1 _), ⟨_, by show σ.next ≤ σ.next + 2; omega, rfl⟩, ?_⟩
    rw [h]; rfl
  by_cases h256 : ag.length ≤ 256
  · have hcond : decide ((ag.length : Int) > 256) = false := by simp; omega
    (repeat' (first | simp -dsimp (maxSteps := 2000000) (disch := first | omega | (simp; done) | (simp; omega)) only [SA, SB, SC, SD, SE, SF, SG, SI, Nat.reduceLT, Nat.reduceAdd, Nat.reduceSub, Nat.reduceMul, Nat.reduceLeDiff, Nat.reduceEqDiff, Nat.reduceBEq, Int.reduceToNat, Int.reduceLE, Int.reduceLT, Int.reduceEq, Int.reduceNeg, reduceCtorEq, ↓reduceIte, hd, hla, hcond] | refine Cut.go ?_ | refine Both.intro ?_ ?_ | (refine Br.intro ?_ ?_ <;> intro hb <;> have hb' := hb <;> (try simp only [SH] at hb') <;> (try simp -dsimp (maxSteps := 2000000) (disch := first | omega | (simp; done) | (simp; omega)) only [SA, SB, SC, SD, SE, SF, SG, SI, Nat.reduceLT, Nat.reduceAdd, Nat.reduceSub, Nat.reduceMul, Nat.reduceLeDiff, Nat.reduceEqDiff, Nat.reduceBEq, Int.reduceToNat, Int.reduceLE, Int.reduceLT, Int.reduceEq, Int.reduceNeg, reduceCtorEq, ↓reduceIte, hb, hd, hla, hcond]))))
    refine loop_go (α := Nat) (fun i => [.agg [x, y, z], a, .ref σ.next 0, .junk, .ref (σ.next + 1) 0, .int .i64 0, .int .i64 i] ++ List.replicate 20 .junk) (fun _ => (σ.alloc (.cells [x, y, z])).alloc (.cells [.nils, .nils, .int .i64 0])) (fun i => ag.length - i) (fun i => i ≤ ag.length ∧ tooLong (ag.take i) = false) 0 ⟨Nat.zero_le _, rfl⟩ (by ((try simp only [List.replicate_succ, List.replicate_zero, List.cons_append, List.nil_append]); repeat' (first | exact trivial | refine ⟨.inl rfl, ?_⟩ | refine ⟨.inr rfl, ?_⟩ | refine ⟨.inr (by simp), ?_⟩))) (Drops.refl _) ?_
    rintro i ⟨h1, h2⟩
    simp -dsimp (maxSteps := 2000000) (disch := first | omega | (simp; done) | (simp; omega)) only [SA, SB, SC, SD, SE, SF, SG, SI, Nat.reduceLT, Nat.reduceAdd, Nat.reduceSub, Nat.reduceMul, Nat.reduceLeDiff, Nat.reduceEqDiff, Nat.reduceBEq, Int.reduceToNat, Int.reduceLE, Int.reduceLT, Int.reduceEq, Int.reduceNeg, reduceCtorEq, ↓reduceIte, List.replicate_succ, List.replicate_zero]
    by_cases hi : i < ag.length
    · have hc2 : decide ((i : Int) < ag.length) = true := by simp; exact hi
      have ax := ha.at hi
      have lx : cellsAt [D.str ag[i]] 0 none = some (.str ag[i]) := rfl
      have ht' : tooLong (ag.take (i + 1)) = decide (4096 < (ag[i]).length) := by
        rw [List.take_succ_eq_append_getElem hi]
        have : tooLong (ag.take i ++ [ag[i]]) = (tooLong (ag.take i) || decide (4096 < (ag[i]).length)) := by
          simp only [tooLong, List.any_append, List.any_cons, List.any_nil, Bool.or_false]
        rw [this, h2, Bool.false_or]
      by_cases h4 : 4096 < (ag[i]).length
      · have hc3 : decide (((ag[i]).length : Int) > 4096) = true := by simp; omega
        have hno : argsB ag = false := by
          have : tooLong ag = true := by
            unfold tooLong
            rw [List.any_eq_true]
            exact ⟨ag[i], List.getElem_mem hi, by simpa using h4⟩
          rw [argsB, this]; simp
        have := fin1 hno
        (repeat' (first | simp -dsimp (maxSteps := 2000000) (disch := first | omega | (simp; done) | (simp; omega)) only [SA, SB, SC, SD, SE, SF, SG, SI, Nat.reduceLT, Nat.reduceAdd, Nat.reduceSub, Nat.reduceMul, Nat.reduceLeDiff, Nat.reduceEqDiff, Nat.reduceBEq, Int.reduceToNat, Int.reduceLE, Int.reduceLT, Int.reduceEq, Int.reduceNeg, reduceCtorEq, ↓reduceIte, hla, hc2, ax, lx, hc3, w1, w2, sx, sy, sz, hd] | refine Cut.go ?_ | refine Both.intro ?_ ?_ | (refine Br.intro ?_ ?_ <;> intro hb <;> have hb' := hb <;> (try simp only [SH] at hb') <;> (try simp -dsimp (maxSteps := 2000000) (disch := first | omega | (simp; done) | (simp; omega)) only [SA, SB, SC, SD, SE, SF, SG, SI, Nat.reduceLT, Nat.reduceAdd, Nat.reduceSub, Nat.reduceMul, Nat.reduceLeDiff, Nat.reduceEqDiff, Nat.reduceBEq, Int.reduceToNat, Int.reduceLE, Int.reduceLT, Int.reduceEq, Int.reduceNeg, reduceCtorEq, ↓reduceIte, hb, hla, hc2, ax, lx, hc3, w1, w2, sx, sy, sz, hd]))))
        obtain ⟨s', d1, d2, d3⟩ := this
        exact ⟨s', d1, d2, d3⟩
      · have hc3 : decide (((ag[i]).length : Int) > 4096) = false := by simp; omega
        (repeat' (first | simp -dsimp (maxSteps := 2000000) (disch := first | omega | (simp; done) | (simp; omega)) only [SA, SB, SC, SD, SE, SF, SG, SI, Nat.reduceLT, Nat.reduceAdd, Nat.reduceSub, Nat.reduceMul, Nat.reduceLeDiff, Nat.reduceEqDiff, Nat.reduceBEq, Int.reduceToNat, Int.reduceLE, Int.reduceLT, Int.reduceEq, Int.reduceNeg, reduceCtorEq, ↓reduceIte, hla, hc2, ax, lx, hc3] | refine Cut.go ?_ | refine Both.intro ?_ ?_ | (refine Br.intro ?_ ?_ <;> intro hb <;> have hb' := hb <;> (try simp only [SH] at hb') <;> (try simp -dsimp (maxSteps := 2000000) (disch := first | omega | (simp; done) | (simp; omega)) only [SA, SB, SC, SD, SE, SF, SG, SI, Nat.reduceLT, Nat.reduceAdd, Nat.reduceSub, Nat.reduceMul, Nat.reduceLeDiff, Nat.reduceEqDiff, Nat.reduceBEq, Int.reduceToNat, Int.reduceLE, Int.reduceLT, Int.reduceEq, Int.reduceNeg, reduceCtorEq, ↓reduceIte, hb, hla, hc2, ax, lx, hc3]))))
        exact Round.go (i + 1) (by omega) ⟨by omega, by rw [ht']; simpa using h4⟩ (by ((try simp only [List.replicate_succ, List.replicate_zero, List.cons_append, List.nil_append]); repeat' (first | exact trivial | refine ⟨.inl rfl, ?_⟩ | refine ⟨.inr rfl, ?_⟩ | refine ⟨.inr (by simp), ?_⟩))) (Drops.refl _)
    · have hc2 : decide ((i : Int) < ag.length) = false := by simp; omega
      have hok : argsB ag = true := by
        rw [List.take_of_length_le (by omega)] at h2
        rw [argsB, h2]; simpa using h256
      rw [hok]
      (repeat' (first | simp -dsimp (maxSteps := 2000000) (disch := first | omega | (simp; done) | (simp; omega)) only [SA, SB, SC, SD, SE, SF, SG, SI, Nat.reduceLT, Nat.reduceAdd, Nat.reduceSub, Nat.reduceMul, Nat.reduceLeDiff, Nat.reduceEqDiff, Nat.reduceBEq, Int.reduceToNat, Int.reduceLE, Int.reduceLT, Int.reduceEq, Int.reduceNeg, reduceCtorEq, ↓reduceIte, hla, hc2, w1, w2, sx, sa, sz, hd2, da] | refine Cut.go ?_ | refine Both.intro ?_ ?_ | (refine Br.intro ?_ ?_ <;> intro hb <;> have hb' := hb <;> (try simp only [SH] at hb') <;> (try simp -dsimp (maxSteps := 2000000) (disch := first | omega | (simp; done) | (simp; omega)) only [SA, SB, SC, SD, SE, SF, SG, SI, Nat.reduceLT, Nat.reduceAdd, Nat.reduceSub, Nat.reduceMul, Nat.reduceLeDiff, Nat.reduceEqDiff, Nat.reduceBEq, Int.reduceToNat, Int.reduceLE, Int.reduceLT, Int.reduceEq, Int.reduceNeg, reduceCtorEq, ↓reduceIte, hb, hla, hc2, w1, w2, sx, sa, sz, hd2, da]))))
      exact ⟨_, drops_old hf (low2 _ _), _, by show σ.next ≤ σ.next + 2; omega, rfl⟩
  · have hcond : decide ((ag.length : Int) > 256) = true := by simp; omega
    have hno : argsB ag = false := by rw [argsB]; simp; omega
    have := fin1 hno
    (repeat' (first | simp -dsimp (maxSteps := 2000000) (disch := first | omega | (simp; done) | (simp; omega)) only [SA, SB, SC, SD, SE, SF, SG, SI, Nat.reduceLT, Nat.reduceAdd, Nat.reduceSub, Nat.reduceMul, Nat.reduceLeDiff, Nat.reduceEqDiff, Nat.reduceBEq, Int.reduceToNat, Int.reduceLE, Int.reduceLT, Int.reduceEq, Int.reduceNeg, reduceCtorEq, ↓reduceIte, hd, hla, hcond, w1, w2, sx, sy, sz] | refine Cut.go ?_ | refine Both.intro ?_ ?_ | (refine Br.intro ?_ ?_ <;> intro hb <;> have hb' := hb <;> (try simp only [SH] at hb') <;> (try simp -dsimp (maxSteps := 2000000) (disch := first | omega | (simp; done) | (simp; omega)) only [SA, SB, SC, SD, SE, SF, SG, SI, Nat.reduceLT, Nat.reduceAdd, Nat.reduceSub, Nat.reduceMul, Nat.reduceLeDiff, Nat.reduceEqDiff, Nat.reduceBEq, Int.reduceToNat, Int.reduceLE, Int.reduceLT, Int.reduceEq, Int.reduceNeg, reduceCtorEq, ↓reduceIte, hb, hd, hla, hcond, w1, w2, sx, sy, sz]))))
    obtain ⟨s', d1, d2, d3⟩ := this
    exact ⟨s', d1, d2, d3⟩
end Go.Proofs.YthiidchbaicfgaaGreatDoor
