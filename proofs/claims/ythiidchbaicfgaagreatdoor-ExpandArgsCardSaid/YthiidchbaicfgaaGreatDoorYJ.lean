/-
  THE WALKS, layer 13, PART 39: the parameters in quotes.
-/
import Derived.Test.YthiidchbaicfgaaGreatDoorYI
namespace Go.Proofs.YthiidchbaicfgaaGreatDoor
open Go Go.Id
set_option linter.unusedSimpArgs false
set_option linter.unusedVariables false
set_option maxRecDepth 100000
set_option maxHeartbeats 8000000

theorem Exp.param_at {σ0 s : St} {j : Nat} {l : Vs} {y z : D} {ag : List (List UInt8)} (h : Exp σ0 j [] s) (hf : σ0.Fresh) (ht : TabAt σ0 j l y z) (hy : Strs y ag) (hl : ag.length ≤ 40) (hj2 : (jn [32] ag).length ≤ 1000000) {K : Out → St → Prop}
    (hk : ∀ s', Exp σ0 j (allA true ag) s' → K (.ret (.int .i64 0)) s') :
    goodFn Tryz.prog 67 = true ∧ Ok Tryz.prog 67 [.ref σ0.next 0, .agg (partD 2 true [64])] s K := by
  obtain ⟨tk, h1, _⟩ := h.ex
  have hnx := h.nxt
  have sh : scal theHost = true := rfl
  have hE : Exp σ0 j [] (s.alloc (.cells (partD 2 true [64]))) := h.grow (fun i hi => by rw [alloc_obj, if_neg (by omega)]) (by rw [alloc_next]; omega) (alloc_fresh h.fresh _)
  have hT : TabAt (s.alloc (.cells (partD 2 true [64]))) j l y z := ht.low hf hE.low (by have := hE.nxt; omega)
  have o1 : (s.alloc (.cells (partD 2 true [64]))).obj σ0.next = some (.cells [.ref j 0, theHost, lsA [] tk]) := by rw [alloc_obj, if_neg (by omega)]; exact h1
  have o2 : (s.alloc (.cells (partD 2 true [64]))).obj s.next = some (.cells [.int .i64 2, .bool true, .str [64], .str [], .nils]) := by rw [alloc_obj, if_pos rfl]; rfl
  have w1 : (σ0.next = s.next) = False := by simp; omega
  have e1 : (([64] : List UInt8) == [64]) = true := rfl
  refine ⟨gd67, ?_⟩
  unfold partD at *
  apply en67
  simp -dsimp (maxSteps := 2000000) (disch := first | omega | (simp; done) | (simp; omega)) only [SA, SB, SC, SD, SE, SF, SG, SI, Nat.reduceLT, Nat.reduceAdd, Nat.reduceSub, Nat.reduceMul, Nat.reduceLeDiff, Nat.reduceEqDiff, Nat.reduceBEq, Int.reduceToNat, Int.reduceLE, Int.reduceLT, Int.reduceEq, Int.reduceNeg, reduceCtorEq, ↓reduceIte, ic67, List.replicate_succ, List.replicate_zero]
  (repeat' (first | simp -dsimp (maxSteps := 2000000) (disch := first | omega | (simp; done) | (simp; omega)) only [SA, SB, SC, SD, SE, SF, SG, SI, Nat.reduceLT, Nat.reduceAdd, Nat.reduceSub, Nat.reduceMul, Nat.reduceLeDiff, Nat.reduceEqDiff, Nat.reduceBEq, Int.reduceToNat, Int.reduceLE, Int.reduceLT, Int.reduceEq, Int.reduceNeg, reduceCtorEq, ↓reduceIte, w1, h1] | refine Cut.go ?_ | refine Both.intro ?_ ?_ | (refine Br.intro ?_ ?_ <;> intro hb <;> have hb' := hb <;> (try simp only [SH] at hb') <;> (try simp -dsimp (maxSteps := 2000000) (disch := first | omega | (simp; done) | (simp; omega)) only [SA, SB, SC, SD, SE, SF, SG, SI, Nat.reduceLT, Nat.reduceAdd, Nat.reduceSub, Nat.reduceMul, Nat.reduceLeDiff, Nat.reduceEqDiff, Nat.reduceBEq, Int.reduceToNat, Int.reduceLE, Int.reduceLT, Int.reduceEq, Int.reduceNeg, reduceCtorEq, ↓reduceIte, hb, w1, h1]))))
  generalize hS : (s.alloc (.cells [.int .i64 2, .bool true, .str [64], .str [], .nils])) = S at *
  refine ⟨gd54, (get54s hT hy hl hj2 (.inl rfl)).mono fun o s' g => ?_⟩
  obtain ⟨⟨m, hm, rfl⟩, rfl⟩ := g
  have hE2 : Exp σ0 j [] ⟨S.obj, m⟩ := hE.grow (fun _ _ => rfl) hm fun i hi => hE.fresh i (Nat.le_trans hm hi)
  generalize decide ((ag.length : Int) > 0) = okb
  cases okb
  all_goals (repeat' (first | simp -dsimp (maxSteps := 2000000) (disch := first | omega | (simp; done) | (simp; omega)) only [SA, SB, SC, SD, SE, SF, SG, SI, Nat.reduceLT, Nat.reduceAdd, Nat.reduceSub, Nat.reduceMul, Nat.reduceLeDiff, Nat.reduceEqDiff, Nat.reduceBEq, Int.reduceToNat, Int.reduceLE, Int.reduceLT, Int.reduceEq, Int.reduceNeg, reduceCtorEq, ↓reduceIte, o1, o2, e1, op_a, op_b, op_c, op_d, op_e, op_f, op_g, op_h, op_i] | refine Cut.go ?_ | refine Both.intro ?_ ?_ | refine via gd80 (cutp80 _) ?_ | (refine Br.intro ?_ ?_ <;> intro hb <;> have hb' := hb <;> (try simp only [SH] at hb') <;> (try simp -dsimp (maxSteps := 2000000) (disch := first | omega | (simp; done) | (simp; omega)) only [SA, SB, SC, SD, SE, SF, SG, SI, Nat.reduceLT, Nat.reduceAdd, Nat.reduceSub, Nat.reduceMul, Nat.reduceLeDiff, Nat.reduceEqDiff, Nat.reduceBEq, Int.reduceToNat, Int.reduceLE, Int.reduceLT, Int.reduceEq, Int.reduceNeg, reduceCtorEq, ↓reduceIte, hb, o1, o2, e1, op_a, op_b, op_c, op_d, op_e, op_f, op_g, op_h, op_i]))))
  all_goals refine ⟨gd82, (args82 (σ := ⟨S.obj, m⟩) (hT.more hm) hy (by omega)).mono fun o s' g => ?_⟩
  all_goals obtain ⟨⟨m2, hm2, rfl⟩, y', hy', rfl⟩ := g
  all_goals have hE3 : Exp σ0 j [] ⟨S.obj, m2⟩ := hE2.grow (fun _ _ => rfl) hm2 fun i hi => hE2.fresh i (Nat.le_trans hm2 hi)
  all_goals (repeat' (first | simp -dsimp (maxSteps := 2000000) (disch := first | omega | (simp; done) | (simp; omega)) only [SA, SB, SC, SD, SE, SF, SG, SI, Nat.reduceLT, Nat.reduceAdd, Nat.reduceSub, Nat.reduceMul, Nat.reduceLeDiff, Nat.reduceEqDiff, Nat.reduceBEq, Int.reduceToNat, Int.reduceLE, Int.reduceLT, Int.reduceEq, Int.reduceNeg, reduceCtorEq, ↓reduceIte, o2] | refine Cut.go ?_ | refine Both.intro ?_ ?_ | (refine Br.intro ?_ ?_ <;> intro hb <;> have hb' := hb <;> (try simp only [SH] at hb') <;> (try simp -dsimp (maxSteps := 2000000) (disch := first | omega | (simp; done) | (simp; omega)) only [SA, SB, SC, SD, SE, SF, SG, SI, Nat.reduceLT, Nat.reduceAdd, Nat.reduceSub, Nat.reduceMul, Nat.reduceLeDiff, Nat.reduceEqDiff, Nat.reduceBEq, Int.reduceToNat, Int.reduceLE, Int.reduceLT, Int.reduceEq, Int.reduceNeg, reduceCtorEq, ↓reduceIte, hb, o2]))))
  all_goals refine hE3.all hy' (by omega) true fun s' h' => ?_
  all_goals (repeat' (first | simp -dsimp (maxSteps := 2000000) (disch := first | omega | (simp; done) | (simp; omega)) only [SA, SB, SC, SD, SE, SF, SG, SI, Nat.reduceLT, Nat.reduceAdd, Nat.reduceSub, Nat.reduceMul, Nat.reduceLeDiff, Nat.reduceEqDiff, Nat.reduceBEq, Int.reduceToNat, Int.reduceLE, Int.reduceLT, Int.reduceEq, Int.reduceNeg, reduceCtorEq, ↓reduceIte] | refine Cut.go ?_ | refine Both.intro ?_ ?_ | (refine Br.intro ?_ ?_ <;> intro hb <;> have hb' := hb <;> (try simp only [SH] at hb') <;> (try simp -dsimp (maxSteps := 2000000) (disch := first | omega | (simp; done) | (simp; omega)) only [SA, SB, SC, SD, SE, SF, SG, SI, Nat.reduceLT, Nat.reduceAdd, Nat.reduceSub, Nat.reduceMul, Nat.reduceLeDiff, Nat.reduceEqDiff, Nat.reduceBEq, Int.reduceToNat, Int.reduceLE, Int.reduceLT, Int.reduceEq, Int.reduceNeg, reduceCtorEq, ↓reduceIte, hb]))))
  all_goals exact hk s' h'
theorem Exp.param_star {σ0 s : St} {j : Nat} {l : Vs} {y z : D} {ag : List (List UInt8)} (h : Exp σ0 j [] s) (hf : σ0.Fresh) (ht : TabAt σ0 j l y z) (hy : Strs y ag) (hl : ag.length ≤ 40) (hj2 : (jn [32] ag).length ≤ 1000000) (hs : (sepOf l).length ≤ 1000000) (hj3 : (jn ((sepOf l).take 1) ag).length ≤ 1000000) {K : Out → St → Prop}
    (hk : ∀ s', Exp σ0 j [⟨jn ((sepOf l).take 1) ag, true, false, false⟩] s' → K (.ret (.int .i64 0)) s') :
    goodFn Tryz.prog 67 = true ∧ Ok Tryz.prog 67 [.ref σ0.next 0, .agg (partD 2 true [42])] s K := by
  obtain ⟨tk, h1, _⟩ := h.ex
  have hnx := h.nxt
  have sh : scal theHost = true := rfl
  have hE : Exp σ0 j [] (s.alloc (.cells (partD 2 true [42]))) := h.grow (fun i hi => by rw [alloc_obj, if_neg (by omega)]) (by rw [alloc_next]; omega) (alloc_fresh h.fresh _)
  have hT : TabAt (s.alloc (.cells (partD 2 true [42]))) j l y z := ht.low hf hE.low (by have := hE.nxt; omega)
  have o1 : (s.alloc (.cells (partD 2 true [42]))).obj σ0.next = some (.cells [.ref j 0, theHost, lsA [] tk]) := by rw [alloc_obj, if_neg (by omega)]; exact h1
  have o2 : (s.alloc (.cells (partD 2 true [42]))).obj s.next = some (.cells [.int .i64 2, .bool true, .str [42], .str [], .nils]) := by rw [alloc_obj, if_pos rfl]; rfl
  have w1 : (σ0.next = s.next) = False := by simp; omega
  have e1 : (([42] : List UInt8) == [64]) = false := rfl
  have e2 : (([42] : List UInt8) == [42]) = true := rfl
  refine ⟨gd67, ?_⟩
  unfold partD at *
  apply en67
  simp -dsimp (maxSteps := 2000000) (disch := first | omega | (simp; done) | (simp; omega)) only [SA, SB, SC, SD, SE, SF, SG, SI, Nat.reduceLT, Nat.reduceAdd, Nat.reduceSub, Nat.reduceMul, Nat.reduceLeDiff, Nat.reduceEqDiff, Nat.reduceBEq, Int.reduceToNat, Int.reduceLE, Int.reduceLT, Int.reduceEq, Int.reduceNeg, reduceCtorEq, ↓reduceIte, ic67, List.replicate_succ, List.replicate_zero]
  (repeat' (first | simp -dsimp (maxSteps := 2000000) (disch := first | omega | (simp; done) | (simp; omega)) only [SA, SB, SC, SD, SE, SF, SG, SI, Nat.reduceLT, Nat.reduceAdd, Nat.reduceSub, Nat.reduceMul, Nat.reduceLeDiff, Nat.reduceEqDiff, Nat.reduceBEq, Int.reduceToNat, Int.reduceLE, Int.reduceLT, Int.reduceEq, Int.reduceNeg, reduceCtorEq, ↓reduceIte, w1, h1] | refine Cut.go ?_ | refine Both.intro ?_ ?_ | (refine Br.intro ?_ ?_ <;> intro hb <;> have hb' := hb <;> (try simp only [SH] at hb') <;> (try simp -dsimp (maxSteps := 2000000) (disch := first | omega | (simp; done) | (simp; omega)) only [SA, SB, SC, SD, SE, SF, SG, SI, Nat.reduceLT, Nat.reduceAdd, Nat.reduceSub, Nat.reduceMul, Nat.reduceLeDiff, Nat.reduceEqDiff, Nat.reduceBEq, Int.reduceToNat, Int.reduceLE, Int.reduceLT, Int.reduceEq, Int.reduceNeg, reduceCtorEq, ↓reduceIte, hb, w1, h1]))))
  generalize hS : (s.alloc (.cells [.int .i64 2, .bool true, .str [42], .str [], .nils])) = S at *
  refine ⟨gd54, (get54s hT hy hl hj2 (.inr rfl)).mono fun o s' g => ?_⟩
  obtain ⟨⟨m, hm, rfl⟩, rfl⟩ := g
  have hE2 : Exp σ0 j [] ⟨S.obj, m⟩ := hE.grow (fun _ _ => rfl) hm fun i hi => hE.fresh i (Nat.le_trans hm hi)
  generalize decide ((ag.length : Int) > 0) = okb
  cases okb
  all_goals (repeat' (first | simp -dsimp (maxSteps := 2000000) (disch := first | omega | (simp; done) | (simp; omega)) only [SA, SB, SC, SD, SE, SF, SG, SI, Nat.reduceLT, Nat.reduceAdd, Nat.reduceSub, Nat.reduceMul, Nat.reduceLeDiff, Nat.reduceEqDiff, Nat.reduceBEq, Int.reduceToNat, Int.reduceLE, Int.reduceLT, Int.reduceEq, Int.reduceNeg, reduceCtorEq, ↓reduceIte, o1, o2, e1, e2, op_a, op_b, op_c, op_d, op_e, op_f, op_g, op_h, op_i] | refine Cut.go ?_ | refine Both.intro ?_ ?_ | refine via gd80 (cutp80 _) ?_ | (refine Br.intro ?_ ?_ <;> intro hb <;> have hb' := hb <;> (try simp only [SH] at hb') <;> (try simp -dsimp (maxSteps := 2000000) (disch := first | omega | (simp; done) | (simp; omega)) only [SA, SB, SC, SD, SE, SF, SG, SI, Nat.reduceLT, Nat.reduceAdd, Nat.reduceSub, Nat.reduceMul, Nat.reduceLeDiff, Nat.reduceEqDiff, Nat.reduceBEq, Int.reduceToNat, Int.reduceLE, Int.reduceLT, Int.reduceEq, Int.reduceNeg, reduceCtorEq, ↓reduceIte, hb, o1, o2, e1, e2, op_a, op_b, op_c, op_d, op_e, op_f, op_g, op_h, op_i]))))
  all_goals refine ⟨gd82, (args82 (σ := ⟨S.obj, m⟩) (hT.more hm) hy (by omega)).mono fun o s' g => ?_⟩
  all_goals obtain ⟨⟨m2, hm2, rfl⟩, y', hy', rfl⟩ := g
  all_goals simp only [] at hm2
  all_goals (repeat' (first | simp -dsimp (maxSteps := 2000000) (disch := first | omega | (simp; done) | (simp; omega)) only [SA, SB, SC, SD, SE, SF, SG, SI, Nat.reduceLT, Nat.reduceAdd, Nat.reduceSub, Nat.reduceMul, Nat.reduceLeDiff, Nat.reduceEqDiff, Nat.reduceBEq, Int.reduceToNat, Int.reduceLE, Int.reduceLT, Int.reduceEq, Int.reduceNeg, reduceCtorEq, ↓reduceIte, o1] | refine Cut.go ?_ | refine Both.intro ?_ ?_ | (refine Br.intro ?_ ?_ <;> intro hb <;> have hb' := hb <;> (try simp only [SH] at hb') <;> (try simp -dsimp (maxSteps := 2000000) (disch := first | omega | (simp; done) | (simp; omega)) only [SA, SB, SC, SD, SE, SF, SG, SI, Nat.reduceLT, Nat.reduceAdd, Nat.reduceSub, Nat.reduceMul, Nat.reduceLeDiff, Nat.reduceEqDiff, Nat.reduceBEq, Int.reduceToNat, Int.reduceLE, Int.reduceLT, Int.reduceEq, Int.reduceNeg, reduceCtorEq, ↓reduceIte, hb, o1]))))
  all_goals refine ⟨gd85, (first85 (σ := ⟨S.obj, m2⟩) (hT.more (Nat.le_trans hm hm2)) hs).mono fun o s' g => ?_⟩
  all_goals obtain ⟨⟨m3, hm3, rfl⟩, rfl⟩ := g
  all_goals simp only [] at hm3
  all_goals have hE3 : Exp σ0 j [] ⟨S.obj, m3⟩ := hE2.grow (fun _ _ => rfl) (Nat.le_trans hm2 hm3) fun i hi => hE2.fresh i (Nat.le_trans (Nat.le_trans hm2 hm3) hi)
  all_goals (repeat' (first | simp -dsimp (maxSteps := 2000000) (disch := first | omega | (simp; done) | (simp; omega)) only [SA, SB, SC, SD, SE, SF, SG, SI, Nat.reduceLT, Nat.reduceAdd, Nat.reduceSub, Nat.reduceMul, Nat.reduceLeDiff, Nat.reduceEqDiff, Nat.reduceBEq, Int.reduceToNat, Int.reduceLE, Int.reduceLT, Int.reduceEq, Int.reduceNeg, reduceCtorEq, ↓reduceIte] | refine Cut.go ?_ | refine Both.intro ?_ ?_ | refine via gd73 (join73 hy' _ (by omega) (by omega) _) ?_ | (refine Br.intro ?_ ?_ <;> intro hb <;> have hb' := hb <;> (try simp only [SH] at hb') <;> (try simp -dsimp (maxSteps := 2000000) (disch := first | omega | (simp; done) | (simp; omega)) only [SA, SB, SC, SD, SE, SF, SG, SI, Nat.reduceLT, Nat.reduceAdd, Nat.reduceSub, Nat.reduceMul, Nat.reduceLeDiff, Nat.reduceEqDiff, Nat.reduceBEq, Int.reduceToNat, Int.reduceLE, Int.reduceLT, Int.reduceEq, Int.reduceNeg, reduceCtorEq, ↓reduceIte, hb]))))
  all_goals refine hE3.put (by simp) _ true fun s' h' => ?_
  all_goals (repeat' (first | simp -dsimp (maxSteps := 2000000) (disch := first | omega | (simp; done) | (simp; omega)) only [SA, SB, SC, SD, SE, SF, SG, SI, Nat.reduceLT, Nat.reduceAdd, Nat.reduceSub, Nat.reduceMul, Nat.reduceLeDiff, Nat.reduceEqDiff, Nat.reduceBEq, Int.reduceToNat, Int.reduceLE, Int.reduceLT, Int.reduceEq, Int.reduceNeg, reduceCtorEq, ↓reduceIte] | refine Cut.go ?_ | refine Both.intro ?_ ?_ | (refine Br.intro ?_ ?_ <;> intro hb <;> have hb' := hb <;> (try simp only [SH] at hb') <;> (try simp -dsimp (maxSteps := 2000000) (disch := first | omega | (simp; done) | (simp; omega)) only [SA, SB, SC, SD, SE, SF, SG, SI, Nat.reduceLT, Nat.reduceAdd, Nat.reduceSub, Nat.reduceMul, Nat.reduceLeDiff, Nat.reduceEqDiff, Nat.reduceBEq, Int.reduceToNat, Int.reduceLE, Int.reduceLT, Int.reduceEq, Int.reduceNeg, reduceCtorEq, ↓reduceIte, hb]))))
  all_goals exact hk s' h'
/-- Atoms of a word of one parameter. -/
theorem Exp.parts_of {σ0 s : St} {j : Nat} {al : List Atm} (h : Exp σ0 j [] s) {n : List UInt8} {r : Room} (hP : ∀ s', Exp σ0 j [] s' → ∀ K : Out → St → Prop, (∀ s'', Exp σ0 j al s'' → K (.ret (.int .i64 0)) s'') → goodFn Tryz.prog 67 = true ∧ Ok Tryz.prog 67 [.ref σ0.next 0, .agg (partD 2 true n)] s' K) :
    Ok Tryz.prog 49 [.ref σ0.next 0, .slc 5 [.agg (partD 2 true n)] r, .bool false] s (PartsOut σ0 j al) := by
  have hx : ilen (.slc 5 [.agg (partD 2 true n)] r) = some (.int .i64 1) := rfl
  have i0 := part_at 2 true n r
  have l0 := part_load 2 true n
  have hnx := h.nxt
  apply en49
  simp -dsimp (maxSteps := 2000000) (disch := first | omega | (simp; done) | (simp; omega)) only [SA, SB, SC, SD, SE, SF, SG, SI, Nat.reduceLT, Nat.reduceAdd, Nat.reduceSub, Nat.reduceMul, Nat.reduceLeDiff, Nat.reduceEqDiff, Nat.reduceBEq, Int.reduceToNat, Int.reduceLE, Int.reduceLT, Int.reduceEq, Int.reduceNeg, reduceCtorEq, ↓reduceIte, ic49, List.replicate_succ, List.replicate_zero]
  (repeat' (first | simp -dsimp (maxSteps := 2000000) (disch := first | omega | (simp; done) | (simp; omega)) only [SA, SB, SC, SD, SE, SF, SG, SI, Nat.reduceLT, Nat.reduceAdd, Nat.reduceSub, Nat.reduceMul, Nat.reduceLeDiff, Nat.reduceEqDiff, Nat.reduceBEq, Int.reduceToNat, Int.reduceLE, Int.reduceLT, Int.reduceEq, Int.reduceNeg, reduceCtorEq, ↓reduceIte, hx] | refine Cut.go ?_ | refine Both.intro ?_ ?_ | (refine Br.intro ?_ ?_ <;> intro hb <;> have hb' := hb <;> (try simp only [SH] at hb') <;> (try simp -dsimp (maxSteps := 2000000) (disch := first | omega | (simp; done) | (simp; omega)) only [SA, SB, SC, SD, SE, SF, SG, SI, Nat.reduceLT, Nat.reduceAdd, Nat.reduceSub, Nat.reduceMul, Nat.reduceLeDiff, Nat.reduceEqDiff, Nat.reduceBEq, Int.reduceToNat, Int.reduceLE, Int.reduceLT, Int.reduceEq, Int.reduceNeg, reduceCtorEq, ↓reduceIte, hb, hx]))))
  refine loop_go (α := Nat × St) (fun a => [.ref σ0.next 0, .slc 5 [.agg (partD 2 true n)] r, .bool false, .junk, .junk, .junk, .int .i64 0, .junk, .junk, .junk, .junk, .slc 5 [.agg (partD 2 true n)] r, .int .i64 1, .int .i64 a.1] ++ List.replicate 71 .junk) (fun a => a.2) (fun a => 1 - a.1) (fun a => (a.1 = 0 ∧ a.2 = s) ∨ (a.1 = 1 ∧ Exp σ0 j al a.2)) (0, s) (.inl ⟨rfl, rfl⟩) (by ((try simp only [List.replicate_succ, List.replicate_zero, List.cons_append, List.nil_append]); repeat' (first | exact trivial | refine ⟨.inl rfl, ?_⟩ | refine ⟨.inr rfl, ?_⟩ | refine ⟨.inr (by simp), ?_⟩))) (Drops.refl _) ?_
  rintro ⟨i, u⟩ (⟨h1, h2⟩ | ⟨h1, h2⟩)
  · simp only [] at h1 h2
    subst h1; subst h2
    have z0 : decide (((0 : Nat) : Int) < 1) = true := rfl
    have z1 : (((0 : Nat) : Int) == 0) = true := rfl
    have i0' : idxAddrS 5 (.slc 5 [.agg (partD 2 true n)] r) (.int .i64 ((0 : Nat) : Int)) = some (.box (partD 2 true n) 0) := i0
    have z2 : ((2 : Int) == 1) = false := rfl
    have z3 : ((2 : Int) == 2) = true := rfl
    have z4 : ((0 : Int) != 0) = false := rfl
    have hE : Exp σ0 j [] ((u.alloc (.cells [.int .i64 0, .bool false, .str [], .str [], .nils])).put u.next (some (.cells (partD 2 true n)))) :=
      h.grow (fun i hi => by rw [put_obj, if_neg (by omega), alloc_obj, if_neg (by omega)]) (by show u.next ≤ u.next + 1; omega) (put_fresh (alloc_fresh h.fresh _) (by rw [alloc_next]; omega) _)
    have o2 : ((u.alloc (.cells [.int .i64 0, .bool false, .str [], .str [], .nils])).put u.next (some (.cells (partD 2 true n)))).obj u.next = some (.cells (partD 2 true n)) := by rw [put_obj, if_pos rfl]
    have dc := part_cells 2 true n
    simp -dsimp (maxSteps := 2000000) (disch := first | omega | (simp; done) | (simp; omega)) only [SA, SB, SC, SD, SE, SF, SG, SI, Nat.reduceLT, Nat.reduceAdd, Nat.reduceSub, Nat.reduceMul, Nat.reduceLeDiff, Nat.reduceEqDiff, Nat.reduceBEq, Int.reduceToNat, Int.reduceLE, Int.reduceLT, Int.reduceEq, Int.reduceNeg, reduceCtorEq, ↓reduceIte, List.replicate_succ, List.replicate_zero]
    (repeat' (first | simp -dsimp (maxSteps := 2000000) (disch := first | omega | (simp; done) | (simp; omega)) only [SA, SB, SC, SD, SE, SF, SG, SI, Nat.reduceLT, Nat.reduceAdd, Nat.reduceSub, Nat.reduceMul, Nat.reduceLeDiff, Nat.reduceEqDiff, Nat.reduceBEq, Int.reduceToNat, Int.reduceLE, Int.reduceLT, Int.reduceEq, Int.reduceNeg, reduceCtorEq, ↓reduceIte, z0, i0, i0', l0, dc, z1, part_set] | refine Cut.go ?_ | refine Both.intro ?_ ?_ | (refine Br.intro ?_ ?_ <;> intro hb <;> have hb' := hb <;> (try simp only [SH] at hb') <;> (try simp -dsimp (maxSteps := 2000000) (disch := first | omega | (simp; done) | (simp; omega)) only [SA, SB, SC, SD, SE, SF, SG, SI, Nat.reduceLT, Nat.reduceAdd, Nat.reduceSub, Nat.reduceMul, Nat.reduceLeDiff, Nat.reduceEqDiff, Nat.reduceBEq, Int.reduceToNat, Int.reduceLE, Int.reduceLT, Int.reduceEq, Int.reduceNeg, reduceCtorEq, ↓reduceIte, hb, z0, i0, i0', l0, dc, z1, part_set]))))
    generalize hS : ((u.alloc (.cells [.int .i64 0, .bool false, .str [], .str [], .nils])).put u.next (some (.cells (partD 2 true n)))) = S at *
    refine ⟨gd66, (tilde66 (.inl (by decide)) S).mono fun o s' g => ?_⟩
    obtain ⟨⟨m, hm, rfl⟩, rfl⟩ := g
    have hE2 : Exp σ0 j [] ⟨S.obj, m⟩ := hE.grow (fun _ _ => rfl) hm fun i hi => hE.fresh i (Nat.le_trans hm hi)
    (repeat' (first | simp -dsimp (maxSteps := 2000000) (disch := first | omega | (simp; done) | (simp; omega)) only [SA, SB, SC, SD, SE, SF, SG, SI, Nat.reduceLT, Nat.reduceAdd, Nat.reduceSub, Nat.reduceMul, Nat.reduceLeDiff, Nat.reduceEqDiff, Nat.reduceBEq, Int.reduceToNat, Int.reduceLE, Int.reduceLT, Int.reduceEq, Int.reduceNeg, reduceCtorEq, ↓reduceIte, o2, part_k, l0, z2, z3] | refine Cut.go ?_ | refine Both.intro ?_ ?_ | (refine Br.intro ?_ ?_ <;> intro hb <;> have hb' := hb <;> (try simp only [SH] at hb') <;> (try simp -dsimp (maxSteps := 2000000) (disch := first | omega | (simp; done) | (simp; omega)) only [SA, SB, SC, SD, SE, SF, SG, SI, Nat.reduceLT, Nat.reduceAdd, Nat.reduceSub, Nat.reduceMul, Nat.reduceLeDiff, Nat.reduceEqDiff, Nat.reduceBEq, Int.reduceToNat, Int.reduceLE, Int.reduceLT, Int.reduceEq, Int.reduceNeg, reduceCtorEq, ↓reduceIte, hb, o2, part_k, l0, z2, z3]))))
    refine hP _ hE2 _ fun s' h' => ?_
    (repeat' (first | simp -dsimp (maxSteps := 2000000) (disch := first | omega | (simp; done) | (simp; omega)) only [SA, SB, SC, SD, SE, SF, SG, SI, Nat.reduceLT, Nat.reduceAdd, Nat.reduceSub, Nat.reduceMul, Nat.reduceLeDiff, Nat.reduceEqDiff, Nat.reduceBEq, Int.reduceToNat, Int.reduceLE, Int.reduceLT, Int.reduceEq, Int.reduceNeg, reduceCtorEq, ↓reduceIte, z4] | refine Cut.go ?_ | refine Both.intro ?_ ?_ | (refine Br.intro ?_ ?_ <;> intro hb <;> have hb' := hb <;> (try simp only [SH] at hb') <;> (try simp -dsimp (maxSteps := 2000000) (disch := first | omega | (simp; done) | (simp; omega)) only [SA, SB, SC, SD, SE, SF, SG, SI, Nat.reduceLT, Nat.reduceAdd, Nat.reduceSub, Nat.reduceMul, Nat.reduceLeDiff, Nat.reduceEqDiff, Nat.reduceBEq, Int.reduceToNat, Int.reduceLE, Int.reduceLT, Int.reduceEq, Int.reduceNeg, reduceCtorEq, ↓reduceIte, hb, z4]))))
    exact Round.go (1, s') (by simp) (.inr ⟨rfl, h'⟩) (by ((try simp only [List.replicate_succ, List.replicate_zero, List.cons_append, List.nil_append]); repeat' (first | exact trivial | refine ⟨.inl rfl, ?_⟩ | refine ⟨.inr rfl, ?_⟩ | refine ⟨.inr (by simp), ?_⟩))) (Drops.refl _)
  · simp only [] at h1 h2
    subst h1
    have z0 : decide (((1 : Nat) : Int) < 1) = false := rfl
    simp -dsimp (maxSteps := 2000000) (disch := first | omega | (simp; done) | (simp; omega)) only [SA, SB, SC, SD, SE, SF, SG, SI, Nat.reduceLT, Nat.reduceAdd, Nat.reduceSub, Nat.reduceMul, Nat.reduceLeDiff, Nat.reduceEqDiff, Nat.reduceBEq, Int.reduceToNat, Int.reduceLE, Int.reduceLT, Int.reduceEq, Int.reduceNeg, reduceCtorEq, ↓reduceIte, List.replicate_succ, List.replicate_zero]
    (repeat' (first | simp -dsimp (maxSteps := 2000000) (disch := first | omega | (simp; done) | (simp; omega)) only [SA, SB, SC, SD, SE, SF, SG, SI, Nat.reduceLT, Nat.reduceAdd, Nat.reduceSub, Nat.reduceMul, Nat.reduceLeDiff, Nat.reduceEqDiff, Nat.reduceBEq, Int.reduceToNat, Int.reduceLE, Int.reduceLT, Int.reduceEq, Int.reduceNeg, reduceCtorEq, ↓reduceIte, z0] | refine Cut.go ?_ | refine Both.intro ?_ ?_ | (refine Br.intro ?_ ?_ <;> intro hb <;> have hb' := hb <;> (try simp only [SH] at hb') <;> (try simp -dsimp (maxSteps := 2000000) (disch := first | omega | (simp; done) | (simp; omega)) only [SA, SB, SC, SD, SE, SF, SG, SI, Nat.reduceLT, Nat.reduceAdd, Nat.reduceSub, Nat.reduceMul, Nat.reduceLeDiff, Nat.reduceEqDiff, Nat.reduceBEq, Int.reduceToNat, Int.reduceLE, Int.reduceLT, Int.reduceEq, Int.reduceNeg, reduceCtorEq, ↓reduceIte, hb, z0]))))
    exact ⟨rfl, h2⟩
end Go.Proofs.YthiidchbaicfgaaGreatDoor
