/-
  THE WALKS, layer 13, PART 36: a pattern of a variable in quotes.
-/
import Derived.Test.YthiidchbaicfgaaGreatDoorYE
namespace Go.Proofs.YthiidchbaicfgaaGreatDoor
open Go Go.Id
set_option linter.unusedSimpArgs false
set_option linter.unusedVariables false
set_option maxRecDepth 100000
set_option maxHeartbeats 8000000

theorem metaI (c : UInt8) : (decide ((c.toNat : Int) = 42 ∨ (c.toNat : Int) = 63 ∨ (c.toNat : Int) = 91 ∨ (c.toNat : Int) = 93 ∨ (c.toNat : Int) = 33 ∨ (c.toNat : Int) = 45 ∨ (c.toNat : Int) = 92)) = isMeta c := by
  rw [Bool.eq_iff_iff]
  simp only [decide_eq_true_eq, isMeta, List.contains_cons, List.contains_nil, Bool.or_eq_true, beq_iff_eq, ← UInt8.toNat_inj, Bool.or_false]
  have e1 : (42 : UInt8).toNat = 42 := rfl
  have e2 : (63 : UInt8).toNat = 63 := rfl
  have e3 : (91 : UInt8).toNat = 91 := rfl
  have e4 : (93 : UInt8).toNat = 93 := rfl
  have e5 : (33 : UInt8).toNat = 33 := rfl
  have e6 : (45 : UInt8).toNat = 45 := rfl
  have e7 : (92 : UInt8).toNat = 92 := rfl
  omega
theorem quoteB_take (s : List UInt8) (i : Nat) (hi : i < s.length) : quoteB (s.take (i + 1)) = quoteB (s.take i) ++ (if isMeta (s.getD i 0) then [92, s.getD i 0] else [s.getD i 0]) := by
  rw [take_step s i hi, quoteB_app]; simp [quoteB]
theorem quote14 (s : List UInt8) (hs : s.length ≤ 1000000) (σ : St) : Ok Tryz.prog 14 [.str s] σ (fun o t => o = .ret (.str (quoteB s)) ∧ t = σ) := by
  apply en14
  simp -dsimp (maxSteps := 2000000) (disch := first | omega | (simp; done) | (simp; omega)) only [SA, SB, SC, SD, SE, SF, SG, SI, Nat.reduceLT, Nat.reduceAdd, Nat.reduceSub, Nat.reduceMul, Nat.reduceLeDiff, Nat.reduceEqDiff, Nat.reduceBEq, Int.reduceToNat, Int.reduceLE, Int.reduceLT, Int.reduceEq, Int.reduceNeg, reduceCtorEq, ↓reduceIte, ic14, List.replicate_succ, List.replicate_zero]
  (repeat' (first | simp -dsimp (maxSteps := 2000000) (disch := first | omega | (simp; done) | (simp; omega)) only [SA, SB, SC, SD, SE, SF, SG, SI, Nat.reduceLT, Nat.reduceAdd, Nat.reduceSub, Nat.reduceMul, Nat.reduceLeDiff, Nat.reduceEqDiff, Nat.reduceBEq, Int.reduceToNat, Int.reduceLE, Int.reduceLT, Int.reduceEq, Int.reduceNeg, reduceCtorEq, ↓reduceIte] | refine Cut.go ?_ | refine Both.intro ?_ ?_ | (refine Br.intro ?_ ?_ <;> intro hb <;> have hb' := hb <;> (try simp only [SH] at hb') <;> (try simp -dsimp (maxSteps := 2000000) (disch := first | omega | (simp; done) | (simp; omega)) only [SA, SB, SC, SD, SE, SF, SG, SI, Nat.reduceLT, Nat.reduceAdd, Nat.reduceSub, Nat.reduceMul, Nat.reduceLeDiff, Nat.reduceEqDiff, Nat.reduceBEq, Int.reduceToNat, Int.reduceLE, Int.reduceLT, Int.reduceEq, Int.reduceNeg, reduceCtorEq, ↓reduceIte, hb]))))
  refine loop_go (fun i : Nat => [.str s, .junk, .str [], .str (quoteB (s.take i)), .int .i64 i] ++ List.replicate 46 .junk) (fun _ => σ) (fun i => s.length - i) (fun i => i ≤ s.length) 0 (Nat.zero_le _) (by ((try simp only [List.replicate_succ, List.replicate_zero, List.cons_append, List.nil_append]); repeat' (first | exact trivial | refine ⟨.inl rfl, ?_⟩ | refine ⟨.inr rfl, ?_⟩ | refine ⟨.inr (by simp), ?_⟩))) (Drops.refl _) ?_
  intro i h1
  have hq : (quoteB (s.take i)).length ≤ 2000000 := by
    have := quoteB_len (s.take i)
    have : (s.take i).length ≤ s.length := by simp; omega
    omega
  simp -dsimp (maxSteps := 2000000) (disch := first | omega | (simp; done) | (simp; omega)) only [SA, SB, SC, SD, SE, SF, SG, SI, Nat.reduceLT, Nat.reduceAdd, Nat.reduceSub, Nat.reduceMul, Nat.reduceLeDiff, Nat.reduceEqDiff, Nat.reduceBEq, Int.reduceToNat, Int.reduceLE, Int.reduceLT, Int.reduceEq, Int.reduceNeg, reduceCtorEq, ↓reduceIte, List.replicate_succ, List.replicate_zero]
  by_cases hi : i < s.length
  · have hcond : decide ((i : Int) < s.length) = true := by simp; exact hi
    have ia := idx_at s i hi
    have hT := quoteB_take s i hi
    have bs : List.take (((i : Int) + 1).toNat - i) (List.drop i s) = [s.getD i 0] := by
      rw [show ((i : Int) + 1).toNat - i = 1 by omega, List.drop_eq_getElem_cons hi, List.getD_eq_getElem?_getD, List.getElem?_eq_getElem hi]; rfl
    have hM := metaI (s.getD i 0)
    generalize s.getD i 0 = c at *
    (repeat' (first | simp -dsimp (maxSteps := 2000000) (disch := first | omega | (simp; done) | (simp; omega)) only [SA, SB, SC, SD, SE, SF, SG, SI, Nat.reduceLT, Nat.reduceAdd, Nat.reduceSub, Nat.reduceMul, Nat.reduceLeDiff, Nat.reduceEqDiff, Nat.reduceBEq, Int.reduceToNat, Int.reduceLE, Int.reduceLT, Int.reduceEq, Int.reduceNeg, reduceCtorEq, ↓reduceIte, hcond, ia, bs] | refine Cut.go ?_ | refine Both.intro ?_ ?_ | (refine Br.intro ?_ ?_ <;> intro hb <;> have hb' := hb <;> (try simp only [SH] at hb') <;> (try simp -dsimp (maxSteps := 2000000) (disch := first | omega | (simp; done) | (simp; omega)) only [SA, SB, SC, SD, SE, SF, SG, SI, Nat.reduceLT, Nat.reduceAdd, Nat.reduceSub, Nat.reduceMul, Nat.reduceLeDiff, Nat.reduceEqDiff, Nat.reduceBEq, Int.reduceToNat, Int.reduceLE, Int.reduceLT, Int.reduceEq, Int.reduceNeg, reduceCtorEq, ↓reduceIte, hb, hcond, ia, bs]))))
    all_goals first
      | (have hm : isMeta c = true := by
           rw [← hM, decide_eq_true_eq]; omega
         have h2 : quoteB (s.take (i + 1)) = quoteB (s.take i) ++ [92] ++ [c] := by rw [hT, hm]; simp
         refine Round.go (i + 1) (by omega) (by omega) ?_ (Drops.refl _)
         rw [h2]
         ((try simp only [List.replicate_succ, List.replicate_zero, List.cons_append, List.nil_append]); repeat' (first | exact trivial | refine ⟨.inl rfl, ?_⟩ | refine ⟨.inr rfl, ?_⟩ | refine ⟨.inr (by simp), ?_⟩)))
      | (have hm : isMeta c = false := by
           rw [← hM, decide_eq_false_iff_not]; omega
         have h2 : quoteB (s.take (i + 1)) = quoteB (s.take i) ++ [c] := by rw [hT, hm]; rfl
         refine Round.go (i + 1) (by omega) (by omega) ?_ (Drops.refl _)
         rw [h2]
         ((try simp only [List.replicate_succ, List.replicate_zero, List.cons_append, List.nil_append]); repeat' (first | exact trivial | refine ⟨.inl rfl, ?_⟩ | refine ⟨.inr rfl, ?_⟩ | refine ⟨.inr (by simp), ?_⟩)))
  · have hcond : decide ((i : Int) < s.length) = false := by simp; omega
    (repeat' (first | simp -dsimp (maxSteps := 2000000) (disch := first | omega | (simp; done) | (simp; omega)) only [SA, SB, SC, SD, SE, SF, SG, SI, Nat.reduceLT, Nat.reduceAdd, Nat.reduceSub, Nat.reduceMul, Nat.reduceLeDiff, Nat.reduceEqDiff, Nat.reduceBEq, Int.reduceToNat, Int.reduceLE, Int.reduceLT, Int.reduceEq, Int.reduceNeg, reduceCtorEq, ↓reduceIte, hcond] | refine Cut.go ?_ | refine Both.intro ?_ ?_ | (refine Br.intro ?_ ?_ <;> intro hb <;> have hb' := hb <;> (try simp only [SH] at hb') <;> (try simp -dsimp (maxSteps := 2000000) (disch := first | omega | (simp; done) | (simp; omega)) only [SA, SB, SC, SD, SE, SF, SG, SI, Nat.reduceLT, Nat.reduceAdd, Nat.reduceSub, Nat.reduceMul, Nat.reduceLeDiff, Nat.reduceEqDiff, Nat.reduceBEq, Int.reduceToNat, Int.reduceLE, Int.reduceLT, Int.reduceEq, Int.reduceNeg, reduceCtorEq, ↓reduceIte, hb, hcond]))))
    rw [List.take_of_length_le (by omega)]
theorem pat34 (t : List UInt8) (ht : t.length ≤ 1000000) {sp e : Bool} {σ : St} (hti : Tidy σ) : Pure 34 [.agg [.str t, .bool true, .bool sp, .bool e]] σ fun o => o = .ret (.str (quoteB t)) := by
  refine Ok.fresh fun hf => Ok.drop ?_
  apply en34
  simp -dsimp (maxSteps := 2000000) (disch := first | omega | (simp; done) | (simp; omega)) only [SA, SB, SC, SD, SE, SF, SG, SI, Nat.reduceLT, Nat.reduceAdd, Nat.reduceSub, Nat.reduceMul, Nat.reduceLeDiff, Nat.reduceEqDiff, Nat.reduceBEq, Int.reduceToNat, Int.reduceLE, Int.reduceLT, Int.reduceEq, Int.reduceNeg, reduceCtorEq, ↓reduceIte, ic34, List.replicate_succ, List.replicate_zero]
  (repeat' (first | simp -dsimp (maxSteps := 2000000) (disch := first | omega | (simp; done) | (simp; omega)) only [SA, SB, SC, SD, SE, SF, SG, SI, Nat.reduceLT, Nat.reduceAdd, Nat.reduceSub, Nat.reduceMul, Nat.reduceLeDiff, Nat.reduceEqDiff, Nat.reduceBEq, Int.reduceToNat, Int.reduceLE, Int.reduceLT, Int.reduceEq, Int.reduceNeg, reduceCtorEq, ↓reduceIte] | refine Cut.go ?_ | refine Both.intro ?_ ?_ | (refine Br.intro ?_ ?_ <;> intro hb <;> have hb' := hb <;> (try simp only [SH] at hb') <;> (try simp -dsimp (maxSteps := 2000000) (disch := first | omega | (simp; done) | (simp; omega)) only [SA, SB, SC, SD, SE, SF, SG, SI, Nat.reduceLT, Nat.reduceAdd, Nat.reduceSub, Nat.reduceMul, Nat.reduceLeDiff, Nat.reduceEqDiff, Nat.reduceBEq, Int.reduceToNat, Int.reduceLE, Int.reduceLT, Int.reduceEq, Int.reduceNeg, reduceCtorEq, ↓reduceIte, hb]))))
  refine ⟨gd35, (quote35 t ht (σ := σ.alloc (.cells [.str t, .bool true, .bool sp, .bool e])) (hti.alloc hf (by simp))).mono fun o s' h => ?_⟩
  obtain ⟨⟨m, hm, rfl⟩, rfl⟩ := h
  (repeat' (first | simp -dsimp (maxSteps := 2000000) (disch := first | omega | (simp; done) | (simp; omega)) only [SA, SB, SC, SD, SE, SF, SG, SI, Nat.reduceLT, Nat.reduceAdd, Nat.reduceSub, Nat.reduceMul, Nat.reduceLeDiff, Nat.reduceEqDiff, Nat.reduceBEq, Int.reduceToNat, Int.reduceLE, Int.reduceLT, Int.reduceEq, Int.reduceNeg, reduceCtorEq, ↓reduceIte] | refine Cut.go ?_ | refine Both.intro ?_ ?_ | (refine Br.intro ?_ ?_ <;> intro hb <;> have hb' := hb <;> (try simp only [SH] at hb') <;> (try simp -dsimp (maxSteps := 2000000) (disch := first | omega | (simp; done) | (simp; omega)) only [SA, SB, SC, SD, SE, SF, SG, SI, Nat.reduceLT, Nat.reduceAdd, Nat.reduceSub, Nat.reduceMul, Nat.reduceLeDiff, Nat.reduceEqDiff, Nat.reduceBEq, Int.reduceToNat, Int.reduceLE, Int.reduceLT, Int.reduceEq, Int.reduceNeg, reduceCtorEq, ↓reduceIte, hb]))))
  exact ⟨_, drops_old hf (fun i hi => by show (σ.alloc _).obj i = _; rw [alloc_obj, if_neg (by omega)]), _, by rw [alloc_next] at hm; show σ.next ≤ m; omega, rfl⟩
def PatOut (v : List UInt8) (o : Out) : Prop := if 4096 < (quoteB v).length then o = .ret (.tuple [.str [], .int .i64 2]) else o = .ret (.tuple [.str (quoteB v), .int .i64 0])
theorem Own1.len {σ0 s : St} {bs : List UInt8} (h : Own1 σ0 bs s) {K : Out → St → Prop} (hk : K (.ret (.int .i64 bs.length)) s) : goodFn Tryz.prog 58 = true ∧ Ok Tryz.prog 58 [.ref σ0.next 0] s K := by
  obtain ⟨a, l, hb, hn⟩ := h.ex
  have hj := hb.hj
  have lx : cellsAt [a, bufD l bs] 1 none = some (bufD l bs) := by simp [cellsAt, bufD_scal]
  refine ⟨gd58, ?_⟩
  apply en58
  simp -dsimp (maxSteps := 2000000) (disch := first | omega | (simp; done) | (simp; omega)) only [SA, SB, SC, SD, SE, SF, SG, SI, Nat.reduceLT, Nat.reduceAdd, Nat.reduceSub, Nat.reduceMul, Nat.reduceLeDiff, Nat.reduceEqDiff, Nat.reduceBEq, Int.reduceToNat, Int.reduceLE, Int.reduceLT, Int.reduceEq, Int.reduceNeg, reduceCtorEq, ↓reduceIte, ic58, List.replicate_succ, List.replicate_zero]
  (repeat' (first | simp -dsimp (maxSteps := 2000000) (disch := first | omega | (simp; done) | (simp; omega)) only [SA, SB, SC, SD, SE, SF, SG, SI, Nat.reduceLT, Nat.reduceAdd, Nat.reduceSub, Nat.reduceMul, Nat.reduceLeDiff, Nat.reduceEqDiff, Nat.reduceBEq, Int.reduceToNat, Int.reduceLE, Int.reduceLT, Int.reduceEq, Int.reduceNeg, reduceCtorEq, ↓reduceIte, hj, lx, bufD_len] | refine Cut.go ?_ | refine Both.intro ?_ ?_ | (refine Br.intro ?_ ?_ <;> intro hb <;> have hb' := hb <;> (try simp only [SH] at hb') <;> (try simp -dsimp (maxSteps := 2000000) (disch := first | omega | (simp; done) | (simp; omega)) only [SA, SB, SC, SD, SE, SF, SG, SI, Nat.reduceLT, Nat.reduceAdd, Nat.reduceSub, Nat.reduceMul, Nat.reduceLeDiff, Nat.reduceEqDiff, Nat.reduceBEq, Int.reduceToNat, Int.reduceLE, Int.reduceLT, Int.reduceEq, Int.reduceNeg, reduceCtorEq, ↓reduceIte, hb, hj, lx, bufD_len]))))
  exact hk
theorem Own1.grow {σ0 s s' : St} {bs : List UInt8} (h : Own1 σ0 bs s) (ho : ∀ i, i < s.next → s'.obj i = s.obj i) (hn : s.next ≤ s'.next) (hf : s'.Fresh) (ht : Tidy s') : Own1 σ0 bs s' := by
  obtain ⟨a, l, hb, hl⟩ := h.ex
  have := h.nxt
  obtain ⟨T, hm, hT⟩ := hb.hm
  refine ⟨⟨a, l, ⟨by rw [ho _ (by omega)]; exact hb.hj, hb.h0, hb.h1, ⟨T, by rw [ho _ (by omega)]; exact hm, hT⟩, hb.buf.same fun g i q1 q2 => ho i (by have := hl g; omega)⟩, fun g => by have := hl g; omega⟩, fun i hi => by rw [ho i (by omega)]; exact h.low i hi, by omega, hf, ht⟩
theorem joined_one {w h : D} {j : Nat} {v : List UInt8} (hv : v.length ≤ 100000) {σ : St} (ht : Tidy σ) (A : Pure 27 [w, .ref j 0, h] σ fun o => ∃ x, Atoms x [⟨v, true, false, false⟩] ∧ o = .ret (.tuple [x, .int .i64 0])) :
    Pure 33 [w, .ref j 0, h, .func (.func 34) [] []] σ (PatOut v) := by
  refine Ok.fresh fun hf => Ok.drop ?_
  apply en33
  simp -dsimp (maxSteps := 2000000) (disch := first | omega | (simp; done) | (simp; omega)) only [SA, SB, SC, SD, SE, SF, SG, SI, Nat.reduceLT, Nat.reduceAdd, Nat.reduceSub, Nat.reduceMul, Nat.reduceLeDiff, Nat.reduceEqDiff, Nat.reduceBEq, Int.reduceToNat, Int.reduceLE, Int.reduceLT, Int.reduceEq, Int.reduceNeg, reduceCtorEq, ↓reduceIte, ic33, List.replicate_succ, List.replicate_zero]
  (repeat' (first | simp -dsimp (maxSteps := 2000000) (disch := first | omega | (simp; done) | (simp; omega)) only [SA, SB, SC, SD, SE, SF, SG, SI, Nat.reduceLT, Nat.reduceAdd, Nat.reduceSub, Nat.reduceMul, Nat.reduceLeDiff, Nat.reduceEqDiff, Nat.reduceBEq, Int.reduceToNat, Int.reduceLE, Int.reduceLT, Int.reduceEq, Int.reduceNeg, reduceCtorEq, ↓reduceIte] | refine Cut.go ?_ | refine Both.intro ?_ ?_ | (refine Br.intro ?_ ?_ <;> intro hb <;> have hb' := hb <;> (try simp only [SH] at hb') <;> (try simp -dsimp (maxSteps := 2000000) (disch := first | omega | (simp; done) | (simp; omega)) only [SA, SB, SC, SD, SE, SF, SG, SI, Nat.reduceLT, Nat.reduceAdd, Nat.reduceSub, Nat.reduceMul, Nat.reduceLeDiff, Nat.reduceEqDiff, Nat.reduceBEq, Int.reduceToNat, Int.reduceLE, Int.reduceLT, Int.reduceEq, Int.reduceNeg, reduceCtorEq, ↓reduceIte, hb]))))
  refine ⟨gd27, A.mono fun o s1 h => ?_⟩
  obtain ⟨⟨m, hm, rfl⟩, x, hx, rfl⟩ := h
  have hlx : ilen x = some (.int .i64 1) := by have := hx.len; simpa using this
  have i0 : idxAddrS 4 x (.int .i64 0) = some (.box [.str v, .bool true, .bool false, .bool false] 0) := by have := hx.at (i := 0) (by simp); simpa using this
  have l0 : cellsAt [D.str v, D.bool true, D.bool false, D.bool false] 0 (some 4) = some (.agg [.str v, .bool true, .bool false, .bool false]) := rfl
  have hq := quoteB_len v
  have hO := Own1.new (σ := ⟨σ.obj, m⟩) (fun i hi => hf i (Nat.le_trans hm hi)) ht
  (repeat' (first | simp -dsimp (maxSteps := 2000000) (disch := first | omega | (simp; done) | (simp; omega)) only [SA, SB, SC, SD, SE, SF, SG, SI, Nat.reduceLT, Nat.reduceAdd, Nat.reduceSub, Nat.reduceMul, Nat.reduceLeDiff, Nat.reduceEqDiff, Nat.reduceBEq, Int.reduceToNat, Int.reduceLE, Int.reduceLT, Int.reduceEq, Int.reduceNeg, reduceCtorEq, ↓reduceIte, hlx] | refine Cut.go ?_ | refine Both.intro ?_ ?_ | (refine Br.intro ?_ ?_ <;> intro hb <;> have hb' := hb <;> (try simp only [SH] at hb') <;> (try simp -dsimp (maxSteps := 2000000) (disch := first | omega | (simp; done) | (simp; omega)) only [SA, SB, SC, SD, SE, SF, SG, SI, Nat.reduceLT, Nat.reduceAdd, Nat.reduceSub, Nat.reduceMul, Nat.reduceLeDiff, Nat.reduceEqDiff, Nat.reduceBEq, Int.reduceToNat, Int.reduceLE, Int.reduceLT, Int.reduceEq, Int.reduceNeg, reduceCtorEq, ↓reduceIte, hb, hlx]))))
  refine loop_go (α := Nat × St) (fun b => [w, .ref j 0, h, .func (.func 34) [] [], .junk, .junk, .junk, .junk, .str [], .int .i64 0, x, .int .i64 0, .ref m 0, .junk, .junk, .junk, .junk, .junk, .junk, .junk, .junk, .junk, x, .int .i64 1, .int .i64 b.1] ++ List.replicate 21 .junk) (fun b => b.2) (fun b => 1 - b.1) (fun b => (b.1 = 0 ∧ Own1 ⟨σ.obj, m⟩ [] b.2) ∨ (b.1 = 1 ∧ Own1 ⟨σ.obj, m⟩ (quoteB v) b.2)) (0, _) (.inl ⟨rfl, hO⟩) (by ((try simp only [List.replicate_succ, List.replicate_zero, List.cons_append, List.nil_append]); repeat' (first | exact trivial | refine ⟨.inl rfl, ?_⟩ | refine ⟨.inr rfl, ?_⟩ | refine ⟨.inr (by simp), ?_⟩))) (Drops.refl _) ?_
  rintro ⟨i, u⟩ (⟨h1, h2⟩ | ⟨h1, h2⟩)
  · simp only [] at h1 h2
    subst h1
    have z0 : decide (((0 : Nat) : Int) < 1) = true := rfl
    have i0' : idxAddrS 4 x (.int .i64 ((0 : Nat) : Int)) = some (.box [.str v, .bool true, .bool false, .bool false] 0) := i0
    simp -dsimp (maxSteps := 2000000) (disch := first | omega | (simp; done) | (simp; omega)) only [SA, SB, SC, SD, SE, SF, SG, SI, Nat.reduceLT, Nat.reduceAdd, Nat.reduceSub, Nat.reduceMul, Nat.reduceLeDiff, Nat.reduceEqDiff, Nat.reduceBEq, Int.reduceToNat, Int.reduceLE, Int.reduceLT, Int.reduceEq, Int.reduceNeg, reduceCtorEq, ↓reduceIte, List.replicate_succ, List.replicate_zero]
    have hun := h2.nxt
    have hP := h2.grow (s' := (u.alloc (.cells [.str [], .bool false, .bool false, .bool false])).put u.next (some (.cells [.str v, .bool true, .bool false, .bool false]))) (fun i hi => by rw [put_obj, if_neg (by omega), alloc_obj, if_neg (by omega)]) (by show u.next ≤ u.next + 1; omega) (put_fresh (alloc_fresh h2.fresh _) (by rw [alloc_next]; omega) _) ((h2.tidy.alloc h2.fresh (by simp)).put _ _)
    (repeat' (first | simp -dsimp (maxSteps := 2000000) (disch := first | omega | (simp; done) | (simp; omega)) only [SA, SB, SC, SD, SE, SF, SG, SI, Nat.reduceLT, Nat.reduceAdd, Nat.reduceSub, Nat.reduceMul, Nat.reduceLeDiff, Nat.reduceEqDiff, Nat.reduceBEq, Int.reduceToNat, Int.reduceLE, Int.reduceLT, Int.reduceEq, Int.reduceNeg, reduceCtorEq, ↓reduceIte, z0, i0, i0', l0] | refine Cut.go ?_ | refine Both.intro ?_ ?_ | (refine Br.intro ?_ ?_ <;> intro hb <;> have hb' := hb <;> (try simp only [SH] at hb') <;> (try simp -dsimp (maxSteps := 2000000) (disch := first | omega | (simp; done) | (simp; omega)) only [SA, SB, SC, SD, SE, SF, SG, SI, Nat.reduceLT, Nat.reduceAdd, Nat.reduceSub, Nat.reduceMul, Nat.reduceLeDiff, Nat.reduceEqDiff, Nat.reduceBEq, Int.reduceToNat, Int.reduceLE, Int.reduceLT, Int.reduceEq, Int.reduceNeg, reduceCtorEq, ↓reduceIte, hb, z0, i0, i0', l0]))))
    refine ⟨gd34, (pat34 v (by omega) hP.tidy).mono fun o s2 hh => ?_⟩
    obtain ⟨⟨m2, hm2, rfl⟩, rfl⟩ := hh
    have hP2 := hP.grow (s' := ⟨_, m2⟩) (fun _ _ => rfl) hm2 (fun i hi => hP.fresh i (Nat.le_trans hm2 hi)) hP.tidy
    (repeat' (first | simp -dsimp (maxSteps := 2000000) (disch := first | omega | (simp; done) | (simp; omega)) only [SA, SB, SC, SD, SE, SF, SG, SI, Nat.reduceLT, Nat.reduceAdd, Nat.reduceSub, Nat.reduceMul, Nat.reduceLeDiff, Nat.reduceEqDiff, Nat.reduceBEq, Int.reduceToNat, Int.reduceLE, Int.reduceLT, Int.reduceEq, Int.reduceNeg, reduceCtorEq, ↓reduceIte] | refine Cut.go ?_ | refine Both.intro ?_ ?_ | (refine Br.intro ?_ ?_ <;> intro hb <;> have hb' := hb <;> (try simp only [SH] at hb') <;> (try simp -dsimp (maxSteps := 2000000) (disch := first | omega | (simp; done) | (simp; omega)) only [SA, SB, SC, SD, SE, SF, SG, SI, Nat.reduceLT, Nat.reduceAdd, Nat.reduceSub, Nat.reduceMul, Nat.reduceLeDiff, Nat.reduceEqDiff, Nat.reduceBEq, Int.reduceToNat, Int.reduceLE, Int.reduceLT, Int.reduceEq, Int.reduceNeg, reduceCtorEq, ↓reduceIte, hb]))))
    refine hP2.ws (quoteB v) (by simp; omega) fun s3 h3 => ?_
    (repeat' (first | simp -dsimp (maxSteps := 2000000) (disch := first | omega | (simp; done) | (simp; omega)) only [SA, SB, SC, SD, SE, SF, SG, SI, Nat.reduceLT, Nat.reduceAdd, Nat.reduceSub, Nat.reduceMul, Nat.reduceLeDiff, Nat.reduceEqDiff, Nat.reduceBEq, Int.reduceToNat, Int.reduceLE, Int.reduceLT, Int.reduceEq, Int.reduceNeg, reduceCtorEq, ↓reduceIte] | refine Cut.go ?_ | refine Both.intro ?_ ?_ | (refine Br.intro ?_ ?_ <;> intro hb <;> have hb' := hb <;> (try simp only [SH] at hb') <;> (try simp -dsimp (maxSteps := 2000000) (disch := first | omega | (simp; done) | (simp; omega)) only [SA, SB, SC, SD, SE, SF, SG, SI, Nat.reduceLT, Nat.reduceAdd, Nat.reduceSub, Nat.reduceMul, Nat.reduceLeDiff, Nat.reduceEqDiff, Nat.reduceBEq, Int.reduceToNat, Int.reduceLE, Int.reduceLT, Int.reduceEq, Int.reduceNeg, reduceCtorEq, ↓reduceIte, hb]))))
    exact Round.go (1, s3) (by simp) (.inr ⟨rfl, by simpa using h3⟩) (by ((try simp only [List.replicate_succ, List.replicate_zero, List.cons_append, List.nil_append]); repeat' (first | exact trivial | refine ⟨.inl rfl, ?_⟩ | refine ⟨.inr rfl, ?_⟩ | refine ⟨.inr (by simp), ?_⟩))) (Drops.refl _)
  · simp only [] at h1 h2
    subst h1
    have z0 : decide (((1 : Nat) : Int) < 1) = false := rfl
    have z4 : ((0 : Int) == 0) = true := rfl
    have z5 : ((0 : Int) != 0) = false := rfl
    have z6 : ((2 : Int) != 0) = true := rfl
    have hlow : ∀ i, i < σ.next → u.obj i = σ.obj i := fun i hi => h2.low i (by show i < m; omega)
    have hun : m + 2 ≤ u.next := h2.nxt
    simp -dsimp (maxSteps := 2000000) (disch := first | omega | (simp; done) | (simp; omega)) only [SA, SB, SC, SD, SE, SF, SG, SI, Nat.reduceLT, Nat.reduceAdd, Nat.reduceSub, Nat.reduceMul, Nat.reduceLeDiff, Nat.reduceEqDiff, Nat.reduceBEq, Int.reduceToNat, Int.reduceLE, Int.reduceLT, Int.reduceEq, Int.reduceNeg, reduceCtorEq, ↓reduceIte, List.replicate_succ, List.replicate_zero]
    by_cases hbig : 4096 < (quoteB v).length
    · have hc : decide (((quoteB v).length : Int) > 4096) = true := by simp; omega
      (repeat' (first | simp -dsimp (maxSteps := 2000000) (disch := first | omega | (simp; done) | (simp; omega)) only [SA, SB, SC, SD, SE, SF, SG, SI, Nat.reduceLT, Nat.reduceAdd, Nat.reduceSub, Nat.reduceMul, Nat.reduceLeDiff, Nat.reduceEqDiff, Nat.reduceBEq, Int.reduceToNat, Int.reduceLE, Int.reduceLT, Int.reduceEq, Int.reduceNeg, reduceCtorEq, ↓reduceIte, z0, z4, z5, z6, hc] | refine Cut.go ?_ | refine Both.intro ?_ ?_ | refine h2.len ?_ | (refine Br.intro ?_ ?_ <;> intro hb <;> have hb' := hb <;> (try simp only [SH] at hb') <;> (try simp -dsimp (maxSteps := 2000000) (disch := first | omega | (simp; done) | (simp; omega)) only [SA, SB, SC, SD, SE, SF, SG, SI, Nat.reduceLT, Nat.reduceAdd, Nat.reduceSub, Nat.reduceMul, Nat.reduceLeDiff, Nat.reduceEqDiff, Nat.reduceBEq, Int.reduceToNat, Int.reduceLE, Int.reduceLT, Int.reduceEq, Int.reduceNeg, reduceCtorEq, ↓reduceIte, hb, z0, z4, z5, z6, hc]))))
      refine ⟨_, drops_old hf hlow, ⟨_, by omega, rfl⟩, ?_⟩
      rw [PatOut, if_pos hbig]
    · have hc : decide (((quoteB v).length : Int) > 4096) = false := by simp; omega
      (repeat' (first | simp -dsimp (maxSteps := 2000000) (disch := first | omega | (simp; done) | (simp; omega)) only [SA, SB, SC, SD, SE, SF, SG, SI, Nat.reduceLT, Nat.reduceAdd, Nat.reduceSub, Nat.reduceMul, Nat.reduceLeDiff, Nat.reduceEqDiff, Nat.reduceBEq, Int.reduceToNat, Int.reduceLE, Int.reduceLT, Int.reduceEq, Int.reduceNeg, reduceCtorEq, ↓reduceIte, z0, z4, z5, hc] | refine Cut.go ?_ | refine Both.intro ?_ ?_ | refine h2.len ?_ | (refine Br.intro ?_ ?_ <;> intro hb <;> have hb' := hb <;> (try simp only [SH] at hb') <;> (try simp -dsimp (maxSteps := 2000000) (disch := first | omega | (simp; done) | (simp; omega)) only [SA, SB, SC, SD, SE, SF, SG, SI, Nat.reduceLT, Nat.reduceAdd, Nat.reduceSub, Nat.reduceMul, Nat.reduceLeDiff, Nat.reduceEqDiff, Nat.reduceBEq, Int.reduceToNat, Int.reduceLE, Int.reduceLT, Int.reduceEq, Int.reduceNeg, reduceCtorEq, ↓reduceIte, hb, z0, z4, z5, hc]))))
      refine h2.str (by omega) fun s3 g1 g2 => ?_
      (repeat' (first | simp -dsimp (maxSteps := 2000000) (disch := first | omega | (simp; done) | (simp; omega)) only [SA, SB, SC, SD, SE, SF, SG, SI, Nat.reduceLT, Nat.reduceAdd, Nat.reduceSub, Nat.reduceMul, Nat.reduceLeDiff, Nat.reduceEqDiff, Nat.reduceBEq, Int.reduceToNat, Int.reduceLE, Int.reduceLT, Int.reduceEq, Int.reduceNeg, reduceCtorEq, ↓reduceIte] | refine Cut.go ?_ | refine Both.intro ?_ ?_ | (refine Br.intro ?_ ?_ <;> intro hb <;> have hb' := hb <;> (try simp only [SH] at hb') <;> (try simp -dsimp (maxSteps := 2000000) (disch := first | omega | (simp; done) | (simp; omega)) only [SA, SB, SC, SD, SE, SF, SG, SI, Nat.reduceLT, Nat.reduceAdd, Nat.reduceSub, Nat.reduceMul, Nat.reduceLeDiff, Nat.reduceEqDiff, Nat.reduceBEq, Int.reduceToNat, Int.reduceLE, Int.reduceLT, Int.reduceEq, Int.reduceNeg, reduceCtorEq, ↓reduceIte, hb]))))
      refine ⟨_, drops_old hf (fun i hi => g1 i (by show i < m; omega)), ⟨_, Nat.le_trans hm g2, rfl⟩, ?_⟩
      rw [PatOut, if_neg hbig]
theorem pattern_name {j : Nat} {l : Vs} {y z : D} {σ : St} (hti : Tidy σ) (ht : TabAt σ j l y z) {n v : List UInt8} (hn : nameB n = true) (hg : tget n l = some v) {r : Room} (hv : v.length ≤ 100000) :
    Pure 13 [.slc 5 [.agg (partD 2 true n)] r, .ref j 0, theHost] σ (PatOut v) := by
  refine Pure.fresh fun hf => ?_
  have A := atoms_name hf ht hn true (r := r)
  rw [hg, Option.getD_some] at A
  apply en13
  simp -dsimp (maxSteps := 2000000) (disch := first | omega | (simp; done) | (simp; omega)) only [SA, SB, SC, SD, SE, SF, SG, SI, Nat.reduceLT, Nat.reduceAdd, Nat.reduceSub, Nat.reduceMul, Nat.reduceLeDiff, Nat.reduceEqDiff, Nat.reduceBEq, Int.reduceToNat, Int.reduceLE, Int.reduceLT, Int.reduceEq, Int.reduceNeg, reduceCtorEq, ↓reduceIte, ic13, List.replicate_succ, List.replicate_zero]
  (repeat' (first | simp -dsimp (maxSteps := 2000000) (disch := first | omega | (simp; done) | (simp; omega)) only [SA, SB, SC, SD, SE, SF, SG, SI, Nat.reduceLT, Nat.reduceAdd, Nat.reduceSub, Nat.reduceMul, Nat.reduceLeDiff, Nat.reduceEqDiff, Nat.reduceBEq, Int.reduceToNat, Int.reduceLE, Int.reduceLT, Int.reduceEq, Int.reduceNeg, reduceCtorEq, ↓reduceIte] | refine Cut.go ?_ | refine Both.intro ?_ ?_ | (refine Br.intro ?_ ?_ <;> intro hb <;> have hb' := hb <;> (try simp only [SH] at hb') <;> (try simp -dsimp (maxSteps := 2000000) (disch := first | omega | (simp; done) | (simp; omega)) only [SA, SB, SC, SD, SE, SF, SG, SI, Nat.reduceLT, Nat.reduceAdd, Nat.reduceSub, Nat.reduceMul, Nat.reduceLeDiff, Nat.reduceEqDiff, Nat.reduceBEq, Int.reduceToNat, Int.reduceLE, Int.reduceLT, Int.reduceEq, Int.reduceNeg, reduceCtorEq, ↓reduceIte, hb]))))
  refine ⟨gd33, (joined_one hv hti A).mono fun o s' h => ?_⟩
  obtain ⟨⟨m, hm, rfl⟩, ho⟩ := h
  unfold PatOut at ho
  split at ho
  · rename_i hb
    subst ho
    (repeat' (first | simp -dsimp (maxSteps := 2000000) (disch := first | omega | (simp; done) | (simp; omega)) only [SA, SB, SC, SD, SE, SF, SG, SI, Nat.reduceLT, Nat.reduceAdd, Nat.reduceSub, Nat.reduceMul, Nat.reduceLeDiff, Nat.reduceEqDiff, Nat.reduceBEq, Int.reduceToNat, Int.reduceLE, Int.reduceLT, Int.reduceEq, Int.reduceNeg, reduceCtorEq, ↓reduceIte] | refine Cut.go ?_ | refine Both.intro ?_ ?_ | (refine Br.intro ?_ ?_ <;> intro hb <;> have hb' := hb <;> (try simp only [SH] at hb') <;> (try simp -dsimp (maxSteps := 2000000) (disch := first | omega | (simp; done) | (simp; omega)) only [SA, SB, SC, SD, SE, SF, SG, SI, Nat.reduceLT, Nat.reduceAdd, Nat.reduceSub, Nat.reduceMul, Nat.reduceLeDiff, Nat.reduceEqDiff, Nat.reduceBEq, Int.reduceToNat, Int.reduceLE, Int.reduceLT, Int.reduceEq, Int.reduceNeg, reduceCtorEq, ↓reduceIte, hb]))))
    refine ⟨⟨m, hm, rfl⟩, ?_⟩
    rw [PatOut, if_pos hb]
  · rename_i hb
    subst ho
    (repeat' (first | simp -dsimp (maxSteps := 2000000) (disch := first | omega | (simp; done) | (simp; omega)) only [SA, SB, SC, SD, SE, SF, SG, SI, Nat.reduceLT, Nat.reduceAdd, Nat.reduceSub, Nat.reduceMul, Nat.reduceLeDiff, Nat.reduceEqDiff, Nat.reduceBEq, Int.reduceToNat, Int.reduceLE, Int.reduceLT, Int.reduceEq, Int.reduceNeg, reduceCtorEq, ↓reduceIte] | refine Cut.go ?_ | refine Both.intro ?_ ?_ | (refine Br.intro ?_ ?_ <;> intro hb <;> have hb' := hb <;> (try simp only [SH] at hb') <;> (try simp -dsimp (maxSteps := 2000000) (disch := first | omega | (simp; done) | (simp; omega)) only [SA, SB, SC, SD, SE, SF, SG, SI, Nat.reduceLT, Nat.reduceAdd, Nat.reduceSub, Nat.reduceMul, Nat.reduceLeDiff, Nat.reduceEqDiff, Nat.reduceBEq, Int.reduceToNat, Int.reduceLE, Int.reduceLT, Int.reduceEq, Int.reduceNeg, reduceCtorEq, ↓reduceIte, hb]))))
    refine ⟨⟨m, hm, rfl⟩, ?_⟩
    rw [PatOut, if_neg hb]
theorem cut_lit (s ifs : List UInt8) : (cutF [⟨s, true, false, false⟩] ifs).map (·.1) = [s] := by
  have : cutF [⟨s, true, false, false⟩] ifs = [(s, quoteB s)] := by
    simp [cutF, CS.atom, CS.add, CS.push, CS.zero, addP]
  rw [this]; rfl
end Go.Proofs.YthiidchbaicfgaaGreatDoor
