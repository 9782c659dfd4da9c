/-
  THE WALKS, PART 18: whether variables are the same; the chapter's examples.
-/
import Derived.Test.YtkjgadanaknleaaW17
namespace Go.Proofs.Ytkjgadanaknleaa
open Go Go.Id
set_option linter.unusedSimpArgs false
set_option linter.unusedVariables false
set_option maxRecDepth 100000
set_option maxHeartbeats 4000000

theorem Vd.len {x : D} {l : List V} (h : Vd x l) : ilen x = some (.int .i64 l.length) := by cases h <;> simp [ilen]
theorem Vd.at {x : D} {l : List V} (h : Vd x l) {i : Nat} (hi : i < l.length) : idxAddrS 2 x (.int .i64 i) = some (.box (l[i]).cs 0) := by
  cases h with
  | vnil => simp at hi
  | vsome l r =>
    rw [ix_map _ _ _ _ _ _ ⟨by omega, by omega⟩]
    have : l.getD ((i : Int)).toNat default = l[i] := by simp [hi]
    rw [this]; rfl
theorem cs_load (v : V) : cellsAt v.cs 0 (some 2) = some (.agg v.cs) := rfl
theorem eq_vars (v w : V) : ieq (.flat [.str, .str]) (.agg v.cs) (.agg w.cs) = some (decide (v = w)) := by
  have : ieq (.flat [.str, .str]) (.agg v.cs) (.agg w.cs) = some ((v.name == w.name) && ((v.value == w.value) && true)) := rfl
  rw [this]
  congr 1
  by_cases h : v = w
  · subst h; simp
  · rw [decide_eq_false h]
    cases v; cases w
    simp only [V.mk.injEq, not_and] at h
    simp only [Bool.and_true, Bool.and_eq_false_imp, beq_iff_eq, beq_eq_false_iff_ne]
    exact h
theorem vars_ok {x y : D} {l m : List V} (hx : Vd x l) (hy : Vd y m) (hl : l.length ≤ 1000) (σ : St) : Ok Try.prog 13 [x, y] σ (fun o s' => s' = σ ∧ o = .ret (.bool (decide (l = m)))) := by
  apply en13
  have hlx := hx.len
  have hly := hy.len
  simp -dsimp (maxSteps := 2000000) (disch := first | omega | (simp; done) | (simp; omega)) only [SA, SB, SC, SD, SE, SF, SG, Nat.reduceLT, Nat.reduceAdd, Nat.reduceSub, Nat.reduceMul, Nat.reduceLeDiff, Nat.reduceEqDiff, Nat.reduceBEq, Int.reduceToNat, Int.reduceLE, Int.reduceLT, Int.reduceEq, Int.reduceNeg, reduceCtorEq, ↓reduceIte, ic13, List.replicate_succ, List.replicate_zero]
  (repeat' (first | simp -dsimp (maxSteps := 2000000) (disch := first | omega | (simp; done) | (simp; omega)) only [SA, SB, SC, SD, SE, SF, SG, Nat.reduceLT, Nat.reduceAdd, Nat.reduceSub, Nat.reduceMul, Nat.reduceLeDiff, Nat.reduceEqDiff, Nat.reduceBEq, Int.reduceToNat, Int.reduceLE, Int.reduceLT, Int.reduceEq, Int.reduceNeg, reduceCtorEq, ↓reduceIte, hlx, hly] | refine Cut.go ?_ | refine Both.intro ?_ ?_ | (refine Br.intro ?_ ?_ <;> intro hb <;> have hb' := hb <;> (try simp only [SH] at hb') <;> (try simp -dsimp (maxSteps := 2000000) (disch := first | omega | (simp; done) | (simp; omega)) only [SA, SB, SC, SD, SE, SF, SG, Nat.reduceLT, Nat.reduceAdd, Nat.reduceSub, Nat.reduceMul, Nat.reduceLeDiff, Nat.reduceEqDiff, Nat.reduceBEq, Int.reduceToNat, Int.reduceLE, Int.reduceLT, Int.reduceEq, Int.reduceNeg, reduceCtorEq, ↓reduceIte, hb, hlx, hly]))))
  · have : l ≠ m := fun h => by subst h; exact hb' rfl
    simp [this]
  · have hlen : l.length = m.length := by omega
    refine loop_go (fun a : Nat => [x, y, .junk, .junk, .bool false, .int .i64 a] ++ List.replicate 20 .junk) (fun _ => σ) (fun a => l.length - a) (fun a => a ≤ l.length ∧ ((l = m) ↔ (l.drop a = m.drop a))) 0 ⟨Nat.zero_le _, by simp⟩ (by ((try simp only [List.replicate_succ, List.replicate_zero, List.cons_append, List.nil_append]); repeat' (first | exact trivial | refine ⟨.inl rfl, ?_⟩ | refine ⟨.inr rfl, ?_⟩ | refine ⟨.inr (by simp), ?_⟩))) (Drops.refl _) ?_
    rintro i ⟨h1, h2⟩
    simp -dsimp (maxSteps := 2000000) (disch := first | omega | (simp; done) | (simp; omega)) only [SA, SB, SC, SD, SE, SF, SG, Nat.reduceLT, Nat.reduceAdd, Nat.reduceSub, Nat.reduceMul, Nat.reduceLeDiff, Nat.reduceEqDiff, Nat.reduceBEq, Int.reduceToNat, Int.reduceLE, Int.reduceLT, Int.reduceEq, Int.reduceNeg, reduceCtorEq, ↓reduceIte, List.replicate_succ, List.replicate_zero]
    (repeat' (first | simp -dsimp (maxSteps := 2000000) (disch := first | omega | (simp; done) | (simp; omega)) only [SA, SB, SC, SD, SE, SF, SG, Nat.reduceLT, Nat.reduceAdd, Nat.reduceSub, Nat.reduceMul, Nat.reduceLeDiff, Nat.reduceEqDiff, Nat.reduceBEq, Int.reduceToNat, Int.reduceLE, Int.reduceLT, Int.reduceEq, Int.reduceNeg, reduceCtorEq, ↓reduceIte, hlx] | refine Cut.go ?_ | refine Both.intro ?_ ?_ | (refine Br.intro ?_ ?_ <;> intro hb <;> have hb' := hb <;> (try simp only [SH] at hb') <;> (try simp -dsimp (maxSteps := 2000000) (disch := first | omega | (simp; done) | (simp; omega)) only [SA, SB, SC, SD, SE, SF, SG, Nat.reduceLT, Nat.reduceAdd, Nat.reduceSub, Nat.reduceMul, Nat.reduceLeDiff, Nat.reduceEqDiff, Nat.reduceBEq, Int.reduceToNat, Int.reduceLE, Int.reduceLT, Int.reduceEq, Int.reduceNeg, reduceCtorEq, ↓reduceIte, hb, hlx]))))
    · have hi : i < l.length := by omega
      have ax := hx.at hi
      have ay := hy.at (i := i) (by omega)
      have d1 := List.drop_eq_getElem_cons hi
      have d2 := List.drop_eq_getElem_cons (l := m) (i := i) (by omega)
      (repeat' (first | simp -dsimp (maxSteps := 2000000) (disch := first | omega | (simp; done) | (simp; omega)) only [SA, SB, SC, SD, SE, SF, SG, Nat.reduceLT, Nat.reduceAdd, Nat.reduceSub, Nat.reduceMul, Nat.reduceLeDiff, Nat.reduceEqDiff, Nat.reduceBEq, Int.reduceToNat, Int.reduceLE, Int.reduceLT, Int.reduceEq, Int.reduceNeg, reduceCtorEq, ↓reduceIte, ax, ay, cs_load, eq_vars] | refine Cut.go ?_ | refine Both.intro ?_ ?_ | (refine Br.intro ?_ ?_ <;> intro hb <;> have hb' := hb <;> (try simp only [SH] at hb') <;> (try simp -dsimp (maxSteps := 2000000) (disch := first | omega | (simp; done) | (simp; omega)) only [SA, SB, SC, SD, SE, SF, SG, Nat.reduceLT, Nat.reduceAdd, Nat.reduceSub, Nat.reduceMul, Nat.reduceLeDiff, Nat.reduceEqDiff, Nat.reduceBEq, Int.reduceToNat, Int.reduceLE, Int.reduceLT, Int.reduceEq, Int.reduceNeg, reduceCtorEq, ↓reduceIte, hb, ax, ay, cs_load, eq_vars]))))
      · refine Round.go (i + 1) (by omega) ⟨by omega, ?_⟩ (by ((try simp only [List.replicate_succ, List.replicate_zero, List.cons_append, List.nil_append]); repeat' (first | exact trivial | refine ⟨.inl rfl, ?_⟩ | refine ⟨.inr rfl, ?_⟩ | refine ⟨.inr (by simp), ?_⟩))) (Drops.refl _)
        rw [h2, d1, d2, hb']; simp only [List.cons.injEq, true_and]
      · have : l ≠ m := fun h => by subst h; exact hb' rfl
        simp [this]
    · have hi : i = l.length := by omega
      have : l = m := h2.2 (by rw [hi, List.drop_length, hlen, List.drop_length])
      simp [this]
theorem vars_call {x y : D} {l m : List V} {σ : St} {K : Out → St → Prop} (hx : Vd x l) (hy : Vd y m) (hl : l.length ≤ 1000) (hk : K (.ret (.bool (decide (l = m)))) σ) : goodFn Try.prog 13 = true ∧ Ok Try.prog 13 [x, y] σ K := pass gd13 (vars_ok hx hy hl σ) hk

/-- What is told of a text without variables. -/
def getsF (s : List UInt8) : D := match arithF s [] with
  | .ok r => .tuple [.int .i64 r.1, .bool true]
  | .error e => .tuple [.int .i64 0, .bool (e == 0)]
theorem gets_call {s : List UInt8} {σ : St} {K : Out → St → Prop} (hk : ∀ m, σ.next ≤ m → K (.ret (getsF s)) ⟨σ.obj, m⟩) : goodFn Try.prog 16 = true ∧ Ok Try.prog 16 [.str s] σ K := by
  refine ⟨gd16, ?_⟩
  apply en16
  simp -dsimp (maxSteps := 2000000) (disch := first | omega | (simp; done) | (simp; omega)) only [SA, SB, SC, SD, SE, SF, SG, Nat.reduceLT, Nat.reduceAdd, Nat.reduceSub, Nat.reduceMul, Nat.reduceLeDiff, Nat.reduceEqDiff, Nat.reduceBEq, Int.reduceToNat, Int.reduceLE, Int.reduceLT, Int.reduceEq, Int.reduceNeg, reduceCtorEq, ↓reduceIte, ic16, List.replicate_succ, List.replicate_zero]
  (repeat' (first | simp -dsimp (maxSteps := 2000000) (disch := first | omega | (simp; done) | (simp; omega)) only [SA, SB, SC, SD, SE, SF, SG, Nat.reduceLT, Nat.reduceAdd, Nat.reduceSub, Nat.reduceMul, Nat.reduceLeDiff, Nat.reduceEqDiff, Nat.reduceBEq, Int.reduceToNat, Int.reduceLE, Int.reduceLT, Int.reduceEq, Int.reduceNeg, reduceCtorEq, ↓reduceIte] | refine Cut.go ?_ | refine Both.intro ?_ ?_ | (refine Br.intro ?_ ?_ <;> intro hb <;> have hb' := hb <;> (try simp only [SH] at hb') <;> (try simp -dsimp (maxSteps := 2000000) (disch := first | omega | (simp; done) | (simp; omega)) only [SA, SB, SC, SD, SE, SF, SG, Nat.reduceLT, Nat.reduceAdd, Nat.reduceSub, Nat.reduceMul, Nat.reduceLeDiff, Nat.reduceEqDiff, Nat.reduceBEq, Int.reduceToNat, Int.reduceLE, Int.reduceLT, Int.reduceEq, Int.reduceNeg, reduceCtorEq, ↓reduceIte, hb]))))
  refine eval_call .vnil (by simp) fun m hm => ⟨fun r hr y hy => ?_, fun e he => ?_⟩
  · have e0 : ((0 : Int) == 0) = true := rfl
    (repeat' (first | simp -dsimp (maxSteps := 2000000) (disch := first | omega | (simp; done) | (simp; omega)) only [SA, SB, SC, SD, SE, SF, SG, Nat.reduceLT, Nat.reduceAdd, Nat.reduceSub, Nat.reduceMul, Nat.reduceLeDiff, Nat.reduceEqDiff, Nat.reduceBEq, Int.reduceToNat, Int.reduceLE, Int.reduceLT, Int.reduceEq, Int.reduceNeg, reduceCtorEq, ↓reduceIte, e0] | refine Cut.go ?_ | refine Both.intro ?_ ?_ | (refine Br.intro ?_ ?_ <;> intro hb <;> have hb' := hb <;> (try simp only [SH] at hb') <;> (try simp -dsimp (maxSteps := 2000000) (disch := first | omega | (simp; done) | (simp; omega)) only [SA, SB, SC, SD, SE, SF, SG, Nat.reduceLT, Nat.reduceAdd, Nat.reduceSub, Nat.reduceMul, Nat.reduceLeDiff, Nat.reduceEqDiff, Nat.reduceBEq, Int.reduceToNat, Int.reduceLE, Int.reduceLT, Int.reduceEq, Int.reduceNeg, reduceCtorEq, ↓reduceIte, hb, e0]))))
    have := hk m hm
    rw [getsF, hr] at this
    exact this
  · (repeat' (first | simp -dsimp (maxSteps := 2000000) (disch := first | omega | (simp; done) | (simp; omega)) only [SA, SB, SC, SD, SE, SF, SG, Nat.reduceLT, Nat.reduceAdd, Nat.reduceSub, Nat.reduceMul, Nat.reduceLeDiff, Nat.reduceEqDiff, Nat.reduceBEq, Int.reduceToNat, Int.reduceLE, Int.reduceLT, Int.reduceEq, Int.reduceNeg, reduceCtorEq, ↓reduceIte] | refine Cut.go ?_ | refine Both.intro ?_ ?_ | (refine Br.intro ?_ ?_ <;> intro hb <;> have hb' := hb <;> (try simp only [SH] at hb') <;> (try simp -dsimp (maxSteps := 2000000) (disch := first | omega | (simp; done) | (simp; omega)) only [SA, SB, SC, SD, SE, SF, SG, Nat.reduceLT, Nat.reduceAdd, Nat.reduceSub, Nat.reduceMul, Nat.reduceLeDiff, Nat.reduceEqDiff, Nat.reduceBEq, Int.reduceToNat, Int.reduceLE, Int.reduceLT, Int.reduceEq, Int.reduceNeg, reduceCtorEq, ↓reduceIte, hb]))))
    have := hk m hm
    rw [getsF, he] at this
    exact this
theorem eval_is {s : List UInt8} {x : D} {l : List V} {r : Int × List V} {σ : St} {K : Out → St → Prop} (h : arithF s l = .ok r) (hx : Vd x l) (hv : ∀ v ∈ l, v.value.length ≤ 9223372036854775807)
    (hk : ∀ m y, σ.next ≤ m → Vd y r.2 → K (.ret (.tuple [.int .i64 r.1, y, .int .i64 0])) ⟨σ.obj, m⟩) : goodFn Try.prog 11 = true ∧ Ok Try.prog 11 [.str s, x] σ K :=
  eval_call hx hv fun m hm => ⟨fun r' hr' y hy => by rw [h] at hr'; cases hr'; exact hk m y hm hy, fun e he => by rw [h] at he; cases he⟩
theorem eval_not {s : List UInt8} {x : D} {l : List V} {e : Int} {σ : St} {K : Out → St → Prop} (h : arithF s l = .error e) (hx : Vd x l) (hv : ∀ v ∈ l, v.value.length ≤ 9223372036854775807)
    (hk : ∀ m, σ.next ≤ m → K (.ret (.tuple [.int .i64 0, .nils, .int .i64 e])) ⟨σ.obj, m⟩) : goodFn Try.prog 11 = true ∧ Ok Try.prog 11 [.str s, x] σ K :=
  eval_call hx hv fun m hm => ⟨fun r' hr' y hy => by (rw [h] at hr'; cases hr'), fun e' he => by rw [h] at he; cases he; exact hk m hm⟩
theorem gets_is {s : List UInt8} {d : D} {σ : St} {K : Out → St → Prop} (h : getsF s = d) (hk : ∀ m, σ.next ≤ m → K (.ret d) ⟨σ.obj, m⟩) : goodFn Try.prog 16 = true ∧ Ok Try.prog 16 [.str s] σ K := by
  subst h; exact gets_call hk

theorem ex1 : getsF [49, 43, 50, 42, 51] = .tuple [.int .i64 7, .bool true] := by kernel_rfl
theorem ex2 : arithF [120, 61, 53] [] = .ok (5, [⟨[120], [53]⟩]) := by kernel_rfl
theorem ex3 : arithF [49, 124, 124, 40, 121, 61, 50, 41] [] = .ok (1, []) := by kernel_rfl
theorem ex4 : getsF [55, 47, 45, 50] = .tuple [.int .i64 (-3), .bool true] := by kernel_rfl
theorem ex5 : getsF [48, 49, 48, 43, 48, 120, 49, 48] = .tuple [.int .i64 24, .bool true] := by kernel_rfl
theorem awake_ok (σ : St) : Ok Try.prog 10 [] σ (fun o s' => ∃ m, σ.next ≤ m ∧ s' = ⟨σ.obj, m⟩ ∧ o = .ret (.bool true)) := by
  apply en10
  have z0 : ((0 : Int) == 0) = true := rfl
  have z1 : ((1 : Int) == 1) = true := rfl
  have z5 : ((5 : Int) == 5) = true := rfl
  have z7 : ((7 : Int) == 7) = true := rfl
  have z3 : ((-3 : Int) == -3) = true := rfl
  have z24 : ((24 : Int) == 24) = true := rfl
  have zl : (((0 : Nat) : Int) == 0) = true := rfl
  simp -dsimp (maxSteps := 2000000) (disch := first | omega | (simp; done) | (simp; omega)) only [SA, SB, SC, SD, SE, SF, SG, Nat.reduceLT, Nat.reduceAdd, Nat.reduceSub, Nat.reduceMul, Nat.reduceLeDiff, Nat.reduceEqDiff, Nat.reduceBEq, Int.reduceToNat, Int.reduceLE, Int.reduceLT, Int.reduceEq, Int.reduceNeg, reduceCtorEq, ↓reduceIte, ic10, List.replicate_succ, List.replicate_zero]
  (repeat' (first | simp -dsimp (maxSteps := 2000000) (disch := first | omega | (simp; done) | (simp; omega)) only [SA, SB, SC, SD, SE, SF, SG, Nat.reduceLT, Nat.reduceAdd, Nat.reduceSub, Nat.reduceMul, Nat.reduceLeDiff, Nat.reduceEqDiff, Nat.reduceBEq, Int.reduceToNat, Int.reduceLE, Int.reduceLT, Int.reduceEq, Int.reduceNeg, reduceCtorEq, ↓reduceIte] | refine Cut.go ?_ | refine Both.intro ?_ ?_ | (refine Br.intro ?_ ?_ <;> intro hb <;> have hb' := hb <;> (try simp only [SH] at hb') <;> (try simp -dsimp (maxSteps := 2000000) (disch := first | omega | (simp; done) | (simp; omega)) only [SA, SB, SC, SD, SE, SF, SG, Nat.reduceLT, Nat.reduceAdd, Nat.reduceSub, Nat.reduceMul, Nat.reduceLeDiff, Nat.reduceEqDiff, Nat.reduceBEq, Int.reduceToNat, Int.reduceLE, Int.reduceLT, Int.reduceEq, Int.reduceNeg, reduceCtorEq, ↓reduceIte, hb]))))
  refine gets_is ex1 fun m1 h1 => ?_
  (repeat' (first | simp -dsimp (maxSteps := 2000000) (disch := first | omega | (simp; done) | (simp; omega)) only [SA, SB, SC, SD, SE, SF, SG, Nat.reduceLT, Nat.reduceAdd, Nat.reduceSub, Nat.reduceMul, Nat.reduceLeDiff, Nat.reduceEqDiff, Nat.reduceBEq, Int.reduceToNat, Int.reduceLE, Int.reduceLT, Int.reduceEq, Int.reduceNeg, reduceCtorEq, ↓reduceIte] | refine Cut.go ?_ | refine Both.intro ?_ ?_ | (refine Br.intro ?_ ?_ <;> intro hb <;> have hb' := hb <;> (try simp only [SH] at hb') <;> (try simp -dsimp (maxSteps := 2000000) (disch := first | omega | (simp; done) | (simp; omega)) only [SA, SB, SC, SD, SE, SF, SG, Nat.reduceLT, Nat.reduceAdd, Nat.reduceSub, Nat.reduceMul, Nat.reduceLeDiff, Nat.reduceEqDiff, Nat.reduceBEq, Int.reduceToNat, Int.reduceLE, Int.reduceLT, Int.reduceEq, Int.reduceNeg, reduceCtorEq, ↓reduceIte, hb]))))
  refine eval_is ex2 .vnil (by simp) fun m2 y2 h2 k2 => ?_
  (repeat' (first | simp -dsimp (maxSteps := 2000000) (disch := first | omega | (simp; done) | (simp; omega)) only [SA, SB, SC, SD, SE, SF, SG, Nat.reduceLT, Nat.reduceAdd, Nat.reduceSub, Nat.reduceMul, Nat.reduceLeDiff, Nat.reduceEqDiff, Nat.reduceBEq, Int.reduceToNat, Int.reduceLE, Int.reduceLT, Int.reduceEq, Int.reduceNeg, reduceCtorEq, ↓reduceIte] | refine Cut.go ?_ | refine Both.intro ?_ ?_ | (refine Br.intro ?_ ?_ <;> intro hb <;> have hb' := hb <;> (try simp only [SH] at hb') <;> (try simp -dsimp (maxSteps := 2000000) (disch := first | omega | (simp; done) | (simp; omega)) only [SA, SB, SC, SD, SE, SF, SG, Nat.reduceLT, Nat.reduceAdd, Nat.reduceSub, Nat.reduceMul, Nat.reduceLeDiff, Nat.reduceEqDiff, Nat.reduceBEq, Int.reduceToNat, Int.reduceLE, Int.reduceLT, Int.reduceEq, Int.reduceNeg, reduceCtorEq, ↓reduceIte, hb]))))
  refine eval_is ex3 .vnil (by simp) fun m3 y3 h3 k3 => ?_
  (repeat' (first | simp -dsimp (maxSteps := 2000000) (disch := first | omega | (simp; done) | (simp; omega)) only [SA, SB, SC, SD, SE, SF, SG, Nat.reduceLT, Nat.reduceAdd, Nat.reduceSub, Nat.reduceMul, Nat.reduceLeDiff, Nat.reduceEqDiff, Nat.reduceBEq, Int.reduceToNat, Int.reduceLE, Int.reduceLT, Int.reduceEq, Int.reduceNeg, reduceCtorEq, ↓reduceIte] | refine Cut.go ?_ | refine Both.intro ?_ ?_ | (refine Br.intro ?_ ?_ <;> intro hb <;> have hb' := hb <;> (try simp only [SH] at hb') <;> (try simp -dsimp (maxSteps := 2000000) (disch := first | omega | (simp; done) | (simp; omega)) only [SA, SB, SC, SD, SE, SF, SG, Nat.reduceLT, Nat.reduceAdd, Nat.reduceSub, Nat.reduceMul, Nat.reduceLeDiff, Nat.reduceEqDiff, Nat.reduceBEq, Int.reduceToNat, Int.reduceLE, Int.reduceLT, Int.reduceEq, Int.reduceNeg, reduceCtorEq, ↓reduceIte, hb]))))
  refine gets_is ex4 fun m4 h4 => ?_
  (repeat' (first | simp -dsimp (maxSteps := 2000000) (disch := first | omega | (simp; done) | (simp; omega)) only [SA, SB, SC, SD, SE, SF, SG, Nat.reduceLT, Nat.reduceAdd, Nat.reduceSub, Nat.reduceMul, Nat.reduceLeDiff, Nat.reduceEqDiff, Nat.reduceBEq, Int.reduceToNat, Int.reduceLE, Int.reduceLT, Int.reduceEq, Int.reduceNeg, reduceCtorEq, ↓reduceIte] | refine Cut.go ?_ | refine Both.intro ?_ ?_ | (refine Br.intro ?_ ?_ <;> intro hb <;> have hb' := hb <;> (try simp only [SH] at hb') <;> (try simp -dsimp (maxSteps := 2000000) (disch := first | omega | (simp; done) | (simp; omega)) only [SA, SB, SC, SD, SE, SF, SG, Nat.reduceLT, Nat.reduceAdd, Nat.reduceSub, Nat.reduceMul, Nat.reduceLeDiff, Nat.reduceEqDiff, Nat.reduceBEq, Int.reduceToNat, Int.reduceLE, Int.reduceLT, Int.reduceEq, Int.reduceNeg, reduceCtorEq, ↓reduceIte, hb]))))
  refine gets_is ex5 fun m5 h5 => ?_
  have hl3 := k3.len
  have hd : decide ([(⟨[120], [53]⟩ : V)] = [⟨[120], [53]⟩]) = true := by simp
  have hv2 : Vd (.slc 2 [.agg [.str [120], .str [53]]] .exact) [⟨[120], [53]⟩] := .vsome [⟨[120], [53]⟩] .exact
  (repeat' (first | simp -dsimp (maxSteps := 2000000) (disch := first | omega | (simp; done) | (simp; omega)) only [SA, SB, SC, SD, SE, SF, SG, Nat.reduceLT, Nat.reduceAdd, Nat.reduceSub, Nat.reduceMul, Nat.reduceLeDiff, Nat.reduceEqDiff, Nat.reduceBEq, Int.reduceToNat, Int.reduceLE, Int.reduceLT, Int.reduceEq, Int.reduceNeg, reduceCtorEq, ↓reduceIte, z0, z1, z5, z7, z3, z24, zl, hl3, hd] | refine Cut.go ?_ | refine Both.intro ?_ ?_ | refine vars_call k2 hv2 (by simp) ?_ | (refine Br.intro ?_ ?_ <;> intro hb <;> have hb' := hb <;> (try simp only [SH] at hb') <;> (try simp -dsimp (maxSteps := 2000000) (disch := first | omega | (simp; done) | (simp; omega)) only [SA, SB, SC, SD, SE, SF, SG, Nat.reduceLT, Nat.reduceAdd, Nat.reduceSub, Nat.reduceMul, Nat.reduceLeDiff, Nat.reduceEqDiff, Nat.reduceBEq, Int.reduceToNat, Int.reduceLE, Int.reduceLT, Int.reduceEq, Int.reduceNeg, reduceCtorEq, ↓reduceIte, hb, z0, z1, z5, z7, z3, z24, zl, hl3, hd]))))
  refine ⟨m5, ?_, rfl⟩
  simp only [] at h2 h3 h4 h5
  omega
theorem awake_call {σ : St} {K : Out → St → Prop} (hk : ∀ m, σ.next ≤ m → K (.ret (.bool true)) ⟨σ.obj, m⟩) : goodFn Try.prog 10 = true ∧ Ok Try.prog 10 [] σ K :=
  ⟨gd10, (awake_ok σ).mono fun o s' ⟨m, h1, h2, h3⟩ => by subst h2; subst h3; exact hk m h1⟩
end Go.Proofs.Ytkjgadanaknleaa
