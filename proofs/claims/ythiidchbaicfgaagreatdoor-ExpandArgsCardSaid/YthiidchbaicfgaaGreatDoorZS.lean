/-
  THE WALKS, layer 13, PART 27: a table is made, exactly.
-/
import Derived.Test.YthiidchbaicfgaaGreatDoorZR
namespace Go.Proofs.YthiidchbaicfgaaGreatDoor
open Go Go.Id
set_option linter.unusedSimpArgs false
set_option linter.unusedVariables false
set_option maxRecDepth 100000
set_option maxHeartbeats 8000000

theorem Strs.scal {x : D} {l : List (List UInt8)} (h : Strs x l) : scal x = true := by cases h <;> rfl
theorem copied61x {x : D} {l : List (List UInt8)} (hx : Strs x l) (hl : l.length ≤ 1000000) (σ : St) : Ok Tryz.prog 61 [x] σ (fun o s => (∃ m, σ.next ≤ m ∧ s = ⟨σ.obj, m⟩) ∧ ∃ y, Strs y l ∧ o = .ret y) := by
  refine Ok.fresh fun hf => Ok.drop ?_
  have hm : maxLen = 2 ^ 63 - 1 := rfl
  apply en61
  simp -dsimp (maxSteps := 2000000) (disch := first | omega | (simp; done) | (simp; omega)) only [SA, SB, SC, SD, SE, SF, SG, SI, Nat.reduceLT, Nat.reduceAdd, Nat.reduceSub, Nat.reduceMul, Nat.reduceLeDiff, Nat.reduceEqDiff, Nat.reduceBEq, Int.reduceToNat, Int.reduceLE, Int.reduceLT, Int.reduceEq, Int.reduceNeg, reduceCtorEq, ↓reduceIte, ic61, List.replicate_succ, List.replicate_zero]
  by_cases h0 : l = []
  · subst h0
    have e : iappend 1 16 .nils x σ = some (.nils, σ) := by cases hx <;> rfl
    (repeat' (first | simp -dsimp (maxSteps := 2000000) (disch := first | omega | (simp; done) | (simp; omega)) only [SA, SB, SC, SD, SE, SF, SG, SI, Nat.reduceLT, Nat.reduceAdd, Nat.reduceSub, Nat.reduceMul, Nat.reduceLeDiff, Nat.reduceEqDiff, Nat.reduceBEq, Int.reduceToNat, Int.reduceLE, Int.reduceLT, Int.reduceEq, Int.reduceNeg, reduceCtorEq, ↓reduceIte, e] | refine Cut.go ?_ | refine Both.intro ?_ ?_ | (refine Br.intro ?_ ?_ <;> intro hb <;> have hb' := hb <;> (try simp only [SH] at hb') <;> (try simp -dsimp (maxSteps := 2000000) (disch := first | omega | (simp; done) | (simp; omega)) only [SA, SB, SC, SD, SE, SF, SG, SI, Nat.reduceLT, Nat.reduceAdd, Nat.reduceSub, Nat.reduceMul, Nat.reduceLeDiff, Nat.reduceEqDiff, Nat.reduceBEq, Int.reduceToNat, Int.reduceLE, Int.reduceLT, Int.reduceEq, Int.reduceNeg, reduceCtorEq, ↓reduceIte, hb, e]))))
    exact ⟨_, Drops.refl _, ⟨σ.next, Nat.le_refl _, rfl⟩, _, .snil, rfl⟩
  · have e : iappend 1 16 .nils x σ = some (.slc 1 (l.map .str) (.opened σ.next), σ.alloc .tok) := by
      cases hx with
      | snil => exact absurd rfl h0
      | ssome l r =>
        have : l.length ≠ 0 := by simpa using h0
        simp only [iappend, elems, if_true, List.length_map]
        rw [if_neg this, if_pos (by omega)]
    (repeat' (first | simp -dsimp (maxSteps := 2000000) (disch := first | omega | (simp; done) | (simp; omega)) only [SA, SB, SC, SD, SE, SF, SG, SI, Nat.reduceLT, Nat.reduceAdd, Nat.reduceSub, Nat.reduceMul, Nat.reduceLeDiff, Nat.reduceEqDiff, Nat.reduceBEq, Int.reduceToNat, Int.reduceLE, Int.reduceLT, Int.reduceEq, Int.reduceNeg, reduceCtorEq, ↓reduceIte, e] | refine Cut.go ?_ | refine Both.intro ?_ ?_ | (refine Br.intro ?_ ?_ <;> intro hb <;> have hb' := hb <;> (try simp only [SH] at hb') <;> (try simp -dsimp (maxSteps := 2000000) (disch := first | omega | (simp; done) | (simp; omega)) only [SA, SB, SC, SD, SE, SF, SG, SI, Nat.reduceLT, Nat.reduceAdd, Nat.reduceSub, Nat.reduceMul, Nat.reduceLeDiff, Nat.reduceEqDiff, Nat.reduceBEq, Int.reduceToNat, Int.reduceLE, Int.reduceLT, Int.reduceEq, Int.reduceNeg, reduceCtorEq, ↓reduceIte, hb, e]))))
    exact ⟨_, drops_old hf (fun i hi => by rw [alloc_obj, if_neg (by omega)]), ⟨_, by rw [alloc_next]; omega, rfl⟩, _, .ssome _ _, rfl⟩
def argsB (l : List (List UInt8)) : Bool := decide (l.length ≤ 256) && !tooLong l
theorem TabY.args {σ0 s : St} {j : Nat} {l : Vs} {y z y' : D} (h : TabY σ0 j l y z s) {x : D} (hj : s.obj j = some (.cells [x, y, z])) (sy : scal y' = true) : TabY σ0 j l y' z (s.put j (some (.cells [x, y', z]))) := by
  obtain ⟨x', hj', sx, sy0, sz, hx, hfar⟩ := h.x
  rw [hj] at hj'
  simp only [Option.some.injEq, Ob.cells.injEq, List.cons.injEq] at hj'
  obtain ⟨rfl, -⟩ := hj'
  have nj := h.nxt
  refine ⟨fun i hi => ?_, nj, fun i hi => ?_, h.few, h.sorted, x, ?_, sx, sy, sz, ?_, hfar⟩
  · rw [put_obj, if_neg (by omega)]; exact h.low i hi
  · have : s.next ≤ i := hi; rw [put_obj, if_neg (by omega)]; exact h.fresh i this
  · rw [put_obj, if_pos rfl]
  · rcases hx with ⟨rfl, rfl⟩ | ⟨b, t, rfl, o1, o2, o3⟩
    · exact .inl ⟨rfl, rfl⟩
    · obtain ⟨f1, f2, f3, f4, f5⟩ := hfar _ _ _ rfl
      exact .inr ⟨b, t, rfl, by rw [put_obj, if_neg (by omega)]; exact o1, by rw [put_obj, if_neg (by omega)]; exact o2, by rw [put_obj, if_neg (by omega)]; exact o3⟩
def ArgsOut (σ0 : St) (j : Nat) (l : Vs) (y z : D) (ag : List (List UInt8)) (o : Out) (s : St) : Prop := if argsB ag = true then o = .ret (.int .i64 0) ∧ ∃ y', Strs y' ag ∧ TabY σ0 j l y' z s else o = .ret (.int .i64 2) ∧ TabY σ0 j l y z s
theorem setArgs39x {σ0 σ : St} {j : Nat} {l : Vs} {y z a : D} {ag : List (List UInt8)} (ht : TabY σ0 j l y z σ) (ha : Strs a ag) (hl : ag.length ≤ 1000000) :
    Ok Tryz.prog 39 [.ref j 0, a] σ (ArgsOut σ0 j l y z ag) := by
  obtain ⟨x, hj, sx, sy, sz, hx, hfar⟩ := ht.x
  have hla := ha.len
  apply en39
  simp -dsimp (maxSteps := 2000000) (disch := first | omega | (simp; done) | (simp; omega)) only [SA, SB, SC, SD, SE, SF, SG, SI, Nat.reduceLT, Nat.reduceAdd, Nat.reduceSub, Nat.reduceMul, Nat.reduceLeDiff, Nat.reduceEqDiff, Nat.reduceBEq, Int.reduceToNat, Int.reduceLE, Int.reduceLT, Int.reduceEq, Int.reduceNeg, reduceCtorEq, ↓reduceIte, ic39, List.replicate_succ, List.replicate_zero]
  by_cases h256 : ag.length ≤ 256
  · have hcond : decide ((ag.length : Int) > 256) = false := by simp; omega
    (repeat' (first | simp -dsimp (maxSteps := 2000000) (disch := first | omega | (simp; done) | (simp; omega)) only [SA, SB, SC, SD, SE, SF, SG, SI, Nat.reduceLT, Nat.reduceAdd, Nat.reduceSub, Nat.reduceMul, Nat.reduceLeDiff, Nat.reduceEqDiff, Nat.reduceBEq, Int.reduceToNat, Int.reduceLE, Int.reduceLT, Int.reduceEq, Int.reduceNeg, reduceCtorEq, ↓reduceIte, hla, hcond] | refine Cut.go ?_ | refine Both.intro ?_ ?_ | (refine Br.intro ?_ ?_ <;> intro hb <;> have hb' := hb <;> (try simp only [SH] at hb') <;> (try simp -dsimp (maxSteps := 2000000) (disch := first | omega | (simp; done) | (simp; omega)) only [SA, SB, SC, SD, SE, SF, SG, SI, Nat.reduceLT, Nat.reduceAdd, Nat.reduceSub, Nat.reduceMul, Nat.reduceLeDiff, Nat.reduceEqDiff, Nat.reduceBEq, Int.reduceToNat, Int.reduceLE, Int.reduceLT, Int.reduceEq, Int.reduceNeg, reduceCtorEq, ↓reduceIte, hb, hla, hcond]))))
    refine loop_go (α := Nat) (fun i => [.ref j 0, a, .junk, .junk, .int .i64 0, .junk, .junk, .junk, .junk, .junk, .junk, .junk, a, .int .i64 ag.length, .int .i64 i] ++ List.replicate 12 .junk) (fun _ => σ) (fun i => ag.length - i) (fun i => i ≤ ag.length ∧ tooLong (ag.take i) = false) 0 ⟨Nat.zero_le _, rfl⟩ (by ((try simp only [List.replicate_succ, List.replicate_zero, List.cons_append, List.nil_append]); repeat' (first | exact trivial | refine ⟨.inl rfl, ?_⟩ | refine ⟨.inr rfl, ?_⟩ | refine ⟨.inr (by simp), ?_⟩))) (Drops.refl _) ?_
    rintro i ⟨h1, h2⟩
    simp -dsimp (maxSteps := 2000000) (disch := first | omega | (simp; done) | (simp; omega)) only [SA, SB, SC, SD, SE, SF, SG, SI, Nat.reduceLT, Nat.reduceAdd, Nat.reduceSub, Nat.reduceMul, Nat.reduceLeDiff, Nat.reduceEqDiff, Nat.reduceBEq, Int.reduceToNat, Int.reduceLE, Int.reduceLT, Int.reduceEq, Int.reduceNeg, reduceCtorEq, ↓reduceIte, List.replicate_succ, List.replicate_zero]
    by_cases hi : i < ag.length
    · have hc2 : decide ((i : Int) < ag.length) = true := by simp; exact hi
      have ax := ha.at hi
      have lx : cellsAt [D.str ag[i]] 0 none = some (.str ag[i]) := rfl
      have ht' : tooLong (ag.take (i + 1)) = decide (4096 < (ag[i]).length) := by
        rw [List.take_succ_eq_append_getElem hi]
        have : tooLong (ag.take i ++ [ag[i]]) = (tooLong (ag.take i) || decide (4096 < (ag[i]).length)) := by
          simp only [tooLong, List.any_append, List.any_cons, List.any_nil, Bool.or_false]
        rw [this, h2, Bool.false_or]
      by_cases h4 : 4096 < (ag[i]).length
      · have hc3 : decide (((ag[i]).length : Int) > 4096) = true := by simp; omega
        (repeat' (first | simp -dsimp (maxSteps := 2000000) (disch := first | omega | (simp; done) | (simp; omega)) only [SA, SB, SC, SD, SE, SF, SG, SI, Nat.reduceLT, Nat.reduceAdd, Nat.reduceSub, Nat.reduceMul, Nat.reduceLeDiff, Nat.reduceEqDiff, Nat.reduceBEq, Int.reduceToNat, Int.reduceLE, Int.reduceLT, Int.reduceEq, Int.reduceNeg, reduceCtorEq, ↓reduceIte, hc2, ax, lx, hc3] | refine Cut.go ?_ | refine Both.intro ?_ ?_ | (refine Br.intro ?_ ?_ <;> intro hb <;> have hb' := hb <;> (try simp only [SH] at hb') <;> (try simp -dsimp (maxSteps := 2000000) (disch := first | omega | (simp; done) | (simp; omega)) only [SA, SB, SC, SD, SE, SF, SG, SI, Nat.reduceLT, Nat.reduceAdd, Nat.reduceSub, Nat.reduceMul, Nat.reduceLeDiff, Nat.reduceEqDiff, Nat.reduceBEq, Int.reduceToNat, Int.reduceLE, Int.reduceLT, Int.reduceEq, Int.reduceNeg, reduceCtorEq, ↓reduceIte, hb, hc2, ax, lx, hc3]))))
        have : argsB ag = false := by
          have : tooLong ag = true := by
            unfold tooLong
            rw [List.any_eq_true]
            exact ⟨ag[i], List.getElem_mem hi, by simpa using h4⟩
          rw [argsB, this]; simp
        rw [ArgsOut, if_neg (by rw [this]; decide)]
        exact ⟨rfl, ht⟩
      · have hc3 : decide (((ag[i]).length : Int) > 4096) = false := by simp; omega
        (repeat' (first | simp -dsimp (maxSteps := 2000000) (disch := first | omega | (simp; done) | (simp; omega)) only [SA, SB, SC, SD, SE, SF, SG, SI, Nat.reduceLT, Nat.reduceAdd, Nat.reduceSub, Nat.reduceMul, Nat.reduceLeDiff, Nat.reduceEqDiff, Nat.reduceBEq, Int.reduceToNat, Int.reduceLE, Int.reduceLT, Int.reduceEq, Int.reduceNeg, reduceCtorEq, ↓reduceIte, hc2, ax, lx, hc3] | refine Cut.go ?_ | refine Both.intro ?_ ?_ | (refine Br.intro ?_ ?_ <;> intro hb <;> have hb' := hb <;> (try simp only [SH] at hb') <;> (try simp -dsimp (maxSteps := 2000000) (disch := first | omega | (simp; done) | (simp; omega)) only [SA, SB, SC, SD, SE, SF, SG, SI, Nat.reduceLT, Nat.reduceAdd, Nat.reduceSub, Nat.reduceMul, Nat.reduceLeDiff, Nat.reduceEqDiff, Nat.reduceBEq, Int.reduceToNat, Int.reduceLE, Int.reduceLT, Int.reduceEq, Int.reduceNeg, reduceCtorEq, ↓reduceIte, hb, hc2, ax, lx, hc3]))))
        exact Round.go (i + 1) (by omega) ⟨by omega, by rw [ht']; simpa using h4⟩ (by ((try simp only [List.replicate_succ, List.replicate_zero, List.cons_append, List.nil_append]); repeat' (first | exact trivial | refine ⟨.inl rfl, ?_⟩ | refine ⟨.inr rfl, ?_⟩ | refine ⟨.inr (by simp), ?_⟩))) (Drops.refl _)
    · have hc2 : decide ((i : Int) < ag.length) = false := by simp; omega
      have hok : argsB ag = true := by
        rw [List.take_of_length_le (by omega)] at h2
        rw [argsB, h2]; simpa using h256
      (repeat' (first | simp -dsimp (maxSteps := 2000000) (disch := first | omega | (simp; done) | (simp; omega)) only [SA, SB, SC, SD, SE, SF, SG, SI, Nat.reduceLT, Nat.reduceAdd, Nat.reduceSub, Nat.reduceMul, Nat.reduceLeDiff, Nat.reduceEqDiff, Nat.reduceBEq, Int.reduceToNat, Int.reduceLE, Int.reduceLT, Int.reduceEq, Int.reduceNeg, reduceCtorEq, ↓reduceIte, hc2] | refine Cut.go ?_ | refine Both.intro ?_ ?_ | (refine Br.intro ?_ ?_ <;> intro hb <;> have hb' := hb <;> (try simp only [SH] at hb') <;> (try simp -dsimp (maxSteps := 2000000) (disch := first | omega | (simp; done) | (simp; omega)) only [SA, SB, SC, SD, SE, SF, SG, SI, Nat.reduceLT, Nat.reduceAdd, Nat.reduceSub, Nat.reduceMul, Nat.reduceLeDiff, Nat.reduceEqDiff, Nat.reduceBEq, Int.reduceToNat, Int.reduceLE, Int.reduceLT, Int.reduceEq, Int.reduceNeg, reduceCtorEq, ↓reduceIte, hb, hc2]))))
      refine ⟨gd61, (copied61x ha hl σ).mono fun o s h => ?_⟩
      obtain ⟨⟨m, hm, rfl⟩, y', hy', rfl⟩ := h
      have dy := dcells_sc hy'.scal
      (repeat' (first | simp -dsimp (maxSteps := 2000000) (disch := first | omega | (simp; done) | (simp; omega)) only [SA, SB, SC, SD, SE, SF, SG, SI, Nat.reduceLT, Nat.reduceAdd, Nat.reduceSub, Nat.reduceMul, Nat.reduceLeDiff, Nat.reduceEqDiff, Nat.reduceBEq, Int.reduceToNat, Int.reduceLE, Int.reduceLT, Int.reduceEq, Int.reduceNeg, reduceCtorEq, ↓reduceIte, hj, inilM_r, dy] | refine Cut.go ?_ | refine Both.intro ?_ ?_ | (refine Br.intro ?_ ?_ <;> intro hb <;> have hb' := hb <;> (try simp only [SH] at hb') <;> (try simp -dsimp (maxSteps := 2000000) (disch := first | omega | (simp; done) | (simp; omega)) only [SA, SB, SC, SD, SE, SF, SG, SI, Nat.reduceLT, Nat.reduceAdd, Nat.reduceSub, Nat.reduceMul, Nat.reduceLeDiff, Nat.reduceEqDiff, Nat.reduceBEq, Int.reduceToNat, Int.reduceLE, Int.reduceLT, Int.reduceEq, Int.reduceNeg, reduceCtorEq, ↓reduceIte, hb, hj, inilM_r, dy]))))
      rw [ArgsOut, if_pos hok]
      exact ⟨rfl, y', hy', (ht.more (s' := ⟨σ.obj, m⟩) rfl hm).args hj hy'.scal⟩
  · have hcond : decide ((ag.length : Int) > 256) = true := by simp; omega
    (repeat' (first | simp -dsimp (maxSteps := 2000000) (disch := first | omega | (simp; done) | (simp; omega)) only [SA, SB, SC, SD, SE, SF, SG, SI, Nat.reduceLT, Nat.reduceAdd, Nat.reduceSub, Nat.reduceMul, Nat.reduceLeDiff, Nat.reduceEqDiff, Nat.reduceBEq, Int.reduceToNat, Int.reduceLE, Int.reduceLT, Int.reduceEq, Int.reduceNeg, reduceCtorEq, ↓reduceIte, hla, hcond] | refine Cut.go ?_ | refine Both.intro ?_ ?_ | (refine Br.intro ?_ ?_ <;> intro hb <;> have hb' := hb <;> (try simp only [SH] at hb') <;> (try simp -dsimp (maxSteps := 2000000) (disch := first | omega | (simp; done) | (simp; omega)) only [SA, SB, SC, SD, SE, SF, SG, SI, Nat.reduceLT, Nat.reduceAdd, Nat.reduceSub, Nat.reduceMul, Nat.reduceLeDiff, Nat.reduceEqDiff, Nat.reduceBEq, Int.reduceToNat, Int.reduceLE, Int.reduceLT, Int.reduceEq, Int.reduceNeg, reduceCtorEq, ↓reduceIte, hb, hla, hcond]))))
    have : argsB ag = false := by rw [argsB]; simp; omega
    rw [ArgsOut, if_neg (by rw [this]; decide)]
    exact ⟨rfl, ht⟩
/-- Many variables, one behind the other: the first error, or all of them. -/
def newE : Vs → Vs → Int × Vs
  | [], acc => (0, acc)
  | q :: r, acc => if (setE q.1 q.2 acc).1 = 0 then newE r (setE q.1 q.2 acc).2 else ((setE q.1 q.2 acc).1, acc)
/-- What 'vars.New' says, exactly. -/
def NewE (l0 : Vs) (ag : List (List UInt8)) : Int := if (newE l0 []).1 = 0 then (if argsB ag then 0 else 2) else (newE l0 []).1
theorem setE_range (n v : List UInt8) (l : Vs) : (setE n v l).1 = 0 ∨ (setE n v l).1 = 2 ∨ (setE n v l).1 = 70 := by
  unfold setE
  split
  · split
    · exact .inr (.inl rfl)
    · split
      · exact .inr (.inl rfl)
      · exact .inl rfl
  · exact .inr (.inr rfl)
def NewOut (σ : St) (l : Vs) (ag : List (List UInt8)) (o : Out) (s : St) : Prop := if NewE l ag = 0 then ∃ y, Strs y ag ∧ o = .ret (.tuple [.ref σ.next 0, .int .i64 0]) ∧ TabY σ σ.next (newE l []).2 y (.int .i64 0) s else (∃ m, σ.next ≤ m ∧ s = ⟨σ.obj, m⟩) ∧ o = .ret (.tuple [.nilp, .int .i64 (NewE l ag)])
theorem TabY.other {σ0 σ s : St} {j : Nat} {l : Vs} {y z : D} (h : TabY σ0 j l y z σ) (ho : ∀ i, i < σ.next → s.obj i = σ.obj i) (hn : σ.next ≤ s.next) (hf : s.Fresh) : TabY σ0 j l y z s := by
  have hlt : ∀ i o, σ.obj i = some o → i < σ.next := fun i o hi => Nat.lt_of_not_le fun hle => by rw [h.fresh i hle] at hi; cases hi
  have nj := h.nxt
  obtain ⟨a, h1, h2, h3, h4, h5, h6⟩ := h.x
  refine ⟨fun i hi => ?_, ⟨h.nxt.1, by omega⟩, hf, h.few, h.sorted, a, ?_, h2, h3, h4, ?_, h6⟩
  · rw [ho i (by omega)]; exact h.low i hi
  · rw [ho _ (hlt _ _ h1)]; exact h1
  · rcases h5 with ⟨rfl, rfl⟩ | ⟨b, t, rfl, o1, o2, o3⟩
    · exact .inl ⟨rfl, rfl⟩
    · exact .inr ⟨b, t, rfl, by rw [ho _ (hlt _ _ o1)]; exact o1, by rw [ho _ (hlt _ _ o2)]; exact o2, by rw [ho _ (hlt _ _ o3)]; exact o3⟩
theorem new19x {x a : D} {l : Vs} {ag : List (List UInt8)} (hx : Vz x l) (hl : l.length ≤ 1000) (ha : Strs a ag) (hal : ag.length ≤ 1000000) (σ : St) : Ok Tryz.prog 19 [x, a] σ (NewOut σ l ag) := by
  refine Ok.fresh fun hf => Ok.drop ?_
  have hlx := hx.len
  apply en19
  simp -dsimp (maxSteps := 2000000) (disch := first | omega | (simp; done) | (simp; omega)) only [SA, SB, SC, SD, SE, SF, SG, SI, Nat.reduceLT, Nat.reduceAdd, Nat.reduceSub, Nat.reduceMul, Nat.reduceLeDiff, Nat.reduceEqDiff, Nat.reduceBEq, Int.reduceToNat, Int.reduceLE, Int.reduceLT, Int.reduceEq, Int.reduceNeg, reduceCtorEq, ↓reduceIte, ic19, List.replicate_succ, List.replicate_zero]
  (repeat' (first | simp -dsimp (maxSteps := 2000000) (disch := first | omega | (simp; done) | (simp; omega)) only [SA, SB, SC, SD, SE, SF, SG, SI, Nat.reduceLT, Nat.reduceAdd, Nat.reduceSub, Nat.reduceMul, Nat.reduceLeDiff, Nat.reduceEqDiff, Nat.reduceBEq, Int.reduceToNat, Int.reduceLE, Int.reduceLT, Int.reduceEq, Int.reduceNeg, reduceCtorEq, ↓reduceIte, hlx] | refine Cut.go ?_ | refine Both.intro ?_ ?_ | (refine Br.intro ?_ ?_ <;> intro hb <;> have hb' := hb <;> (try simp only [SH] at hb') <;> (try simp -dsimp (maxSteps := 2000000) (disch := first | omega | (simp; done) | (simp; omega)) only [SA, SB, SC, SD, SE, SF, SG, SI, Nat.reduceLT, Nat.reduceAdd, Nat.reduceSub, Nat.reduceMul, Nat.reduceLeDiff, Nat.reduceEqDiff, Nat.reduceBEq, Int.reduceToNat, Int.reduceLE, Int.reduceLT, Int.reduceEq, Int.reduceNeg, reduceCtorEq, ↓reduceIte, hb, hlx]))))
  have t0 : TabY σ σ.next [] .nils (.int .i64 0) (σ.alloc (.cells [.nils, .nils, .int .i64 0])) := by
    refine ⟨fun i hi => by rw [alloc_obj, if_neg (by omega)], ⟨Nat.le_refl _, by rw [alloc_next]; omega⟩, fun i hi => ?_, by simp, List.Pairwise.nil, .nils, by rw [alloc_obj, if_pos rfl], rfl, rfl, rfl, .inl ⟨rfl, rfl⟩, fun _ _ _ e => (nomatch e)⟩
    rw [alloc_next] at hi; rw [alloc_obj, if_neg (by omega)]; exact hf i (by omega)
  have err : ∀ {s' : St} {acc : Vs} {e : Int}, TabY σ σ.next acc .nils (.int .i64 0) s' → NewE l ag = e → e ≠ 0 → ∃ s2, Drops s' s2 ∧ NewOut σ l ag (.ret (.tuple [.nilp, .int .i64 e])) s2 := fun {s' acc e} h1 h2 h3 => by
    refine ⟨_, drops_old hf h1.low, ?_⟩
    rw [NewOut, if_neg (by rw [h2]; exact h3), h2]
    exact ⟨⟨_, by have := h1.nxt; omega, rfl⟩, rfl⟩
  refine loop_go (α := Nat × Vs × St) (fun b => [x, a, .junk, .junk, .nilp, .int .i64 0, .ref σ.next 0, .junk, .junk, .junk, .junk, .junk, .junk, x, .int .i64 l.length, .int .i64 b.1] ++ List.replicate 20 .junk) (fun b => b.2.2) (fun b => l.length - b.1) (fun b => b.1 ≤ l.length ∧ TabY σ σ.next b.2.1 .nils (.int .i64 0) b.2.2 ∧ newE (l.drop b.1) b.2.1 = newE l []) (0, [], _) ⟨Nat.zero_le _, t0, rfl⟩ (by ((try simp only [List.replicate_succ, List.replicate_zero, List.cons_append, List.nil_append]); repeat' (first | exact trivial | refine ⟨.inl rfl, ?_⟩ | refine ⟨.inr rfl, ?_⟩ | refine ⟨.inr (by simp), ?_⟩))) (Drops.refl _) ?_
  rintro ⟨i, acc, s⟩ ⟨h1, ht, hE⟩
  simp only [] at h1 ht hE ⊢
  simp -dsimp (maxSteps := 2000000) (disch := first | omega | (simp; done) | (simp; omega)) only [SA, SB, SC, SD, SE, SF, SG, SI, Nat.reduceLT, Nat.reduceAdd, Nat.reduceSub, Nat.reduceMul, Nat.reduceLeDiff, Nat.reduceEqDiff, Nat.reduceBEq, Int.reduceToNat, Int.reduceLE, Int.reduceLT, Int.reduceEq, Int.reduceNeg, reduceCtorEq, ↓reduceIte, List.replicate_succ, List.replicate_zero]
  by_cases hi : i < l.length
  · have hcond : decide ((i : Int) < l.length) = true := by simp; exact hi
    have ax := hx.at hi
    have htm : TabY σ σ.next acc .nils (.int .i64 0) ((s.alloc (.cells [.str [], .str []])).put s.next (some (.cells [.str l[i].1, .str l[i].2]))) := by
      refine ht.other (fun k hk => ?_) ?_ fun k hk => ?_
      · rw [put_obj, if_neg (by omega), alloc_obj, if_neg (by omega)]
      · show s.next ≤ s.next + 1; omega
      · have : s.next + 1 ≤ k := hk
        rw [put_obj, if_neg (by omega), alloc_obj, if_neg (by omega)]; exact ht.fresh k (by omega)
    have hE2 : newE (l.drop i) acc = if (setE l[i].1 l[i].2 acc).1 = 0 then newE (l.drop (i + 1)) (setE l[i].1 l[i].2 acc).2 else ((setE l[i].1 l[i].2 acc).1, acc) := by
      rw [List.drop_eq_getElem_cons hi]; rfl
    rw [hE] at hE2
    (repeat' (first | simp -dsimp (maxSteps := 2000000) (disch := first | omega | (simp; done) | (simp; omega)) only [SA, SB, SC, SD, SE, SF, SG, SI, Nat.reduceLT, Nat.reduceAdd, Nat.reduceSub, Nat.reduceMul, Nat.reduceLeDiff, Nat.reduceEqDiff, Nat.reduceBEq, Int.reduceToNat, Int.reduceLE, Int.reduceLT, Int.reduceEq, Int.reduceNeg, reduceCtorEq, ↓reduceIte, hcond, ax, pair_load] | refine Cut.go ?_ | refine Both.intro ?_ ?_ | (refine Br.intro ?_ ?_ <;> intro hb <;> have hb' := hb <;> (try simp only [SH] at hb') <;> (try simp -dsimp (maxSteps := 2000000) (disch := first | omega | (simp; done) | (simp; omega)) only [SA, SB, SC, SD, SE, SF, SG, SI, Nat.reduceLT, Nat.reduceAdd, Nat.reduceSub, Nat.reduceMul, Nat.reduceLeDiff, Nat.reduceEqDiff, Nat.reduceBEq, Int.reduceToNat, Int.reduceLE, Int.reduceLT, Int.reduceEq, Int.reduceNeg, reduceCtorEq, ↓reduceIte, hb, hcond, ax, pair_load]))))
    refine ⟨gd9, (set9x htm _ _).mono fun o s' h => ?_⟩
    obtain ⟨rfl, ht2, _⟩ := h
    by_cases h0 : (setE l[i].1 l[i].2 acc).1 = 0
    · have z : ((setE l[i].1 l[i].2 acc).1 != 0) = false := by simpa using h0
      rw [if_pos h0] at hE2
      (repeat' (first | simp -dsimp (maxSteps := 2000000) (disch := first | omega | (simp; done) | (simp; omega)) only [SA, SB, SC, SD, SE, SF, SG, SI, Nat.reduceLT, Nat.reduceAdd, Nat.reduceSub, Nat.reduceMul, Nat.reduceLeDiff, Nat.reduceEqDiff, Nat.reduceBEq, Int.reduceToNat, Int.reduceLE, Int.reduceLT, Int.reduceEq, Int.reduceNeg, reduceCtorEq, ↓reduceIte, z] | refine Cut.go ?_ | refine Both.intro ?_ ?_ | (refine Br.intro ?_ ?_ <;> intro hb <;> have hb' := hb <;> (try simp only [SH] at hb') <;> (try simp -dsimp (maxSteps := 2000000) (disch := first | omega | (simp; done) | (simp; omega)) only [SA, SB, SC, SD, SE, SF, SG, SI, Nat.reduceLT, Nat.reduceAdd, Nat.reduceSub, Nat.reduceMul, Nat.reduceLeDiff, Nat.reduceEqDiff, Nat.reduceBEq, Int.reduceToNat, Int.reduceLE, Int.reduceLT, Int.reduceEq, Int.reduceNeg, reduceCtorEq, ↓reduceIte, hb, z]))))
      exact Round.go (i + 1, (setE l[i].1 l[i].2 acc).2, s') (by simp only []; omega) ⟨by simp only []; omega, ht2, hE2.symm⟩ (by ((try simp only [List.replicate_succ, List.replicate_zero, List.cons_append, List.nil_append]); repeat' (first | exact trivial | refine ⟨.inl rfl, ?_⟩ | refine ⟨.inr rfl, ?_⟩ | refine ⟨.inr (by simp), ?_⟩))) (Drops.refl _)
    · have z : ((setE l[i].1 l[i].2 acc).1 != 0) = true := by simpa using h0
      rw [if_neg h0] at hE2
      (repeat' (first | simp -dsimp (maxSteps := 2000000) (disch := first | omega | (simp; done) | (simp; omega)) only [SA, SB, SC, SD, SE, SF, SG, SI, Nat.reduceLT, Nat.reduceAdd, Nat.reduceSub, Nat.reduceMul, Nat.reduceLeDiff, Nat.reduceEqDiff, Nat.reduceBEq, Int.reduceToNat, Int.reduceLE, Int.reduceLT, Int.reduceEq, Int.reduceNeg, reduceCtorEq, ↓reduceIte, z] | refine Cut.go ?_ | refine Both.intro ?_ ?_ | (refine Br.intro ?_ ?_ <;> intro hb <;> have hb' := hb <;> (try simp only [SH] at hb') <;> (try simp -dsimp (maxSteps := 2000000) (disch := first | omega | (simp; done) | (simp; omega)) only [SA, SB, SC, SD, SE, SF, SG, SI, Nat.reduceLT, Nat.reduceAdd, Nat.reduceSub, Nat.reduceMul, Nat.reduceLeDiff, Nat.reduceEqDiff, Nat.reduceBEq, Int.reduceToNat, Int.reduceLE, Int.reduceLT, Int.reduceEq, Int.reduceNeg, reduceCtorEq, ↓reduceIte, hb, z]))))
      refine err ht2 ?_ h0
      rw [NewE, hE2, if_neg h0]
  · have hcond : decide ((i : Int) < l.length) = false := by simp; omega
    have hE2 : newE l [] = (0, acc) := by
      rw [← hE, List.drop_of_length_le (by omega)]; rfl
    (repeat' (first | simp -dsimp (maxSteps := 2000000) (disch := first | omega | (simp; done) | (simp; omega)) only [SA, SB, SC, SD, SE, SF, SG, SI, Nat.reduceLT, Nat.reduceAdd, Nat.reduceSub, Nat.reduceMul, Nat.reduceLeDiff, Nat.reduceEqDiff, Nat.reduceBEq, Int.reduceToNat, Int.reduceLE, Int.reduceLT, Int.reduceEq, Int.reduceNeg, reduceCtorEq, ↓reduceIte, hcond] | refine Cut.go ?_ | refine Both.intro ?_ ?_ | (refine Br.intro ?_ ?_ <;> intro hb <;> have hb' := hb <;> (try simp only [SH] at hb') <;> (try simp -dsimp (maxSteps := 2000000) (disch := first | omega | (simp; done) | (simp; omega)) only [SA, SB, SC, SD, SE, SF, SG, SI, Nat.reduceLT, Nat.reduceAdd, Nat.reduceSub, Nat.reduceMul, Nat.reduceLeDiff, Nat.reduceEqDiff, Nat.reduceBEq, Int.reduceToNat, Int.reduceLE, Int.reduceLT, Int.reduceEq, Int.reduceNeg, reduceCtorEq, ↓reduceIte, hb, hcond]))))
    refine ⟨gd39, (setArgs39x ht ha hal).mono fun o s' h => ?_⟩
    unfold ArgsOut at h
    split at h
    · rename_i hok
      obtain ⟨rfl, y', hy', ht2⟩ := h
      have z : ((0 : Int) != 0) = false := rfl
      (repeat' (first | simp -dsimp (maxSteps := 2000000) (disch := first | omega | (simp; done) | (simp; omega)) only [SA, SB, SC, SD, SE, SF, SG, SI, Nat.reduceLT, Nat.reduceAdd, Nat.reduceSub, Nat.reduceMul, Nat.reduceLeDiff, Nat.reduceEqDiff, Nat.reduceBEq, Int.reduceToNat, Int.reduceLE, Int.reduceLT, Int.reduceEq, Int.reduceNeg, reduceCtorEq, ↓reduceIte, z] | refine Cut.go ?_ | refine Both.intro ?_ ?_ | (refine Br.intro ?_ ?_ <;> intro hb <;> have hb' := hb <;> (try simp only [SH] at hb') <;> (try simp -dsimp (maxSteps := 2000000) (disch := first | omega | (simp; done) | (simp; omega)) only [SA, SB, SC, SD, SE, SF, SG, SI, Nat.reduceLT, Nat.reduceAdd, Nat.reduceSub, Nat.reduceMul, Nat.reduceLeDiff, Nat.reduceEqDiff, Nat.reduceBEq, Int.reduceToNat, Int.reduceLE, Int.reduceLT, Int.reduceEq, Int.reduceNeg, reduceCtorEq, ↓reduceIte, hb, z]))))
      refine ⟨s', Drops.refl _, ?_⟩
      rw [NewOut, if_pos (by rw [NewE, hE2, if_pos rfl, if_pos hok]), hE2]
      exact ⟨y', hy', rfl, ht2⟩
    · rename_i hok
      obtain ⟨rfl, ht2⟩ := h
      have z : ((2 : Int) != 0) = true := rfl
      (repeat' (first | simp -dsimp (maxSteps := 2000000) (disch := first | omega | (simp; done) | (simp; omega)) only [SA, SB, SC, SD, SE, SF, SG, SI, Nat.reduceLT, Nat.reduceAdd, Nat.reduceSub, Nat.reduceMul, Nat.reduceLeDiff, Nat.reduceEqDiff, Nat.reduceBEq, Int.reduceToNat, Int.reduceLE, Int.reduceLT, Int.reduceEq, Int.reduceNeg, reduceCtorEq, ↓reduceIte, z] | refine Cut.go ?_ | refine Both.intro ?_ ?_ | (refine Br.intro ?_ ?_ <;> intro hb <;> have hb' := hb <;> (try simp only [SH] at hb') <;> (try simp -dsimp (maxSteps := 2000000) (disch := first | omega | (simp; done) | (simp; omega)) only [SA, SB, SC, SD, SE, SF, SG, SI, Nat.reduceLT, Nat.reduceAdd, Nat.reduceSub, Nat.reduceMul, Nat.reduceLeDiff, Nat.reduceEqDiff, Nat.reduceBEq, Int.reduceToNat, Int.reduceLE, Int.reduceLT, Int.reduceEq, Int.reduceNeg, reduceCtorEq, ↓reduceIte, hb, z]))))
      refine err ht2 ?_ (by decide)
      rw [NewE, hE2, if_pos rfl, if_neg hok]
end Go.Proofs.YthiidchbaicfgaaGreatDoor
