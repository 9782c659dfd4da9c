/-
  THE WALKS, layer 13, PART 5: a variable's place in a table.
-/
import Derived.Test.YthiidchbaicfgaaGreatDoorZ4
namespace Go.Proofs.YthiidchbaicfgaaGreatDoor
open Go Go.Id
set_option linter.unusedSimpArgs false
set_option linter.unusedVariables false
set_option maxRecDepth 100000
set_option maxHeartbeats 4000000

/-- Names and values, as cells. -/
def flat2 : List (List UInt8 × List UInt8) → List D
  | [] => []
  | p :: r => .str p.1 :: .str p.2 :: flat2 r
theorem flat2_len : ∀ l, (flat2 l).length = l.length * 2
  | [] => rfl
  | p :: r => by simp only [flat2, List.length_cons, flat2_len r]; omega
theorem flat2_scal : ∀ l, (flat2 l).all scal = true
  | [] => rfl
  | p :: r => by simp [flat2, flat2_scal r, scal]
theorem flat2_drop : ∀ (l : List (List UInt8 × List UInt8)) (i : Nat), (flat2 l).drop (2 * i) = flat2 (l.drop i)
  | l, 0 => by simp
  | [], i + 1 => by simp [flat2]
  | p :: r, i + 1 => by
    rw [show 2 * (i + 1) = 2 * i + 1 + 1 by omega]
    simp only [flat2, List.drop_succ_cons]
    exact flat2_drop r i
/-- A list of variables that may be written. -/
def VarsAt (s : St) (x : D) (l : List (List UInt8 × List UInt8)) : Prop :=
  (x = .nils ∧ l = []) ∨ ∃ j t, x = .rslc j 0 2 l.length (.opened t) ∧ s.obj j = some (.cells (flat2 l)) ∧ s.obj t = some .tok ∧ s.obj (j + 2) = some (.ty j 57 none)
theorem VarsAt.len {s : St} {x : D} {l : List (List UInt8 × List UInt8)} (h : VarsAt s x l) : ilen x = some (.int .i64 l.length) := by
  rcases h with ⟨rfl, rfl⟩ | ⟨j, t, rfl, _⟩ <;> simp [ilen]
theorem VarsAt.at {s : St} {x : D} {l : List (List UInt8 × List UInt8)} (h : VarsAt s x l) {i : Nat} (hi : i < l.length) :
    ∃ j, idxAddrS 2 x (.int .i64 i) = some (.ref j (2 * i)) ∧ iload (some 2) (.ref j (2 * i)) s = some (.agg [.str (l[i]).1, .str (l[i]).2]) := by
  rcases h with ⟨rfl, rfl⟩ | ⟨j, t, rfl, h1, h2, h3⟩
  · simp at hi
  · refine ⟨j, ?_, ?_⟩
    · simp only [idxAddrS]
      rw [if_pos ⟨trivial, by omega, by omega⟩]
      simp [Nat.mul_comm]
    · simp only [iload, h1, cellsAt]
      rw [if_pos (by rw [flat2_len]; omega), flat2_drop, List.drop_eq_getElem_cons hi]
      rfl
theorem VarsAt.more {s s' : St} {x : D} {l : List (List UInt8 × List UInt8)} (h : VarsAt s x l) (ho : ∀ i, s'.obj i = s.obj i) : VarsAt s' x l := by
  rcases h with ⟨rfl, rfl⟩ | ⟨j, t, rfl, h1, h2, h3⟩
  · exact .inl ⟨rfl, rfl⟩
  · exact .inr ⟨j, t, rfl, by rw [ho, h1], by rw [ho, h2], by rw [ho, h3]⟩
/-- Where a name is, or would be. -/
def Found (n : Nat) (o : Out) : Prop := ∃ (p : Nat) (b : Bool), p ≤ n ∧ (b = true → p < n) ∧ o = .ret (.tuple [.int .i64 p, .bool b])
theorem bin44 {x : D} {l : List (List UInt8 × List UInt8)} (hl : l.length ≤ 1000) (name : List UInt8) (σ : St) (hx : VarsAt σ x l) :
    Ok Tryz.prog 44 [x, .str name, .func (.func 45) [] []] σ (fun o s' => (∃ m, σ.next ≤ m ∧ s' = ⟨σ.obj, m⟩) ∧ Found l.length o) := by
  apply en44
  have hlx := hx.len
  simp -dsimp (maxSteps := 2000000) (disch := first | omega | (simp; done) | (simp; omega)) only [SA, SB, SC, SD, SE, SF, SG, SI, Nat.reduceLT, Nat.reduceAdd, Nat.reduceSub, Nat.reduceMul, Nat.reduceLeDiff, Nat.reduceEqDiff, Nat.reduceBEq, Int.reduceToNat, Int.reduceLE, Int.reduceLT, Int.reduceEq, Int.reduceNeg, reduceCtorEq, ↓reduceIte, ic44, List.replicate_succ, List.replicate_zero]
  (repeat' (first | simp -dsimp (maxSteps := 2000000) (disch := first | omega | (simp; done) | (simp; omega)) only [SA, SB, SC, SD, SE, SF, SG, SI, Nat.reduceLT, Nat.reduceAdd, Nat.reduceSub, Nat.reduceMul, Nat.reduceLeDiff, Nat.reduceEqDiff, Nat.reduceBEq, Int.reduceToNat, Int.reduceLE, Int.reduceLT, Int.reduceEq, Int.reduceNeg, reduceCtorEq, ↓reduceIte, hlx] | refine Cut.go ?_ | refine Both.intro ?_ ?_ | (refine Br.intro ?_ ?_ <;> intro hb <;> have hb' := hb <;> (try simp only [SH] at hb') <;> (try simp -dsimp (maxSteps := 2000000) (disch := first | omega | (simp; done) | (simp; omega)) only [SA, SB, SC, SD, SE, SF, SG, SI, Nat.reduceLT, Nat.reduceAdd, Nat.reduceSub, Nat.reduceMul, Nat.reduceLeDiff, Nat.reduceEqDiff, Nat.reduceBEq, Int.reduceToNat, Int.reduceLE, Int.reduceLT, Int.reduceEq, Int.reduceNeg, reduceCtorEq, ↓reduceIte, hb, hlx]))))
  refine loop_go (α := Nat × Nat × Nat) (fun a => [x, .str name, .func (.func 45) [] [], .junk, .junk, .junk, .int .i64 0, .bool false, .int .i64 l.length, .int .i64 a.1, .int .i64 a.2.1] ++ List.replicate 38 .junk) (fun a => ⟨σ.obj, a.2.2⟩) (fun a => a.2.1 - a.1) (fun a => a.1 ≤ a.2.1 ∧ a.2.1 ≤ l.length ∧ σ.next ≤ a.2.2) (0, l.length, σ.next) ⟨Nat.zero_le _, Nat.le_refl _, Nat.le_refl _⟩ (by ((try simp only [List.replicate_succ, List.replicate_zero, List.cons_append, List.nil_append]); repeat' (first | exact trivial | refine ⟨.inl rfl, ?_⟩ | refine ⟨.inr rfl, ?_⟩ | refine ⟨.inr (by simp), ?_⟩))) (Drops.refl _) ?_
  rintro ⟨i, j, m⟩ ⟨h1, h2, h3⟩
  simp only [] at h1 h2 h3 ⊢
  have hfd : ((i : Int) + j).fdiv (2 ^ min 1 IntKind.u64.bits) = (((i + j) / 2 : Nat) : Int) := by
    rw [show (2 : Int) ^ min 1 IntKind.u64.bits = 2 from rfl, Int.fdiv_eq_ediv_of_nonneg _ (by decide)]; omega
  have hx2 : VarsAt ⟨σ.obj, m⟩ x l := hx.more fun _ => rfl
  simp -dsimp (maxSteps := 2000000) (disch := first | omega | (simp; done) | (simp; omega)) only [SA, SB, SC, SD, SE, SF, SG, SI, Nat.reduceLT, Nat.reduceAdd, Nat.reduceSub, Nat.reduceMul, Nat.reduceLeDiff, Nat.reduceEqDiff, Nat.reduceBEq, Int.reduceToNat, Int.reduceLE, Int.reduceLT, Int.reduceEq, Int.reduceNeg, reduceCtorEq, ↓reduceIte, List.replicate_succ, List.replicate_zero]
  (repeat' (first | simp -dsimp (maxSteps := 2000000) (disch := first | omega | (simp; done) | (simp; omega)) only [SA, SB, SC, SD, SE, SF, SG, SI, Nat.reduceLT, Nat.reduceAdd, Nat.reduceSub, Nat.reduceMul, Nat.reduceLeDiff, Nat.reduceEqDiff, Nat.reduceBEq, Int.reduceToNat, Int.reduceLE, Int.reduceLT, Int.reduceEq, Int.reduceNeg, reduceCtorEq, ↓reduceIte, hfd] | refine Cut.go ?_ | refine Both.intro ?_ ?_ | (refine Br.intro ?_ ?_ <;> intro hb <;> have hb' := hb <;> (try simp only [SH] at hb') <;> (try simp -dsimp (maxSteps := 2000000) (disch := first | omega | (simp; done) | (simp; omega)) only [SA, SB, SC, SD, SE, SF, SG, SI, Nat.reduceLT, Nat.reduceAdd, Nat.reduceSub, Nat.reduceMul, Nat.reduceLeDiff, Nat.reduceEqDiff, Nat.reduceBEq, Int.reduceToNat, Int.reduceLE, Int.reduceLT, Int.reduceEq, Int.reduceNeg, reduceCtorEq, ↓reduceIte, hb, hfd]))))
  · have hh : (i + j) / 2 < l.length := by omega
    obtain ⟨jj, e1, e2⟩ := hx2.at hh
    generalize hg : (i + j) / 2 = h at *
    (repeat' (first | simp -dsimp (maxSteps := 2000000) (disch := first | omega | (simp; done) | (simp; omega)) only [SA, SB, SC, SD, SE, SF, SG, SI, Nat.reduceLT, Nat.reduceAdd, Nat.reduceSub, Nat.reduceMul, Nat.reduceLeDiff, Nat.reduceEqDiff, Nat.reduceBEq, Int.reduceToNat, Int.reduceLE, Int.reduceLT, Int.reduceEq, Int.reduceNeg, reduceCtorEq, ↓reduceIte, hfd, e1, e2] | refine Cut.go ?_ | refine Both.intro ?_ ?_ | (refine Br.intro ?_ ?_ <;> intro hb <;> have hb' := hb <;> (try simp only [SH] at hb') <;> (try simp -dsimp (maxSteps := 2000000) (disch := first | omega | (simp; done) | (simp; omega)) only [SA, SB, SC, SD, SE, SF, SG, SI, Nat.reduceLT, Nat.reduceAdd, Nat.reduceSub, Nat.reduceMul, Nat.reduceLeDiff, Nat.reduceEqDiff, Nat.reduceBEq, Int.reduceToNat, Int.reduceLE, Int.reduceLT, Int.reduceEq, Int.reduceNeg, reduceCtorEq, ↓reduceIte, hb, hfd, e1, e2]))))
    refine ⟨gd45, (cmp45 _ _ _ _).mono fun o s' hc => ?_⟩
    obtain ⟨⟨m', hm, rfl⟩, n, rfl⟩ := hc
    simp only [] at hm
    (repeat' (first | simp -dsimp (maxSteps := 2000000) (disch := first | omega | (simp; done) | (simp; omega)) only [SA, SB, SC, SD, SE, SF, SG, SI, Nat.reduceLT, Nat.reduceAdd, Nat.reduceSub, Nat.reduceMul, Nat.reduceLeDiff, Nat.reduceEqDiff, Nat.reduceBEq, Int.reduceToNat, Int.reduceLE, Int.reduceLT, Int.reduceEq, Int.reduceNeg, reduceCtorEq, ↓reduceIte] | refine Cut.go ?_ | refine Both.intro ?_ ?_ | (refine Br.intro ?_ ?_ <;> intro hb <;> have hb' := hb <;> (try simp only [SH] at hb') <;> (try simp -dsimp (maxSteps := 2000000) (disch := first | omega | (simp; done) | (simp; omega)) only [SA, SB, SC, SD, SE, SF, SG, SI, Nat.reduceLT, Nat.reduceAdd, Nat.reduceSub, Nat.reduceMul, Nat.reduceLeDiff, Nat.reduceEqDiff, Nat.reduceBEq, Int.reduceToNat, Int.reduceLE, Int.reduceLT, Int.reduceEq, Int.reduceNeg, reduceCtorEq, ↓reduceIte, hb]))))
    · exact Round.go (h + 1, j, m') (by simp only []; omega) (by simp only []; omega) (by ((try simp only [List.replicate_succ, List.replicate_zero, List.cons_append, List.nil_append]); repeat' (first | exact trivial | refine ⟨.inl rfl, ?_⟩ | refine ⟨.inr rfl, ?_⟩ | refine ⟨.inr (by simp), ?_⟩))) (Drops.refl _)
    · exact Round.go (i, h, m') (by simp only []; omega) (by simp only []; omega) (by ((try simp only [List.replicate_succ, List.replicate_zero, List.cons_append, List.nil_append]); repeat' (first | exact trivial | refine ⟨.inl rfl, ?_⟩ | refine ⟨.inr rfl, ?_⟩ | refine ⟨.inr (by simp), ?_⟩))) (Drops.refl _)
  · obtain ⟨jj, e1, e2⟩ := hx2.at (i := i) (by omega)
    (repeat' (first | simp -dsimp (maxSteps := 2000000) (disch := first | omega | (simp; done) | (simp; omega)) only [SA, SB, SC, SD, SE, SF, SG, SI, Nat.reduceLT, Nat.reduceAdd, Nat.reduceSub, Nat.reduceMul, Nat.reduceLeDiff, Nat.reduceEqDiff, Nat.reduceBEq, Int.reduceToNat, Int.reduceLE, Int.reduceLT, Int.reduceEq, Int.reduceNeg, reduceCtorEq, ↓reduceIte, e1, e2] | refine Cut.go ?_ | refine Both.intro ?_ ?_ | (refine Br.intro ?_ ?_ <;> intro hb <;> have hb' := hb <;> (try simp only [SH] at hb') <;> (try simp -dsimp (maxSteps := 2000000) (disch := first | omega | (simp; done) | (simp; omega)) only [SA, SB, SC, SD, SE, SF, SG, SI, Nat.reduceLT, Nat.reduceAdd, Nat.reduceSub, Nat.reduceMul, Nat.reduceLeDiff, Nat.reduceEqDiff, Nat.reduceBEq, Int.reduceToNat, Int.reduceLE, Int.reduceLT, Int.reduceEq, Int.reduceNeg, reduceCtorEq, ↓reduceIte, hb, e1, e2]))))
    refine ⟨gd45, (cmp45 _ _ _ _).mono fun o s' hc => ?_⟩
    obtain ⟨⟨m', hm, rfl⟩, n, rfl⟩ := hc
    simp only [] at hm
    (repeat' (first | simp -dsimp (maxSteps := 2000000) (disch := first | omega | (simp; done) | (simp; omega)) only [SA, SB, SC, SD, SE, SF, SG, SI, Nat.reduceLT, Nat.reduceAdd, Nat.reduceSub, Nat.reduceMul, Nat.reduceLeDiff, Nat.reduceEqDiff, Nat.reduceBEq, Int.reduceToNat, Int.reduceLE, Int.reduceLT, Int.reduceEq, Int.reduceNeg, reduceCtorEq, ↓reduceIte] | refine Cut.go ?_ | refine Both.intro ?_ ?_ | (refine Br.intro ?_ ?_ <;> intro hb <;> have hb' := hb <;> (try simp only [SH] at hb') <;> (try simp -dsimp (maxSteps := 2000000) (disch := first | omega | (simp; done) | (simp; omega)) only [SA, SB, SC, SD, SE, SF, SG, SI, Nat.reduceLT, Nat.reduceAdd, Nat.reduceSub, Nat.reduceMul, Nat.reduceLeDiff, Nat.reduceEqDiff, Nat.reduceBEq, Int.reduceToNat, Int.reduceLE, Int.reduceLT, Int.reduceEq, Int.reduceNeg, reduceCtorEq, ↓reduceIte, hb]))))
    exact ⟨⟨m', by omega, rfl⟩, i, _, by omega, fun _ => by omega, rfl⟩
  · exact ⟨⟨m, h3, rfl⟩, i, false, by omega, (fun h => absurd h (by decide)), rfl⟩
theorem inilM_r (j o : Nat) : inilM [(43, "Glob"), (43, "Run")] (.ref j o) = some (.ref j o) := rfl
/-- A table: variables, parameters, status. -/
theorem place24 {x y z : D} {l : List (List UInt8 × List UInt8)} (hl : l.length ≤ 1000) (name : List UInt8) {j : Nat} (σ : St) (hj : σ.obj j = some (.cells [x, y, z])) (hsx : scal x = true) (hx : VarsAt σ x l) :
    Ok Tryz.prog 24 [.ref j 0, .str name] σ (fun o s' => (∃ m, σ.next ≤ m ∧ s' = ⟨σ.obj, m⟩) ∧ Found l.length o) := by
  apply en24
  simp -dsimp (maxSteps := 2000000) (disch := first | omega | (simp; done) | (simp; omega)) only [SA, SB, SC, SD, SE, SF, SG, SI, Nat.reduceLT, Nat.reduceAdd, Nat.reduceSub, Nat.reduceMul, Nat.reduceLeDiff, Nat.reduceEqDiff, Nat.reduceBEq, Int.reduceToNat, Int.reduceLE, Int.reduceLT, Int.reduceEq, Int.reduceNeg, reduceCtorEq, ↓reduceIte, ic24, List.replicate_succ, List.replicate_zero]
  have hso : scalO (some x) = some x := by simp [scalO, hsx]
  (repeat' (first | simp -dsimp (maxSteps := 2000000) (disch := first | omega | (simp; done) | (simp; omega)) only [SA, SB, SC, SD, SE, SF, SG, SI, Nat.reduceLT, Nat.reduceAdd, Nat.reduceSub, Nat.reduceMul, Nat.reduceLeDiff, Nat.reduceEqDiff, Nat.reduceBEq, Int.reduceToNat, Int.reduceLE, Int.reduceLT, Int.reduceEq, Int.reduceNeg, reduceCtorEq, ↓reduceIte, hj, hsx, hso, inilM_r] | refine Cut.go ?_ | refine Both.intro ?_ ?_ | (refine Br.intro ?_ ?_ <;> intro hb <;> have hb' := hb <;> (try simp only [SH] at hb') <;> (try simp -dsimp (maxSteps := 2000000) (disch := first | omega | (simp; done) | (simp; omega)) only [SA, SB, SC, SD, SE, SF, SG, SI, Nat.reduceLT, Nat.reduceAdd, Nat.reduceSub, Nat.reduceMul, Nat.reduceLeDiff, Nat.reduceEqDiff, Nat.reduceBEq, Int.reduceToNat, Int.reduceLE, Int.reduceLT, Int.reduceEq, Int.reduceNeg, reduceCtorEq, ↓reduceIte, hb, hj, hsx, hso, inilM_r]))))
  refine ⟨gd44, (bin44 hl name σ hx).mono fun o s' h => ?_⟩
  obtain ⟨⟨m, hm, rfl⟩, p, b, h1, h2, rfl⟩ := h
  (repeat' (first | simp -dsimp (maxSteps := 2000000) (disch := first | omega | (simp; done) | (simp; omega)) only [SA, SB, SC, SD, SE, SF, SG, SI, Nat.reduceLT, Nat.reduceAdd, Nat.reduceSub, Nat.reduceMul, Nat.reduceLeDiff, Nat.reduceEqDiff, Nat.reduceBEq, Int.reduceToNat, Int.reduceLE, Int.reduceLT, Int.reduceEq, Int.reduceNeg, reduceCtorEq, ↓reduceIte] | refine Cut.go ?_ | refine Both.intro ?_ ?_ | (refine Br.intro ?_ ?_ <;> intro hb <;> have hb' := hb <;> (try simp only [SH] at hb') <;> (try simp -dsimp (maxSteps := 2000000) (disch := first | omega | (simp; done) | (simp; omega)) only [SA, SB, SC, SD, SE, SF, SG, SI, Nat.reduceLT, Nat.reduceAdd, Nat.reduceSub, Nat.reduceMul, Nat.reduceLeDiff, Nat.reduceEqDiff, Nat.reduceBEq, Int.reduceToNat, Int.reduceLE, Int.reduceLT, Int.reduceEq, Int.reduceNeg, reduceCtorEq, ↓reduceIte, hb]))))
  exact ⟨⟨m, hm, rfl⟩, p, b, h1, h2, rfl⟩
end Go.Proofs.YthiidchbaicfgaaGreatDoor
