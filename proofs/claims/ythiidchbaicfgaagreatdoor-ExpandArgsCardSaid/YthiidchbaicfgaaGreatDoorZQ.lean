/-
  THE WALKS, layer 13, PART 25: a variable's place, exactly.
-/
import Derived.Test.YthiidchbaicfgaaGreatDoorZP
namespace Go.Proofs.YthiidchbaicfgaaGreatDoor
open Go Go.Id
set_option linter.unusedSimpArgs false
set_option linter.unusedVariables false
set_option maxRecDepth 100000
set_option maxHeartbeats 8000000

abbrev Vs := List (List UInt8 × List UInt8)
/-- By rising names. -/
def Sorted (l : Vs) : Prop := l.Pairwise fun a b => cb a.1 b.1 < 0
theorem Sorted.at {l : Vs} (h : Sorted l) {i j : Nat} (hj : j < l.length) (hi : i < j) : cb (l[i]'(by omega)).1 (l[j]).1 < 0 := List.pairwise_iff_getElem.1 h i j (by omega) hj hi
/-- Where a name is, or would be. -/
structure Pos (l : Vs) (n : List UInt8) (p : Nat) : Prop where
  le : p ≤ l.length
  lo : ∀ k (h : k < l.length), k < p → cb (l[k]).1 n < 0
  hi : ∀ k (h : k < l.length), p ≤ k → 0 ≤ cb (l[k]).1 n
def isAt (l : Vs) (n : List UInt8) (p : Nat) : Bool := if h : p < l.length then (l[p]).1 == n else false
/-- A list of variables, to be read. -/
def VarsR (s : St) (x : D) (l : Vs) : Prop := (x = .nils ∧ l = []) ∨ ∃ j t, x = .rslc j 0 2 l.length (.opened t) ∧ s.obj j = some (.cells (flat2 l))
theorem VarsAt.read {s : St} {x : D} {l : Vs} (h : VarsAt s x l) : VarsR s x l := by
  rcases h with h | ⟨j, t, h1, h2, _⟩
  · exact .inl h
  · exact .inr ⟨j, t, h1, h2⟩
theorem VarsR.len {s : St} {x : D} {l : Vs} (h : VarsR s x l) : ilen x = some (.int .i64 l.length) := by
  rcases h with ⟨rfl, rfl⟩ | ⟨j, t, rfl, _⟩ <;> simp [ilen]
theorem VarsR.more {s s' : St} {x : D} {l : Vs} (h : VarsR s x l) (ho : ∀ i, s'.obj i = s.obj i) : VarsR s' x l := by
  rcases h with h | ⟨j, t, h1, h2⟩
  · exact .inl h
  · exact .inr ⟨j, t, h1, by rw [ho]; exact h2⟩
theorem VarsR.low {s s' : St} {x : D} {l : Vs} (h : VarsR s x l) (hf : s.Fresh) (ho : ∀ i, i < s.next → s'.obj i = s.obj i) : VarsR s' x l := by
  rcases h with h | ⟨j, t, h1, h2⟩
  · exact .inl h
  · refine .inr ⟨j, t, h1, ?_⟩
    rw [ho j (Nat.lt_of_not_le fun hle => by rw [hf j hle] at h2; cases h2)]; exact h2
theorem VarsR.at {s : St} {x : D} {l : Vs} (h : VarsR s x l) {i : Nat} (hi : i < l.length) :
    ∃ j, idxAddrS 2 x (.int .i64 i) = some (.ref j (2 * i)) ∧ iload (some 2) (.ref j (2 * i)) s = some (.agg [.str (l[i]).1, .str (l[i]).2]) := by
  rcases h with ⟨rfl, rfl⟩ | ⟨j, t, rfl, h1⟩
  · simp at hi
  · refine ⟨j, ?_, ?_⟩
    · simp only [idxAddrS]
      rw [if_pos ⟨trivial, by omega, by omega⟩]
      simp [Nat.mul_comm]
    · simp only [iload, h1, cellsAt]
      rw [if_pos (by rw [flat2_len]; omega), flat2_drop, List.drop_eq_getElem_cons hi]
      rfl
theorem bin44x {x : D} {l : Vs} (hl : l.length ≤ 1000) (hso : Sorted l) (name : List UInt8) (σ : St) (hx : VarsR σ x l) :
    Ok Tryz.prog 44 [x, .str name, .func (.func 45) [] []] σ (fun o s' => (∃ m, σ.next ≤ m ∧ s' = ⟨σ.obj, m⟩) ∧ ∃ p, Pos l name p ∧ o = .ret (.tuple [.int .i64 p, .bool (isAt l name p)])) := by
  apply en44
  have hlx := hx.len
  simp -dsimp (maxSteps := 2000000) (disch := first | omega | (simp; done) | (simp; omega)) only [SA, SB, SC, SD, SE, SF, SG, SI, Nat.reduceLT, Nat.reduceAdd, Nat.reduceSub, Nat.reduceMul, Nat.reduceLeDiff, Nat.reduceEqDiff, Nat.reduceBEq, Int.reduceToNat, Int.reduceLE, Int.reduceLT, Int.reduceEq, Int.reduceNeg, reduceCtorEq, ↓reduceIte, ic44, List.replicate_succ, List.replicate_zero]
  (repeat' (first | simp -dsimp (maxSteps := 2000000) (disch := first | omega | (simp; done) | (simp; omega)) only [SA, SB, SC, SD, SE, SF, SG, SI, Nat.reduceLT, Nat.reduceAdd, Nat.reduceSub, Nat.reduceMul, Nat.reduceLeDiff, Nat.reduceEqDiff, Nat.reduceBEq, Int.reduceToNat, Int.reduceLE, Int.reduceLT, Int.reduceEq, Int.reduceNeg, reduceCtorEq, ↓reduceIte, hlx] | refine Cut.go ?_ | refine Both.intro ?_ ?_ | (refine Br.intro ?_ ?_ <;> intro hb <;> have hb' := hb <;> (try simp only [SH] at hb') <;> (try simp -dsimp (maxSteps := 2000000) (disch := first | omega | (simp; done) | (simp; omega)) only [SA, SB, SC, SD, SE, SF, SG, SI, Nat.reduceLT, Nat.reduceAdd, Nat.reduceSub, Nat.reduceMul, Nat.reduceLeDiff, Nat.reduceEqDiff, Nat.reduceBEq, Int.reduceToNat, Int.reduceLE, Int.reduceLT, Int.reduceEq, Int.reduceNeg, reduceCtorEq, ↓reduceIte, hb, hlx]))))
  refine loop_go (α := Nat × Nat × Nat) (fun a => [x, .str name, .func (.func 45) [] [], .junk, .junk, .junk, .int .i64 0, .bool false, .int .i64 l.length, .int .i64 a.1, .int .i64 a.2.1] ++ List.replicate 38 .junk) (fun a => ⟨σ.obj, a.2.2⟩) (fun a => a.2.1 - a.1) (fun a => a.1 ≤ a.2.1 ∧ a.2.1 ≤ l.length ∧ σ.next ≤ a.2.2 ∧ (∀ k (h : k < l.length), k < a.1 → cb (l[k]).1 name < 0) ∧ ∀ k (h : k < l.length), a.2.1 ≤ k → 0 ≤ cb (l[k]).1 name) (0, l.length, σ.next) ⟨Nat.zero_le _, Nat.le_refl _, Nat.le_refl _, fun k h h1 => absurd h1 (by simp), fun k h h1 => absurd h1 (by simp only []; omega)⟩ (by ((try simp only [List.replicate_succ, List.replicate_zero, List.cons_append, List.nil_append]); repeat' (first | exact trivial | refine ⟨.inl rfl, ?_⟩ | refine ⟨.inr rfl, ?_⟩ | refine ⟨.inr (by simp), ?_⟩))) (Drops.refl _) ?_
  rintro ⟨i, j, m⟩ ⟨h1, h2, h3, h4, h5⟩
  simp only [] at h1 h2 h3 h4 h5 ⊢
  have hfd : ((i : Int) + j).fdiv (2 ^ min 1 IntKind.u64.bits) = (((i + j) / 2 : Nat) : Int) := by
    rw [show (2 : Int) ^ min 1 IntKind.u64.bits = 2 from rfl, Int.fdiv_eq_ediv_of_nonneg _ (by decide)]; omega
  have hx2 : VarsR ⟨σ.obj, m⟩ x l := hx.more fun _ => rfl
  simp -dsimp (maxSteps := 2000000) (disch := first | omega | (simp; done) | (simp; omega)) only [SA, SB, SC, SD, SE, SF, SG, SI, Nat.reduceLT, Nat.reduceAdd, Nat.reduceSub, Nat.reduceMul, Nat.reduceLeDiff, Nat.reduceEqDiff, Nat.reduceBEq, Int.reduceToNat, Int.reduceLE, Int.reduceLT, Int.reduceEq, Int.reduceNeg, reduceCtorEq, ↓reduceIte, List.replicate_succ, List.replicate_zero]
  by_cases hij : i < j
  · have hcond : decide ((i : Int) < j) = true := by simp; exact hij
    have hh : (i + j) / 2 < l.length := by omega
    obtain ⟨jj, e1, e2⟩ := hx2.at hh
    generalize hg : (i + j) / 2 = h at *
    (repeat' (first | simp -dsimp (maxSteps := 2000000) (disch := first | omega | (simp; done) | (simp; omega)) only [SA, SB, SC, SD, SE, SF, SG, SI, Nat.reduceLT, Nat.reduceAdd, Nat.reduceSub, Nat.reduceMul, Nat.reduceLeDiff, Nat.reduceEqDiff, Nat.reduceBEq, Int.reduceToNat, Int.reduceLE, Int.reduceLT, Int.reduceEq, Int.reduceNeg, reduceCtorEq, ↓reduceIte, hcond, hfd, e1, e2] | refine Cut.go ?_ | refine Both.intro ?_ ?_ | (refine Br.intro ?_ ?_ <;> intro hb <;> have hb' := hb <;> (try simp only [SH] at hb') <;> (try simp -dsimp (maxSteps := 2000000) (disch := first | omega | (simp; done) | (simp; omega)) only [SA, SB, SC, SD, SE, SF, SG, SI, Nat.reduceLT, Nat.reduceAdd, Nat.reduceSub, Nat.reduceMul, Nat.reduceLeDiff, Nat.reduceEqDiff, Nat.reduceBEq, Int.reduceToNat, Int.reduceLE, Int.reduceLT, Int.reduceEq, Int.reduceNeg, reduceCtorEq, ↓reduceIte, hb, hcond, hfd, e1, e2]))))
    refine ⟨gd45, (cmp45x _ _ _ _).mono fun o s' hc => ?_⟩
    obtain ⟨⟨m', hm, rfl⟩, rfl⟩ := hc
    simp only [] at hm
    (repeat' (first | simp -dsimp (maxSteps := 2000000) (disch := first | omega | (simp; done) | (simp; omega)) only [SA, SB, SC, SD, SE, SF, SG, SI, Nat.reduceLT, Nat.reduceAdd, Nat.reduceSub, Nat.reduceMul, Nat.reduceLeDiff, Nat.reduceEqDiff, Nat.reduceBEq, Int.reduceToNat, Int.reduceLE, Int.reduceLT, Int.reduceEq, Int.reduceNeg, reduceCtorEq, ↓reduceIte] | refine Cut.go ?_ | refine Both.intro ?_ ?_ | (refine Br.intro ?_ ?_ <;> intro hb <;> have hb' := hb <;> (try simp only [SH] at hb') <;> (try simp -dsimp (maxSteps := 2000000) (disch := first | omega | (simp; done) | (simp; omega)) only [SA, SB, SC, SD, SE, SF, SG, SI, Nat.reduceLT, Nat.reduceAdd, Nat.reduceSub, Nat.reduceMul, Nat.reduceLeDiff, Nat.reduceEqDiff, Nat.reduceBEq, Int.reduceToNat, Int.reduceLE, Int.reduceLT, Int.reduceEq, Int.reduceNeg, reduceCtorEq, ↓reduceIte, hb]))))
    · refine Round.go (h + 1, j, m') (by simp only []; omega) ⟨by simp only []; omega, h2, by simp only []; omega, fun k hk hkh => ?_, h5⟩ (by ((try simp only [List.replicate_succ, List.replicate_zero, List.cons_append, List.nil_append]); repeat' (first | exact trivial | refine ⟨.inl rfl, ?_⟩ | refine ⟨.inr rfl, ?_⟩ | refine ⟨.inr (by simp), ?_⟩))) (Drops.refl _)
      simp only [] at hkh
      by_cases hkh2 : k = h
      · subst hkh2; exact hb'
      · have := hso.at hh (i := k) (by omega)
        exact cb_trans _ _ _ this (by omega)
    · refine Round.go (i, h, m') (by simp only []; omega) ⟨by simp only []; omega, by simp only []; omega, by simp only []; omega, h4, fun k hk hkh => ?_⟩ (by ((try simp only [List.replicate_succ, List.replicate_zero, List.cons_append, List.nil_append]); repeat' (first | exact trivial | refine ⟨.inl rfl, ?_⟩ | refine ⟨.inr rfl, ?_⟩ | refine ⟨.inr (by simp), ?_⟩))) (Drops.refl _)
      simp only [] at hkh
      by_cases hkh2 : k = h
      · subst hkh2; omega
      · have h6 := hso.at hk (i := h) (by omega)
        refine Int.le_of_not_gt fun h7 => hb' ?_
        exact cb_trans _ _ _ h6 (by omega)
  · have hij' : i = j := by omega
    subst hij'
    have hcond : decide ((i : Int) < i) = false := by simp
    have hP : Pos l name i := ⟨h2, h4, h5⟩
    by_cases hil : i < l.length
    · have hcond2 : decide ((i : Int) < l.length) = true := by simp; exact hil
      obtain ⟨jj, e1, e2⟩ := hx2.at hil
      (repeat' (first | simp -dsimp (maxSteps := 2000000) (disch := first | omega | (simp; done) | (simp; omega)) only [SA, SB, SC, SD, SE, SF, SG, SI, Nat.reduceLT, Nat.reduceAdd, Nat.reduceSub, Nat.reduceMul, Nat.reduceLeDiff, Nat.reduceEqDiff, Nat.reduceBEq, Int.reduceToNat, Int.reduceLE, Int.reduceLT, Int.reduceEq, Int.reduceNeg, reduceCtorEq, ↓reduceIte, hcond, hcond2, e1, e2] | refine Cut.go ?_ | refine Both.intro ?_ ?_ | (refine Br.intro ?_ ?_ <;> intro hb <;> have hb' := hb <;> (try simp only [SH] at hb') <;> (try simp -dsimp (maxSteps := 2000000) (disch := first | omega | (simp; done) | (simp; omega)) only [SA, SB, SC, SD, SE, SF, SG, SI, Nat.reduceLT, Nat.reduceAdd, Nat.reduceSub, Nat.reduceMul, Nat.reduceLeDiff, Nat.reduceEqDiff, Nat.reduceBEq, Int.reduceToNat, Int.reduceLE, Int.reduceLT, Int.reduceEq, Int.reduceNeg, reduceCtorEq, ↓reduceIte, hb, hcond, hcond2, e1, e2]))))
      refine ⟨gd45, (cmp45x _ _ _ _).mono fun o s' hc => ?_⟩
      obtain ⟨⟨m', hm, rfl⟩, rfl⟩ := hc
      simp only [] at hm
      (repeat' (first | simp -dsimp (maxSteps := 2000000) (disch := first | omega | (simp; done) | (simp; omega)) only [SA, SB, SC, SD, SE, SF, SG, SI, Nat.reduceLT, Nat.reduceAdd, Nat.reduceSub, Nat.reduceMul, Nat.reduceLeDiff, Nat.reduceEqDiff, Nat.reduceBEq, Int.reduceToNat, Int.reduceLE, Int.reduceLT, Int.reduceEq, Int.reduceNeg, reduceCtorEq, ↓reduceIte] | refine Cut.go ?_ | refine Both.intro ?_ ?_ | (refine Br.intro ?_ ?_ <;> intro hb <;> have hb' := hb <;> (try simp only [SH] at hb') <;> (try simp -dsimp (maxSteps := 2000000) (disch := first | omega | (simp; done) | (simp; omega)) only [SA, SB, SC, SD, SE, SF, SG, SI, Nat.reduceLT, Nat.reduceAdd, Nat.reduceSub, Nat.reduceMul, Nat.reduceLeDiff, Nat.reduceEqDiff, Nat.reduceBEq, Int.reduceToNat, Int.reduceLE, Int.reduceLT, Int.reduceEq, Int.reduceNeg, reduceCtorEq, ↓reduceIte, hb]))))
      refine ⟨⟨m', by omega, rfl⟩, i, hP, ?_⟩
      have : (cb (l[i]).1 name == 0) = isAt l name i := by
        rw [isAt, dif_pos hil, Bool.eq_iff_iff, beq_iff_eq, beq_iff_eq]
        exact ⟨cb_zero _ _, fun h => by rw [h]; exact cb_refl _⟩
      rw [this]
    · have hcond2 : decide ((i : Int) < l.length) = false := by simp; omega
      (repeat' (first | simp -dsimp (maxSteps := 2000000) (disch := first | omega | (simp; done) | (simp; omega)) only [SA, SB, SC, SD, SE, SF, SG, SI, Nat.reduceLT, Nat.reduceAdd, Nat.reduceSub, Nat.reduceMul, Nat.reduceLeDiff, Nat.reduceEqDiff, Nat.reduceBEq, Int.reduceToNat, Int.reduceLE, Int.reduceLT, Int.reduceEq, Int.reduceNeg, reduceCtorEq, ↓reduceIte, hcond, hcond2] | refine Cut.go ?_ | refine Both.intro ?_ ?_ | (refine Br.intro ?_ ?_ <;> intro hb <;> have hb' := hb <;> (try simp only [SH] at hb') <;> (try simp -dsimp (maxSteps := 2000000) (disch := first | omega | (simp; done) | (simp; omega)) only [SA, SB, SC, SD, SE, SF, SG, SI, Nat.reduceLT, Nat.reduceAdd, Nat.reduceSub, Nat.reduceMul, Nat.reduceLeDiff, Nat.reduceEqDiff, Nat.reduceBEq, Int.reduceToNat, Int.reduceLE, Int.reduceLT, Int.reduceEq, Int.reduceNeg, reduceCtorEq, ↓reduceIte, hb, hcond, hcond2]))))
      refine ⟨⟨m, h3, rfl⟩, i, hP, ?_⟩
      rw [isAt, dif_neg hil]
theorem place24x {x y z : D} {l : Vs} (hl : l.length ≤ 1000) (hso : Sorted l) (name : List UInt8) {j : Nat} (σ : St) (hj : σ.obj j = some (.cells [x, y, z])) (hsx : scal x = true) (hx : VarsR σ x l) :
    Ok Tryz.prog 24 [.ref j 0, .str name] σ (fun o s' => (∃ m, σ.next ≤ m ∧ s' = ⟨σ.obj, m⟩) ∧ ∃ p, Pos l name p ∧ o = .ret (.tuple [.int .i64 p, .bool (isAt l name p)])) := by
  apply en24
  simp -dsimp (maxSteps := 2000000) (disch := first | omega | (simp; done) | (simp; omega)) only [SA, SB, SC, SD, SE, SF, SG, SI, Nat.reduceLT, Nat.reduceAdd, Nat.reduceSub, Nat.reduceMul, Nat.reduceLeDiff, Nat.reduceEqDiff, Nat.reduceBEq, Int.reduceToNat, Int.reduceLE, Int.reduceLT, Int.reduceEq, Int.reduceNeg, reduceCtorEq, ↓reduceIte, ic24, List.replicate_succ, List.replicate_zero]
  have hso' : scalO (some x) = some x := by simp [scalO, hsx]
  (repeat' (first | simp -dsimp (maxSteps := 2000000) (disch := first | omega | (simp; done) | (simp; omega)) only [SA, SB, SC, SD, SE, SF, SG, SI, Nat.reduceLT, Nat.reduceAdd, Nat.reduceSub, Nat.reduceMul, Nat.reduceLeDiff, Nat.reduceEqDiff, Nat.reduceBEq, Int.reduceToNat, Int.reduceLE, Int.reduceLT, Int.reduceEq, Int.reduceNeg, reduceCtorEq, ↓reduceIte, hj, hsx, hso', inilM_r] | refine Cut.go ?_ | refine Both.intro ?_ ?_ | (refine Br.intro ?_ ?_ <;> intro hb <;> have hb' := hb <;> (try simp only [SH] at hb') <;> (try simp -dsimp (maxSteps := 2000000) (disch := first | omega | (simp; done) | (simp; omega)) only [SA, SB, SC, SD, SE, SF, SG, SI, Nat.reduceLT, Nat.reduceAdd, Nat.reduceSub, Nat.reduceMul, Nat.reduceLeDiff, Nat.reduceEqDiff, Nat.reduceBEq, Int.reduceToNat, Int.reduceLE, Int.reduceLT, Int.reduceEq, Int.reduceNeg, reduceCtorEq, ↓reduceIte, hb, hj, hsx, hso', inilM_r]))))
  refine ⟨gd44, (bin44x hl hso name σ hx).mono fun o s' h => ?_⟩
  obtain ⟨⟨m, hm, rfl⟩, p, h1, rfl⟩ := h
  (repeat' (first | simp -dsimp (maxSteps := 2000000) (disch := first | omega | (simp; done) | (simp; omega)) only [SA, SB, SC, SD, SE, SF, SG, SI, Nat.reduceLT, Nat.reduceAdd, Nat.reduceSub, Nat.reduceMul, Nat.reduceLeDiff, Nat.reduceEqDiff, Nat.reduceBEq, Int.reduceToNat, Int.reduceLE, Int.reduceLT, Int.reduceEq, Int.reduceNeg, reduceCtorEq, ↓reduceIte] | refine Cut.go ?_ | refine Both.intro ?_ ?_ | (refine Br.intro ?_ ?_ <;> intro hb <;> have hb' := hb <;> (try simp only [SH] at hb') <;> (try simp -dsimp (maxSteps := 2000000) (disch := first | omega | (simp; done) | (simp; omega)) only [SA, SB, SC, SD, SE, SF, SG, SI, Nat.reduceLT, Nat.reduceAdd, Nat.reduceSub, Nat.reduceMul, Nat.reduceLeDiff, Nat.reduceEqDiff, Nat.reduceBEq, Int.reduceToNat, Int.reduceLE, Int.reduceLT, Int.reduceEq, Int.reduceNeg, reduceCtorEq, ↓reduceIte, hb]))))
  exact ⟨⟨m, hm, rfl⟩, p, h1, rfl⟩
/-- A table with one variable more, or another value. -/
def tset (n v : List UInt8) : Vs → Vs
  | [] => [(n, v)]
  | q :: r => if cb q.1 n < 0 then q :: tset n v r else if q.1 = n then (n, v) :: r else (n, v) :: q :: r
def tget (n : List UInt8) : Vs → Option (List UInt8)
  | [] => none
  | q :: r => if q.1 = n then some q.2 else tget n r
theorem Pos.zero {q : List UInt8 × List UInt8} {r : Vs} {n : List UInt8} (h : Pos (q :: r) n 0) : ¬ cb q.1 n < 0 := by
  have := h.hi 0 (by simp) (Nat.le_refl _)
  simp only [List.getElem_cons_zero] at this
  omega
theorem Pos.succ {q : List UInt8 × List UInt8} {r : Vs} {n : List UInt8} {p : Nat} (h : Pos (q :: r) n (p + 1)) : cb q.1 n < 0 ∧ Pos r n p := by
  refine ⟨h.lo 0 (by simp) (by omega), by have := h.le; simp at this; omega, fun k hk hkp => ?_, fun k hk hkp => ?_⟩
  · exact h.lo (k + 1) (by simp; omega) (by omega)
  · exact h.hi (k + 1) (by simp; omega) (by omega)
theorem tset_at (n v : List UInt8) : ∀ {l : Vs} {p : Nat}, Pos l n p → isAt l n p = true → l.set p (n, v) = tset n v l
  | [], p, _, h => by simp [isAt] at h
  | q :: r, 0, hp, h => by
    have hq : q.1 = n := by simpa [isAt] using h
    rw [tset, if_neg hp.zero, if_pos hq]; rfl
  | q :: r, p + 1, hp, h => by
    obtain ⟨h1, h2⟩ := hp.succ
    rw [tset, if_pos h1, List.set_cons_succ, tset_at n v h2 (by simpa [isAt] using h)]
theorem tset_new (n v : List UInt8) : ∀ {l : Vs} {p : Nat}, Pos l n p → isAt l n p = false → l.take p ++ [(n, v)] ++ l.drop p = tset n v l
  | [], p, hp, h => by simp [tset]
  | q :: r, 0, hp, h => by
    have hq : ¬ q.1 = n := by simpa [isAt] using h
    rw [tset, if_neg hp.zero, if_neg hq]; rfl
  | q :: r, p + 1, hp, h => by
    obtain ⟨h1, h2⟩ := hp.succ
    rw [tset, if_pos h1, ← tset_new n v h2 (by simpa [isAt] using h)]; rfl
theorem tget_at (n : List UInt8) : ∀ {l : Vs} {p : Nat}, Pos l n p → (h : p < l.length) → (l[p]).1 = n → tget n l = some (l[p]).2
  | [], p, _, h, _ => by simp at h
  | q :: r, 0, hp, h, hq => by
    have hq : q.1 = n := by simpa using hq
    rw [tget, if_pos hq]; rfl
  | q :: r, p + 1, hp, h, hq => by
    obtain ⟨h1, h2⟩ := hp.succ
    have h3 : ¬ q.1 = n := fun e => by rw [e, cb_refl] at h1; omega
    rw [tget, if_neg h3]
    exact tget_at n h2 (by simpa using h) (by simpa using hq)
theorem tget_none (n : List UInt8) : ∀ {l : Vs} {p : Nat}, Sorted l → Pos l n p → isAt l n p = false → tget n l = none
  | [], p, _, _, _ => rfl
  | q :: r, 0, hs, hp, h => by
    have hq : ¬ q.1 = n := by simpa [isAt] using h
    rw [tget, if_neg hq]
    have h0 := hp.zero
    have hall : ∀ z ∈ r, ¬ z.1 = n := fun z hz e => by
      have := (List.pairwise_cons.1 hs).1 z hz
      rw [e] at this; exact h0 this
    clear hp h hs h0 hq
    induction r with
    | nil => rfl
    | cons z r ih => rw [tget, if_neg (hall z (by simp))]; exact ih fun y hy => hall y (by simp [hy])
  | q :: r, p + 1, hs, hp, h => by
    obtain ⟨h1, h2⟩ := hp.succ
    have h3 : ¬ q.1 = n := fun e => by rw [e, cb_refl] at h1; omega
    rw [tget, if_neg h3]
    exact tget_none n (List.pairwise_cons.1 hs).2 h2 (by simpa [isAt] using h)
theorem tset_mem (n v : List UInt8) : ∀ {l : Vs} {z : List UInt8 × List UInt8}, z ∈ tset n v l → z = (n, v) ∨ z ∈ l
  | [], z, h => by simp [tset] at h; exact .inl h
  | q :: r, z, h => by
    rw [tset] at h
    split at h
    · rcases List.mem_cons.1 h with h | h
      · exact .inr (by simp [h])
      · rcases tset_mem n v h with h | h
        · exact .inl h
        · exact .inr (by simp [h])
    · split at h
      · rcases List.mem_cons.1 h with h | h
        · exact .inl h
        · exact .inr (by simp [h])
      · rcases List.mem_cons.1 h with h | h
        · exact .inl h
        · exact .inr h
theorem tset_sorted (n v : List UInt8) : ∀ {l : Vs}, Sorted l → Sorted (tset n v l)
  | [], _ => List.pairwise_singleton _ _
  | q :: r, h => by
    obtain ⟨h1, h2⟩ := List.pairwise_cons.1 h
    rw [tset]
    split
    · rename_i hc
      refine List.pairwise_cons.2 ⟨fun z hz => ?_, tset_sorted n v h2⟩
      rcases tset_mem n v hz with rfl | hz
      · exact hc
      · exact h1 z hz
    · rename_i hc
      split
      · rename_i he
        refine List.pairwise_cons.2 ⟨fun z hz => ?_, h2⟩
        rw [← he]; exact h1 z hz
      · rename_i he
        have hlt : cb n q.1 < 0 := by
          have a1 := cb_neg n q.1
          have a2 : cb q.1 n ≠ 0 := fun e => he (cb_zero _ _ e)
          omega
        refine List.pairwise_cons.2 ⟨fun z hz => ?_, h⟩
        rcases List.mem_cons.1 hz with rfl | hz
        · exact hlt
        · exact cb_trans _ _ _ hlt (Int.le_of_lt (h1 z hz))
theorem tget_tset (n v : List UInt8) : ∀ {l : Vs}, tget n (tset n v l) = some v
  | [] => by simp [tset, tget]
  | q :: r => by
    rw [tset]
    split
    · rename_i h
      have h3 : ¬ q.1 = n := fun e => by rw [e, cb_refl] at h; omega
      rw [tget, if_neg h3]; exact tget_tset n v
    · split <;> simp [tget]
end Go.Proofs.YthiidchbaicfgaaGreatDoor
