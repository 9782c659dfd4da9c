/-
  THE WALKS, layer 13, PART 28: a variable's value; what fields are split at.
-/
import Derived.Test.YthiidchbaicfgaaGreatDoorZS
namespace Go.Proofs.YthiidchbaicfgaaGreatDoor
open Go Go.Id
set_option linter.unusedSimpArgs false
set_option linter.unusedVariables false
set_option maxRecDepth 100000
set_option maxHeartbeats 8000000

/-- A table, to be read. -/
structure TabAt (σ : St) (j : Nat) (l : Vs) (y z : D) : Prop where
  few : l.length ≤ 64
  sorted : Sorted l
  lt : j < σ.next
  x : ∃ x, σ.obj j = some (.cells [x, y, z]) ∧ scal x = true ∧ scal y = true ∧ scal z = true ∧ VarsR σ x l
theorem TabY.read {σ0 s : St} {j : Nat} {l : Vs} {y z : D} (h : TabY σ0 j l y z s) : TabAt s j l y z := by
  obtain ⟨x, h1, h2, h3, h4, h5, _⟩ := h.x
  exact ⟨h.few, h.sorted, h.nxt.2, x, h1, h2, h3, h4, h5.read⟩
theorem TabAt.low {σ s : St} {j : Nat} {l : Vs} {y z : D} (h : TabAt σ j l y z) (hf : σ.Fresh) (ho : ∀ i, i < σ.next → s.obj i = σ.obj i) (hn : σ.next ≤ s.next) : TabAt s j l y z := by
  obtain ⟨x, h1, h2, h3, h4, h5⟩ := h.x
  exact ⟨h.few, h.sorted, Nat.lt_of_lt_of_le h.lt hn, x, by rw [ho _ h.lt]; exact h1, h2, h3, h4, h5.low hf ho⟩
theorem TabAt.more {σ : St} {j : Nat} {l : Vs} {y z : D} (h : TabAt σ j l y z) {m : Nat} (hm : σ.next ≤ m) : TabAt ⟨σ.obj, m⟩ j l y z := by
  obtain ⟨x, h1, h2, h3, h4, h5⟩ := h.x
  exact ⟨h.few, h.sorted, Nat.lt_of_lt_of_le h.lt hm, x, h1, h2, h3, h4, h5.more fun _ => rfl⟩
theorem name_first {n : List UInt8} (h : nameB n = true) : n ≠ [] ∧ letterB (n.getD 0 0) = true := by
  have h := of_decide_eq_true h
  refine ⟨List.length_pos_iff.1 h.1, ?_⟩
  by_cases hl : letterB (n.getD 0 0) = true
  · exact hl
  · have : namedN n = 0 := by rw [namedN, if_neg hl]
    omega
theorem name_not {n : List UInt8} (h : nameB n = true) (c : UInt8) (hc : letterB c = false) : (n == [c]) = false := by
  obtain ⟨h1, h2⟩ := name_first h
  rw [beq_eq_false_iff_ne]
  rintro rfl
  rw [show [c].getD 0 0 = c from rfl, hc] at h2; cases h2
theorem letter_no_digit {c : UInt8} (h : letterB c = true) : digitB c = false := by
  have h := of_decide_eq_true h
  unfold digitB
  rw [decide_eq_false_iff_not]
  omega
theorem get54n {σ : St} {j : Nat} {l : Vs} {y z : D} (ht : TabAt σ j l y z) {n : List UInt8} (hn : nameB n = true) : Pure 54 [.ref j 0, .str n] σ fun o => o = .ret (.tuple [.str ((tget n l).getD []), .bool (tget n l).isSome]) := by
  unfold Pure
  obtain ⟨x, hj, sx, sy, sz, hx⟩ := ht.x
  have hso : scalO (some x) = some x := by simp [scalO, sx]
  obtain ⟨n1, n2⟩ := name_first hn
  have e0 : (n == []) = false := by simpa using n1
  have e1 := name_not hn 35 (by decide)
  have e2 := name_not hn 63 (by decide)
  have e3 := name_not hn 64 (by decide)
  have e4 := name_not hn 42 (by decide)
  have i0 : idxStr (.str n) (.int .i64 0) = some (.int .u8 (n.getD 0 0).toNat) := idx_at n 0 (List.length_pos_iff.2 n1)
  have d0 := letter_no_digit n2
  apply en54
  simp -dsimp (maxSteps := 2000000) (disch := first | omega | (simp; done) | (simp; omega)) only [SA, SB, SC, SD, SE, SF, SG, SI, Nat.reduceLT, Nat.reduceAdd, Nat.reduceSub, Nat.reduceMul, Nat.reduceLeDiff, Nat.reduceEqDiff, Nat.reduceBEq, Int.reduceToNat, Int.reduceLE, Int.reduceLT, Int.reduceEq, Int.reduceNeg, reduceCtorEq, ↓reduceIte, ic54, List.replicate_succ, List.replicate_zero]
  (repeat' (first | simp -dsimp (maxSteps := 2000000) (disch := first | omega | (simp; done) | (simp; omega)) only [SA, SB, SC, SD, SE, SF, SG, SI, Nat.reduceLT, Nat.reduceAdd, Nat.reduceSub, Nat.reduceMul, Nat.reduceLeDiff, Nat.reduceEqDiff, Nat.reduceBEq, Int.reduceToNat, Int.reduceLE, Int.reduceLT, Int.reduceEq, Int.reduceNeg, reduceCtorEq, ↓reduceIte, e0, e1, e2, e3, e4, i0, d0] | refine Cut.go ?_ | refine Both.intro ?_ ?_ | refine via gd63 (digit63x _ _) ?_ | (refine Br.intro ?_ ?_ <;> intro hb <;> have hb' := hb <;> (try simp only [SH] at hb') <;> (try simp -dsimp (maxSteps := 2000000) (disch := first | omega | (simp; done) | (simp; omega)) only [SA, SB, SC, SD, SE, SF, SG, SI, Nat.reduceLT, Nat.reduceAdd, Nat.reduceSub, Nat.reduceMul, Nat.reduceLeDiff, Nat.reduceEqDiff, Nat.reduceBEq, Int.reduceToNat, Int.reduceLE, Int.reduceLT, Int.reduceEq, Int.reduceNeg, reduceCtorEq, ↓reduceIte, hb, e0, e1, e2, e3, e4, i0, d0]))))
  refine ⟨gd24, (place24x (by have := ht.few; omega) ht.sorted n σ hj sx hx).mono fun o s' h => ?_⟩
  obtain ⟨⟨m, hm, rfl⟩, p, hp, rfl⟩ := h
  cases hb : isAt l n p
  · have hg := tget_none n ht.sorted hp hb
    (repeat' (first | simp -dsimp (maxSteps := 2000000) (disch := first | omega | (simp; done) | (simp; omega)) only [SA, SB, SC, SD, SE, SF, SG, SI, Nat.reduceLT, Nat.reduceAdd, Nat.reduceSub, Nat.reduceMul, Nat.reduceLeDiff, Nat.reduceEqDiff, Nat.reduceBEq, Int.reduceToNat, Int.reduceLE, Int.reduceLT, Int.reduceEq, Int.reduceNeg, reduceCtorEq, ↓reduceIte] | refine Cut.go ?_ | refine Both.intro ?_ ?_ | (refine Br.intro ?_ ?_ <;> intro hb <;> have hb' := hb <;> (try simp only [SH] at hb') <;> (try simp -dsimp (maxSteps := 2000000) (disch := first | omega | (simp; done) | (simp; omega)) only [SA, SB, SC, SD, SE, SF, SG, SI, Nat.reduceLT, Nat.reduceAdd, Nat.reduceSub, Nat.reduceMul, Nat.reduceLeDiff, Nat.reduceEqDiff, Nat.reduceBEq, Int.reduceToNat, Int.reduceLE, Int.reduceLT, Int.reduceEq, Int.reduceNeg, reduceCtorEq, ↓reduceIte, hb]))))
    refine ⟨⟨m, hm, rfl⟩, ?_⟩
    rw [hg]; rfl
  · have hpl : ∃ h : p < l.length, (l[p]).1 = n := by
      unfold isAt at hb
      split at hb
      · rename_i h
        exact ⟨h, by simpa using hb⟩
      · cases hb
    obtain ⟨hp', hpn⟩ := hpl
    have hg := tget_at n hp hp' hpn
    rcases hx with ⟨rfl, rfl⟩ | ⟨jv, t, rfl, o1⟩
    · simp at hp'
    have a1 : idxAddrS 2 (.rslc jv 0 2 l.length (.opened t)) (.int .i64 p) = some (.ref jv (2 * p)) := by
      simp only [idxAddrS]
      rw [if_pos ⟨trivial, by omega, by omega⟩]
      simp [Nat.mul_comm]
    have a2 : cellsAt (flat2 l) (2 * p + 1) none = some (.str (l[p]).2) := by
      have e : (flat2 l)[2 * p + 1]? = some (.str (l[p]).2) := by
        have : ((flat2 l).drop (2 * p))[1]? = some (.str (l[p]).2) := by rw [flat2_drop, List.drop_eq_getElem_cons hp']; rfl
        simpa using this
      simp only [cellsAt, e, scal, if_true]
    (repeat' (first | simp -dsimp (maxSteps := 2000000) (disch := first | omega | (simp; done) | (simp; omega)) only [SA, SB, SC, SD, SE, SF, SG, SI, Nat.reduceLT, Nat.reduceAdd, Nat.reduceSub, Nat.reduceMul, Nat.reduceLeDiff, Nat.reduceEqDiff, Nat.reduceBEq, Int.reduceToNat, Int.reduceLE, Int.reduceLT, Int.reduceEq, Int.reduceNeg, reduceCtorEq, ↓reduceIte, hj, hso, a1, o1, a2] | refine Cut.go ?_ | refine Both.intro ?_ ?_ | (refine Br.intro ?_ ?_ <;> intro hb <;> have hb' := hb <;> (try simp only [SH] at hb') <;> (try simp -dsimp (maxSteps := 2000000) (disch := first | omega | (simp; done) | (simp; omega)) only [SA, SB, SC, SD, SE, SF, SG, SI, Nat.reduceLT, Nat.reduceAdd, Nat.reduceSub, Nat.reduceMul, Nat.reduceLeDiff, Nat.reduceEqDiff, Nat.reduceBEq, Int.reduceToNat, Int.reduceLE, Int.reduceLT, Int.reduceEq, Int.reduceNeg, reduceCtorEq, ↓reduceIte, hb, hj, hso, a1, o1, a2]))))
    refine ⟨⟨m, hm, rfl⟩, ?_⟩
    rw [hg]; rfl
def ifsN : List UInt8 := [73, 70, 83]
theorem ifs_name : nameB ifsN = true := by decide
def sepOf (l : Vs) : List UInt8 := (tget ifsN l).getD [32, 9, 10]
theorem sep29 {σ : St} {j : Nat} {l : Vs} {y z : D} (ht : TabAt σ j l y z) : Pure 29 [.ref j 0] σ fun o => o = .ret (.str (sepOf l)) := by
  unfold Pure
  apply en29
  simp -dsimp (maxSteps := 2000000) (disch := first | omega | (simp; done) | (simp; omega)) only [SA, SB, SC, SD, SE, SF, SG, SI, Nat.reduceLT, Nat.reduceAdd, Nat.reduceSub, Nat.reduceMul, Nat.reduceLeDiff, Nat.reduceEqDiff, Nat.reduceBEq, Int.reduceToNat, Int.reduceLE, Int.reduceLT, Int.reduceEq, Int.reduceNeg, reduceCtorEq, ↓reduceIte, ic29, List.replicate_succ, List.replicate_zero]
  (repeat' (first | simp -dsimp (maxSteps := 2000000) (disch := first | omega | (simp; done) | (simp; omega)) only [SA, SB, SC, SD, SE, SF, SG, SI, Nat.reduceLT, Nat.reduceAdd, Nat.reduceSub, Nat.reduceMul, Nat.reduceLeDiff, Nat.reduceEqDiff, Nat.reduceBEq, Int.reduceToNat, Int.reduceLE, Int.reduceLT, Int.reduceEq, Int.reduceNeg, reduceCtorEq, ↓reduceIte] | refine Cut.go ?_ | refine Both.intro ?_ ?_ | (refine Br.intro ?_ ?_ <;> intro hb <;> have hb' := hb <;> (try simp only [SH] at hb') <;> (try simp -dsimp (maxSteps := 2000000) (disch := first | omega | (simp; done) | (simp; omega)) only [SA, SB, SC, SD, SE, SF, SG, SI, Nat.reduceLT, Nat.reduceAdd, Nat.reduceSub, Nat.reduceMul, Nat.reduceLeDiff, Nat.reduceEqDiff, Nat.reduceBEq, Int.reduceToNat, Int.reduceLE, Int.reduceLT, Int.reduceEq, Int.reduceNeg, reduceCtorEq, ↓reduceIte, hb]))))
  refine ⟨gd54, (get54n ht ifs_name).mono fun o s' h => ?_⟩
  obtain ⟨⟨m, hm, rfl⟩, rfl⟩ := h
  unfold sepOf
  cases tget ifsN l with
  | none =>
    (repeat' (first | simp -dsimp (maxSteps := 2000000) (disch := first | omega | (simp; done) | (simp; omega)) only [SA, SB, SC, SD, SE, SF, SG, SI, Nat.reduceLT, Nat.reduceAdd, Nat.reduceSub, Nat.reduceMul, Nat.reduceLeDiff, Nat.reduceEqDiff, Nat.reduceBEq, Int.reduceToNat, Int.reduceLE, Int.reduceLT, Int.reduceEq, Int.reduceNeg, reduceCtorEq, ↓reduceIte, Option.isSome_none, Option.getD_none] | refine Cut.go ?_ | refine Both.intro ?_ ?_ | (refine Br.intro ?_ ?_ <;> intro hb <;> have hb' := hb <;> (try simp only [SH] at hb') <;> (try simp -dsimp (maxSteps := 2000000) (disch := first | omega | (simp; done) | (simp; omega)) only [SA, SB, SC, SD, SE, SF, SG, SI, Nat.reduceLT, Nat.reduceAdd, Nat.reduceSub, Nat.reduceMul, Nat.reduceLeDiff, Nat.reduceEqDiff, Nat.reduceBEq, Int.reduceToNat, Int.reduceLE, Int.reduceLT, Int.reduceEq, Int.reduceNeg, reduceCtorEq, ↓reduceIte, hb, Option.isSome_none, Option.getD_none]))))
    exact ⟨m, hm, rfl⟩
  | some v =>
    (repeat' (first | simp -dsimp (maxSteps := 2000000) (disch := first | omega | (simp; done) | (simp; omega)) only [SA, SB, SC, SD, SE, SF, SG, SI, Nat.reduceLT, Nat.reduceAdd, Nat.reduceSub, Nat.reduceMul, Nat.reduceLeDiff, Nat.reduceEqDiff, Nat.reduceBEq, Int.reduceToNat, Int.reduceLE, Int.reduceLT, Int.reduceEq, Int.reduceNeg, reduceCtorEq, ↓reduceIte, Option.isSome_some, Option.getD_some] | refine Cut.go ?_ | refine Both.intro ?_ ?_ | (refine Br.intro ?_ ?_ <;> intro hb <;> have hb' := hb <;> (try simp only [SH] at hb') <;> (try simp -dsimp (maxSteps := 2000000) (disch := first | omega | (simp; done) | (simp; omega)) only [SA, SB, SC, SD, SE, SF, SG, SI, Nat.reduceLT, Nat.reduceAdd, Nat.reduceSub, Nat.reduceMul, Nat.reduceLeDiff, Nat.reduceEqDiff, Nat.reduceBEq, Int.reduceToNat, Int.reduceLE, Int.reduceLT, Int.reduceEq, Int.reduceNeg, reduceCtorEq, ↓reduceIte, hb, Option.isSome_some, Option.getD_some]))))
    exact ⟨m, hm, rfl⟩
end Go.Proofs.YthiidchbaicfgaaGreatDoor
