/-
  THE WALKS, layer 13, PART 31: the document's table, exactly.
-/
import Derived.Test.YthiidchbaicfgaaGreatDoorZX
namespace Go.Proofs.YthiidchbaicfgaaGreatDoor
open Go Go.Id
set_option linter.unusedSimpArgs false
set_option linter.unusedVariables false
set_option maxRecDepth 100000
set_option maxHeartbeats 8000000

theorem less_cb : ∀ a b : List UInt8, Op.bytesLess a b = decide (cb a b < 0)
  | [], [] => rfl
  | _ :: _, [] => by simp [Op.bytesLess, cb, Lib.compareBytes]
  | [], _ :: _ => by simp [Op.bytesLess, cb, Lib.compareBytes]
  | x :: a, y :: b => by
    have ih := less_cb a b
    unfold cb at ih ⊢
    unfold Lib.compareBytes Op.bytesLess
    rw [ih]
    by_cases h1 : x < y
    · simp [h1]
    · by_cases h2 : y < x
      · have h3 : (x == y) = false := by
          rw [beq_eq_false_iff_ne]
          rintro rfl
          exact UInt8.lt_irrefl _ h2
        simp [h1, h2, h3]
      · have : x = y := UInt8.le_antisymm (UInt8.not_lt.1 h2) (UInt8.not_lt.1 h1)
        subst this
        simp [h1]
/-- The list that the document's 'Set' builds. -/
def rset (n v : List UInt8) : Bool → Vs → Vs
  | done, [] => if done then [] else [(n, v)]
  | done, q :: r => (if !done && !Op.bytesLess q.1 n then [(n, v)] else []) ++ (if q.1 == n then [] else [q]) ++ rset n v (done || !Op.bytesLess q.1 n) r
theorem rset_rest (n v : List UInt8) : ∀ r : Vs, (∀ z ∈ r, ¬ z.1 = n) → rset n v true r = r
  | [], _ => rfl
  | q :: r, h => by
    have h1 : (q.1 == n) = false := by simpa using h q (by simp)
    have e : (true || !Op.bytesLess q.1 n) = true := rfl
    rw [rset, e, rset_rest n v r fun z hz => h z (by simp [hz]), h1]; rfl
theorem rset_eq (n v : List UInt8) : ∀ l : Vs, Sorted l → rset n v false l = tset n v l
  | [], _ => rfl
  | q :: r, h => by
    obtain ⟨h1, h2⟩ := List.pairwise_cons.1 h
    rw [rset, tset, less_cb]
    by_cases hc : cb q.1 n < 0
    · have h3 : (q.1 == n) = false := by
        rw [beq_eq_false_iff_ne]
        intro e
        rw [e, cb_refl] at hc; omega
      rw [if_pos hc, h3, ← rset_eq n v r h2]
      simp [hc]
    · have hr : ∀ z ∈ r, ¬ z.1 = n := fun z hz e => by
        have := h1 z hz
        rw [e] at this; exact hc this
      have e : (false || !decide (cb q.1 n < 0)) = true := by simp [hc]
      have e2 : (!false && !decide (cb q.1 n < 0)) = true := by simp [hc]
      rw [if_neg hc, e, rset_rest n v r hr, e2, if_pos rfl]
      by_cases hq : q.1 = n
      · have h3 : (q.1 == n) = true := by simpa using hq
        rw [h3, if_pos hq]; rfl
      · have h3 : (q.1 == n) = false := by simpa using hq
        rw [h3, if_neg hq]; rfl
theorem VarsR.at3 {s : St} {x : D} {l : Vs} (h : VarsR s x l) {i : Nat} (hi : i < l.length) :
    ∃ j, idxAddrS 2 x (.int .i64 i) = some (.ref j (2 * i)) ∧ iload (some 2) (.ref j (2 * i)) s = some (.agg [.str (l[i]).1, .str (l[i]).2]) ∧ iload none (.ref j (2 * i)) s = some (.str (l[i]).1) := by
  obtain ⟨j, e1, e2⟩ := h.at hi
  refine ⟨j, e1, e2, ?_⟩
  rcases h with ⟨rfl, rfl⟩ | ⟨j', t, rfl, h1⟩
  · simp at hi
  · simp only [idxAddrS] at e1
    split at e1
    · simp only [Option.some.injEq, D.ref.injEq] at e1
      obtain ⟨rfl, -⟩ := e1
      have e : (flat2 l)[2 * i]? = some (.str l[i].1) := by
        have : ((flat2 l).drop (2 * i))[0]? = some (.str l[i].1) := by rw [flat2_drop, List.drop_eq_getElem_cons hi]; rfl
        simpa using this
      simp only [iload, h1, cellsAt, e, scalO, Option.bind, scal, if_true]
    · cases e1
theorem VarsR.ld {s : St} {x : D} {l : Vs} (h : VarsR s x l) {i j : Nat} (hi : i < l.length) (e : idxAddrS 2 x (.int .i64 i) = some (.ref j (2 * i))) :
    iload (some 2) (.ref j (2 * i)) s = some (.agg [.str (l[i]).1, .str (l[i]).2]) ∧ iload none (.ref j (2 * i)) s = some (.str (l[i]).1) := by
  obtain ⟨j', e', h1, h2⟩ := h.at3 hi
  rw [e] at e'
  cases e'
  exact ⟨h1, h2⟩
/-- Where the document finds a name. -/
def rplace (n : List UInt8) (l : Vs) : Int := if (tget n l).isSome then 0 else -1
theorem place26x {x y z : D} {l : Vs} (hl : l.length ≤ 1100) (sx : scal x = true) (sy : scal y = true) (sz : scal z = true) (name : List UInt8) (σ : St) (hx : VarsR σ x l) :
    Pure 26 [.agg [x, y, z], .str name] σ fun o => ∃ p : Int, o = .ret (.int .i64 p) ∧ ((tget name l = none ∧ p = -1) ∨ ∃ (q : Nat) (h : q < l.length), p = q ∧ tget name l = some (l[q]).2) := by
  refine Ok.fresh fun hf => Ok.drop ?_
  have hlx := hx.len
  have hd : dcells (.agg [x, y, z]) = some [x, y, z] := by simp [dcells, sx, sy, sz]
  have hso : scalO (some x) = some x := by simp [scalO, sx]
  apply en26
  simp -dsimp (maxSteps := 2000000) (disch := first | omega | (simp; done) | (simp; omega)) only [SA, SB, SC, SD, SE, SF, SG, SI, Nat.reduceLT, Nat.reduceAdd, Nat.reduceSub, Nat.reduceMul, Nat.reduceLeDiff, Nat.reduceEqDiff, Nat.reduceBEq, Int.reduceToNat, Int.reduceLE, Int.reduceLT, Int.reduceEq, Int.reduceNeg, reduceCtorEq, ↓reduceIte, ic26, List.replicate_succ, List.replicate_zero]
  (repeat' (first | simp -dsimp (maxSteps := 2000000) (disch := first | omega | (simp; done) | (simp; omega)) only [SA, SB, SC, SD, SE, SF, SG, SI, Nat.reduceLT, Nat.reduceAdd, Nat.reduceSub, Nat.reduceMul, Nat.reduceLeDiff, Nat.reduceEqDiff, Nat.reduceBEq, Int.reduceToNat, Int.reduceLE, Int.reduceLT, Int.reduceEq, Int.reduceNeg, reduceCtorEq, ↓reduceIte, hd] | refine Cut.go ?_ | refine Both.intro ?_ ?_ | (refine Br.intro ?_ ?_ <;> intro hb <;> have hb' := hb <;> (try simp only [SH] at hb') <;> (try simp -dsimp (maxSteps := 2000000) (disch := first | omega | (simp; done) | (simp; omega)) only [SA, SB, SC, SD, SE, SF, SG, SI, Nat.reduceLT, Nat.reduceAdd, Nat.reduceSub, Nat.reduceMul, Nat.reduceLeDiff, Nat.reduceEqDiff, Nat.reduceBEq, Int.reduceToNat, Int.reduceLE, Int.reduceLT, Int.reduceEq, Int.reduceNeg, reduceCtorEq, ↓reduceIte, hb, hd]))))
  refine loop_go (α := Nat) (fun i => [.agg [x, y, z], .str name, .ref σ.next 0, .junk, .int .i64 0, .int .i64 i] ++ List.replicate 16 .junk) (fun _ => σ.alloc (.cells [x, y, z])) (fun i => l.length - i) (fun i => i ≤ l.length ∧ tget name l = tget name (l.drop i)) 0 ⟨Nat.zero_le _, rfl⟩ (by ((try simp only [List.replicate_succ, List.replicate_zero, List.cons_append, List.nil_append]); repeat' (first | exact trivial | refine ⟨.inl rfl, ?_⟩ | refine ⟨.inr rfl, ?_⟩ | refine ⟨.inr (by simp), ?_⟩))) (Drops.refl _) ?_
  rintro i ⟨h1, hT⟩
  have hx2 : VarsR (σ.alloc (.cells [x, y, z])) x l := hx.low hf fun i hi => by rw [alloc_obj, if_neg (by omega)]
  have hend : ∀ p : Int, ((tget name l = none ∧ p = -1) ∨ ∃ (q : Nat) (h : q < l.length), p = q ∧ tget name l = some (l[q]).2) → ∃ s', Drops (σ.alloc (.cells [x, y, z])) s' ∧ (∃ m, σ.next ≤ m ∧ s' = ⟨σ.obj, m⟩) ∧ ∃ q : Int, Out.ret (.int .i64 p) = .ret (.int .i64 q) ∧ ((tget name l = none ∧ q = -1) ∨ ∃ (q' : Nat) (h : q' < l.length), q = q' ∧ tget name l = some (l[q']).2) := fun p hp =>
    ⟨_, drops_old hf (fun i hi => by rw [alloc_obj, if_neg (by omega)]), ⟨_, by rw [alloc_next]; omega, rfl⟩, p, rfl, hp⟩
  simp -dsimp (maxSteps := 2000000) (disch := first | omega | (simp; done) | (simp; omega)) only [SA, SB, SC, SD, SE, SF, SG, SI, Nat.reduceLT, Nat.reduceAdd, Nat.reduceSub, Nat.reduceMul, Nat.reduceLeDiff, Nat.reduceEqDiff, Nat.reduceBEq, Int.reduceToNat, Int.reduceLE, Int.reduceLT, Int.reduceEq, Int.reduceNeg, reduceCtorEq, ↓reduceIte, List.replicate_succ, List.replicate_zero]
  by_cases hi : i < l.length
  · have hcond : decide ((i : Int) < l.length) = true := by simp; exact hi
    obtain ⟨j, a1, a2, a3⟩ := hx2.at3 hi
    rw [List.drop_eq_getElem_cons hi, tget] at hT
    by_cases he : (l[i]).1 = name
    · have z1 : ((l[i]).1 == name) = true := by simpa using he
      rw [if_pos he] at hT
      (repeat' (first | simp -dsimp (maxSteps := 2000000) (disch := first | omega | (simp; done) | (simp; omega)) only [SA, SB, SC, SD, SE, SF, SG, SI, Nat.reduceLT, Nat.reduceAdd, Nat.reduceSub, Nat.reduceMul, Nat.reduceLeDiff, Nat.reduceEqDiff, Nat.reduceBEq, Int.reduceToNat, Int.reduceLE, Int.reduceLT, Int.reduceEq, Int.reduceNeg, reduceCtorEq, ↓reduceIte, hlx, hso, hcond, a1, a3, z1] | refine Cut.go ?_ | refine Both.intro ?_ ?_ | (refine Br.intro ?_ ?_ <;> intro hb <;> have hb' := hb <;> (try simp only [SH] at hb') <;> (try simp -dsimp (maxSteps := 2000000) (disch := first | omega | (simp; done) | (simp; omega)) only [SA, SB, SC, SD, SE, SF, SG, SI, Nat.reduceLT, Nat.reduceAdd, Nat.reduceSub, Nat.reduceMul, Nat.reduceLeDiff, Nat.reduceEqDiff, Nat.reduceBEq, Int.reduceToNat, Int.reduceLE, Int.reduceLT, Int.reduceEq, Int.reduceNeg, reduceCtorEq, ↓reduceIte, hb, hlx, hso, hcond, a1, a3, z1]))))
      exact hend _ (.inr ⟨i, hi, rfl, hT⟩)
    · have z1 : ((l[i]).1 == name) = false := by simpa using he
      rw [if_neg he] at hT
      (repeat' (first | simp -dsimp (maxSteps := 2000000) (disch := first | omega | (simp; done) | (simp; omega)) only [SA, SB, SC, SD, SE, SF, SG, SI, Nat.reduceLT, Nat.reduceAdd, Nat.reduceSub, Nat.reduceMul, Nat.reduceLeDiff, Nat.reduceEqDiff, Nat.reduceBEq, Int.reduceToNat, Int.reduceLE, Int.reduceLT, Int.reduceEq, Int.reduceNeg, reduceCtorEq, ↓reduceIte, hlx, hso, hcond, a1, a3, z1] | refine Cut.go ?_ | refine Both.intro ?_ ?_ | (refine Br.intro ?_ ?_ <;> intro hb <;> have hb' := hb <;> (try simp only [SH] at hb') <;> (try simp -dsimp (maxSteps := 2000000) (disch := first | omega | (simp; done) | (simp; omega)) only [SA, SB, SC, SD, SE, SF, SG, SI, Nat.reduceLT, Nat.reduceAdd, Nat.reduceSub, Nat.reduceMul, Nat.reduceLeDiff, Nat.reduceEqDiff, Nat.reduceBEq, Int.reduceToNat, Int.reduceLE, Int.reduceLT, Int.reduceEq, Int.reduceNeg, reduceCtorEq, ↓reduceIte, hb, hlx, hso, hcond, a1, a3, z1]))))
      exact Round.go (i + 1) (by omega) ⟨by omega, hT⟩ (by ((try simp only [List.replicate_succ, List.replicate_zero, List.cons_append, List.nil_append]); repeat' (first | exact trivial | refine ⟨.inl rfl, ?_⟩ | refine ⟨.inr rfl, ?_⟩ | refine ⟨.inr (by simp), ?_⟩))) (Drops.refl _)
  · have hcond : decide ((i : Int) < l.length) = false := by simp; omega
    rw [List.drop_of_length_le (by omega)] at hT
    (repeat' (first | simp -dsimp (maxSteps := 2000000) (disch := first | omega | (simp; done) | (simp; omega)) only [SA, SB, SC, SD, SE, SF, SG, SI, Nat.reduceLT, Nat.reduceAdd, Nat.reduceSub, Nat.reduceMul, Nat.reduceLeDiff, Nat.reduceEqDiff, Nat.reduceBEq, Int.reduceToNat, Int.reduceLE, Int.reduceLT, Int.reduceEq, Int.reduceNeg, reduceCtorEq, ↓reduceIte, hlx, hso, hcond] | refine Cut.go ?_ | refine Both.intro ?_ ?_ | (refine Br.intro ?_ ?_ <;> intro hb <;> have hb' := hb <;> (try simp only [SH] at hb') <;> (try simp -dsimp (maxSteps := 2000000) (disch := first | omega | (simp; done) | (simp; omega)) only [SA, SB, SC, SD, SE, SF, SG, SI, Nat.reduceLT, Nat.reduceAdd, Nat.reduceSub, Nat.reduceMul, Nat.reduceLeDiff, Nat.reduceEqDiff, Nat.reduceBEq, Int.reduceToNat, Int.reduceLE, Int.reduceLT, Int.reduceEq, Int.reduceNeg, reduceCtorEq, ↓reduceIte, hb, hlx, hso, hcond]))))
    exact hend _ (.inl ⟨hT, rfl⟩)
end Go.Proofs.YthiidchbaicfgaaGreatDoor
