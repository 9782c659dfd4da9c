/-
  THE WALKS, layer 13, PART 30: atoms of a word of one part.
-/
import Derived.Test.YthiidchbaicfgaaGreatDoorZU
namespace Go.Proofs.YthiidchbaicfgaaGreatDoor
open Go Go.Id
set_option linter.unusedSimpArgs false
set_option linter.unusedVariables false
set_option maxRecDepth 100000
set_option maxHeartbeats 8000000

def partD (k : Int) (q : Bool) (t : List UInt8) : List D := [.int .i64 k, .bool q, .str t, .str [], .nils]
theorem part_at (k : Int) (q : Bool) (t : List UInt8) (r : Room) : idxAddrS 5 (.slc 5 [.agg (partD k q t)] r) (.int .i64 0) = some (.box (partD k q t) 0) := by
  simp [idxAddrS, partD, dcells, scal]
theorem part_load (k : Int) (q : Bool) (t : List UInt8) : cellsAt (partD k q t) 0 (some 5) = some (.agg (partD k q t)) := rfl
theorem part_cells (k : Int) (q : Bool) (t : List UInt8) : dcells (.agg (partD k q t)) = some (partD k q t) := rfl
theorem part_set (k : Int) (q : Bool) (t : List UInt8) : setAt [.int .i64 0, .bool false, .str [], .str [], .nils] 0 (partD k q t) = partD k q t := rfl
theorem part_k (k : Int) (q : Bool) (t : List UInt8) : cellsAt (partD k q t) 0 none = some (.int .i64 k) := rfl
theorem part_q (k : Int) (q : Bool) (t : List UInt8) : cellsAt (partD k q t) 1 none = some (.bool q) := rfl
theorem part_t (k : Int) (q : Bool) (t : List UInt8) : cellsAt (partD k q t) 2 none = some (.str t) := rfl
theorem part_1 (k : Int) (q : Bool) (t : List UInt8) : (partD k q t)[1]? = some (.bool q) := rfl
theorem part_2 (k : Int) (q : Bool) (t : List UInt8) : (partD k q t)[2]? = some (.str t) := rfl
theorem tilde66 {x : D} {k : Int} {q : Bool} {t : List UInt8} {r : Room} (hk : k ≠ 1 ∨ q = true) (σ : St) : Pure 66 [x, .slc 5 [.agg (partD k q t)] r] σ fun o => o = .ret (.bool false) := by
  refine Ok.fresh fun hf => Ok.drop ?_
  have i0 := part_at k q t r
  have l0 := part_load k q t
  apply en66
  simp -dsimp (maxSteps := 2000000) (disch := first | omega | (simp; done) | (simp; omega)) only [SA, SB, SC, SD, SE, SF, SG, SI, Nat.reduceLT, Nat.reduceAdd, Nat.reduceSub, Nat.reduceMul, Nat.reduceLeDiff, Nat.reduceEqDiff, Nat.reduceBEq, Int.reduceToNat, Int.reduceLE, Int.reduceLT, Int.reduceEq, Int.reduceNeg, reduceCtorEq, ↓reduceIte, ic66, List.replicate_succ, List.replicate_zero]
  have fin : ∃ s', Drops ((σ.alloc (.cells [.int .i64 0, .bool false, .str [], .str [], .nils])).put σ.next (some (.cells (partD k q t)))) s' ∧ (∃ m, σ.next ≤ m ∧ s' = ⟨σ.obj, m⟩) ∧ Out.ret (.bool false) = .ret (.bool false) :=
    ⟨_, drops_old hf (fun i hi => by rw [put_obj, if_neg (by omega), alloc_obj, if_neg (by omega)]), ⟨_, by show σ.next ≤ σ.next + 1; omega, rfl⟩, rfl⟩
  unfold partD at *
  by_cases h1 : k = 1
  · subst h1
    obtain rfl : q = true := by simpa using hk
    have z1 : ((1 : Int) != 1) = false := rfl
    (repeat' (first | simp -dsimp (maxSteps := 2000000) (disch := first | omega | (simp; done) | (simp; omega)) only [SA, SB, SC, SD, SE, SF, SG, SI, Nat.reduceLT, Nat.reduceAdd, Nat.reduceSub, Nat.reduceMul, Nat.reduceLeDiff, Nat.reduceEqDiff, Nat.reduceBEq, Int.reduceToNat, Int.reduceLE, Int.reduceLT, Int.reduceEq, Int.reduceNeg, reduceCtorEq, ↓reduceIte, i0, l0, z1] | refine Cut.go ?_ | refine Both.intro ?_ ?_ | (refine Br.intro ?_ ?_ <;> intro hb <;> have hb' := hb <;> (try simp only [SH] at hb') <;> (try simp -dsimp (maxSteps := 2000000) (disch := first | omega | (simp; done) | (simp; omega)) only [SA, SB, SC, SD, SE, SF, SG, SI, Nat.reduceLT, Nat.reduceAdd, Nat.reduceSub, Nat.reduceMul, Nat.reduceLeDiff, Nat.reduceEqDiff, Nat.reduceBEq, Int.reduceToNat, Int.reduceLE, Int.reduceLT, Int.reduceEq, Int.reduceNeg, reduceCtorEq, ↓reduceIte, hb, i0, l0, z1]))))
    obtain ⟨s', d1, ⟨m, d2, d3⟩, _⟩ := fin
    exact ⟨s', d1, m, d2, d3⟩
  · have z1 : (k != 1) = true := by simpa using h1
    (repeat' (first | simp -dsimp (maxSteps := 2000000) (disch := first | omega | (simp; done) | (simp; omega)) only [SA, SB, SC, SD, SE, SF, SG, SI, Nat.reduceLT, Nat.reduceAdd, Nat.reduceSub, Nat.reduceMul, Nat.reduceLeDiff, Nat.reduceEqDiff, Nat.reduceBEq, Int.reduceToNat, Int.reduceLE, Int.reduceLT, Int.reduceEq, Int.reduceNeg, reduceCtorEq, ↓reduceIte, i0, l0, z1] | refine Cut.go ?_ | refine Both.intro ?_ ?_ | (refine Br.intro ?_ ?_ <;> intro hb <;> have hb' := hb <;> (try simp only [SH] at hb') <;> (try simp -dsimp (maxSteps := 2000000) (disch := first | omega | (simp; done) | (simp; omega)) only [SA, SB, SC, SD, SE, SF, SG, SI, Nat.reduceLT, Nat.reduceAdd, Nat.reduceSub, Nat.reduceMul, Nat.reduceLeDiff, Nat.reduceEqDiff, Nat.reduceBEq, Int.reduceToNat, Int.reduceLE, Int.reduceLT, Int.reduceEq, Int.reduceNeg, reduceCtorEq, ↓reduceIte, hb, i0, l0, z1]))))
    obtain ⟨s', d1, ⟨m, d2, d3⟩, _⟩ := fin
    exact ⟨s', d1, m, d2, d3⟩
def PartsOut (σ0 : St) (j : Nat) (al : List Atm) (o : Out) (s : St) : Prop := o = .ret (.int .i64 0) ∧ Exp σ0 j al s
theorem Exp.parts_param {σ0 s : St} {j : Nat} {l : Vs} {y z : D} {al : List Atm} (h : Exp σ0 j al s) (hf : σ0.Fresh) (ht : TabAt σ0 j l y z) (hl : al.length ≤ 1000000) {n : List UInt8} (hn : nameB n = true) (q : Bool) {r : Room} :
    Ok Tryz.prog 49 [.ref σ0.next 0, .slc 5 [.agg (partD 2 q n)] r, .bool false] s (PartsOut σ0 j (al ++ [⟨(tget n l).getD [], q, !q, false⟩])) := by
  have hx : ilen (.slc 5 [.agg (partD 2 q n)] r) = some (.int .i64 1) := rfl
  have i0 := part_at 2 q n r
  have l0 := part_load 2 q n
  have hnx := h.nxt
  apply en49
  simp -dsimp (maxSteps := 2000000) (disch := first | omega | (simp; done) | (simp; omega)) only [SA, SB, SC, SD, SE, SF, SG, SI, Nat.reduceLT, Nat.reduceAdd, Nat.reduceSub, Nat.reduceMul, Nat.reduceLeDiff, Nat.reduceEqDiff, Nat.reduceBEq, Int.reduceToNat, Int.reduceLE, Int.reduceLT, Int.reduceEq, Int.reduceNeg, reduceCtorEq, ↓reduceIte, ic49, List.replicate_succ, List.replicate_zero]
  (repeat' (first | simp -dsimp (maxSteps := 2000000) (disch := first | omega | (simp; done) | (simp; omega)) only [SA, SB, SC, SD, SE, SF, SG, SI, Nat.reduceLT, Nat.reduceAdd, Nat.reduceSub, Nat.reduceMul, Nat.reduceLeDiff, Nat.reduceEqDiff, Nat.reduceBEq, Int.reduceToNat, Int.reduceLE, Int.reduceLT, Int.reduceEq, Int.reduceNeg, reduceCtorEq, ↓reduceIte, hx] | refine Cut.go ?_ | refine Both.intro ?_ ?_ | (refine Br.intro ?_ ?_ <;> intro hb <;> have hb' := hb <;> (try simp only [SH] at hb') <;> (try simp -dsimp (maxSteps := 2000000) (disch := first | omega | (simp; done) | (simp; omega)) only [SA, SB, SC, SD, SE, SF, SG, SI, Nat.reduceLT, Nat.reduceAdd, Nat.reduceSub, Nat.reduceMul, Nat.reduceLeDiff, Nat.reduceEqDiff, Nat.reduceBEq, Int.reduceToNat, Int.reduceLE, Int.reduceLT, Int.reduceEq, Int.reduceNeg, reduceCtorEq, ↓reduceIte, hb, hx]))))
  refine loop_go (α := Nat × St) (fun a => [.ref σ0.next 0, .slc 5 [.agg (partD 2 q n)] r, .bool false, .junk, .junk, .junk, .int .i64 0, .junk, .junk, .junk, .junk, .slc 5 [.agg (partD 2 q n)] r, .int .i64 1, .int .i64 a.1] ++ List.replicate 71 .junk) (fun a => a.2) (fun a => 1 - a.1) (fun a => (a.1 = 0 ∧ a.2 = s) ∨ (a.1 = 1 ∧ Exp σ0 j (al ++ [⟨(tget n l).getD [], q, !q, false⟩]) a.2)) (0, s) (.inl ⟨rfl, rfl⟩) (by ((try simp only [List.replicate_succ, List.replicate_zero, List.cons_append, List.nil_append]); repeat' (first | exact trivial | refine ⟨.inl rfl, ?_⟩ | refine ⟨.inr rfl, ?_⟩ | refine ⟨.inr (by simp), ?_⟩))) (Drops.refl _) ?_
  rintro ⟨i, u⟩ (⟨h1, h2⟩ | ⟨h1, h2⟩)
  · simp only [] at h1 h2
    subst h1; subst h2
    have z0 : decide (((0 : Nat) : Int) < 1) = true := rfl
    have z1 : (((0 : Nat) : Int) == 0) = true := rfl
    have i0' : idxAddrS 5 (.slc 5 [.agg (partD 2 q n)] r) (.int .i64 ((0 : Nat) : Int)) = some (.box (partD 2 q n) 0) := i0
    have z2 : ((2 : Int) == 1) = false := rfl
    have z3 : ((2 : Int) == 2) = true := rfl
    have z4 : ((0 : Int) != 0) = false := rfl
    have hE : Exp σ0 j al ((u.alloc (.cells [.int .i64 0, .bool false, .str [], .str [], .nils])).put u.next (some (.cells (partD 2 q n)))) :=
      h.grow (fun i hi => by rw [put_obj, if_neg (by omega), alloc_obj, if_neg (by omega)]) (by show u.next ≤ u.next + 1; omega) (put_fresh (alloc_fresh h.fresh _) (by rw [alloc_next]; omega) _)
    have o2 : ((u.alloc (.cells [.int .i64 0, .bool false, .str [], .str [], .nils])).put u.next (some (.cells (partD 2 q n)))).obj u.next = some (.cells (partD 2 q n)) := by rw [put_obj, if_pos rfl]
    have dc := part_cells 2 q n
    simp -dsimp (maxSteps := 2000000) (disch := first | omega | (simp; done) | (simp; omega)) only [SA, SB, SC, SD, SE, SF, SG, SI, Nat.reduceLT, Nat.reduceAdd, Nat.reduceSub, Nat.reduceMul, Nat.reduceLeDiff, Nat.reduceEqDiff, Nat.reduceBEq, Int.reduceToNat, Int.reduceLE, Int.reduceLT, Int.reduceEq, Int.reduceNeg, reduceCtorEq, ↓reduceIte, List.replicate_succ, List.replicate_zero]
    (repeat' (first | simp -dsimp (maxSteps := 2000000) (disch := first | omega | (simp; done) | (simp; omega)) only [SA, SB, SC, SD, SE, SF, SG, SI, Nat.reduceLT, Nat.reduceAdd, Nat.reduceSub, Nat.reduceMul, Nat.reduceLeDiff, Nat.reduceEqDiff, Nat.reduceBEq, Int.reduceToNat, Int.reduceLE, Int.reduceLT, Int.reduceEq, Int.reduceNeg, reduceCtorEq, ↓reduceIte, z0, i0, i0', l0, dc, z1, part_set] | refine Cut.go ?_ | refine Both.intro ?_ ?_ | (refine Br.intro ?_ ?_ <;> intro hb <;> have hb' := hb <;> (try simp only [SH] at hb') <;> (try simp -dsimp (maxSteps := 2000000) (disch := first | omega | (simp; done) | (simp; omega)) only [SA, SB, SC, SD, SE, SF, SG, SI, Nat.reduceLT, Nat.reduceAdd, Nat.reduceSub, Nat.reduceMul, Nat.reduceLeDiff, Nat.reduceEqDiff, Nat.reduceBEq, Int.reduceToNat, Int.reduceLE, Int.reduceLT, Int.reduceEq, Int.reduceNeg, reduceCtorEq, ↓reduceIte, hb, z0, i0, i0', l0, dc, z1, part_set]))))
    generalize hS : ((u.alloc (.cells [.int .i64 0, .bool false, .str [], .str [], .nils])).put u.next (some (.cells (partD 2 q n)))) = S at *
    refine ⟨gd66, (tilde66 (.inl (by decide)) S).mono fun o s' g => ?_⟩
    obtain ⟨⟨m, hm, rfl⟩, rfl⟩ := g
    have hE2 : Exp σ0 j al ⟨S.obj, m⟩ := hE.grow (fun _ _ => rfl) hm fun i hi => hE.fresh i (Nat.le_trans hm hi)
    (repeat' (first | simp -dsimp (maxSteps := 2000000) (disch := first | omega | (simp; done) | (simp; omega)) only [SA, SB, SC, SD, SE, SF, SG, SI, Nat.reduceLT, Nat.reduceAdd, Nat.reduceSub, Nat.reduceMul, Nat.reduceLeDiff, Nat.reduceEqDiff, Nat.reduceBEq, Int.reduceToNat, Int.reduceLE, Int.reduceLT, Int.reduceEq, Int.reduceNeg, reduceCtorEq, ↓reduceIte, o2, part_k, l0, z2, z3] | refine Cut.go ?_ | refine Both.intro ?_ ?_ | (refine Br.intro ?_ ?_ <;> intro hb <;> have hb' := hb <;> (try simp only [SH] at hb') <;> (try simp -dsimp (maxSteps := 2000000) (disch := first | omega | (simp; done) | (simp; omega)) only [SA, SB, SC, SD, SE, SF, SG, SI, Nat.reduceLT, Nat.reduceAdd, Nat.reduceSub, Nat.reduceMul, Nat.reduceLeDiff, Nat.reduceEqDiff, Nat.reduceBEq, Int.reduceToNat, Int.reduceLE, Int.reduceLT, Int.reduceEq, Int.reduceNeg, reduceCtorEq, ↓reduceIte, hb, o2, part_k, l0, z2, z3]))))
    refine hE2.param hf ht hl hn q fun s' h' => ?_
    (repeat' (first | simp -dsimp (maxSteps := 2000000) (disch := first | omega | (simp; done) | (simp; omega)) only [SA, SB, SC, SD, SE, SF, SG, SI, Nat.reduceLT, Nat.reduceAdd, Nat.reduceSub, Nat.reduceMul, Nat.reduceLeDiff, Nat.reduceEqDiff, Nat.reduceBEq, Int.reduceToNat, Int.reduceLE, Int.reduceLT, Int.reduceEq, Int.reduceNeg, reduceCtorEq, ↓reduceIte, z4] | refine Cut.go ?_ | refine Both.intro ?_ ?_ | (refine Br.intro ?_ ?_ <;> intro hb <;> have hb' := hb <;> (try simp only [SH] at hb') <;> (try simp -dsimp (maxSteps := 2000000) (disch := first | omega | (simp; done) | (simp; omega)) only [SA, SB, SC, SD, SE, SF, SG, SI, Nat.reduceLT, Nat.reduceAdd, Nat.reduceSub, Nat.reduceMul, Nat.reduceLeDiff, Nat.reduceEqDiff, Nat.reduceBEq, Int.reduceToNat, Int.reduceLE, Int.reduceLT, Int.reduceEq, Int.reduceNeg, reduceCtorEq, ↓reduceIte, hb, z4]))))
    exact Round.go (1, s') (by simp) (.inr ⟨rfl, h'⟩) (by ((try simp only [List.replicate_succ, List.replicate_zero, List.cons_append, List.nil_append]); repeat' (first | exact trivial | refine ⟨.inl rfl, ?_⟩ | refine ⟨.inr rfl, ?_⟩ | refine ⟨.inr (by simp), ?_⟩))) (Drops.refl _)
  · simp only [] at h1 h2
    subst h1
    have z0 : decide (((1 : Nat) : Int) < 1) = false := rfl
    simp -dsimp (maxSteps := 2000000) (disch := first | omega | (simp; done) | (simp; omega)) only [SA, SB, SC, SD, SE, SF, SG, SI, Nat.reduceLT, Nat.reduceAdd, Nat.reduceSub, Nat.reduceMul, Nat.reduceLeDiff, Nat.reduceEqDiff, Nat.reduceBEq, Int.reduceToNat, Int.reduceLE, Int.reduceLT, Int.reduceEq, Int.reduceNeg, reduceCtorEq, ↓reduceIte, List.replicate_succ, List.replicate_zero]
    (repeat' (first | simp -dsimp (maxSteps := 2000000) (disch := first | omega | (simp; done) | (simp; omega)) only [SA, SB, SC, SD, SE, SF, SG, SI, Nat.reduceLT, Nat.reduceAdd, Nat.reduceSub, Nat.reduceMul, Nat.reduceLeDiff, Nat.reduceEqDiff, Nat.reduceBEq, Int.reduceToNat, Int.reduceLE, Int.reduceLT, Int.reduceEq, Int.reduceNeg, reduceCtorEq, ↓reduceIte, z0] | refine Cut.go ?_ | refine Both.intro ?_ ?_ | (refine Br.intro ?_ ?_ <;> intro hb <;> have hb' := hb <;> (try simp only [SH] at hb') <;> (try simp -dsimp (maxSteps := 2000000) (disch := first | omega | (simp; done) | (simp; omega)) only [SA, SB, SC, SD, SE, SF, SG, SI, Nat.reduceLT, Nat.reduceAdd, Nat.reduceSub, Nat.reduceMul, Nat.reduceLeDiff, Nat.reduceEqDiff, Nat.reduceBEq, Int.reduceToNat, Int.reduceLE, Int.reduceLT, Int.reduceEq, Int.reduceNeg, reduceCtorEq, ↓reduceIte, hb, z0]))))
    exact ⟨rfl, h2⟩
theorem Exp.parts_lit {σ0 s : St} {j : Nat} {al : List Atm} (h : Exp σ0 j al s) (hl : al.length ≤ 1000000) (n : List UInt8) {r : Room} :
    Ok Tryz.prog 49 [.ref σ0.next 0, .slc 5 [.agg (partD 1 true n)] r, .bool false] s (PartsOut σ0 j (al ++ [⟨n, true, false, false⟩])) := by
  have hx : ilen (.slc 5 [.agg (partD 1 true n)] r) = some (.int .i64 1) := rfl
  have i0 := part_at 1 true n r
  have l0 := part_load 1 true n
  have hnx := h.nxt
  apply en49
  simp -dsimp (maxSteps := 2000000) (disch := first | omega | (simp; done) | (simp; omega)) only [SA, SB, SC, SD, SE, SF, SG, SI, Nat.reduceLT, Nat.reduceAdd, Nat.reduceSub, Nat.reduceMul, Nat.reduceLeDiff, Nat.reduceEqDiff, Nat.reduceBEq, Int.reduceToNat, Int.reduceLE, Int.reduceLT, Int.reduceEq, Int.reduceNeg, reduceCtorEq, ↓reduceIte, ic49, List.replicate_succ, List.replicate_zero]
  (repeat' (first | simp -dsimp (maxSteps := 2000000) (disch := first | omega | (simp; done) | (simp; omega)) only [SA, SB, SC, SD, SE, SF, SG, SI, Nat.reduceLT, Nat.reduceAdd, Nat.reduceSub, Nat.reduceMul, Nat.reduceLeDiff, Nat.reduceEqDiff, Nat.reduceBEq, Int.reduceToNat, Int.reduceLE, Int.reduceLT, Int.reduceEq, Int.reduceNeg, reduceCtorEq, ↓reduceIte, hx] | refine Cut.go ?_ | refine Both.intro ?_ ?_ | (refine Br.intro ?_ ?_ <;> intro hb <;> have hb' := hb <;> (try simp only [SH] at hb') <;> (try simp -dsimp (maxSteps := 2000000) (disch := first | omega | (simp; done) | (simp; omega)) only [SA, SB, SC, SD, SE, SF, SG, SI, Nat.reduceLT, Nat.reduceAdd, Nat.reduceSub, Nat.reduceMul, Nat.reduceLeDiff, Nat.reduceEqDiff, Nat.reduceBEq, Int.reduceToNat, Int.reduceLE, Int.reduceLT, Int.reduceEq, Int.reduceNeg, reduceCtorEq, ↓reduceIte, hb, hx]))))
  refine loop_go (α := Nat × St) (fun a => [.ref σ0.next 0, .slc 5 [.agg (partD 1 true n)] r, .bool false, .junk, .junk, .junk, .int .i64 0, .junk, .junk, .junk, .junk, .slc 5 [.agg (partD 1 true n)] r, .int .i64 1, .int .i64 a.1] ++ List.replicate 71 .junk) (fun a => a.2) (fun a => 1 - a.1) (fun a => (a.1 = 0 ∧ a.2 = s) ∨ (a.1 = 1 ∧ Exp σ0 j (al ++ [⟨n, true, false, false⟩]) a.2)) (0, s) (.inl ⟨rfl, rfl⟩) (by ((try simp only [List.replicate_succ, List.replicate_zero, List.cons_append, List.nil_append]); repeat' (first | exact trivial | refine ⟨.inl rfl, ?_⟩ | refine ⟨.inr rfl, ?_⟩ | refine ⟨.inr (by simp), ?_⟩))) (Drops.refl _) ?_
  rintro ⟨i, u⟩ (⟨h1, h2⟩ | ⟨h1, h2⟩)
  · simp only [] at h1 h2
    subst h1; subst h2
    have z0 : decide (((0 : Nat) : Int) < 1) = true := rfl
    have z1 : (((0 : Nat) : Int) == 0) = true := rfl
    have i0' : idxAddrS 5 (.slc 5 [.agg (partD 1 true n)] r) (.int .i64 ((0 : Nat) : Int)) = some (.box (partD 1 true n) 0) := i0
    have z3 : ((1 : Int) == 1) = true := rfl
    have z4 : ((0 : Int) != 0) = false := rfl
    have hE : Exp σ0 j al ((u.alloc (.cells [.int .i64 0, .bool false, .str [], .str [], .nils])).put u.next (some (.cells (partD 1 true n)))) :=
      h.grow (fun i hi => by rw [put_obj, if_neg (by omega), alloc_obj, if_neg (by omega)]) (by show u.next ≤ u.next + 1; omega) (put_fresh (alloc_fresh h.fresh _) (by rw [alloc_next]; omega) _)
    have o2 : ((u.alloc (.cells [.int .i64 0, .bool false, .str [], .str [], .nils])).put u.next (some (.cells (partD 1 true n)))).obj u.next = some (.cells (partD 1 true n)) := by rw [put_obj, if_pos rfl]
    have dc := part_cells 1 true n
    simp -dsimp (maxSteps := 2000000) (disch := first | omega | (simp; done) | (simp; omega)) only [SA, SB, SC, SD, SE, SF, SG, SI, Nat.reduceLT, Nat.reduceAdd, Nat.reduceSub, Nat.reduceMul, Nat.reduceLeDiff, Nat.reduceEqDiff, Nat.reduceBEq, Int.reduceToNat, Int.reduceLE, Int.reduceLT, Int.reduceEq, Int.reduceNeg, reduceCtorEq, ↓reduceIte, List.replicate_succ, List.replicate_zero]
    (repeat' (first | simp -dsimp (maxSteps := 2000000) (disch := first | omega | (simp; done) | (simp; omega)) only [SA, SB, SC, SD, SE, SF, SG, SI, Nat.reduceLT, Nat.reduceAdd, Nat.reduceSub, Nat.reduceMul, Nat.reduceLeDiff, Nat.reduceEqDiff, Nat.reduceBEq, Int.reduceToNat, Int.reduceLE, Int.reduceLT, Int.reduceEq, Int.reduceNeg, reduceCtorEq, ↓reduceIte, z0, i0, i0', l0, dc, z1, part_set] | refine Cut.go ?_ | refine Both.intro ?_ ?_ | (refine Br.intro ?_ ?_ <;> intro hb <;> have hb' := hb <;> (try simp only [SH] at hb') <;> (try simp -dsimp (maxSteps := 2000000) (disch := first | omega | (simp; done) | (simp; omega)) only [SA, SB, SC, SD, SE, SF, SG, SI, Nat.reduceLT, Nat.reduceAdd, Nat.reduceSub, Nat.reduceMul, Nat.reduceLeDiff, Nat.reduceEqDiff, Nat.reduceBEq, Int.reduceToNat, Int.reduceLE, Int.reduceLT, Int.reduceEq, Int.reduceNeg, reduceCtorEq, ↓reduceIte, hb, z0, i0, i0', l0, dc, z1, part_set]))))
    generalize hS : ((u.alloc (.cells [.int .i64 0, .bool false, .str [], .str [], .nils])).put u.next (some (.cells (partD 1 true n)))) = S at *
    refine ⟨gd66, (tilde66 (.inr rfl) S).mono fun o s' g => ?_⟩
    obtain ⟨⟨m, hm, rfl⟩, rfl⟩ := g
    have hE2 : Exp σ0 j al ⟨S.obj, m⟩ := hE.grow (fun _ _ => rfl) hm fun i hi => hE.fresh i (Nat.le_trans hm hi)
    obtain ⟨tk, h1, _⟩ := hE2.ex
    obtain ⟨s1, e1, e2, e3⟩ := exp_app hE2 hl ⟨n, true, false, false⟩ h1
    have dl := dcells_sc (lsA_scal (al ++ [⟨n, true, false, false⟩]) m)
    have sl := lsA_scal al tk
    have lx : cellsAt [D.ref j 0, theHost, lsA al tk] 2 none = some (lsA al tk) := by simp [cellsAt, sl]
    unfold atomD at e1
    simp only [] at e1 h1 e2 e3 dl
    (repeat' (first | simp -dsimp (maxSteps := 2000000) (disch := first | omega | (simp; done) | (simp; omega)) only [SA, SB, SC, SD, SE, SF, SG, SI, Nat.reduceLT, Nat.reduceAdd, Nat.reduceSub, Nat.reduceMul, Nat.reduceLeDiff, Nat.reduceEqDiff, Nat.reduceBEq, Int.reduceToNat, Int.reduceLE, Int.reduceLT, Int.reduceEq, Int.reduceNeg, reduceCtorEq, ↓reduceIte, o2, part_k, part_1, part_2, z3, z4, h1, lx, e1, dl, e2] | refine Cut.go ?_ | refine Both.intro ?_ ?_ | (refine Br.intro ?_ ?_ <;> intro hb <;> have hb' := hb <;> (try simp only [SH] at hb') <;> (try simp -dsimp (maxSteps := 2000000) (disch := first | omega | (simp; done) | (simp; omega)) only [SA, SB, SC, SD, SE, SF, SG, SI, Nat.reduceLT, Nat.reduceAdd, Nat.reduceSub, Nat.reduceMul, Nat.reduceLeDiff, Nat.reduceEqDiff, Nat.reduceBEq, Int.reduceToNat, Int.reduceLE, Int.reduceLT, Int.reduceEq, Int.reduceNeg, reduceCtorEq, ↓reduceIte, hb, o2, part_k, part_1, part_2, z3, z4, h1, lx, e1, dl, e2]))))
    exact Round.go (1, _) (by simp) (.inr ⟨rfl, e3⟩) (by ((try simp only [List.replicate_succ, List.replicate_zero, List.cons_append, List.nil_append]); repeat' (first | exact trivial | refine ⟨.inl rfl, ?_⟩ | refine ⟨.inr rfl, ?_⟩ | refine ⟨.inr (by simp), ?_⟩))) (Drops.refl _)
  · simp only [] at h1 h2
    subst h1
    have z0 : decide (((1 : Nat) : Int) < 1) = false := rfl
    simp -dsimp (maxSteps := 2000000) (disch := first | omega | (simp; done) | (simp; omega)) only [SA, SB, SC, SD, SE, SF, SG, SI, Nat.reduceLT, Nat.reduceAdd, Nat.reduceSub, Nat.reduceMul, Nat.reduceLeDiff, Nat.reduceEqDiff, Nat.reduceBEq, Int.reduceToNat, Int.reduceLE, Int.reduceLT, Int.reduceEq, Int.reduceNeg, reduceCtorEq, ↓reduceIte, List.replicate_succ, List.replicate_zero]
    (repeat' (first | simp -dsimp (maxSteps := 2000000) (disch := first | omega | (simp; done) | (simp; omega)) only [SA, SB, SC, SD, SE, SF, SG, SI, Nat.reduceLT, Nat.reduceAdd, Nat.reduceSub, Nat.reduceMul, Nat.reduceLeDiff, Nat.reduceEqDiff, Nat.reduceBEq, Int.reduceToNat, Int.reduceLE, Int.reduceLT, Int.reduceEq, Int.reduceNeg, reduceCtorEq, ↓reduceIte, z0] | refine Cut.go ?_ | refine Both.intro ?_ ?_ | (refine Br.intro ?_ ?_ <;> intro hb <;> have hb' := hb <;> (try simp only [SH] at hb') <;> (try simp -dsimp (maxSteps := 2000000) (disch := first | omega | (simp; done) | (simp; omega)) only [SA, SB, SC, SD, SE, SF, SG, SI, Nat.reduceLT, Nat.reduceAdd, Nat.reduceSub, Nat.reduceMul, Nat.reduceLeDiff, Nat.reduceEqDiff, Nat.reduceBEq, Int.reduceToNat, Int.reduceLE, Int.reduceLT, Int.reduceEq, Int.reduceNeg, reduceCtorEq, ↓reduceIte, hb, z0]))))
    exact ⟨rfl, h2⟩
/-- Atoms of a word of one part. -/
theorem atoms_of {w : D} {j : Nat} {a : Atm} {σ : St} (hP : ∀ s, Exp σ j [] s → Ok Tryz.prog 49 [.ref σ.next 0, w, .bool false] s (PartsOut σ j [a])) (hj : j < σ.next) :
    Pure 27 [w, .ref j 0, theHost] σ fun o => ∃ x, Atoms x [a] ∧ o = .ret (.tuple [x, .int .i64 0]) := by
  refine Ok.fresh fun hf => Ok.drop ?_
  have hE : Exp σ j [] (σ.alloc (.cells [.ref j 0, theHost, .nils])) := by
    refine ⟨⟨0, ?_, fun g => absurd rfl g⟩, fun i hi => ?_, alloc_fresh hf _, by rw [alloc_next]; omega⟩
    · rw [alloc_obj, if_pos rfl]; rfl
    · rw [alloc_obj, if_neg (by omega)]
  have z4 : ((0 : Int) != 0) = false := rfl
  apply en27
  unfold theHost at *
  simp -dsimp (maxSteps := 2000000) (disch := first | omega | (simp; done) | (simp; omega)) only [SA, SB, SC, SD, SE, SF, SG, SI, Nat.reduceLT, Nat.reduceAdd, Nat.reduceSub, Nat.reduceMul, Nat.reduceLeDiff, Nat.reduceEqDiff, Nat.reduceBEq, Int.reduceToNat, Int.reduceLE, Int.reduceLT, Int.reduceEq, Int.reduceNeg, reduceCtorEq, ↓reduceIte, ic27, List.replicate_succ, List.replicate_zero]
  (repeat' (first | simp -dsimp (maxSteps := 2000000) (disch := first | omega | (simp; done) | (simp; omega)) only [SA, SB, SC, SD, SE, SF, SG, SI, Nat.reduceLT, Nat.reduceAdd, Nat.reduceSub, Nat.reduceMul, Nat.reduceLeDiff, Nat.reduceEqDiff, Nat.reduceBEq, Int.reduceToNat, Int.reduceLE, Int.reduceLT, Int.reduceEq, Int.reduceNeg, reduceCtorEq, ↓reduceIte] | refine Cut.go ?_ | refine Both.intro ?_ ?_ | (refine Br.intro ?_ ?_ <;> intro hb <;> have hb' := hb <;> (try simp only [SH] at hb') <;> (try simp -dsimp (maxSteps := 2000000) (disch := first | omega | (simp; done) | (simp; omega)) only [SA, SB, SC, SD, SE, SF, SG, SI, Nat.reduceLT, Nat.reduceAdd, Nat.reduceSub, Nat.reduceMul, Nat.reduceLeDiff, Nat.reduceEqDiff, Nat.reduceBEq, Int.reduceToNat, Int.reduceLE, Int.reduceLT, Int.reduceEq, Int.reduceNeg, reduceCtorEq, ↓reduceIte, hb]))))
  refine ⟨by kernel_rfl, (hP _ hE).mono fun o s' h => ?_⟩
  obtain ⟨rfl, h2⟩ := h
  obtain ⟨tk, h3, _⟩ := h2.ex
  have sl := lsA_scal [a] tk
  unfold theHost at h3
  have lx : cellsAt [D.ref j 0, .iface 43 (.agg [.nilp]), lsA [a] tk] 2 none = some (lsA [a] tk) := by simp [cellsAt, sl]
  (repeat' (first | simp -dsimp (maxSteps := 2000000) (disch := first | omega | (simp; done) | (simp; omega)) only [SA, SB, SC, SD, SE, SF, SG, SI, Nat.reduceLT, Nat.reduceAdd, Nat.reduceSub, Nat.reduceMul, Nat.reduceLeDiff, Nat.reduceEqDiff, Nat.reduceBEq, Int.reduceToNat, Int.reduceLE, Int.reduceLT, Int.reduceEq, Int.reduceNeg, reduceCtorEq, ↓reduceIte, z4, h3, lx] | refine Cut.go ?_ | refine Both.intro ?_ ?_ | (refine Br.intro ?_ ?_ <;> intro hb <;> have hb' := hb <;> (try simp only [SH] at hb') <;> (try simp -dsimp (maxSteps := 2000000) (disch := first | omega | (simp; done) | (simp; omega)) only [SA, SB, SC, SD, SE, SF, SG, SI, Nat.reduceLT, Nat.reduceAdd, Nat.reduceSub, Nat.reduceMul, Nat.reduceLeDiff, Nat.reduceEqDiff, Nat.reduceBEq, Int.reduceToNat, Int.reduceLE, Int.reduceLT, Int.reduceEq, Int.reduceNeg, reduceCtorEq, ↓reduceIte, hb, z4, h3, lx]))))
  exact ⟨_, drops_old hf h2.low, ⟨_, by have := h2.nxt; omega, rfl⟩, _, lsA_atoms _ _, rfl⟩
theorem atoms_name {j : Nat} {l : Vs} {y z : D} {σ : St} (hf : σ.Fresh) (ht : TabAt σ j l y z) {n : List UInt8} (hn : nameB n = true) (q : Bool) {r : Room} :
    Pure 27 [.slc 5 [.agg (partD 2 q n)] r, .ref j 0, theHost] σ fun o => ∃ x, Atoms x [⟨(tget n l).getD [], q, !q, false⟩] ∧ o = .ret (.tuple [x, .int .i64 0]) :=
  atoms_of (fun s h => h.parts_param hf ht (by simp) hn q) ht.lt
theorem atoms_lit {j : Nat} {l : Vs} {y z : D} {σ : St} (ht : TabAt σ j l y z) (n : List UInt8) {r : Room} :
    Pure 27 [.slc 5 [.agg (partD 1 true n)] r, .ref j 0, theHost] σ fun o => ∃ x, Atoms x [⟨n, true, false, false⟩] ∧ o = .ret (.tuple [x, .int .i64 0]) :=
  atoms_of (fun s h => h.parts_lit (by simp) n) ht.lt
/-- A call of a store that's fresh. -/
theorem Pure.fresh {f : FuncId} {xs : List D} {σ : St} {R : Out → Prop} (h : σ.Fresh → Pure f xs σ R) : Pure f xs σ R := Ok.fresh h
theorem fields_name {j : Nat} {l : Vs} {y z : D} {σ : St} (hti : Tidy σ) (ht : TabAt σ j l y z) {n : List UInt8} (hn : nameB n = true) (q : Bool) {r r' : Room} (hv : ((tget n l).getD []).length ≤ 90000) :
    Pure 12 [.slc 1 [.slc 5 [.agg (partD 2 q n)] r] r', .ref j 0, theHost] σ (FieldsOut ((cutF [⟨(tget n l).getD [], q, !q, false⟩] (sepOf l)).map (·.1))) :=
  Pure.fresh fun hf => fields_of rfl hti (by simp only [wt]; omega) (atoms_name hf ht hn q) fun m hm => sep29 (ht.more hm)
theorem fields_lit {j : Nat} {l : Vs} {y z : D} {σ : St} (hti : Tidy σ) (ht : TabAt σ j l y z) (n : List UInt8) {r r' : Room} (hv : n.length ≤ 90000) :
    Pure 12 [.slc 1 [.slc 5 [.agg (partD 1 true n)] r] r', .ref j 0, theHost] σ (FieldsOut ((cutF [⟨n, true, false, false⟩] (sepOf l)).map (·.1))) :=
  fields_of rfl hti (by simp only [wt]; omega) (atoms_lit ht n) fun m hm => sep29 (ht.more hm)
end Go.Proofs.YthiidchbaicfgaaGreatDoor
