/-
  THE WALKS, layer 13, PART 7: a table is made.
-/
import Derived.Test.YthiidchbaicfgaaGreatDoorZ6
namespace Go.Proofs.YthiidchbaicfgaaGreatDoor
open Go Go.Id
set_option linter.unusedSimpArgs false
set_option linter.unusedVariables false
set_option maxRecDepth 100000
set_option maxHeartbeats 4000000

/-- Variables, as an argument. -/
inductive Vz : D → List (List UInt8 × List UInt8) → Prop
  | vnil : Vz .nils []
  | vsome (l : List (List UInt8 × List UInt8)) (r : Room) : Vz (.slc 2 (l.map fun p => .agg [.str p.1, .str p.2]) r) l
theorem Vz.len {x : D} {l : List (List UInt8 × List UInt8)} (h : Vz x l) : ilen x = some (.int .i64 l.length) := by cases h <;> simp [ilen]
theorem Vz.at {x : D} {l : List (List UInt8 × List UInt8)} (h : Vz x l) {i : Nat} (hi : i < l.length) : idxAddrS 2 x (.int .i64 i) = some (.box [.str (l[i]).1, .str (l[i]).2] 0) := by
  cases h with
  | vnil => simp at hi
  | vsome l r =>
    rw [ix_map _ _ _ _ _ _ ⟨by omega, by omega⟩]
    have : l.getD ((i : Int)).toNat default = l[i] := by simp [hi]
    rw [this]; rfl
theorem pair_load (a b : List UInt8) : cellsAt [.str a, .str b] 0 (some 2) = some (.agg [.str a, .str b]) := rfl
theorem drops_old {σ s : St} (hf : σ.Fresh) (ho : ∀ i, i < σ.next → s.obj i = σ.obj i) : Drops s ⟨σ.obj, s.next⟩ := by
  refine ⟨Nat.le_refl _, fun i => ?_⟩
  by_cases h : i < σ.next
  · right; exact (ho i h).symm
  · left; exact hf i (by omega)
theorem copied61 (σ : St) : Ok Tryz.prog 61 [.nils] σ (fun o s => s = σ ∧ o = .ret .nils) := by
  apply en61
  simp -dsimp (maxSteps := 2000000) (disch := first | omega | (simp; done) | (simp; omega)) only [SA, SB, SC, SD, SE, SF, SG, SI, Nat.reduceLT, Nat.reduceAdd, Nat.reduceSub, Nat.reduceMul, Nat.reduceLeDiff, Nat.reduceEqDiff, Nat.reduceBEq, Int.reduceToNat, Int.reduceLE, Int.reduceLT, Int.reduceEq, Int.reduceNeg, reduceCtorEq, ↓reduceIte, ic61, List.replicate_succ, List.replicate_zero]
  have e : iappend 1 16 .nils .nils σ = some (.nils, σ) := rfl
  (repeat' (first | simp -dsimp (maxSteps := 2000000) (disch := first | omega | (simp; done) | (simp; omega)) only [SA, SB, SC, SD, SE, SF, SG, SI, Nat.reduceLT, Nat.reduceAdd, Nat.reduceSub, Nat.reduceMul, Nat.reduceLeDiff, Nat.reduceEqDiff, Nat.reduceBEq, Int.reduceToNat, Int.reduceLE, Int.reduceLT, Int.reduceEq, Int.reduceNeg, reduceCtorEq, ↓reduceIte, e] | refine Cut.go ?_ | refine Both.intro ?_ ?_ | (refine Br.intro ?_ ?_ <;> intro hb <;> have hb' := hb <;> (try simp only [SH] at hb') <;> (try simp -dsimp (maxSteps := 2000000) (disch := first | omega | (simp; done) | (simp; omega)) only [SA, SB, SC, SD, SE, SF, SG, SI, Nat.reduceLT, Nat.reduceAdd, Nat.reduceSub, Nat.reduceMul, Nat.reduceLeDiff, Nat.reduceEqDiff, Nat.reduceBEq, Int.reduceToNat, Int.reduceLE, Int.reduceLT, Int.reduceEq, Int.reduceNeg, reduceCtorEq, ↓reduceIte, hb, e]))))
theorem Tab.alloc {σ0 σ : St} {j : Nat} {l : List (List UInt8 × List UInt8)} (h : Tab σ0 j l σ) (x : Ob) : Tab σ0 j l (σ.alloc x) := by
  have hlt : ∀ i o, σ.obj i = some o → i < σ.next := fun i o hi => Nat.lt_of_not_le fun hle => by rw [h.fresh i hle] at hi; cases hi
  obtain ⟨a, y, z, h1, h2, h3, h4, h5, h6⟩ := h.x
  refine ⟨fun i hi => ?_, ⟨h.nxt.1, ?_⟩, fun i hi => ?_, h.few, a, y, z, ?_, h2, h3, h4, ?_, h6⟩
  · have := h.nxt; rw [alloc_obj, if_neg (by omega)]; exact h.low i hi
  · have := h.nxt; rw [alloc_next]; omega
  · rw [alloc_next] at hi; rw [alloc_obj, if_neg (by omega)]; exact h.fresh i (by omega)
  · have := hlt _ _ h1; rw [alloc_obj, if_neg (by omega)]; exact h1
  · rcases h5 with ⟨rfl, rfl⟩ | ⟨b, t, rfl, o1, o2, o3⟩
    · exact .inl ⟨rfl, rfl⟩
    · have := hlt _ _ o1
      have := hlt _ _ o2
      have := hlt _ _ o3
      exact .inr ⟨b, t, rfl, by rw [alloc_obj, if_neg (by omega)]; exact o1, by rw [alloc_obj, if_neg (by omega)]; exact o2, by rw [alloc_obj, if_neg (by omega)]; exact o3⟩
/-- Something changes that is no part of a table. -/
theorem Tab.other {σ0 σ s : St} {j : Nat} {l : List (List UInt8 × List UInt8)} (h : Tab σ0 j l σ) (ho : ∀ i, i < σ.next → s.obj i = σ.obj i) (hn : σ.next ≤ s.next) (hf : s.Fresh) : Tab σ0 j l s := by
  have hlt : ∀ i o, σ.obj i = some o → i < σ.next := fun i o hi => Nat.lt_of_not_le fun hle => by rw [h.fresh i hle] at hi; cases hi
  have nj := h.nxt
  obtain ⟨a, y, z, h1, h2, h3, h4, h5, h6⟩ := h.x
  refine ⟨fun i hi => ?_, ⟨h.nxt.1, by omega⟩, hf, h.few, a, y, z, ?_, h2, h3, h4, ?_, h6⟩
  · rw [ho i (by omega)]; exact h.low i hi
  · rw [ho _ (hlt _ _ h1)]; exact h1
  · rcases h5 with ⟨rfl, rfl⟩ | ⟨b, t, rfl, o1, o2, o3⟩
    · exact .inl ⟨rfl, rfl⟩
    · exact .inr ⟨b, t, rfl, by rw [ho _ (hlt _ _ o1)]; exact o1, by rw [ho _ (hlt _ _ o2)]; exact o2, by rw [ho _ (hlt _ _ o3)]; exact o3⟩
theorem setArgs39 {σ0 σ : St} {j : Nat} {l : List (List UInt8 × List UInt8)} (ht : Tab σ0 j l σ) :
    Ok Tryz.prog 39 [.ref j 0, .nils] σ (fun o s => o = .ret (.int .i64 0) ∧ Tab σ0 j l s) := by
  obtain ⟨x, y, z, hj, sx, sy, sz, hx, hfar⟩ := ht.x
  have hl : ilen .nils = some (.int .i64 0) := rfl
  apply en39
  simp -dsimp (maxSteps := 2000000) (disch := first | omega | (simp; done) | (simp; omega)) only [SA, SB, SC, SD, SE, SF, SG, SI, Nat.reduceLT, Nat.reduceAdd, Nat.reduceSub, Nat.reduceMul, Nat.reduceLeDiff, Nat.reduceEqDiff, Nat.reduceBEq, Int.reduceToNat, Int.reduceLE, Int.reduceLT, Int.reduceEq, Int.reduceNeg, reduceCtorEq, ↓reduceIte, ic39, List.replicate_succ, List.replicate_zero]
  have z1 : decide ((0 : Int) > 256) = false := rfl
  have z2 : decide ((0 : Int) < 0) = false := rfl
  (repeat' (first | simp -dsimp (maxSteps := 2000000) (disch := first | omega | (simp; done) | (simp; omega)) only [SA, SB, SC, SD, SE, SF, SG, SI, Nat.reduceLT, Nat.reduceAdd, Nat.reduceSub, Nat.reduceMul, Nat.reduceLeDiff, Nat.reduceEqDiff, Nat.reduceBEq, Int.reduceToNat, Int.reduceLE, Int.reduceLT, Int.reduceEq, Int.reduceNeg, reduceCtorEq, ↓reduceIte, hl, z1] | refine Cut.go ?_ | refine Both.intro ?_ ?_ | (refine Br.intro ?_ ?_ <;> intro hb <;> have hb' := hb <;> (try simp only [SH] at hb') <;> (try simp -dsimp (maxSteps := 2000000) (disch := first | omega | (simp; done) | (simp; omega)) only [SA, SB, SC, SD, SE, SF, SG, SI, Nat.reduceLT, Nat.reduceAdd, Nat.reduceSub, Nat.reduceMul, Nat.reduceLeDiff, Nat.reduceEqDiff, Nat.reduceBEq, Int.reduceToNat, Int.reduceLE, Int.reduceLT, Int.reduceEq, Int.reduceNeg, reduceCtorEq, ↓reduceIte, hb, hl, z1]))))
  refine loop_go (α := Unit) (fun _ => [.ref j 0, .nils, .junk, .junk, .int .i64 0, .junk, .junk, .junk, .junk, .junk, .junk, .junk, .nils, .int .i64 0, .int .i64 0] ++ List.replicate 12 .junk) (fun _ => σ) (fun _ => 0) (fun _ => True) () trivial (by ((try simp only [List.replicate_succ, List.replicate_zero, List.cons_append, List.nil_append]); repeat' (first | exact trivial | refine ⟨.inl rfl, ?_⟩ | refine ⟨.inr rfl, ?_⟩ | refine ⟨.inr (by simp), ?_⟩))) (Drops.refl _) ?_
  rintro _ _
  simp -dsimp (maxSteps := 2000000) (disch := first | omega | (simp; done) | (simp; omega)) only [SA, SB, SC, SD, SE, SF, SG, SI, Nat.reduceLT, Nat.reduceAdd, Nat.reduceSub, Nat.reduceMul, Nat.reduceLeDiff, Nat.reduceEqDiff, Nat.reduceBEq, Int.reduceToNat, Int.reduceLE, Int.reduceLT, Int.reduceEq, Int.reduceNeg, reduceCtorEq, ↓reduceIte, List.replicate_succ, List.replicate_zero]
  (repeat' (first | simp -dsimp (maxSteps := 2000000) (disch := first | omega | (simp; done) | (simp; omega)) only [SA, SB, SC, SD, SE, SF, SG, SI, Nat.reduceLT, Nat.reduceAdd, Nat.reduceSub, Nat.reduceMul, Nat.reduceLeDiff, Nat.reduceEqDiff, Nat.reduceBEq, Int.reduceToNat, Int.reduceLE, Int.reduceLT, Int.reduceEq, Int.reduceNeg, reduceCtorEq, ↓reduceIte, z2] | refine Cut.go ?_ | refine Both.intro ?_ ?_ | (refine Br.intro ?_ ?_ <;> intro hb <;> have hb' := hb <;> (try simp only [SH] at hb') <;> (try simp -dsimp (maxSteps := 2000000) (disch := first | omega | (simp; done) | (simp; omega)) only [SA, SB, SC, SD, SE, SF, SG, SI, Nat.reduceLT, Nat.reduceAdd, Nat.reduceSub, Nat.reduceMul, Nat.reduceLeDiff, Nat.reduceEqDiff, Nat.reduceBEq, Int.reduceToNat, Int.reduceLE, Int.reduceLT, Int.reduceEq, Int.reduceNeg, reduceCtorEq, ↓reduceIte, hb, z2]))))
  refine ⟨gd61, (copied61 σ).mono fun o s h => ?_⟩
  obtain ⟨rfl, rfl⟩ := h
  (repeat' (first | simp -dsimp (maxSteps := 2000000) (disch := first | omega | (simp; done) | (simp; omega)) only [SA, SB, SC, SD, SE, SF, SG, SI, Nat.reduceLT, Nat.reduceAdd, Nat.reduceSub, Nat.reduceMul, Nat.reduceLeDiff, Nat.reduceEqDiff, Nat.reduceBEq, Int.reduceToNat, Int.reduceLE, Int.reduceLT, Int.reduceEq, Int.reduceNeg, reduceCtorEq, ↓reduceIte, hj, inilM_r] | refine Cut.go ?_ | refine Both.intro ?_ ?_ | (refine Br.intro ?_ ?_ <;> intro hb <;> have hb' := hb <;> (try simp only [SH] at hb') <;> (try simp -dsimp (maxSteps := 2000000) (disch := first | omega | (simp; done) | (simp; omega)) only [SA, SB, SC, SD, SE, SF, SG, SI, Nat.reduceLT, Nat.reduceAdd, Nat.reduceSub, Nat.reduceMul, Nat.reduceLeDiff, Nat.reduceEqDiff, Nat.reduceBEq, Int.reduceToNat, Int.reduceLE, Int.reduceLT, Int.reduceEq, Int.reduceNeg, reduceCtorEq, ↓reduceIte, hb, hj, inilM_r]))))
  refine ⟨fun i hi => ?_, ht.nxt, fun i hi => ?_, ht.few, x, .nils, z, ?_, sx, rfl, sz, ?_, hfar⟩
  · have := ht.nxt; rw [put_obj, if_neg (by omega)]; exact ht.low i hi
  · have := ht.nxt; have : s.next ≤ i := hi; rw [put_obj, if_neg (by omega)]; exact ht.fresh i (by omega)
  · rw [put_obj, if_pos rfl]
  · rcases hx with ⟨rfl, rfl⟩ | ⟨b, t, rfl, o1, o2, o3⟩
    · exact .inl ⟨rfl, rfl⟩
    · obtain ⟨f1, f2, f3, f4, f5⟩ := hfar _ _ _ rfl
      exact .inr ⟨b, t, rfl, by rw [put_obj, if_neg (by omega)]; exact o1, by rw [put_obj, if_neg (by omega)]; exact o2, by rw [put_obj, if_neg (by omega)]; exact o3⟩
/-- What 'vars.New' says. -/
def Made (o : Out) : Prop := ∃ x e, o = .ret (.tuple [x, .int .i64 e]) ∧ ((x = .nilp ∧ e ≠ 0) ∨ ∃ j, x = .ref j 0 ∧ e = 0)
theorem new19 {x : D} {l : List (List UInt8 × List UInt8)} (hx : Vz x l) (hl : l.length ≤ 1000) (σ : St) :
    Ok Tryz.prog 19 [x, .nils] σ (fun o s' => (∃ m, σ.next ≤ m ∧ s' = ⟨σ.obj, m⟩) ∧ Made o) := by
  refine Ok.fresh fun hf => Ok.drop ?_
  have hlx := hx.len
  apply en19
  simp -dsimp (maxSteps := 2000000) (disch := first | omega | (simp; done) | (simp; omega)) only [SA, SB, SC, SD, SE, SF, SG, SI, Nat.reduceLT, Nat.reduceAdd, Nat.reduceSub, Nat.reduceMul, Nat.reduceLeDiff, Nat.reduceEqDiff, Nat.reduceBEq, Int.reduceToNat, Int.reduceLE, Int.reduceLT, Int.reduceEq, Int.reduceNeg, reduceCtorEq, ↓reduceIte, ic19, List.replicate_succ, List.replicate_zero]
  (repeat' (first | simp -dsimp (maxSteps := 2000000) (disch := first | omega | (simp; done) | (simp; omega)) only [SA, SB, SC, SD, SE, SF, SG, SI, Nat.reduceLT, Nat.reduceAdd, Nat.reduceSub, Nat.reduceMul, Nat.reduceLeDiff, Nat.reduceEqDiff, Nat.reduceBEq, Int.reduceToNat, Int.reduceLE, Int.reduceLT, Int.reduceEq, Int.reduceNeg, reduceCtorEq, ↓reduceIte, hlx] | refine Cut.go ?_ | refine Both.intro ?_ ?_ | (refine Br.intro ?_ ?_ <;> intro hb <;> have hb' := hb <;> (try simp only [SH] at hb') <;> (try simp -dsimp (maxSteps := 2000000) (disch := first | omega | (simp; done) | (simp; omega)) only [SA, SB, SC, SD, SE, SF, SG, SI, Nat.reduceLT, Nat.reduceAdd, Nat.reduceSub, Nat.reduceMul, Nat.reduceLeDiff, Nat.reduceEqDiff, Nat.reduceBEq, Int.reduceToNat, Int.reduceLE, Int.reduceLT, Int.reduceEq, Int.reduceNeg, reduceCtorEq, ↓reduceIte, hb, hlx]))))
  have t0 : Tab σ σ.next [] (σ.alloc (.cells [.nils, .nils, .int .i64 0])) := by
    refine ⟨fun i hi => by rw [alloc_obj, if_neg (by omega)], ⟨Nat.le_refl _, by rw [alloc_next]; omega⟩, fun i hi => ?_, by simp, .nils, .nils, .int .i64 0, by rw [alloc_obj, if_pos rfl], rfl, rfl, rfl, .inl ⟨rfl, rfl⟩, fun _ _ _ e => (nomatch e)⟩
    rw [alloc_next] at hi; rw [alloc_obj, if_neg (by omega)]; exact hf i (by omega)
  refine loop_go (α := Nat × St) (fun a => [x, .nils, .junk, .junk, .nilp, .int .i64 0, .ref σ.next 0, .junk, .junk, .junk, .junk, .junk, .junk, x, .int .i64 l.length, .int .i64 a.1] ++ List.replicate 20 .junk) (fun a => a.2) (fun a => l.length - a.1) (fun a => a.1 ≤ l.length ∧ ∃ l', Tab σ σ.next l' a.2) (0, _) ⟨Nat.zero_le _, [], t0⟩ (by ((try simp only [List.replicate_succ, List.replicate_zero, List.cons_append, List.nil_append]); repeat' (first | exact trivial | refine ⟨.inl rfl, ?_⟩ | refine ⟨.inr rfl, ?_⟩ | refine ⟨.inr (by simp), ?_⟩))) (Drops.refl _) ?_
  rintro ⟨i, s⟩ ⟨h1, l', ht⟩
  simp only [] at h1 ht ⊢
  simp -dsimp (maxSteps := 2000000) (disch := first | omega | (simp; done) | (simp; omega)) only [SA, SB, SC, SD, SE, SF, SG, SI, Nat.reduceLT, Nat.reduceAdd, Nat.reduceSub, Nat.reduceMul, Nat.reduceLeDiff, Nat.reduceEqDiff, Nat.reduceBEq, Int.reduceToNat, Int.reduceLE, Int.reduceLT, Int.reduceEq, Int.reduceNeg, reduceCtorEq, ↓reduceIte, List.replicate_succ, List.replicate_zero]
  (repeat' (first | simp -dsimp (maxSteps := 2000000) (disch := first | omega | (simp; done) | (simp; omega)) only [SA, SB, SC, SD, SE, SF, SG, SI, Nat.reduceLT, Nat.reduceAdd, Nat.reduceSub, Nat.reduceMul, Nat.reduceLeDiff, Nat.reduceEqDiff, Nat.reduceBEq, Int.reduceToNat, Int.reduceLE, Int.reduceLT, Int.reduceEq, Int.reduceNeg, reduceCtorEq, ↓reduceIte] | refine Cut.go ?_ | refine Both.intro ?_ ?_ | (refine Br.intro ?_ ?_ <;> intro hb <;> have hb' := hb <;> (try simp only [SH] at hb') <;> (try simp -dsimp (maxSteps := 2000000) (disch := first | omega | (simp; done) | (simp; omega)) only [SA, SB, SC, SD, SE, SF, SG, SI, Nat.reduceLT, Nat.reduceAdd, Nat.reduceSub, Nat.reduceMul, Nat.reduceLeDiff, Nat.reduceEqDiff, Nat.reduceBEq, Int.reduceToNat, Int.reduceLE, Int.reduceLT, Int.reduceEq, Int.reduceNeg, reduceCtorEq, ↓reduceIte, hb]))))
  · have hi : i < l.length := by omega
    have ax := hx.at hi
    (repeat' (first | simp -dsimp (maxSteps := 2000000) (disch := first | omega | (simp; done) | (simp; omega)) only [SA, SB, SC, SD, SE, SF, SG, SI, Nat.reduceLT, Nat.reduceAdd, Nat.reduceSub, Nat.reduceMul, Nat.reduceLeDiff, Nat.reduceEqDiff, Nat.reduceBEq, Int.reduceToNat, Int.reduceLE, Int.reduceLT, Int.reduceEq, Int.reduceNeg, reduceCtorEq, ↓reduceIte, ax, pair_load] | refine Cut.go ?_ | refine Both.intro ?_ ?_ | (refine Br.intro ?_ ?_ <;> intro hb <;> have hb' := hb <;> (try simp only [SH] at hb') <;> (try simp -dsimp (maxSteps := 2000000) (disch := first | omega | (simp; done) | (simp; omega)) only [SA, SB, SC, SD, SE, SF, SG, SI, Nat.reduceLT, Nat.reduceAdd, Nat.reduceSub, Nat.reduceMul, Nat.reduceLeDiff, Nat.reduceEqDiff, Nat.reduceBEq, Int.reduceToNat, Int.reduceLE, Int.reduceLT, Int.reduceEq, Int.reduceNeg, reduceCtorEq, ↓reduceIte, hb, ax, pair_load]))))
    have htm : Tab σ σ.next l' ((s.alloc (.cells [.str [], .str []])).put s.next (some (.cells [.str l[i].1, .str l[i].2]))) := by
      refine ht.other (fun k hk => ?_) ?_ fun k hk => ?_
      · rw [put_obj, if_neg (by omega), alloc_obj, if_neg (by omega)]
      · show s.next ≤ s.next + 1; omega
      · have : s.next + 1 ≤ k := hk
        rw [put_obj, if_neg (by omega), alloc_obj, if_neg (by omega)]; exact ht.fresh k (by omega)
    refine ⟨gd9, (set9 htm _ _).mono fun o s' h => ?_⟩
    obtain ⟨e, l2, rfl, ht2⟩ := h
    (repeat' (first | simp -dsimp (maxSteps := 2000000) (disch := first | omega | (simp; done) | (simp; omega)) only [SA, SB, SC, SD, SE, SF, SG, SI, Nat.reduceLT, Nat.reduceAdd, Nat.reduceSub, Nat.reduceMul, Nat.reduceLeDiff, Nat.reduceEqDiff, Nat.reduceBEq, Int.reduceToNat, Int.reduceLE, Int.reduceLT, Int.reduceEq, Int.reduceNeg, reduceCtorEq, ↓reduceIte] | refine Cut.go ?_ | refine Both.intro ?_ ?_ | (refine Br.intro ?_ ?_ <;> intro hb <;> have hb' := hb <;> (try simp only [SH] at hb') <;> (try simp -dsimp (maxSteps := 2000000) (disch := first | omega | (simp; done) | (simp; omega)) only [SA, SB, SC, SD, SE, SF, SG, SI, Nat.reduceLT, Nat.reduceAdd, Nat.reduceSub, Nat.reduceMul, Nat.reduceLeDiff, Nat.reduceEqDiff, Nat.reduceBEq, Int.reduceToNat, Int.reduceLE, Int.reduceLT, Int.reduceEq, Int.reduceNeg, reduceCtorEq, ↓reduceIte, hb]))))
    · exact ⟨_, drops_old hf ht2.low, ⟨_, by have := ht2.nxt; omega, rfl⟩, .nilp, e, rfl, .inl ⟨rfl, by simpa using hb'⟩⟩
    · exact Round.go (i + 1, s') (by simp only []; omega) ⟨by simp only []; omega, l2, ht2⟩ (by ((try simp only [List.replicate_succ, List.replicate_zero, List.cons_append, List.nil_append]); repeat' (first | exact trivial | refine ⟨.inl rfl, ?_⟩ | refine ⟨.inr rfl, ?_⟩ | refine ⟨.inr (by simp), ?_⟩))) (Drops.refl _)
  · refine ⟨gd39, (setArgs39 ht).mono fun o s' h => ?_⟩
    obtain ⟨rfl, ht2⟩ := h
    (repeat' (first | simp -dsimp (maxSteps := 2000000) (disch := first | omega | (simp; done) | (simp; omega)) only [SA, SB, SC, SD, SE, SF, SG, SI, Nat.reduceLT, Nat.reduceAdd, Nat.reduceSub, Nat.reduceMul, Nat.reduceLeDiff, Nat.reduceEqDiff, Nat.reduceBEq, Int.reduceToNat, Int.reduceLE, Int.reduceLT, Int.reduceEq, Int.reduceNeg, reduceCtorEq, ↓reduceIte] | refine Cut.go ?_ | refine Both.intro ?_ ?_ | (refine Br.intro ?_ ?_ <;> intro hb <;> have hb' := hb <;> (try simp only [SH] at hb') <;> (try simp -dsimp (maxSteps := 2000000) (disch := first | omega | (simp; done) | (simp; omega)) only [SA, SB, SC, SD, SE, SF, SG, SI, Nat.reduceLT, Nat.reduceAdd, Nat.reduceSub, Nat.reduceMul, Nat.reduceLeDiff, Nat.reduceEqDiff, Nat.reduceBEq, Int.reduceToNat, Int.reduceLE, Int.reduceLT, Int.reduceEq, Int.reduceNeg, reduceCtorEq, ↓reduceIte, hb]))))
    · exact absurd trivial hb'
    exact ⟨_, drops_old hf ht2.low, ⟨_, by have := ht2.nxt; omega, rfl⟩, .ref σ.next 0, 0, rfl, .inr ⟨_, rfl, rfl⟩⟩
end Go.Proofs.YthiidchbaicfgaaGreatDoor
