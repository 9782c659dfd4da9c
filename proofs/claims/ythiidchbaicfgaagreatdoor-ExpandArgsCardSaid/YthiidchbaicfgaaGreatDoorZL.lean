/-
  THE WALKS, layer 13, PART 20: atoms are cut into fields: the walk.
-/
import Derived.Test.YthiidchbaicfgaaGreatDoorZK
namespace Go.Proofs.YthiidchbaicfgaaGreatDoor
open Go Go.Id
set_option linter.unusedSimpArgs false
set_option linter.unusedVariables false
set_option maxRecDepth 100000
set_option maxHeartbeats 8000000

/-- What was cut. -/
def CutOut (σ0 : St) (F : List (List UInt8 × List UInt8)) (o : Out) (s : St) : Prop := ∃ L up tk, o = .ret (lsD L tk) ∧ L.map (·.2) = F ∧ Dones (σ0.next + 2) s σ0.next L up ∧ up ≤ s.next ∧ (∀ i, i < σ0.next → s.obj i = σ0.obj i) ∧ s.Fresh ∧ Tidy s
theorem Cutting.out {σ0 s : St} {xo : Option (Nat × List D)} {c : CS} (h : Cutting σ0 xo c s) : ∃ L now tk, s.obj (σ0.next + 2) = some (.cells [lsD L tk, .ref now 0, .bool c.w]) ∧ CutOut σ0 c.L (.ret (lsD L tk)) s := by
  obtain ⟨now, blo, up, L, tk, e1, e2, e3, e4, e5, e6, e7, e8, e9, e10⟩ := h.ex
  have hle := e6.le
  exact ⟨L, now, tk, e1, L, up, tk, rfl, e5, e3, by omega, h.low, h.fresh, h.tidy⟩
theorem Cutting.lt {σ0 s : St} {xo : Option (Nat × List D)} {c : CS} (h : Cutting σ0 xo c s) : σ0.next + 2 < s.next := by
  obtain ⟨now, blo, up, L, tk, e1, e2, e3, e4, e5, e6, e7, e8, e9, e10⟩ := h.ex
  have hle := e6.le
  omega
theorem len_wt : ∀ l : List Atm, l.length ≤ wt l
  | [] => Nat.le_refl _
  | a :: r => by have := len_wt r; simp only [wt, List.length_cons]; omega
theorem cut28 {x : D} {l : List Atm} (hx : Atoms x l) (ifs : List UInt8) {σ : St} (ht : Tidy σ) (hl : wt l ≤ 900000) : Ok Tryz.prog 28 [x, .str ifs] σ (CutOut σ (cutF l ifs)) := by
  refine Ok.fresh fun hf => ?_
  have hlx := hx.len
  have hlw := len_wt l
  apply en28
  simp -dsimp (maxSteps := 2000000) (disch := first | omega | (simp; done) | (simp; omega)) only [SA, SB, SC, SD, SE, SF, SG, SI, Nat.reduceLT, Nat.reduceAdd, Nat.reduceSub, Nat.reduceMul, Nat.reduceLeDiff, Nat.reduceEqDiff, Nat.reduceBEq, Int.reduceToNat, Int.reduceLE, Int.reduceLT, Int.reduceEq, Int.reduceNeg, reduceCtorEq, ↓reduceIte, ic28, List.replicate_succ, List.replicate_zero]
  (repeat' (first | simp -dsimp (maxSteps := 2000000) (disch := first | omega | (simp; done) | (simp; omega)) only [SA, SB, SC, SD, SE, SF, SG, SI, Nat.reduceLT, Nat.reduceAdd, Nat.reduceSub, Nat.reduceMul, Nat.reduceLeDiff, Nat.reduceEqDiff, Nat.reduceBEq, Int.reduceToNat, Int.reduceLE, Int.reduceLT, Int.reduceEq, Int.reduceNeg, reduceCtorEq, ↓reduceIte, hlx] | refine Cut.go ?_ | refine Both.intro ?_ ?_ | (refine Br.intro ?_ ?_ <;> intro hb <;> have hb' := hb <;> (try simp only [SH] at hb') <;> (try simp -dsimp (maxSteps := 2000000) (disch := first | omega | (simp; done) | (simp; omega)) only [SA, SB, SC, SD, SE, SF, SG, SI, Nat.reduceLT, Nat.reduceAdd, Nat.reduceSub, Nat.reduceMul, Nat.reduceLeDiff, Nat.reduceEqDiff, Nat.reduceBEq, Int.reduceToNat, Int.reduceLE, Int.reduceLT, Int.reduceEq, Int.reduceNeg, reduceCtorEq, ↓reduceIte, hb, hlx]))))
  refine loop_go (α := Nat × St) (fun a => [x, .str ifs, .junk, .junk, .nils, .ref (σ.next + 2) 0, .junk, .junk, .junk, .junk, .junk, .junk, .junk, x, .int .i64 l.length, .int .i64 a.1] ++ List.replicate 62 .junk) (fun a => a.2) (fun a => l.length - a.1) (fun a => a.1 ≤ l.length ∧ ∃ xo, Cutting σ xo ((l.take a.1).foldl (CS.atom ifs) .zero) a.2) (0, _) ⟨Nat.zero_le _, none, Cutting.new hf ht⟩ (by ((try simp only [List.replicate_succ, List.replicate_zero, List.cons_append, List.nil_append]); repeat' (first | exact trivial | refine ⟨.inl rfl, ?_⟩ | refine ⟨.inr rfl, ?_⟩ | refine ⟨.inr (by simp), ?_⟩))) (Drops.refl _) ?_
  rintro ⟨k, s⟩ ⟨h1, xo, hC⟩
  simp only [] at h1 hC ⊢
  simp -dsimp (maxSteps := 2000000) (disch := first | omega | (simp; done) | (simp; omega)) only [SA, SB, SC, SD, SE, SF, SG, SI, Nat.reduceLT, Nat.reduceAdd, Nat.reduceSub, Nat.reduceMul, Nat.reduceLeDiff, Nat.reduceEqDiff, Nat.reduceBEq, Int.reduceToNat, Int.reduceLE, Int.reduceLT, Int.reduceEq, Int.reduceNeg, reduceCtorEq, ↓reduceIte, List.replicate_succ, List.replicate_zero]
  generalize hc : (l.take k).foldl (CS.atom ifs) .zero = c at hC
  by_cases hk : k < l.length
  · have ax := hx.at hk
    have hcond : decide ((k : Int) < l.length) = true := by simp; exact hk
    have hw := wt_take l k hk
    have hsz : c.size ≤ wt (l.take k) := by
      have := CS.size_atoms ifs (l.take k) .zero
      rw [hc] at this
      simpa [CS.size, CS.zero] using this
    have hnext : (l.take (k + 1)).foldl (CS.atom ifs) .zero = c.atom ifs (l[k]) := by
      rw [List.take_succ_eq_append_getElem hk, List.foldl_append, hc]; rfl
    generalize hak : l[k] = a at *
    obtain ⟨t, q, sp, e⟩ := a
    simp only [] at ax hw hsz
    have hS0 : ∀ i, i < s.next → ((s.alloc (.cells [.str [], .bool false, .bool false, .bool false])).put s.next (some (.cells [.str t, .bool q, .bool sp, .bool e]))).obj i = s.obj i := fun i hi => by
      rw [put_obj, if_neg (by omega), alloc_obj, if_neg (by omega)]
    have hS1 := hC.keep hS0 (put_fresh (alloc_fresh hC.fresh _) (by rw [alloc_next]; omega) _) ((hC.tidy.alloc hC.fresh (by simp)).put _ _) (by show s.next < s.next + 1; omega) (by rw [put_obj, if_pos rfl])
    have hlt := hC.lt
    have w1 : (σ.next + 2 = s.next) = False := by simp; omega
    obtain ⟨l0, now, _, _, _, _, o1, sl, o2⟩ := hC.cell
    cases e
    · cases sp
      · (repeat' (first | simp -dsimp (maxSteps := 2000000) (disch := first | omega | (simp; done) | (simp; omega)) only [SA, SB, SC, SD, SE, SF, SG, SI, Nat.reduceLT, Nat.reduceAdd, Nat.reduceSub, Nat.reduceMul, Nat.reduceLeDiff, Nat.reduceEqDiff, Nat.reduceBEq, Int.reduceToNat, Int.reduceLE, Int.reduceLT, Int.reduceEq, Int.reduceNeg, reduceCtorEq, ↓reduceIte, ax, hcond, cellsAt, w1, o1] | refine Cut.go ?_ | refine Both.intro ?_ ?_ | (refine Br.intro ?_ ?_ <;> intro hb <;> have hb' := hb <;> (try simp only [SH] at hb') <;> (try simp -dsimp (maxSteps := 2000000) (disch := first | omega | (simp; done) | (simp; omega)) only [SA, SB, SC, SD, SE, SF, SG, SI, Nat.reduceLT, Nat.reduceAdd, Nat.reduceSub, Nat.reduceMul, Nat.reduceLeDiff, Nat.reduceEqDiff, Nat.reduceBEq, Int.reduceToNat, Int.reduceLE, Int.reduceLT, Int.reduceEq, Int.reduceNeg, reduceCtorEq, ↓reduceIte, hb, ax, hcond, cellsAt, w1, o1]))))
        refine hS1.add (l := l0) (now := now) (w0 := .bool c.w) (by rw [hS0 _ (by omega)]; exact o1) t q (by simp only [CS.size] at hsz; omega) fun s1 hC1 => ?_
        (repeat' (first | simp -dsimp (maxSteps := 2000000) (disch := first | omega | (simp; done) | (simp; omega)) only [SA, SB, SC, SD, SE, SF, SG, SI, Nat.reduceLT, Nat.reduceAdd, Nat.reduceSub, Nat.reduceMul, Nat.reduceLeDiff, Nat.reduceEqDiff, Nat.reduceBEq, Int.reduceToNat, Int.reduceLE, Int.reduceLT, Int.reduceEq, Int.reduceNeg, reduceCtorEq, ↓reduceIte] | refine Cut.go ?_ | refine Both.intro ?_ ?_ | (refine Br.intro ?_ ?_ <;> intro hb <;> have hb' := hb <;> (try simp only [SH] at hb') <;> (try simp -dsimp (maxSteps := 2000000) (disch := first | omega | (simp; done) | (simp; omega)) only [SA, SB, SC, SD, SE, SF, SG, SI, Nat.reduceLT, Nat.reduceAdd, Nat.reduceSub, Nat.reduceMul, Nat.reduceLeDiff, Nat.reduceEqDiff, Nat.reduceBEq, Int.reduceToNat, Int.reduceLE, Int.reduceLT, Int.reduceEq, Int.reduceNeg, reduceCtorEq, ↓reduceIte, hb]))))
        refine Round.go (k + 1, s1) (by simp only []; omega) ⟨by simp only []; omega, some (s.next, [.str t, .bool q, .bool false, .bool false]), ?_⟩ (by ((try simp only [List.replicate_succ, List.replicate_zero, List.cons_append, List.nil_append]); repeat' (first | exact trivial | refine ⟨.inl rfl, ?_⟩ | refine ⟨.inr rfl, ?_⟩ | refine ⟨.inr (by simp), ?_⟩))) (Drops.refl _)
        simp only []
        rw [hnext]
        exact hC1
      · (repeat' (first | simp -dsimp (maxSteps := 2000000) (disch := first | omega | (simp; done) | (simp; omega)) only [SA, SB, SC, SD, SE, SF, SG, SI, Nat.reduceLT, Nat.reduceAdd, Nat.reduceSub, Nat.reduceMul, Nat.reduceLeDiff, Nat.reduceEqDiff, Nat.reduceBEq, Int.reduceToNat, Int.reduceLE, Int.reduceLT, Int.reduceEq, Int.reduceNeg, reduceCtorEq, ↓reduceIte, ax, hcond, cellsAt] | refine Cut.go ?_ | refine Both.intro ?_ ?_ | (refine Br.intro ?_ ?_ <;> intro hb <;> have hb' := hb <;> (try simp only [SH] at hb') <;> (try simp -dsimp (maxSteps := 2000000) (disch := first | omega | (simp; done) | (simp; omega)) only [SA, SB, SC, SD, SE, SF, SG, SI, Nat.reduceLT, Nat.reduceAdd, Nat.reduceSub, Nat.reduceMul, Nat.reduceLeDiff, Nat.reduceEqDiff, Nat.reduceBEq, Int.reduceToNat, Int.reduceLE, Int.reduceLT, Int.reduceEq, Int.reduceNeg, reduceCtorEq, ↓reduceIte, hb, ax, hcond, cellsAt]))))
        refine loop_go (α := Nat × St) (fun a => [x, .str ifs, .junk, .junk, .nils, .ref (σ.next + 2) 0, .junk, .ref s.next 0, .junk, .junk, .junk, .junk, .junk, x, .int .i64 l.length, .int .i64 k, .junk, .junk, .junk, .junk, .junk, .int .i64 t.length, .int .i64 a.1] ++ List.replicate 55 .junk) (fun a => a.2) (fun a => t.length - a.1) (fun a => a.1 ≤ t.length ∧ Cutting σ (some (s.next, [.str t, .bool q, .bool true, .bool false])) ((t.take a.1).foldl (CS.byte ifs) c) a.2) (0, _) ⟨Nat.zero_le _, hS1⟩ (by ((try simp only [List.replicate_succ, List.replicate_zero, List.cons_append, List.nil_append]); repeat' (first | exact trivial | refine ⟨.inl rfl, ?_⟩ | refine ⟨.inr rfl, ?_⟩ | refine ⟨.inr (by simp), ?_⟩))) (Drops.refl _) ?_
        rintro ⟨i, u⟩ ⟨hi, hU⟩
        simp only [] at hi hU ⊢
        simp -dsimp (maxSteps := 2000000) (disch := first | omega | (simp; done) | (simp; omega)) only [SA, SB, SC, SD, SE, SF, SG, SI, Nat.reduceLT, Nat.reduceAdd, Nat.reduceSub, Nat.reduceMul, Nat.reduceLeDiff, Nat.reduceEqDiff, Nat.reduceBEq, Int.reduceToNat, Int.reduceLE, Int.reduceLT, Int.reduceEq, Int.reduceNeg, reduceCtorEq, ↓reduceIte, List.replicate_succ, List.replicate_zero]
        generalize hd : (t.take i).foldl (CS.byte ifs) c = d at hU
        have hdz : d.size ≤ c.size + 3 * i := by
          have := CS.size_bytes ifs (t.take i) c
          rw [hd, List.length_take, Nat.min_eq_left hi] at this
          exact this
        have o3 := hU.kept
        obtain ⟨l0', now', _, _, _, _, o1', sl', o2'⟩ := hU.cell
        by_cases hit : i < t.length
        · have hcond2 : decide ((i : Int) < t.length) = true := by simp; exact hit
          have hnext2 : (t.take (i + 1)).foldl (CS.byte ifs) c = d.byte ifs (t.getD i 0) := by
            rw [take_step t i hit, List.foldl_append, hd]; rfl
          have ia := idx_at t i hit
          have bs : List.take (((i : Int) + 1).toNat - i) (List.drop i t) = [t.getD i 0] := by
            rw [show ((i : Int) + 1).toNat - i = 1 by omega, List.drop_eq_getElem_cons hit, List.getD_eq_getElem?_getD, List.getElem?_eq_getElem hit]; rfl
          (repeat' (first | simp -dsimp (maxSteps := 2000000) (disch := first | omega | (simp; done) | (simp; omega)) only [SA, SB, SC, SD, SE, SF, SG, SI, Nat.reduceLT, Nat.reduceAdd, Nat.reduceSub, Nat.reduceMul, Nat.reduceLeDiff, Nat.reduceEqDiff, Nat.reduceBEq, Int.reduceToNat, Int.reduceLE, Int.reduceLT, Int.reduceEq, Int.reduceNeg, reduceCtorEq, ↓reduceIte, hcond2, o3, ia, idx_nonneg, o1', bs] | refine Cut.go ?_ | refine Both.intro ?_ ?_ | refine via gd52 (ib52 _ _ _) ?_ | (refine Br.intro ?_ ?_ <;> intro hb <;> have hb' := hb <;> (try simp only [SH] at hb') <;> (try simp -dsimp (maxSteps := 2000000) (disch := first | omega | (simp; done) | (simp; omega)) only [SA, SB, SC, SD, SE, SF, SG, SI, Nat.reduceLT, Nat.reduceAdd, Nat.reduceSub, Nat.reduceMul, Nat.reduceLeDiff, Nat.reduceEqDiff, Nat.reduceBEq, Int.reduceToNat, Int.reduceLE, Int.reduceLT, Int.reduceEq, Int.reduceNeg, reduceCtorEq, ↓reduceIte, hb, hcond2, o3, ia, idx_nonneg, o1', bs]))))
          · refine at53 hU _ (by simp only [CS.size] at hdz hsz; omega) fun s1 hC1 => ?_
            (repeat' (first | simp -dsimp (maxSteps := 2000000) (disch := first | omega | (simp; done) | (simp; omega)) only [SA, SB, SC, SD, SE, SF, SG, SI, Nat.reduceLT, Nat.reduceAdd, Nat.reduceSub, Nat.reduceMul, Nat.reduceLeDiff, Nat.reduceEqDiff, Nat.reduceBEq, Int.reduceToNat, Int.reduceLE, Int.reduceLT, Int.reduceEq, Int.reduceNeg, reduceCtorEq, ↓reduceIte] | refine Cut.go ?_ | refine Both.intro ?_ ?_ | (refine Br.intro ?_ ?_ <;> intro hb <;> have hb' := hb <;> (try simp only [SH] at hb') <;> (try simp -dsimp (maxSteps := 2000000) (disch := first | omega | (simp; done) | (simp; omega)) only [SA, SB, SC, SD, SE, SF, SG, SI, Nat.reduceLT, Nat.reduceAdd, Nat.reduceSub, Nat.reduceMul, Nat.reduceLeDiff, Nat.reduceEqDiff, Nat.reduceBEq, Int.reduceToNat, Int.reduceLE, Int.reduceLT, Int.reduceEq, Int.reduceNeg, reduceCtorEq, ↓reduceIte, hb]))))
            refine Round.go (i + 1, s1) (by simp only []; omega) ⟨by simp only []; omega, ?_⟩ (by ((try simp only [List.replicate_succ, List.replicate_zero, List.cons_append, List.nil_append]); repeat' (first | exact trivial | refine ⟨.inl rfl, ?_⟩ | refine ⟨.inr rfl, ?_⟩ | refine ⟨.inr (by simp), ?_⟩))) (Drops.refl _)
            simp only []
            rw [hnext2, CS.byte, hb']
            exact hC1
          · refine hU.add o1' _ _ (by simp only [CS.size] at hdz hsz; simp only [List.length_cons, List.length_nil, bs]; omega) fun s1 hC1 => ?_
            (repeat' (first | simp -dsimp (maxSteps := 2000000) (disch := first | omega | (simp; done) | (simp; omega)) only [SA, SB, SC, SD, SE, SF, SG, SI, Nat.reduceLT, Nat.reduceAdd, Nat.reduceSub, Nat.reduceMul, Nat.reduceLeDiff, Nat.reduceEqDiff, Nat.reduceBEq, Int.reduceToNat, Int.reduceLE, Int.reduceLT, Int.reduceEq, Int.reduceNeg, reduceCtorEq, ↓reduceIte] | refine Cut.go ?_ | refine Both.intro ?_ ?_ | (refine Br.intro ?_ ?_ <;> intro hb <;> have hb' := hb <;> (try simp only [SH] at hb') <;> (try simp -dsimp (maxSteps := 2000000) (disch := first | omega | (simp; done) | (simp; omega)) only [SA, SB, SC, SD, SE, SF, SG, SI, Nat.reduceLT, Nat.reduceAdd, Nat.reduceSub, Nat.reduceMul, Nat.reduceLeDiff, Nat.reduceEqDiff, Nat.reduceBEq, Int.reduceToNat, Int.reduceLE, Int.reduceLT, Int.reduceEq, Int.reduceNeg, reduceCtorEq, ↓reduceIte, hb]))))
            refine Round.go (i + 1, s1) (by simp only []; omega) ⟨by simp only []; omega, ?_⟩ (by ((try simp only [List.replicate_succ, List.replicate_zero, List.cons_append, List.nil_append]); repeat' (first | exact trivial | refine ⟨.inl rfl, ?_⟩ | refine ⟨.inr rfl, ?_⟩ | refine ⟨.inr (by simp), ?_⟩))) (Drops.refl _)
            simp only []
            rw [hnext2, CS.byte, hb']
            exact hC1
        · have hit' : i = t.length := by omega
          have hcond2 : decide ((i : Int) < t.length) = false := by simp; omega
          (repeat' (first | simp -dsimp (maxSteps := 2000000) (disch := first | omega | (simp; done) | (simp; omega)) only [SA, SB, SC, SD, SE, SF, SG, SI, Nat.reduceLT, Nat.reduceAdd, Nat.reduceSub, Nat.reduceMul, Nat.reduceLeDiff, Nat.reduceEqDiff, Nat.reduceBEq, Int.reduceToNat, Int.reduceLE, Int.reduceLT, Int.reduceEq, Int.reduceNeg, reduceCtorEq, ↓reduceIte, hcond2] | refine Cut.go ?_ | refine Both.intro ?_ ?_ | (refine Br.intro ?_ ?_ <;> intro hb <;> have hb' := hb <;> (try simp only [SH] at hb') <;> (try simp -dsimp (maxSteps := 2000000) (disch := first | omega | (simp; done) | (simp; omega)) only [SA, SB, SC, SD, SE, SF, SG, SI, Nat.reduceLT, Nat.reduceAdd, Nat.reduceSub, Nat.reduceMul, Nat.reduceLeDiff, Nat.reduceEqDiff, Nat.reduceBEq, Int.reduceToNat, Int.reduceLE, Int.reduceLT, Int.reduceEq, Int.reduceNeg, reduceCtorEq, ↓reduceIte, hb, hcond2]))))
          refine Round.go (k + 1, u) (by simp only []; omega) ⟨by simp only []; omega, some (s.next, [.str t, .bool q, .bool true, .bool false]), ?_⟩ (by ((try simp only [List.replicate_succ, List.replicate_zero, List.cons_append, List.nil_append]); repeat' (first | exact trivial | refine ⟨.inl rfl, ?_⟩ | refine ⟨.inr rfl, ?_⟩ | refine ⟨.inr (by simp), ?_⟩))) (Drops.refl _)
          simp only []
          rw [hnext]
          rw [hit', List.take_length] at hd
          show Cutting σ _ (t.foldl (CS.byte ifs) c) u
          rw [hd]
          exact hU
    · (repeat' (first | simp -dsimp (maxSteps := 2000000) (disch := first | omega | (simp; done) | (simp; omega)) only [SA, SB, SC, SD, SE, SF, SG, SI, Nat.reduceLT, Nat.reduceAdd, Nat.reduceSub, Nat.reduceMul, Nat.reduceLeDiff, Nat.reduceEqDiff, Nat.reduceBEq, Int.reduceToNat, Int.reduceLE, Int.reduceLT, Int.reduceEq, Int.reduceNeg, reduceCtorEq, ↓reduceIte, ax, hcond, cellsAt] | refine Cut.go ?_ | refine Both.intro ?_ ?_ | (refine Br.intro ?_ ?_ <;> intro hb <;> have hb' := hb <;> (try simp only [SH] at hb') <;> (try simp -dsimp (maxSteps := 2000000) (disch := first | omega | (simp; done) | (simp; omega)) only [SA, SB, SC, SD, SE, SF, SG, SI, Nat.reduceLT, Nat.reduceAdd, Nat.reduceSub, Nat.reduceMul, Nat.reduceLeDiff, Nat.reduceEqDiff, Nat.reduceBEq, Int.reduceToNat, Int.reduceLE, Int.reduceLT, Int.reduceEq, Int.reduceNeg, reduceCtorEq, ↓reduceIte, hb, ax, hcond, cellsAt]))))
      refine push50 hS1 false (by simp only [CS.size] at hsz; omega) fun s1 hC1 => ?_
      obtain ⟨l1, now1, _, _, _, _, g, sl1, _⟩ := hC1.cell
      (repeat' (first | simp -dsimp (maxSteps := 2000000) (disch := first | omega | (simp; done) | (simp; omega)) only [SA, SB, SC, SD, SE, SF, SG, SI, Nat.reduceLT, Nat.reduceAdd, Nat.reduceSub, Nat.reduceMul, Nat.reduceLeDiff, Nat.reduceEqDiff, Nat.reduceBEq, Int.reduceToNat, Int.reduceLE, Int.reduceLT, Int.reduceEq, Int.reduceNeg, reduceCtorEq, ↓reduceIte, g] | refine Cut.go ?_ | refine Both.intro ?_ ?_ | (refine Br.intro ?_ ?_ <;> intro hb <;> have hb' := hb <;> (try simp only [SH] at hb') <;> (try simp -dsimp (maxSteps := 2000000) (disch := first | omega | (simp; done) | (simp; omega)) only [SA, SB, SC, SD, SE, SF, SG, SI, Nat.reduceLT, Nat.reduceAdd, Nat.reduceSub, Nat.reduceMul, Nat.reduceLeDiff, Nat.reduceEqDiff, Nat.reduceBEq, Int.reduceToNat, Int.reduceLE, Int.reduceLT, Int.reduceEq, Int.reduceNeg, reduceCtorEq, ↓reduceIte, hb, g]))))
      refine Round.go (k + 1, _) (by simp only []; omega) ⟨by simp only []; omega, some (s.next, [.str t, .bool q, .bool sp, .bool true]), ?_⟩ (by ((try simp only [List.replicate_succ, List.replicate_zero, List.cons_append, List.nil_append]); repeat' (first | exact trivial | refine ⟨.inl rfl, ?_⟩ | refine ⟨.inr rfl, ?_⟩ | refine ⟨.inr (by simp), ?_⟩))) (Drops.refl _)
      simp only []
      rw [hnext]
      exact hC1.setW g false
  · have hk' : k = l.length := by omega
    have hcond : decide ((k : Int) < l.length) = false := by simp; omega
    have hsz : c.size ≤ wt l := by
      have := CS.size_atoms ifs l .zero
      rw [hk', List.take_length] at hc
      rw [hc] at this
      simpa [CS.size, CS.zero] using this
    (repeat' (first | simp -dsimp (maxSteps := 2000000) (disch := first | omega | (simp; done) | (simp; omega)) only [SA, SB, SC, SD, SE, SF, SG, SI, Nat.reduceLT, Nat.reduceAdd, Nat.reduceSub, Nat.reduceMul, Nat.reduceLeDiff, Nat.reduceEqDiff, Nat.reduceBEq, Int.reduceToNat, Int.reduceLE, Int.reduceLT, Int.reduceEq, Int.reduceNeg, reduceCtorEq, ↓reduceIte, hcond] | refine Cut.go ?_ | refine Both.intro ?_ ?_ | (refine Br.intro ?_ ?_ <;> intro hb <;> have hb' := hb <;> (try simp only [SH] at hb') <;> (try simp -dsimp (maxSteps := 2000000) (disch := first | omega | (simp; done) | (simp; omega)) only [SA, SB, SC, SD, SE, SF, SG, SI, Nat.reduceLT, Nat.reduceAdd, Nat.reduceSub, Nat.reduceMul, Nat.reduceLeDiff, Nat.reduceEqDiff, Nat.reduceBEq, Int.reduceToNat, Int.reduceLE, Int.reduceLT, Int.reduceEq, Int.reduceNeg, reduceCtorEq, ↓reduceIte, hb, hcond]))))
    refine push50 hC false (by simp only [CS.size] at hsz; omega) fun s1 hC1 => ?_
    obtain ⟨L, now, tk, g, hout⟩ := hC1.out
    have lc : ∀ a b, cellsAt [lsD L tk, a, b] 0 none = some (lsD L tk) := fun a b => by simp [cellsAt, lsD_scal]
    (repeat' (first | simp -dsimp (maxSteps := 2000000) (disch := first | omega | (simp; done) | (simp; omega)) only [SA, SB, SC, SD, SE, SF, SG, SI, Nat.reduceLT, Nat.reduceAdd, Nat.reduceSub, Nat.reduceMul, Nat.reduceLeDiff, Nat.reduceEqDiff, Nat.reduceBEq, Int.reduceToNat, Int.reduceLE, Int.reduceLT, Int.reduceEq, Int.reduceNeg, reduceCtorEq, ↓reduceIte, g, lc] | refine Cut.go ?_ | refine Both.intro ?_ ?_ | (refine Br.intro ?_ ?_ <;> intro hb <;> have hb' := hb <;> (try simp only [SH] at hb') <;> (try simp -dsimp (maxSteps := 2000000) (disch := first | omega | (simp; done) | (simp; omega)) only [SA, SB, SC, SD, SE, SF, SG, SI, Nat.reduceLT, Nat.reduceAdd, Nat.reduceSub, Nat.reduceMul, Nat.reduceLeDiff, Nat.reduceEqDiff, Nat.reduceBEq, Int.reduceToNat, Int.reduceLE, Int.reduceLT, Int.reduceEq, Int.reduceNeg, reduceCtorEq, ↓reduceIte, hb, g, lc]))))
    rw [hk', List.take_length] at hc
    rw [cutF, hc]
    exact hout
end Go.Proofs.YthiidchbaicfgaaGreatDoor
