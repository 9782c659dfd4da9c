/-
  THE WALKS, layer 13, PART 32: the document's table is given a value, exactly.
-/
import Derived.Test.YthiidchbaicfgaaGreatDoorYA
namespace Go.Proofs.YthiidchbaicfgaaGreatDoor
open Go Go.Id
set_option linter.unusedSimpArgs false
set_option linter.unusedVariables false
set_option maxRecDepth 100000
set_option maxHeartbeats 8000000

/-- What the document's 'Set' tells. -/
def Given11 (σ : St) (l : Vs) (n v : List UInt8) (x y z : D) (o : Out) (s : St) : Prop := ∃ x', o = .ret (.tuple [.agg [x', y, z], .int .i64 (setE n v l).1]) ∧ scal x' = true ∧ VarsR s x' (setE n v l).2 ∧ s.Fresh ∧ σ.next ≤ s.next ∧ (∀ i, i < σ.next → s.obj i = σ.obj i) ∧
  (x' = x ∨ ∀ jv t k, x' = .rslc jv 0 2 k (.opened t) → σ.next ≤ jv)
theorem set11x {x y z : D} {l : Vs} (hl : l.length ≤ 64) (hsr : Sorted l) (sx : scal x = true) (sy : scal y = true) (sz : scal z = true) (name value : List UInt8) (σ : St) (hx : VarsR σ x l) :
    Ok Tryz.prog 11 [.agg [x, y, z], .str name, .str value] σ (Given11 σ l name value x y z) := by
  refine Ok.fresh fun hf => ?_
  have hlx := hx.len
  have hd : dcells (.agg [x, y, z]) = some [x, y, z] := by simp [dcells, sx, sy, sz]
  have hso : scalO (some x) = some x := by simp [scalO, sx]
  apply en11
  simp -dsimp (maxSteps := 2000000) (disch := first | omega | (simp; done) | (simp; omega)) only [SA, SB, SC, SD, SE, SF, SG, SI, Nat.reduceLT, Nat.reduceAdd, Nat.reduceSub, Nat.reduceMul, Nat.reduceLeDiff, Nat.reduceEqDiff, Nat.reduceBEq, Int.reduceToNat, Int.reduceLE, Int.reduceLT, Int.reduceEq, Int.reduceNeg, reduceCtorEq, ↓reduceIte, ic11, List.replicate_succ, List.replicate_zero]
  (repeat' (first | simp -dsimp (maxSteps := 2000000) (disch := first | omega | (simp; done) | (simp; omega)) only [SA, SB, SC, SD, SE, SF, SG, SI, Nat.reduceLT, Nat.reduceAdd, Nat.reduceSub, Nat.reduceMul, Nat.reduceLeDiff, Nat.reduceEqDiff, Nat.reduceBEq, Int.reduceToNat, Int.reduceLE, Int.reduceLT, Int.reduceEq, Int.reduceNeg, reduceCtorEq, ↓reduceIte, hd] | refine Cut.go ?_ | refine Both.intro ?_ ?_ | (refine Br.intro ?_ ?_ <;> intro hb <;> have hb' := hb <;> (try simp only [SH] at hb') <;> (try simp -dsimp (maxSteps := 2000000) (disch := first | omega | (simp; done) | (simp; omega)) only [SA, SB, SC, SD, SE, SF, SG, SI, Nat.reduceLT, Nat.reduceAdd, Nat.reduceSub, Nat.reduceMul, Nat.reduceLeDiff, Nat.reduceEqDiff, Nat.reduceBEq, Int.reduceToNat, Int.reduceLE, Int.reduceLT, Int.reduceEq, Int.reduceNeg, reduceCtorEq, ↓reduceIte, hb, hd]))))
  have m0 : Mine (σ.next + 2) ((σ.alloc (.cells [x, y, z])).alloc (.cells [.nils, .nils, .int .i64 0])) .nils [] ((σ.alloc (.cells [x, y, z])).alloc (.cells [.nils, .nils, .int .i64 0])) := by
    refine ⟨fun _ _ => rfl, Nat.le_refl _, fun i hi => ?_, .inl ⟨rfl, rfl⟩, fun _ _ _ e => (nomatch e), rfl⟩
    have : σ.next + 2 ≤ i := hi
    rw [two_obj, if_neg (by omega), if_neg (by omega)]; exact hf i (by omega)
  have q0 : ((σ.alloc (.cells [x, y, z])).alloc (.cells [.nils, .nils, .int .i64 0])).obj σ.next = some (.cells [x, y, z]) := by rw [two_obj, if_neg (by omega), if_pos rfl]
  have q1 : ((σ.alloc (.cells [x, y, z])).alloc (.cells [.nils, .nils, .int .i64 0])).obj (σ.next + 1) = some (.cells [.nils, .nils, .int .i64 0]) := by rw [two_obj, if_pos rfl]
  have qx : VarsR ((σ.alloc (.cells [x, y, z])).alloc (.cells [.nils, .nils, .int .i64 0])) x l := hx.low hf fun i hi => by rw [two_obj, if_neg (by omega), if_neg (by omega)]
  have qlow : ∀ i, i < σ.next → ((σ.alloc (.cells [x, y, z])).alloc (.cells [.nils, .nils, .int .i64 0])).obj i = σ.obj i := fun i hi => by rw [two_obj, if_neg (by omega), if_neg (by omega)]
  have qn : ((σ.alloc (.cells [x, y, z])).alloc (.cells [.nils, .nils, .int .i64 0])).next = σ.next + 2 := rfl
  generalize ((σ.alloc (.cells [x, y, z])).alloc (.cells [.nils, .nils, .int .i64 0])) = S at *
  have ql : iload (some 3) (.ref σ.next 0) S = some (.agg [x, y, z]) := by simp [iload, q0, cellsAt, sx, sy, sz]
  have hfin : ∀ (m : Nat) (e : Int), S.next ≤ m → setE name value l = (e, l) → Given11 σ l name value x y z (.ret (.tuple [.agg [x, y, z], .int .i64 e])) (({ obj := S.obj, next := m } : St).put (σ.next + 1) (some (.cells [x, y, z]))) := by
    intro m e hm hE
    unfold Given11
    rw [hE]
    refine ⟨x, rfl, sx, ?_, fun i hi => ?_, ?_, fun i hi => ?_, .inl rfl⟩
    · refine hx.low hf fun i hi => ?_
      rw [put_obj, if_neg (by omega)]; exact qlow i hi
    · have : m ≤ i := hi
      rw [put_obj, if_neg (by omega)]; exact m0.fresh i (by omega)
    · show σ.next ≤ m; omega
    · rw [put_obj, if_neg (by omega)]; exact qlow i hi
  cases hn : nameB name
  · (repeat' (first | simp -dsimp (maxSteps := 2000000) (disch := first | omega | (simp; done) | (simp; omega)) only [SA, SB, SC, SD, SE, SF, SG, SI, Nat.reduceLT, Nat.reduceAdd, Nat.reduceSub, Nat.reduceMul, Nat.reduceLeDiff, Nat.reduceEqDiff, Nat.reduceBEq, Int.reduceToNat, Int.reduceLE, Int.reduceLT, Int.reduceEq, Int.reduceNeg, reduceCtorEq, ↓reduceIte, hd, q0, q1, ql, hn] | refine Cut.go ?_ | refine Both.intro ?_ ?_ | refine via gd8 (name8x _ _) ?_ | (refine Br.intro ?_ ?_ <;> intro hb <;> have hb' := hb <;> (try simp only [SH] at hb') <;> (try simp -dsimp (maxSteps := 2000000) (disch := first | omega | (simp; done) | (simp; omega)) only [SA, SB, SC, SD, SE, SF, SG, SI, Nat.reduceLT, Nat.reduceAdd, Nat.reduceSub, Nat.reduceMul, Nat.reduceLeDiff, Nat.reduceEqDiff, Nat.reduceBEq, Int.reduceToNat, Int.reduceLE, Int.reduceLT, Int.reduceEq, Int.reduceNeg, reduceCtorEq, ↓reduceIte, hb, hd, q0, q1, ql, hn]))))
    exact hfin S.next 70 (Nat.le_refl _) (by simp [setE, hn])
  (repeat' (first | simp -dsimp (maxSteps := 2000000) (disch := first | omega | (simp; done) | (simp; omega)) only [SA, SB, SC, SD, SE, SF, SG, SI, Nat.reduceLT, Nat.reduceAdd, Nat.reduceSub, Nat.reduceMul, Nat.reduceLeDiff, Nat.reduceEqDiff, Nat.reduceBEq, Int.reduceToNat, Int.reduceLE, Int.reduceLT, Int.reduceEq, Int.reduceNeg, reduceCtorEq, ↓reduceIte, hd, q0, q1, ql, hn] | refine Cut.go ?_ | refine Both.intro ?_ ?_ | refine via gd8 (name8x _ _) ?_ | (refine Br.intro ?_ ?_ <;> intro hb <;> have hb' := hb <;> (try simp only [SH] at hb') <;> (try simp -dsimp (maxSteps := 2000000) (disch := first | omega | (simp; done) | (simp; omega)) only [SA, SB, SC, SD, SE, SF, SG, SI, Nat.reduceLT, Nat.reduceAdd, Nat.reduceSub, Nat.reduceMul, Nat.reduceLeDiff, Nat.reduceEqDiff, Nat.reduceBEq, Int.reduceToNat, Int.reduceLE, Int.reduceLT, Int.reduceEq, Int.reduceNeg, reduceCtorEq, ↓reduceIte, hb, hd, q0, q1, ql, hn]))))
  refine ⟨gd26, (place26x (by omega) sx sy sz name S qx).mono fun o s' h => ?_⟩
  obtain ⟨⟨m, hm, rfl⟩, p, rfl, hp⟩ := h
  have mm : Mine (σ.next + 2) S .nils [] ⟨S.obj, m⟩ := ⟨fun _ _ => rfl, by show σ.next + 2 ≤ m; omega, fun i hi => m0.fresh i (by have : m ≤ i := hi; omega), .inl ⟨rfl, rfl⟩, fun _ _ _ e => (nomatch e), rfl⟩
  by_cases hv : 4096 < value.length
  · have hc1 : decide ((value.length : Int) > 4096) = true := by simp; omega
    (repeat' (first | simp -dsimp (maxSteps := 2000000) (disch := first | omega | (simp; done) | (simp; omega)) only [SA, SB, SC, SD, SE, SF, SG, SI, Nat.reduceLT, Nat.reduceAdd, Nat.reduceSub, Nat.reduceMul, Nat.reduceLeDiff, Nat.reduceEqDiff, Nat.reduceBEq, Int.reduceToNat, Int.reduceLE, Int.reduceLT, Int.reduceEq, Int.reduceNeg, reduceCtorEq, ↓reduceIte, hd, q0, q1, ql, hso, hlx, hc1] | refine Cut.go ?_ | refine Both.intro ?_ ?_ | (refine Br.intro ?_ ?_ <;> intro hb <;> have hb' := hb <;> (try simp only [SH] at hb') <;> (try simp -dsimp (maxSteps := 2000000) (disch := first | omega | (simp; done) | (simp; omega)) only [SA, SB, SC, SD, SE, SF, SG, SI, Nat.reduceLT, Nat.reduceAdd, Nat.reduceSub, Nat.reduceMul, Nat.reduceLeDiff, Nat.reduceEqDiff, Nat.reduceBEq, Int.reduceToNat, Int.reduceLE, Int.reduceLT, Int.reduceEq, Int.reduceNeg, reduceCtorEq, ↓reduceIte, hb, hd, q0, q1, ql, hso, hlx, hc1]))))
    exact hfin m 2 hm (by simp [setE, hn, hv])
  have hc1 : decide ((value.length : Int) > 4096) = false := by simp; omega
  by_cases hfull : tget name l = none ∧ 64 ≤ l.length
  · have hc2 : decide (p < 0) = true := by
      rcases hp with ⟨_, rfl⟩ | ⟨q, hq, rfl, hq2⟩
      · rfl
      · rw [hfull.1] at hq2; cases hq2
    have hc3 : decide ((l.length : Int) ≥ 64) = true := by simp; omega
    (repeat' (first | simp -dsimp (maxSteps := 2000000) (disch := first | omega | (simp; done) | (simp; omega)) only [SA, SB, SC, SD, SE, SF, SG, SI, Nat.reduceLT, Nat.reduceAdd, Nat.reduceSub, Nat.reduceMul, Nat.reduceLeDiff, Nat.reduceEqDiff, Nat.reduceBEq, Int.reduceToNat, Int.reduceLE, Int.reduceLT, Int.reduceEq, Int.reduceNeg, reduceCtorEq, ↓reduceIte, hd, q0, q1, ql, hso, hlx, hc1, hc2, hc3] | refine Cut.go ?_ | refine Both.intro ?_ ?_ | (refine Br.intro ?_ ?_ <;> intro hb <;> have hb' := hb <;> (try simp only [SH] at hb') <;> (try simp -dsimp (maxSteps := 2000000) (disch := first | omega | (simp; done) | (simp; omega)) only [SA, SB, SC, SD, SE, SF, SG, SI, Nat.reduceLT, Nat.reduceAdd, Nat.reduceSub, Nat.reduceMul, Nat.reduceLeDiff, Nat.reduceEqDiff, Nat.reduceBEq, Int.reduceToNat, Int.reduceLE, Int.reduceLT, Int.reduceEq, Int.reduceNeg, reduceCtorEq, ↓reduceIte, hb, hd, q0, q1, ql, hso, hlx, hc1, hc2, hc3]))))
    exact hfin m 2 hm (by simp [setE, hn, hv, hfull.1, hfull.2])
  have hE : setE name value l = (0, tset name value l) := by
    have : ((tget name l).isNone && decide (64 ≤ l.length)) = false := by
      cases hg : tget name l
      · have : ¬ 64 ≤ l.length := fun h => hfull ⟨hg, h⟩
        simp [this]
      · rfl
    simp only [setE, hn, if_true, if_neg hv, this]; rfl
  have hgo : (decide (p < 0) = true ∧ decide ((l.length : Int) ≥ 64) = false) ∨ decide (p < 0) = false := by
    rcases hp with ⟨h1, rfl⟩ | ⟨q, hq, rfl, hq2⟩
    · left
      refine ⟨rfl, ?_⟩
      have : ¬ 64 ≤ l.length := fun h => hfull ⟨h1, h⟩
      simp; omega
    · right; simp
  have hset := rset_eq name value l hsr
  rcases hgo with ⟨hc2, hc3⟩ | hc2
  case' inl => (repeat' (first | simp -dsimp (maxSteps := 2000000) (disch := first | omega | (simp; done) | (simp; omega)) only [SA, SB, SC, SD, SE, SF, SG, SI, Nat.reduceLT, Nat.reduceAdd, Nat.reduceSub, Nat.reduceMul, Nat.reduceLeDiff, Nat.reduceEqDiff, Nat.reduceBEq, Int.reduceToNat, Int.reduceLE, Int.reduceLT, Int.reduceEq, Int.reduceNeg, reduceCtorEq, ↓reduceIte, hd, q0, q1, ql, hso, hlx, hc1, hc2, hc3] | refine Cut.go ?_ | refine Both.intro ?_ ?_ | (refine Br.intro ?_ ?_ <;> intro hb <;> have hb' := hb <;> (try simp only [SH] at hb') <;> (try simp -dsimp (maxSteps := 2000000) (disch := first | omega | (simp; done) | (simp; omega)) only [SA, SB, SC, SD, SE, SF, SG, SI, Nat.reduceLT, Nat.reduceAdd, Nat.reduceSub, Nat.reduceMul, Nat.reduceLeDiff, Nat.reduceEqDiff, Nat.reduceBEq, Int.reduceToNat, Int.reduceLE, Int.reduceLT, Int.reduceEq, Int.reduceNeg, reduceCtorEq, ↓reduceIte, hb, hd, q0, q1, ql, hso, hlx, hc1, hc2, hc3]))))
  case' inr => (repeat' (first | simp -dsimp (maxSteps := 2000000) (disch := first | omega | (simp; done) | (simp; omega)) only [SA, SB, SC, SD, SE, SF, SG, SI, Nat.reduceLT, Nat.reduceAdd, Nat.reduceSub, Nat.reduceMul, Nat.reduceLeDiff, Nat.reduceEqDiff, Nat.reduceBEq, Int.reduceToNat, Int.reduceLE, Int.reduceLT, Int.reduceEq, Int.reduceNeg, reduceCtorEq, ↓reduceIte, hd, q0, q1, ql, hso, hlx, hc1, hc2] | refine Cut.go ?_ | refine Both.intro ?_ ?_ | (refine Br.intro ?_ ?_ <;> intro hb <;> have hb' := hb <;> (try simp only [SH] at hb') <;> (try simp -dsimp (maxSteps := 2000000) (disch := first | omega | (simp; done) | (simp; omega)) only [SA, SB, SC, SD, SE, SF, SG, SI, Nat.reduceLT, Nat.reduceAdd, Nat.reduceSub, Nat.reduceMul, Nat.reduceLeDiff, Nat.reduceEqDiff, Nat.reduceBEq, Int.reduceToNat, Int.reduceLE, Int.reduceLT, Int.reduceEq, Int.reduceNeg, reduceCtorEq, ↓reduceIte, hb, hd, q0, q1, ql, hso, hlx, hc1, hc2]))))
  all_goals refine loop_go (α := Nat × Bool × D × Vs × St) (fun a => [.agg [x, y, z], .str name, .str value, .ref σ.next 0, .junk, .junk, .ref (σ.next + 1) 0, .int .i64 0, .int .i64 p, a.2.2.1, .bool a.2.1, .int .i64 a.1] ++ List.replicate 73 .junk) (fun a => a.2.2.2.2) (fun a => l.length - a.1) (fun a => a.1 ≤ l.length ∧ Mine (σ.next + 2) S a.2.2.1 a.2.2.2.1 a.2.2.2.2 ∧ a.2.2.2.1.length ≤ a.1 + (if a.2.1 then 1 else 0) ∧ a.2.2.2.1 ++ rset name value a.2.1 (l.drop a.1) = tset name value l) (0, false, .nils, [], ⟨S.obj, m⟩) ⟨Nat.zero_le _, mm, by simp, hset⟩ (by ((try simp only [List.replicate_succ, List.replicate_zero, List.cons_append, List.nil_append]); repeat' (first | exact trivial | refine ⟨.inl rfl, ?_⟩ | refine ⟨.inr rfl, ?_⟩ | refine ⟨.inr (by simp), ?_⟩))) (Drops.refl _) ?_
  all_goals
    rintro ⟨i, done, x9, k, s⟩ ⟨h1, hM, hk, hR⟩
    simp only [] at h1 hM hk hR ⊢
    have r0 : ∀ {x9 k s}, Mine (σ.next + 2) S x9 k s → s.obj σ.next = some (.cells [x, y, z]) := fun hM => by rw [hM.low _ (by omega)]; exact q0
    have r1 : ∀ {x9 k s}, Mine (σ.next + 2) S x9 k s → s.obj (σ.next + 1) = some (.cells [.nils, .nils, .int .i64 0]) := fun hM => by rw [hM.low _ (by omega)]; exact q1
    have rx : ∀ {x9 k s}, Mine (σ.next + 2) S x9 k s → VarsR s x l := fun hM => hx.low hf fun i hi => by rw [hM.low _ (by omega)]; exact qlow i hi
    have p0 := r0 hM
    have w1 : (σ.next + 1 = σ.next) = False := by simp
    have hend : ∀ {x9 k s}, Mine (σ.next + 2) S x9 k s → k = tset name value l → Given11 σ l name value x y z (.ret (.tuple [.agg [x9, y, z], .int .i64 0])) ((s.put σ.next (some (.cells [x9, y, z]))).put (σ.next + 1) (some (.cells [x9, y, z]))) := by
      intro x9 k s hM hk
      unfold Given11
      rw [hE, ← hk]
      refine ⟨x9, rfl, hM.sc, ?_, fun i hi => ?_, ?_, fun i hi => ?_, .inr fun jv t n e => ?_⟩
      · rcases hM.at' with ⟨h1, h2⟩ | ⟨jv, t, e, o1, o2, o3⟩
        · exact .inl ⟨h1, h2⟩
        · obtain ⟨f1, f2⟩ := hM.far _ _ _ e
          refine .inr ⟨jv, t, e, ?_⟩
          rw [put_obj, if_neg (by omega), put_obj, if_neg (by omega)]; exact o1
      · have h1 : s.next ≤ i := hi
        have h2 := hM.le
        rw [put_obj, if_neg (by omega), put_obj, if_neg (by omega)]; exact hM.fresh i h1
      · have h2 := hM.le
        show σ.next ≤ s.next; omega
      · rw [put_obj, if_neg (by omega), put_obj, if_neg (by omega), hM.low _ (by omega)]; exact qlow i hi
      · have := (hM.far _ _ _ e).1; omega
    simp -dsimp (maxSteps := 2000000) (disch := first | omega | (simp; done) | (simp; omega)) only [SA, SB, SC, SD, SE, SF, SG, SI, Nat.reduceLT, Nat.reduceAdd, Nat.reduceSub, Nat.reduceMul, Nat.reduceLeDiff, Nat.reduceEqDiff, Nat.reduceBEq, Int.reduceToNat, Int.reduceLE, Int.reduceLT, Int.reduceEq, Int.reduceNeg, reduceCtorEq, ↓reduceIte, List.replicate_succ, List.replicate_zero]
    by_cases hil : i < l.length
    · obtain ⟨j, a1, a2, a3⟩ := (rx hM).at3 hil
      have hcond : decide ((i : Int) < l.length) = true := by simp; exact hil
      rw [List.drop_eq_getElem_cons hil, rset] at hR
      cases hb1 : Op.bytesLess l[i].1 name <;> cases hb2 : (l[i].1 == name)
      all_goals rw [hb1, hb2] at hR
      all_goals cases done
      all_goals simp only [Bool.not_false, Bool.not_true, Bool.and_true, Bool.true_and, Bool.and_false, Bool.false_and, Bool.or_true, Bool.true_or, Bool.or_false, Bool.false_or, if_true, Bool.false_eq_true, if_false, List.nil_append, List.append_nil, ← List.append_assoc] at hR hk
      · obtain ⟨x', s', e1, hM1⟩ := hM.app (by omega) name value
        obtain ⟨a4, a5⟩ := (rx hM1).ld hil a1
        have p1 := r0 hM1
        obtain ⟨x'', s'', e2, hM2⟩ := hM1.app (by simp; omega) l[i].1 l[i].2
        (repeat' (first | simp -dsimp (maxSteps := 2000000) (disch := first | omega | (simp; done) | (simp; omega)) only [SA, SB, SC, SD, SE, SF, SG, SI, Nat.reduceLT, Nat.reduceAdd, Nat.reduceSub, Nat.reduceMul, Nat.reduceLeDiff, Nat.reduceEqDiff, Nat.reduceBEq, Int.reduceToNat, Int.reduceLE, Int.reduceLT, Int.reduceEq, Int.reduceNeg, reduceCtorEq, ↓reduceIte, hcond, hlx, hso, p0, a1, a2, a3, e1, a4, a5, p1, e2, hb1, hb2] | refine Cut.go ?_ | refine Both.intro ?_ ?_ | (refine Br.intro ?_ ?_ <;> intro hb <;> have hb' := hb <;> (try simp only [SH] at hb') <;> (try simp -dsimp (maxSteps := 2000000) (disch := first | omega | (simp; done) | (simp; omega)) only [SA, SB, SC, SD, SE, SF, SG, SI, Nat.reduceLT, Nat.reduceAdd, Nat.reduceSub, Nat.reduceMul, Nat.reduceLeDiff, Nat.reduceEqDiff, Nat.reduceBEq, Int.reduceToNat, Int.reduceLE, Int.reduceLT, Int.reduceEq, Int.reduceNeg, reduceCtorEq, ↓reduceIte, hb, hcond, hlx, hso, p0, a1, a2, a3, e1, a4, a5, p1, e2, hb1, hb2]))))
        exact Round.go (i + 1, true, x'', (k ++ [(name, value)] ++ [(l[i].1, l[i].2)]), s'') (by simp only []; omega) ⟨by simp only []; omega, hM2, by simp; omega, hR⟩ (by ((try simp only [List.replicate_succ, List.replicate_zero, List.cons_append, List.nil_append]); repeat' (first | exact trivial | refine ⟨.inl rfl, ?_⟩ | refine ⟨.inr rfl, ?_⟩ | refine ⟨.inr (by simp), ?_⟩))) (Drops.refl _)
      · obtain ⟨x3, s3, e3, hM3⟩ := hM.app (by omega) l[i].1 l[i].2
        (repeat' (first | simp -dsimp (maxSteps := 2000000) (disch := first | omega | (simp; done) | (simp; omega)) only [SA, SB, SC, SD, SE, SF, SG, SI, Nat.reduceLT, Nat.reduceAdd, Nat.reduceSub, Nat.reduceMul, Nat.reduceLeDiff, Nat.reduceEqDiff, Nat.reduceBEq, Int.reduceToNat, Int.reduceLE, Int.reduceLT, Int.reduceEq, Int.reduceNeg, reduceCtorEq, ↓reduceIte, hcond, hlx, hso, p0, a1, a2, a3, e3, hb1, hb2] | refine Cut.go ?_ | refine Both.intro ?_ ?_ | (refine Br.intro ?_ ?_ <;> intro hb <;> have hb' := hb <;> (try simp only [SH] at hb') <;> (try simp -dsimp (maxSteps := 2000000) (disch := first | omega | (simp; done) | (simp; omega)) only [SA, SB, SC, SD, SE, SF, SG, SI, Nat.reduceLT, Nat.reduceAdd, Nat.reduceSub, Nat.reduceMul, Nat.reduceLeDiff, Nat.reduceEqDiff, Nat.reduceBEq, Int.reduceToNat, Int.reduceLE, Int.reduceLT, Int.reduceEq, Int.reduceNeg, reduceCtorEq, ↓reduceIte, hb, hcond, hlx, hso, p0, a1, a2, a3, e3, hb1, hb2]))))
        exact Round.go (i + 1, true, x3, (k ++ [(l[i].1, l[i].2)]), s3) (by simp only []; omega) ⟨by simp only []; omega, hM3, by simp; omega, hR⟩ (by ((try simp only [List.replicate_succ, List.replicate_zero, List.cons_append, List.nil_append]); repeat' (first | exact trivial | refine ⟨.inl rfl, ?_⟩ | refine ⟨.inr rfl, ?_⟩ | refine ⟨.inr (by simp), ?_⟩))) (Drops.refl _)
      · obtain ⟨x', s', e1, hM1⟩ := hM.app (by omega) name value
        obtain ⟨a4, a5⟩ := (rx hM1).ld hil a1
        have p1 := r0 hM1
        (repeat' (first | simp -dsimp (maxSteps := 2000000) (disch := first | omega | (simp; done) | (simp; omega)) only [SA, SB, SC, SD, SE, SF, SG, SI, Nat.reduceLT, Nat.reduceAdd, Nat.reduceSub, Nat.reduceMul, Nat.reduceLeDiff, Nat.reduceEqDiff, Nat.reduceBEq, Int.reduceToNat, Int.reduceLE, Int.reduceLT, Int.reduceEq, Int.reduceNeg, reduceCtorEq, ↓reduceIte, hcond, hlx, hso, p0, a1, a2, a3, e1, a4, a5, p1, hb1, hb2] | refine Cut.go ?_ | refine Both.intro ?_ ?_ | (refine Br.intro ?_ ?_ <;> intro hb <;> have hb' := hb <;> (try simp only [SH] at hb') <;> (try simp -dsimp (maxSteps := 2000000) (disch := first | omega | (simp; done) | (simp; omega)) only [SA, SB, SC, SD, SE, SF, SG, SI, Nat.reduceLT, Nat.reduceAdd, Nat.reduceSub, Nat.reduceMul, Nat.reduceLeDiff, Nat.reduceEqDiff, Nat.reduceBEq, Int.reduceToNat, Int.reduceLE, Int.reduceLT, Int.reduceEq, Int.reduceNeg, reduceCtorEq, ↓reduceIte, hb, hcond, hlx, hso, p0, a1, a2, a3, e1, a4, a5, p1, hb1, hb2]))))
        exact Round.go (i + 1, true, x', (k ++ [(name, value)]), s') (by simp only []; omega) ⟨by simp only []; omega, hM1, by simp; omega, hR⟩ (by ((try simp only [List.replicate_succ, List.replicate_zero, List.cons_append, List.nil_append]); repeat' (first | exact trivial | refine ⟨.inl rfl, ?_⟩ | refine ⟨.inr rfl, ?_⟩ | refine ⟨.inr (by simp), ?_⟩))) (Drops.refl _)
      · (repeat' (first | simp -dsimp (maxSteps := 2000000) (disch := first | omega | (simp; done) | (simp; omega)) only [SA, SB, SC, SD, SE, SF, SG, SI, Nat.reduceLT, Nat.reduceAdd, Nat.reduceSub, Nat.reduceMul, Nat.reduceLeDiff, Nat.reduceEqDiff, Nat.reduceBEq, Int.reduceToNat, Int.reduceLE, Int.reduceLT, Int.reduceEq, Int.reduceNeg, reduceCtorEq, ↓reduceIte, hcond, hlx, hso, p0, a1, a2, a3, hb1, hb2] | refine Cut.go ?_ | refine Both.intro ?_ ?_ | (refine Br.intro ?_ ?_ <;> intro hb <;> have hb' := hb <;> (try simp only [SH] at hb') <;> (try simp -dsimp (maxSteps := 2000000) (disch := first | omega | (simp; done) | (simp; omega)) only [SA, SB, SC, SD, SE, SF, SG, SI, Nat.reduceLT, Nat.reduceAdd, Nat.reduceSub, Nat.reduceMul, Nat.reduceLeDiff, Nat.reduceEqDiff, Nat.reduceBEq, Int.reduceToNat, Int.reduceLE, Int.reduceLT, Int.reduceEq, Int.reduceNeg, reduceCtorEq, ↓reduceIte, hb, hcond, hlx, hso, p0, a1, a2, a3, hb1, hb2]))))
        exact Round.go (i + 1, true, x9, k, s) (by simp only []; omega) ⟨by simp only []; omega, hM, by simp; omega, hR⟩ (by ((try simp only [List.replicate_succ, List.replicate_zero, List.cons_append, List.nil_append]); repeat' (first | exact trivial | refine ⟨.inl rfl, ?_⟩ | refine ⟨.inr rfl, ?_⟩ | refine ⟨.inr (by simp), ?_⟩))) (Drops.refl _)
      · obtain ⟨x3, s3, e3, hM3⟩ := hM.app (by omega) l[i].1 l[i].2
        (repeat' (first | simp -dsimp (maxSteps := 2000000) (disch := first | omega | (simp; done) | (simp; omega)) only [SA, SB, SC, SD, SE, SF, SG, SI, Nat.reduceLT, Nat.reduceAdd, Nat.reduceSub, Nat.reduceMul, Nat.reduceLeDiff, Nat.reduceEqDiff, Nat.reduceBEq, Int.reduceToNat, Int.reduceLE, Int.reduceLT, Int.reduceEq, Int.reduceNeg, reduceCtorEq, ↓reduceIte, hcond, hlx, hso, p0, a1, a2, a3, e3, hb1, hb2] | refine Cut.go ?_ | refine Both.intro ?_ ?_ | (refine Br.intro ?_ ?_ <;> intro hb <;> have hb' := hb <;> (try simp only [SH] at hb') <;> (try simp -dsimp (maxSteps := 2000000) (disch := first | omega | (simp; done) | (simp; omega)) only [SA, SB, SC, SD, SE, SF, SG, SI, Nat.reduceLT, Nat.reduceAdd, Nat.reduceSub, Nat.reduceMul, Nat.reduceLeDiff, Nat.reduceEqDiff, Nat.reduceBEq, Int.reduceToNat, Int.reduceLE, Int.reduceLT, Int.reduceEq, Int.reduceNeg, reduceCtorEq, ↓reduceIte, hb, hcond, hlx, hso, p0, a1, a2, a3, e3, hb1, hb2]))))
        exact Round.go (i + 1, false, x3, (k ++ [(l[i].1, l[i].2)]), s3) (by simp only []; omega) ⟨by simp only []; omega, hM3, by simp; omega, hR⟩ (by ((try simp only [List.replicate_succ, List.replicate_zero, List.cons_append, List.nil_append]); repeat' (first | exact trivial | refine ⟨.inl rfl, ?_⟩ | refine ⟨.inr rfl, ?_⟩ | refine ⟨.inr (by simp), ?_⟩))) (Drops.refl _)
      · obtain ⟨x3, s3, e3, hM3⟩ := hM.app (by omega) l[i].1 l[i].2
        (repeat' (first | simp -dsimp (maxSteps := 2000000) (disch := first | omega | (simp; done) | (simp; omega)) only [SA, SB, SC, SD, SE, SF, SG, SI, Nat.reduceLT, Nat.reduceAdd, Nat.reduceSub, Nat.reduceMul, Nat.reduceLeDiff, Nat.reduceEqDiff, Nat.reduceBEq, Int.reduceToNat, Int.reduceLE, Int.reduceLT, Int.reduceEq, Int.reduceNeg, reduceCtorEq, ↓reduceIte, hcond, hlx, hso, p0, a1, a2, a3, e3, hb1, hb2] | refine Cut.go ?_ | refine Both.intro ?_ ?_ | (refine Br.intro ?_ ?_ <;> intro hb <;> have hb' := hb <;> (try simp only [SH] at hb') <;> (try simp -dsimp (maxSteps := 2000000) (disch := first | omega | (simp; done) | (simp; omega)) only [SA, SB, SC, SD, SE, SF, SG, SI, Nat.reduceLT, Nat.reduceAdd, Nat.reduceSub, Nat.reduceMul, Nat.reduceLeDiff, Nat.reduceEqDiff, Nat.reduceBEq, Int.reduceToNat, Int.reduceLE, Int.reduceLT, Int.reduceEq, Int.reduceNeg, reduceCtorEq, ↓reduceIte, hb, hcond, hlx, hso, p0, a1, a2, a3, e3, hb1, hb2]))))
        exact Round.go (i + 1, true, x3, (k ++ [(l[i].1, l[i].2)]), s3) (by simp only []; omega) ⟨by simp only []; omega, hM3, by simp; omega, hR⟩ (by ((try simp only [List.replicate_succ, List.replicate_zero, List.cons_append, List.nil_append]); repeat' (first | exact trivial | refine ⟨.inl rfl, ?_⟩ | refine ⟨.inr rfl, ?_⟩ | refine ⟨.inr (by simp), ?_⟩))) (Drops.refl _)
      · (repeat' (first | simp -dsimp (maxSteps := 2000000) (disch := first | omega | (simp; done) | (simp; omega)) only [SA, SB, SC, SD, SE, SF, SG, SI, Nat.reduceLT, Nat.reduceAdd, Nat.reduceSub, Nat.reduceMul, Nat.reduceLeDiff, Nat.reduceEqDiff, Nat.reduceBEq, Int.reduceToNat, Int.reduceLE, Int.reduceLT, Int.reduceEq, Int.reduceNeg, reduceCtorEq, ↓reduceIte, hcond, hlx, hso, p0, a1, a2, a3, hb1, hb2] | refine Cut.go ?_ | refine Both.intro ?_ ?_ | (refine Br.intro ?_ ?_ <;> intro hb <;> have hb' := hb <;> (try simp only [SH] at hb') <;> (try simp -dsimp (maxSteps := 2000000) (disch := first | omega | (simp; done) | (simp; omega)) only [SA, SB, SC, SD, SE, SF, SG, SI, Nat.reduceLT, Nat.reduceAdd, Nat.reduceSub, Nat.reduceMul, Nat.reduceLeDiff, Nat.reduceEqDiff, Nat.reduceBEq, Int.reduceToNat, Int.reduceLE, Int.reduceLT, Int.reduceEq, Int.reduceNeg, reduceCtorEq, ↓reduceIte, hb, hcond, hlx, hso, p0, a1, a2, a3, hb1, hb2]))))
        exact Round.go (i + 1, false, x9, k, s) (by simp only []; omega) ⟨by simp only []; omega, hM, by simp; omega, hR⟩ (by ((try simp only [List.replicate_succ, List.replicate_zero, List.cons_append, List.nil_append]); repeat' (first | exact trivial | refine ⟨.inl rfl, ?_⟩ | refine ⟨.inr rfl, ?_⟩ | refine ⟨.inr (by simp), ?_⟩))) (Drops.refl _)
      · (repeat' (first | simp -dsimp (maxSteps := 2000000) (disch := first | omega | (simp; done) | (simp; omega)) only [SA, SB, SC, SD, SE, SF, SG, SI, Nat.reduceLT, Nat.reduceAdd, Nat.reduceSub, Nat.reduceMul, Nat.reduceLeDiff, Nat.reduceEqDiff, Nat.reduceBEq, Int.reduceToNat, Int.reduceLE, Int.reduceLT, Int.reduceEq, Int.reduceNeg, reduceCtorEq, ↓reduceIte, hcond, hlx, hso, p0, a1, a2, a3, hb1, hb2] | refine Cut.go ?_ | refine Both.intro ?_ ?_ | (refine Br.intro ?_ ?_ <;> intro hb <;> have hb' := hb <;> (try simp only [SH] at hb') <;> (try simp -dsimp (maxSteps := 2000000) (disch := first | omega | (simp; done) | (simp; omega)) only [SA, SB, SC, SD, SE, SF, SG, SI, Nat.reduceLT, Nat.reduceAdd, Nat.reduceSub, Nat.reduceMul, Nat.reduceLeDiff, Nat.reduceEqDiff, Nat.reduceBEq, Int.reduceToNat, Int.reduceLE, Int.reduceLT, Int.reduceEq, Int.reduceNeg, reduceCtorEq, ↓reduceIte, hb, hcond, hlx, hso, p0, a1, a2, a3, hb1, hb2]))))
        exact Round.go (i + 1, true, x9, k, s) (by simp only []; omega) ⟨by simp only []; omega, hM, by simp; omega, hR⟩ (by ((try simp only [List.replicate_succ, List.replicate_zero, List.cons_append, List.nil_append]); repeat' (first | exact trivial | refine ⟨.inl rfl, ?_⟩ | refine ⟨.inr rfl, ?_⟩ | refine ⟨.inr (by simp), ?_⟩))) (Drops.refl _)
    · have hcond : decide ((i : Int) < l.length) = false := by simp; omega
      rw [List.drop_of_length_le (by omega), rset] at hR
      cases done
      · obtain ⟨x', s', e1, hM1⟩ := hM.app (by simp at hk; omega) name value
        have p1 := r0 hM1
        have p2 := r1 hM1
        have dx := dcells_sc hM1.sc
        have dd : dcells (.agg [x', y, z]) = some [x', y, z] := by simp [dcells, hM1.sc, sy, sz]
        (repeat' (first | simp -dsimp (maxSteps := 2000000) (disch := first | omega | (simp; done) | (simp; omega)) only [SA, SB, SC, SD, SE, SF, SG, SI, Nat.reduceLT, Nat.reduceAdd, Nat.reduceSub, Nat.reduceMul, Nat.reduceLeDiff, Nat.reduceEqDiff, Nat.reduceBEq, Int.reduceToNat, Int.reduceLE, Int.reduceLT, Int.reduceEq, Int.reduceNeg, reduceCtorEq, ↓reduceIte, hcond, hlx, hso, p0, e1, p1, p2, sy, sz, hM1.sc, dx, dd, w1] | refine Cut.go ?_ | refine Both.intro ?_ ?_ | (refine Br.intro ?_ ?_ <;> intro hb <;> have hb' := hb <;> (try simp only [SH] at hb') <;> (try simp -dsimp (maxSteps := 2000000) (disch := first | omega | (simp; done) | (simp; omega)) only [SA, SB, SC, SD, SE, SF, SG, SI, Nat.reduceLT, Nat.reduceAdd, Nat.reduceSub, Nat.reduceMul, Nat.reduceLeDiff, Nat.reduceEqDiff, Nat.reduceBEq, Int.reduceToNat, Int.reduceLE, Int.reduceLT, Int.reduceEq, Int.reduceNeg, reduceCtorEq, ↓reduceIte, hb, hcond, hlx, hso, p0, e1, p1, p2, sy, sz, hM1.sc, dx, dd, w1]))))
        exact hend hM1 (by simpa using hR)
      · have p2 := r1 hM
        have dx := dcells_sc hM.sc
        have dd : dcells (.agg [x9, y, z]) = some [x9, y, z] := by simp [dcells, hM.sc, sy, sz]
        (repeat' (first | simp -dsimp (maxSteps := 2000000) (disch := first | omega | (simp; done) | (simp; omega)) only [SA, SB, SC, SD, SE, SF, SG, SI, Nat.reduceLT, Nat.reduceAdd, Nat.reduceSub, Nat.reduceMul, Nat.reduceLeDiff, Nat.reduceEqDiff, Nat.reduceBEq, Int.reduceToNat, Int.reduceLE, Int.reduceLT, Int.reduceEq, Int.reduceNeg, reduceCtorEq, ↓reduceIte, hcond, hlx, hso, p0, p2, sy, sz, hM.sc, dx, dd, w1] | refine Cut.go ?_ | refine Both.intro ?_ ?_ | (refine Br.intro ?_ ?_ <;> intro hb <;> have hb' := hb <;> (try simp only [SH] at hb') <;> (try simp -dsimp (maxSteps := 2000000) (disch := first | omega | (simp; done) | (simp; omega)) only [SA, SB, SC, SD, SE, SF, SG, SI, Nat.reduceLT, Nat.reduceAdd, Nat.reduceSub, Nat.reduceMul, Nat.reduceLeDiff, Nat.reduceEqDiff, Nat.reduceBEq, Int.reduceToNat, Int.reduceLE, Int.reduceLT, Int.reduceEq, Int.reduceNeg, reduceCtorEq, ↓reduceIte, hb, hcond, hlx, hso, p0, p2, sy, sz, hM.sc, dx, dd, w1]))))
        exact hend hM (by simpa using hR)
end Go.Proofs.YthiidchbaicfgaaGreatDoor
