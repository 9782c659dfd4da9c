/-
  THE WALKS, layer 13, PART 9: the document's table is given variables.
-/
import Derived.Test.YthiidchbaicfgaaGreatDoorZ8
namespace Go.Proofs.YthiidchbaicfgaaGreatDoor
open Go Go.Id
set_option linter.unusedSimpArgs false
set_option linter.unusedVariables false
set_option maxRecDepth 100000
set_option maxHeartbeats 4000000

theorem two_obj (σ : St) (a b : Ob) (i : Nat) : ((σ.alloc a).alloc b).obj i = if i = σ.next + 1 then some b else if i = σ.next then some a else σ.obj i := rfl
theorem dcells_sc {x : D} (h : scal x = true) : dcells x = some [x] := by cases x <;> first | rfl | (simp [scal] at h)
theorem VarsAt.ld {s : St} {x : D} {l : List (List UInt8 × List UInt8)} (h : VarsAt s x l) {i j : Nat} (hi : i < l.length) (e : idxAddrS 2 x (.int .i64 i) = some (.ref j (2 * i))) :
    iload (some 2) (.ref j (2 * i)) s = some (.agg [.str (l[i]).1, .str (l[i]).2]) ∧ iload none (.ref j (2 * i)) s = some (.str (l[i]).1) := by
  obtain ⟨j', e', h1, h2⟩ := h.at3 hi
  rw [e] at e'
  cases e'
  exact ⟨h1, h2⟩
/-- What 'Set' of the document tells. -/
def Given (σ : St) (n : Nat) (o : Out) (s : St) : Prop := ∃ x y z e k, o = .ret (.tuple [.agg [x, y, z], .int .i64 e]) ∧ scal x = true ∧ scal y = true ∧ scal z = true ∧ k.length ≤ n ∧ VarsAt s x k ∧ s.Fresh ∧ σ.next ≤ s.next ∧ ∀ i, i < σ.next → s.obj i = σ.obj i
theorem set11 {x y z : D} {l : List (List UInt8 × List UInt8)} (hl : l.length ≤ 1100) (sx : scal x = true) (sy : scal y = true) (sz : scal z = true) (name value : List UInt8) (σ : St) (hx : VarsAt σ x l) :
    Ok Tryz.prog 11 [.agg [x, y, z], .str name, .str value] σ (Given σ (l.length + 1)) := by
  refine Ok.fresh fun hf => ?_
  have hlx := hx.len
  have hd : dcells (.agg [x, y, z]) = some [x, y, z] := by simp [dcells, sx, sy, sz]
  have hso : scalO (some x) = some x := by simp [scalO, sx]
  apply en11
  simp -dsimp (maxSteps := 2000000) (disch := first | omega | (simp; done) | (simp; omega)) only [SA, SB, SC, SD, SE, SF, SG, SI, Nat.reduceLT, Nat.reduceAdd, Nat.reduceSub, Nat.reduceMul, Nat.reduceLeDiff, Nat.reduceEqDiff, Nat.reduceBEq, Int.reduceToNat, Int.reduceLE, Int.reduceLT, Int.reduceEq, Int.reduceNeg, reduceCtorEq, ↓reduceIte, ic11, List.replicate_succ, List.replicate_zero]
  (repeat' (first | simp -dsimp (maxSteps := 2000000) (disch := first | omega | (simp; done) | (simp; omega)) only [SA, SB, SC, SD, SE, SF, SG, SI, Nat.reduceLT, Nat.reduceAdd, Nat.reduceSub, Nat.reduceMul, Nat.reduceLeDiff, Nat.reduceEqDiff, Nat.reduceBEq, Int.reduceToNat, Int.reduceLE, Int.reduceLT, Int.reduceEq, Int.reduceNeg, reduceCtorEq, ↓reduceIte, hd] | refine Cut.go ?_ | refine Both.intro ?_ ?_ | (refine Br.intro ?_ ?_ <;> intro hb <;> have hb' := hb <;> (try simp only [SH] at hb') <;> (try simp -dsimp (maxSteps := 2000000) (disch := first | omega | (simp; done) | (simp; omega)) only [SA, SB, SC, SD, SE, SF, SG, SI, Nat.reduceLT, Nat.reduceAdd, Nat.reduceSub, Nat.reduceMul, Nat.reduceLeDiff, Nat.reduceEqDiff, Nat.reduceBEq, Int.reduceToNat, Int.reduceLE, Int.reduceLT, Int.reduceEq, Int.reduceNeg, reduceCtorEq, ↓reduceIte, hb, hd]))))
  have m0 : Mine (σ.next + 2) ((σ.alloc (.cells [x, y, z])).alloc (.cells [.nils, .nils, .int .i64 0])) .nils [] ((σ.alloc (.cells [x, y, z])).alloc (.cells [.nils, .nils, .int .i64 0])) := by
    refine ⟨fun _ _ => rfl, Nat.le_refl _, fun i hi => ?_, .inl ⟨rfl, rfl⟩, fun _ _ _ e => (nomatch e), rfl⟩
    have : σ.next + 2 ≤ i := hi
    rw [two_obj, if_neg (by omega), if_neg (by omega)]; exact hf i (by omega)
  have q0 : ((σ.alloc (.cells [x, y, z])).alloc (.cells [.nils, .nils, .int .i64 0])).obj σ.next = some (.cells [x, y, z]) := by rw [two_obj, if_neg (by omega), if_pos rfl]
  have q1 : ((σ.alloc (.cells [x, y, z])).alloc (.cells [.nils, .nils, .int .i64 0])).obj (σ.next + 1) = some (.cells [.nils, .nils, .int .i64 0]) := by rw [two_obj, if_pos rfl]
  have qx : VarsAt ((σ.alloc (.cells [x, y, z])).alloc (.cells [.nils, .nils, .int .i64 0])) x l := hx.low hf fun i hi => by rw [two_obj, if_neg (by omega), if_neg (by omega)]
  have qlow : ∀ i, i < σ.next → ((σ.alloc (.cells [x, y, z])).alloc (.cells [.nils, .nils, .int .i64 0])).obj i = σ.obj i := fun i hi => by rw [two_obj, if_neg (by omega), if_neg (by omega)]
  have qn : ((σ.alloc (.cells [x, y, z])).alloc (.cells [.nils, .nils, .int .i64 0])).next = σ.next + 2 := rfl
  generalize ((σ.alloc (.cells [x, y, z])).alloc (.cells [.nils, .nils, .int .i64 0])) = S at *
  have ql : iload (some 3) (.ref σ.next 0) S = some (.agg [x, y, z]) := by simp [iload, q0, cellsAt, sx, sy, sz]
  /- what is told at the ends where nothing was changed -/
  have hfin : ∀ (m : Nat) (e : Int), S.next ≤ m → Given σ (l.length + 1) (.ret (.tuple [.agg [x, y, z], .int .i64 e])) (({ obj := S.obj, next := m } : St).put (σ.next + 1) (some (.cells [x, y, z]))) := by
    intro m e hm
    refine ⟨x, y, z, e, l, rfl, sx, sy, sz, by omega, ?_, fun i hi => ?_, ?_, fun i hi => ?_⟩
    · refine hx.low hf fun i hi => ?_
      rw [put_obj, if_neg (by omega)]; exact qlow i hi
    · have : m ≤ i := hi
      rw [put_obj, if_neg (by omega)]; exact m0.fresh i (by omega)
    · show σ.next ≤ m; omega
    · rw [put_obj, if_neg (by omega)]; exact qlow i hi
  refine Says.call (name8 _) gd8 fun b => ?_
  cases b
  · (repeat' (first | simp -dsimp (maxSteps := 2000000) (disch := first | omega | (simp; done) | (simp; omega)) only [SA, SB, SC, SD, SE, SF, SG, SI, Nat.reduceLT, Nat.reduceAdd, Nat.reduceSub, Nat.reduceMul, Nat.reduceLeDiff, Nat.reduceEqDiff, Nat.reduceBEq, Int.reduceToNat, Int.reduceLE, Int.reduceLT, Int.reduceEq, Int.reduceNeg, reduceCtorEq, ↓reduceIte, hd, q0, q1, ql] | refine Cut.go ?_ | refine Both.intro ?_ ?_ | (refine Br.intro ?_ ?_ <;> intro hb <;> have hb' := hb <;> (try simp only [SH] at hb') <;> (try simp -dsimp (maxSteps := 2000000) (disch := first | omega | (simp; done) | (simp; omega)) only [SA, SB, SC, SD, SE, SF, SG, SI, Nat.reduceLT, Nat.reduceAdd, Nat.reduceSub, Nat.reduceMul, Nat.reduceLeDiff, Nat.reduceEqDiff, Nat.reduceBEq, Int.reduceToNat, Int.reduceLE, Int.reduceLT, Int.reduceEq, Int.reduceNeg, reduceCtorEq, ↓reduceIte, hb, hd, q0, q1, ql]))))
    have := hfin S.next 70 (Nat.le_refl _)
    exact this
  (repeat' (first | simp -dsimp (maxSteps := 2000000) (disch := first | omega | (simp; done) | (simp; omega)) only [SA, SB, SC, SD, SE, SF, SG, SI, Nat.reduceLT, Nat.reduceAdd, Nat.reduceSub, Nat.reduceMul, Nat.reduceLeDiff, Nat.reduceEqDiff, Nat.reduceBEq, Int.reduceToNat, Int.reduceLE, Int.reduceLT, Int.reduceEq, Int.reduceNeg, reduceCtorEq, ↓reduceIte, hd, q0, q1, ql] | refine Cut.go ?_ | refine Both.intro ?_ ?_ | (refine Br.intro ?_ ?_ <;> intro hb <;> have hb' := hb <;> (try simp only [SH] at hb') <;> (try simp -dsimp (maxSteps := 2000000) (disch := first | omega | (simp; done) | (simp; omega)) only [SA, SB, SC, SD, SE, SF, SG, SI, Nat.reduceLT, Nat.reduceAdd, Nat.reduceSub, Nat.reduceMul, Nat.reduceLeDiff, Nat.reduceEqDiff, Nat.reduceBEq, Int.reduceToNat, Int.reduceLE, Int.reduceLT, Int.reduceEq, Int.reduceNeg, reduceCtorEq, ↓reduceIte, hb, hd, q0, q1, ql]))))
  refine ⟨gd26, (place26 hl sx sy sz name S qx).mono fun o s' h => ?_⟩
  obtain ⟨⟨m, hm, rfl⟩, p, rfl⟩ := h
  have mm : Mine (σ.next + 2) S .nils [] ⟨S.obj, m⟩ := ⟨fun _ _ => rfl, by show σ.next + 2 ≤ m; omega, fun i hi => m0.fresh i (by have : m ≤ i := hi; omega), .inl ⟨rfl, rfl⟩, fun _ _ _ e => (nomatch e), rfl⟩
  (repeat' (first | simp -dsimp (maxSteps := 2000000) (disch := first | omega | (simp; done) | (simp; omega)) only [SA, SB, SC, SD, SE, SF, SG, SI, Nat.reduceLT, Nat.reduceAdd, Nat.reduceSub, Nat.reduceMul, Nat.reduceLeDiff, Nat.reduceEqDiff, Nat.reduceBEq, Int.reduceToNat, Int.reduceLE, Int.reduceLT, Int.reduceEq, Int.reduceNeg, reduceCtorEq, ↓reduceIte, hd, q0, q1, ql, hso, hlx] | refine Cut.go ?_ | refine Both.intro ?_ ?_ | (refine Br.intro ?_ ?_ <;> intro hb <;> have hb' := hb <;> (try simp only [SH] at hb') <;> (try simp -dsimp (maxSteps := 2000000) (disch := first | omega | (simp; done) | (simp; omega)) only [SA, SB, SC, SD, SE, SF, SG, SI, Nat.reduceLT, Nat.reduceAdd, Nat.reduceSub, Nat.reduceMul, Nat.reduceLeDiff, Nat.reduceEqDiff, Nat.reduceBEq, Int.reduceToNat, Int.reduceLE, Int.reduceLT, Int.reduceEq, Int.reduceNeg, reduceCtorEq, ↓reduceIte, hb, hd, q0, q1, ql, hso, hlx]))))
  all_goals try exact hfin m 2 hm
  all_goals refine loop_go (α := Nat × Bool × D × List (List UInt8 × List UInt8) × St) (fun a => [.agg [x, y, z], .str name, .str value, .ref σ.next 0, .junk, .junk, .ref (σ.next + 1) 0, .int .i64 0, .int .i64 p, a.2.2.1, .bool a.2.1, .int .i64 a.1] ++ List.replicate 73 .junk) (fun a => a.2.2.2.2) (fun a => l.length - a.1) (fun a => a.1 ≤ l.length ∧ Mine (σ.next + 2) S a.2.2.1 a.2.2.2.1 a.2.2.2.2 ∧ a.2.2.2.1.length ≤ a.1 + (if a.2.1 then 1 else 0)) (0, false, .nils, [], ⟨S.obj, m⟩) ⟨Nat.zero_le _, mm, by simp⟩ (by ((try simp only [List.replicate_succ, List.replicate_zero, List.cons_append, List.nil_append]); repeat' (first | exact trivial | refine ⟨.inl rfl, ?_⟩ | refine ⟨.inr rfl, ?_⟩ | refine ⟨.inr (by simp), ?_⟩))) (Drops.refl _) ?_
  all_goals
    rintro ⟨i, done, x9, k, s⟩ ⟨h1, hM, hk⟩
    simp only [] at h1 hM hk ⊢
    have r0 : ∀ {x9 k s}, Mine (σ.next + 2) S x9 k s → s.obj σ.next = some (.cells [x, y, z]) := fun hM => by rw [hM.low _ (by omega)]; exact q0
    have r1 : ∀ {x9 k s}, Mine (σ.next + 2) S x9 k s → s.obj (σ.next + 1) = some (.cells [.nils, .nils, .int .i64 0]) := fun hM => by rw [hM.low _ (by omega)]; exact q1
    have rx : ∀ {x9 k s}, Mine (σ.next + 2) S x9 k s → VarsAt s x l := fun hM => hx.low hf fun i hi => by rw [hM.low _ (by omega)]; exact qlow i hi
    have p0 := r0 hM
    have w1 : (σ.next + 1 = σ.next) = False := by simp
    have hend : ∀ {x9 k s}, Mine (σ.next + 2) S x9 k s → k.length ≤ l.length + 1 → Given σ (l.length + 1) (.ret (.tuple [.agg [x9, y, z], .int .i64 0])) ((s.put σ.next (some (.cells [x9, y, z]))).put (σ.next + 1) (some (.cells [x9, y, z]))) := by
      intro x9 k s hM hk
      refine ⟨x9, y, z, 0, k, rfl, hM.sc, sy, sz, hk, ?_, fun i hi => ?_, ?_, fun i hi => ?_⟩
      · rcases hM.at' with ⟨h1, h2⟩ | ⟨jv, t, e, o1, o2, o3⟩
        · exact .inl ⟨h1, h2⟩
        · obtain ⟨f1, f2⟩ := hM.far _ _ _ e
          refine .inr ⟨jv, t, e, ?_, ?_, ?_⟩
          · rw [put_obj, if_neg (by omega), put_obj, if_neg (by omega)]; exact o1
          · rw [put_obj, if_neg (by omega), put_obj, if_neg (by omega)]; exact o2
          · rw [put_obj, if_neg (by omega), put_obj, if_neg (by omega)]; exact o3
      · have h1 : s.next ≤ i := hi
        have h2 := hM.le
        rw [put_obj, if_neg (by omega), put_obj, if_neg (by omega)]; exact hM.fresh i h1
      · have h2 := hM.le
        show σ.next ≤ s.next; omega
      · rw [put_obj, if_neg (by omega), put_obj, if_neg (by omega), hM.low _ (by omega)]; exact qlow i hi
    simp -dsimp (maxSteps := 2000000) (disch := first | omega | (simp; done) | (simp; omega)) only [SA, SB, SC, SD, SE, SF, SG, SI, Nat.reduceLT, Nat.reduceAdd, Nat.reduceSub, Nat.reduceMul, Nat.reduceLeDiff, Nat.reduceEqDiff, Nat.reduceBEq, Int.reduceToNat, Int.reduceLE, Int.reduceLT, Int.reduceEq, Int.reduceNeg, reduceCtorEq, ↓reduceIte, List.replicate_succ, List.replicate_zero]
    by_cases hil : i < l.length
    · obtain ⟨j, a1, a2, a3⟩ := (rx hM).at3 hil
      have hcond : decide ((i : Int) < l.length) = true := by simp; exact hil
      cases done
      · obtain ⟨x', s', e1, hM1⟩ := hM.app (by simp at hk; omega) name value
        obtain ⟨a4, a5⟩ := (rx hM1).ld hil a1
        have p1 := r0 hM1
        obtain ⟨x'', s'', e2, hM2⟩ := hM1.app (by simp at hk ⊢; omega) l[i].1 l[i].2
        obtain ⟨x3, s3, e3, hM3⟩ := hM.app (by simp at hk; omega) l[i].1 l[i].2
        (repeat' (first | simp -dsimp (maxSteps := 2000000) (disch := first | omega | (simp; done) | (simp; omega)) only [SA, SB, SC, SD, SE, SF, SG, SI, Nat.reduceLT, Nat.reduceAdd, Nat.reduceSub, Nat.reduceMul, Nat.reduceLeDiff, Nat.reduceEqDiff, Nat.reduceBEq, Int.reduceToNat, Int.reduceLE, Int.reduceLT, Int.reduceEq, Int.reduceNeg, reduceCtorEq, ↓reduceIte, hcond, hlx, hso, p0, a1, a2, a3, e1, a4, a5, p1, e2, e3] | refine Cut.go ?_ | refine Both.intro ?_ ?_ | (refine Br.intro ?_ ?_ <;> intro hb <;> have hb' := hb <;> (try simp only [SH] at hb') <;> (try simp -dsimp (maxSteps := 2000000) (disch := first | omega | (simp; done) | (simp; omega)) only [SA, SB, SC, SD, SE, SF, SG, SI, Nat.reduceLT, Nat.reduceAdd, Nat.reduceSub, Nat.reduceMul, Nat.reduceLeDiff, Nat.reduceEqDiff, Nat.reduceBEq, Int.reduceToNat, Int.reduceLE, Int.reduceLT, Int.reduceEq, Int.reduceNeg, reduceCtorEq, ↓reduceIte, hb, hcond, hlx, hso, p0, a1, a2, a3, e1, a4, a5, p1, e2, e3]))))
        · exact Round.go (i + 1, false, x9, k, s) (by simp only []; omega) ⟨by simp only []; omega, hM, by simp at hk ⊢; omega⟩ (by ((try simp only [List.replicate_succ, List.replicate_zero, List.cons_append, List.nil_append]); repeat' (first | exact trivial | refine ⟨.inl rfl, ?_⟩ | refine ⟨.inr rfl, ?_⟩ | refine ⟨.inr (by simp), ?_⟩))) (Drops.refl _)
        · exact Round.go (i + 1, false, x3, (k ++ [(l[i].1, l[i].2)]), s3) (by simp only []; omega) ⟨by simp only []; omega, hM3, by simp at hk ⊢; omega⟩ (by ((try simp only [List.replicate_succ, List.replicate_zero, List.cons_append, List.nil_append]); repeat' (first | exact trivial | refine ⟨.inl rfl, ?_⟩ | refine ⟨.inr rfl, ?_⟩ | refine ⟨.inr (by simp), ?_⟩))) (Drops.refl _)
        · exact Round.go (i + 1, true, x', (k ++ [(name, value)]), s') (by simp only []; omega) ⟨by simp only []; omega, hM1, by simp at hk ⊢; omega⟩ (by ((try simp only [List.replicate_succ, List.replicate_zero, List.cons_append, List.nil_append]); repeat' (first | exact trivial | refine ⟨.inl rfl, ?_⟩ | refine ⟨.inr rfl, ?_⟩ | refine ⟨.inr (by simp), ?_⟩))) (Drops.refl _)
        · exact Round.go (i + 1, true, x'', (k ++ [(name, value)] ++ [(l[i].1, l[i].2)]), s'') (by simp only []; omega) ⟨by simp only []; omega, hM2, by simp at hk ⊢; omega⟩ (by ((try simp only [List.replicate_succ, List.replicate_zero, List.cons_append, List.nil_append]); repeat' (first | exact trivial | refine ⟨.inl rfl, ?_⟩ | refine ⟨.inr rfl, ?_⟩ | refine ⟨.inr (by simp), ?_⟩))) (Drops.refl _)
      · obtain ⟨x3, s3, e3, hM3⟩ := hM.app (by simp at hk; omega) l[i].1 l[i].2
        (repeat' (first | simp -dsimp (maxSteps := 2000000) (disch := first | omega | (simp; done) | (simp; omega)) only [SA, SB, SC, SD, SE, SF, SG, SI, Nat.reduceLT, Nat.reduceAdd, Nat.reduceSub, Nat.reduceMul, Nat.reduceLeDiff, Nat.reduceEqDiff, Nat.reduceBEq, Int.reduceToNat, Int.reduceLE, Int.reduceLT, Int.reduceEq, Int.reduceNeg, reduceCtorEq, ↓reduceIte, hcond, hlx, hso, p0, a1, a2, a3, e3] | refine Cut.go ?_ | refine Both.intro ?_ ?_ | (refine Br.intro ?_ ?_ <;> intro hb <;> have hb' := hb <;> (try simp only [SH] at hb') <;> (try simp -dsimp (maxSteps := 2000000) (disch := first | omega | (simp; done) | (simp; omega)) only [SA, SB, SC, SD, SE, SF, SG, SI, Nat.reduceLT, Nat.reduceAdd, Nat.reduceSub, Nat.reduceMul, Nat.reduceLeDiff, Nat.reduceEqDiff, Nat.reduceBEq, Int.reduceToNat, Int.reduceLE, Int.reduceLT, Int.reduceEq, Int.reduceNeg, reduceCtorEq, ↓reduceIte, hb, hcond, hlx, hso, p0, a1, a2, a3, e3]))))
        · exact Round.go (i + 1, true, x9, k, s) (by simp only []; omega) ⟨by simp only []; omega, hM, by simp at hk ⊢; omega⟩ (by ((try simp only [List.replicate_succ, List.replicate_zero, List.cons_append, List.nil_append]); repeat' (first | exact trivial | refine ⟨.inl rfl, ?_⟩ | refine ⟨.inr rfl, ?_⟩ | refine ⟨.inr (by simp), ?_⟩))) (Drops.refl _)
        · exact Round.go (i + 1, true, x3, (k ++ [(l[i].1, l[i].2)]), s3) (by simp only []; omega) ⟨by simp only []; omega, hM3, by simp at hk ⊢; omega⟩ (by ((try simp only [List.replicate_succ, List.replicate_zero, List.cons_append, List.nil_append]); repeat' (first | exact trivial | refine ⟨.inl rfl, ?_⟩ | refine ⟨.inr rfl, ?_⟩ | refine ⟨.inr (by simp), ?_⟩))) (Drops.refl _)
    · have hcond : decide ((i : Int) < l.length) = false := by simp; omega
      cases done
      · obtain ⟨x', s', e1, hM1⟩ := hM.app (by simp at hk; omega) name value
        have p1 := r0 hM1
        have p2 := r1 hM1
        have dx := dcells_sc hM1.sc
        have dd : dcells (.agg [x', y, z]) = some [x', y, z] := by simp [dcells, hM1.sc, sy, sz]
        (repeat' (first | simp -dsimp (maxSteps := 2000000) (disch := first | omega | (simp; done) | (simp; omega)) only [SA, SB, SC, SD, SE, SF, SG, SI, Nat.reduceLT, Nat.reduceAdd, Nat.reduceSub, Nat.reduceMul, Nat.reduceLeDiff, Nat.reduceEqDiff, Nat.reduceBEq, Int.reduceToNat, Int.reduceLE, Int.reduceLT, Int.reduceEq, Int.reduceNeg, reduceCtorEq, ↓reduceIte, hcond, hlx, hso, p0, e1, p1, p2, sy, sz, hM1.sc, dx, dd, w1] | refine Cut.go ?_ | refine Both.intro ?_ ?_ | (refine Br.intro ?_ ?_ <;> intro hb <;> have hb' := hb <;> (try simp only [SH] at hb') <;> (try simp -dsimp (maxSteps := 2000000) (disch := first | omega | (simp; done) | (simp; omega)) only [SA, SB, SC, SD, SE, SF, SG, SI, Nat.reduceLT, Nat.reduceAdd, Nat.reduceSub, Nat.reduceMul, Nat.reduceLeDiff, Nat.reduceEqDiff, Nat.reduceBEq, Int.reduceToNat, Int.reduceLE, Int.reduceLT, Int.reduceEq, Int.reduceNeg, reduceCtorEq, ↓reduceIte, hb, hcond, hlx, hso, p0, e1, p1, p2, sy, sz, hM1.sc, dx, dd, w1]))))
        exact hend hM1 (by simp at hk ⊢; omega)
      · have p2 := r1 hM
        have dx := dcells_sc hM.sc
        have dd : dcells (.agg [x9, y, z]) = some [x9, y, z] := by simp [dcells, hM.sc, sy, sz]
        (repeat' (first | simp -dsimp (maxSteps := 2000000) (disch := first | omega | (simp; done) | (simp; omega)) only [SA, SB, SC, SD, SE, SF, SG, SI, Nat.reduceLT, Nat.reduceAdd, Nat.reduceSub, Nat.reduceMul, Nat.reduceLeDiff, Nat.reduceEqDiff, Nat.reduceBEq, Int.reduceToNat, Int.reduceLE, Int.reduceLT, Int.reduceEq, Int.reduceNeg, reduceCtorEq, ↓reduceIte, hcond, hlx, hso, p0, p2, sy, sz, hM.sc, dx, dd, w1] | refine Cut.go ?_ | refine Both.intro ?_ ?_ | (refine Br.intro ?_ ?_ <;> intro hb <;> have hb' := hb <;> (try simp only [SH] at hb') <;> (try simp -dsimp (maxSteps := 2000000) (disch := first | omega | (simp; done) | (simp; omega)) only [SA, SB, SC, SD, SE, SF, SG, SI, Nat.reduceLT, Nat.reduceAdd, Nat.reduceSub, Nat.reduceMul, Nat.reduceLeDiff, Nat.reduceEqDiff, Nat.reduceBEq, Int.reduceToNat, Int.reduceLE, Int.reduceLT, Int.reduceEq, Int.reduceNeg, reduceCtorEq, ↓reduceIte, hb, hcond, hlx, hso, p0, p2, sy, sz, hM.sc, dx, dd, w1]))))
        exact hend hM (by simp at hk ⊢; omega)
end Go.Proofs.YthiidchbaicfgaaGreatDoor
