/-
  THE WALKS, layer 13, PART 10: both tables are made.
-/
import Derived.Test.YthiidchbaicfgaaGreatDoorZ9
namespace Go.Proofs.YthiidchbaicfgaaGreatDoor
open Go Go.Id
set_option linter.unusedSimpArgs false
set_option linter.unusedVariables false
set_option maxRecDepth 100000
set_option maxHeartbeats 4000000

theorem dcells3 {a b c : D} (sa : scal a = true) (sb : scal b = true) (sc : scal c = true) : dcells (.agg [a, b, c]) = some [a, b, c] := by simp [dcells, sa, sb, sc]
theorem VarsAt.putCells {s : St} {x a b c : D} {k : List (List UInt8 × List UInt8)} {n : Nat} {o : Option Ob} (h : VarsAt s x k) (hj : s.obj n = some (.cells [a, b, c])) : VarsAt (s.put n o) x k := by
  rcases h with ⟨rfl, rfl⟩ | ⟨j, t, rfl, o1, o2, o3⟩
  · exact .inl ⟨rfl, rfl⟩
  · refine .inr ⟨j, t, rfl, ?_, ?_, ?_⟩
    · rw [put_obj, if_neg ?_]; exact o1
      rintro rfl
      rw [hj] at o1
      simp only [Option.some.injEq, Ob.cells.injEq] at o1
      have := congrArg List.length o1
      rw [flat2_len] at this
      simp at this; omega
    · rw [put_obj, if_neg ?_]; exact o2
      rintro rfl
      rw [hj] at o2; cases o2
    · rw [put_obj, if_neg ?_]; exact o3
      intro h
      rw [h, hj] at o3; cases o3
theorem setArgs41 {x y z : D} (sx : scal x = true) (sy : scal y = true) (sz : scal z = true) (σ : St) :
    Ok Tryz.prog 41 [.agg [x, y, z], .nils] σ (fun o s' => (∃ m, σ.next ≤ m ∧ s' = ⟨σ.obj, m⟩) ∧ o = .ret (.tuple [.agg [x, .nils, z], .int .i64 0])) := by
  refine Ok.fresh fun hf => Ok.drop ?_
  have hd : dcells (.agg [x, y, z]) = some [x, y, z] := by simp [dcells, sx, sy, sz]
  have hd2 : dcells (.agg [x, .nils, z]) = some [x, .nils, z] := dcells3 sx rfl sz
  have sn : scal .nils = true := rfl
  have hl : ilen .nils = some (.int .i64 0) := rfl
  have z1 : decide ((0 : Int) > 256) = false := rfl
  have z2 : decide ((0 : Int) < 0) = false := rfl
  have w1 : (σ.next + 1 = σ.next) = False := by simp
  have w2 : (σ.next = σ.next + 1) = False := by simp
  apply en41
  simp -dsimp (maxSteps := 2000000) (disch := first | omega | (simp; done) | (simp; omega)) only [SA, SB, SC, SD, SE, SF, SG, SI, Nat.reduceLT, Nat.reduceAdd, Nat.reduceSub, Nat.reduceMul, Nat.reduceLeDiff, Nat.reduceEqDiff, Nat.reduceBEq, Int.reduceToNat, Int.reduceLE, Int.reduceLT, Int.reduceEq, Int.reduceNeg, reduceCtorEq, ↓reduceIte, ic41, List.replicate_succ, List.replicate_zero]
  (repeat' (first | simp -dsimp (maxSteps := 2000000) (disch := first | omega | (simp; done) | (simp; omega)) only [SA, SB, SC, SD, SE, SF, SG, SI, Nat.reduceLT, Nat.reduceAdd, Nat.reduceSub, Nat.reduceMul, Nat.reduceLeDiff, Nat.reduceEqDiff, Nat.reduceBEq, Int.reduceToNat, Int.reduceLE, Int.reduceLT, Int.reduceEq, Int.reduceNeg, reduceCtorEq, ↓reduceIte, hd, hl, z1] | refine Cut.go ?_ | refine Both.intro ?_ ?_ | (refine Br.intro ?_ ?_ <;> intro hb <;> have hb' := hb <;> (try simp only [SH] at hb') <;> (try simp -dsimp (maxSteps := 2000000) (disch := first | omega | (simp; done) | (simp; omega)) only [SA, SB, SC, SD, SE, SF, SG, SI, Nat.reduceLT, Nat.reduceAdd, Nat.reduceSub, Nat.reduceMul, Nat.reduceLeDiff, Nat.reduceEqDiff, Nat.reduceBEq, Int.reduceToNat, Int.reduceLE, Int.reduceLT, Int.reduceEq, Int.reduceNeg, reduceCtorEq, ↓reduceIte, hb, hd, hl, z1]))))
  refine loop_go (α := Unit) (fun _ => [.agg [x, y, z], .nils, .ref σ.next 0, .junk, .ref (σ.next + 1) 0, .int .i64 0, .int .i64 0] ++ List.replicate 20 .junk) (fun _ => (σ.alloc (.cells [x, y, z])).alloc (.cells [.nils, .nils, .int .i64 0])) (fun _ => 0) (fun _ => True) () trivial (by ((try simp only [List.replicate_succ, List.replicate_zero, List.cons_append, List.nil_append]); repeat' (first | exact trivial | refine ⟨.inl rfl, ?_⟩ | refine ⟨.inr rfl, ?_⟩ | refine ⟨.inr (by simp), ?_⟩))) (Drops.refl _) ?_
  intro _ _
  simp -dsimp (maxSteps := 2000000) (disch := first | omega | (simp; done) | (simp; omega)) only [SA, SB, SC, SD, SE, SF, SG, SI, Nat.reduceLT, Nat.reduceAdd, Nat.reduceSub, Nat.reduceMul, Nat.reduceLeDiff, Nat.reduceEqDiff, Nat.reduceBEq, Int.reduceToNat, Int.reduceLE, Int.reduceLT, Int.reduceEq, Int.reduceNeg, reduceCtorEq, ↓reduceIte, List.replicate_succ, List.replicate_zero]
  (repeat' (first | simp -dsimp (maxSteps := 2000000) (disch := first | omega | (simp; done) | (simp; omega)) only [SA, SB, SC, SD, SE, SF, SG, SI, Nat.reduceLT, Nat.reduceAdd, Nat.reduceSub, Nat.reduceMul, Nat.reduceLeDiff, Nat.reduceEqDiff, Nat.reduceBEq, Int.reduceToNat, Int.reduceLE, Int.reduceLT, Int.reduceEq, Int.reduceNeg, reduceCtorEq, ↓reduceIte, hl, z2, w1, w2, sx, sy, sz, hd2, sn] | refine Cut.go ?_ | refine Both.intro ?_ ?_ | (refine Br.intro ?_ ?_ <;> intro hb <;> have hb' := hb <;> (try simp only [SH] at hb') <;> (try simp -dsimp (maxSteps := 2000000) (disch := first | omega | (simp; done) | (simp; omega)) only [SA, SB, SC, SD, SE, SF, SG, SI, Nat.reduceLT, Nat.reduceAdd, Nat.reduceSub, Nat.reduceMul, Nat.reduceLeDiff, Nat.reduceEqDiff, Nat.reduceBEq, Int.reduceToNat, Int.reduceLE, Int.reduceLT, Int.reduceEq, Int.reduceNeg, reduceCtorEq, ↓reduceIte, hb, hl, z2, w1, w2, sx, sy, sz, hd2, sn]))))
  exact ⟨_, drops_old hf (fun i hi => by rw [put_obj, if_neg (by omega), put_obj, if_neg (by omega), two_obj, if_neg (by omega), if_neg (by omega)]), _, by show σ.next ≤ σ.next + 2; omega, rfl⟩
theorem new21 {x : D} {l : List (List UInt8 × List UInt8)} (hx : Vz x l) (hl : l.length ≤ 1000) (σ : St) :
    Ok Tryz.prog 21 [x, .nils] σ (fun o s' => (∃ m, σ.next ≤ m ∧ s' = ⟨σ.obj, m⟩) ∧ ∃ a b c e, scal a = true ∧ scal b = true ∧ scal c = true ∧ o = .ret (.tuple [.agg [a, b, c], .int .i64 e])) := by
  refine Ok.fresh fun hf => Ok.drop ?_
  have hlx := hx.len
  apply en21
  simp -dsimp (maxSteps := 2000000) (disch := first | omega | (simp; done) | (simp; omega)) only [SA, SB, SC, SD, SE, SF, SG, SI, Nat.reduceLT, Nat.reduceAdd, Nat.reduceSub, Nat.reduceMul, Nat.reduceLeDiff, Nat.reduceEqDiff, Nat.reduceBEq, Int.reduceToNat, Int.reduceLE, Int.reduceLT, Int.reduceEq, Int.reduceNeg, reduceCtorEq, ↓reduceIte, ic21, List.replicate_succ, List.replicate_zero]
  (repeat' (first | simp -dsimp (maxSteps := 2000000) (disch := first | omega | (simp; done) | (simp; omega)) only [SA, SB, SC, SD, SE, SF, SG, SI, Nat.reduceLT, Nat.reduceAdd, Nat.reduceSub, Nat.reduceMul, Nat.reduceLeDiff, Nat.reduceEqDiff, Nat.reduceBEq, Int.reduceToNat, Int.reduceLE, Int.reduceLT, Int.reduceEq, Int.reduceNeg, reduceCtorEq, ↓reduceIte, hlx] | refine Cut.go ?_ | refine Both.intro ?_ ?_ | (refine Br.intro ?_ ?_ <;> intro hb <;> have hb' := hb <;> (try simp only [SH] at hb') <;> (try simp -dsimp (maxSteps := 2000000) (disch := first | omega | (simp; done) | (simp; omega)) only [SA, SB, SC, SD, SE, SF, SG, SI, Nat.reduceLT, Nat.reduceAdd, Nat.reduceSub, Nat.reduceMul, Nat.reduceLeDiff, Nat.reduceEqDiff, Nat.reduceBEq, Int.reduceToNat, Int.reduceLE, Int.reduceLT, Int.reduceEq, Int.reduceNeg, reduceCtorEq, ↓reduceIte, hb, hlx]))))
  have q0 : ((σ.alloc (.cells [.nils, .nils, .int .i64 0])).alloc (.cells [.nils, .nils, .int .i64 0])).obj σ.next = some (.cells [.nils, .nils, .int .i64 0]) := by rw [two_obj, if_neg (by omega), if_pos rfl]
  have q1 : ((σ.alloc (.cells [.nils, .nils, .int .i64 0])).alloc (.cells [.nils, .nils, .int .i64 0])).obj (σ.next + 1) = some (.cells [.nils, .nils, .int .i64 0]) := by rw [two_obj, if_pos rfl]
  have qlow : ∀ i, i < σ.next → ((σ.alloc (.cells [.nils, .nils, .int .i64 0])).alloc (.cells [.nils, .nils, .int .i64 0])).obj i = σ.obj i := fun i hi => by rw [two_obj, if_neg (by omega), if_neg (by omega)]
  have qf : ((σ.alloc (.cells [.nils, .nils, .int .i64 0])).alloc (.cells [.nils, .nils, .int .i64 0])).Fresh := fun i hi => by
    have : σ.next + 2 ≤ i := hi
    rw [two_obj, if_neg (by omega), if_neg (by omega)]; exact hf i (by omega)
  have qn : ((σ.alloc (.cells [.nils, .nils, .int .i64 0])).alloc (.cells [.nils, .nils, .int .i64 0])).next = σ.next + 2 := rfl
  generalize ((σ.alloc (.cells [.nils, .nils, .int .i64 0])).alloc (.cells [.nils, .nils, .int .i64 0])) = S at *
  refine loop_go (α := Nat × (D × D × D) × Int × List (List UInt8 × List UInt8) × St) (fun a => [x, .nils, .junk, .junk, .ref σ.next 0, .int .i64 0, .ref (σ.next + 1) 0, .int .i64 a.2.2.1, .int .i64 a.1] ++ List.replicate 36 .junk) (fun a => a.2.2.2.2) (fun a => l.length - a.1)
    (fun a => a.1 ≤ l.length ∧ (scal a.2.1.1 = true ∧ scal a.2.1.2.1 = true ∧ scal a.2.1.2.2 = true) ∧ a.2.2.2.2.obj σ.next = some (.cells [.nils, .nils, .int .i64 0]) ∧ a.2.2.2.2.obj (σ.next + 1) = some (.cells [a.2.1.1, a.2.1.2.1, a.2.1.2.2]) ∧ VarsAt a.2.2.2.2 a.2.1.1 a.2.2.2.1 ∧ a.2.2.2.1.length ≤ a.1 ∧ σ.next + 2 ≤ a.2.2.2.2.next ∧ a.2.2.2.2.Fresh ∧ (∀ i, i < σ.next → a.2.2.2.2.obj i = σ.obj i))
    (0, (.nils, .nils, .int .i64 0), 0, [], S) ⟨Nat.zero_le _, ⟨rfl, rfl, rfl⟩, q0, q1, .inl ⟨rfl, rfl⟩, Nat.le_refl _, by simp only []; omega, qf, qlow⟩ (by ((try simp only [List.replicate_succ, List.replicate_zero, List.cons_append, List.nil_append]); repeat' (first | exact trivial | refine ⟨.inl rfl, ?_⟩ | refine ⟨.inr rfl, ?_⟩ | refine ⟨.inr (by simp), ?_⟩))) (Drops.refl _) ?_
  rintro ⟨i, ⟨a, b, c⟩, e, k, s⟩ ⟨h1, ⟨sa, sb, sc⟩, r0, r1, rx, hk, hn, hfs, hlow⟩
  simp only [] at h1 sa sb sc r0 r1 rx hk hn hfs hlow ⊢
  have hso : scalO (some a) = some a := by simp [scalO, sa]
  have w1 : (σ.next + 1 = σ.next) = False := by simp
  have w2 : (σ.next = σ.next + 1) = False := by simp
  have sn : scal .nils = true := rfl
  have sn2 : scal (.int .i64 0) = true := rfl
  have dz : dcells (.agg [.nils, .nils, .int .i64 0]) = some [.nils, .nils, .int .i64 0] := rfl
  have hend : ∀ {s : St} {a b c : D} {e : Int}, (∀ i, i < σ.next → s.obj i = σ.obj i) → σ.next ≤ s.next → scal a = true → scal b = true → scal c = true → ∃ s', Drops s s' ∧ (∃ m, σ.next ≤ m ∧ s' = ⟨σ.obj, m⟩) ∧ ∃ a' b' c' e', scal a' = true ∧ scal b' = true ∧ scal c' = true ∧ Out.ret (.tuple [.agg [a, b, c], .int .i64 e]) = .ret (.tuple [.agg [a', b', c'], .int .i64 e']) :=
    fun h1 h2 sa sb sc => ⟨_, drops_old hf h1, ⟨_, h2, rfl⟩, _, _, _, _, sa, sb, sc, rfl⟩
  simp -dsimp (maxSteps := 2000000) (disch := first | omega | (simp; done) | (simp; omega)) only [SA, SB, SC, SD, SE, SF, SG, SI, Nat.reduceLT, Nat.reduceAdd, Nat.reduceSub, Nat.reduceMul, Nat.reduceLeDiff, Nat.reduceEqDiff, Nat.reduceBEq, Int.reduceToNat, Int.reduceLE, Int.reduceLT, Int.reduceEq, Int.reduceNeg, reduceCtorEq, ↓reduceIte, List.replicate_succ, List.replicate_zero]
  by_cases hil : i < l.length
  · have hcond : decide ((i : Int) < l.length) = true := by simp; exact hil
    have ax := hx.at hil
    (repeat' (first | simp -dsimp (maxSteps := 2000000) (disch := first | omega | (simp; done) | (simp; omega)) only [SA, SB, SC, SD, SE, SF, SG, SI, Nat.reduceLT, Nat.reduceAdd, Nat.reduceSub, Nat.reduceMul, Nat.reduceLeDiff, Nat.reduceEqDiff, Nat.reduceBEq, Int.reduceToNat, Int.reduceLE, Int.reduceLT, Int.reduceEq, Int.reduceNeg, reduceCtorEq, ↓reduceIte, hlx, hcond, ax, r0, r1, sa, sb, sc] | refine Cut.go ?_ | refine Both.intro ?_ ?_ | (refine Br.intro ?_ ?_ <;> intro hb <;> have hb' := hb <;> (try simp only [SH] at hb') <;> (try simp -dsimp (maxSteps := 2000000) (disch := first | omega | (simp; done) | (simp; omega)) only [SA, SB, SC, SD, SE, SF, SG, SI, Nat.reduceLT, Nat.reduceAdd, Nat.reduceSub, Nat.reduceMul, Nat.reduceLeDiff, Nat.reduceEqDiff, Nat.reduceBEq, Int.reduceToNat, Int.reduceLE, Int.reduceLT, Int.reduceEq, Int.reduceNeg, reduceCtorEq, ↓reduceIte, hb, hlx, hcond, ax, r0, r1, sa, sb, sc]))))
    refine ⟨gd11, (set11 (by omega) sa sb sc _ _ s rx).mono fun o s1 h => ?_⟩
    obtain ⟨x1, y1, z1, e1, k1, rfl, s1x, s1y, s1z, hk1, rx1, hf1, hn1, hlow1⟩ := h
    have u0 : s1.obj σ.next = some (.cells [.nils, .nils, .int .i64 0]) := by rw [hlow1 _ (by omega)]; exact r0
    have u1 : s1.obj (σ.next + 1) = some (.cells [a, b, c]) := by rw [hlow1 _ (by omega)]; exact r1
    have dd := dcells3 s1x s1y s1z
    (repeat' (first | simp -dsimp (maxSteps := 2000000) (disch := first | omega | (simp; done) | (simp; omega)) only [SA, SB, SC, SD, SE, SF, SG, SI, Nat.reduceLT, Nat.reduceAdd, Nat.reduceSub, Nat.reduceMul, Nat.reduceLeDiff, Nat.reduceEqDiff, Nat.reduceBEq, Int.reduceToNat, Int.reduceLE, Int.reduceLT, Int.reduceEq, Int.reduceNeg, reduceCtorEq, ↓reduceIte, dd, u0, u1, w1, w2, dz, s1x, s1y, s1z, sn, sn2, hlx] | refine Cut.go ?_ | refine Both.intro ?_ ?_ | (refine Br.intro ?_ ?_ <;> intro hb <;> have hb' := hb <;> (try simp only [SH] at hb') <;> (try simp -dsimp (maxSteps := 2000000) (disch := first | omega | (simp; done) | (simp; omega)) only [SA, SB, SC, SD, SE, SF, SG, SI, Nat.reduceLT, Nat.reduceAdd, Nat.reduceSub, Nat.reduceMul, Nat.reduceLeDiff, Nat.reduceEqDiff, Nat.reduceBEq, Int.reduceToNat, Int.reduceLE, Int.reduceLT, Int.reduceEq, Int.reduceNeg, reduceCtorEq, ↓reduceIte, hb, dd, u0, u1, w1, w2, dz, s1x, s1y, s1z, sn, sn2, hlx]))))
    · refine hend (fun i hi => ?_) ?_ rfl rfl rfl
      · rw [put_obj, if_neg (by omega), put_obj, if_neg (by omega), hlow1 _ (by omega)]; exact hlow i hi
      · show σ.next ≤ s1.next; omega
    · refine Round.go (i + 1, (x1, y1, z1), e1, k1, s1.put (σ.next + 1) (some (.cells [x1, y1, z1]))) (by simp only []; omega) ⟨by simp only []; omega, ⟨s1x, s1y, s1z⟩, ?_, ?_, rx1.putCells u1, by simp only []; omega, ?_, ?_, ?_⟩ (by ((try simp only [List.replicate_succ, List.replicate_zero, List.cons_append, List.nil_append]); repeat' (first | exact trivial | refine ⟨.inl rfl, ?_⟩ | refine ⟨.inr rfl, ?_⟩ | refine ⟨.inr (by simp), ?_⟩))) (Drops.refl _)
      · simp only []; rw [put_obj, if_neg (by omega)]; exact u0
      · simp only []; rw [put_obj, if_pos rfl]
      · show σ.next + 2 ≤ s1.next; omega
      · intro i hi
        have : s1.next ≤ i := hi
        simp only []; rw [put_obj, if_neg (by omega)]; exact hf1 i this
      · intro i hi
        simp only []; rw [put_obj, if_neg (by omega), hlow1 _ (by omega)]; exact hlow i hi
  · have hcond : decide ((i : Int) < l.length) = false := by simp; omega
    (repeat' (first | simp -dsimp (maxSteps := 2000000) (disch := first | omega | (simp; done) | (simp; omega)) only [SA, SB, SC, SD, SE, SF, SG, SI, Nat.reduceLT, Nat.reduceAdd, Nat.reduceSub, Nat.reduceMul, Nat.reduceLeDiff, Nat.reduceEqDiff, Nat.reduceBEq, Int.reduceToNat, Int.reduceLE, Int.reduceLT, Int.reduceEq, Int.reduceNeg, reduceCtorEq, ↓reduceIte, hlx, hcond, r0, r1, sa, sb, sc] | refine Cut.go ?_ | refine Both.intro ?_ ?_ | (refine Br.intro ?_ ?_ <;> intro hb <;> have hb' := hb <;> (try simp only [SH] at hb') <;> (try simp -dsimp (maxSteps := 2000000) (disch := first | omega | (simp; done) | (simp; omega)) only [SA, SB, SC, SD, SE, SF, SG, SI, Nat.reduceLT, Nat.reduceAdd, Nat.reduceSub, Nat.reduceMul, Nat.reduceLeDiff, Nat.reduceEqDiff, Nat.reduceBEq, Int.reduceToNat, Int.reduceLE, Int.reduceLT, Int.reduceEq, Int.reduceNeg, reduceCtorEq, ↓reduceIte, hb, hlx, hcond, r0, r1, sa, sb, sc]))))
    refine ⟨gd41, (setArgs41 sa sb sc s).mono fun o s1 h => ?_⟩
    obtain ⟨⟨m, hm, rfl⟩, rfl⟩ := h
    have dd : dcells (.agg [a, .nils, c]) = some [a, .nils, c] := dcells3 sa sn sc
    (repeat' (first | simp -dsimp (maxSteps := 2000000) (disch := first | omega | (simp; done) | (simp; omega)) only [SA, SB, SC, SD, SE, SF, SG, SI, Nat.reduceLT, Nat.reduceAdd, Nat.reduceSub, Nat.reduceMul, Nat.reduceLeDiff, Nat.reduceEqDiff, Nat.reduceBEq, Int.reduceToNat, Int.reduceLE, Int.reduceLT, Int.reduceEq, Int.reduceNeg, reduceCtorEq, ↓reduceIte, dd, r0, r1, w1, w2, dz, sa, sn, sc, sn2, hlx] | refine Cut.go ?_ | refine Both.intro ?_ ?_ | (refine Br.intro ?_ ?_ <;> intro hb <;> have hb' := hb <;> (try simp only [SH] at hb') <;> (try simp -dsimp (maxSteps := 2000000) (disch := first | omega | (simp; done) | (simp; omega)) only [SA, SB, SC, SD, SE, SF, SG, SI, Nat.reduceLT, Nat.reduceAdd, Nat.reduceSub, Nat.reduceMul, Nat.reduceLeDiff, Nat.reduceEqDiff, Nat.reduceBEq, Int.reduceToNat, Int.reduceLE, Int.reduceLT, Int.reduceEq, Int.reduceNeg, reduceCtorEq, ↓reduceIte, hb, dd, r0, r1, w1, w2, dz, sa, sn, sc, sn2, hlx]))))
    · exact absurd trivial hb'
    · refine hend (fun i hi => ?_) ?_ sa rfl sc
      · rw [put_obj, if_neg (by omega), put_obj, if_neg (by omega)]; exact hlow i hi
      · show σ.next ≤ m; omega
end Go.Proofs.YthiidchbaicfgaaGreatDoor
