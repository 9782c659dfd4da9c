/-
  THE LAW ExpandQuotes: the walk.
-/
import Derived.Test.YthiidchbaicfgaaGreatDoorYF
namespace Go.Proofs.YthiidchbaicfgaaGreatDoor
open Go Go.Id
set_option linter.unusedSimpArgs false
set_option linter.unusedVariables false
set_option maxRecDepth 100000
set_option maxHeartbeats 8000000

theorem set_get {n v : List UInt8} {l : Vs} (h : (setE n v l).1 = 0) : setE n v l = (0, tset n v l) ∧ nameB n = true := by
  unfold setE at h ⊢
  split at h
  · rename_i hn
    split at h
    · cases h
    · split at h
      · cases h
      · rename_i h1 h2
        rw [if_pos hn, if_neg h1, if_neg h2]
        exact ⟨rfl, hn⟩
  · cases h
theorem one_ok {s : List UInt8} (hs : s.length ≤ 4000) : (decide (256 < [s].length) || tooLong [s]) = false := by
  simp [tooLong]; omega
theorem fields_call {w : D} {j : Nat} {s : List UInt8} {al : List Atm} {ifs : List UInt8} (hs : s.length ≤ 4000) {σ : St} (h : Pure 12 [w, .ref j 0, theHost] σ (FieldsOut ((cutF al ifs).map (·.1)))) (hc : (cutF al ifs).map (·.1) = [s]) {K : Out → St → Prop}
    (hk : ∀ x m, σ.next ≤ m → Strs x [s] → K (.ret (.tuple [x, .int .i64 0])) ⟨σ.obj, m⟩) : goodFn Tryz.prog 12 = true ∧ Ok Tryz.prog 12 [w, .ref j 0, theHost] σ K := by
  rw [hc] at h
  refine ⟨gd12, h.mono fun o s' hh => ?_⟩
  obtain ⟨⟨m, hm, rfl⟩, ho⟩ := hh
  rw [FieldsOut, one_ok hs] at ho
  obtain ⟨x, hx, rfl⟩ := ho
  exact hk x m hm hx
theorem law3 {x : D} {l : Vs} (hx : Vz x l) (s n : List UInt8) (σ : St) : Ok Tryz.prog 3 [.str s, x, .str n] σ (fun o _ => o = .ret (.bool true)) := by
  have sn2 : scal (.int .i64 0) = true := rfl
  have sn : scal .nils = true := rfl
  apply en3
  simp -dsimp (maxSteps := 2000000) (disch := first | omega | (simp; done) | (simp; omega)) only [SA, SB, SC, SD, SE, SF, SG, SI, Nat.reduceLT, Nat.reduceAdd, Nat.reduceSub, Nat.reduceMul, Nat.reduceLeDiff, Nat.reduceEqDiff, Nat.reduceBEq, Int.reduceToNat, Int.reduceLE, Int.reduceLT, Int.reduceEq, Int.reduceNeg, reduceCtorEq, ↓reduceIte, ic3, List.replicate_succ, List.replicate_zero]
  (repeat' (first | simp -dsimp (maxSteps := 2000000) (disch := first | omega | (simp; done) | (simp; omega)) only [SA, SB, SC, SD, SE, SF, SG, SI, Nat.reduceLT, Nat.reduceAdd, Nat.reduceSub, Nat.reduceMul, Nat.reduceLeDiff, Nat.reduceEqDiff, Nat.reduceBEq, Int.reduceToNat, Int.reduceLE, Int.reduceLT, Int.reduceEq, Int.reduceNeg, reduceCtorEq, ↓reduceIte] | refine Cut.go ?_ | refine Both.intro ?_ ?_ | (refine Br.intro ?_ ?_ <;> intro hb <;> have hb' := hb <;> (try simp only [SH] at hb') <;> (try simp -dsimp (maxSteps := 2000000) (disch := first | omega | (simp; done) | (simp; omega)) only [SA, SB, SC, SD, SE, SF, SG, SI, Nat.reduceLT, Nat.reduceAdd, Nat.reduceSub, Nat.reduceMul, Nat.reduceLeDiff, Nat.reduceEqDiff, Nat.reduceBEq, Int.reduceToNat, Int.reduceLE, Int.reduceLT, Int.reduceEq, Int.reduceNeg, reduceCtorEq, ↓reduceIte, hb]))))
  refine ⟨gd7, (tables7x hx .snil σ).mono fun o s1 h => ?_⟩
  unfold Out7 at h
  split at h
  · obtain ⟨j, xr, rfl, g, B, yp, hT, hyp, sxr, hV, hjB, hB1, hfoot, hfar⟩ := h
    have dd := dcells3 sxr sn sn2
    by_cases h4 : 4000 < s.length
    · have hc1 : decide ((s.length : Int) > 4000) = true := by simp; omega
      (repeat' (first | simp -dsimp (maxSteps := 2000000) (disch := first | omega | (simp; done) | (simp; omega)) only [SA, SB, SC, SD, SE, SF, SG, SI, Nat.reduceLT, Nat.reduceAdd, Nat.reduceSub, Nat.reduceMul, Nat.reduceLeDiff, Nat.reduceEqDiff, Nat.reduceBEq, Int.reduceToNat, Int.reduceLE, Int.reduceLT, Int.reduceEq, Int.reduceNeg, reduceCtorEq, ↓reduceIte, dd, hc1] | refine Cut.go ?_ | refine Both.intro ?_ ?_ | refine awake_call ?_ | (refine Br.intro ?_ ?_ <;> intro hb <;> have hb' := hb <;> (try simp only [SH] at hb') <;> (try simp -dsimp (maxSteps := 2000000) (disch := first | omega | (simp; done) | (simp; omega)) only [SA, SB, SC, SD, SE, SF, SG, SI, Nat.reduceLT, Nat.reduceAdd, Nat.reduceSub, Nat.reduceMul, Nat.reduceLeDiff, Nat.reduceEqDiff, Nat.reduceBEq, Int.reduceToNat, Int.reduceLE, Int.reduceLT, Int.reduceEq, Int.reduceNeg, reduceCtorEq, ↓reduceIte, hb, dd, hc1]))))
    have hc1 : decide ((s.length : Int) > 4000) = false := by simp; omega
    cases hn : nameB n
    · (repeat' (first | simp -dsimp (maxSteps := 2000000) (disch := first | omega | (simp; done) | (simp; omega)) only [SA, SB, SC, SD, SE, SF, SG, SI, Nat.reduceLT, Nat.reduceAdd, Nat.reduceSub, Nat.reduceMul, Nat.reduceLeDiff, Nat.reduceEqDiff, Nat.reduceBEq, Int.reduceToNat, Int.reduceLE, Int.reduceLT, Int.reduceEq, Int.reduceNeg, reduceCtorEq, ↓reduceIte, dd, hc1, hn] | refine Cut.go ?_ | refine Both.intro ?_ ?_ | refine via gd8 (name8x _ _) ?_ | refine awake_call ?_ | (refine Br.intro ?_ ?_ <;> intro hb <;> have hb' := hb <;> (try simp only [SH] at hb') <;> (try simp -dsimp (maxSteps := 2000000) (disch := first | omega | (simp; done) | (simp; omega)) only [SA, SB, SC, SD, SE, SF, SG, SI, Nat.reduceLT, Nat.reduceAdd, Nat.reduceSub, Nat.reduceMul, Nat.reduceLeDiff, Nat.reduceEqDiff, Nat.reduceBEq, Int.reduceToNat, Int.reduceLE, Int.reduceLT, Int.reduceEq, Int.reduceNeg, reduceCtorEq, ↓reduceIte, hb, dd, hc1, hn]))))
    have hS2f := put_fresh (alloc_fresh hT.fresh (.cells [.nils, .nils, .int .i64 0])) (j := s1.next) (by rw [alloc_next]; omega) (some (.cells [xr, .nils, .int .i64 0]))
    have hS2o : ∀ i, i < s1.next → ((s1.alloc (.cells [.nils, .nils, .int .i64 0])).put s1.next (some (.cells [xr, .nils, .int .i64 0]))).obj i = s1.obj i := fun i hi => by rw [put_obj, if_neg (by omega), alloc_obj, if_neg (by omega)]
    have hT2 := hT.other hS2o (by show s1.next ≤ s1.next + 1; omega) hS2f
    have ok8 : ((s1.alloc (.cells [.nils, .nils, .int .i64 0])).put s1.next (some (.cells [xr, .nils, .int .i64 0]))).obj s1.next = some (.cells [xr, .nils, .int .i64 0]) := by rw [put_obj, if_pos rfl]
    (repeat' (first | simp -dsimp (maxSteps := 2000000) (disch := first | omega | (simp; done) | (simp; omega)) only [SA, SB, SC, SD, SE, SF, SG, SI, Nat.reduceLT, Nat.reduceAdd, Nat.reduceSub, Nat.reduceMul, Nat.reduceLeDiff, Nat.reduceEqDiff, Nat.reduceBEq, Int.reduceToNat, Int.reduceLE, Int.reduceLT, Int.reduceEq, Int.reduceNeg, reduceCtorEq, ↓reduceIte, dd, hc1, hn] | refine Cut.go ?_ | refine Both.intro ?_ ?_ | refine via gd8 (name8x _ _) ?_ | (refine Br.intro ?_ ?_ <;> intro hb <;> have hb' := hb <;> (try simp only [SH] at hb') <;> (try simp -dsimp (maxSteps := 2000000) (disch := first | omega | (simp; done) | (simp; omega)) only [SA, SB, SC, SD, SE, SF, SG, SI, Nat.reduceLT, Nat.reduceAdd, Nat.reduceSub, Nat.reduceMul, Nat.reduceLeDiff, Nat.reduceEqDiff, Nat.reduceBEq, Int.reduceToNat, Int.reduceLE, Int.reduceLT, Int.reduceEq, Int.reduceNeg, reduceCtorEq, ↓reduceIte, hb, dd, hc1, hn]))))
    have hS2n : ((s1.alloc (.cells [.nils, .nils, .int .i64 0])).put s1.next (some (.cells [xr, .nils, .int .i64 0]))).next = s1.next + 1 := rfl
    generalize hS2 : ((s1.alloc (.cells [.nils, .nils, .int .i64 0])).put s1.next (some (.cells [xr, .nils, .int .i64 0]))) = S2 at *
    have hV2 : VarsR S2 xr (newE l []).2 := hV.low hT.fresh hS2o
    refine ⟨gd9, (set9x hT2 _ _).mono fun o s3 h => ?_⟩
    obtain ⟨rfl, hT3, hn3, hfr⟩ := h
    by_cases he : (setE n s (newE l []).2).1 = 0
    · obtain ⟨hE, hname⟩ := set_get he
      have z1 : ((setE n s (newE l []).2).1 != 0) = false := by simpa using he
      obtain ⟨xp, hjp, _⟩ := hT2.x
      have hfoot2 : ∀ i, foot xp i → i < B := fun i hi => hfoot xp (by rw [← hS2o j (by omega)]; exact hjp) i hi
      have keep : ∀ i, B ≤ i → i < S2.next → s3.obj i = S2.obj i := fun i h1 h2 => hfr xp hjp i h2 (by omega) fun hf => by have := hfoot2 i hf; omega
      have ok8' : s3.obj s1.next = some (.cells [xr, .nils, .int .i64 0]) := by rw [keep _ (by omega) (by omega)]; exact ok8
      have hV3 : VarsR s3 xr (newE l []).2 := by
        rcases hV2 with h | ⟨jv, t, e1, o1⟩
        · exact .inl h
        · have h1 := hfar _ _ _ e1
          have h2 : jv < S2.next := Nat.lt_of_not_le fun hle => by rw [hS2f jv hle] at o1; cases o1
          exact .inr ⟨jv, t, e1, by rw [keep jv h1 h2]; exact o1⟩
      have l3 : cellsAt [xr, D.nils, D.int .i64 0] 0 (some 3) = some (.agg [xr, .nils, .int .i64 0]) := rfl
      have hfew := hT.few
      have hsr := hT.sorted
      (repeat' (first | simp -dsimp (maxSteps := 2000000) (disch := first | omega | (simp; done) | (simp; omega)) only [SA, SB, SC, SD, SE, SF, SG, SI, Nat.reduceLT, Nat.reduceAdd, Nat.reduceSub, Nat.reduceMul, Nat.reduceLeDiff, Nat.reduceEqDiff, Nat.reduceBEq, Int.reduceToNat, Int.reduceLE, Int.reduceLT, Int.reduceEq, Int.reduceNeg, reduceCtorEq, ↓reduceIte, z1, ok8', l3] | refine Cut.go ?_ | refine Both.intro ?_ ?_ | (refine Br.intro ?_ ?_ <;> intro hb <;> have hb' := hb <;> (try simp only [SH] at hb') <;> (try simp -dsimp (maxSteps := 2000000) (disch := first | omega | (simp; done) | (simp; omega)) only [SA, SB, SC, SD, SE, SF, SG, SI, Nat.reduceLT, Nat.reduceAdd, Nat.reduceSub, Nat.reduceMul, Nat.reduceLeDiff, Nat.reduceEqDiff, Nat.reduceBEq, Int.reduceToNat, Int.reduceLE, Int.reduceLT, Int.reduceEq, Int.reduceNeg, reduceCtorEq, ↓reduceIte, hb, z1, ok8', l3]))))
      refine ⟨gd11, Ok.drop ((set11x hfew hsr sxr rfl rfl n s s3 hV3).mono fun o s4 h => ?_)⟩
      obtain ⟨x', rfl, sx', hx', hf4, hn4, hlow4, _⟩ := h
      rw [hE] at hT3
      have hA : TabAt (bare s4) j (tset n s (newE l []).2) yp (.int .i64 0) := (hT3.read.low hT3.fresh hlow4 hn4).bare
      have hti := bare_tidy s4
      have hf4b : (bare s4).Fresh := fun i hi => by
        show (match s4.obj i with | some (.ty _ _ _) => none | o => o) = none
        rw [hf4 i hi]
      refine ⟨_, bare_drops s4, ?_⟩
      generalize bare s4 = S4 at *
      have dd' := dcells3 sx' sn sn2
      have z2 : ((0 : Int) != 0) = false := rfl
      rw [he]
      have hS5f := put_fresh (alloc_fresh hf4b (.cells [.nils, .nils, .int .i64 0])) (j := S4.next) (by rw [alloc_next]; omega) (some (.cells [x', .nils, .int .i64 0]))
      have hS5o : ∀ i, i < S4.next → ((S4.alloc (.cells [.nils, .nils, .int .i64 0])).put S4.next (some (.cells [x', .nils, .int .i64 0]))).obj i = S4.obj i := fun i hi => by rw [put_obj, if_neg (by omega), alloc_obj, if_neg (by omega)]
      have hA5 := hA.low hf4b hS5o (by show S4.next ≤ S4.next + 1; omega)
      have ht5 : Tidy ((S4.alloc (.cells [.nils, .nils, .int .i64 0])).put S4.next (some (.cells [x', .nils, .int .i64 0]))) := (hti.alloc hf4b (by simp)).put _ _
      (repeat' (first | simp -dsimp (maxSteps := 2000000) (disch := first | omega | (simp; done) | (simp; omega)) only [SA, SB, SC, SD, SE, SF, SG, SI, Nat.reduceLT, Nat.reduceAdd, Nat.reduceSub, Nat.reduceMul, Nat.reduceLeDiff, Nat.reduceEqDiff, Nat.reduceBEq, Int.reduceToNat, Int.reduceLE, Int.reduceLT, Int.reduceEq, Int.reduceNeg, reduceCtorEq, ↓reduceIte, dd', z2] | refine Cut.go ?_ | refine Both.intro ?_ ?_ | (refine Br.intro ?_ ?_ <;> intro hb <;> have hb' := hb <;> (try simp only [SH] at hb') <;> (try simp -dsimp (maxSteps := 2000000) (disch := first | omega | (simp; done) | (simp; omega)) only [SA, SB, SC, SD, SE, SF, SG, SI, Nat.reduceLT, Nat.reduceAdd, Nat.reduceSub, Nat.reduceMul, Nat.reduceLeDiff, Nat.reduceEqDiff, Nat.reduceBEq, Int.reduceToNat, Int.reduceLE, Int.reduceLT, Int.reduceEq, Int.reduceNeg, reduceCtorEq, ↓reduceIte, hb, dd', z2]))))
      generalize ((S4.alloc (.cells [.nils, .nils, .int .i64 0])).put S4.next (some (.cells [x', .nils, .int .i64 0]))) = S5 at *
      have hg : tget n (tset n s (newE l []).2) = some s := tget_tset n s
      refine fields_call (by omega) (fields_lit ht5 hA5 s (r := .exact) (r' := .exact) (by omega)) (cut_lit s _) fun a m5 hm5 ha => ?_
      (repeat' (first | simp -dsimp (maxSteps := 2000000) (disch := first | omega | (simp; done) | (simp; omega)) only [SA, SB, SC, SD, SE, SF, SG, SI, Nat.reduceLT, Nat.reduceAdd, Nat.reduceSub, Nat.reduceMul, Nat.reduceLeDiff, Nat.reduceEqDiff, Nat.reduceBEq, Int.reduceToNat, Int.reduceLE, Int.reduceLT, Int.reduceEq, Int.reduceNeg, reduceCtorEq, ↓reduceIte] | refine Cut.go ?_ | refine Both.intro ?_ ?_ | (refine Br.intro ?_ ?_ <;> intro hb <;> have hb' := hb <;> (try simp only [SH] at hb') <;> (try simp -dsimp (maxSteps := 2000000) (disch := first | omega | (simp; done) | (simp; omega)) only [SA, SB, SC, SD, SE, SF, SG, SI, Nat.reduceLT, Nat.reduceAdd, Nat.reduceSub, Nat.reduceMul, Nat.reduceLeDiff, Nat.reduceEqDiff, Nat.reduceBEq, Int.reduceToNat, Int.reduceLE, Int.reduceLT, Int.reduceEq, Int.reduceNeg, reduceCtorEq, ↓reduceIte, hb]))))
      have hfn := fields_name (σ := ⟨S5.obj, m5⟩) ht5 (hA5.more hm5) hname true (r := .exact) (r' := .exact) (by rw [hg, Option.getD_some]; omega)
      rw [hg, Option.getD_some] at hfn
      refine fields_call (by omega) hfn (cut_lit s _) fun b m6 hm6 hb => ?_
      (repeat' (first | simp -dsimp (maxSteps := 2000000) (disch := first | omega | (simp; done) | (simp; omega)) only [SA, SB, SC, SD, SE, SF, SG, SI, Nat.reduceLT, Nat.reduceAdd, Nat.reduceSub, Nat.reduceMul, Nat.reduceLeDiff, Nat.reduceEqDiff, Nat.reduceBEq, Int.reduceToNat, Int.reduceLE, Int.reduceLT, Int.reduceEq, Int.reduceNeg, reduceCtorEq, ↓reduceIte] | refine Cut.go ?_ | refine Both.intro ?_ ?_ | (refine Br.intro ?_ ?_ <;> intro hb <;> have hb' := hb <;> (try simp only [SH] at hb') <;> (try simp -dsimp (maxSteps := 2000000) (disch := first | omega | (simp; done) | (simp; omega)) only [SA, SB, SC, SD, SE, SF, SG, SI, Nat.reduceLT, Nat.reduceAdd, Nat.reduceSub, Nat.reduceMul, Nat.reduceLeDiff, Nat.reduceEqDiff, Nat.reduceBEq, Int.reduceToNat, Int.reduceLE, Int.reduceLT, Int.reduceEq, Int.reduceNeg, reduceCtorEq, ↓reduceIte, hb]))))
      refine ⟨gd13, (pattern_name (σ := ⟨S5.obj, m6⟩) ht5 (hA5.more (Nat.le_trans hm5 hm6)) hname hg (r := .exact) (by omega)).mono fun o s7 h => ?_⟩
      obtain ⟨⟨m7, hm7, rfl⟩, ho⟩ := h
      have z3 : ((0 : Int) == 0) = true := rfl
      have z4 : ((2 : Int) == 2) = true := rfl
      have z5 : ((0 : Int) == 2) = false := rfl
      have z6 : (quoteB s == quoteB s) = true := by simp
      have one : Strs (.slc 1 [.str s] .exact) [s] := .ssome [s] .exact
      unfold PatOut at ho
      split at ho
      · rename_i hbig
        subst ho
        have hc : decide (((quoteB s).length : Int) > 4096) = true := by simp; omega
        (repeat' (first | simp -dsimp (maxSteps := 2000000) (disch := first | omega | (simp; done) | (simp; omega)) only [SA, SB, SC, SD, SE, SF, SG, SI, Nat.reduceLT, Nat.reduceAdd, Nat.reduceSub, Nat.reduceMul, Nat.reduceLeDiff, Nat.reduceEqDiff, Nat.reduceBEq, Int.reduceToNat, Int.reduceLE, Int.reduceLT, Int.reduceEq, Int.reduceNeg, reduceCtorEq, ↓reduceIte, z3, z4, z5, z6, hc] | refine Cut.go ?_ | refine Both.intro ?_ ?_ | refine via gd14 (quote14 s (by omega) _) ?_ | refine texts_call ha one (by simp) ?_ | refine texts_call hb one (by simp) ?_ | refine awake_call ?_ | (refine Br.intro ?_ ?_ <;> intro hb <;> have hb' := hb <;> (try simp only [SH] at hb') <;> (try simp -dsimp (maxSteps := 2000000) (disch := first | omega | (simp; done) | (simp; omega)) only [SA, SB, SC, SD, SE, SF, SG, SI, Nat.reduceLT, Nat.reduceAdd, Nat.reduceSub, Nat.reduceMul, Nat.reduceLeDiff, Nat.reduceEqDiff, Nat.reduceBEq, Int.reduceToNat, Int.reduceLE, Int.reduceLT, Int.reduceEq, Int.reduceNeg, reduceCtorEq, ↓reduceIte, hb, z3, z4, z5, z6, hc]))))
      · rename_i hbig
        subst ho
        (repeat' (first | simp -dsimp (maxSteps := 2000000) (disch := first | omega | (simp; done) | (simp; omega)) only [SA, SB, SC, SD, SE, SF, SG, SI, Nat.reduceLT, Nat.reduceAdd, Nat.reduceSub, Nat.reduceMul, Nat.reduceLeDiff, Nat.reduceEqDiff, Nat.reduceBEq, Int.reduceToNat, Int.reduceLE, Int.reduceLT, Int.reduceEq, Int.reduceNeg, reduceCtorEq, ↓reduceIte, z3, z4, z5, z6] | refine Cut.go ?_ | refine Both.intro ?_ ?_ | refine via gd14 (quote14 s (by omega) _) ?_ | refine texts_call ha one (by simp) ?_ | refine texts_call hb one (by simp) ?_ | refine awake_call ?_ | (refine Br.intro ?_ ?_ <;> intro hb <;> have hb' := hb <;> (try simp only [SH] at hb') <;> (try simp -dsimp (maxSteps := 2000000) (disch := first | omega | (simp; done) | (simp; omega)) only [SA, SB, SC, SD, SE, SF, SG, SI, Nat.reduceLT, Nat.reduceAdd, Nat.reduceSub, Nat.reduceMul, Nat.reduceLeDiff, Nat.reduceEqDiff, Nat.reduceBEq, Int.reduceToNat, Int.reduceLE, Int.reduceLT, Int.reduceEq, Int.reduceNeg, reduceCtorEq, ↓reduceIte, hb, z3, z4, z5, z6]))))
    · have z1 : ((setE n s (newE l []).2).1 != 0) = true := by simpa using he
      (repeat' (first | simp -dsimp (maxSteps := 2000000) (disch := first | omega | (simp; done) | (simp; omega)) only [SA, SB, SC, SD, SE, SF, SG, SI, Nat.reduceLT, Nat.reduceAdd, Nat.reduceSub, Nat.reduceMul, Nat.reduceLeDiff, Nat.reduceEqDiff, Nat.reduceBEq, Int.reduceToNat, Int.reduceLE, Int.reduceLT, Int.reduceEq, Int.reduceNeg, reduceCtorEq, ↓reduceIte, z1] | refine Cut.go ?_ | refine Both.intro ?_ ?_ | refine awake_call ?_ | (refine Br.intro ?_ ?_ <;> intro hb <;> have hb' := hb <;> (try simp only [SH] at hb') <;> (try simp -dsimp (maxSteps := 2000000) (disch := first | omega | (simp; done) | (simp; omega)) only [SA, SB, SC, SD, SE, SF, SG, SI, Nat.reduceLT, Nat.reduceAdd, Nat.reduceSub, Nat.reduceMul, Nat.reduceLeDiff, Nat.reduceEqDiff, Nat.reduceBEq, Int.reduceToNat, Int.reduceLE, Int.reduceLT, Int.reduceEq, Int.reduceNeg, reduceCtorEq, ↓reduceIte, hb, z1]))))
  · obtain ⟨t, xr, yr, sxr, syr, rfl⟩ := h
    have dd := dcells3 sxr syr sn2
    (repeat' (first | simp -dsimp (maxSteps := 2000000) (disch := first | omega | (simp; done) | (simp; omega)) only [SA, SB, SC, SD, SE, SF, SG, SI, Nat.reduceLT, Nat.reduceAdd, Nat.reduceSub, Nat.reduceMul, Nat.reduceLeDiff, Nat.reduceEqDiff, Nat.reduceBEq, Int.reduceToNat, Int.reduceLE, Int.reduceLT, Int.reduceEq, Int.reduceNeg, reduceCtorEq, ↓reduceIte, dd] | refine Cut.go ?_ | refine Both.intro ?_ ?_ | refine awake_call ?_ | (refine Br.intro ?_ ?_ <;> intro hb <;> have hb' := hb <;> (try simp only [SH] at hb') <;> (try simp -dsimp (maxSteps := 2000000) (disch := first | omega | (simp; done) | (simp; omega)) only [SA, SB, SC, SD, SE, SF, SG, SI, Nat.reduceLT, Nat.reduceAdd, Nat.reduceSub, Nat.reduceMul, Nat.reduceLeDiff, Nat.reduceEqDiff, Nat.reduceBEq, Int.reduceToNat, Int.reduceLE, Int.reduceLT, Int.reduceEq, Int.reduceNeg, reduceCtorEq, ↓reduceIte, hb, dd]))))
end Go.Proofs.YthiidchbaicfgaaGreatDoor
