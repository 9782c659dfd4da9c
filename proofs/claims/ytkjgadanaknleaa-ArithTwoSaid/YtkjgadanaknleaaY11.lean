/-
  THE WALKS, PART 51: the document reckons a node of two, and one that gives.
-/
import Derived.Test.YtkjgadanaknleaaY10
namespace Go.Proofs.Ytkjgadanaknleaa
open Go Go.Id
set_option linter.unusedSimpArgs false
set_option linter.unusedVariables false
set_option maxRecDepth 100000
set_option maxHeartbeats 4000000

theorem rk_gives (t a : Tok) (x : Nd) (hx : NdOk (.gives t a x)) (hg : rgives t.sign = true) (ih : RK x) : RK (.gives t a x) := by
  intro σ w l hw hv
  refine Ok.fresh fun hf => Ok.drop ?_
  show Ok Try.prog 24 [.agg [.str t.sign, .str t.name, .int .i64 t.n, .slc 4 [nodeD a .nils, nodeD x.tok x.kids] .exact], w] σ _
  apply en24
  have hws := hw.scal
  have hwd := dc_scal hws
  have hwo := so_of hws
  have hsn : t.sign ≠ [] := by rintro h; rw [h] at hg; revert hg; decide
  have e1 : (t.sign == []) = false := by simpa using hsn
  have hsl := hx.2.1
  have hl1 : 0 < t.sign.length := List.length_pos_iff.2 hsn
  have hl2 : ((t.sign.length : Int) - 1).toNat = t.sign.length - 1 := by omega
  have z0 : ((0 : Int) != 0) = false := rfl
  have hna : dcells (nodeD a .nils) = some [.str a.sign, .str a.name, .int .i64 a.n, .nils] := rfl
  simp -dsimp (maxSteps := 2000000) (disch := first | omega | (simp; done) | (simp; omega)) only [SA, SB, SC, SD, SE, SF, SG, Nat.reduceLT, Nat.reduceAdd, Nat.reduceSub, Nat.reduceMul, Nat.reduceLeDiff, Nat.reduceEqDiff, Nat.reduceBEq, Int.reduceToNat, Int.reduceLE, Int.reduceLT, Int.reduceEq, Int.reduceNeg, reduceCtorEq, ↓reduceIte, ic24, List.replicate_succ, List.replicate_zero]
  (repeat' (first | simp -dsimp (maxSteps := 2000000) (disch := first | omega | (simp; done) | (simp; omega)) only [SA, SB, SC, SD, SE, SF, SG, Nat.reduceLT, Nat.reduceAdd, Nat.reduceSub, Nat.reduceMul, Nat.reduceLeDiff, Nat.reduceEqDiff, Nat.reduceBEq, Int.reduceToNat, Int.reduceLE, Int.reduceLT, Int.reduceEq, Int.reduceNeg, reduceCtorEq, ↓reduceIte, e1, hg, hws, hwd, hwo, ix_0, ix_1, nodeD_dc, kids_sc, ite_ne] | refine Cut.go ?_ | refine Both.intro ?_ ?_ | refine rgives_call ?_ | (refine Br.intro ?_ ?_ <;> intro hb <;> have hb' := hb <;> (try simp only [SH] at hb') <;> (try simp -dsimp (maxSteps := 2000000) (disch := first | omega | (simp; done) | (simp; omega)) only [SA, SB, SC, SD, SE, SF, SG, Nat.reduceLT, Nat.reduceAdd, Nat.reduceSub, Nat.reduceMul, Nat.reduceLeDiff, Nat.reduceEqDiff, Nat.reduceBEq, Int.reduceToNat, Int.reduceLE, Int.reduceLT, Int.reduceEq, Int.reduceNeg, reduceCtorEq, ↓reduceIte, hb, e1, hg, hws, hwd, hwo, ix_0, ix_1, nodeD_dc, kids_sc, ite_ne]))))
  refine ih.call hw hv fun n1 hn1 => ⟨fun r hr w1 hw1 => ?_, fun e he n' w1 hws1 => ?_⟩
  rotate_left
  · simp only [alloc_next] at hn1
    have hne : (e != 0) = true := by simpa using eval_nz2 _ _ _ he
    have hwd1 := dc_scal hws1
    have hwo1 := so_of hws1
    (repeat' (first | simp -dsimp (maxSteps := 2000000) (disch := first | omega | (simp; done) | (simp; omega)) only [SA, SB, SC, SD, SE, SF, SG, Nat.reduceLT, Nat.reduceAdd, Nat.reduceSub, Nat.reduceMul, Nat.reduceLeDiff, Nat.reduceEqDiff, Nat.reduceBEq, Int.reduceToNat, Int.reduceLE, Int.reduceLT, Int.reduceEq, Int.reduceNeg, reduceCtorEq, ↓reduceIte, hne, hws1, hwd1, hwo1, ite_ne] | refine Cut.go ?_ | refine Both.intro ?_ ?_ | (refine Br.intro ?_ ?_ <;> intro hb <;> have hb' := hb <;> (try simp only [SH] at hb') <;> (try simp -dsimp (maxSteps := 2000000) (disch := first | omega | (simp; done) | (simp; omega)) only [SA, SB, SC, SD, SE, SF, SG, Nat.reduceLT, Nat.reduceAdd, Nat.reduceSub, Nat.reduceMul, Nat.reduceLeDiff, Nat.reduceEqDiff, Nat.reduceBEq, Int.reduceToNat, Int.reduceLE, Int.reduceLT, Int.reduceEq, Int.reduceNeg, reduceCtorEq, ↓reduceIte, hb, hne, hws1, hwd1, hwo1, ite_ne]))))
    exact gk_err n' w1 hf (fun j hj => (by first | rfl | (simp (disch := omega) only [put_obj, alloc_obj, put_next, alloc_next, ite_ne]; done))) (by first | omega | (simp only [put_next, alloc_next]; omega)) (by rw [evalF, he]) hws1
  obtain ⟨i1, i2⟩ := eval_inv x l r hx.2.2.2 hv hr
  have hws1 := hw1.scal
  have hwd1 := dc_scal hws1
  have hwo1 := so_of hws1
  simp only [alloc_next] at hn1
  (repeat' (first | simp -dsimp (maxSteps := 2000000) (disch := first | omega | (simp; done) | (simp; omega)) only [SA, SB, SC, SD, SE, SF, SG, Nat.reduceLT, Nat.reduceAdd, Nat.reduceSub, Nat.reduceMul, Nat.reduceLeDiff, Nat.reduceEqDiff, Nat.reduceBEq, Int.reduceToNat, Int.reduceLE, Int.reduceLT, Int.reduceEq, Int.reduceNeg, reduceCtorEq, ↓reduceIte, hws1, hwd1, hwo1, ix_0, hna, ite_ne, z0] | refine Cut.go ?_ | refine Both.intro ?_ ?_ | (refine Br.intro ?_ ?_ <;> intro hb <;> have hb' := hb <;> (try simp only [SH] at hb') <;> (try simp -dsimp (maxSteps := 2000000) (disch := first | omega | (simp; done) | (simp; omega)) only [SA, SB, SC, SD, SE, SF, SG, Nat.reduceLT, Nat.reduceAdd, Nat.reduceSub, Nat.reduceMul, Nat.reduceLeDiff, Nat.reduceEqDiff, Nat.reduceBEq, Int.reduceToNat, Int.reduceLE, Int.reduceLT, Int.reduceEq, Int.reduceNeg, reduceCtorEq, ↓reduceIte, hb, hws1, hwd1, hwo1, ix_0, hna, ite_ne, z0]))))
  · -- it is only given
    have hgv : giveF t.sign a.name r.1 r.2 = .ok r.1 := by rw [giveF, if_pos hb]
    refine rput_call hw1 i2.1 i1 fun n2 hn2 => ⟨fun l' hl' w2 hw2 => ?_, fun e he n' w2 hws2 => ?_⟩
    · simp only [put_next, alloc_next] at hn2
      have hws2 := hw2.scal
      have hwd2 := dc_scal hws2
      (repeat' (first | simp -dsimp (maxSteps := 2000000) (disch := first | omega | (simp; done) | (simp; omega)) only [SA, SB, SC, SD, SE, SF, SG, Nat.reduceLT, Nat.reduceAdd, Nat.reduceSub, Nat.reduceMul, Nat.reduceLeDiff, Nat.reduceEqDiff, Nat.reduceBEq, Int.reduceToNat, Int.reduceLE, Int.reduceLT, Int.reduceEq, Int.reduceNeg, reduceCtorEq, ↓reduceIte, hws2, hwd2, ite_ne] | refine Cut.go ?_ | refine Both.intro ?_ ?_ | (refine Br.intro ?_ ?_ <;> intro hb <;> have hb' := hb <;> (try simp only [SH] at hb') <;> (try simp -dsimp (maxSteps := 2000000) (disch := first | omega | (simp; done) | (simp; omega)) only [SA, SB, SC, SD, SE, SF, SG, Nat.reduceLT, Nat.reduceAdd, Nat.reduceSub, Nat.reduceMul, Nat.reduceLeDiff, Nat.reduceEqDiff, Nat.reduceBEq, Int.reduceToNat, Int.reduceLE, Int.reduceLT, Int.reduceEq, Int.reduceNeg, reduceCtorEq, ↓reduceIte, hb, hws2, hwd2, ite_ne]))))
      exact gk_ok hf (fun j hj => (by first | rfl | (simp (disch := omega) only [put_obj, alloc_obj, put_next, alloc_next, ite_ne]; done))) (by first | omega | (simp only [put_next, alloc_next]; omega)) (by rw [evalF, hr]; simp only [hgv, hl']) hw2
    · simp only [put_next, alloc_next] at hn2
      have hwd2 := dc_scal hws2
      (repeat' (first | simp -dsimp (maxSteps := 2000000) (disch := first | omega | (simp; done) | (simp; omega)) only [SA, SB, SC, SD, SE, SF, SG, Nat.reduceLT, Nat.reduceAdd, Nat.reduceSub, Nat.reduceMul, Nat.reduceLeDiff, Nat.reduceEqDiff, Nat.reduceBEq, Int.reduceToNat, Int.reduceLE, Int.reduceLT, Int.reduceEq, Int.reduceNeg, reduceCtorEq, ↓reduceIte, hws2, hwd2, ite_ne] | refine Cut.go ?_ | refine Both.intro ?_ ?_ | (refine Br.intro ?_ ?_ <;> intro hb <;> have hb' := hb <;> (try simp only [SH] at hb') <;> (try simp -dsimp (maxSteps := 2000000) (disch := first | omega | (simp; done) | (simp; omega)) only [SA, SB, SC, SD, SE, SF, SG, Nat.reduceLT, Nat.reduceAdd, Nat.reduceSub, Nat.reduceMul, Nat.reduceLeDiff, Nat.reduceEqDiff, Nat.reduceBEq, Int.reduceToNat, Int.reduceLE, Int.reduceLT, Int.reduceEq, Int.reduceNeg, reduceCtorEq, ↓reduceIte, hb, hws2, hwd2, ite_ne]))))
      exact gk_err n' w2 hf (fun j hj => (by first | rfl | (simp (disch := omega) only [put_obj, alloc_obj, put_next, alloc_next, ite_ne]; done))) (by first | omega | (simp only [put_next, alloc_next]; omega)) (by rw [evalF, hr]; simp only [hgv, he]) hws2
  refine rval_call hw1 i2 fun v e hve => ?_
  have hgv : giveF t.sign a.name r.1 r.2 = match getF a.name r.2 with
      | .error e => .error e
      | .ok g => twoF (t.sign.take (t.sign.length - 1)) g r.1 := by rw [giveF, if_neg (by simpa using hb')]; rfl
  have hve2 := hve
  cases hgt : getF a.name r.2 with
  | error e' =>
    rw [hgt] at hve hgv
    cases hve
    have hne : (e != 0) = true := by simpa using get_nz2 hgt
    (repeat' (first | simp -dsimp (maxSteps := 2000000) (disch := first | omega | (simp; done) | (simp; omega)) only [SA, SB, SC, SD, SE, SF, SG, Nat.reduceLT, Nat.reduceAdd, Nat.reduceSub, Nat.reduceMul, Nat.reduceLeDiff, Nat.reduceEqDiff, Nat.reduceBEq, Int.reduceToNat, Int.reduceLE, Int.reduceLT, Int.reduceEq, Int.reduceNeg, reduceCtorEq, ↓reduceIte, hne, ite_ne] | refine Cut.go ?_ | refine Both.intro ?_ ?_ | (refine Br.intro ?_ ?_ <;> intro hb <;> have hb' := hb <;> (try simp only [SH] at hb') <;> (try simp -dsimp (maxSteps := 2000000) (disch := first | omega | (simp; done) | (simp; omega)) only [SA, SB, SC, SD, SE, SF, SG, Nat.reduceLT, Nat.reduceAdd, Nat.reduceSub, Nat.reduceMul, Nat.reduceLeDiff, Nat.reduceEqDiff, Nat.reduceBEq, Int.reduceToNat, Int.reduceLE, Int.reduceLT, Int.reduceEq, Int.reduceNeg, reduceCtorEq, ↓reduceIte, hb, hne, ite_ne]))))
    exact gk_err 0 .nils hf (fun j hj => (by first | rfl | (simp (disch := omega) only [put_obj, alloc_obj, put_next, alloc_next, ite_ne]; done))) (by first | omega | (simp only [put_next, alloc_next]; omega)) (by rw [evalF, hr]; simp only [hgv]) rfl
  | ok g =>
    rw [hgt] at hve hgv
    replace hgv : giveF t.sign a.name r.1 r.2 = twoF (t.sign.take (t.sign.length - 1)) g r.1 := hgv
    obtain ⟨rfl, rfl⟩ := hve
    (repeat' (first | simp -dsimp (maxSteps := 2000000) (disch := first | omega | (simp; done) | (simp; omega)) only [SA, SB, SC, SD, SE, SF, SG, Nat.reduceLT, Nat.reduceAdd, Nat.reduceSub, Nat.reduceMul, Nat.reduceLeDiff, Nat.reduceEqDiff, Nat.reduceBEq, Int.reduceToNat, Int.reduceLE, Int.reduceLT, Int.reduceEq, Int.reduceNeg, reduceCtorEq, ↓reduceIte, z0, hl2, hws1, hwd1, hwo1, ite_ne] | refine Cut.go ?_ | refine Both.intro ?_ ?_ | (refine Br.intro ?_ ?_ <;> intro hb <;> have hb' := hb <;> (try simp only [SH] at hb') <;> (try simp -dsimp (maxSteps := 2000000) (disch := first | omega | (simp; done) | (simp; omega)) only [SA, SB, SC, SD, SE, SF, SG, Nat.reduceLT, Nat.reduceAdd, Nat.reduceSub, Nat.reduceMul, Nat.reduceLeDiff, Nat.reduceEqDiff, Nat.reduceBEq, Int.reduceToNat, Int.reduceLE, Int.reduceLT, Int.reduceEq, Int.reduceNeg, reduceCtorEq, ↓reduceIte, hb, z0, hl2, hws1, hwd1, hwo1, ite_ne]))))
    refine rtwo_call fun v2 e2 hv2 => ?_
    cases htw : twoF (t.sign.take (t.sign.length - 1)) v r.1 with
    | error e' =>
      rw [htw] at hv2 hgv
      cases hv2
      have hne : (e2 != 0) = true := by simpa using two_nz2 htw
      (repeat' (first | simp -dsimp (maxSteps := 2000000) (disch := first | omega | (simp; done) | (simp; omega)) only [SA, SB, SC, SD, SE, SF, SG, Nat.reduceLT, Nat.reduceAdd, Nat.reduceSub, Nat.reduceMul, Nat.reduceLeDiff, Nat.reduceEqDiff, Nat.reduceBEq, Int.reduceToNat, Int.reduceLE, Int.reduceLT, Int.reduceEq, Int.reduceNeg, reduceCtorEq, ↓reduceIte, hne, ite_ne] | refine Cut.go ?_ | refine Both.intro ?_ ?_ | (refine Br.intro ?_ ?_ <;> intro hb <;> have hb' := hb <;> (try simp only [SH] at hb') <;> (try simp -dsimp (maxSteps := 2000000) (disch := first | omega | (simp; done) | (simp; omega)) only [SA, SB, SC, SD, SE, SF, SG, Nat.reduceLT, Nat.reduceAdd, Nat.reduceSub, Nat.reduceMul, Nat.reduceLeDiff, Nat.reduceEqDiff, Nat.reduceBEq, Int.reduceToNat, Int.reduceLE, Int.reduceLT, Int.reduceEq, Int.reduceNeg, reduceCtorEq, ↓reduceIte, hb, hne, ite_ne]))))
      exact gk_err 0 .nils hf (fun j hj => (by first | rfl | (simp (disch := omega) only [put_obj, alloc_obj, put_next, alloc_next, ite_ne]; done))) (by first | omega | (simp only [put_next, alloc_next]; omega)) (by rw [evalF, hr]; simp only [hgv]) rfl
    | ok g =>
      rw [htw] at hv2 hgv
      obtain ⟨rfl, rfl⟩ := hv2
      have hiv : I64 v2 := i1.give hgv
      (repeat' (first | simp -dsimp (maxSteps := 2000000) (disch := first | omega | (simp; done) | (simp; omega)) only [SA, SB, SC, SD, SE, SF, SG, Nat.reduceLT, Nat.reduceAdd, Nat.reduceSub, Nat.reduceMul, Nat.reduceLeDiff, Nat.reduceEqDiff, Nat.reduceBEq, Int.reduceToNat, Int.reduceLE, Int.reduceLT, Int.reduceEq, Int.reduceNeg, reduceCtorEq, ↓reduceIte, z0, hws1, hwd1, hwo1, ix_0, hna, ite_ne] | refine Cut.go ?_ | refine Both.intro ?_ ?_ | (refine Br.intro ?_ ?_ <;> intro hb <;> have hb' := hb <;> (try simp only [SH] at hb') <;> (try simp -dsimp (maxSteps := 2000000) (disch := first | omega | (simp; done) | (simp; omega)) only [SA, SB, SC, SD, SE, SF, SG, Nat.reduceLT, Nat.reduceAdd, Nat.reduceSub, Nat.reduceMul, Nat.reduceLeDiff, Nat.reduceEqDiff, Nat.reduceBEq, Int.reduceToNat, Int.reduceLE, Int.reduceLT, Int.reduceEq, Int.reduceNeg, reduceCtorEq, ↓reduceIte, hb, z0, hws1, hwd1, hwo1, ix_0, hna, ite_ne]))))
      refine rput_call hw1 i2.1 hiv fun n2 hn2 => ⟨fun l' hl' w2 hw2 => ?_, fun e he n' w2 hws2 => ?_⟩
      · simp only [put_next, alloc_next] at hn2
        have hws2 := hw2.scal
        have hwd2 := dc_scal hws2
        (repeat' (first | simp -dsimp (maxSteps := 2000000) (disch := first | omega | (simp; done) | (simp; omega)) only [SA, SB, SC, SD, SE, SF, SG, Nat.reduceLT, Nat.reduceAdd, Nat.reduceSub, Nat.reduceMul, Nat.reduceLeDiff, Nat.reduceEqDiff, Nat.reduceBEq, Int.reduceToNat, Int.reduceLE, Int.reduceLT, Int.reduceEq, Int.reduceNeg, reduceCtorEq, ↓reduceIte, hws2, hwd2, ite_ne] | refine Cut.go ?_ | refine Both.intro ?_ ?_ | (refine Br.intro ?_ ?_ <;> intro hb <;> have hb' := hb <;> (try simp only [SH] at hb') <;> (try simp -dsimp (maxSteps := 2000000) (disch := first | omega | (simp; done) | (simp; omega)) only [SA, SB, SC, SD, SE, SF, SG, Nat.reduceLT, Nat.reduceAdd, Nat.reduceSub, Nat.reduceMul, Nat.reduceLeDiff, Nat.reduceEqDiff, Nat.reduceBEq, Int.reduceToNat, Int.reduceLE, Int.reduceLT, Int.reduceEq, Int.reduceNeg, reduceCtorEq, ↓reduceIte, hb, hws2, hwd2, ite_ne]))))
        exact gk_ok hf (fun j hj => (by first | rfl | (simp (disch := omega) only [put_obj, alloc_obj, put_next, alloc_next, ite_ne]; done))) (by first | omega | (simp only [put_next, alloc_next]; omega)) (by rw [evalF, hr]; simp only [hgv, hl']) hw2
      · simp only [put_next, alloc_next] at hn2
        have hwd2 := dc_scal hws2
        (repeat' (first | simp -dsimp (maxSteps := 2000000) (disch := first | omega | (simp; done) | (simp; omega)) only [SA, SB, SC, SD, SE, SF, SG, Nat.reduceLT, Nat.reduceAdd, Nat.reduceSub, Nat.reduceMul, Nat.reduceLeDiff, Nat.reduceEqDiff, Nat.reduceBEq, Int.reduceToNat, Int.reduceLE, Int.reduceLT, Int.reduceEq, Int.reduceNeg, reduceCtorEq, ↓reduceIte, hws2, hwd2, ite_ne] | refine Cut.go ?_ | refine Both.intro ?_ ?_ | (refine Br.intro ?_ ?_ <;> intro hb <;> have hb' := hb <;> (try simp only [SH] at hb') <;> (try simp -dsimp (maxSteps := 2000000) (disch := first | omega | (simp; done) | (simp; omega)) only [SA, SB, SC, SD, SE, SF, SG, Nat.reduceLT, Nat.reduceAdd, Nat.reduceSub, Nat.reduceMul, Nat.reduceLeDiff, Nat.reduceEqDiff, Nat.reduceBEq, Int.reduceToNat, Int.reduceLE, Int.reduceLT, Int.reduceEq, Int.reduceNeg, reduceCtorEq, ↓reduceIte, hb, hws2, hwd2, ite_ne]))))
        exact gk_err n' w2 hf (fun j hj => (by first | rfl | (simp (disch := omega) only [put_obj, alloc_obj, put_next, alloc_next, ite_ne]; done))) (by first | omega | (simp only [put_next, alloc_next]; omega)) (by rw [evalF, hr]; simp only [hgv, he]) hws2
theorem rk_two (t : Tok) (x y : Nd) (hx : NdOk (.two t x y)) (hg : rgives t.sign = false) (ih1 : RK x) (ih2 : RK y) : RK (.two t x y) := by
  intro σ w l hw hv
  refine Ok.fresh fun hf => Ok.drop ?_
  show Ok Try.prog 24 [.agg [.str t.sign, .str t.name, .int .i64 t.n, .slc 4 [nodeD x.tok x.kids, nodeD y.tok y.kids] .exact], w] σ _
  apply en24
  have hws := hw.scal
  have hwd := dc_scal hws
  have hwo := so_of hws
  have e1 : (t.sign == []) = false := by simpa using hx.2.2.1
  have e3 : (t.sign == [63]) = false := by simpa using hx.2.2.2.2.1
  have e4 : (((2 : Nat) : Int) == 1) = false := rfl
  have z0 : ((0 : Int) != 0) = false := rfl
  simp -dsimp (maxSteps := 2000000) (disch := first | omega | (simp; done) | (simp; omega)) only [SA, SB, SC, SD, SE, SF, SG, Nat.reduceLT, Nat.reduceAdd, Nat.reduceSub, Nat.reduceMul, Nat.reduceLeDiff, Nat.reduceEqDiff, Nat.reduceBEq, Int.reduceToNat, Int.reduceLE, Int.reduceLT, Int.reduceEq, Int.reduceNeg, reduceCtorEq, ↓reduceIte, ic24, List.replicate_succ, List.replicate_zero]
  (repeat' (first | simp -dsimp (maxSteps := 2000000) (disch := first | omega | (simp; done) | (simp; omega)) only [SA, SB, SC, SD, SE, SF, SG, Nat.reduceLT, Nat.reduceAdd, Nat.reduceSub, Nat.reduceMul, Nat.reduceLeDiff, Nat.reduceEqDiff, Nat.reduceBEq, Int.reduceToNat, Int.reduceLE, Int.reduceLT, Int.reduceEq, Int.reduceNeg, reduceCtorEq, ↓reduceIte, e1, hg, e3, e4, hws, hwd, hwo, ix_0, nodeD_dc, kids_sc, ite_ne] | refine Cut.go ?_ | refine Both.intro ?_ ?_ | refine rgives_call ?_ | (refine Br.intro ?_ ?_ <;> intro hb <;> have hb' := hb <;> (try simp only [SH] at hb') <;> (try simp -dsimp (maxSteps := 2000000) (disch := first | omega | (simp; done) | (simp; omega)) only [SA, SB, SC, SD, SE, SF, SG, Nat.reduceLT, Nat.reduceAdd, Nat.reduceSub, Nat.reduceMul, Nat.reduceLeDiff, Nat.reduceEqDiff, Nat.reduceBEq, Int.reduceToNat, Int.reduceLE, Int.reduceLT, Int.reduceEq, Int.reduceNeg, reduceCtorEq, ↓reduceIte, hb, e1, hg, e3, e4, hws, hwd, hwo, ix_0, nodeD_dc, kids_sc, ite_ne]))))
  refine ih1.call hw hv fun n1 hn1 => ⟨fun r hr w1 hw1 => ?_, fun e he n' w1 hws1 => ?_⟩
  rotate_left
  · simp only [alloc_next] at hn1
    have hne : (e != 0) = true := by simpa using eval_nz2 _ _ _ he
    have hwd1 := dc_scal hws1
    have hwo1 := so_of hws1
    (repeat' (first | simp -dsimp (maxSteps := 2000000) (disch := first | omega | (simp; done) | (simp; omega)) only [SA, SB, SC, SD, SE, SF, SG, Nat.reduceLT, Nat.reduceAdd, Nat.reduceSub, Nat.reduceMul, Nat.reduceLeDiff, Nat.reduceEqDiff, Nat.reduceBEq, Int.reduceToNat, Int.reduceLE, Int.reduceLT, Int.reduceEq, Int.reduceNeg, reduceCtorEq, ↓reduceIte, hne, hws1, hwd1, hwo1, ite_ne] | refine Cut.go ?_ | refine Both.intro ?_ ?_ | (refine Br.intro ?_ ?_ <;> intro hb <;> have hb' := hb <;> (try simp only [SH] at hb') <;> (try simp -dsimp (maxSteps := 2000000) (disch := first | omega | (simp; done) | (simp; omega)) only [SA, SB, SC, SD, SE, SF, SG, Nat.reduceLT, Nat.reduceAdd, Nat.reduceSub, Nat.reduceMul, Nat.reduceLeDiff, Nat.reduceEqDiff, Nat.reduceBEq, Int.reduceToNat, Int.reduceLE, Int.reduceLT, Int.reduceEq, Int.reduceNeg, reduceCtorEq, ↓reduceIte, hb, hne, hws1, hwd1, hwo1, ite_ne]))))
    exact gk_err n' w1 hf (fun j hj => (by first | rfl | (simp (disch := omega) only [put_obj, alloc_obj, put_next, alloc_next, ite_ne]; done))) (by first | omega | (simp only [put_next, alloc_next]; omega)) (by rw [evalF, he]) hws1
  obtain ⟨i1, i2⟩ := eval_inv x l r hx.2.2.2.2.2.1 hv hr
  have hws1 := hw1.scal
  have hwd1 := dc_scal hws1
  have hwo1 := so_of hws1
  simp only [alloc_next] at hn1
  have hev0 : evalF (.two t x y) l = if t.sign == [38, 38] && r.1 == 0 then .ok (0, r.2) else
      if t.sign == [124, 124] && r.1 != 0 then .ok (1, r.2) else
      match evalF y r.2 with
      | .error e => .error e
      | .ok q => if t.sign == [38, 38] || t.sign == [124, 124] then .ok (flagI (q.1 != 0), q.2) else
        match twoF t.sign r.1 q.1 with
        | .error e => .error e
        | .ok v => .ok (v, q.2) := by rw [evalF, hr]; rfl
  have q12 : ¬ ((t.sign == [38, 38]) = true ∧ (t.sign == [124, 124]) = true) := by
    rintro ⟨h1, h2⟩
    rw [beq_iff_eq] at h1 h2
    rw [h1] at h2; cases h2
  cases c1 : t.sign == [38, 38] <;> cases c2 : t.sign == [124, 124]
  rotate_right
  · exact absurd ⟨c1, c2⟩ q12
  all_goals
    rw [c1, c2] at hev0
    simp only [Bool.true_and, Bool.false_and, Bool.or_true, Bool.or_false, Bool.true_or, Bool.false_or, Bool.false_eq_true, if_true, if_false] at hev0
    (repeat' (first | simp -dsimp (maxSteps := 2000000) (disch := first | omega | (simp; done) | (simp; omega)) only [SA, SB, SC, SD, SE, SF, SG, Nat.reduceLT, Nat.reduceAdd, Nat.reduceSub, Nat.reduceMul, Nat.reduceLeDiff, Nat.reduceEqDiff, Nat.reduceBEq, Int.reduceToNat, Int.reduceLE, Int.reduceLT, Int.reduceEq, Int.reduceNeg, reduceCtorEq, ↓reduceIte, e1, hg, e3, e4, c1, c2, hws1, hwd1, hwo1, ix_0, ix_1, nodeD_dc, kids_sc, ite_ne, z0] | refine Cut.go ?_ | refine Both.intro ?_ ?_ | refine truth_call ?_ | (refine Br.intro ?_ ?_ <;> intro hb <;> have hb' := hb <;> (try simp only [SH] at hb') <;> (try simp -dsimp (maxSteps := 2000000) (disch := first | omega | (simp; done) | (simp; omega)) only [SA, SB, SC, SD, SE, SF, SG, Nat.reduceLT, Nat.reduceAdd, Nat.reduceSub, Nat.reduceMul, Nat.reduceLeDiff, Nat.reduceEqDiff, Nat.reduceBEq, Int.reduceToNat, Int.reduceLE, Int.reduceLT, Int.reduceEq, Int.reduceNeg, reduceCtorEq, ↓reduceIte, hb, e1, hg, e3, e4, c1, c2, hws1, hwd1, hwo1, ix_0, ix_1, nodeD_dc, kids_sc, ite_ne, z0]))))
  any_goals (exact gk_ok (n := 1) hf (fun j hj => (by first | rfl | (simp (disch := omega) only [put_obj, alloc_obj, put_next, alloc_next, ite_ne]; done))) (by first | omega | (simp only [put_next, alloc_next]; omega)) (by rw [hev0, if_pos hb]) hw1)
  any_goals (exact gk_ok (n := 0) hf (fun j hj => (by first | rfl | (simp (disch := omega) only [put_obj, alloc_obj, put_next, alloc_next, ite_ne]; done))) (by first | omega | (simp only [put_next, alloc_next]; omega)) (by rw [hev0, if_pos hb]) hw1)
  · refine ih2.call hw1 i2 fun n2 hn2 => ⟨fun q hq w2 hw2 => ?_, fun e he n' w2 hws2 => ?_⟩
    · simp only [put_next, alloc_next] at hn2
      have hws2 := hw2.scal
      have hwd2 := dc_scal hws2
      have hwo2 := so_of hws2
      (repeat' (first | simp -dsimp (maxSteps := 2000000) (disch := first | omega | (simp; done) | (simp; omega)) only [SA, SB, SC, SD, SE, SF, SG, Nat.reduceLT, Nat.reduceAdd, Nat.reduceSub, Nat.reduceMul, Nat.reduceLeDiff, Nat.reduceEqDiff, Nat.reduceBEq, Int.reduceToNat, Int.reduceLE, Int.reduceLT, Int.reduceEq, Int.reduceNeg, reduceCtorEq, ↓reduceIte, c1, c2, z0, hws2, hwd2, hwo2, ite_ne] | refine Cut.go ?_ | refine Both.intro ?_ ?_ | refine truth_call ?_ | (refine Br.intro ?_ ?_ <;> intro hb <;> have hb' := hb <;> (try simp only [SH] at hb') <;> (try simp -dsimp (maxSteps := 2000000) (disch := first | omega | (simp; done) | (simp; omega)) only [SA, SB, SC, SD, SE, SF, SG, Nat.reduceLT, Nat.reduceAdd, Nat.reduceSub, Nat.reduceMul, Nat.reduceLeDiff, Nat.reduceEqDiff, Nat.reduceBEq, Int.reduceToNat, Int.reduceLE, Int.reduceLT, Int.reduceEq, Int.reduceNeg, reduceCtorEq, ↓reduceIte, hb, c1, c2, z0, hws2, hwd2, hwo2, ite_ne]))))
      refine rtwo_call fun v e hve => ?_
      (repeat' (first | simp -dsimp (maxSteps := 2000000) (disch := first | omega | (simp; done) | (simp; omega)) only [SA, SB, SC, SD, SE, SF, SG, Nat.reduceLT, Nat.reduceAdd, Nat.reduceSub, Nat.reduceMul, Nat.reduceLeDiff, Nat.reduceEqDiff, Nat.reduceBEq, Int.reduceToNat, Int.reduceLE, Int.reduceLT, Int.reduceEq, Int.reduceNeg, reduceCtorEq, ↓reduceIte, hws2, hwd2, hwo2, ite_ne] | refine Cut.go ?_ | refine Both.intro ?_ ?_ | (refine Br.intro ?_ ?_ <;> intro hb <;> have hb' := hb <;> (try simp only [SH] at hb') <;> (try simp -dsimp (maxSteps := 2000000) (disch := first | omega | (simp; done) | (simp; omega)) only [SA, SB, SC, SD, SE, SF, SG, Nat.reduceLT, Nat.reduceAdd, Nat.reduceSub, Nat.reduceMul, Nat.reduceLeDiff, Nat.reduceEqDiff, Nat.reduceBEq, Int.reduceToNat, Int.reduceLE, Int.reduceLT, Int.reduceEq, Int.reduceNeg, reduceCtorEq, ↓reduceIte, hb, hws2, hwd2, hwo2, ite_ne]))))
      cases htw : twoF t.sign r.1 q.1 with
      | ok g =>
        rw [htw] at hve
        obtain ⟨rfl, rfl⟩ := hve
        exact gk_ok hf (fun j hj => (by first | rfl | (simp (disch := omega) only [put_obj, alloc_obj, put_next, alloc_next, ite_ne]; done))) (by first | omega | (simp only [put_next, alloc_next]; omega)) (by rw [hev0, hq]; simp only [htw]) hw2
      | error e' =>
        rw [htw] at hve
        cases hve
        exact gk_err v w2 hf (fun j hj => (by first | rfl | (simp (disch := omega) only [put_obj, alloc_obj, put_next, alloc_next, ite_ne]; done))) (by first | omega | (simp only [put_next, alloc_next]; omega)) (by rw [hev0, hq]; simp only [htw]) hws2
    · simp only [put_next, alloc_next] at hn2
      have hne : (e != 0) = true := by simpa using eval_nz2 _ _ _ he
      have hwd2 := dc_scal hws2
      have hwo2 := so_of hws2
      (repeat' (first | simp -dsimp (maxSteps := 2000000) (disch := first | omega | (simp; done) | (simp; omega)) only [SA, SB, SC, SD, SE, SF, SG, Nat.reduceLT, Nat.reduceAdd, Nat.reduceSub, Nat.reduceMul, Nat.reduceLeDiff, Nat.reduceEqDiff, Nat.reduceBEq, Int.reduceToNat, Int.reduceLE, Int.reduceLT, Int.reduceEq, Int.reduceNeg, reduceCtorEq, ↓reduceIte, hne, hws2, hwd2, hwo2, ite_ne] | refine Cut.go ?_ | refine Both.intro ?_ ?_ | (refine Br.intro ?_ ?_ <;> intro hb <;> have hb' := hb <;> (try simp only [SH] at hb') <;> (try simp -dsimp (maxSteps := 2000000) (disch := first | omega | (simp; done) | (simp; omega)) only [SA, SB, SC, SD, SE, SF, SG, Nat.reduceLT, Nat.reduceAdd, Nat.reduceSub, Nat.reduceMul, Nat.reduceLeDiff, Nat.reduceEqDiff, Nat.reduceBEq, Int.reduceToNat, Int.reduceLE, Int.reduceLT, Int.reduceEq, Int.reduceNeg, reduceCtorEq, ↓reduceIte, hb, hne, hws2, hwd2, hwo2, ite_ne]))))
      exact gk_err n' w2 hf (fun j hj => (by first | rfl | (simp (disch := omega) only [put_obj, alloc_obj, put_next, alloc_next, ite_ne]; done))) (by first | omega | (simp only [put_next, alloc_next]; omega)) (by rw [hev0, he]) hws2
  · refine ih2.call hw1 i2 fun n2 hn2 => ⟨fun q hq w2 hw2 => ?_, fun e he n' w2 hws2 => ?_⟩
    · simp only [put_next, alloc_next] at hn2
      have hws2 := hw2.scal
      have hwd2 := dc_scal hws2
      have hwo2 := so_of hws2
      (repeat' (first | simp -dsimp (maxSteps := 2000000) (disch := first | omega | (simp; done) | (simp; omega)) only [SA, SB, SC, SD, SE, SF, SG, Nat.reduceLT, Nat.reduceAdd, Nat.reduceSub, Nat.reduceMul, Nat.reduceLeDiff, Nat.reduceEqDiff, Nat.reduceBEq, Int.reduceToNat, Int.reduceLE, Int.reduceLT, Int.reduceEq, Int.reduceNeg, reduceCtorEq, ↓reduceIte, c1, c2, z0, hws2, hwd2, hwo2, ite_ne] | refine Cut.go ?_ | refine Both.intro ?_ ?_ | refine truth_call ?_ | (refine Br.intro ?_ ?_ <;> intro hb <;> have hb' := hb <;> (try simp only [SH] at hb') <;> (try simp -dsimp (maxSteps := 2000000) (disch := first | omega | (simp; done) | (simp; omega)) only [SA, SB, SC, SD, SE, SF, SG, Nat.reduceLT, Nat.reduceAdd, Nat.reduceSub, Nat.reduceMul, Nat.reduceLeDiff, Nat.reduceEqDiff, Nat.reduceBEq, Int.reduceToNat, Int.reduceLE, Int.reduceLT, Int.reduceEq, Int.reduceNeg, reduceCtorEq, ↓reduceIte, hb, c1, c2, z0, hws2, hwd2, hwo2, ite_ne]))))
      refine rtwo_call fun v e hve => ?_
      (repeat' (first | simp -dsimp (maxSteps := 2000000) (disch := first | omega | (simp; done) | (simp; omega)) only [SA, SB, SC, SD, SE, SF, SG, Nat.reduceLT, Nat.reduceAdd, Nat.reduceSub, Nat.reduceMul, Nat.reduceLeDiff, Nat.reduceEqDiff, Nat.reduceBEq, Int.reduceToNat, Int.reduceLE, Int.reduceLT, Int.reduceEq, Int.reduceNeg, reduceCtorEq, ↓reduceIte, hws2, hwd2, hwo2, ite_ne] | refine Cut.go ?_ | refine Both.intro ?_ ?_ | (refine Br.intro ?_ ?_ <;> intro hb <;> have hb' := hb <;> (try simp only [SH] at hb') <;> (try simp -dsimp (maxSteps := 2000000) (disch := first | omega | (simp; done) | (simp; omega)) only [SA, SB, SC, SD, SE, SF, SG, Nat.reduceLT, Nat.reduceAdd, Nat.reduceSub, Nat.reduceMul, Nat.reduceLeDiff, Nat.reduceEqDiff, Nat.reduceBEq, Int.reduceToNat, Int.reduceLE, Int.reduceLT, Int.reduceEq, Int.reduceNeg, reduceCtorEq, ↓reduceIte, hb, hws2, hwd2, hwo2, ite_ne]))))
      cases htw : twoF t.sign r.1 q.1 with
      | ok g =>
        rw [htw] at hve
        obtain ⟨rfl, rfl⟩ := hve
        exact gk_ok hf (fun j hj => (by first | rfl | (simp (disch := omega) only [put_obj, alloc_obj, put_next, alloc_next, ite_ne]; done))) (by first | omega | (simp only [put_next, alloc_next]; omega)) (by rw [hev0, hq]; simp only [htw]) hw2
      | error e' =>
        rw [htw] at hve
        cases hve
        exact gk_err v w2 hf (fun j hj => (by first | rfl | (simp (disch := omega) only [put_obj, alloc_obj, put_next, alloc_next, ite_ne]; done))) (by first | omega | (simp only [put_next, alloc_next]; omega)) (by rw [hev0, hq]; simp only [htw]) hws2
    · simp only [put_next, alloc_next] at hn2
      have hne : (e != 0) = true := by simpa using eval_nz2 _ _ _ he
      have hwd2 := dc_scal hws2
      have hwo2 := so_of hws2
      (repeat' (first | simp -dsimp (maxSteps := 2000000) (disch := first | omega | (simp; done) | (simp; omega)) only [SA, SB, SC, SD, SE, SF, SG, Nat.reduceLT, Nat.reduceAdd, Nat.reduceSub, Nat.reduceMul, Nat.reduceLeDiff, Nat.reduceEqDiff, Nat.reduceBEq, Int.reduceToNat, Int.reduceLE, Int.reduceLT, Int.reduceEq, Int.reduceNeg, reduceCtorEq, ↓reduceIte, hne, hws2, hwd2, hwo2, ite_ne] | refine Cut.go ?_ | refine Both.intro ?_ ?_ | (refine Br.intro ?_ ?_ <;> intro hb <;> have hb' := hb <;> (try simp only [SH] at hb') <;> (try simp -dsimp (maxSteps := 2000000) (disch := first | omega | (simp; done) | (simp; omega)) only [SA, SB, SC, SD, SE, SF, SG, Nat.reduceLT, Nat.reduceAdd, Nat.reduceSub, Nat.reduceMul, Nat.reduceLeDiff, Nat.reduceEqDiff, Nat.reduceBEq, Int.reduceToNat, Int.reduceLE, Int.reduceLT, Int.reduceEq, Int.reduceNeg, reduceCtorEq, ↓reduceIte, hb, hne, hws2, hwd2, hwo2, ite_ne]))))
      exact gk_err n' w2 hf (fun j hj => (by first | rfl | (simp (disch := omega) only [put_obj, alloc_obj, put_next, alloc_next, ite_ne]; done))) (by first | omega | (simp only [put_next, alloc_next]; omega)) (by rw [hev0, he]) hws2
  · rw [if_neg (by rw [hb]; decide)] at hev0
    refine ih2.call hw1 i2 fun n2 hn2 => ⟨fun q hq w2 hw2 => ?_, fun e he n' w2 hws2 => ?_⟩
    · simp only [put_next, alloc_next] at hn2
      have hws2 := hw2.scal
      have hwd2 := dc_scal hws2
      have hwo2 := so_of hws2
      (repeat' (first | simp -dsimp (maxSteps := 2000000) (disch := first | omega | (simp; done) | (simp; omega)) only [SA, SB, SC, SD, SE, SF, SG, Nat.reduceLT, Nat.reduceAdd, Nat.reduceSub, Nat.reduceMul, Nat.reduceLeDiff, Nat.reduceEqDiff, Nat.reduceBEq, Int.reduceToNat, Int.reduceLE, Int.reduceLT, Int.reduceEq, Int.reduceNeg, reduceCtorEq, ↓reduceIte, c1, c2, z0, hws2, hwd2, hwo2, ite_ne] | refine Cut.go ?_ | refine Both.intro ?_ ?_ | refine truth_call ?_ | (refine Br.intro ?_ ?_ <;> intro hb <;> have hb' := hb <;> (try simp only [SH] at hb') <;> (try simp -dsimp (maxSteps := 2000000) (disch := first | omega | (simp; done) | (simp; omega)) only [SA, SB, SC, SD, SE, SF, SG, Nat.reduceLT, Nat.reduceAdd, Nat.reduceSub, Nat.reduceMul, Nat.reduceLeDiff, Nat.reduceEqDiff, Nat.reduceBEq, Int.reduceToNat, Int.reduceLE, Int.reduceLT, Int.reduceEq, Int.reduceNeg, reduceCtorEq, ↓reduceIte, hb, c1, c2, z0, hws2, hwd2, hwo2, ite_ne]))))
      exact gk_ok hf (fun j hj => (by first | rfl | (simp (disch := omega) only [put_obj, alloc_obj, put_next, alloc_next, ite_ne]; done))) (by first | omega | (simp only [put_next, alloc_next]; omega)) (by rw [hev0, hq]) hw2
    · simp only [put_next, alloc_next] at hn2
      have hne : (e != 0) = true := by simpa using eval_nz2 _ _ _ he
      have hwd2 := dc_scal hws2
      have hwo2 := so_of hws2
      (repeat' (first | simp -dsimp (maxSteps := 2000000) (disch := first | omega | (simp; done) | (simp; omega)) only [SA, SB, SC, SD, SE, SF, SG, Nat.reduceLT, Nat.reduceAdd, Nat.reduceSub, Nat.reduceMul, Nat.reduceLeDiff, Nat.reduceEqDiff, Nat.reduceBEq, Int.reduceToNat, Int.reduceLE, Int.reduceLT, Int.reduceEq, Int.reduceNeg, reduceCtorEq, ↓reduceIte, hne, hws2, hwd2, hwo2, ite_ne] | refine Cut.go ?_ | refine Both.intro ?_ ?_ | (refine Br.intro ?_ ?_ <;> intro hb <;> have hb' := hb <;> (try simp only [SH] at hb') <;> (try simp -dsimp (maxSteps := 2000000) (disch := first | omega | (simp; done) | (simp; omega)) only [SA, SB, SC, SD, SE, SF, SG, Nat.reduceLT, Nat.reduceAdd, Nat.reduceSub, Nat.reduceMul, Nat.reduceLeDiff, Nat.reduceEqDiff, Nat.reduceBEq, Int.reduceToNat, Int.reduceLE, Int.reduceLT, Int.reduceEq, Int.reduceNeg, reduceCtorEq, ↓reduceIte, hb, hne, hws2, hwd2, hwo2, ite_ne]))))
      exact gk_err n' w2 hf (fun j hj => (by first | rfl | (simp (disch := omega) only [put_obj, alloc_obj, put_next, alloc_next, ite_ne]; done))) (by first | omega | (simp only [put_next, alloc_next]; omega)) (by rw [hev0, he]) hws2
  · rw [if_neg (by rw [hb]; decide)] at hev0
    refine ih2.call hw1 i2 fun n2 hn2 => ⟨fun q hq w2 hw2 => ?_, fun e he n' w2 hws2 => ?_⟩
    · simp only [put_next, alloc_next] at hn2
      have hws2 := hw2.scal
      have hwd2 := dc_scal hws2
      have hwo2 := so_of hws2
      (repeat' (first | simp -dsimp (maxSteps := 2000000) (disch := first | omega | (simp; done) | (simp; omega)) only [SA, SB, SC, SD, SE, SF, SG, Nat.reduceLT, Nat.reduceAdd, Nat.reduceSub, Nat.reduceMul, Nat.reduceLeDiff, Nat.reduceEqDiff, Nat.reduceBEq, Int.reduceToNat, Int.reduceLE, Int.reduceLT, Int.reduceEq, Int.reduceNeg, reduceCtorEq, ↓reduceIte, c1, c2, z0, hws2, hwd2, hwo2, ite_ne] | refine Cut.go ?_ | refine Both.intro ?_ ?_ | refine truth_call ?_ | (refine Br.intro ?_ ?_ <;> intro hb <;> have hb' := hb <;> (try simp only [SH] at hb') <;> (try simp -dsimp (maxSteps := 2000000) (disch := first | omega | (simp; done) | (simp; omega)) only [SA, SB, SC, SD, SE, SF, SG, Nat.reduceLT, Nat.reduceAdd, Nat.reduceSub, Nat.reduceMul, Nat.reduceLeDiff, Nat.reduceEqDiff, Nat.reduceBEq, Int.reduceToNat, Int.reduceLE, Int.reduceLT, Int.reduceEq, Int.reduceNeg, reduceCtorEq, ↓reduceIte, hb, c1, c2, z0, hws2, hwd2, hwo2, ite_ne]))))
      exact gk_ok hf (fun j hj => (by first | rfl | (simp (disch := omega) only [put_obj, alloc_obj, put_next, alloc_next, ite_ne]; done))) (by first | omega | (simp only [put_next, alloc_next]; omega)) (by rw [hev0, hq]) hw2
    · simp only [put_next, alloc_next] at hn2
      have hne : (e != 0) = true := by simpa using eval_nz2 _ _ _ he
      have hwd2 := dc_scal hws2
      have hwo2 := so_of hws2
      (repeat' (first | simp -dsimp (maxSteps := 2000000) (disch := first | omega | (simp; done) | (simp; omega)) only [SA, SB, SC, SD, SE, SF, SG, Nat.reduceLT, Nat.reduceAdd, Nat.reduceSub, Nat.reduceMul, Nat.reduceLeDiff, Nat.reduceEqDiff, Nat.reduceBEq, Int.reduceToNat, Int.reduceLE, Int.reduceLT, Int.reduceEq, Int.reduceNeg, reduceCtorEq, ↓reduceIte, hne, hws2, hwd2, hwo2, ite_ne] | refine Cut.go ?_ | refine Both.intro ?_ ?_ | (refine Br.intro ?_ ?_ <;> intro hb <;> have hb' := hb <;> (try simp only [SH] at hb') <;> (try simp -dsimp (maxSteps := 2000000) (disch := first | omega | (simp; done) | (simp; omega)) only [SA, SB, SC, SD, SE, SF, SG, Nat.reduceLT, Nat.reduceAdd, Nat.reduceSub, Nat.reduceMul, Nat.reduceLeDiff, Nat.reduceEqDiff, Nat.reduceBEq, Int.reduceToNat, Int.reduceLE, Int.reduceLT, Int.reduceEq, Int.reduceNeg, reduceCtorEq, ↓reduceIte, hb, hne, hws2, hwd2, hwo2, ite_ne]))))
      exact gk_err n' w2 hf (fun j hj => (by first | rfl | (simp (disch := omega) only [put_obj, alloc_obj, put_next, alloc_next, ite_ne]; done))) (by first | omega | (simp only [put_next, alloc_next]; omega)) (by rw [hev0, he]) hws2
  · rw [if_neg (by rw [hb]; decide)] at hev0
    refine ih2.call hw1 i2 fun n2 hn2 => ⟨fun q hq w2 hw2 => ?_, fun e he n' w2 hws2 => ?_⟩
    · simp only [put_next, alloc_next] at hn2
      have hws2 := hw2.scal
      have hwd2 := dc_scal hws2
      have hwo2 := so_of hws2
      (repeat' (first | simp -dsimp (maxSteps := 2000000) (disch := first | omega | (simp; done) | (simp; omega)) only [SA, SB, SC, SD, SE, SF, SG, Nat.reduceLT, Nat.reduceAdd, Nat.reduceSub, Nat.reduceMul, Nat.reduceLeDiff, Nat.reduceEqDiff, Nat.reduceBEq, Int.reduceToNat, Int.reduceLE, Int.reduceLT, Int.reduceEq, Int.reduceNeg, reduceCtorEq, ↓reduceIte, c1, c2, z0, hws2, hwd2, hwo2, ite_ne] | refine Cut.go ?_ | refine Both.intro ?_ ?_ | refine truth_call ?_ | (refine Br.intro ?_ ?_ <;> intro hb <;> have hb' := hb <;> (try simp only [SH] at hb') <;> (try simp -dsimp (maxSteps := 2000000) (disch := first | omega | (simp; done) | (simp; omega)) only [SA, SB, SC, SD, SE, SF, SG, Nat.reduceLT, Nat.reduceAdd, Nat.reduceSub, Nat.reduceMul, Nat.reduceLeDiff, Nat.reduceEqDiff, Nat.reduceBEq, Int.reduceToNat, Int.reduceLE, Int.reduceLT, Int.reduceEq, Int.reduceNeg, reduceCtorEq, ↓reduceIte, hb, c1, c2, z0, hws2, hwd2, hwo2, ite_ne]))))
      exact gk_ok hf (fun j hj => (by first | rfl | (simp (disch := omega) only [put_obj, alloc_obj, put_next, alloc_next, ite_ne]; done))) (by first | omega | (simp only [put_next, alloc_next]; omega)) (by rw [hev0, hq]) hw2
    · simp only [put_next, alloc_next] at hn2
      have hne : (e != 0) = true := by simpa using eval_nz2 _ _ _ he
      have hwd2 := dc_scal hws2
      have hwo2 := so_of hws2
      (repeat' (first | simp -dsimp (maxSteps := 2000000) (disch := first | omega | (simp; done) | (simp; omega)) only [SA, SB, SC, SD, SE, SF, SG, Nat.reduceLT, Nat.reduceAdd, Nat.reduceSub, Nat.reduceMul, Nat.reduceLeDiff, Nat.reduceEqDiff, Nat.reduceBEq, Int.reduceToNat, Int.reduceLE, Int.reduceLT, Int.reduceEq, Int.reduceNeg, reduceCtorEq, ↓reduceIte, hne, hws2, hwd2, hwo2, ite_ne] | refine Cut.go ?_ | refine Both.intro ?_ ?_ | (refine Br.intro ?_ ?_ <;> intro hb <;> have hb' := hb <;> (try simp only [SH] at hb') <;> (try simp -dsimp (maxSteps := 2000000) (disch := first | omega | (simp; done) | (simp; omega)) only [SA, SB, SC, SD, SE, SF, SG, Nat.reduceLT, Nat.reduceAdd, Nat.reduceSub, Nat.reduceMul, Nat.reduceLeDiff, Nat.reduceEqDiff, Nat.reduceBEq, Int.reduceToNat, Int.reduceLE, Int.reduceLT, Int.reduceEq, Int.reduceNeg, reduceCtorEq, ↓reduceIte, hb, hne, hws2, hwd2, hwo2, ite_ne]))))
      exact gk_err n' w2 hf (fun j hj => (by first | rfl | (simp (disch := omega) only [put_obj, alloc_obj, put_next, alloc_next, ite_ne]; done))) (by first | omega | (simp only [put_next, alloc_next]; omega)) (by rw [hev0, he]) hws2
  · rw [if_neg (by rw [hb]; decide)] at hev0
    refine ih2.call hw1 i2 fun n2 hn2 => ⟨fun q hq w2 hw2 => ?_, fun e he n' w2 hws2 => ?_⟩
    · simp only [put_next, alloc_next] at hn2
      have hws2 := hw2.scal
      have hwd2 := dc_scal hws2
      have hwo2 := so_of hws2
      (repeat' (first | simp -dsimp (maxSteps := 2000000) (disch := first | omega | (simp; done) | (simp; omega)) only [SA, SB, SC, SD, SE, SF, SG, Nat.reduceLT, Nat.reduceAdd, Nat.reduceSub, Nat.reduceMul, Nat.reduceLeDiff, Nat.reduceEqDiff, Nat.reduceBEq, Int.reduceToNat, Int.reduceLE, Int.reduceLT, Int.reduceEq, Int.reduceNeg, reduceCtorEq, ↓reduceIte, c1, c2, z0, hws2, hwd2, hwo2, ite_ne] | refine Cut.go ?_ | refine Both.intro ?_ ?_ | refine truth_call ?_ | (refine Br.intro ?_ ?_ <;> intro hb <;> have hb' := hb <;> (try simp only [SH] at hb') <;> (try simp -dsimp (maxSteps := 2000000) (disch := first | omega | (simp; done) | (simp; omega)) only [SA, SB, SC, SD, SE, SF, SG, Nat.reduceLT, Nat.reduceAdd, Nat.reduceSub, Nat.reduceMul, Nat.reduceLeDiff, Nat.reduceEqDiff, Nat.reduceBEq, Int.reduceToNat, Int.reduceLE, Int.reduceLT, Int.reduceEq, Int.reduceNeg, reduceCtorEq, ↓reduceIte, hb, c1, c2, z0, hws2, hwd2, hwo2, ite_ne]))))
      exact gk_ok hf (fun j hj => (by first | rfl | (simp (disch := omega) only [put_obj, alloc_obj, put_next, alloc_next, ite_ne]; done))) (by first | omega | (simp only [put_next, alloc_next]; omega)) (by rw [hev0, hq]) hw2
    · simp only [put_next, alloc_next] at hn2
      have hne : (e != 0) = true := by simpa using eval_nz2 _ _ _ he
      have hwd2 := dc_scal hws2
      have hwo2 := so_of hws2
      (repeat' (first | simp -dsimp (maxSteps := 2000000) (disch := first | omega | (simp; done) | (simp; omega)) only [SA, SB, SC, SD, SE, SF, SG, Nat.reduceLT, Nat.reduceAdd, Nat.reduceSub, Nat.reduceMul, Nat.reduceLeDiff, Nat.reduceEqDiff, Nat.reduceBEq, Int.reduceToNat, Int.reduceLE, Int.reduceLT, Int.reduceEq, Int.reduceNeg, reduceCtorEq, ↓reduceIte, hne, hws2, hwd2, hwo2, ite_ne] | refine Cut.go ?_ | refine Both.intro ?_ ?_ | (refine Br.intro ?_ ?_ <;> intro hb <;> have hb' := hb <;> (try simp only [SH] at hb') <;> (try simp -dsimp (maxSteps := 2000000) (disch := first | omega | (simp; done) | (simp; omega)) only [SA, SB, SC, SD, SE, SF, SG, Nat.reduceLT, Nat.reduceAdd, Nat.reduceSub, Nat.reduceMul, Nat.reduceLeDiff, Nat.reduceEqDiff, Nat.reduceBEq, Int.reduceToNat, Int.reduceLE, Int.reduceLT, Int.reduceEq, Int.reduceNeg, reduceCtorEq, ↓reduceIte, hb, hne, hws2, hwd2, hwo2, ite_ne]))))
      exact gk_err n' w2 hf (fun j hj => (by first | rfl | (simp (disch := omega) only [put_obj, alloc_obj, put_next, alloc_next, ite_ne]; done))) (by first | omega | (simp only [put_next, alloc_next]; omega)) (by rw [hev0, he]) hws2
end Go.Proofs.Ytkjgadanaknleaa
