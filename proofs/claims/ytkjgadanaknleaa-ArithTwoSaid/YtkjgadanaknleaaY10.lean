/-
  THE WALKS, PART 50: the document reckons a node.
-/
import Derived.Test.YtkjgadanaknleaaY9
import Derived.Test.YtkjgadanaknleaaY7
namespace Go.Proofs.Ytkjgadanaknleaa
open Go Go.Id
set_option linter.unusedSimpArgs false
set_option linter.unusedVariables false
set_option maxRecDepth 100000
set_option maxHeartbeats 4000000

theorem num_nz2 {s : List UInt8} {e : Int} (h : numF s = .error e) : e ≠ 0 := by
  unfold numF at h
  split at h
  · cases h
  · split at h
    · cases h
    · split at h
      · cases h
      · rename_i hn; cases h; intro h2; rw [h2] at hn; simp at hn
theorem get_nz2 {s : List UInt8} {l : List V} {e : Int} (h : getF s l = .error e) : e ≠ 0 := by
  unfold getF at h
  split at h
  · cases h
  · exact num_nz2 h
def NoI2 : Except Int Int → Prop
  | .ok _ => True
  | .error e => e ≠ 0
theorem NoI2.ite {c : Prop} [Decidable c] {x y : Except Int Int} (h1 : NoI2 x) (h2 : NoI2 y) : NoI2 (if c then x else y) := by split <;> assumption
theorem two_nz2 {s : List UInt8} {a b e : Int} (h : twoF s a b = .error e) : e ≠ 0 := by
  have key : NoI2 (twoF s a b) := by
    unfold twoF
    repeat' (refine NoI2.ite ?_ ?_)
    all_goals (first | exact trivial | (show (42 : Int) ≠ 0; decide) | (show (41 : Int) ≠ 0; decide))
  rw [h] at key; exact key
theorem give_nz2 {s name : List UInt8} {v e : Int} {l : List V} (h : giveF s name v l = .error e) : e ≠ 0 := by
  unfold giveF at h
  split at h
  · cases h
  · split at h
    · rename_i e' he; cases h; exact get_nz2 he
    · exact two_nz2 h
theorem set_nz2 {name : List UInt8} {n e : Int} {l : List V} (h : setF name n l = .error e) : e ≠ 0 := by
  unfold setF at h
  split at h
  · cases h; decide
  · cases h
theorem eval_nz2 : ∀ (x : Nd) (l : List V) (e : Int), evalF x l = .error e → e ≠ 0
  | .leaf t, l, e, h => by
    rw [evalF] at h
    split at h
    · cases h
    · split at h
      · cases h
      · rename_i e' he; cases h; exact get_nz2 he
  | .gives t a x, l, e, h => by
    rw [evalF] at h
    split at h
    · rename_i e' he; cases h; exact eval_nz2 x l _ he
    · split at h
      · rename_i e' he; cases h; exact give_nz2 he
      · split at h
        · rename_i e' he; cases h; exact set_nz2 he
        · cases h
  | .one t x, l, e, h => by
    rw [evalF] at h
    split at h
    · rename_i e' he; cases h; exact eval_nz2 x l _ he
    · cases h
  | .cond t x y z, l, e, h => by
    rw [evalF] at h
    split at h
    · rename_i e' he; cases h; exact eval_nz2 x l _ he
    · split at h
      · exact eval_nz2 z _ _ h
      · exact eval_nz2 y _ _ h
  | .two t x y, l, e, h => by
    rw [evalF] at h
    split at h
    · rename_i e' he; cases h; exact eval_nz2 x l _ he
    · split at h
      · cases h
      · split at h
        · cases h
        · split at h
          · rename_i e' he; cases h; exact eval_nz2 y _ _ he
          · split at h
            · cases h
            · split at h
              · rename_i e' he; cases h; exact two_nz2 he
              · cases h
theorem xor_ones2 (n : Int) (h : I64 n) : ibits .xor .i64 (-1) n = -1 - n := by
  unfold I64 at h
  have e1 : (BitVec.ofInt 64 (-1)) = BitVec.allOnes 64 := by decide
  show IntKind.i64.wrap (((BitVec.ofInt 64 (-1)) ^^^ (BitVec.ofInt 64 n)).toNat : Int) = -1 - n
  rw [e1, BitVec.allOnes_xor]
  rw [BitVec.toNat_not, BitVec.toNat_ofInt, IntKind.wrap_i64]
  have : (2 : Int) ^ 64 = 18446744073709551616 := by decide
  omega

/-- Signs that give are the document's. -/
def NdR : Nd → Prop
  | .leaf _ => True
  | .gives t _ x => rgives t.sign = true ∧ NdR x
  | .one t x => rgives t.sign = false ∧ NdR x
  | .two t x y => rgives t.sign = false ∧ NdR x ∧ NdR y
  | .cond _ x y z => NdR x ∧ NdR y ∧ NdR z
def RK (x : Nd) : Prop := ∀ (σ : St) (y : D) (l : List V), Vd y l → VOk l → Ok Try.prog 24 [nodeD x.tok x.kids, y] σ (GP σ (evalF x l))
theorem RK.call {x : Nd} (h : RK x) {σ : St} {y : D} {l : List V} {K : Out → St → Prop} (hy : Vd y l) (hv : VOk l)
    (hk : ∀ n, σ.next ≤ n → (∀ r, evalF x l = .ok r → ∀ y', Vd y' r.2 → K (.ret (.agg [.int .i64 r.1, y', .int .i64 0])) ⟨σ.obj, n⟩) ∧ (∀ e, evalF x l = .error e → ∀ n' y', scal y' = true → K (.ret (.agg [.int .i64 n', y', .int .i64 e])) ⟨σ.obj, n⟩)) :
    goodFn Try.prog 24 = true ∧ Ok Try.prog 24 [nodeD x.tok x.kids, y] σ K := by
  refine ⟨gd24, (h σ y l hy hv).mono fun o s' ⟨m, h1, h2, h3⟩ => ?_⟩
  subst h2
  have hk := hk m h1
  cases hr : evalF x l with
  | ok r => rw [hr] at h3; obtain ⟨y, h4, rfl⟩ := h3; exact hk.1 r hr y h4
  | error e => rw [hr] at h3; obtain ⟨n', y, h4, rfl⟩ := h3; exact hk.2 e hr n' y h4
theorem gk_ok {σ s : St} {R : Except Int (Int × List V)} {n : Int} {l : List V} {y : D} (hf : σ.Fresh) (ho : ∀ i, i < σ.next → s.obj i = σ.obj i) (hn : σ.next ≤ s.next) (h : R = .ok (n, l)) (hv : Vd y l) :
    ∃ s', Drops s s' ∧ GP σ R (.ret (.agg [.int .i64 n, y, .int .i64 0])) s' := by
  subst h; exact ⟨_, drops_end hf ho, s.next, hn, rfl, y, hv, rfl⟩
theorem gk_err {σ s : St} {R : Except Int (Int × List V)} {e : Int} (n : Int) (y : D) (hf : σ.Fresh) (ho : ∀ i, i < σ.next → s.obj i = σ.obj i) (hn : σ.next ≤ s.next) (h : R = .error e) (hy : scal y = true) :
    ∃ s', Drops s s' ∧ GP σ R (.ret (.agg [.int .i64 n, y, .int .i64 e])) s' := by
  subst h; exact ⟨_, drops_end hf ho, s.next, hn, rfl, n, y, hy, rfl⟩

theorem dc_scal {y : D} (h : scal y = true) : dcells y = some [y] := by cases y <;> simp_all [scal, dcells]
theorem so_of {y : D} (h : scal y = true) : scalO (some y) = some y := by simp [scalO, h]
theorem nodeD_ag (t : Tok) (k : D) : D.agg [.str t.sign, .str t.name, .int .i64 t.n, k] = nodeD t k := rfl
theorem rk_leaf (t : Tok) (hx : NdOk (.leaf t)) : RK (.leaf t) := by
  intro σ y l hy hv
  refine Ok.fresh fun hf => Ok.drop ?_
  show Ok Try.prog 24 [.agg [.str t.sign, .str t.name, .int .i64 t.n, .nils], y] σ _
  apply en24
  have e1 : (t.sign == []) = true := by rw [hx.1]; rfl
  have hys := hy.scal
  have hyd := dc_scal hys
  have hyo := so_of hys
  by_cases h : (t.name == []) = true
  · simp -dsimp (maxSteps := 2000000) (disch := first | omega | (simp; done) | (simp; omega)) only [SA, SB, SC, SD, SE, SF, SG, Nat.reduceLT, Nat.reduceAdd, Nat.reduceSub, Nat.reduceMul, Nat.reduceLeDiff, Nat.reduceEqDiff, Nat.reduceBEq, Int.reduceToNat, Int.reduceLE, Int.reduceLT, Int.reduceEq, Int.reduceNeg, reduceCtorEq, ↓reduceIte, ic24, List.replicate_succ, List.replicate_zero]
    (repeat' (first | simp -dsimp (maxSteps := 2000000) (disch := first | omega | (simp; done) | (simp; omega)) only [SA, SB, SC, SD, SE, SF, SG, Nat.reduceLT, Nat.reduceAdd, Nat.reduceSub, Nat.reduceMul, Nat.reduceLeDiff, Nat.reduceEqDiff, Nat.reduceBEq, Int.reduceToNat, Int.reduceLE, Int.reduceLT, Int.reduceEq, Int.reduceNeg, reduceCtorEq, ↓reduceIte, e1, h, hys, hyd, hyo, ite_ne] | refine Cut.go ?_ | refine Both.intro ?_ ?_ | (refine Br.intro ?_ ?_ <;> intro hb <;> have hb' := hb <;> (try simp only [SH] at hb') <;> (try simp -dsimp (maxSteps := 2000000) (disch := first | omega | (simp; done) | (simp; omega)) only [SA, SB, SC, SD, SE, SF, SG, Nat.reduceLT, Nat.reduceAdd, Nat.reduceSub, Nat.reduceMul, Nat.reduceLeDiff, Nat.reduceEqDiff, Nat.reduceBEq, Int.reduceToNat, Int.reduceLE, Int.reduceLT, Int.reduceEq, Int.reduceNeg, reduceCtorEq, ↓reduceIte, hb, e1, h, hys, hyd, hyo, ite_ne]))))
    exact gk_ok hf (fun j hj => (by first | rfl | (simp (disch := omega) only [put_obj, alloc_obj, put_next, alloc_next, ite_ne]; done))) (by first | omega | (simp only [put_next, alloc_next]; omega)) (by rw [evalF.eq_1, if_pos h]) hy
  · simp only [Bool.not_eq_true] at h
    simp -dsimp (maxSteps := 2000000) (disch := first | omega | (simp; done) | (simp; omega)) only [SA, SB, SC, SD, SE, SF, SG, Nat.reduceLT, Nat.reduceAdd, Nat.reduceSub, Nat.reduceMul, Nat.reduceLeDiff, Nat.reduceEqDiff, Nat.reduceBEq, Int.reduceToNat, Int.reduceLE, Int.reduceLT, Int.reduceEq, Int.reduceNeg, reduceCtorEq, ↓reduceIte, ic24, List.replicate_succ, List.replicate_zero]
    (repeat' (first | simp -dsimp (maxSteps := 2000000) (disch := first | omega | (simp; done) | (simp; omega)) only [SA, SB, SC, SD, SE, SF, SG, Nat.reduceLT, Nat.reduceAdd, Nat.reduceSub, Nat.reduceMul, Nat.reduceLeDiff, Nat.reduceEqDiff, Nat.reduceBEq, Int.reduceToNat, Int.reduceLE, Int.reduceLT, Int.reduceEq, Int.reduceNeg, reduceCtorEq, ↓reduceIte, e1, h, hys, hyd, hyo, ite_ne] | refine Cut.go ?_ | refine Both.intro ?_ ?_ | (refine Br.intro ?_ ?_ <;> intro hb <;> have hb' := hb <;> (try simp only [SH] at hb') <;> (try simp -dsimp (maxSteps := 2000000) (disch := first | omega | (simp; done) | (simp; omega)) only [SA, SB, SC, SD, SE, SF, SG, Nat.reduceLT, Nat.reduceAdd, Nat.reduceSub, Nat.reduceMul, Nat.reduceLeDiff, Nat.reduceEqDiff, Nat.reduceBEq, Int.reduceToNat, Int.reduceLE, Int.reduceLT, Int.reduceEq, Int.reduceNeg, reduceCtorEq, ↓reduceIte, hb, e1, h, hys, hyd, hyo, ite_ne]))))
    refine rval_call hy hv fun n e hne => ?_
    (repeat' (first | simp -dsimp (maxSteps := 2000000) (disch := first | omega | (simp; done) | (simp; omega)) only [SA, SB, SC, SD, SE, SF, SG, Nat.reduceLT, Nat.reduceAdd, Nat.reduceSub, Nat.reduceMul, Nat.reduceLeDiff, Nat.reduceEqDiff, Nat.reduceBEq, Int.reduceToNat, Int.reduceLE, Int.reduceLT, Int.reduceEq, Int.reduceNeg, reduceCtorEq, ↓reduceIte, hys, hyd, hyo, ite_ne] | refine Cut.go ?_ | refine Both.intro ?_ ?_ | (refine Br.intro ?_ ?_ <;> intro hb <;> have hb' := hb <;> (try simp only [SH] at hb') <;> (try simp -dsimp (maxSteps := 2000000) (disch := first | omega | (simp; done) | (simp; omega)) only [SA, SB, SC, SD, SE, SF, SG, Nat.reduceLT, Nat.reduceAdd, Nat.reduceSub, Nat.reduceMul, Nat.reduceLeDiff, Nat.reduceEqDiff, Nat.reduceBEq, Int.reduceToNat, Int.reduceLE, Int.reduceLT, Int.reduceEq, Int.reduceNeg, reduceCtorEq, ↓reduceIte, hb, hys, hyd, hyo, ite_ne]))))
    cases hg : getF t.name l with
    | ok v =>
      rw [hg] at hne
      obtain ⟨rfl, rfl⟩ := hne
      exact gk_ok hf (fun j hj => (by first | rfl | (simp (disch := omega) only [put_obj, alloc_obj, put_next, alloc_next, ite_ne]; done))) (by first | omega | (simp only [put_next, alloc_next]; omega)) (by rw [evalF.eq_1, if_neg (by rw [h]; decide), hg]) hy
    | error e' =>
      rw [hg] at hne
      cases hne
      exact gk_err n y hf (fun j hj => (by first | rfl | (simp (disch := omega) only [put_obj, alloc_obj, put_next, alloc_next, ite_ne]; done))) (by first | omega | (simp only [put_next, alloc_next]; omega)) (by rw [evalF.eq_1, if_neg (by rw [h]; decide), hg]) hys
theorem rk_cond (t : Tok) (x y z : Nd) (hx : NdOk (.cond t x y z)) (ih1 : RK x) (ih2 : RK y) (ih3 : RK z) : RK (.cond t x y z) := by
  intro σ w l hw hv
  refine Ok.fresh fun hf => Ok.drop ?_
  show Ok Try.prog 24 [.agg [.str [63], .str [], .int .i64 0, .slc 4 [nodeD x.tok x.kids, nodeD y.tok y.kids, nodeD z.tok z.kids] .exact], w] σ _
  apply en24
  have hws := hw.scal
  have hwd := dc_scal hws
  have hwo := so_of hws
  have e1 : (([63] : List UInt8) == []) = false := rfl
  have e2 : rgives [63] = false := rfl
  have e3 : (([63] : List UInt8) == [63]) = true := rfl
  have e4 : (((3 : Nat) : Int) == 1) = false := rfl
  have z0 : ((0 : Int) != 0) = false := rfl
  simp -dsimp (maxSteps := 2000000) (disch := first | omega | (simp; done) | (simp; omega)) only [SA, SB, SC, SD, SE, SF, SG, Nat.reduceLT, Nat.reduceAdd, Nat.reduceSub, Nat.reduceMul, Nat.reduceLeDiff, Nat.reduceEqDiff, Nat.reduceBEq, Int.reduceToNat, Int.reduceLE, Int.reduceLT, Int.reduceEq, Int.reduceNeg, reduceCtorEq, ↓reduceIte, ic24, List.replicate_succ, List.replicate_zero]
  (repeat' (first | simp -dsimp (maxSteps := 2000000) (disch := first | omega | (simp; done) | (simp; omega)) only [SA, SB, SC, SD, SE, SF, SG, Nat.reduceLT, Nat.reduceAdd, Nat.reduceSub, Nat.reduceMul, Nat.reduceLeDiff, Nat.reduceEqDiff, Nat.reduceBEq, Int.reduceToNat, Int.reduceLE, Int.reduceLT, Int.reduceEq, Int.reduceNeg, reduceCtorEq, ↓reduceIte, e1, e2, e3, e4, hws, hwd, hwo, ix_0, ix_1, ix_2, nodeD_dc, kids_sc, ite_ne] | refine Cut.go ?_ | refine Both.intro ?_ ?_ | refine rgives_call ?_ | (refine Br.intro ?_ ?_ <;> intro hb <;> have hb' := hb <;> (try simp only [SH] at hb') <;> (try simp -dsimp (maxSteps := 2000000) (disch := first | omega | (simp; done) | (simp; omega)) only [SA, SB, SC, SD, SE, SF, SG, Nat.reduceLT, Nat.reduceAdd, Nat.reduceSub, Nat.reduceMul, Nat.reduceLeDiff, Nat.reduceEqDiff, Nat.reduceBEq, Int.reduceToNat, Int.reduceLE, Int.reduceLT, Int.reduceEq, Int.reduceNeg, reduceCtorEq, ↓reduceIte, hb, e1, e2, e3, e4, hws, hwd, hwo, ix_0, ix_1, ix_2, nodeD_dc, kids_sc, ite_ne]))))
  refine ih1.call hw hv fun n1 hn1 => ⟨fun r hr w1 hw1 => ?_, fun e he n' w1 hws1 => ?_⟩
  rotate_left
  · simp only [alloc_next] at hn1
    have hne : (e != 0) = true := by simpa using eval_nz2 _ _ _ he
    have hwd1 := dc_scal hws1
    have hwo1 := so_of hws1
    (repeat' (first | simp -dsimp (maxSteps := 2000000) (disch := first | omega | (simp; done) | (simp; omega)) only [SA, SB, SC, SD, SE, SF, SG, Nat.reduceLT, Nat.reduceAdd, Nat.reduceSub, Nat.reduceMul, Nat.reduceLeDiff, Nat.reduceEqDiff, Nat.reduceBEq, Int.reduceToNat, Int.reduceLE, Int.reduceLT, Int.reduceEq, Int.reduceNeg, reduceCtorEq, ↓reduceIte, hne, hws1, hwd1, hwo1, ite_ne] | refine Cut.go ?_ | refine Both.intro ?_ ?_ | (refine Br.intro ?_ ?_ <;> intro hb <;> have hb' := hb <;> (try simp only [SH] at hb') <;> (try simp -dsimp (maxSteps := 2000000) (disch := first | omega | (simp; done) | (simp; omega)) only [SA, SB, SC, SD, SE, SF, SG, Nat.reduceLT, Nat.reduceAdd, Nat.reduceSub, Nat.reduceMul, Nat.reduceLeDiff, Nat.reduceEqDiff, Nat.reduceBEq, Int.reduceToNat, Int.reduceLE, Int.reduceLT, Int.reduceEq, Int.reduceNeg, reduceCtorEq, ↓reduceIte, hb, hne, hws1, hwd1, hwo1, ite_ne]))))
    exact gk_err n' w1 hf (fun j hj => (by first | rfl | (simp (disch := omega) only [put_obj, alloc_obj, put_next, alloc_next, ite_ne]; done))) (by first | omega | (simp only [put_next, alloc_next]; omega)) (by rw [evalF, he]) hws1
  · obtain ⟨i1, i2⟩ := eval_inv x l r hx.2.2.1 hv hr
    have hws1 := hw1.scal
    have hwd1 := dc_scal hws1
    have hwo1 := so_of hws1
    simp only [alloc_next] at hn1
    (repeat' (first | simp -dsimp (maxSteps := 2000000) (disch := first | omega | (simp; done) | (simp; omega)) only [SA, SB, SC, SD, SE, SF, SG, Nat.reduceLT, Nat.reduceAdd, Nat.reduceSub, Nat.reduceMul, Nat.reduceLeDiff, Nat.reduceEqDiff, Nat.reduceBEq, Int.reduceToNat, Int.reduceLE, Int.reduceLT, Int.reduceEq, Int.reduceNeg, reduceCtorEq, ↓reduceIte, e1, e2, e3, e4, hws1, hwd1, hwo1, ix_0, ix_1, ix_2, nodeD_dc, kids_sc, ite_ne, z0] | refine Cut.go ?_ | refine Both.intro ?_ ?_ | (refine Br.intro ?_ ?_ <;> intro hb <;> have hb' := hb <;> (try simp only [SH] at hb') <;> (try simp -dsimp (maxSteps := 2000000) (disch := first | omega | (simp; done) | (simp; omega)) only [SA, SB, SC, SD, SE, SF, SG, Nat.reduceLT, Nat.reduceAdd, Nat.reduceSub, Nat.reduceMul, Nat.reduceLeDiff, Nat.reduceEqDiff, Nat.reduceBEq, Int.reduceToNat, Int.reduceLE, Int.reduceLT, Int.reduceEq, Int.reduceNeg, reduceCtorEq, ↓reduceIte, hb, e1, e2, e3, e4, hws1, hwd1, hwo1, ix_0, ix_1, ix_2, nodeD_dc, kids_sc, ite_ne, z0]))))
    · have h0 : (r.1 == 0) = false := by simpa using hb'
      have hev : evalF (.cond t x y z) l = evalF y r.2 := by rw [evalF, hr]; simp only []; rw [if_neg (by rw [h0]; decide)]
      refine ih2.call hw1 i2 fun n2 hn2 => ⟨fun r2 hr2 w2 hw2 => ?_, fun e he n' w2 hws2 => ?_⟩
      · simp only [put_next, alloc_next] at hn2
        have hws2 := hw2.scal
        have hwd2 := dc_scal hws2
        (repeat' (first | simp -dsimp (maxSteps := 2000000) (disch := first | omega | (simp; done) | (simp; omega)) only [SA, SB, SC, SD, SE, SF, SG, Nat.reduceLT, Nat.reduceAdd, Nat.reduceSub, Nat.reduceMul, Nat.reduceLeDiff, Nat.reduceEqDiff, Nat.reduceBEq, Int.reduceToNat, Int.reduceLE, Int.reduceLT, Int.reduceEq, Int.reduceNeg, reduceCtorEq, ↓reduceIte, hws2, hwd2, ite_ne] | refine Cut.go ?_ | refine Both.intro ?_ ?_ | (refine Br.intro ?_ ?_ <;> intro hb <;> have hb' := hb <;> (try simp only [SH] at hb') <;> (try simp -dsimp (maxSteps := 2000000) (disch := first | omega | (simp; done) | (simp; omega)) only [SA, SB, SC, SD, SE, SF, SG, Nat.reduceLT, Nat.reduceAdd, Nat.reduceSub, Nat.reduceMul, Nat.reduceLeDiff, Nat.reduceEqDiff, Nat.reduceBEq, Int.reduceToNat, Int.reduceLE, Int.reduceLT, Int.reduceEq, Int.reduceNeg, reduceCtorEq, ↓reduceIte, hb, hws2, hwd2, ite_ne]))))
        exact gk_ok hf (fun j hj => (by first | rfl | (simp (disch := omega) only [put_obj, alloc_obj, put_next, alloc_next, ite_ne]; done))) (by first | omega | (simp only [put_next, alloc_next]; omega)) (by rw [hev, hr2]) hw2
      · simp only [put_next, alloc_next] at hn2
        have hwd2 := dc_scal hws2
        (repeat' (first | simp -dsimp (maxSteps := 2000000) (disch := first | omega | (simp; done) | (simp; omega)) only [SA, SB, SC, SD, SE, SF, SG, Nat.reduceLT, Nat.reduceAdd, Nat.reduceSub, Nat.reduceMul, Nat.reduceLeDiff, Nat.reduceEqDiff, Nat.reduceBEq, Int.reduceToNat, Int.reduceLE, Int.reduceLT, Int.reduceEq, Int.reduceNeg, reduceCtorEq, ↓reduceIte, hws2, hwd2, ite_ne] | refine Cut.go ?_ | refine Both.intro ?_ ?_ | (refine Br.intro ?_ ?_ <;> intro hb <;> have hb' := hb <;> (try simp only [SH] at hb') <;> (try simp -dsimp (maxSteps := 2000000) (disch := first | omega | (simp; done) | (simp; omega)) only [SA, SB, SC, SD, SE, SF, SG, Nat.reduceLT, Nat.reduceAdd, Nat.reduceSub, Nat.reduceMul, Nat.reduceLeDiff, Nat.reduceEqDiff, Nat.reduceBEq, Int.reduceToNat, Int.reduceLE, Int.reduceLT, Int.reduceEq, Int.reduceNeg, reduceCtorEq, ↓reduceIte, hb, hws2, hwd2, ite_ne]))))
        exact gk_err n' w2 hf (fun j hj => (by first | rfl | (simp (disch := omega) only [put_obj, alloc_obj, put_next, alloc_next, ite_ne]; done))) (by first | omega | (simp only [put_next, alloc_next]; omega)) (by rw [hev, he]) hws2
    · have h0 : (r.1 == 0) = true := by simpa using hb'
      have hev : evalF (.cond t x y z) l = evalF z r.2 := by rw [evalF, hr]; simp only []; rw [if_pos h0]
      refine ih3.call hw1 i2 fun n2 hn2 => ⟨fun r2 hr2 w2 hw2 => ?_, fun e he n' w2 hws2 => ?_⟩
      · simp only [put_next, alloc_next] at hn2
        have hws2 := hw2.scal
        have hwd2 := dc_scal hws2
        (repeat' (first | simp -dsimp (maxSteps := 2000000) (disch := first | omega | (simp; done) | (simp; omega)) only [SA, SB, SC, SD, SE, SF, SG, Nat.reduceLT, Nat.reduceAdd, Nat.reduceSub, Nat.reduceMul, Nat.reduceLeDiff, Nat.reduceEqDiff, Nat.reduceBEq, Int.reduceToNat, Int.reduceLE, Int.reduceLT, Int.reduceEq, Int.reduceNeg, reduceCtorEq, ↓reduceIte, hws2, hwd2, ite_ne] | refine Cut.go ?_ | refine Both.intro ?_ ?_ | (refine Br.intro ?_ ?_ <;> intro hb <;> have hb' := hb <;> (try simp only [SH] at hb') <;> (try simp -dsimp (maxSteps := 2000000) (disch := first | omega | (simp; done) | (simp; omega)) only [SA, SB, SC, SD, SE, SF, SG, Nat.reduceLT, Nat.reduceAdd, Nat.reduceSub, Nat.reduceMul, Nat.reduceLeDiff, Nat.reduceEqDiff, Nat.reduceBEq, Int.reduceToNat, Int.reduceLE, Int.reduceLT, Int.reduceEq, Int.reduceNeg, reduceCtorEq, ↓reduceIte, hb, hws2, hwd2, ite_ne]))))
        exact gk_ok hf (fun j hj => (by first | rfl | (simp (disch := omega) only [put_obj, alloc_obj, put_next, alloc_next, ite_ne]; done))) (by first | omega | (simp only [put_next, alloc_next]; omega)) (by rw [hev, hr2]) hw2
      · simp only [put_next, alloc_next] at hn2
        have hwd2 := dc_scal hws2
        (repeat' (first | simp -dsimp (maxSteps := 2000000) (disch := first | omega | (simp; done) | (simp; omega)) only [SA, SB, SC, SD, SE, SF, SG, Nat.reduceLT, Nat.reduceAdd, Nat.reduceSub, Nat.reduceMul, Nat.reduceLeDiff, Nat.reduceEqDiff, Nat.reduceBEq, Int.reduceToNat, Int.reduceLE, Int.reduceLT, Int.reduceEq, Int.reduceNeg, reduceCtorEq, ↓reduceIte, hws2, hwd2, ite_ne] | refine Cut.go ?_ | refine Both.intro ?_ ?_ | (refine Br.intro ?_ ?_ <;> intro hb <;> have hb' := hb <;> (try simp only [SH] at hb') <;> (try simp -dsimp (maxSteps := 2000000) (disch := first | omega | (simp; done) | (simp; omega)) only [SA, SB, SC, SD, SE, SF, SG, Nat.reduceLT, Nat.reduceAdd, Nat.reduceSub, Nat.reduceMul, Nat.reduceLeDiff, Nat.reduceEqDiff, Nat.reduceBEq, Int.reduceToNat, Int.reduceLE, Int.reduceLT, Int.reduceEq, Int.reduceNeg, reduceCtorEq, ↓reduceIte, hb, hws2, hwd2, ite_ne]))))
        exact gk_err n' w2 hf (fun j hj => (by first | rfl | (simp (disch := omega) only [put_obj, alloc_obj, put_next, alloc_next, ite_ne]; done))) (by first | omega | (simp only [put_next, alloc_next]; omega)) (by rw [hev, he]) hws2
theorem rk_one (t : Tok) (x : Nd) (hx : NdOk (.one t x)) (hg : rgives t.sign = false) (ih : RK x) : RK (.one t x) := by
  intro σ w l hw hv
  refine Ok.fresh fun hf => Ok.drop ?_
  show Ok Try.prog 24 [.agg [.str t.sign, .str t.name, .int .i64 t.n, .slc 4 [nodeD x.tok x.kids] .exact], w] σ _
  apply en24
  have hws := hw.scal
  have hwd := dc_scal hws
  have hwo := so_of hws
  have e1 : (t.sign == []) = false := by simpa using hx.2.2.1
  have e4 : (((1 : Nat) : Int) == 1) = true := rfl
  have z0 : ((0 : Int) != 0) = false := rfl
  simp -dsimp (maxSteps := 2000000) (disch := first | omega | (simp; done) | (simp; omega)) only [SA, SB, SC, SD, SE, SF, SG, Nat.reduceLT, Nat.reduceAdd, Nat.reduceSub, Nat.reduceMul, Nat.reduceLeDiff, Nat.reduceEqDiff, Nat.reduceBEq, Int.reduceToNat, Int.reduceLE, Int.reduceLT, Int.reduceEq, Int.reduceNeg, reduceCtorEq, ↓reduceIte, ic24, List.replicate_succ, List.replicate_zero]
  (repeat' (first | simp -dsimp (maxSteps := 2000000) (disch := first | omega | (simp; done) | (simp; omega)) only [SA, SB, SC, SD, SE, SF, SG, Nat.reduceLT, Nat.reduceAdd, Nat.reduceSub, Nat.reduceMul, Nat.reduceLeDiff, Nat.reduceEqDiff, Nat.reduceBEq, Int.reduceToNat, Int.reduceLE, Int.reduceLT, Int.reduceEq, Int.reduceNeg, reduceCtorEq, ↓reduceIte, e1, hg, e4, hws, hwd, hwo, ix_0, nodeD_dc, kids_sc, ite_ne] | refine Cut.go ?_ | refine Both.intro ?_ ?_ | refine rgives_call ?_ | (refine Br.intro ?_ ?_ <;> intro hb <;> have hb' := hb <;> (try simp only [SH] at hb') <;> (try simp -dsimp (maxSteps := 2000000) (disch := first | omega | (simp; done) | (simp; omega)) only [SA, SB, SC, SD, SE, SF, SG, Nat.reduceLT, Nat.reduceAdd, Nat.reduceSub, Nat.reduceMul, Nat.reduceLeDiff, Nat.reduceEqDiff, Nat.reduceBEq, Int.reduceToNat, Int.reduceLE, Int.reduceLT, Int.reduceEq, Int.reduceNeg, reduceCtorEq, ↓reduceIte, hb, e1, hg, e4, hws, hwd, hwo, ix_0, nodeD_dc, kids_sc, ite_ne]))))
  refine ih.call hw hv fun n1 hn1 => ⟨fun r hr w1 hw1 => ?_, fun e he n' w1 hws1 => ?_⟩
  rotate_left
  · simp only [alloc_next] at hn1
    have hne : (e != 0) = true := by simpa using eval_nz2 _ _ _ he
    have hwd1 := dc_scal hws1
    have hwo1 := so_of hws1
    (repeat' (first | simp -dsimp (maxSteps := 2000000) (disch := first | omega | (simp; done) | (simp; omega)) only [SA, SB, SC, SD, SE, SF, SG, Nat.reduceLT, Nat.reduceAdd, Nat.reduceSub, Nat.reduceMul, Nat.reduceLeDiff, Nat.reduceEqDiff, Nat.reduceBEq, Int.reduceToNat, Int.reduceLE, Int.reduceLT, Int.reduceEq, Int.reduceNeg, reduceCtorEq, ↓reduceIte, hne, hws1, hwd1, hwo1, ite_ne] | refine Cut.go ?_ | refine Both.intro ?_ ?_ | (refine Br.intro ?_ ?_ <;> intro hb <;> have hb' := hb <;> (try simp only [SH] at hb') <;> (try simp -dsimp (maxSteps := 2000000) (disch := first | omega | (simp; done) | (simp; omega)) only [SA, SB, SC, SD, SE, SF, SG, Nat.reduceLT, Nat.reduceAdd, Nat.reduceSub, Nat.reduceMul, Nat.reduceLeDiff, Nat.reduceEqDiff, Nat.reduceBEq, Int.reduceToNat, Int.reduceLE, Int.reduceLT, Int.reduceEq, Int.reduceNeg, reduceCtorEq, ↓reduceIte, hb, hne, hws1, hwd1, hwo1, ite_ne]))))
    exact gk_err n' w1 hf (fun j hj => (by first | rfl | (simp (disch := omega) only [put_obj, alloc_obj, put_next, alloc_next, ite_ne]; done))) (by first | omega | (simp only [put_next, alloc_next]; omega)) (by rw [evalF, he]) hws1
  · obtain ⟨i1, i2⟩ := eval_inv x l r hx.2.2.2.2 hv hr
    have hws1 := hw1.scal
    have hwd1 := dc_scal hws1
    have hwo1 := so_of hws1
    simp only [alloc_next] at hn1
    have hev : evalF (.one t x) l = .ok (oneF t.sign r.1, r.2) := by rw [evalF, hr]
    have hxo := xor_ones2 r.1 i1
    have hi1 : IntKind.i64.wrap (-1 - r.1) = -1 - r.1 := wr64 _ (by have h := i1; unfold I64 at h; omega)
    (repeat' (first | simp -dsimp (maxSteps := 2000000) (disch := first | omega | (simp; done) | (simp; omega)) only [SA, SB, SC, SD, SE, SF, SG, Nat.reduceLT, Nat.reduceAdd, Nat.reduceSub, Nat.reduceMul, Nat.reduceLeDiff, Nat.reduceEqDiff, Nat.reduceBEq, Int.reduceToNat, Int.reduceLE, Int.reduceLT, Int.reduceEq, Int.reduceNeg, reduceCtorEq, ↓reduceIte, e4, hws1, hwd1, hwo1, ite_ne, z0] | refine Cut.go ?_ | refine Both.intro ?_ ?_ | refine truth_call ?_ | (refine Br.intro ?_ ?_ <;> intro hb <;> have hb' := hb <;> (try simp only [SH] at hb') <;> (try simp -dsimp (maxSteps := 2000000) (disch := first | omega | (simp; done) | (simp; omega)) only [SA, SB, SC, SD, SE, SF, SG, Nat.reduceLT, Nat.reduceAdd, Nat.reduceSub, Nat.reduceMul, Nat.reduceLeDiff, Nat.reduceEqDiff, Nat.reduceBEq, Int.reduceToNat, Int.reduceLE, Int.reduceLT, Int.reduceEq, Int.reduceNeg, reduceCtorEq, ↓reduceIte, hb, e4, hws1, hwd1, hwo1, ite_ne, z0]))))
    all_goals refine gk_ok hf (fun j hj => (by first | rfl | (simp (disch := omega) only [put_obj, alloc_obj, put_next, alloc_next, ite_ne]; done))) (by first | omega | (simp only [put_next, alloc_next]; omega)) ?_ hw1
    all_goals rw [hev]
    · rw [oneF, if_pos hb]
    · rename_i q1 _
      rw [oneF, if_neg (by rw [q1]; decide), if_pos hb]
    · rename_i q1 _ q2 _
      rw [oneF, if_neg (by rw [q1]; decide), if_neg (by rw [q2]; decide), if_pos hb, hxo, hi1]
    · rename_i q1 _ q2 _
      rw [oneF, if_neg (by rw [q1]; decide), if_neg (by rw [q2]; decide), if_neg (by rw [hb]; decide)]
end Go.Proofs.Ytkjgadanaknleaa
