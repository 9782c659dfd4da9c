/-
  THE WALKS, PART 53: the document's 'Eval'; what is short; the law of every text.
-/
import Derived.Test.YtkjgadanaknleaaY12
import Derived.Test.YtkjgadanaknleaaW18
namespace Go.Proofs.Ytkjgadanaknleaa
open Go Go.Id
set_option linter.unusedSimpArgs false
set_option linter.unusedVariables false
set_option maxRecDepth 100000
set_option maxHeartbeats 4000000

theorem sg_at {ts : List Tok} (h : ∀ t ∈ ts, SgOk t.sign) (j : Nat) : SgOk (ts.getD j default).sign := by
  by_cases hj : j < ts.length
  · rw [List.getD_eq_getElem?_getD, List.getElem?_eq_getElem hj]; exact h _ (List.getElem_mem hj)
  · rw [List.getD_eq_getElem?_getD, List.getElem?_eq_none (by omega)]; exact sg_nil
theorem all0_call {ts : List Tok} (hl : ts.length ≤ 9000) (hs : ∀ t ∈ ts, SgOk t.sign) {r : Room} {σ : St} {K : Out → St → Prop}
    (hk : ∀ n, σ.next ≤ n → (∀ x, exprE ts 0 = .ok x → ∀ p : Nat, p ≤ ts.length → ts.drop p = x.rest → K (.ret (readD x.nd.tok x.nd.kids p 0)) ⟨σ.obj, n⟩) ∧ (∀ e, exprE ts 0 = .error e → ∀ t k at', scal k = true → K (.ret (readD t k at' e)) ⟨σ.obj, n⟩)) :
    goodFn Try.prog 23 = true ∧ Ok Try.prog 23 [.slc 3 (ts.map Tok.d) r, .int .i64 0, .int .i64 0] σ K :=
  ((rparse_all ts hl (sg_at hs) (20 * (ts.length - 0) + 14)).1 0 0 (Nat.zero_le _) (by decide) (by decide) (Nat.le_refl _)).call gd23 hk
theorem tokens_len : ∀ (f : Nat) (s : List UInt8) (l r : List Tok), tokensF f s l = .ok r → r.length ≤ l.length + s.length
  | f, [], l, r, h => by
    have : l = r := by cases f <;> simpa [tokensF] using h
    subst this; exact Nat.le_add_right _ _
  | 0, c :: r', l, r, h => by simp [tokensF] at h
  | f + 1, c :: r', l, r, h => by
    have hu := undollar_len (c :: r')
    simp only [List.length_cons] at hu ⊢
    rw [tokensF] at h
    split at h
    · have := tokens_len f _ _ _ h; omega
    · simp only [] at h
      split at h
      · rename_i h1
        have := tokens_len f _ _ _ h
        have h3 : (signOf (undollar (c :: r'))).length ≠ 0 := by
          intro h2
          rw [List.eq_nil_of_length_eq_zero h2] at h1; simp at h1
        rw [List.length_drop] at this
        simp only [List.length_append, List.length_cons, List.length_nil] at this
        omega
      · split at h
        · cases h
        · rename_i h2
          have h3 : runN (undollar (c :: r')) ≠ 0 := by
            intro h4; rw [h4] at h2; simp at h2
          split at h
          · split at h
            · cases h
            · have := tokens_len f _ _ _ h
              rw [List.length_drop] at this
              simp only [List.length_append, List.length_cons, List.length_nil] at this
              omega
          · split at h
            · cases h
            · have := tokens_len f _ _ _ h
              rw [List.length_drop] at this
              simp only [List.length_append, List.length_cons, List.length_nil] at this
              omega
theorem reval_ok (s : List UInt8) {x : D} {l : List V} {σ : St} (hx : Vd x l) (hv : ∀ v ∈ l, v.value.length ≤ 9223372036854775807) : Ok Try.prog 12 [.str s, x] σ (Told σ (arithF s l)) := by
  refine Ok.fresh fun hf => Ok.drop (show Ok Try.prog 12 [.str s, x] σ (Fin σ (arithF s l)) from ?_)
  have hlx := hx.len
  have z0 : ((0 : Int) == 0) = true := rfl
  have z1 : ((0 : Int) != 0) = false := rfl
  have z61 : ((61 : Int) != 0) = true := rfl
  apply en12
  simp -dsimp (maxSteps := 2000000) (disch := first | omega | (simp; done) | (simp; omega)) only [SA, SB, SC, SD, SE, SF, SG, Nat.reduceLT, Nat.reduceAdd, Nat.reduceSub, Nat.reduceMul, Nat.reduceLeDiff, Nat.reduceEqDiff, Nat.reduceBEq, Int.reduceToNat, Int.reduceLE, Int.reduceLT, Int.reduceEq, Int.reduceNeg, reduceCtorEq, ↓reduceIte, ic12, List.replicate_succ, List.replicate_zero]
  (repeat' (first | simp -dsimp (maxSteps := 2000000) (disch := first | omega | (simp; done) | (simp; omega)) only [SA, SB, SC, SD, SE, SF, SG, Nat.reduceLT, Nat.reduceAdd, Nat.reduceSub, Nat.reduceMul, Nat.reduceLeDiff, Nat.reduceEqDiff, Nat.reduceBEq, Int.reduceToNat, Int.reduceLE, Int.reduceLT, Int.reduceEq, Int.reduceNeg, reduceCtorEq, ↓reduceIte, hlx] | refine Cut.go ?_ | refine Both.intro ?_ ?_ | (refine Br.intro ?_ ?_ <;> intro hb <;> have hb' := hb <;> (try simp only [SH] at hb') <;> (try simp -dsimp (maxSteps := 2000000) (disch := first | omega | (simp; done) | (simp; omega)) only [SA, SB, SC, SD, SE, SF, SG, Nat.reduceLT, Nat.reduceAdd, Nat.reduceSub, Nat.reduceMul, Nat.reduceLeDiff, Nat.reduceEqDiff, Nat.reduceBEq, Int.reduceToNat, Int.reduceLE, Int.reduceLT, Int.reduceEq, Int.reduceNeg, reduceCtorEq, ↓reduceIte, hb, hlx]))))
  · exact fin_err hf (fun j hj => (by first | rfl | (simp (disch := omega) only [put_obj, alloc_obj, put_next, alloc_next, ite_ne]; done))) (by first | omega | (simp only [put_next, alloc_next]; omega)) (by rw [arithF, if_pos (.inl (by omega))])
  · exact fin_err hf (fun j hj => (by first | rfl | (simp (disch := omega) only [put_obj, alloc_obj, put_next, alloc_next, ite_ne]; done))) (by first | omega | (simp only [put_next, alloc_next]; omega)) (by rw [arithF, if_pos (.inr (by omega))])
  have hs : s.length ≤ 8192 := by omega
  have hl : l.length ≤ 64 := by omega
  have hspec : arithF s l = match tokensF s.length s [] with
      | .error e => .error e
      | .ok ts => if ts = [] then .ok (0, l) else
        match exprE ts 0 with
        | .error e => .error e
        | .ok x => if x.rest = [] then evalF x.nd l else .error 61 := by rw [arithF, if_neg (by omega)]; rfl
  refine rtokens_call (by omega) fun n1 hn1 => ⟨fun ts hts t => ?_, fun e he => ?_⟩
  rotate_left
  · have hne : (e != 0) = true := by simpa using tokens_err _ _ _ _ (Nat.le_refl _) he
    (repeat' (first | simp -dsimp (maxSteps := 2000000) (disch := first | omega | (simp; done) | (simp; omega)) only [SA, SB, SC, SD, SE, SF, SG, Nat.reduceLT, Nat.reduceAdd, Nat.reduceSub, Nat.reduceMul, Nat.reduceLeDiff, Nat.reduceEqDiff, Nat.reduceBEq, Int.reduceToNat, Int.reduceLE, Int.reduceLT, Int.reduceEq, Int.reduceNeg, reduceCtorEq, ↓reduceIte, hne] | refine Cut.go ?_ | refine Both.intro ?_ ?_ | (refine Br.intro ?_ ?_ <;> intro hb <;> have hb' := hb <;> (try simp only [SH] at hb') <;> (try simp -dsimp (maxSteps := 2000000) (disch := first | omega | (simp; done) | (simp; omega)) only [SA, SB, SC, SD, SE, SF, SG, Nat.reduceLT, Nat.reduceAdd, Nat.reduceSub, Nat.reduceMul, Nat.reduceLeDiff, Nat.reduceEqDiff, Nat.reduceBEq, Int.reduceToNat, Int.reduceLE, Int.reduceLT, Int.reduceEq, Int.reduceNeg, reduceCtorEq, ↓reduceIte, hb, hne]))))
    exact fin_err hf (fun j hj => (by first | rfl | (simp (disch := omega) only [put_obj, alloc_obj, put_next, alloc_next, ite_ne]; done))) (by first | omega | (simp only [put_next, alloc_next]; omega)) (by rw [hspec, he])
  rw [hts] at hspec
  simp only [] at hspec
  by_cases hts0 : ts = []
  · subst hts0
    rw [if_pos rfl] at hspec
    (repeat' (first | simp -dsimp (maxSteps := 2000000) (disch := first | omega | (simp; done) | (simp; omega)) only [SA, SB, SC, SD, SE, SF, SG, Nat.reduceLT, Nat.reduceAdd, Nat.reduceSub, Nat.reduceMul, Nat.reduceLeDiff, Nat.reduceEqDiff, Nat.reduceBEq, Int.reduceToNat, Int.reduceLE, Int.reduceLT, Int.reduceEq, Int.reduceNeg, reduceCtorEq, ↓reduceIte, z1, toksD, z0] | refine Cut.go ?_ | refine Both.intro ?_ ?_ | (refine Br.intro ?_ ?_ <;> intro hb <;> have hb' := hb <;> (try simp only [SH] at hb') <;> (try simp -dsimp (maxSteps := 2000000) (disch := first | omega | (simp; done) | (simp; omega)) only [SA, SB, SC, SD, SE, SF, SG, Nat.reduceLT, Nat.reduceAdd, Nat.reduceSub, Nat.reduceMul, Nat.reduceLeDiff, Nat.reduceEqDiff, Nat.reduceBEq, Int.reduceToNat, Int.reduceLE, Int.reduceLT, Int.reduceEq, Int.reduceNeg, reduceCtorEq, ↓reduceIte, hb, z1, toksD, z0]))))
    exact ⟨_, drops_end hf (fun j hj => (by first | rfl | (simp (disch := omega) only [put_obj, alloc_obj, put_next, alloc_next, ite_ne]; done))), _, (by first | omega | (simp only [put_next, alloc_next]; omega)), rfl, by rw [hspec]; exact ⟨x, hx, rfl⟩⟩
  rw [if_neg hts0] at hspec
  have htd : toksD ts t = .slc 3 (ts.map Tok.d) (.opened t) := by
    cases ts with
    | nil => exact absurd rfl hts0
    | cons a r => rfl
  have hz2 : ((ts.length : Int) == 0) = false := by
    cases ts with
    | nil => exact absurd rfl hts0
    | cons a r => simp; omega
  have hsg := tokens_sg _ _ _ _ (by simp) hts
  have hgood : ∀ t ∈ ts, TOk t := tokens_good _ _ _ _ (by simp) hts
  have htl : ts.length ≤ 9000 := by
    have := tokens_len _ _ _ _ hts
    simp at this; omega
  (repeat' (first | simp -dsimp (maxSteps := 2000000) (disch := first | omega | (simp; done) | (simp; omega)) only [SA, SB, SC, SD, SE, SF, SG, Nat.reduceLT, Nat.reduceAdd, Nat.reduceSub, Nat.reduceMul, Nat.reduceLeDiff, Nat.reduceEqDiff, Nat.reduceBEq, Int.reduceToNat, Int.reduceLE, Int.reduceLT, Int.reduceEq, Int.reduceNeg, reduceCtorEq, ↓reduceIte, z1, htd, hz2] | refine Cut.go ?_ | refine Both.intro ?_ ?_ | (refine Br.intro ?_ ?_ <;> intro hb <;> have hb' := hb <;> (try simp only [SH] at hb') <;> (try simp -dsimp (maxSteps := 2000000) (disch := first | omega | (simp; done) | (simp; omega)) only [SA, SB, SC, SD, SE, SF, SG, Nat.reduceLT, Nat.reduceAdd, Nat.reduceSub, Nat.reduceMul, Nat.reduceLeDiff, Nat.reduceEqDiff, Nat.reduceBEq, Int.reduceToNat, Int.reduceLE, Int.reduceLT, Int.reduceEq, Int.reduceNeg, reduceCtorEq, ↓reduceIte, hb, z1, htd, hz2]))))
  refine all0_call htl hsg fun n2 hn2 => ⟨fun px hpx p hp hr => ?_, fun e he t' k at' hk => ?_⟩
  rotate_left
  · have hne : (e != 0) = true := by simpa using exprE_nz he
    have hne2 : (e == 0) = false := by simpa using exprE_nz he
    simp only [] at hn1 hn2
    (repeat' (first | simp -dsimp (maxSteps := 2000000) (disch := first | omega | (simp; done) | (simp; omega)) only [SA, SB, SC, SD, SE, SF, SG, Nat.reduceLT, Nat.reduceAdd, Nat.reduceSub, Nat.reduceMul, Nat.reduceLeDiff, Nat.reduceEqDiff, Nat.reduceBEq, Int.reduceToNat, Int.reduceLE, Int.reduceLT, Int.reduceEq, Int.reduceNeg, reduceCtorEq, ↓reduceIte, readD, ite_ne, hk, hne, hne2] | refine Cut.go ?_ | refine Both.intro ?_ ?_ | (refine Br.intro ?_ ?_ <;> intro hb <;> have hb' := hb <;> (try simp only [SH] at hb') <;> (try simp -dsimp (maxSteps := 2000000) (disch := first | omega | (simp; done) | (simp; omega)) only [SA, SB, SC, SD, SE, SF, SG, Nat.reduceLT, Nat.reduceAdd, Nat.reduceSub, Nat.reduceMul, Nat.reduceLeDiff, Nat.reduceEqDiff, Nat.reduceBEq, Int.reduceToNat, Int.reduceLE, Int.reduceLT, Int.reduceEq, Int.reduceNeg, reduceCtorEq, ↓reduceIte, hb, readD, ite_ne, hk, hne, hne2]))))
    exact fin_err hf (fun j hj => (by first | rfl | (simp (disch := omega) only [put_obj, alloc_obj, put_next, alloc_next, ite_ne]; done))) (by first | omega | (simp only [put_next, alloc_next]; omega)) (by rw [hspec, he])
  rw [hpx] at hspec
  simp only [← hr] at hspec
  simp only [] at hn1 hn2
  (repeat' (first | simp -dsimp (maxSteps := 2000000) (disch := first | omega | (simp; done) | (simp; omega)) only [SA, SB, SC, SD, SE, SF, SG, Nat.reduceLT, Nat.reduceAdd, Nat.reduceSub, Nat.reduceMul, Nat.reduceLeDiff, Nat.reduceEqDiff, Nat.reduceBEq, Int.reduceToNat, Int.reduceLE, Int.reduceLT, Int.reduceEq, Int.reduceNeg, reduceCtorEq, ↓reduceIte, readD, ite_ne, kids_sc, z0, z1, z61] | refine Cut.go ?_ | refine Both.intro ?_ ?_ | (refine Br.intro ?_ ?_ <;> intro hb <;> have hb' := hb <;> (try simp only [SH] at hb') <;> (try simp -dsimp (maxSteps := 2000000) (disch := first | omega | (simp; done) | (simp; omega)) only [SA, SB, SC, SD, SE, SF, SG, Nat.reduceLT, Nat.reduceAdd, Nat.reduceSub, Nat.reduceMul, Nat.reduceLeDiff, Nat.reduceEqDiff, Nat.reduceBEq, Int.reduceToNat, Int.reduceLE, Int.reduceLT, Int.reduceEq, Int.reduceNeg, reduceCtorEq, ↓reduceIte, hb, readD, ite_ne, kids_sc, z0, z1, z61]))))
  · exact fin_err hf (fun j hj => (by first | rfl | (simp (disch := omega) only [put_obj, alloc_obj, put_next, alloc_next, ite_ne]; done))) (by first | omega | (simp only [put_next, alloc_next]; omega)) (by rw [hspec, if_neg]; intro h; have := congrArg List.length h; simp at this; omega)
  have hrest : ts.drop p = [] := by rw [List.drop_eq_nil_iff]; omega
  rw [if_pos hrest] at hspec
  have hnd := (parse_good _).1 _ _ _ hpx hgood
  have hns := (parse_sg _).1 _ _ _ hpx hsg
  refine (rk_all px.nd hnd (ndR_of _ hnd hns)).call hx ⟨hl, hv⟩ fun n3 hn3 => ⟨fun r hr3 y hy => ?_, fun e he n' y hys => ?_⟩
  · have hws := hy.scal
    have hwd := dc_scal hws
    have hwo := so_of hws
    simp only [put_next, alloc_next] at hn3
    (repeat' (first | simp -dsimp (maxSteps := 2000000) (disch := first | omega | (simp; done) | (simp; omega)) only [SA, SB, SC, SD, SE, SF, SG, Nat.reduceLT, Nat.reduceAdd, Nat.reduceSub, Nat.reduceMul, Nat.reduceLeDiff, Nat.reduceEqDiff, Nat.reduceBEq, Int.reduceToNat, Int.reduceLE, Int.reduceLT, Int.reduceEq, Int.reduceNeg, reduceCtorEq, ↓reduceIte, hws, hwd, hwo, ite_ne, z1] | refine Cut.go ?_ | refine Both.intro ?_ ?_ | (refine Br.intro ?_ ?_ <;> intro hb <;> have hb' := hb <;> (try simp only [SH] at hb') <;> (try simp -dsimp (maxSteps := 2000000) (disch := first | omega | (simp; done) | (simp; omega)) only [SA, SB, SC, SD, SE, SF, SG, Nat.reduceLT, Nat.reduceAdd, Nat.reduceSub, Nat.reduceMul, Nat.reduceLeDiff, Nat.reduceEqDiff, Nat.reduceBEq, Int.reduceToNat, Int.reduceLE, Int.reduceLT, Int.reduceEq, Int.reduceNeg, reduceCtorEq, ↓reduceIte, hb, hws, hwd, hwo, ite_ne, z1]))))
    exact ⟨_, drops_end hf (fun j hj => (by first | rfl | (simp (disch := omega) only [put_obj, alloc_obj, put_next, alloc_next, ite_ne]; done))), _, (by first | omega | (simp only [put_next, alloc_next]; omega)), rfl, by rw [hspec, hr3]; exact ⟨y, hy, rfl⟩⟩
  · have hne : (e != 0) = true := by simpa using eval_nz2 _ _ _ he
    have hwd := dc_scal hys
    have hwo := so_of hys
    simp only [put_next, alloc_next] at hn3
    (repeat' (first | simp -dsimp (maxSteps := 2000000) (disch := first | omega | (simp; done) | (simp; omega)) only [SA, SB, SC, SD, SE, SF, SG, Nat.reduceLT, Nat.reduceAdd, Nat.reduceSub, Nat.reduceMul, Nat.reduceLeDiff, Nat.reduceEqDiff, Nat.reduceBEq, Int.reduceToNat, Int.reduceLE, Int.reduceLT, Int.reduceEq, Int.reduceNeg, reduceCtorEq, ↓reduceIte, hys, hwd, hwo, ite_ne, hne] | refine Cut.go ?_ | refine Both.intro ?_ ?_ | (refine Br.intro ?_ ?_ <;> intro hb <;> have hb' := hb <;> (try simp only [SH] at hb') <;> (try simp -dsimp (maxSteps := 2000000) (disch := first | omega | (simp; done) | (simp; omega)) only [SA, SB, SC, SD, SE, SF, SG, Nat.reduceLT, Nat.reduceAdd, Nat.reduceSub, Nat.reduceMul, Nat.reduceLeDiff, Nat.reduceEqDiff, Nat.reduceBEq, Int.reduceToNat, Int.reduceLE, Int.reduceLT, Int.reduceEq, Int.reduceNeg, reduceCtorEq, ↓reduceIte, hb, hys, hwd, hwo, ite_ne, hne]))))
    exact fin_err hf (fun j hj => (by first | rfl | (simp (disch := omega) only [put_obj, alloc_obj, put_next, alloc_next, ite_ne]; done))) (by first | omega | (simp only [put_next, alloc_next]; omega)) (by rw [hspec, he])
theorem reval_is {s : List UInt8} {x : D} {l : List V} {r : Int × List V} {σ : St} {K : Out → St → Prop} (h : arithF s l = .ok r) (hx : Vd x l) (hv : ∀ v ∈ l, v.value.length ≤ 9223372036854775807)
    (hk : ∀ m y, σ.next ≤ m → Vd y r.2 → K (.ret (.tuple [.int .i64 r.1, y, .int .i64 0])) ⟨σ.obj, m⟩) : goodFn Try.prog 12 = true ∧ Ok Try.prog 12 [.str s, x] σ K :=
  ⟨gd12, (reval_ok s hx hv).mono fun o s' ⟨m, h1, h2, h3⟩ => by
    rw [h] at h3
    obtain ⟨y, h4, rfl⟩ := h3
    subst h2
    exact hk m y h1 h4⟩
theorem reval_not {s : List UInt8} {x : D} {l : List V} {e : Int} {σ : St} {K : Out → St → Prop} (h : arithF s l = .error e) (hx : Vd x l) (hv : ∀ v ∈ l, v.value.length ≤ 9223372036854775807)
    (hk : ∀ m, σ.next ≤ m → K (.ret (.tuple [.int .i64 0, .nils, .int .i64 e])) ⟨σ.obj, m⟩) : goodFn Try.prog 12 = true ∧ Ok Try.prog 12 [.str s, x] σ K :=
  ⟨gd12, (reval_ok s hx hv).mono fun o s' ⟨m, h1, h2, h3⟩ => by
    rw [h] at h3
    subst h2; subst h3
    exact hk m h1⟩
theorem arith_inv2 {s : List UInt8} {l : List V} {r : Int × List V} (hv : ∀ v ∈ l, v.value.length ≤ 9223372036854775807) (h : arithF s l = .ok r) : r.2.length ≤ 64 := by
  rw [arithF] at h
  split at h
  · cases h
  · rename_i hl
    have hvo : VOk l := ⟨by omega, hv⟩
    split at h
    · cases h
    · rename_i ts hts
      split at h
      · cases h; exact hvo.1
      · split at h
        · cases h
        · rename_i x hx
          split at h
          · exact (eval_inv _ _ _ ((parse_good _).1 _ _ _ hx (tokens_good _ _ _ _ (by simp) hts)) hvo h).2.1
          · cases h
theorem short_ok (s : List UInt8) {x : D} {l : List V} (hx : Vd x l) (σ : St) : Ok Try.prog 9 [.str s, x] σ (fun o s' => s' = σ ∧ ∃ b, o = .ret (.bool b)) := by
  apply en9
  have hlx := hx.len
  simp -dsimp (maxSteps := 2000000) (disch := first | omega | (simp; done) | (simp; omega)) only [SA, SB, SC, SD, SE, SF, SG, Nat.reduceLT, Nat.reduceAdd, Nat.reduceSub, Nat.reduceMul, Nat.reduceLeDiff, Nat.reduceEqDiff, Nat.reduceBEq, Int.reduceToNat, Int.reduceLE, Int.reduceLT, Int.reduceEq, Int.reduceNeg, reduceCtorEq, ↓reduceIte, ic9, List.replicate_succ, List.replicate_zero]
  (repeat' (first | simp -dsimp (maxSteps := 2000000) (disch := first | omega | (simp; done) | (simp; omega)) only [SA, SB, SC, SD, SE, SF, SG, Nat.reduceLT, Nat.reduceAdd, Nat.reduceSub, Nat.reduceMul, Nat.reduceLeDiff, Nat.reduceEqDiff, Nat.reduceBEq, Int.reduceToNat, Int.reduceLE, Int.reduceLT, Int.reduceEq, Int.reduceNeg, reduceCtorEq, ↓reduceIte] | refine Cut.go ?_ | refine Both.intro ?_ ?_ | (refine Br.intro ?_ ?_ <;> intro hb <;> have hb' := hb <;> (try simp only [SH] at hb') <;> (try simp -dsimp (maxSteps := 2000000) (disch := first | omega | (simp; done) | (simp; omega)) only [SA, SB, SC, SD, SE, SF, SG, Nat.reduceLT, Nat.reduceAdd, Nat.reduceSub, Nat.reduceMul, Nat.reduceLeDiff, Nat.reduceEqDiff, Nat.reduceBEq, Int.reduceToNat, Int.reduceLE, Int.reduceLT, Int.reduceEq, Int.reduceNeg, reduceCtorEq, ↓reduceIte, hb]))))
  refine loop_go (fun a : Nat × Int => [.str s, x, .junk, .junk, .bool false, .int .i64 a.2, .int .i64 a.1] ++ List.replicate 37 .junk) (fun _ => σ) (fun a => l.length - a.1) (fun a => a.1 ≤ l.length) (0, 0) (Nat.zero_le _) (by ((try simp only [List.replicate_succ, List.replicate_zero, List.cons_append, List.nil_append]); repeat' (first | exact trivial | refine ⟨.inl rfl, ?_⟩ | refine ⟨.inr rfl, ?_⟩ | refine ⟨.inr (by simp), ?_⟩))) (Drops.refl _) ?_
  rintro ⟨i, n⟩ h1
  simp only [] at h1 ⊢
  simp -dsimp (maxSteps := 2000000) (disch := first | omega | (simp; done) | (simp; omega)) only [SA, SB, SC, SD, SE, SF, SG, Nat.reduceLT, Nat.reduceAdd, Nat.reduceSub, Nat.reduceMul, Nat.reduceLeDiff, Nat.reduceEqDiff, Nat.reduceBEq, Int.reduceToNat, Int.reduceLE, Int.reduceLT, Int.reduceEq, Int.reduceNeg, reduceCtorEq, ↓reduceIte, List.replicate_succ, List.replicate_zero]
  (repeat' (first | simp -dsimp (maxSteps := 2000000) (disch := first | omega | (simp; done) | (simp; omega)) only [SA, SB, SC, SD, SE, SF, SG, Nat.reduceLT, Nat.reduceAdd, Nat.reduceSub, Nat.reduceMul, Nat.reduceLeDiff, Nat.reduceEqDiff, Nat.reduceBEq, Int.reduceToNat, Int.reduceLE, Int.reduceLT, Int.reduceEq, Int.reduceNeg, reduceCtorEq, ↓reduceIte, hlx] | refine Cut.go ?_ | refine Both.intro ?_ ?_ | (refine Br.intro ?_ ?_ <;> intro hb <;> have hb' := hb <;> (try simp only [SH] at hb') <;> (try simp -dsimp (maxSteps := 2000000) (disch := first | omega | (simp; done) | (simp; omega)) only [SA, SB, SC, SD, SE, SF, SG, Nat.reduceLT, Nat.reduceAdd, Nat.reduceSub, Nat.reduceMul, Nat.reduceLeDiff, Nat.reduceEqDiff, Nat.reduceBEq, Int.reduceToNat, Int.reduceLE, Int.reduceLT, Int.reduceEq, Int.reduceNeg, reduceCtorEq, ↓reduceIte, hb, hlx]))))
  · have hi : i < l.length := by omega
    have ax := hx.at hi
    (repeat' (first | simp -dsimp (maxSteps := 2000000) (disch := first | omega | (simp; done) | (simp; omega)) only [SA, SB, SC, SD, SE, SF, SG, Nat.reduceLT, Nat.reduceAdd, Nat.reduceSub, Nat.reduceMul, Nat.reduceLeDiff, Nat.reduceEqDiff, Nat.reduceBEq, Int.reduceToNat, Int.reduceLE, Int.reduceLT, Int.reduceEq, Int.reduceNeg, reduceCtorEq, ↓reduceIte, ax, V.cs] | refine Cut.go ?_ | refine Both.intro ?_ ?_ | (refine Br.intro ?_ ?_ <;> intro hb <;> have hb' := hb <;> (try simp only [SH] at hb') <;> (try simp -dsimp (maxSteps := 2000000) (disch := first | omega | (simp; done) | (simp; omega)) only [SA, SB, SC, SD, SE, SF, SG, Nat.reduceLT, Nat.reduceAdd, Nat.reduceSub, Nat.reduceMul, Nat.reduceLeDiff, Nat.reduceEqDiff, Nat.reduceBEq, Int.reduceToNat, Int.reduceLE, Int.reduceLT, Int.reduceEq, Int.reduceNeg, reduceCtorEq, ↓reduceIte, hb, ax, V.cs]))))
    · exact ⟨_, rfl⟩
    · exact Round.go (i + 1, _) (by simp only []; omega) (by simp only []; omega) (by ((try simp only [List.replicate_succ, List.replicate_zero, List.cons_append, List.nil_append]); repeat' (first | exact trivial | refine ⟨.inl rfl, ?_⟩ | refine ⟨.inr rfl, ?_⟩ | refine ⟨.inr (by simp), ?_⟩))) (Drops.refl _)
  all_goals exact ⟨_, rfl⟩
theorem short_call {s : List UInt8} {x : D} {l : List V} {σ : St} {K : Out → St → Prop} (hx : Vd x l) (hk : ∀ b, K (.ret (.bool b)) σ) : goodFn Try.prog 9 = true ∧ Ok Try.prog 9 [.str s, x] σ K :=
  ⟨gd9, (short_ok s hx σ).mono fun o s' ⟨h1, b, h2⟩ => by subst h1; subst h2; exact hk b⟩
theorem evals_ok (s : List UInt8) (x : D) (l : List V) (hx : Vd x l) (hv : ∀ v ∈ l, v.value.length ≤ 9223372036854775807) (σ : St) : Ok Try.prog 3 [.str s, x] σ (fun o _ => o = .ret (.bool true)) := by
  apply en3
  simp -dsimp (maxSteps := 2000000) (disch := first | omega | (simp; done) | (simp; omega)) only [SA, SB, SC, SD, SE, SF, SG, Nat.reduceLT, Nat.reduceAdd, Nat.reduceSub, Nat.reduceMul, Nat.reduceLeDiff, Nat.reduceEqDiff, Nat.reduceBEq, Int.reduceToNat, Int.reduceLE, Int.reduceLT, Int.reduceEq, Int.reduceNeg, reduceCtorEq, ↓reduceIte, ic3, List.replicate_succ, List.replicate_zero]
  (repeat' (first | simp -dsimp (maxSteps := 2000000) (disch := first | omega | (simp; done) | (simp; omega)) only [SA, SB, SC, SD, SE, SF, SG, Nat.reduceLT, Nat.reduceAdd, Nat.reduceSub, Nat.reduceMul, Nat.reduceLeDiff, Nat.reduceEqDiff, Nat.reduceBEq, Int.reduceToNat, Int.reduceLE, Int.reduceLT, Int.reduceEq, Int.reduceNeg, reduceCtorEq, ↓reduceIte] | refine Cut.go ?_ | refine Both.intro ?_ ?_ | (refine Br.intro ?_ ?_ <;> intro hb <;> have hb' := hb <;> (try simp only [SH] at hb') <;> (try simp -dsimp (maxSteps := 2000000) (disch := first | omega | (simp; done) | (simp; omega)) only [SA, SB, SC, SD, SE, SF, SG, Nat.reduceLT, Nat.reduceAdd, Nat.reduceSub, Nat.reduceMul, Nat.reduceLeDiff, Nat.reduceEqDiff, Nat.reduceBEq, Int.reduceToNat, Int.reduceLE, Int.reduceLT, Int.reduceEq, Int.reduceNeg, reduceCtorEq, ↓reduceIte, hb]))))
  refine short_call hx fun b => ?_
  cases b
  · (repeat' (first | simp -dsimp (maxSteps := 2000000) (disch := first | omega | (simp; done) | (simp; omega)) only [SA, SB, SC, SD, SE, SF, SG, Nat.reduceLT, Nat.reduceAdd, Nat.reduceSub, Nat.reduceMul, Nat.reduceLeDiff, Nat.reduceEqDiff, Nat.reduceBEq, Int.reduceToNat, Int.reduceLE, Int.reduceLT, Int.reduceEq, Int.reduceNeg, reduceCtorEq, ↓reduceIte] | refine Cut.go ?_ | refine Both.intro ?_ ?_ | (refine Br.intro ?_ ?_ <;> intro hb <;> have hb' := hb <;> (try simp only [SH] at hb') <;> (try simp -dsimp (maxSteps := 2000000) (disch := first | omega | (simp; done) | (simp; omega)) only [SA, SB, SC, SD, SE, SF, SG, Nat.reduceLT, Nat.reduceAdd, Nat.reduceSub, Nat.reduceMul, Nat.reduceLeDiff, Nat.reduceEqDiff, Nat.reduceBEq, Int.reduceToNat, Int.reduceLE, Int.reduceLT, Int.reduceEq, Int.reduceNeg, reduceCtorEq, ↓reduceIte, hb]))))
    refine awake_call fun m hm => ?_
    (repeat' (first | simp -dsimp (maxSteps := 2000000) (disch := first | omega | (simp; done) | (simp; omega)) only [SA, SB, SC, SD, SE, SF, SG, Nat.reduceLT, Nat.reduceAdd, Nat.reduceSub, Nat.reduceMul, Nat.reduceLeDiff, Nat.reduceEqDiff, Nat.reduceBEq, Int.reduceToNat, Int.reduceLE, Int.reduceLT, Int.reduceEq, Int.reduceNeg, reduceCtorEq, ↓reduceIte] | refine Cut.go ?_ | refine Both.intro ?_ ?_ | (refine Br.intro ?_ ?_ <;> intro hb <;> have hb' := hb <;> (try simp only [SH] at hb') <;> (try simp -dsimp (maxSteps := 2000000) (disch := first | omega | (simp; done) | (simp; omega)) only [SA, SB, SC, SD, SE, SF, SG, Nat.reduceLT, Nat.reduceAdd, Nat.reduceSub, Nat.reduceMul, Nat.reduceLeDiff, Nat.reduceEqDiff, Nat.reduceBEq, Int.reduceToNat, Int.reduceLE, Int.reduceLT, Int.reduceEq, Int.reduceNeg, reduceCtorEq, ↓reduceIte, hb]))))
  (repeat' (first | simp -dsimp (maxSteps := 2000000) (disch := first | omega | (simp; done) | (simp; omega)) only [SA, SB, SC, SD, SE, SF, SG, Nat.reduceLT, Nat.reduceAdd, Nat.reduceSub, Nat.reduceMul, Nat.reduceLeDiff, Nat.reduceEqDiff, Nat.reduceBEq, Int.reduceToNat, Int.reduceLE, Int.reduceLT, Int.reduceEq, Int.reduceNeg, reduceCtorEq, ↓reduceIte] | refine Cut.go ?_ | refine Both.intro ?_ ?_ | (refine Br.intro ?_ ?_ <;> intro hb <;> have hb' := hb <;> (try simp only [SH] at hb') <;> (try simp -dsimp (maxSteps := 2000000) (disch := first | omega | (simp; done) | (simp; omega)) only [SA, SB, SC, SD, SE, SF, SG, Nat.reduceLT, Nat.reduceAdd, Nat.reduceSub, Nat.reduceMul, Nat.reduceLeDiff, Nat.reduceEqDiff, Nat.reduceBEq, Int.reduceToNat, Int.reduceLE, Int.reduceLT, Int.reduceEq, Int.reduceNeg, reduceCtorEq, ↓reduceIte, hb]))))
  have z00 : ((0 : Int) == 0) = true := rfl
  refine eval_call hx hv fun m hm => ⟨fun r hr y hy => ?_, fun e he => ?_⟩
  · (repeat' (first | simp -dsimp (maxSteps := 2000000) (disch := first | omega | (simp; done) | (simp; omega)) only [SA, SB, SC, SD, SE, SF, SG, Nat.reduceLT, Nat.reduceAdd, Nat.reduceSub, Nat.reduceMul, Nat.reduceLeDiff, Nat.reduceEqDiff, Nat.reduceBEq, Int.reduceToNat, Int.reduceLE, Int.reduceLT, Int.reduceEq, Int.reduceNeg, reduceCtorEq, ↓reduceIte] | refine Cut.go ?_ | refine Both.intro ?_ ?_ | (refine Br.intro ?_ ?_ <;> intro hb <;> have hb' := hb <;> (try simp only [SH] at hb') <;> (try simp -dsimp (maxSteps := 2000000) (disch := first | omega | (simp; done) | (simp; omega)) only [SA, SB, SC, SD, SE, SF, SG, Nat.reduceLT, Nat.reduceAdd, Nat.reduceSub, Nat.reduceMul, Nat.reduceLeDiff, Nat.reduceEqDiff, Nat.reduceBEq, Int.reduceToNat, Int.reduceLE, Int.reduceLT, Int.reduceEq, Int.reduceNeg, reduceCtorEq, ↓reduceIte, hb]))))
    refine reval_is hr hx hv fun m2 y2 hm2 hy2 => ?_
    have hd : decide (r.2 = r.2) = true := by simp
    have hn : (r.1 == r.1) = true := by simp
    (repeat' (first | simp -dsimp (maxSteps := 2000000) (disch := first | omega | (simp; done) | (simp; omega)) only [SA, SB, SC, SD, SE, SF, SG, Nat.reduceLT, Nat.reduceAdd, Nat.reduceSub, Nat.reduceMul, Nat.reduceLeDiff, Nat.reduceEqDiff, Nat.reduceBEq, Int.reduceToNat, Int.reduceLE, Int.reduceLT, Int.reduceEq, Int.reduceNeg, reduceCtorEq, ↓reduceIte, z00, hn, hd] | refine Cut.go ?_ | refine Both.intro ?_ ?_ | refine vars_call hy hy2 (Nat.le_trans (arith_inv2 hv hr) (by decide)) ?_ | (refine Br.intro ?_ ?_ <;> intro hb <;> have hb' := hb <;> (try simp only [SH] at hb') <;> (try simp -dsimp (maxSteps := 2000000) (disch := first | omega | (simp; done) | (simp; omega)) only [SA, SB, SC, SD, SE, SF, SG, Nat.reduceLT, Nat.reduceAdd, Nat.reduceSub, Nat.reduceMul, Nat.reduceLeDiff, Nat.reduceEqDiff, Nat.reduceBEq, Int.reduceToNat, Int.reduceLE, Int.reduceLT, Int.reduceEq, Int.reduceNeg, reduceCtorEq, ↓reduceIte, hb, z00, hn, hd]))))
    refine awake_call fun m3 hm3 => ?_
    (repeat' (first | simp -dsimp (maxSteps := 2000000) (disch := first | omega | (simp; done) | (simp; omega)) only [SA, SB, SC, SD, SE, SF, SG, Nat.reduceLT, Nat.reduceAdd, Nat.reduceSub, Nat.reduceMul, Nat.reduceLeDiff, Nat.reduceEqDiff, Nat.reduceBEq, Int.reduceToNat, Int.reduceLE, Int.reduceLT, Int.reduceEq, Int.reduceNeg, reduceCtorEq, ↓reduceIte] | refine Cut.go ?_ | refine Both.intro ?_ ?_ | (refine Br.intro ?_ ?_ <;> intro hb <;> have hb' := hb <;> (try simp only [SH] at hb') <;> (try simp -dsimp (maxSteps := 2000000) (disch := first | omega | (simp; done) | (simp; omega)) only [SA, SB, SC, SD, SE, SF, SG, Nat.reduceLT, Nat.reduceAdd, Nat.reduceSub, Nat.reduceMul, Nat.reduceLeDiff, Nat.reduceEqDiff, Nat.reduceBEq, Int.reduceToNat, Int.reduceLE, Int.reduceLT, Int.reduceEq, Int.reduceNeg, reduceCtorEq, ↓reduceIte, hb]))))
  · (repeat' (first | simp -dsimp (maxSteps := 2000000) (disch := first | omega | (simp; done) | (simp; omega)) only [SA, SB, SC, SD, SE, SF, SG, Nat.reduceLT, Nat.reduceAdd, Nat.reduceSub, Nat.reduceMul, Nat.reduceLeDiff, Nat.reduceEqDiff, Nat.reduceBEq, Int.reduceToNat, Int.reduceLE, Int.reduceLT, Int.reduceEq, Int.reduceNeg, reduceCtorEq, ↓reduceIte] | refine Cut.go ?_ | refine Both.intro ?_ ?_ | (refine Br.intro ?_ ?_ <;> intro hb <;> have hb' := hb <;> (try simp only [SH] at hb') <;> (try simp -dsimp (maxSteps := 2000000) (disch := first | omega | (simp; done) | (simp; omega)) only [SA, SB, SC, SD, SE, SF, SG, Nat.reduceLT, Nat.reduceAdd, Nat.reduceSub, Nat.reduceMul, Nat.reduceLeDiff, Nat.reduceEqDiff, Nat.reduceBEq, Int.reduceToNat, Int.reduceLE, Int.reduceLT, Int.reduceEq, Int.reduceNeg, reduceCtorEq, ↓reduceIte, hb]))))
    refine reval_not he hx hv fun m2 hm2 => ?_
    have hd : decide (([] : List V) = []) = true := by simp
    have hn : (e == e) = true := by simp
    (repeat' (first | simp -dsimp (maxSteps := 2000000) (disch := first | omega | (simp; done) | (simp; omega)) only [SA, SB, SC, SD, SE, SF, SG, Nat.reduceLT, Nat.reduceAdd, Nat.reduceSub, Nat.reduceMul, Nat.reduceLeDiff, Nat.reduceEqDiff, Nat.reduceBEq, Int.reduceToNat, Int.reduceLE, Int.reduceLT, Int.reduceEq, Int.reduceNeg, reduceCtorEq, ↓reduceIte, z00, hn, hd] | refine Cut.go ?_ | refine Both.intro ?_ ?_ | refine vars_call .vnil .vnil (by simp) ?_ | (refine Br.intro ?_ ?_ <;> intro hb <;> have hb' := hb <;> (try simp only [SH] at hb') <;> (try simp -dsimp (maxSteps := 2000000) (disch := first | omega | (simp; done) | (simp; omega)) only [SA, SB, SC, SD, SE, SF, SG, Nat.reduceLT, Nat.reduceAdd, Nat.reduceSub, Nat.reduceMul, Nat.reduceLeDiff, Nat.reduceEqDiff, Nat.reduceBEq, Int.reduceToNat, Int.reduceLE, Int.reduceLT, Int.reduceEq, Int.reduceNeg, reduceCtorEq, ↓reduceIte, hb, z00, hn, hd]))))
    refine awake_call fun m3 hm3 => ?_
    (repeat' (first | simp -dsimp (maxSteps := 2000000) (disch := first | omega | (simp; done) | (simp; omega)) only [SA, SB, SC, SD, SE, SF, SG, Nat.reduceLT, Nat.reduceAdd, Nat.reduceSub, Nat.reduceMul, Nat.reduceLeDiff, Nat.reduceEqDiff, Nat.reduceBEq, Int.reduceToNat, Int.reduceLE, Int.reduceLT, Int.reduceEq, Int.reduceNeg, reduceCtorEq, ↓reduceIte] | refine Cut.go ?_ | refine Both.intro ?_ ?_ | (refine Br.intro ?_ ?_ <;> intro hb <;> have hb' := hb <;> (try simp only [SH] at hb') <;> (try simp -dsimp (maxSteps := 2000000) (disch := first | omega | (simp; done) | (simp; omega)) only [SA, SB, SC, SD, SE, SF, SG, Nat.reduceLT, Nat.reduceAdd, Nat.reduceSub, Nat.reduceMul, Nat.reduceLeDiff, Nat.reduceEqDiff, Nat.reduceBEq, Int.reduceToNat, Int.reduceLE, Int.reduceLT, Int.reduceEq, Int.reduceNeg, reduceCtorEq, ↓reduceIte, hb]))))
end Go.Proofs.Ytkjgadanaknleaa
