/-
  THE WALKS, PART 7: a number, a name, parentheses, or a sign ahead of such; the parser as a whole.
-/
import Derived.Test.YtkjgadanaknleaaW6
namespace Go.Proofs.Ytkjgadanaknleaa
open Go Go.Id
set_option linter.unusedSimpArgs false
set_option linter.unusedVariables false
set_option maxRecDepth 100000
set_option maxHeartbeats 4000000

theorem unary1_okD {σ : St} {k j t : Nat} {l : List Tok} {deep : Int} {m : Id.Mode} {R : Id.Mode → St → Prop} (hk : σ.obj k = some (.cells [.ref j 0])) (hj : σ.obj j = some (rdr l t deep))
    (hr : R m (rdSt σ j l t (IntKind.i64.wrap (deep - 1)) σ.next)) : goodFn Try.prog 79 = true ∧ OkD Try.prog 79 [.ref k 0] m σ R := by
  refine ⟨gd79, OkD_of_iwp mixed (pol := pol) Try.func79 rfl rc79 rfl ?_⟩
  unfold rdr at hj
  show iwp Try.prog ic79 _ ⟨[.ref k 0] ++ List.replicate 7 .junk, []⟩ σ
  simp -dsimp (maxSteps := 2000000) (disch := first | omega | (simp; done) | (simp; omega)) only [SA, SB, SC, SD, SE, SF, SG, Nat.reduceLT, Nat.reduceAdd, Nat.reduceSub, Nat.reduceMul, Nat.reduceLeDiff, Nat.reduceEqDiff, Nat.reduceBEq, Int.reduceToNat, Int.reduceLE, Int.reduceLT, Int.reduceEq, Int.reduceNeg, reduceCtorEq, ↓reduceIte, ic79, List.replicate_succ, List.replicate_zero]
  (repeat' (first | simp -dsimp (maxSteps := 2000000) (disch := first | omega | (simp; done) | (simp; omega)) only [SA, SB, SC, SD, SE, SF, SG, Nat.reduceLT, Nat.reduceAdd, Nat.reduceSub, Nat.reduceMul, Nat.reduceLeDiff, Nat.reduceEqDiff, Nat.reduceBEq, Int.reduceToNat, Int.reduceLE, Int.reduceLT, Int.reduceEq, Int.reduceNeg, reduceCtorEq, ↓reduceIte, hk, hj] | refine Cut.go ?_ | refine Both.intro ?_ ?_ | (refine Br.intro ?_ ?_ <;> intro hb <;> have hb' := hb <;> (try simp only [SH] at hb') <;> (try simp -dsimp (maxSteps := 2000000) (disch := first | omega | (simp; done) | (simp; omega)) only [SA, SB, SC, SD, SE, SF, SG, Nat.reduceLT, Nat.reduceAdd, Nat.reduceSub, Nat.reduceMul, Nat.reduceLeDiff, Nat.reduceEqDiff, Nat.reduceBEq, Int.reduceToNat, Int.reduceLE, Int.reduceLT, Int.reduceEq, Int.reduceNeg, reduceCtorEq, ↓reduceIte, hb, hk, hj]))))
  exact ⟨rfl, hr⟩
/-- What a frame of 'unary' knows of its own cell. -/
structure Own (σ : St) (j k : Nat) (s : St) : Prop where
  at_k : s.obj k = some (.cells [.ref j 0])
  ne : k ≠ j
  ge : σ.next ≤ k
  nx : k < s.next
  old : ∀ i, i < σ.next → i ≠ j → s.obj i = σ.obj i
theorem Own.rd {σ s : St} {j k : Nat} (h : Own σ j k s) (l : List Tok) (t : Nat) (deep : Int) {n : Nat} (hn : s.next ≤ n) : Own σ j k (rdSt s j l t deep n) :=
  ⟨by rw [rdSt_obj, if_neg h.ne, h.at_k], h.ne, h.ge, by have := h.nx; simp only [rdSt_next]; omega, fun i h1 h2 => by rw [rdSt_obj, if_neg h2, h.old i h1 h2]⟩
theorem Own.kept {σ s s' : St} {j k k' : Nat} {q : Tok} (h : Own σ j k s) (hq : Kept s j k' q s') (hs : σ.next ≤ s.next) : Own σ j k s' := by
  have h1 := h.nx; have h2 := hq.nx; have h3 := hq.ge
  exact ⟨by rw [hq.old k h1 h.ne, h.at_k], h.ne, h.ge, by omega, fun i g1 g2 => by rw [hq.old i (by omega) g2, h.old i g1 g2]⟩
theorem Own.drops {σ s : St} {j k : Nat} (h : Own σ j k s) (hf : σ.Fresh) (l : List Tok) (t : Nat) (deep : Int) (n : Nat) : Drops (rdSt s j l t deep n) (rdSt σ j l t deep n) :=
  Drops_rd hf (Nat.le_refl _) (rdSt_at ..) fun i h1 h2 => by rw [rdSt_obj, if_neg h2, h.old i h1 h2]
/-- The frame's end: the deferred call, and what is left. -/
theorem own_end {σ s : St} {j k t : Nat} {l : List Tok} {deep : Int} {ires : List IRes} {tmps : List D} {m : Id.Mode} {Post : Out → St → Prop} (ho : Own σ j k s) (hj : s.obj j = some (rdr l t deep))
    (h : ILeaves Try.prog ires tmps Post [] m (rdSt s j l t (IntKind.i64.wrap (deep - 1)) s.next)) : goodFn Try.prog 79 = true ∧ OkD Try.prog 79 [.ref k 0] m s (ILeaves Try.prog ires tmps Post []) :=
  unary1_okD ho.at_k hj h

theorem un_walk (f : Nat) (l : List Tok) (deep : Int) (hfit : Fit l deep)
    (hun : ∀ r, r.length + 1 ≤ l.length → Fit r (deep + 1) → Parses 72 [] (unF f r (deep + 1)) r (deep + 1))
    (hexpr : ∀ r, r.length + 1 ≤ l.length → Fit r (deep + 1) → Parses 20 [] (exprF f r (deep + 1)) r (deep + 1)) : Parses 72 [] (unF (f + 1) l deep) l deep := by
  intro σ j t h
  refine Ok.fresh fun hf => Ok.drop ?_
  have hlt : j < σ.next := Nat.lt_of_not_le fun hle => by rw [hf _ hle] at h; cases h
  apply en72
  have h0 := h
  unfold rdr at h
  have hj1 : (j = σ.next) = False := eq_false (by omega)
  have hj2 : (σ.next = j) = False := eq_false (by omega)
  obtain ⟨hd1, hd2⟩ := hfit.2
  simp -dsimp (maxSteps := 2000000) (disch := first | omega | (simp; done) | (simp; omega)) only [SA, SB, SC, SD, SE, SF, SG, Nat.reduceLT, Nat.reduceAdd, Nat.reduceSub, Nat.reduceMul, Nat.reduceLeDiff, Nat.reduceEqDiff, Nat.reduceBEq, Int.reduceToNat, Int.reduceLE, Int.reduceLT, Int.reduceEq, Int.reduceNeg, reduceCtorEq, ↓reduceIte, ic72, List.replicate_succ, List.replicate_zero]
  have ow : Own σ j σ.next ((σ.alloc (.cells [.ref j 0])).put j (some (.cells [.slc 3 (List.map Tok.d l) (.opened t), .int .i64 (deep + 1)]))) :=
    ⟨by rw [put_obj, if_neg (by omega), alloc_obj, if_pos rfl], by omega, Nat.le_refl _, by simp only [put_next, alloc_next]; omega, fun i h1 h2 => by rw [put_obj, if_neg h2, alloc_obj, if_neg (by omega)]⟩
  have h1 : ((σ.alloc (.cells [.ref j 0])).put j (some (.cells [.slc 3 (List.map Tok.d l) (.opened t), .int .i64 (deep + 1)]))).obj j = some (rdr l t (deep + 1)) := by rw [put_obj, if_pos rfl]; rfl
  have hx1 : ((σ.alloc (.cells [.ref j 0])).put j (some (.cells [.slc 3 (List.map Tok.d l) (.opened t), .int .i64 (deep + 1)]))).next = σ.next + 1 := rfl
  (repeat' (first | simp -dsimp (maxSteps := 2000000) (disch := first | omega | (simp; done) | (simp; omega)) only [SA, SB, SC, SD, SE, SF, SG, Nat.reduceLT, Nat.reduceAdd, Nat.reduceSub, Nat.reduceMul, Nat.reduceLeDiff, Nat.reduceEqDiff, Nat.reduceBEq, Int.reduceToNat, Int.reduceLE, Int.reduceLT, Int.reduceEq, Int.reduceNeg, reduceCtorEq, ↓reduceIte, h, hj1, hj2, ist_leave_defer] | refine Cut.go ?_ | refine Both.intro ?_ ?_ | (refine Br.intro ?_ ?_ <;> intro hb <;> have hb' := hb <;> (try simp only [SH] at hb') <;> (try simp -dsimp (maxSteps := 2000000) (disch := first | omega | (simp; done) | (simp; omega)) only [SA, SB, SC, SD, SE, SF, SG, Nat.reduceLT, Nat.reduceAdd, Nat.reduceSub, Nat.reduceMul, Nat.reduceLeDiff, Nat.reduceEqDiff, Nat.reduceBEq, Int.reduceToNat, Int.reduceLE, Int.reduceLT, Int.reduceEq, Int.reduceNeg, reduceCtorEq, ↓reduceIte, hb, h, hj1, hj2, ist_leave_defer]))))
  · have hd : Drops ((σ.alloc (.cells [.ref j 0])).put j (some (.cells [.slc 3 (List.map Tok.d l) (.opened t), .int .i64 (deep + 1)]))) (rdSt σ j l t (deep + 1) (σ.next + 1)) :=
      Drops_rd hf (Nat.le_refl _) h1 ow.old
    exact ⟨_, hd, PR.err l (deep + 1) (by rw [unF.eq_def]; simp only []; rw [if_pos hb']) (by omega)⟩
  generalize (σ.alloc (.cells [.ref j 0])).put j (some (.cells [.slc 3 (List.map Tok.d l) (.opened t), .int .i64 (deep + 1)])) = σ1 at ow h1 hx1 ⊢
  cases l with
  | nil =>
    refine take_none h1 fun n2 hn2 => ?_
    (repeat' (first | simp -dsimp (maxSteps := 2000000) (disch := first | omega | (simp; done) | (simp; omega)) only [SA, SB, SC, SD, SE, SF, SG, Nat.reduceLT, Nat.reduceAdd, Nat.reduceSub, Nat.reduceMul, Nat.reduceLeDiff, Nat.reduceEqDiff, Nat.reduceBEq, Int.reduceToNat, Int.reduceLE, Int.reduceLT, Int.reduceEq, Int.reduceNeg, reduceCtorEq, ↓reduceIte, ist_leave_defer, rdSt_rdSt] | refine Cut.go ?_ | refine Both.intro ?_ ?_ | refine own_end (ow.rd [] t (deep + 1) hn2) (rdSt_at ..) ?_ | (refine Br.intro ?_ ?_ <;> intro hb <;> have hb' := hb <;> (try simp only [SH] at hb') <;> (try simp -dsimp (maxSteps := 2000000) (disch := first | omega | (simp; done) | (simp; omega)) only [SA, SB, SC, SD, SE, SF, SG, Nat.reduceLT, Nat.reduceAdd, Nat.reduceSub, Nat.reduceMul, Nat.reduceLeDiff, Nat.reduceEqDiff, Nat.reduceBEq, Int.reduceToNat, Int.reduceLE, Int.reduceLT, Int.reduceEq, Int.reduceNeg, reduceCtorEq, ↓reduceIte, hb, ist_leave_defer, rdSt_rdSt]))))
    exact ⟨_, ow.drops hf .., PR.err [] _ (by rw [unF.eq_def]; simp only []; rw [if_neg hb']) (by rw [rdSt_next]; omega)⟩
  | cons a r =>
    have hlt1 : j < σ1.next := by omega
    refine take_call h1 fun n2 hn2 => ?_
    simp -dsimp (maxSteps := 2000000) (disch := first | omega | (simp; done) | (simp; omega)) only [SA, SB, SC, SD, SE, SF, SG, Nat.reduceLT, Nat.reduceAdd, Nat.reduceSub, Nat.reduceMul, Nat.reduceLeDiff, Nat.reduceEqDiff, Nat.reduceBEq, Int.reduceToNat, Int.reduceLE, Int.reduceLT, Int.reduceEq, Int.reduceNeg, reduceCtorEq, ↓reduceIte, Tok.d, alloc_obj, rdSt_next]
    have kp := Kept.new (σ := σ1) (j := j) (t := t) (l := r) (deep := deep + 1) (n := n2) a [.str [], .str [], .int .i64 0] hlt1 hn2
    have h2 : (((rdSt σ1 j r t (deep + 1) n2).alloc (.cells [.str [], .str [], .int .i64 0])).put n2 (some (.cells [.str a.sign, .str a.name, .int .i64 a.n]))).obj j = some (rdr r t (deep + 1)) := by
      rw [put_obj, if_neg kp.ne.symm, alloc_obj, if_neg (by simp only [rdSt_next]; omega), rdSt_at]
    have hx2 : (((rdSt σ1 j r t (deep + 1) n2).alloc (.cells [.str [], .str [], .int .i64 0])).put n2 (some (.cells [.str a.sign, .str a.name, .int .i64 a.n]))).next = n2 + 1 := rfl
    generalize ((rdSt σ1 j r t (deep + 1) n2).alloc (.cells [.str [], .str [], .int .i64 0])).put n2 (some (.cells [.str a.sign, .str a.name, .int .i64 a.n])) = σ2 at kp h2 hx2 ⊢
    have ow2 := ow.kept kp (by omega)
    have hk2 := kp.at_k
    have hc2 := ow2.at_k
    have hfr : Fit r (deep + 1) := ⟨hfit.tail.1, by omega, by omega⟩
    have hk : ∀ l t d n, (rdSt σ2 j l t d n).obj n2 = some (.cells [.str a.sign, .str a.name, .int .i64 a.n]) := fun l t d n => by rw [rdSt_obj, if_neg kp.ne, hk2]
    have hc : ∀ l t d n, (rdSt σ2 j l t d n).obj σ.next = some (.cells [.ref j 0]) := fun l t d n => by rw [rdSt_obj, if_neg ow2.ne, hc2]
    have hwd : IntKind.i64.wrap (deep + 1 - 1) = deep := by rw [wr64 _ (by omega)]; omega
    have hdeep := hb'
    (repeat' (first | simp -dsimp (maxSteps := 2000000) (disch := first | omega | (simp; done) | (simp; omega)) only [SA, SB, SC, SD, SE, SF, SG, Nat.reduceLT, Nat.reduceAdd, Nat.reduceSub, Nat.reduceMul, Nat.reduceLeDiff, Nat.reduceEqDiff, Nat.reduceBEq, Int.reduceToNat, Int.reduceLE, Int.reduceLT, Int.reduceEq, Int.reduceNeg, reduceCtorEq, ↓reduceIte, hk2, hc2, ist_leave_defer] | refine Cut.go ?_ | refine Both.intro ?_ ?_ | (refine Br.intro ?_ ?_ <;> intro hb <;> have hb' := hb <;> (try simp only [SH] at hb') <;> (try simp -dsimp (maxSteps := 2000000) (disch := first | omega | (simp; done) | (simp; omega)) only [SA, SB, SC, SD, SE, SF, SG, Nat.reduceLT, Nat.reduceAdd, Nat.reduceSub, Nat.reduceMul, Nat.reduceLeDiff, Nat.reduceEqDiff, Nat.reduceBEq, Int.reduceToNat, Int.reduceLE, Int.reduceLT, Int.reduceEq, Int.reduceNeg, reduceCtorEq, ↓reduceIte, hb, hk2, hc2, ist_leave_defer]))))
    · refine own_end ow2 h2 ?_
      (repeat' (first | simp -dsimp (maxSteps := 2000000) (disch := first | omega | (simp; done) | (simp; omega)) only [SA, SB, SC, SD, SE, SF, SG, Nat.reduceLT, Nat.reduceAdd, Nat.reduceSub, Nat.reduceMul, Nat.reduceLeDiff, Nat.reduceEqDiff, Nat.reduceBEq, Int.reduceToNat, Int.reduceLE, Int.reduceLT, Int.reduceEq, Int.reduceNeg, reduceCtorEq, ↓reduceIte, hwd] | refine Cut.go ?_ | refine Both.intro ?_ ?_ | (refine Br.intro ?_ ?_ <;> intro hb <;> have hb' := hb <;> (try simp only [SH] at hb') <;> (try simp -dsimp (maxSteps := 2000000) (disch := first | omega | (simp; done) | (simp; omega)) only [SA, SB, SC, SD, SE, SF, SG, Nat.reduceLT, Nat.reduceAdd, Nat.reduceSub, Nat.reduceMul, Nat.reduceLeDiff, Nat.reduceEqDiff, Nat.reduceBEq, Int.reduceToNat, Int.reduceLE, Int.reduceLT, Int.reduceEq, Int.reduceNeg, reduceCtorEq, ↓reduceIte, hb, hwd]))))
      exact ⟨_, ow2.drops hf .., PR.ok' (.leaf a) rfl (by rw [unF.eq_def]; simp only []; rw [if_neg hdeep, if_pos hb]) (by omega)⟩
    rotate_right
    · refine own_end ow2 h2 ?_
      (repeat' (first | simp -dsimp (maxSteps := 2000000) (disch := first | omega | (simp; done) | (simp; omega)) only [SA, SB, SC, SD, SE, SF, SG, Nat.reduceLT, Nat.reduceAdd, Nat.reduceSub, Nat.reduceMul, Nat.reduceLeDiff, Nat.reduceEqDiff, Nat.reduceBEq, Int.reduceToNat, Int.reduceLE, Int.reduceLT, Int.reduceEq, Int.reduceNeg, reduceCtorEq, ↓reduceIte, hwd] | refine Cut.go ?_ | refine Both.intro ?_ ?_ | (refine Br.intro ?_ ?_ <;> intro hb <;> have hb' := hb <;> (try simp only [SH] at hb') <;> (try simp -dsimp (maxSteps := 2000000) (disch := first | omega | (simp; done) | (simp; omega)) only [SA, SB, SC, SD, SE, SF, SG, Nat.reduceLT, Nat.reduceAdd, Nat.reduceSub, Nat.reduceMul, Nat.reduceLeDiff, Nat.reduceEqDiff, Nat.reduceBEq, Int.reduceToNat, Int.reduceLE, Int.reduceLT, Int.reduceEq, Int.reduceNeg, reduceCtorEq, ↓reduceIte, hb, hwd]))))
      refine ⟨_, ow2.drops hf .., PR.err r deep ?_ (by omega)⟩
      rw [unF.eq_def]; simp only []; rw [if_neg hdeep]
      simp_all
    any_goals
      refine (hun r (by simp) hfr).call gd72 h2 fun n3 hn3 => ⟨fun x hx => ?_, fun e he l' deep' => ?_⟩
      · (repeat' (first | simp -dsimp (maxSteps := 2000000) (disch := first | omega | (simp; done) | (simp; omega)) only [SA, SB, SC, SD, SE, SF, SG, Nat.reduceLT, Nat.reduceAdd, Nat.reduceSub, Nat.reduceMul, Nat.reduceLeDiff, Nat.reduceEqDiff, Nat.reduceBEq, Int.reduceToNat, Int.reduceLE, Int.reduceLT, Int.reduceEq, Int.reduceNeg, reduceCtorEq, ↓reduceIte, hk, hc, dc_nd, ist_leave_defer, rdSt_rdSt, hwd] | refine Cut.go ?_ | refine Both.intro ?_ ?_ | refine own_end (ow2.rd _ _ _ hn3) (rdSt_at ..) ?_ | (refine Br.intro ?_ ?_ <;> intro hb <;> have hb' := hb <;> (try simp only [SH] at hb') <;> (try simp -dsimp (maxSteps := 2000000) (disch := first | omega | (simp; done) | (simp; omega)) only [SA, SB, SC, SD, SE, SF, SG, Nat.reduceLT, Nat.reduceAdd, Nat.reduceSub, Nat.reduceMul, Nat.reduceLeDiff, Nat.reduceEqDiff, Nat.reduceBEq, Int.reduceToNat, Int.reduceLE, Int.reduceLT, Int.reduceEq, Int.reduceNeg, reduceCtorEq, ↓reduceIte, hb, hk, hc, dc_nd, ist_leave_defer, rdSt_rdSt, hwd]))))
        refine ⟨_, ow2.drops hf .., PR.ok' (.one a x.nd) rfl ?_ (by rw [rdSt_next]; omega)⟩
        rw [unF.eq_def]; simp only []; rw [if_neg hdeep, if_neg (by rw [hb']; decide), if_pos (by rw [hb']; rfl), hx]
      · (repeat' (first | simp -dsimp (maxSteps := 2000000) (disch := first | omega | (simp; done) | (simp; omega)) only [SA, SB, SC, SD, SE, SF, SG, Nat.reduceLT, Nat.reduceAdd, Nat.reduceSub, Nat.reduceMul, Nat.reduceLeDiff, Nat.reduceEqDiff, Nat.reduceBEq, Int.reduceToNat, Int.reduceLE, Int.reduceLT, Int.reduceEq, Int.reduceNeg, reduceCtorEq, ↓reduceIte, hk, hc, ist_leave_defer, rdSt_rdSt] | refine Cut.go ?_ | refine Both.intro ?_ ?_ | refine own_end (ow2.rd _ _ _ hn3) (rdSt_at ..) ?_ | (refine Br.intro ?_ ?_ <;> intro hb <;> have hb' := hb <;> (try simp only [SH] at hb') <;> (try simp -dsimp (maxSteps := 2000000) (disch := first | omega | (simp; done) | (simp; omega)) only [SA, SB, SC, SD, SE, SF, SG, Nat.reduceLT, Nat.reduceAdd, Nat.reduceSub, Nat.reduceMul, Nat.reduceLeDiff, Nat.reduceEqDiff, Nat.reduceBEq, Int.reduceToNat, Int.reduceLE, Int.reduceLT, Int.reduceEq, Int.reduceNeg, reduceCtorEq, ↓reduceIte, hb, hk, hc, ist_leave_defer, rdSt_rdSt]))))
        refine ⟨_, ow2.drops hf .., PR.err l' _ ?_ (by rw [rdSt_next]; omega)⟩
        rw [unF.eq_def]; simp only []; rw [if_neg hdeep, if_neg (by rw [hb']; decide), if_pos (by rw [hb']; rfl), he]
    have hun1 : ∀ R : Except Int Rd, (match exprF f r (deep + 1) with
        | .error e => .error e
        | .ok x => match x.rest with
          | c :: r' => if c.sign == [41] then .ok ⟨x.nd, r'⟩ else .error 61
          | [] => .error 61) = R → unF (f + 1) (a :: r) deep = R := fun R hR => by
      rw [unF.eq_def]; simp only []; rw [if_neg hdeep, if_neg (by rw [hb']; decide), if_neg (by rw [hb']; decide), if_pos (by rw [hb']; rfl)]; exact hR
    refine (hexpr r (by simp) hfr).call gd20 h2 fun n3 hn3 => ⟨fun x hx => ?_, fun e he l' deep' => ?_⟩
    rotate_left
    · (repeat' (first | simp -dsimp (maxSteps := 2000000) (disch := first | omega | (simp; done) | (simp; omega)) only [SA, SB, SC, SD, SE, SF, SG, Nat.reduceLT, Nat.reduceAdd, Nat.reduceSub, Nat.reduceMul, Nat.reduceLeDiff, Nat.reduceEqDiff, Nat.reduceBEq, Int.reduceToNat, Int.reduceLE, Int.reduceLT, Int.reduceEq, Int.reduceNeg, reduceCtorEq, ↓reduceIte, ist_leave_defer, rdSt_rdSt] | refine Cut.go ?_ | refine Both.intro ?_ ?_ | refine own_end (ow2.rd _ _ _ hn3) (rdSt_at ..) ?_ | (refine Br.intro ?_ ?_ <;> intro hb <;> have hb' := hb <;> (try simp only [SH] at hb') <;> (try simp -dsimp (maxSteps := 2000000) (disch := first | omega | (simp; done) | (simp; omega)) only [SA, SB, SC, SD, SE, SF, SG, Nat.reduceLT, Nat.reduceAdd, Nat.reduceSub, Nat.reduceMul, Nat.reduceLeDiff, Nat.reduceEqDiff, Nat.reduceBEq, Int.reduceToNat, Int.reduceLE, Int.reduceLT, Int.reduceEq, Int.reduceNeg, reduceCtorEq, ↓reduceIte, hb, ist_leave_defer, rdSt_rdSt]))))
      exact ⟨_, ow2.drops hf .., PR.err l' _ (hun1 _ (by rw [he])) (by rw [rdSt_next]; omega)⟩
    obtain ⟨nd, rest⟩ := x
    (repeat' (first | simp -dsimp (maxSteps := 2000000) (disch := first | omega | (simp; done) | (simp; omega)) only [SA, SB, SC, SD, SE, SF, SG, Nat.reduceLT, Nat.reduceAdd, Nat.reduceSub, Nat.reduceMul, Nat.reduceLeDiff, Nat.reduceEqDiff, Nat.reduceBEq, Int.reduceToNat, Int.reduceLE, Int.reduceLT, Int.reduceEq, Int.reduceNeg, reduceCtorEq, ↓reduceIte, hc] | refine Cut.go ?_ | refine Both.intro ?_ ?_ | refine next_call (rdSt_at ..) ?_ | (refine Br.intro ?_ ?_ <;> intro hb <;> have hb' := hb <;> (try simp only [SH] at hb') <;> (try simp -dsimp (maxSteps := 2000000) (disch := first | omega | (simp; done) | (simp; omega)) only [SA, SB, SC, SD, SE, SF, SG, Nat.reduceLT, Nat.reduceAdd, Nat.reduceSub, Nat.reduceMul, Nat.reduceLeDiff, Nat.reduceEqDiff, Nat.reduceBEq, Int.reduceToNat, Int.reduceLE, Int.reduceLT, Int.reduceEq, Int.reduceNeg, reduceCtorEq, ↓reduceIte, hb, hc]))))
    rotate_left
    · simp -dsimp (maxSteps := 2000000) (disch := first | omega | (simp; done) | (simp; omega)) only [SA, SB, SC, SD, SE, SF, SG, Nat.reduceLT, Nat.reduceAdd, Nat.reduceSub, Nat.reduceMul, Nat.reduceLeDiff, Nat.reduceEqDiff, Nat.reduceBEq, Int.reduceToNat, Int.reduceLE, Int.reduceLT, Int.reduceEq, Int.reduceNeg, reduceCtorEq, ↓reduceIte, ist_leave_defer]
      refine own_end (ow2.rd _ _ _ hn3) (rdSt_at ..) ?_
      (repeat' (first | simp -dsimp (maxSteps := 2000000) (disch := first | omega | (simp; done) | (simp; omega)) only [SA, SB, SC, SD, SE, SF, SG, Nat.reduceLT, Nat.reduceAdd, Nat.reduceSub, Nat.reduceMul, Nat.reduceLeDiff, Nat.reduceEqDiff, Nat.reduceBEq, Int.reduceToNat, Int.reduceLE, Int.reduceLT, Int.reduceEq, Int.reduceNeg, reduceCtorEq, ↓reduceIte, rdSt_rdSt] | refine Cut.go ?_ | refine Both.intro ?_ ?_ | (refine Br.intro ?_ ?_ <;> intro hb <;> have hb' := hb <;> (try simp only [SH] at hb') <;> (try simp -dsimp (maxSteps := 2000000) (disch := first | omega | (simp; done) | (simp; omega)) only [SA, SB, SC, SD, SE, SF, SG, Nat.reduceLT, Nat.reduceAdd, Nat.reduceSub, Nat.reduceMul, Nat.reduceLeDiff, Nat.reduceEqDiff, Nat.reduceBEq, Int.reduceToNat, Int.reduceLE, Int.reduceLT, Int.reduceEq, Int.reduceNeg, reduceCtorEq, ↓reduceIte, hb, rdSt_rdSt]))))
      refine ⟨_, ow2.drops hf .., PR.err rest _ (hun1 _ ?_) (by rw [rdSt_next]; omega)⟩
      rw [hx]
      cases rest with
      | nil => rfl
      | cons c r' => simp only [nextOf] at hb; simp only [hb]; rfl
    cases rest with
    | nil => simp [nextOf] at hb'
    | cons c r' =>
      simp only [nextOf] at hb hb'
      refine take_call (rdSt_at ..) fun n4 hn4 => ?_
      rw [rdSt_rdSt]
      simp only [rdSt_next] at hn4
      (repeat' (first | simp -dsimp (maxSteps := 2000000) (disch := first | omega | (simp; done) | (simp; omega)) only [SA, SB, SC, SD, SE, SF, SG, Nat.reduceLT, Nat.reduceAdd, Nat.reduceSub, Nat.reduceMul, Nat.reduceLeDiff, Nat.reduceEqDiff, Nat.reduceBEq, Int.reduceToNat, Int.reduceLE, Int.reduceLT, Int.reduceEq, Int.reduceNeg, reduceCtorEq, ↓reduceIte, Tok.d, ist_leave_defer, rdSt_rdSt, hwd] | refine Cut.go ?_ | refine Both.intro ?_ ?_ | refine own_end (ow2.rd _ _ _ (show σ2.next ≤ n4 by omega)) (rdSt_at ..) ?_ | (refine Br.intro ?_ ?_ <;> intro hb <;> have hb' := hb <;> (try simp only [SH] at hb') <;> (try simp -dsimp (maxSteps := 2000000) (disch := first | omega | (simp; done) | (simp; omega)) only [SA, SB, SC, SD, SE, SF, SG, Nat.reduceLT, Nat.reduceAdd, Nat.reduceSub, Nat.reduceMul, Nat.reduceLeDiff, Nat.reduceEqDiff, Nat.reduceBEq, Int.reduceToNat, Int.reduceLE, Int.reduceLT, Int.reduceEq, Int.reduceNeg, reduceCtorEq, ↓reduceIte, hb, Tok.d, ist_leave_defer, rdSt_rdSt, hwd]))))
      exact ⟨_, ow2.drops hf .., PR.ok (x := ⟨nd, r'⟩) (hun1 _ (by rw [hx]; simp only [hb]; rfl)) (by rw [rdSt_next]; omega)⟩

/-- The parser, as a whole. -/
theorem parse_all : ∀ f : Nat, (∀ l deep, 4 * l.length + 4 ≤ f → Fit l deep → Parses 20 [] (exprF f l deep) l deep) ∧ (∀ l deep, 4 * l.length + 3 ≤ f → Fit l deep → Parses 36 [] (condF f l deep) l deep) ∧
    (∀ least l deep, 4 * l.length + 2 ≤ f → Fit l deep → Parses 56 [.int .i64 least] (binF f least l deep) l deep) ∧ (∀ l deep, 4 * l.length + 1 ≤ f → Fit l deep → Parses 72 [] (unF f l deep) l deep) := by
  intro f
  induction f using Nat.strongRecOn with
  | _ f ih =>
    cases f with
    | zero => exact ⟨fun _ _ h => by omega, fun _ _ h => by omega, fun _ _ _ h => by omega, fun _ _ h => by omega⟩
    | succ f =>
      obtain ⟨he, hc, hb, hu⟩ := ih f (Nat.lt_succ_self f)
      refine ⟨fun l deep hm hf => ?_, fun l deep hm hf => ?_, fun least l deep hm hf => ?_, fun l deep hm hf => ?_⟩
      · exact expr_walk f l deep hf (fun r hr hfr => he r deep (by omega) hfr) (hc l deep (by omega) hf)
      · exact cond_walk f l deep hf (hb 1 l deep (by omega) hf) (fun r hr hfr => he r deep (by omega) hfr) (fun r hr hfr => hc r deep (by omega) hfr)
      · exact bin_walk f least l deep hf hm (hu l deep (by omega) hf) fun f' least' r h1 h2 h3 => (ih f' (by omega)).2.2.1 least' r deep h2 h3
      · exact un_walk f l deep hf (fun r hr hfr => hu r (deep + 1) (by omega) hfr) (fun r hr hfr => he r (deep + 1) (by omega) hfr)
end Go.Proofs.Ytkjgadanaknleaa
