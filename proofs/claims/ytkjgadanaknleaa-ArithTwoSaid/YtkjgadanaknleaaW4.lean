/-
  THE WALKS, PART 4: the parser.
-/
import Derived.Test.YtkjgadanaknleaaW3
namespace Go.Proofs.Ytkjgadanaknleaa
open Go Go.Id
set_option linter.unusedSimpArgs false
set_option linter.unusedVariables false
set_option maxRecDepth 100000
set_option maxHeartbeats 4000000

/-- A reader of tokens. -/
def rdr (l : List Tok) (t : Nat) (deep : Int) : Ob := .cells [.slc 3 (l.map Tok.d) (.opened t), .int .i64 deep]
def nextOf : List Tok → List UInt8
  | [] => []
  | t :: _ => t.sign
theorem next_ok {l : List Tok} {t : Nat} {deep : Int} {j : Nat} {σ : St} (h : σ.obj j = some (rdr l t deep)) : Ok Try.prog 57 [.ref j 0] σ (fun o s' => s' = σ ∧ o = .ret (.str (nextOf l))) := by
  apply en57
  unfold rdr at h
  cases l with
  | nil =>
    simp -dsimp (maxSteps := 2000000) (disch := first | omega | (simp; done) | (simp; omega)) only [SA, SB, SC, SD, SE, SF, SG, Nat.reduceLT, Nat.reduceAdd, Nat.reduceSub, Nat.reduceMul, Nat.reduceLeDiff, Nat.reduceEqDiff, Nat.reduceBEq, Int.reduceToNat, Int.reduceLE, Int.reduceLT, Int.reduceEq, Int.reduceNeg, reduceCtorEq, ↓reduceIte, ic57, List.replicate_succ, List.replicate_zero]
    have e0 : (((0 : Nat) : Int) == 0) = true := rfl
    (repeat' (first | simp -dsimp (maxSteps := 2000000) (disch := first | omega | (simp; done) | (simp; omega)) only [SA, SB, SC, SD, SE, SF, SG, Nat.reduceLT, Nat.reduceAdd, Nat.reduceSub, Nat.reduceMul, Nat.reduceLeDiff, Nat.reduceEqDiff, Nat.reduceBEq, Int.reduceToNat, Int.reduceLE, Int.reduceLT, Int.reduceEq, Int.reduceNeg, reduceCtorEq, ↓reduceIte, h, e0] | refine Cut.go ?_ | refine Both.intro ?_ ?_ | (refine Br.intro ?_ ?_ <;> intro hb <;> have hb' := hb <;> (try simp only [SH] at hb') <;> (try simp -dsimp (maxSteps := 2000000) (disch := first | omega | (simp; done) | (simp; omega)) only [SA, SB, SC, SD, SE, SF, SG, Nat.reduceLT, Nat.reduceAdd, Nat.reduceSub, Nat.reduceMul, Nat.reduceLeDiff, Nat.reduceEqDiff, Nat.reduceBEq, Int.reduceToNat, Int.reduceLE, Int.reduceLT, Int.reduceEq, Int.reduceNeg, reduceCtorEq, ↓reduceIte, hb, h, e0]))))
    all_goals rfl
  | cons a r =>
    have e1 : (((r.length + 1 : Nat) : Int) == 0) = false := by simp; omega
    simp -dsimp (maxSteps := 2000000) (disch := first | omega | (simp; done) | (simp; omega)) only [SA, SB, SC, SD, SE, SF, SG, Nat.reduceLT, Nat.reduceAdd, Nat.reduceSub, Nat.reduceMul, Nat.reduceLeDiff, Nat.reduceEqDiff, Nat.reduceBEq, Int.reduceToNat, Int.reduceLE, Int.reduceLT, Int.reduceEq, Int.reduceNeg, reduceCtorEq, ↓reduceIte, ic57, List.replicate_succ, List.replicate_zero]
    (repeat' (first | simp -dsimp (maxSteps := 2000000) (disch := first | omega | (simp; done) | (simp; omega)) only [SA, SB, SC, SD, SE, SF, SG, Nat.reduceLT, Nat.reduceAdd, Nat.reduceSub, Nat.reduceMul, Nat.reduceLeDiff, Nat.reduceEqDiff, Nat.reduceBEq, Int.reduceToNat, Int.reduceLE, Int.reduceLT, Int.reduceEq, Int.reduceNeg, reduceCtorEq, ↓reduceIte, h, e1, Tok.d] | refine Cut.go ?_ | refine Both.intro ?_ ?_ | (refine Br.intro ?_ ?_ <;> intro hb <;> have hb' := hb <;> (try simp only [SH] at hb') <;> (try simp -dsimp (maxSteps := 2000000) (disch := first | omega | (simp; done) | (simp; omega)) only [SA, SB, SC, SD, SE, SF, SG, Nat.reduceLT, Nat.reduceAdd, Nat.reduceSub, Nat.reduceMul, Nat.reduceLeDiff, Nat.reduceEqDiff, Nat.reduceBEq, Int.reduceToNat, Int.reduceLE, Int.reduceLT, Int.reduceEq, Int.reduceNeg, reduceCtorEq, ↓reduceIte, hb, h, e1, Tok.d]))))
    all_goals rfl
theorem next_call {l : List Tok} {t : Nat} {deep : Int} {j : Nat} {σ : St} {K : Out → St → Prop} (h : σ.obj j = some (rdr l t deep)) (hk : K (.ret (.str (nextOf l))) σ) : goodFn Try.prog 57 = true ∧ Ok Try.prog 57 [.ref j 0] σ K := pass gd57 (next_ok h) hk

theorem ss_one (sz : Nat) (x : D) (xs : List D) (r : Room) (k : IntKind) : isliceSlc sz (.slc sz (x :: xs) r) (some (.int k 1)) none none = some (.slc sz xs r) := by
  have h1 : (1 : Int) ≤ (xs.length : Int) + 1 := by omega
  simp [isliceSlc, ibound, cutRoom, h1]
/-- The store with a reader in it. -/
def rdSt (σ : St) (j : Nat) (l : List Tok) (t : Nat) (deep : Int) (n : Nat) : St := ⟨(σ.put j (some (rdr l t deep))).obj, n⟩
theorem rdSt_obj (σ : St) (j : Nat) (l : List Tok) (t : Nat) (deep : Int) (n i : Nat) : (rdSt σ j l t deep n).obj i = if i = j then some (rdr l t deep) else σ.obj i := rfl
theorem rdSt_next (σ : St) (j : Nat) (l : List Tok) (t : Nat) (deep : Int) (n : Nat) : (rdSt σ j l t deep n).next = n := rfl
theorem rdSt_rdSt (σ : St) (j : Nat) (l l' : List Tok) (t t' : Nat) (deep deep' : Int) (n n' : Nat) : rdSt (rdSt σ j l t deep n) j l' t' deep' n' = rdSt σ j l' t' deep' n' := by
  simp only [rdSt, St.put, St.mk.injEq, and_true]
  funext i
  by_cases h : i = j <;> simp [h]
theorem take_ok {l : List Tok} {t : Nat} {deep : Int} {j : Nat} {σ : St} (h : σ.obj j = some (rdr l t deep)) : Ok Try.prog 35 [.ref j 0] σ (fun o s' => ∃ n, σ.next ≤ n ∧ match l with
    | [] => o = .panic (faultD 61) ∧ s' = rdSt σ j [] t deep n
    | a :: r => o = .ret a.d ∧ s' = rdSt σ j r t deep n) := by
  refine Ok.fresh fun hf => Ok.drop ?_
  have hlt : j < σ.next := Nat.lt_of_not_le fun hle => by rw [hf _ hle] at h; cases h
  have hj : (j = σ.next) = False := eq_false (by omega)
  have hj1 : (j = σ.next + 1) = False := eq_false (by omega)
  have hj2 : (σ.next + 1 = j) = False := eq_false (by omega)
  have hj3 : (σ.next = j) = False := eq_false (by omega)
  have hj4 : (σ.next = σ.next + 1) = False := eq_false (by omega)
  have hj5 : (σ.next + 1 = σ.next) = False := eq_false (by omega)
  apply en35
  unfold rdr at h
  cases l with
  | nil =>
    have e0 : (((0 : Nat) : Int) == 0) = true := rfl
    simp -dsimp (maxSteps := 2000000) (disch := first | omega | (simp; done) | (simp; omega)) only [SA, SB, SC, SD, SE, SF, SG, Nat.reduceLT, Nat.reduceAdd, Nat.reduceSub, Nat.reduceMul, Nat.reduceLeDiff, Nat.reduceEqDiff, Nat.reduceBEq, Int.reduceToNat, Int.reduceLE, Int.reduceLT, Int.reduceEq, Int.reduceNeg, reduceCtorEq, ↓reduceIte, ic35, List.replicate_succ, List.replicate_zero]
    (repeat' (first | simp -dsimp (maxSteps := 2000000) (disch := first | omega | (simp; done) | (simp; omega)) only [SA, SB, SC, SD, SE, SF, SG, Nat.reduceLT, Nat.reduceAdd, Nat.reduceSub, Nat.reduceMul, Nat.reduceLeDiff, Nat.reduceEqDiff, Nat.reduceBEq, Int.reduceToNat, Int.reduceLE, Int.reduceLT, Int.reduceEq, Int.reduceNeg, reduceCtorEq, ↓reduceIte, h, e0, hj, hj1] | refine Cut.go ?_ | refine Both.intro ?_ ?_ | (refine Br.intro ?_ ?_ <;> intro hb <;> have hb' := hb <;> (try simp only [SH] at hb') <;> (try simp -dsimp (maxSteps := 2000000) (disch := first | omega | (simp; done) | (simp; omega)) only [SA, SB, SC, SD, SE, SF, SG, Nat.reduceLT, Nat.reduceAdd, Nat.reduceSub, Nat.reduceMul, Nat.reduceLeDiff, Nat.reduceEqDiff, Nat.reduceBEq, Int.reduceToNat, Int.reduceLE, Int.reduceLT, Int.reduceEq, Int.reduceNeg, reduceCtorEq, ↓reduceIte, hb, h, e0, hj, hj1]))))
    refine ⟨_, ⟨?_, fun i => ?_⟩, σ.next + 1, by omega, rfl, rfl⟩
    · simp [St.alloc, rdSt]
    · by_cases h1 : i = σ.next
      · left; subst h1; simp only [rdSt, St.put, hj3, if_false]; exact hf _ (Nat.le_refl _)
      · right
        by_cases h2 : i = j
        · subst h2; simp only [rdSt, St.put, St.alloc, h1, if_false, if_true, rdr, h]
        · simp only [rdSt, St.put, St.alloc, h1, h2, if_false]
  | cons a r =>
    have e1 : (((r.length + 1 : Nat) : Int) == 0) = false := by simp; omega
    simp -dsimp (maxSteps := 2000000) (disch := first | omega | (simp; done) | (simp; omega)) only [SA, SB, SC, SD, SE, SF, SG, Nat.reduceLT, Nat.reduceAdd, Nat.reduceSub, Nat.reduceMul, Nat.reduceLeDiff, Nat.reduceEqDiff, Nat.reduceBEq, Int.reduceToNat, Int.reduceLE, Int.reduceLT, Int.reduceEq, Int.reduceNeg, reduceCtorEq, ↓reduceIte, ic35, List.replicate_succ, List.replicate_zero]
    (repeat' (first | simp -dsimp (maxSteps := 2000000) (disch := first | omega | (simp; done) | (simp; omega)) only [SA, SB, SC, SD, SE, SF, SG, Nat.reduceLT, Nat.reduceAdd, Nat.reduceSub, Nat.reduceMul, Nat.reduceLeDiff, Nat.reduceEqDiff, Nat.reduceBEq, Int.reduceToNat, Int.reduceLE, Int.reduceLT, Int.reduceEq, Int.reduceNeg, reduceCtorEq, ↓reduceIte, h, e1, hj, hj1, hj2, hj3, hj4, hj5, Tok.d, ss_one] | refine Cut.go ?_ | refine Both.intro ?_ ?_ | (refine Br.intro ?_ ?_ <;> intro hb <;> have hb' := hb <;> (try simp only [SH] at hb') <;> (try simp -dsimp (maxSteps := 2000000) (disch := first | omega | (simp; done) | (simp; omega)) only [SA, SB, SC, SD, SE, SF, SG, Nat.reduceLT, Nat.reduceAdd, Nat.reduceSub, Nat.reduceMul, Nat.reduceLeDiff, Nat.reduceEqDiff, Nat.reduceBEq, Int.reduceToNat, Int.reduceLE, Int.reduceLT, Int.reduceEq, Int.reduceNeg, reduceCtorEq, ↓reduceIte, hb, h, e1, hj, hj1, hj2, hj3, hj4, hj5, Tok.d, ss_one]))))
    refine ⟨_, ?_, σ.next + 2, by omega, rfl⟩
    refine ⟨?_, fun i => ?_⟩
    · simp [St.alloc, St.put, rdSt]
    · by_cases h1 : i = σ.next
      · left; subst h1; simp only [rdSt, St.put, hj3, if_false]; exact hf _ (Nat.le_refl _)
      · by_cases h2 : i = σ.next + 1
        · left; subst h2; simp only [rdSt, St.put, hj2, if_false]; exact hf _ (by omega)
        · right; simp only [rdSt, St.put, St.alloc, h1, h2, if_false, rdr]
end Go.Proofs.Ytkjgadanaknleaa
