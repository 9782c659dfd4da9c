/-
  THE WALKS, PART 43: the document cuts a text.
-/
import Derived.Test.YtkjgadanaknleaaY2
namespace Go.Proofs.Ytkjgadanaknleaa
open Go Go.Id
set_option linter.unusedSimpArgs false
set_option linter.unusedVariables false
set_option maxRecDepth 100000
set_option maxHeartbeats 4000000

theorem rtokens_ok (s : List UInt8) (hs : s.length ≤ 9000) (σ : St) : Ok Try.prog 22 [.str s] σ (fun o s' => ∃ n, σ.next ≤ n ∧ s' = ⟨σ.obj, n⟩ ∧ match tokensF s.length s [] with
    | .ok l => ∃ t, o = .ret (.tuple [toksD l t, .int .i64 0])
    | .error e => o = .ret (.tuple [.nils, .int .i64 e])) := by
  refine Ok.fresh fun hf => Ok.drop ?_
  apply en22
  simp -dsimp (maxSteps := 2000000) (disch := first | omega | (simp; done) | (simp; omega)) only [SA, SB, SC, SD, SE, SF, SG, Nat.reduceLT, Nat.reduceAdd, Nat.reduceSub, Nat.reduceMul, Nat.reduceLeDiff, Nat.reduceEqDiff, Nat.reduceBEq, Int.reduceToNat, Int.reduceLE, Int.reduceLT, Int.reduceEq, Int.reduceNeg, reduceCtorEq, ↓reduceIte, ic22, List.replicate_succ, List.replicate_zero]
  (repeat' (first | simp -dsimp (maxSteps := 2000000) (disch := first | omega | (simp; done) | (simp; omega)) only [SA, SB, SC, SD, SE, SF, SG, Nat.reduceLT, Nat.reduceAdd, Nat.reduceSub, Nat.reduceMul, Nat.reduceLeDiff, Nat.reduceEqDiff, Nat.reduceBEq, Int.reduceToNat, Int.reduceLE, Int.reduceLT, Int.reduceEq, Int.reduceNeg, reduceCtorEq, ↓reduceIte] | refine Cut.go ?_ | refine Both.intro ?_ ?_ | (refine Br.intro ?_ ?_ <;> intro hb <;> have hb' := hb <;> (try simp only [SH] at hb') <;> (try simp -dsimp (maxSteps := 2000000) (disch := first | omega | (simp; done) | (simp; omega)) only [SA, SB, SC, SD, SE, SF, SG, Nat.reduceLT, Nat.reduceAdd, Nat.reduceSub, Nat.reduceMul, Nat.reduceLeDiff, Nat.reduceEqDiff, Nat.reduceBEq, Int.reduceToNat, Int.reduceLE, Int.reduceLT, Int.reduceEq, Int.reduceNeg, reduceCtorEq, ↓reduceIte, hb]))))
  refine loop_go (α := Nat × Nat × List Tok × Nat × Nat) (fun a => [.str s, .junk, .junk, .junk, toksD a.2.2.1 a.2.2.2.1, .int .i64 a.2.1] ++ List.replicate 112 .junk) (fun a => tokSt σ a.2.2.1 a.2.2.2.1 a.2.2.2.2) (fun a => a.1)
    (fun a => s.length ≤ a.1 + a.2.1 ∧ a.2.1 ≤ s.length ∧ tokensF s.length s [] = tokensF a.1 (s.drop a.2.1) a.2.2.1 ∧ s.length + a.2.2.1.length ≤ 9000 + a.2.1 ∧ σ.next ≤ a.2.2.2.2 ∧ (a.2.2.1 ≠ [] → σ.next ≤ a.2.2.2.1 ∧ a.2.2.2.1 < a.2.2.2.2))
    (s.length, 0, [], 0, σ.next) ⟨by simp, by simp, rfl, by simpa using hs, by simp, by simp⟩ (by ((try simp only [List.replicate_succ, List.replicate_zero, List.cons_append, List.nil_append]); repeat' (first | exact trivial | refine ⟨.inl rfl, ?_⟩ | refine ⟨.inr rfl, ?_⟩ | refine ⟨.inr (by simp), ?_⟩))) ⟨by simp [tokSt], fun j => .inr (by simp [tokSt])⟩ ?_
  rintro ⟨f, i, l, t, n⟩ ⟨h1, h6, h2, h3, h4, h5⟩
  simp only at h1 h2 h3 h4 h5 h6
  simp -dsimp (maxSteps := 2000000) (disch := first | omega | (simp; done) | (simp; omega)) only [SA, SB, SC, SD, SE, SF, SG, Nat.reduceLT, Nat.reduceAdd, Nat.reduceSub, Nat.reduceMul, Nat.reduceLeDiff, Nat.reduceEqDiff, Nat.reduceBEq, Int.reduceToNat, Int.reduceLE, Int.reduceLT, Int.reduceEq, Int.reduceNeg, reduceCtorEq, ↓reduceIte, List.replicate_succ, List.replicate_zero]
  (repeat' (first | simp -dsimp (maxSteps := 2000000) (disch := first | omega | (simp; done) | (simp; omega)) only [SA, SB, SC, SD, SE, SF, SG, Nat.reduceLT, Nat.reduceAdd, Nat.reduceSub, Nat.reduceMul, Nat.reduceLeDiff, Nat.reduceEqDiff, Nat.reduceBEq, Int.reduceToNat, Int.reduceLE, Int.reduceLT, Int.reduceEq, Int.reduceNeg, reduceCtorEq, ↓reduceIte] | refine Cut.go ?_))
  refine Br.intro ?_ ?_
  rotate_left
  · intro hb
    have : i = s.length := by simp at hb; omega
    subst this
    (repeat' (first | simp -dsimp (maxSteps := 2000000) (disch := first | omega | (simp; done) | (simp; omega)) only [SA, SB, SC, SD, SE, SF, SG, Nat.reduceLT, Nat.reduceAdd, Nat.reduceSub, Nat.reduceMul, Nat.reduceLeDiff, Nat.reduceEqDiff, Nat.reduceBEq, Int.reduceToNat, Int.reduceLE, Int.reduceLT, Int.reduceEq, Int.reduceNeg, reduceCtorEq, ↓reduceIte] | refine Cut.go ?_ | refine Both.intro ?_ ?_ | (refine Br.intro ?_ ?_ <;> intro hb <;> have hb' := hb <;> (try simp only [SH] at hb') <;> (try simp -dsimp (maxSteps := 2000000) (disch := first | omega | (simp; done) | (simp; omega)) only [SA, SB, SC, SD, SE, SF, SG, Nat.reduceLT, Nat.reduceAdd, Nat.reduceSub, Nat.reduceMul, Nat.reduceLeDiff, Nat.reduceEqDiff, Nat.reduceBEq, Int.reduceToNat, Int.reduceLE, Int.reduceLT, Int.reduceEq, Int.reduceNeg, reduceCtorEq, ↓reduceIte, hb]))))
    refine ⟨⟨σ.obj, n⟩, drops_fin hf h5, n, h4, rfl, ?_⟩
    rw [h2, List.drop_length]
    cases f <;> exact ⟨t, rfl⟩
  intro hb
  have hi : i < s.length := by simp at hb; omega
  obtain ⟨f, rfl⟩ : ∃ g, f = g + 1 := ⟨f - 1, by omega⟩
  rw [drop_at hi, tokensF] at h2
  (repeat' (first | simp -dsimp (maxSteps := 2000000) (disch := first | omega | (simp; done) | (simp; omega)) only [SA, SB, SC, SD, SE, SF, SG, Nat.reduceLT, Nat.reduceAdd, Nat.reduceSub, Nat.reduceMul, Nat.reduceLeDiff, Nat.reduceEqDiff, Nat.reduceBEq, Int.reduceToNat, Int.reduceLE, Int.reduceLT, Int.reduceEq, Int.reduceNeg, reduceCtorEq, ↓reduceIte] | refine Cut.go ?_))
  refine has_call (by decide) ?_
  rw [blank_has]
  (repeat' (first | simp -dsimp (maxSteps := 2000000) (disch := first | omega | (simp; done) | (simp; omega)) only [SA, SB, SC, SD, SE, SF, SG, Nat.reduceLT, Nat.reduceAdd, Nat.reduceSub, Nat.reduceMul, Nat.reduceLeDiff, Nat.reduceEqDiff, Nat.reduceBEq, Int.reduceToNat, Int.reduceLE, Int.reduceLT, Int.reduceEq, Int.reduceNeg, reduceCtorEq, ↓reduceIte] | refine Cut.go ?_))
  refine Br.intro ?_ ?_
  · intro hb
    rw [if_pos hb] at h2
    (repeat' (first | simp -dsimp (maxSteps := 2000000) (disch := first | omega | (simp; done) | (simp; omega)) only [SA, SB, SC, SD, SE, SF, SG, Nat.reduceLT, Nat.reduceAdd, Nat.reduceSub, Nat.reduceMul, Nat.reduceLeDiff, Nat.reduceEqDiff, Nat.reduceBEq, Int.reduceToNat, Int.reduceLE, Int.reduceLT, Int.reduceEq, Int.reduceNeg, reduceCtorEq, ↓reduceIte] | refine Cut.go ?_ | refine Both.intro ?_ ?_ | (refine Br.intro ?_ ?_ <;> intro hb <;> have hb' := hb <;> (try simp only [SH] at hb') <;> (try simp -dsimp (maxSteps := 2000000) (disch := first | omega | (simp; done) | (simp; omega)) only [SA, SB, SC, SD, SE, SF, SG, Nat.reduceLT, Nat.reduceAdd, Nat.reduceSub, Nat.reduceMul, Nat.reduceLeDiff, Nat.reduceEqDiff, Nat.reduceBEq, Int.reduceToNat, Int.reduceLE, Int.reduceLT, Int.reduceEq, Int.reduceNeg, reduceCtorEq, ↓reduceIte, hb]))))
    exact Round.go (f, i + 1, l, t, n) (by simp only; omega) ⟨by simp only; omega, by simp only; omega, h2, by simp only; omega, h4, h5⟩ (by ((try simp only [List.replicate_succ, List.replicate_zero, List.cons_append, List.nil_append]); repeat' (first | exact trivial | refine ⟨.inl rfl, ?_⟩ | refine ⟨.inr rfl, ?_⟩ | refine ⟨.inr (by simp), ?_⟩))) (Drops.refl _)
  intro hb
  rw [if_neg (by simp only [hb, Bool.false_eq_true, not_false_eq_true])] at h2
  rw [← drop_at hi] at h2
  have hmid : ∃ i', i ≤ i' ∧ i' < s.length ∧ undollar (s.drop i) = s.drop i' ∧ i' = (if ((s.getD i 0).toNat : Int) == 36 && decide ((i : Int) + 1 < s.length) && letterB (s.getD (i + 1) 0).toNat then i + 1 else i) := by
    have hc : ((((s.drop i).getD 0 0).toNat : Int) == 36 && decide (((s.drop i).length : Int) > 1) && letterB ((s.drop i).getD 1 0).toNat) = (((s.getD i 0).toNat : Int) == 36 && decide ((i : Int) + 1 < s.length) && letterB (s.getD (i + 1) 0).toNat) := by
      have e1 : (s.drop i).getD 0 0 = s.getD i 0 := by simp [List.getD_eq_getElem?_getD]
      have e2 : (s.drop i).getD 1 0 = s.getD (i + 1) 0 := by simp [List.getD_eq_getElem?_getD]
      rw [e1, e2]
      congr 2
      rw [List.length_drop, decide_eq_decide]; omega
    unfold undollar
    by_cases hq : (((s.getD i 0).toNat : Int) == 36 && decide ((i : Int) + 1 < s.length) && letterB (s.getD (i + 1) 0).toNat) = true
    · refine ⟨i + 1, by omega, ?_, ?_, by rw [if_pos hq]⟩
      · simp only [Bool.and_eq_true, decide_eq_true_eq] at hq; omega
      · rw [hc, if_pos hq, List.drop_drop]
    · exact ⟨i, by omega, hi, by rw [hc, if_neg hq], by rw [if_neg hq]⟩
  obtain ⟨i', hi1, hi2, hi3, hi4⟩ := hmid
  simp -dsimp (maxSteps := 2000000) (disch := first | omega | (simp; done) | (simp; omega)) only [SA, SB, SC, SD, SE, SF, SG, Nat.reduceLT, Nat.reduceAdd, Nat.reduceSub, Nat.reduceMul, Nat.reduceLeDiff, Nat.reduceEqDiff, Nat.reduceBEq, Int.reduceToNat, Int.reduceLE, Int.reduceLT, Int.reduceEq, Int.reduceNeg, reduceCtorEq, ↓reduceIte]
  refine Cut.go (seq_mid ([.str s, .junk, .junk, .junk, toksD l t, .int .i64 i'] ++ List.replicate 112 D.junk) (tokSt σ l t n) ?_ ?_)
  · have hn1 : ((i : Int) + 1).toNat = i + 1 := by omega
    (repeat' (first | simp -dsimp (maxSteps := 2000000) (disch := first | omega | (simp; done) | (simp; omega)) only [SA, SB, SC, SD, SE, SF, SG, Nat.reduceLT, Nat.reduceAdd, Nat.reduceSub, Nat.reduceMul, Nat.reduceLeDiff, Nat.reduceEqDiff, Nat.reduceBEq, Int.reduceToNat, Int.reduceLE, Int.reduceLT, Int.reduceEq, Int.reduceNeg, reduceCtorEq, ↓reduceIte, hn1] | refine Cut.go ?_ | refine Both.intro ?_ ?_ | refine qletter_call ?_ | (refine Br.intro ?_ ?_ <;> intro hb <;> have hb' := hb <;> (try simp only [SH] at hb') <;> (try simp -dsimp (maxSteps := 2000000) (disch := first | omega | (simp; done) | (simp; omega)) only [SA, SB, SC, SD, SE, SF, SG, Nat.reduceLT, Nat.reduceAdd, Nat.reduceSub, Nat.reduceMul, Nat.reduceLeDiff, Nat.reduceEqDiff, Nat.reduceBEq, Int.reduceToNat, Int.reduceLE, Int.reduceLT, Int.reduceEq, Int.reduceNeg, reduceCtorEq, ↓reduceIte, hb, hn1]))))
    · have : i' = i + 1 := by rw [hi4, if_pos (by simp only [*, decide_true, beq_self_eq_true, Bool.and_self])]
      subst this
      exact Midway.go (by ((try simp only [List.replicate_succ, List.replicate_zero, List.cons_append, List.nil_append]); repeat' (first | exact trivial | refine ⟨.inl rfl, ?_⟩ | refine ⟨.inr rfl, ?_⟩ | refine ⟨.inr (by simp), ?_⟩))) (Drops.refl _)
    all_goals
      have : i' = i := by rw [hi4, if_neg (by simp only [*, decide_true, decide_false, beq_self_eq_true, Bool.and_self, Bool.and_false, Bool.false_and, Bool.false_eq_true, not_false_eq_true])]
      subst this
      exact Midway.go (by ((try simp only [List.replicate_succ, List.replicate_zero, List.cons_append, List.nil_append]); repeat' (first | exact trivial | refine ⟨.inl rfl, ?_⟩ | refine ⟨.inr rfl, ?_⟩ | refine ⟨.inr (by simp), ?_⟩))) (Drops.refl _)
  rw [hi3] at h2
  clear hi4 hi3 hb
  have hsg := sign_pre (s.drop i')
  have hln : (s.drop i').length = s.length - i' := by simp
  have hap : ∀ (a b : List UInt8) (c : Int), iappend 3 40 (toksD l t) (.slc 3 [.agg [.str a, .str b, .int .i64 c]] .exact) (tokSt σ l t n) = some (toksD (l ++ [⟨a, b, c⟩]) n, (killTok l t (tokSt σ l t n)).alloc .tok) :=
    fun a b c => ap_toks l t a b c (tokSt σ l t n) ⟨fun hl => by simp [tokSt, hl], by omega⟩
  have hdd : ∀ k, (s.drop i').drop k = s.drop (i' + k) := fun k => by rw [List.drop_drop]
  have hg0 : (s.drop i').getD 0 0 = s.getD i' 0 := by simp [List.getD_eq_getElem?_getD]
  have hic : ∀ k : Nat, (i' : Int) + k = ((i' + k : Nat) : Int) := fun k => by omega
  have hrl : runN (s.drop i') ≤ (s.drop i').length := tw_le _ _
  simp -dsimp (maxSteps := 2000000) (disch := first | omega | (simp; done) | (simp; omega)) only [SA, SB, SC, SD, SE, SF, SG, Nat.reduceLT, Nat.reduceAdd, Nat.reduceSub, Nat.reduceMul, Nat.reduceLeDiff, Nat.reduceEqDiff, Nat.reduceBEq, Int.reduceToNat, Int.reduceLE, Int.reduceLT, Int.reduceEq, Int.reduceNeg, reduceCtorEq, ↓reduceIte, List.replicate_succ, List.replicate_zero]
  refine signAt_call (by omega) hs ?_
  (repeat' (first | simp -dsimp (maxSteps := 2000000) (disch := first | omega | (simp; done) | (simp; omega)) only [SA, SB, SC, SD, SE, SF, SG, Nat.reduceLT, Nat.reduceAdd, Nat.reduceSub, Nat.reduceMul, Nat.reduceLeDiff, Nat.reduceEqDiff, Nat.reduceBEq, Int.reduceToNat, Int.reduceLE, Int.reduceLT, Int.reduceEq, Int.reduceNeg, reduceCtorEq, ↓reduceIte] | refine Cut.go ?_))
  refine Br.intro ?_ ?_
  rotate_left
  · intro hb
    have hb' : signOf (s.drop i') ≠ [] := by simpa using hb
    rw [if_pos (by simpa using hb')] at h2
    have hp : 0 < (signOf (s.drop i')).length := List.length_pos_iff.2 hb'
    rw [hdd] at h2
    (repeat' (first | simp -dsimp (maxSteps := 2000000) (disch := first | omega | (simp; done) | (simp; omega)) only [SA, SB, SC, SD, SE, SF, SG, Nat.reduceLT, Nat.reduceAdd, Nat.reduceSub, Nat.reduceMul, Nat.reduceLeDiff, Nat.reduceEqDiff, Nat.reduceBEq, Int.reduceToNat, Int.reduceLE, Int.reduceLT, Int.reduceEq, Int.reduceNeg, reduceCtorEq, ↓reduceIte, hap, hic] | refine Cut.go ?_ | refine Both.intro ?_ ?_ | (refine Br.intro ?_ ?_ <;> intro hb <;> have hb' := hb <;> (try simp only [SH] at hb') <;> (try simp -dsimp (maxSteps := 2000000) (disch := first | omega | (simp; done) | (simp; omega)) only [SA, SB, SC, SD, SE, SF, SG, Nat.reduceLT, Nat.reduceAdd, Nat.reduceSub, Nat.reduceMul, Nat.reduceLeDiff, Nat.reduceEqDiff, Nat.reduceBEq, Int.reduceToNat, Int.reduceLE, Int.reduceLT, Int.reduceEq, Int.reduceNeg, reduceCtorEq, ↓reduceIte, hb, hap, hic]))))
    exact Round.go (f, i' + (signOf (s.drop i')).length, l ++ [⟨signOf (s.drop i'), [], 0⟩], n, n + 1) (by simp only; omega) ⟨by simp only; omega, by simp only; omega, h2, by simp only [List.length_append, List.length_cons, List.length_nil]; omega, by simp only; omega, fun _ => ⟨h4, by simp only; omega⟩⟩ (by ((try simp only [List.replicate_succ, List.replicate_zero, List.cons_append, List.nil_append]); repeat' (first | exact trivial | refine ⟨.inl rfl, ?_⟩ | refine ⟨.inr rfl, ?_⟩ | refine ⟨.inr (by simp), ?_⟩))) (drops_tok hf h5 _)
  intro hb
  rw [if_neg (by simpa using hb)] at h2
  simp -dsimp (maxSteps := 2000000) (disch := first | omega | (simp; done) | (simp; omega)) only [SA, SB, SC, SD, SE, SF, SG, Nat.reduceLT, Nat.reduceAdd, Nat.reduceSub, Nat.reduceMul, Nat.reduceLeDiff, Nat.reduceEqDiff, Nat.reduceBEq, Int.reduceToNat, Int.reduceLE, Int.reduceLT, Int.reduceEq, Int.reduceNeg, reduceCtorEq, ↓reduceIte]
  refine Cut.go ?_
  simp -dsimp (maxSteps := 2000000) (disch := first | omega | (simp; done) | (simp; omega)) only [SA, SB, SC, SD, SE, SF, SG, Nat.reduceLT, Nat.reduceAdd, Nat.reduceSub, Nat.reduceMul, Nat.reduceLeDiff, Nat.reduceEqDiff, Nat.reduceBEq, Int.reduceToNat, Int.reduceLE, Int.reduceLT, Int.reduceEq, Int.reduceNeg, reduceCtorEq, ↓reduceIte]
  refine Cut.go (seq_mid ([.str s, .junk, .junk, .junk, toksD l t, .int .i64 i', .junk, .int .i64 (runN (s.drop i'))] ++ List.replicate 110 D.junk) (tokSt σ l t n) ?_ ?_)
  · simp -dsimp (maxSteps := 2000000) (disch := first | omega | (simp; done) | (simp; omega)) only [SA, SB, SC, SD, SE, SF, SG, Nat.reduceLT, Nat.reduceAdd, Nat.reduceSub, Nat.reduceMul, Nat.reduceLeDiff, Nat.reduceEqDiff, Nat.reduceBEq, Int.reduceToNat, Int.reduceLE, Int.reduceLT, Int.reduceEq, Int.reduceNeg, reduceCtorEq, ↓reduceIte]
    refine loop_go (α := Nat) (fun k => [.str s, .junk, .junk, .junk, toksD l t, .int .i64 i', .junk, .int .i64 k] ++ List.replicate 110 .junk) (fun _ => tokSt σ l t n) (fun k => s.length - k)
      (fun k => i' + k ≤ s.length ∧ runN (s.drop i') = k + ((s.drop (i' + k)).takeWhile wordB).length) 0 ⟨by omega, by simp [runN]⟩ (by ((try simp only [List.replicate_succ, List.replicate_zero, List.cons_append, List.nil_append]); repeat' (first | exact trivial | refine ⟨.inl rfl, ?_⟩ | refine ⟨.inr rfl, ?_⟩ | refine ⟨.inr (by simp), ?_⟩))) (Drops.refl _) ?_
    rintro k ⟨k1, k2⟩
    have hkn : ((i' : Int) + k).toNat = i' + k := by omega
    simp -dsimp (maxSteps := 2000000) (disch := first | omega | (simp; done) | (simp; omega)) only [SA, SB, SC, SD, SE, SF, SG, Nat.reduceLT, Nat.reduceAdd, Nat.reduceSub, Nat.reduceMul, Nat.reduceLeDiff, Nat.reduceEqDiff, Nat.reduceBEq, Int.reduceToNat, Int.reduceLE, Int.reduceLT, Int.reduceEq, Int.reduceNeg, reduceCtorEq, ↓reduceIte, List.replicate_succ, List.replicate_zero]
    (repeat' (first | simp -dsimp (maxSteps := 2000000) (disch := first | omega | (simp; done) | (simp; omega)) only [SA, SB, SC, SD, SE, SF, SG, Nat.reduceLT, Nat.reduceAdd, Nat.reduceSub, Nat.reduceMul, Nat.reduceLeDiff, Nat.reduceEqDiff, Nat.reduceBEq, Int.reduceToNat, Int.reduceLE, Int.reduceLT, Int.reduceEq, Int.reduceNeg, reduceCtorEq, ↓reduceIte, hkn] | refine Cut.go ?_ | refine Both.intro ?_ ?_ | refine qletter_call ?_ | refine qdigit_call ?_ | (refine Br.intro ?_ ?_ <;> intro hb <;> have hb' := hb <;> (try simp only [SH] at hb') <;> (try simp -dsimp (maxSteps := 2000000) (disch := first | omega | (simp; done) | (simp; omega)) only [SA, SB, SC, SD, SE, SF, SG, Nat.reduceLT, Nat.reduceAdd, Nat.reduceSub, Nat.reduceMul, Nat.reduceLeDiff, Nat.reduceEqDiff, Nat.reduceBEq, Int.reduceToNat, Int.reduceLE, Int.reduceLT, Int.reduceEq, Int.reduceNeg, reduceCtorEq, ↓reduceIte, hb, hkn]))))
    · exact Round.go (k + 1) (by omega) ⟨by omega, by rw [k2, tw_step (by omega), if_pos (by simp only [wordB, hb', Bool.true_or]), show i' + (k + 1) = i' + k + 1 by omega]; omega⟩ (by ((try simp only [List.replicate_succ, List.replicate_zero, List.cons_append, List.nil_append]); repeat' (first | exact trivial | refine ⟨.inl rfl, ?_⟩ | refine ⟨.inr rfl, ?_⟩ | refine ⟨.inr (by simp), ?_⟩))) (Drops.refl _)
    · exact Round.go (k + 1) (by omega) ⟨by omega, by rw [k2, tw_step (by omega), if_pos (by simp only [wordB, hb', Bool.or_true]), show i' + (k + 1) = i' + k + 1 by omega]; omega⟩ (by ((try simp only [List.replicate_succ, List.replicate_zero, List.cons_append, List.nil_append]); repeat' (first | exact trivial | refine ⟨.inl rfl, ?_⟩ | refine ⟨.inr rfl, ?_⟩ | refine ⟨.inr (by simp), ?_⟩))) (Drops.refl _)
    · rename_i q1 _
      rw [k2, tw_step (by omega), if_neg (by simp only [wordB, q1, hb', Bool.or_false, Bool.false_eq_true, not_false_eq_true])]
      exact Midway.go (by ((try simp only [List.replicate_succ, List.replicate_zero, List.cons_append, List.nil_append]); repeat' (first | exact trivial | refine ⟨.inl rfl, ?_⟩ | refine ⟨.inr rfl, ?_⟩ | refine ⟨.inr (by simp), ?_⟩))) (Drops.refl _)
    · rw [k2, tw_end (by omega)]
      exact Midway.go (by ((try simp only [List.replicate_succ, List.replicate_zero, List.cons_append, List.nil_append]); repeat' (first | exact trivial | refine ⟨.inl rfl, ?_⟩ | refine ⟨.inr rfl, ?_⟩ | refine ⟨.inr (by simp), ?_⟩))) (Drops.refl _)
  have hz : i' + runN (s.drop i') - i' = runN (s.drop i') := by omega
  have hnm := name_run (s := s.drop i')
  rw [hg0] at hnm h2
  rw [hdd] at h2
  have hcl : ((s.drop i').take (runN (s.drop i'))).length ≤ 9223372036854775807 := by simp; omega
  have hzz : (((runN (s.drop i') : Nat) : Int) == 0) = decide (runN (s.drop i') = 0) := by
    cases h : decide (runN (s.drop i') = 0) <;> simp_all
  generalize runN (s.drop i') = r at *
  have hrs : i' + r ≤ s.length := by omega
  simp -dsimp (maxSteps := 2000000) (disch := first | omega | (simp; done) | (simp; omega)) only [SA, SB, SC, SD, SE, SF, SG, Nat.reduceLT, Nat.reduceAdd, Nat.reduceSub, Nat.reduceMul, Nat.reduceLeDiff, Nat.reduceEqDiff, Nat.reduceBEq, Int.reduceToNat, Int.reduceLE, Int.reduceLT, Int.reduceEq, Int.reduceNeg, reduceCtorEq, ↓reduceIte, List.replicate_succ, List.replicate_zero]
  (repeat' (first | simp -dsimp (maxSteps := 2000000) (disch := first | omega | (simp; done) | (simp; omega)) only [SA, SB, SC, SD, SE, SF, SG, Nat.reduceLT, Nat.reduceAdd, Nat.reduceSub, Nat.reduceMul, Nat.reduceLeDiff, Nat.reduceEqDiff, Nat.reduceBEq, Int.reduceToNat, Int.reduceLE, Int.reduceLT, Int.reduceEq, Int.reduceNeg, reduceCtorEq, ↓reduceIte, hap, hic, hz] | refine Cut.go ?_ | refine Both.intro ?_ ?_ | refine qdigit_call ?_ | refine rconst_call hcl ?_ | (refine Br.intro ?_ ?_ <;> intro hb <;> have hb' := hb <;> (try simp only [SH] at hb') <;> (try simp -dsimp (maxSteps := 2000000) (disch := first | omega | (simp; done) | (simp; omega)) only [SA, SB, SC, SD, SE, SF, SG, Nat.reduceLT, Nat.reduceAdd, Nat.reduceSub, Nat.reduceMul, Nat.reduceLeDiff, Nat.reduceEqDiff, Nat.reduceBEq, Int.reduceToNat, Int.reduceLE, Int.reduceLT, Int.reduceEq, Int.reduceNeg, reduceCtorEq, ↓reduceIte, hb, hap, hic, hz]))))
  · rw [if_pos hb] at h2
    exact ⟨⟨σ.obj, n⟩, drops_fin hf h5, n, h4, rfl, by rw [h2]⟩
  · rename_i q1 _ q2 _
    rw [if_neg (by simp only [q1]; decide), if_pos q2, if_pos (by rw [beq_eq_false_iff_ne]; exact hb')] at h2
    exact ⟨⟨σ.obj, n⟩, drops_fin hf h5, n, h4, rfl, by rw [h2]⟩
  · rename_i q1 _ q2 _
    rw [if_neg (by simp only [q1]; decide), if_pos q2, if_neg (by rw [hb']; decide)] at h2
    exact Round.go (f, i' + r, l ++ [⟨[], [], (constF ((s.drop i').take r)).1⟩], n, n + 1) (by simp only; omega) ⟨by simp only; omega, by simp only; omega, h2, by simp only [List.length_append, List.length_cons, List.length_nil]; omega, by simp only; omega, fun _ => ⟨h4, by simp only; omega⟩⟩ (by ((try simp only [List.replicate_succ, List.replicate_zero, List.cons_append, List.nil_append]); repeat' (first | exact trivial | refine ⟨.inl rfl, ?_⟩ | refine ⟨.inr rfl, ?_⟩ | refine ⟨.inr (by simp), ?_⟩))) (drops_tok hf h5 _)
  · rename_i q1 q3 q2 _
    rw [if_neg (by simp only [q1]; decide), if_neg (by simp only [q2]; decide), hnm (by omega) q2, if_pos (by rw [decide_eq_false_iff_not]; omega)] at h2
    exact ⟨⟨σ.obj, n⟩, drops_fin hf h5, n, h4, rfl, by rw [h2]⟩
  · rename_i q1 q3 q2 _
    rw [if_neg (by simp only [q1]; decide), if_neg (by simp only [q2]; decide), hnm (by omega) q2, if_neg (by rw [decide_eq_false_iff_not]; omega)] at h2
    exact Round.go (f, i' + r, l ++ [⟨[], (s.drop i').take r, 0⟩], n, n + 1) (by simp only; omega) ⟨by simp only; omega, by simp only; omega, h2, by simp only [List.length_append, List.length_cons, List.length_nil]; omega, by simp only; omega, fun _ => ⟨h4, by simp only; omega⟩⟩ (by ((try simp only [List.replicate_succ, List.replicate_zero, List.cons_append, List.nil_append]); repeat' (first | exact trivial | refine ⟨.inl rfl, ?_⟩ | refine ⟨.inr rfl, ?_⟩ | refine ⟨.inr (by simp), ?_⟩))) (drops_tok hf h5 _)
theorem rtokens_call {s : List UInt8} {σ : St} {K : Out → St → Prop} (hs : s.length ≤ 9000)
    (hk : ∀ n, σ.next ≤ n → (∀ l, tokensF s.length s [] = .ok l → ∀ t, K (.ret (.tuple [toksD l t, .int .i64 0])) ⟨σ.obj, n⟩) ∧ (∀ e, tokensF s.length s [] = .error e → K (.ret (.tuple [.nils, .int .i64 e])) ⟨σ.obj, n⟩)) :
    goodFn Try.prog 22 = true ∧ Ok Try.prog 22 [.str s] σ K := by
  refine ⟨gd22, (rtokens_ok s hs σ).mono fun o s' ⟨n, h1, h2, h3⟩ => ?_⟩
  subst h2
  have hk := hk n h1
  cases hr : tokensF s.length s [] with
  | ok l => rw [hr] at h3; obtain ⟨t, rfl⟩ := h3; exact hk.1 l hr t
  | error e => rw [hr] at h3; subst h3; exact hk.2 e hr
end Go.Proofs.Ytkjgadanaknleaa
