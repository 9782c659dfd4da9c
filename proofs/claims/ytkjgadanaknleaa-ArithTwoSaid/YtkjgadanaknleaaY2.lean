/-
  THE WALKS, PART 42: the document's signs.
-/
import Derived.Test.YtkjgadanaknleaaY1
import Derived.Test.YtkjgadanaknleaaW3
namespace Go.Proofs.Ytkjgadanaknleaa
open Go Go.Id
set_option linter.unusedSimpArgs false
set_option linter.unusedVariables false
set_option maxRecDepth 100000
set_option maxHeartbeats 4000000

theorem signAt_ok (s : List UInt8) (i : Nat) (hi : i ≤ s.length) (hs : s.length ≤ 9000) (σ : St) : Ok Try.prog 43 [.str s, .int .i64 i] σ (fun o s' => s' = σ ∧ o = .ret (.str (signOf (s.drop i)))) := by
  apply en43
  simp -dsimp (maxSteps := 2000000) (disch := first | omega | (simp; done) | (simp; omega)) only [SA, SB, SC, SD, SE, SF, SG, Nat.reduceLT, Nat.reduceAdd, Nat.reduceSub, Nat.reduceMul, Nat.reduceLeDiff, Nat.reduceEqDiff, Nat.reduceBEq, Int.reduceToNat, Int.reduceLE, Int.reduceLT, Int.reduceEq, Int.reduceNeg, reduceCtorEq, ↓reduceIte, ic43, List.replicate_succ, List.replicate_zero]
  (repeat' (first | simp -dsimp (maxSteps := 2000000) (disch := first | omega | (simp; done) | (simp; omega)) only [SA, SB, SC, SD, SE, SF, SG, Nat.reduceLT, Nat.reduceAdd, Nat.reduceSub, Nat.reduceMul, Nat.reduceLeDiff, Nat.reduceEqDiff, Nat.reduceBEq, Int.reduceToNat, Int.reduceLE, Int.reduceLT, Int.reduceEq, Int.reduceNeg, reduceCtorEq, ↓reduceIte] | refine Cut.go ?_ | refine Both.intro ?_ ?_ | (refine Br.intro ?_ ?_ <;> intro hb <;> have hb' := hb <;> (try simp only [SH] at hb') <;> (try simp -dsimp (maxSteps := 2000000) (disch := first | omega | (simp; done) | (simp; omega)) only [SA, SB, SC, SD, SE, SF, SG, Nat.reduceLT, Nat.reduceAdd, Nat.reduceSub, Nat.reduceMul, Nat.reduceLeDiff, Nat.reduceEqDiff, Nat.reduceBEq, Int.reduceToNat, Int.reduceLE, Int.reduceLT, Int.reduceEq, Int.reduceNeg, reduceCtorEq, ↓reduceIte, hb]))))
  refine loop_go (α := Nat) (fun k => [.str s, .int .i64 i, .junk, .junk, .str [], .slc 1 (signs.map .str) .exact, .int .i64 k] ++ List.replicate 38 .junk) (fun _ => σ) (fun k => 35 - k) (fun k => k ≤ 35 ∧ signOf (s.drop i) = signL (s.drop i) (signs.drop k)) 0 ⟨by omega, rfl⟩ (by ((try simp only [List.replicate_succ, List.replicate_zero, List.cons_append, List.nil_append]); repeat' (first | exact trivial | refine ⟨.inl rfl, ?_⟩ | refine ⟨.inr rfl, ?_⟩ | refine ⟨.inr (by simp), ?_⟩))) (Drops.refl _) ?_
  rintro k ⟨hk, hr⟩
  have hlen : signs.length = 35 := rfl
  have hall : ∀ x ∈ signs, x.length ≤ 3 := by decide
  simp -dsimp (maxSteps := 2000000) (disch := first | omega | (simp; done) | (simp; omega)) only [SA, SB, SC, SD, SE, SF, SG, Nat.reduceLT, Nat.reduceAdd, Nat.reduceSub, Nat.reduceMul, Nat.reduceLeDiff, Nat.reduceEqDiff, Nat.reduceBEq, Int.reduceToNat, Int.reduceLE, Int.reduceLT, Int.reduceEq, Int.reduceNeg, reduceCtorEq, ↓reduceIte, List.replicate_succ, List.replicate_zero, List.length_map, hlen]
  (repeat' (first | simp -dsimp (maxSteps := 2000000) (disch := first | omega | (simp; done) | (simp; omega)) only [SA, SB, SC, SD, SE, SF, SG, Nat.reduceLT, Nat.reduceAdd, Nat.reduceSub, Nat.reduceMul, Nat.reduceLeDiff, Nat.reduceEqDiff, Nat.reduceBEq, Int.reduceToNat, Int.reduceLE, Int.reduceLT, Int.reduceEq, Int.reduceNeg, reduceCtorEq, ↓reduceIte] | refine Cut.go ?_))
  refine Br.intro ?_ ?_
  · intro hb
    have hk' : k < signs.length := by simp at hb; omega
    have hg : signs.getD k default = signs[k] := by simp [hk']
    have h0 : ((k : Int) ≤ 35) := by omega
    have h3 : (signs.getD k default).length ≤ 3 := by rw [hg]; exact hall _ (List.getElem_mem hk')
    rw [List.drop_eq_getElem_cons hk', signL] at hr
    rw [← hg] at hr
    have hlen2 : (s.drop i).length = s.length - i := by simp
    have hpre : hasPre (s.drop i) (signs.getD k default) = (decide ((i : Int) + (signs.getD k default).length ≤ s.length) && ((s.drop i).take (signs.getD k default).length == signs.getD k default)) := by
      rw [hasPre]; congr 1; rw [decide_eq_decide]; omega
    rw [hpre] at hr
    have hz : ((i : Int) + ((signs.getD k default).length : Int)).toNat - i = (signs.getD k default).length := by omega
    (repeat' (first | simp -dsimp (maxSteps := 2000000) (disch := first | omega | (simp; done) | (simp; omega)) only [SA, SB, SC, SD, SE, SF, SG, Nat.reduceLT, Nat.reduceAdd, Nat.reduceSub, Nat.reduceMul, Nat.reduceLeDiff, Nat.reduceEqDiff, Nat.reduceBEq, Int.reduceToNat, Int.reduceLE, Int.reduceLT, Int.reduceEq, Int.reduceNeg, reduceCtorEq, ↓reduceIte, hb, hz] | refine Cut.go ?_ | refine Both.intro ?_ ?_ | (refine Br.intro ?_ ?_ <;> intro hb <;> have hb' := hb <;> (try simp only [SH] at hb') <;> (try simp -dsimp (maxSteps := 2000000) (disch := first | omega | (simp; done) | (simp; omega)) only [SA, SB, SC, SD, SE, SF, SG, Nat.reduceLT, Nat.reduceAdd, Nat.reduceSub, Nat.reduceMul, Nat.reduceLeDiff, Nat.reduceEqDiff, Nat.reduceBEq, Int.reduceToNat, Int.reduceLE, Int.reduceLT, Int.reduceEq, Int.reduceNeg, reduceCtorEq, ↓reduceIte, hb, hb, hz]))))
    · rw [hr, if_pos (by simp only [hb, ‹decide ((i : Int) + (signs.getD k default).length ≤ s.length) = true›, Bool.and_self])]
    · exact Round.go (k + 1) (by omega) ⟨by omega, by rw [hr, if_neg (by simp only [hb, Bool.and_false, Bool.false_eq_true, not_false_eq_true])]⟩ (by ((try simp only [List.replicate_succ, List.replicate_zero, List.cons_append, List.nil_append]); repeat' (first | exact trivial | refine ⟨.inl rfl, ?_⟩ | refine ⟨.inr rfl, ?_⟩ | refine ⟨.inr (by simp), ?_⟩))) (Drops.refl _)
    · exact Round.go (k + 1) (by omega) ⟨by omega, by rw [hr, if_neg (by simp only [hb, Bool.false_and, Bool.false_eq_true, not_false_eq_true])]⟩ (by ((try simp only [List.replicate_succ, List.replicate_zero, List.cons_append, List.nil_append]); repeat' (first | exact trivial | refine ⟨.inl rfl, ?_⟩ | refine ⟨.inr rfl, ?_⟩ | refine ⟨.inr (by simp), ?_⟩))) (Drops.refl _)
  · intro hb
    have : k = 35 := by simp at hb; omega
    subst this
    (repeat' (first | simp -dsimp (maxSteps := 2000000) (disch := first | omega | (simp; done) | (simp; omega)) only [SA, SB, SC, SD, SE, SF, SG, Nat.reduceLT, Nat.reduceAdd, Nat.reduceSub, Nat.reduceMul, Nat.reduceLeDiff, Nat.reduceEqDiff, Nat.reduceBEq, Int.reduceToNat, Int.reduceLE, Int.reduceLT, Int.reduceEq, Int.reduceNeg, reduceCtorEq, ↓reduceIte, hb] | refine Cut.go ?_ | refine Both.intro ?_ ?_ | (refine Br.intro ?_ ?_ <;> intro hb <;> have hb' := hb <;> (try simp only [SH] at hb') <;> (try simp -dsimp (maxSteps := 2000000) (disch := first | omega | (simp; done) | (simp; omega)) only [SA, SB, SC, SD, SE, SF, SG, Nat.reduceLT, Nat.reduceAdd, Nat.reduceSub, Nat.reduceMul, Nat.reduceLeDiff, Nat.reduceEqDiff, Nat.reduceBEq, Int.reduceToNat, Int.reduceLE, Int.reduceLT, Int.reduceEq, Int.reduceNeg, reduceCtorEq, ↓reduceIte, hb, hb]))))
    rw [hr]; rfl
theorem signAt_call {s : List UInt8} {i : Nat} {σ : St} {K : Out → St → Prop} (hi : i ≤ s.length) (hs : s.length ≤ 9000) (hk : K (.ret (.str (signOf (s.drop i)))) σ) : goodFn Try.prog 43 = true ∧ Ok Try.prog 43 [.str s, .int .i64 i] σ K := pass gd43 (signAt_ok s i hi hs σ) hk

theorem qletter_ok (c : UInt8) (σ : St) : Ok Try.prog 42 [.int .u8 c.toNat] σ (fun o s' => s' = σ ∧ o = .ret (.bool (letterB c.toNat))) := by
  apply en42
  simp -dsimp (maxSteps := 2000000) (disch := first | omega | (simp; done) | (simp; omega)) only [SA, SB, SC, SD, SE, SF, SG, Nat.reduceLT, Nat.reduceAdd, Nat.reduceSub, Nat.reduceMul, Nat.reduceLeDiff, Nat.reduceEqDiff, Nat.reduceBEq, Int.reduceToNat, Int.reduceLE, Int.reduceLT, Int.reduceEq, Int.reduceNeg, reduceCtorEq, ↓reduceIte, ic42, List.replicate_succ, List.replicate_zero]
  (repeat' (first | simp -dsimp (maxSteps := 2000000) (disch := first | omega | (simp; done) | (simp; omega)) only [SA, SB, SC, SD, SE, SF, SG, Nat.reduceLT, Nat.reduceAdd, Nat.reduceSub, Nat.reduceMul, Nat.reduceLeDiff, Nat.reduceEqDiff, Nat.reduceBEq, Int.reduceToNat, Int.reduceLE, Int.reduceLT, Int.reduceEq, Int.reduceNeg, reduceCtorEq, ↓reduceIte] | refine Cut.go ?_ | refine Both.intro ?_ ?_ | (refine Br.intro ?_ ?_ <;> intro hb <;> have hb' := hb <;> (try simp only [SH] at hb') <;> (try simp -dsimp (maxSteps := 2000000) (disch := first | omega | (simp; done) | (simp; omega)) only [SA, SB, SC, SD, SE, SF, SG, Nat.reduceLT, Nat.reduceAdd, Nat.reduceSub, Nat.reduceMul, Nat.reduceLeDiff, Nat.reduceEqDiff, Nat.reduceBEq, Int.reduceToNat, Int.reduceLE, Int.reduceLT, Int.reduceEq, Int.reduceNeg, reduceCtorEq, ↓reduceIte, hb]))))
  all_goals (simp [letterB]; grind)
theorem qdigit_ok (c : UInt8) (σ : St) : Ok Try.prog 44 [.int .u8 c.toNat] σ (fun o s' => s' = σ ∧ o = .ret (.bool (digitB c.toNat))) := by
  apply en44
  simp -dsimp (maxSteps := 2000000) (disch := first | omega | (simp; done) | (simp; omega)) only [SA, SB, SC, SD, SE, SF, SG, Nat.reduceLT, Nat.reduceAdd, Nat.reduceSub, Nat.reduceMul, Nat.reduceLeDiff, Nat.reduceEqDiff, Nat.reduceBEq, Int.reduceToNat, Int.reduceLE, Int.reduceLT, Int.reduceEq, Int.reduceNeg, reduceCtorEq, ↓reduceIte, ic44, List.replicate_succ, List.replicate_zero]
  (repeat' (first | simp -dsimp (maxSteps := 2000000) (disch := first | omega | (simp; done) | (simp; omega)) only [SA, SB, SC, SD, SE, SF, SG, Nat.reduceLT, Nat.reduceAdd, Nat.reduceSub, Nat.reduceMul, Nat.reduceLeDiff, Nat.reduceEqDiff, Nat.reduceBEq, Int.reduceToNat, Int.reduceLE, Int.reduceLT, Int.reduceEq, Int.reduceNeg, reduceCtorEq, ↓reduceIte] | refine Cut.go ?_ | refine Both.intro ?_ ?_ | (refine Br.intro ?_ ?_ <;> intro hb <;> have hb' := hb <;> (try simp only [SH] at hb') <;> (try simp -dsimp (maxSteps := 2000000) (disch := first | omega | (simp; done) | (simp; omega)) only [SA, SB, SC, SD, SE, SF, SG, Nat.reduceLT, Nat.reduceAdd, Nat.reduceSub, Nat.reduceMul, Nat.reduceLeDiff, Nat.reduceEqDiff, Nat.reduceBEq, Int.reduceToNat, Int.reduceLE, Int.reduceLT, Int.reduceEq, Int.reduceNeg, reduceCtorEq, ↓reduceIte, hb]))))
  all_goals (simp [digitB]; grind)
theorem qletter_call {c : UInt8} {σ : St} {K : Out → St → Prop} (hk : K (.ret (.bool (letterB c.toNat))) σ) : goodFn Try.prog 42 = true ∧ Ok Try.prog 42 [.int .u8 c.toNat] σ K := pass gd42 (qletter_ok c σ) hk
theorem qdigit_call {c : UInt8} {σ : St} {K : Out → St → Prop} (hk : K (.ret (.bool (digitB c.toNat))) σ) : goodFn Try.prog 44 = true ∧ Ok Try.prog 44 [.int .u8 c.toNat] σ K := pass gd44 (qdigit_ok c σ) hk
theorem blank_has (c : UInt8) : ([32, 9, 10] : List UInt8).any (· == c) = blankB c := by
  have h : (List.range 256).all (fun n => ([32, 9, 10] : List UInt8).any (· == n.toUInt8) == blankB n.toUInt8) = true := by kernel_rfl
  rw [List.all_eq_true] at h
  have := h c.toNat (by simpa using c.toNat_lt)
  have e : c.toNat.toUInt8 = c := by simp
  rw [e] at this
  simpa using this
theorem tw_tw (p : UInt8 → Bool) : ∀ r : List UInt8, (r.takeWhile p).takeWhile p = r.takeWhile p
  | [] => rfl
  | a :: r => by
    cases h : p a
    · simp [h]
    · simp [h, tw_tw p r]
theorem name_run {s : List UInt8} (h0 : runN s ≠ 0) (hd : digitB (s.getD 0 0).toNat = false) : nameB (s.take (runN s)) = decide (runN s ≤ 64) := by
  cases s with
  | nil => simp [runN] at h0
  | cons c r =>
    have hw : wordB c = true := by
      cases hc : wordB c
      · simp [runN, hc] at h0
      · rfl
    have hd' : digitB c.toNat = false := hd
    have hl : letterB c.toNat = true := by
      rw [wordB, hd', Bool.or_false] at hw; exact hw
    have hr : runN (c :: r) = (r.takeWhile wordB).length + 1 := by simp [runN, hw]
    have ht : (c :: r).take (runN (c :: r)) = c :: r.takeWhile wordB := by
      rw [hr, List.take_succ_cons, ← List.prefix_iff_eq_take.1 (List.takeWhile_prefix wordB)]
    have hn : namedN (c :: r.takeWhile wordB) = (r.takeWhile wordB).length + 1 := by
      simp only [namedN, hl, if_true]
      congr 2
      rw [tw_tw]
    rw [ht, nameB, hn, hr]
    simp only [List.length_cons]
    have e1 : (c :: r.takeWhile wordB == ([] : List UInt8)) = false := rfl
    rw [e1, Bool.not_false, Bool.true_and, beq_self_eq_true, Bool.and_true, decide_eq_decide]
    omega
end Go.Proofs.Ytkjgadanaknleaa
