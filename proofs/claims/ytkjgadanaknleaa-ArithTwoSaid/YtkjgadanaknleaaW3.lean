/-
  THE WALKS, PART 3: a text is cut.
-/
import Derived.Test.YtkjgadanaknleaaW2
namespace Go.Proofs.Ytkjgadanaknleaa
open Go Go.Id
set_option linter.unusedSimpArgs false
set_option linter.unusedVariables false
set_option maxRecDepth 100000
set_option maxHeartbeats 4000000

def blankB (c : UInt8) : Bool := decide (Lib.indexByte [32, 9, 10] c.toNat.toUInt8 ≥ 0)
/-- A dollar ahead of a name is left out. -/
def undollar (s : List UInt8) : List UInt8 := if ((s.getD 0 0).toNat : Int) == 36 && decide ((s.length : Int) > 1) && letterB (s.getD 1 0).toNat then s.drop 1 else s
def tokensF : Nat → List UInt8 → List Tok → Except Int (List Tok)
  | _, [], l => .ok l
  | 0, _ :: _, _ => .error 0
  | f + 1, c :: r, l =>
    if blankB c then tokensF f r l else
    let s := undollar (c :: r)
    if (signOf s == []) = false then tokensF f (s.drop (signOf s).length) (l ++ [⟨signOf s, [], 0⟩])
    else if (runN s : Int) == 0 then .error 61
    else if digitB (s.getD 0 0).toNat then (if ((constF (s.take (runN s))).2 == 0) = false then .error (constF (s.take (runN s))).2 else tokensF f (s.drop (runN s)) (l ++ [⟨[], [], (constF (s.take (runN s))).1⟩]))
    else if nameB (s.take (runN s)) = false then .error 61
    else tokensF f (s.drop (runN s)) (l ++ [⟨[], s.take (runN s), 0⟩])

def toksD (l : List Tok) (t : Nat) : D := match l with
  | [] => .nils
  | _ => .slc 3 (l.map Tok.d) (.opened t)
def killTok (l : List Tok) (t : Nat) (σ : St) : St := match l with
  | [] => σ
  | _ => σ.put t none
theorem ap_toks (l : List Tok) (t : Nat) (a b : List UInt8) (c : Int) (σ : St) (h : (l ≠ [] → σ.obj t = some .tok) ∧ l.length ≤ 100000) :
    iappend 3 40 (toksD l t) (.slc 3 [.agg [.str a, .str b, .int .i64 c]] .exact) σ = some (toksD (l ++ [⟨a, b, c⟩]) σ.next, (killTok l t σ).alloc .tok) := by
  obtain ⟨h, hl⟩ := h
  cases l with
  | nil => simp [iappend, elems, toksD, killTok, Tok.d, maxLen]
  | cons x l =>
    have := h (by simp)
    simp only [List.length_cons] at hl
    simp [iappend, elems, toksD, killTok, Tok.d, this, maxLen, St.put]
    omega
def tokSt (σ : St) (l : List Tok) (t n : Nat) : St := ⟨fun i => if l ≠ [] ∧ i = t then some .tok else σ.obj i, n⟩
theorem drops_tok {σ : St} (hf : σ.Fresh) {l : List Tok} {t n : Nat} (ht : l ≠ [] → σ.next ≤ t ∧ t < n) (x : Tok) : Drops ((killTok l t (tokSt σ l t n)).alloc .tok) (tokSt σ (l ++ [x]) n (n + 1)) := by
  refine ⟨?_, fun j => ?_⟩
  · cases l <;> simp [killTok, tokSt, St.alloc, St.put]
  · cases l with
    | nil => right; simp [killTok, tokSt, St.alloc]
    | cons y l =>
      obtain ⟨h1, h2⟩ := ht (by simp)
      by_cases hj : j = n
      · right; simp [killTok, tokSt, St.alloc, St.put, hj]
      · by_cases hjt : j = t
        · left; subst hjt; simp [tokSt, hj]; exact hf j h1
        · right; simp [killTok, tokSt, St.alloc, St.put, hj, hjt]
theorem undollar_len (s : List UInt8) : (undollar s).length ≤ s.length := by unfold undollar; split <;> simp
theorem undollar_ne {s : List UInt8} (h : s ≠ []) : undollar s ≠ [] := by
  unfold undollar
  split
  · rename_i hc
    simp only [Bool.and_eq_true, decide_eq_true_eq] at hc
    intro h0
    have := congrArg List.length h0
    simp at this
    omega
  · exact h
theorem signL_pre (s : List UInt8) : ∀ l : List (List UInt8), (signL s l).length ≤ s.length
  | [] => by simp [signL]
  | x :: r => by
    rw [signL]
    split
    · rename_i h; exact hasPre_len h
    · exact signL_pre s r
theorem sign_pre (s : List UInt8) : (signOf s).length ≤ s.length := signL_pre s signs
theorem sign_call {s : List UInt8} {σ : St} {K : Out → St → Prop} (hk : K (.ret (.str (signOf s))) σ) : goodFn Try.prog 30 = true ∧ Ok Try.prog 30 [.str s] σ K := pass gd30 (sign_ok s σ) hk

theorem drops_fin {σ : St} (hf : σ.Fresh) {l : List Tok} {t n : Nat} (h5 : l ≠ [] → σ.next ≤ t ∧ t < n) : Drops (tokSt σ l t n) ⟨σ.obj, n⟩ := by
  refine ⟨by simp [tokSt], fun j => ?_⟩
  simp only [tokSt]
  by_cases hj : l ≠ [] ∧ j = t
  · left; exact hf j (by have := h5 hj.1; omega)
  · right; rw [if_neg hj]
theorem tokens_ok (s₀ : List UInt8) (hs : s₀.length ≤ 9000) (σ : St) : Ok Try.prog 17 [.str s₀] σ (fun o s' => ∃ n, σ.next ≤ n ∧ s' = ⟨σ.obj, n⟩ ∧ match tokensF s₀.length s₀ [] with
    | .ok l => ∃ t, o = .ret (.tuple [toksD l t, .int .i64 0])
    | .error e => o = .ret (.tuple [.nils, .int .i64 e])) := by
  refine Ok.fresh fun hf => Ok.drop ?_
  apply en17
  simp -dsimp (maxSteps := 2000000) (disch := first | omega | (simp; done) | (simp; omega)) only [SA, SB, SC, SD, SE, SF, SG, Nat.reduceLT, Nat.reduceAdd, Nat.reduceSub, Nat.reduceMul, Nat.reduceLeDiff, Nat.reduceEqDiff, Nat.reduceBEq, Int.reduceToNat, Int.reduceLE, Int.reduceLT, Int.reduceEq, Int.reduceNeg, reduceCtorEq, ↓reduceIte, ic17, List.replicate_succ, List.replicate_zero]
  (repeat' (first | simp -dsimp (maxSteps := 2000000) (disch := first | omega | (simp; done) | (simp; omega)) only [SA, SB, SC, SD, SE, SF, SG, Nat.reduceLT, Nat.reduceAdd, Nat.reduceSub, Nat.reduceMul, Nat.reduceLeDiff, Nat.reduceEqDiff, Nat.reduceBEq, Int.reduceToNat, Int.reduceLE, Int.reduceLT, Int.reduceEq, Int.reduceNeg, reduceCtorEq, ↓reduceIte] | refine Cut.go ?_ | refine Both.intro ?_ ?_ | (refine Br.intro ?_ ?_ <;> intro hb <;> have hb' := hb <;> (try simp only [SH] at hb') <;> (try simp -dsimp (maxSteps := 2000000) (disch := first | omega | (simp; done) | (simp; omega)) only [SA, SB, SC, SD, SE, SF, SG, Nat.reduceLT, Nat.reduceAdd, Nat.reduceSub, Nat.reduceMul, Nat.reduceLeDiff, Nat.reduceEqDiff, Nat.reduceBEq, Int.reduceToNat, Int.reduceLE, Int.reduceLT, Int.reduceEq, Int.reduceNeg, reduceCtorEq, ↓reduceIte, hb]))))
  refine loop_go (α := Nat × List UInt8 × List Tok × Nat × Nat) (fun a => [.str a.2.1, .junk, .junk, .junk, toksD a.2.2.1 a.2.2.2.1] ++ List.replicate 80 .junk) (fun a => tokSt σ a.2.2.1 a.2.2.2.1 a.2.2.2.2) (fun a => a.1)
    (fun a => a.2.1.length ≤ a.1 ∧ tokensF s₀.length s₀ [] = tokensF a.1 a.2.1 a.2.2.1 ∧ a.2.1.length + a.2.2.1.length ≤ 9000 ∧ σ.next ≤ a.2.2.2.2 ∧ (a.2.2.1 ≠ [] → σ.next ≤ a.2.2.2.1 ∧ a.2.2.2.1 < a.2.2.2.2))
    (s₀.length, s₀, [], 0, σ.next) ⟨by simp, rfl, by simpa using hs, by simp, by simp⟩ (by ((try simp only [List.replicate_succ, List.replicate_zero, List.cons_append, List.nil_append]); repeat' (first | exact trivial | refine ⟨.inl rfl, ?_⟩ | refine ⟨.inr rfl, ?_⟩ | refine ⟨.inr (by simp), ?_⟩))) ⟨by simp [tokSt], fun j => .inr (by simp [tokSt])⟩ ?_
  rintro ⟨f, s, l, t, n⟩ ⟨h1, h2, h3, h4, h5⟩
  simp only at h1 h2 h3 h4 h5
  cases s with
  | nil =>
    simp -dsimp (maxSteps := 2000000) (disch := first | omega | (simp; done) | (simp; omega)) only [SA, SB, SC, SD, SE, SF, SG, Nat.reduceLT, Nat.reduceAdd, Nat.reduceSub, Nat.reduceMul, Nat.reduceLeDiff, Nat.reduceEqDiff, Nat.reduceBEq, Int.reduceToNat, Int.reduceLE, Int.reduceLT, Int.reduceEq, Int.reduceNeg, reduceCtorEq, ↓reduceIte, List.replicate_succ, List.replicate_zero]
    (repeat' (first | simp -dsimp (maxSteps := 2000000) (disch := first | omega | (simp; done) | (simp; omega)) only [SA, SB, SC, SD, SE, SF, SG, Nat.reduceLT, Nat.reduceAdd, Nat.reduceSub, Nat.reduceMul, Nat.reduceLeDiff, Nat.reduceEqDiff, Nat.reduceBEq, Int.reduceToNat, Int.reduceLE, Int.reduceLT, Int.reduceEq, Int.reduceNeg, reduceCtorEq, ↓reduceIte] | refine Cut.go ?_ | refine Both.intro ?_ ?_ | (refine Br.intro ?_ ?_ <;> intro hb <;> have hb' := hb <;> (try simp only [SH] at hb') <;> (try simp -dsimp (maxSteps := 2000000) (disch := first | omega | (simp; done) | (simp; omega)) only [SA, SB, SC, SD, SE, SF, SG, Nat.reduceLT, Nat.reduceAdd, Nat.reduceSub, Nat.reduceMul, Nat.reduceLeDiff, Nat.reduceEqDiff, Nat.reduceBEq, Int.reduceToNat, Int.reduceLE, Int.reduceLT, Int.reduceEq, Int.reduceNeg, reduceCtorEq, ↓reduceIte, hb]))))
    refine ⟨⟨σ.obj, n⟩, ⟨by simp [tokSt], fun j => ?_⟩, n, h4, rfl, ?_⟩
    · simp only [tokSt]
      by_cases hj : l ≠ [] ∧ j = t
      · left; exact hf j (by have := h5 hj.1; omega)
      · right; rw [if_neg hj]
    · rw [h2]
      cases f <;> exact ⟨t, rfl⟩
  | cons c r =>
    obtain ⟨f, rfl⟩ : ∃ g, f = g + 1 := ⟨f - 1, by simp at h1; omega⟩
    have e1 : (c :: r == ([] : List UInt8)) = false := rfl
    simp only [List.length_cons] at h1 h3
    rw [tokensF] at h2
    simp -dsimp (maxSteps := 2000000) (disch := first | omega | (simp; done) | (simp; omega)) only [SA, SB, SC, SD, SE, SF, SG, Nat.reduceLT, Nat.reduceAdd, Nat.reduceSub, Nat.reduceMul, Nat.reduceLeDiff, Nat.reduceEqDiff, Nat.reduceBEq, Int.reduceToNat, Int.reduceLE, Int.reduceLT, Int.reduceEq, Int.reduceNeg, reduceCtorEq, ↓reduceIte, List.replicate_succ, List.replicate_zero, e1]
    (repeat' (first | simp -dsimp (maxSteps := 2000000) (disch := first | omega | (simp; done) | (simp; omega)) only [SA, SB, SC, SD, SE, SF, SG, Nat.reduceLT, Nat.reduceAdd, Nat.reduceSub, Nat.reduceMul, Nat.reduceLeDiff, Nat.reduceEqDiff, Nat.reduceBEq, Int.reduceToNat, Int.reduceLE, Int.reduceLT, Int.reduceEq, Int.reduceNeg, reduceCtorEq, ↓reduceIte] | refine Cut.go ?_))
    refine ⟨gd27, (indexByte_ok _ _ _).mono ?_⟩
    rintro o s' ⟨rfl, rfl⟩
    (repeat' (first | simp -dsimp (maxSteps := 2000000) (disch := first | omega | (simp; done) | (simp; omega)) only [SA, SB, SC, SD, SE, SF, SG, Nat.reduceLT, Nat.reduceAdd, Nat.reduceSub, Nat.reduceMul, Nat.reduceLeDiff, Nat.reduceEqDiff, Nat.reduceBEq, Int.reduceToNat, Int.reduceLE, Int.reduceLT, Int.reduceEq, Int.reduceNeg, reduceCtorEq, ↓reduceIte] | refine Cut.go ?_))
    refine Br.intro ?_ ?_
    · intro hb
      rw [if_pos (by simpa only [blankB] using hb)] at h2
      (repeat' (first | simp -dsimp (maxSteps := 2000000) (disch := first | omega | (simp; done) | (simp; omega)) only [SA, SB, SC, SD, SE, SF, SG, Nat.reduceLT, Nat.reduceAdd, Nat.reduceSub, Nat.reduceMul, Nat.reduceLeDiff, Nat.reduceEqDiff, Nat.reduceBEq, Int.reduceToNat, Int.reduceLE, Int.reduceLT, Int.reduceEq, Int.reduceNeg, reduceCtorEq, ↓reduceIte] | refine Cut.go ?_ | refine Both.intro ?_ ?_ | (refine Br.intro ?_ ?_ <;> intro hb <;> have hb' := hb <;> (try simp only [SH] at hb') <;> (try simp -dsimp (maxSteps := 2000000) (disch := first | omega | (simp; done) | (simp; omega)) only [SA, SB, SC, SD, SE, SF, SG, Nat.reduceLT, Nat.reduceAdd, Nat.reduceSub, Nat.reduceMul, Nat.reduceLeDiff, Nat.reduceEqDiff, Nat.reduceBEq, Int.reduceToNat, Int.reduceLE, Int.reduceLT, Int.reduceEq, Int.reduceNeg, reduceCtorEq, ↓reduceIte, hb]))))
      exact Round.go (f, r, l, t, n) (by simp only; omega) ⟨by simp only; omega, h2, by simp only; omega, h4, h5⟩ (by ((try simp only [List.replicate_succ, List.replicate_zero, List.cons_append, List.nil_append]); repeat' (first | exact trivial | refine ⟨.inl rfl, ?_⟩ | refine ⟨.inr rfl, ?_⟩ | refine ⟨.inr (by simp), ?_⟩))) (Drops.refl _)
    · intro hb
      rw [if_neg (by simp only [blankB, hb, Bool.false_eq_true, not_false_eq_true])] at h2
      simp -dsimp (maxSteps := 2000000) (disch := first | omega | (simp; done) | (simp; omega)) only [SA, SB, SC, SD, SE, SF, SG, Nat.reduceLT, Nat.reduceAdd, Nat.reduceSub, Nat.reduceMul, Nat.reduceLeDiff, Nat.reduceEqDiff, Nat.reduceBEq, Int.reduceToNat, Int.reduceLE, Int.reduceLT, Int.reduceEq, Int.reduceNeg, reduceCtorEq, ↓reduceIte]
      refine Cut.go (seq_mid ([.str (undollar (c :: r)), .junk, .junk, .junk, toksD l t] ++ List.replicate 80 D.junk) (tokSt σ l t n) ?_ ?_)
      · (repeat' (first | simp -dsimp (maxSteps := 2000000) (disch := first | omega | (simp; done) | (simp; omega)) only [SA, SB, SC, SD, SE, SF, SG, Nat.reduceLT, Nat.reduceAdd, Nat.reduceSub, Nat.reduceMul, Nat.reduceLeDiff, Nat.reduceEqDiff, Nat.reduceBEq, Int.reduceToNat, Int.reduceLE, Int.reduceLT, Int.reduceEq, Int.reduceNeg, reduceCtorEq, ↓reduceIte] | refine Cut.go ?_ | refine Both.intro ?_ ?_ | refine letter_call ?_ | (refine Br.intro ?_ ?_ <;> intro hb <;> have hb' := hb <;> (try simp only [SH] at hb') <;> (try simp -dsimp (maxSteps := 2000000) (disch := first | omega | (simp; done) | (simp; omega)) only [SA, SB, SC, SD, SE, SF, SG, Nat.reduceLT, Nat.reduceAdd, Nat.reduceSub, Nat.reduceMul, Nat.reduceLeDiff, Nat.reduceEqDiff, Nat.reduceBEq, Int.reduceToNat, Int.reduceLE, Int.reduceLT, Int.reduceEq, Int.reduceNeg, reduceCtorEq, ↓reduceIte, hb]))))
        · have hu : undollar (c :: r) = r := by
            unfold undollar
            rw [if_pos]
            · rfl
            · simp only [List.getD_cons_zero, List.getD_cons_succ, List.length_cons, *, decide_true, decide_false, beq_self_eq_true, Bool.true_and, Bool.and_self]
          rw [hu]
          exact Midway.go (by ((try simp only [List.replicate_succ, List.replicate_zero, List.cons_append, List.nil_append]); repeat' (first | exact trivial | refine ⟨.inl rfl, ?_⟩ | refine ⟨.inr rfl, ?_⟩ | refine ⟨.inr (by simp), ?_⟩))) (Drops.refl _)
        all_goals
          have hu : undollar (c :: r) = c :: r := by
            unfold undollar
            rw [if_neg]
            simp only [List.getD_cons_zero, List.getD_cons_succ, List.length_cons, *, decide_true, decide_false, beq_self_eq_true, Bool.true_and, Bool.and_self, Bool.and_false, Bool.false_and, Bool.false_eq_true, not_false_eq_true]
          rw [hu]
          exact Midway.go (by ((try simp only [List.replicate_succ, List.replicate_zero, List.cons_append, List.nil_append]); repeat' (first | exact trivial | refine ⟨.inl rfl, ?_⟩ | refine ⟨.inr rfl, ?_⟩ | refine ⟨.inr (by simp), ?_⟩))) (Drops.refl _)
      · have hu := undollar_len (c :: r)
        have hne : undollar (c :: r) ≠ [] := undollar_ne (by simp)
        generalize undollar (c :: r) = s at *
        simp only [List.length_cons] at hu
        have hp := sign_pre s
        have hr : runN s ≤ s.length := tw_le _ _
        have hpos : 0 < s.length := List.length_pos_iff.2 hne
        have hap : ∀ (a b : List UInt8) (c : Int), iappend 3 40 (toksD l t) (.slc 3 [.agg [.str a, .str b, .int .i64 c]] .exact) (tokSt σ l t n) = some (toksD (l ++ [⟨a, b, c⟩]) n, (killTok l t (tokSt σ l t n)).alloc .tok) :=
          fun a b c => ap_toks l t a b c (tokSt σ l t n) ⟨fun hl => by simp [tokSt, hl], by omega⟩
        have htk : (s.take (runN s)).length ≤ 9223372036854775807 := by simp; omega
        simp -dsimp (maxSteps := 2000000) (disch := first | omega | (simp; done) | (simp; omega)) only [SA, SB, SC, SD, SE, SF, SG, Nat.reduceLT, Nat.reduceAdd, Nat.reduceSub, Nat.reduceMul, Nat.reduceLeDiff, Nat.reduceEqDiff, Nat.reduceBEq, Int.reduceToNat, Int.reduceLE, Int.reduceLT, Int.reduceEq, Int.reduceNeg, reduceCtorEq, ↓reduceIte, List.replicate_succ, List.replicate_zero]
        (repeat' (first | simp -dsimp (maxSteps := 2000000) (disch := first | omega | (simp; done) | (simp; omega)) only [SA, SB, SC, SD, SE, SF, SG, Nat.reduceLT, Nat.reduceAdd, Nat.reduceSub, Nat.reduceMul, Nat.reduceLeDiff, Nat.reduceEqDiff, Nat.reduceBEq, Int.reduceToNat, Int.reduceLE, Int.reduceLT, Int.reduceEq, Int.reduceNeg, reduceCtorEq, ↓reduceIte, hap, List.length_take] | refine Cut.go ?_ | refine Both.intro ?_ ?_ | refine run_call (by omega) ?_ | refine sign_call ?_ | refine digit_call ?_ | refine constant_call htk ?_ | refine name_call ?_ | (refine Br.intro ?_ ?_ <;> intro hb <;> have hb' := hb <;> (try simp only [SH] at hb') <;> (try simp -dsimp (maxSteps := 2000000) (disch := first | omega | (simp; done) | (simp; omega)) only [SA, SB, SC, SD, SE, SF, SG, Nat.reduceLT, Nat.reduceAdd, Nat.reduceSub, Nat.reduceMul, Nat.reduceLeDiff, Nat.reduceEqDiff, Nat.reduceBEq, Int.reduceToNat, Int.reduceLE, Int.reduceLT, Int.reduceEq, Int.reduceNeg, reduceCtorEq, ↓reduceIte, hb, hap, List.length_take]))))
        all_goals (simp only [*, beq_self_eq_true, Bool.false_eq_true, Bool.true_eq_false, ↓reduceIte, bne_iff_ne, ne_eq, beq_eq_false_iff_ne, not_false_eq_true] at h2)
        all_goals (try (exact ⟨⟨σ.obj, n⟩, drops_fin hf h5, n, h4, rfl, by rw [h2]⟩))
        · exact Round.go (f, s.drop (runN s), l ++ [⟨[], [], (constF (s.take (runN s))).1⟩], n, n + 1) (by simp only; omega) ⟨by simp only [List.length_drop]; omega, h2, by simp only [List.length_drop, List.length_append, List.length_cons, List.length_nil]; omega, by simp only; omega, fun _ => ⟨h4, by simp only; omega⟩⟩ (by ((try simp only [List.replicate_succ, List.replicate_zero, List.cons_append, List.nil_append]); repeat' (first | exact trivial | refine ⟨.inl rfl, ?_⟩ | refine ⟨.inr rfl, ?_⟩ | refine ⟨.inr (by simp), ?_⟩))) (drops_tok hf h5 _)
        · exact Round.go (f, s.drop (runN s), l ++ [⟨[], s.take (runN s), 0⟩], n, n + 1) (by simp only; omega) ⟨by simp only [List.length_drop]; omega, h2, by simp only [List.length_drop, List.length_append, List.length_cons, List.length_nil]; omega, by simp only; omega, fun _ => ⟨h4, by simp only; omega⟩⟩ (by ((try simp only [List.replicate_succ, List.replicate_zero, List.cons_append, List.nil_append]); repeat' (first | exact trivial | refine ⟨.inl rfl, ?_⟩ | refine ⟨.inr rfl, ?_⟩ | refine ⟨.inr (by simp), ?_⟩))) (drops_tok hf h5 _)
        · have hsp := List.length_pos_iff.2 hb'
          exact Round.go (f, s.drop (signOf s).length, l ++ [⟨signOf s, [], 0⟩], n, n + 1) (by simp only; omega) ⟨by simp only [List.length_drop]; omega, h2, by simp only [List.length_drop, List.length_append, List.length_cons, List.length_nil]; omega, by simp only; omega, fun _ => ⟨h4, by simp only; omega⟩⟩ (by ((try simp only [List.replicate_succ, List.replicate_zero, List.cons_append, List.nil_append]); repeat' (first | exact trivial | refine ⟨.inl rfl, ?_⟩ | refine ⟨.inr rfl, ?_⟩ | refine ⟨.inr (by simp), ?_⟩))) (drops_tok hf h5 _)
end Go.Proofs.Ytkjgadanaknleaa
