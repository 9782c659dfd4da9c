/-
  THE WALKS, PART 40: the document's digits.
-/
import Derived.Test.YtkjgadanaknleaaW2
import Derived.KernelRfl
namespace Go.Proofs.Ytkjgadanaknleaa
open Go Go.Id
set_option linter.unusedSimpArgs false
set_option linter.unusedVariables false
set_option maxRecDepth 100000
set_option maxHeartbeats 4000000

/-- What a sign is worth to the document. -/
def rdigM (c i : Nat) : Bool := (digs.getD i 0).toNat == c || (decide (10 ≤ i) && (digs.getD i 0).toNat == (c + 32) % 256 && decide (c < 97))
theorem rdigM_iff (c k : Nat) : rdigM c k = true ↔ ((digs.getD k 0).toNat = c ∨ (10 ≤ k ∧ (digs.getD k 0).toNat = (c + 32) % 256 ∧ c < 97)) := by
  simp only [rdigM, Bool.or_eq_true, Bool.and_eq_true, beq_iff_eq, decide_eq_true_eq, and_assoc]
def rdigL (c : Nat) : Nat → Nat → Nat
  | 0, i => i
  | f + 1, i => if rdigM c i then i else rdigL c f (i + 1)
def rdigF (c : UInt8) : Int := rdigL c.toNat 16 0
theorem rdig_eq (c : UInt8) : rdigF c = if digitOf c < 0 then 16 else digitOf c := by
  have h : (List.range 256).all (fun n => decide (((rdigL n 16 0 : Nat) : Int) = if digitOf n.toUInt8 < 0 then 16 else digitOf n.toUInt8)) = true := by kernel_rfl
  rw [List.all_eq_true] at h
  have := h c.toNat (by simpa using c.toNat_lt)
  have e : c.toNat.toUInt8 = c := by simp
  rw [e] at this
  simpa [rdigF] using this
theorem rdigit_ok (c : UInt8) (σ : St) : Ok Try.prog 76 [.int .u8 c.toNat] σ (fun o s' => s' = σ ∧ o = .ret (.int .i64 (rdigF c))) := by
  apply en76
  have hc := c.toNat_lt
  simp -dsimp (maxSteps := 2000000) (disch := first | omega | (simp; done) | (simp; omega)) only [SA, SB, SC, SD, SE, SF, SG, Nat.reduceLT, Nat.reduceAdd, Nat.reduceSub, Nat.reduceMul, Nat.reduceLeDiff, Nat.reduceEqDiff, Nat.reduceBEq, Int.reduceToNat, Int.reduceLE, Int.reduceLT, Int.reduceEq, Int.reduceNeg, reduceCtorEq, ↓reduceIte, ic76, List.replicate_succ, List.replicate_zero]
  (repeat' (first | simp -dsimp (maxSteps := 2000000) (disch := first | omega | (simp; done) | (simp; omega)) only [SA, SB, SC, SD, SE, SF, SG, Nat.reduceLT, Nat.reduceAdd, Nat.reduceSub, Nat.reduceMul, Nat.reduceLeDiff, Nat.reduceEqDiff, Nat.reduceBEq, Int.reduceToNat, Int.reduceLE, Int.reduceLT, Int.reduceEq, Int.reduceNeg, reduceCtorEq, ↓reduceIte] | refine Cut.go ?_ | refine Both.intro ?_ ?_ | (refine Br.intro ?_ ?_ <;> intro hb <;> have hb' := hb <;> (try simp only [SH] at hb') <;> (try simp -dsimp (maxSteps := 2000000) (disch := first | omega | (simp; done) | (simp; omega)) only [SA, SB, SC, SD, SE, SF, SG, Nat.reduceLT, Nat.reduceAdd, Nat.reduceSub, Nat.reduceMul, Nat.reduceLeDiff, Nat.reduceEqDiff, Nat.reduceBEq, Int.reduceToNat, Int.reduceLE, Int.reduceLT, Int.reduceEq, Int.reduceNeg, reduceCtorEq, ↓reduceIte, hb]))))
  refine loop_go (α := Nat) (fun k => [.int .u8 c.toNat, .junk, .int .i64 0, .int .i64 k] ++ List.replicate 24 .junk) (fun _ => σ) (fun k => 16 - k) (fun k => k ≤ 16 ∧ rdigF c = rdigL c.toNat (16 - k) k) 0 ⟨by omega, rfl⟩ (by ((try simp only [List.replicate_succ, List.replicate_zero, List.cons_append, List.nil_append]); repeat' (first | exact trivial | refine ⟨.inl rfl, ?_⟩ | refine ⟨.inr rfl, ?_⟩ | refine ⟨.inr (by simp), ?_⟩))) (Drops.refl _) ?_
  rintro k ⟨hk, hr⟩
  simp -dsimp (maxSteps := 2000000) (disch := first | omega | (simp; done) | (simp; omega)) only [SA, SB, SC, SD, SE, SF, SG, Nat.reduceLT, Nat.reduceAdd, Nat.reduceSub, Nat.reduceMul, Nat.reduceLeDiff, Nat.reduceEqDiff, Nat.reduceBEq, Int.reduceToNat, Int.reduceLE, Int.reduceLT, Int.reduceEq, Int.reduceNeg, reduceCtorEq, ↓reduceIte, List.replicate_succ, List.replicate_zero]
  (repeat' (first | simp -dsimp (maxSteps := 2000000) (disch := first | omega | (simp; done) | (simp; omega)) only [SA, SB, SC, SD, SE, SF, SG, Nat.reduceLT, Nat.reduceAdd, Nat.reduceSub, Nat.reduceMul, Nat.reduceLeDiff, Nat.reduceEqDiff, Nat.reduceBEq, Int.reduceToNat, Int.reduceLE, Int.reduceLT, Int.reduceEq, Int.reduceNeg, reduceCtorEq, ↓reduceIte] | refine Cut.go ?_))
  refine Br.intro ?_ ?_
  · intro hb
    have hk' : k < 16 := by simp at hb; omega
    obtain ⟨g, hg⟩ : ∃ g, 16 - k = g + 1 := ⟨15 - k, by omega⟩
    rw [hg, rdigL] at hr
    have hix : idxStr (.str [48, 49, 50, 51, 52, 53, 54, 55, 56, 57, 97, 98, 99, 100, 101, 102]) (.int .i64 k) = some (.int .u8 (digs.getD k 0).toNat) := idxStr_at _ _ _ ⟨by omega, by simp; omega⟩
    have hw : IntKind.u8.wrap ((c.toNat : Int) + 32) = (((c.toNat + 32) % 256 : Nat) : Int) := by
      have : IntKind.u8.wrap ((c.toNat : Int) + 32) = ((c.toNat : Int) + 32) % 256 := by simp [IntKind.wrap, IntKind.bits, IntKind.signed]
      rw [this]; omega
    (repeat' (first | simp -dsimp (maxSteps := 2000000) (disch := first | omega | (simp; done) | (simp; omega)) only [SA, SB, SC, SD, SE, SF, SG, Nat.reduceLT, Nat.reduceAdd, Nat.reduceSub, Nat.reduceMul, Nat.reduceLeDiff, Nat.reduceEqDiff, Nat.reduceBEq, Int.reduceToNat, Int.reduceLE, Int.reduceLT, Int.reduceEq, Int.reduceNeg, reduceCtorEq, ↓reduceIte, hix, hw] | refine Cut.go ?_ | refine Both.intro ?_ ?_ | (refine Br.intro ?_ ?_ <;> intro hb <;> have hb' := hb <;> (try simp only [SH] at hb') <;> (try simp -dsimp (maxSteps := 2000000) (disch := first | omega | (simp; done) | (simp; omega)) only [SA, SB, SC, SD, SE, SF, SG, Nat.reduceLT, Nat.reduceAdd, Nat.reduceSub, Nat.reduceMul, Nat.reduceLeDiff, Nat.reduceEqDiff, Nat.reduceBEq, Int.reduceToNat, Int.reduceLE, Int.reduceLT, Int.reduceEq, Int.reduceNeg, reduceCtorEq, ↓reduceIte, hb, hix, hw]))))
    all_goals
      have hm := rdigM_iff c.toNat k
      generalize (digs.getD k 0).toNat = x at *
    any_goals (exact Round.go (k + 1) (by omega) ⟨by omega, by rw [hr, if_neg (by rw [hm]; omega), show 16 - (k + 1) = g by omega]⟩ (by ((try simp only [List.replicate_succ, List.replicate_zero, List.cons_append, List.nil_append]); repeat' (first | exact trivial | refine ⟨.inl rfl, ?_⟩ | refine ⟨.inr rfl, ?_⟩ | refine ⟨.inr (by simp), ?_⟩))) (Drops.refl _))
    all_goals (rw [hr, if_pos (by rw [hm]; omega)])
  · intro hb
    have : k = 16 := by simp at hb; omega
    subst this
    (repeat' (first | simp -dsimp (maxSteps := 2000000) (disch := first | omega | (simp; done) | (simp; omega)) only [SA, SB, SC, SD, SE, SF, SG, Nat.reduceLT, Nat.reduceAdd, Nat.reduceSub, Nat.reduceMul, Nat.reduceLeDiff, Nat.reduceEqDiff, Nat.reduceBEq, Int.reduceToNat, Int.reduceLE, Int.reduceLT, Int.reduceEq, Int.reduceNeg, reduceCtorEq, ↓reduceIte] | refine Cut.go ?_ | refine Both.intro ?_ ?_ | (refine Br.intro ?_ ?_ <;> intro hb <;> have hb' := hb <;> (try simp only [SH] at hb') <;> (try simp -dsimp (maxSteps := 2000000) (disch := first | omega | (simp; done) | (simp; omega)) only [SA, SB, SC, SD, SE, SF, SG, Nat.reduceLT, Nat.reduceAdd, Nat.reduceSub, Nat.reduceMul, Nat.reduceLeDiff, Nat.reduceEqDiff, Nat.reduceBEq, Int.reduceToNat, Int.reduceLE, Int.reduceLT, Int.reduceEq, Int.reduceNeg, reduceCtorEq, ↓reduceIte, hb]))))
    rw [hr]; rfl
theorem rdigit_call {c : UInt8} {σ : St} {K : Out → St → Prop} (hk : K (.ret (.int .i64 (rdigF c))) σ) : goodFn Try.prog 76 = true ∧ Ok Try.prog 76 [.int .u8 c.toNat] σ K := pass gd76 (rdigit_ok c σ) hk

/-! Digits of a base. -/
def digBad (base : Int) (c : UInt8) : Bool := decide (digitOf c < 0) || decide (digitOf c ≥ base)
theorem digit_rng (c : UInt8) : -1 ≤ digitOf c ∧ digitOf c ≤ 15 := by
  have h : (List.range 256).all (fun n => decide (-1 ≤ digitOf n.toUInt8 ∧ digitOf n.toUInt8 ≤ 15)) = true := by kernel_rfl
  rw [List.all_eq_true] at h
  have := h c.toNat (by simpa using c.toNat_lt)
  have e : c.toNat.toUInt8 = c := by simp
  rw [e] at this
  simpa using this
theorem bad_iff {base : Int} (hb : 2 ≤ base ∧ base ≤ 16) (c : UInt8) : digBad base c = decide (rdigF c ≥ base) := by
  have := digit_rng c
  rw [rdig_eq, digBad]
  by_cases h : digitOf c < 0
  · rw [if_pos h, decide_eq_true h, Bool.true_or, decide_eq_true (by omega)]
  · rw [if_neg h, decide_eq_false h, Bool.false_or]
theorem readGo_bad (base most : Int) : ∀ (s : List UInt8) (n : Int) (over : Bool), s.any (digBad base) = true → readGo base most s n over = .error 40
  | [], _, _, h => by simp at h
  | c :: r, n, over, h => by
    rw [readGo]
    split
    · rfl
    · rename_i hc
      refine readGo_bad base most r _ _ ?_
      simp only [List.any_cons, Bool.or_eq_true] at h
      rcases h with h | h
      · exact absurd h (by simpa [digBad] using hc)
      · exact h
theorem readGo_over (base most : Int) : ∀ (s : List UInt8) (n : Int), s.any (digBad base) = false → ∃ m, readGo base most s n true = .ok (m, true)
  | [], n, _ => ⟨n, rfl⟩
  | c :: r, n, h => by
    simp only [List.any_cons, Bool.or_eq_false_iff] at h
    rw [readGo, if_neg (by simpa [digBad] using h.1)]
    exact readGo_over base most r _ h.2
theorem readF_bad {base most : Int} {s : List UInt8} (h : s.any (digBad base) = true) : readF s base most = (0, 40) := by
  unfold readF
  split
  · rfl
  · rw [readGo_bad _ _ _ _ _ h]
/-- One digit more. -/
theorem dig_over {n base most d : Int} (hn : 0 ≤ n) (hb : 2 ≤ base ∧ base ≤ 16) (hm : 16 ≤ most ∧ most ≤ 18446744073709551615) (hd : 0 ≤ d ∧ d ≤ 15) (hle : n ≤ most) :
    (n > IntKind.u64.wrap ((most - d).tdiv base)) ↔ (n > most.tdiv base ∨ n * base > most - d) := by
  have e : (most - d).tdiv base = (most - d) / base := Int.tdiv_eq_ediv_of_nonneg (by omega)
  have e2 : most.tdiv base = most / base := Int.tdiv_eq_ediv_of_nonneg (by omega)
  have h1 : 0 ≤ (most - d) / base := Int.ediv_nonneg (by omega) (by omega)
  have h2 : (most - d) / base ≤ most - d := Int.ediv_le_self _ (by omega)
  rw [e, e2, wru64 _ (by omega)]
  have h3 : (most - d) / base ≤ most / base := Int.ediv_le_ediv (by omega) (by omega)
  have h4 : (n > (most - d) / base) ↔ n * base > most - d := by
    constructor
    · intro h; exact (Int.ediv_lt_iff_lt_mul (by omega)).1 h
    · intro h; exact (Int.ediv_lt_iff_lt_mul (by omega)).2 h
  constructor
  · intro h; exact .inr (h4.1 h)
  · rintro (h | h)
    · omega
    · exact h4.2 h
theorem dig_next {s : List UInt8} {base most n : Int} {i : Nat} (hbase : 2 ≤ base ∧ base ≤ 16) (hm : 16 ≤ most ∧ most ≤ 18446744073709551615) (hi : i < s.length) (h2 : 0 ≤ n) (h3 : n ≤ most)
    (h4 : (s.drop i).any (digBad base) = false) (h5 : readGo base most s 0 false = readGo base most (s.drop i) n false) :
    rdigF (s.getD i 0) = digitOf (s.getD i 0) ∧ 0 ≤ digitOf (s.getD i 0) ∧ digitOf (s.getD i 0) ≤ 15 ∧ (s.drop (i + 1)).any (digBad base) = false ∧
    ((n > most.tdiv base ∨ n * base > most - digitOf (s.getD i 0)) → readF s base most = (0, 41)) ∧
    (¬ (n > most.tdiv base ∨ n * base > most - digitOf (s.getD i 0)) → readGo base most s 0 false = readGo base most (s.drop (i + 1)) (n * base + digitOf (s.getD i 0)) false) := by
  have hne : s ≠ [] := fun h => by subst h; simp at hi
  rw [drop_at hi, List.any_cons, Bool.or_eq_false_iff] at h4
  obtain ⟨h6, h7⟩ := h4
  have hr := digit_rng (s.getD i 0)
  have h8 : ¬ digitOf (s.getD i 0) < 0 := fun h => by rw [digBad, decide_eq_true h] at h6; cases h6
  have e1 : rdigF (s.getD i 0) = digitOf (s.getD i 0) := by rw [rdig_eq, if_neg h8]
  have hov := dig_over (d := digitOf (s.getD i 0)) h2 hbase hm (by omega) h3
  rw [drop_at hi, readGo, if_neg (by rw [digBad] at h6; rw [h6]; decide)] at h5
  generalize digitOf (s.getD i 0) = d at *
  refine ⟨e1, by omega, by omega, h7, fun h => ?_, fun h => ?_⟩
  · rw [decide_eq_true (hov.2 h)] at h5
    obtain ⟨m, hm2⟩ := readGo_over base most (s.drop (i + 1)) (IntKind.u64.wrap (IntKind.u64.wrap (n * base) + d)) h7
    rw [Bool.false_or, hm2] at h5
    rw [readF, if_neg hne, h5]; rfl
  · rw [decide_eq_false (fun hh => h (hov.1 hh))] at h5
    have h9 : 0 ≤ n * base := Int.mul_nonneg h2 (by omega)
    have h10 : ¬ n * base > most - d := fun hh => h (.inr hh)
    rw [wru64 (n * base) (by omega), wru64 (n * base + d) (by omega)] at h5
    exact h5
theorem rdigits_ok (s : List UInt8) (base most : Int) (hbase : 2 ≤ base ∧ base ≤ 16) (hm : 16 ≤ most ∧ most ≤ 18446744073709551615) (hs : s.length ≤ 9223372036854775807) (σ : St) :
    Ok Try.prog 63 [.str s, .int .i64 base, .int .u64 most] σ (fun o s' => s' = σ ∧ o = .ret (.tuple [.int .u64 (readF s base most).1, .int .i64 (readF s base most).2])) := by
  apply en63
  simp -dsimp (maxSteps := 2000000) (disch := first | omega | (simp; done) | (simp; omega)) only [SA, SB, SC, SD, SE, SF, SG, Nat.reduceLT, Nat.reduceAdd, Nat.reduceSub, Nat.reduceMul, Nat.reduceLeDiff, Nat.reduceEqDiff, Nat.reduceBEq, Int.reduceToNat, Int.reduceLE, Int.reduceLT, Int.reduceEq, Int.reduceNeg, reduceCtorEq, ↓reduceIte, ic63, List.replicate_succ, List.replicate_zero]
  (repeat' (first | simp -dsimp (maxSteps := 2000000) (disch := first | omega | (simp; done) | (simp; omega)) only [SA, SB, SC, SD, SE, SF, SG, Nat.reduceLT, Nat.reduceAdd, Nat.reduceSub, Nat.reduceMul, Nat.reduceLeDiff, Nat.reduceEqDiff, Nat.reduceBEq, Int.reduceToNat, Int.reduceLE, Int.reduceLT, Int.reduceEq, Int.reduceNeg, reduceCtorEq, ↓reduceIte] | refine Cut.go ?_ | refine Both.intro ?_ ?_ | (refine Br.intro ?_ ?_ <;> intro hb <;> have hb' := hb <;> (try simp only [SH] at hb') <;> (try simp -dsimp (maxSteps := 2000000) (disch := first | omega | (simp; done) | (simp; omega)) only [SA, SB, SC, SD, SE, SF, SG, Nat.reduceLT, Nat.reduceAdd, Nat.reduceSub, Nat.reduceMul, Nat.reduceLeDiff, Nat.reduceEqDiff, Nat.reduceBEq, Int.reduceToNat, Int.reduceLE, Int.reduceLT, Int.reduceEq, Int.reduceNeg, reduceCtorEq, ↓reduceIte, hb]))))
  · have : s = [] := List.eq_nil_of_length_eq_zero (by omega)
    subst this; rfl
  refine loop_go (α := Nat) (fun k => [.str s, .int .i64 base, .int .u64 most] ++ List.replicate 3 .junk ++ [.int .u64 0, .int .i64 0, .int .i64 k] ++ List.replicate 52 .junk) (fun _ => σ) (fun k => s.length - k) (fun k => k ≤ s.length ∧ s.any (digBad base) = (s.drop k).any (digBad base)) 0 ⟨by omega, rfl⟩ (by ((try simp only [List.replicate_succ, List.replicate_zero, List.cons_append, List.nil_append]); repeat' (first | exact trivial | refine ⟨.inl rfl, ?_⟩ | refine ⟨.inr rfl, ?_⟩ | refine ⟨.inr (by simp), ?_⟩))) (Drops.refl _) ?_
  rintro k ⟨hk, hr⟩
  simp -dsimp (maxSteps := 2000000) (disch := first | omega | (simp; done) | (simp; omega)) only [SA, SB, SC, SD, SE, SF, SG, Nat.reduceLT, Nat.reduceAdd, Nat.reduceSub, Nat.reduceMul, Nat.reduceLeDiff, Nat.reduceEqDiff, Nat.reduceBEq, Int.reduceToNat, Int.reduceLE, Int.reduceLT, Int.reduceEq, Int.reduceNeg, reduceCtorEq, ↓reduceIte, List.replicate_succ, List.replicate_zero]
  (repeat' (first | simp -dsimp (maxSteps := 2000000) (disch := first | omega | (simp; done) | (simp; omega)) only [SA, SB, SC, SD, SE, SF, SG, Nat.reduceLT, Nat.reduceAdd, Nat.reduceSub, Nat.reduceMul, Nat.reduceLeDiff, Nat.reduceEqDiff, Nat.reduceBEq, Int.reduceToNat, Int.reduceLE, Int.reduceLT, Int.reduceEq, Int.reduceNeg, reduceCtorEq, ↓reduceIte] | refine Cut.go ?_ | refine Both.intro ?_ ?_ | refine rdigit_call ?_ | (refine Br.intro ?_ ?_ <;> intro hb <;> have hb' := hb <;> (try simp only [SH] at hb') <;> (try simp -dsimp (maxSteps := 2000000) (disch := first | omega | (simp; done) | (simp; omega)) only [SA, SB, SC, SD, SE, SF, SG, Nat.reduceLT, Nat.reduceAdd, Nat.reduceSub, Nat.reduceMul, Nat.reduceLeDiff, Nat.reduceEqDiff, Nat.reduceBEq, Int.reduceToNat, Int.reduceLE, Int.reduceLT, Int.reduceEq, Int.reduceNeg, reduceCtorEq, ↓reduceIte, hb]))))
  · rw [drop_at (by omega), List.any_cons, bad_iff hbase, decide_eq_true (by omega), Bool.true_or] at hr
    rw [readF_bad hr]
  · rw [drop_at (by omega), List.any_cons, bad_iff hbase, decide_eq_false (by omega), Bool.false_or] at hr
    exact Round.go (k + 1) (by omega) ⟨by omega, hr⟩ (by ((try simp only [List.replicate_succ, List.replicate_zero, List.cons_append, List.nil_append]); repeat' (first | exact trivial | refine ⟨.inl rfl, ?_⟩ | refine ⟨.inr rfl, ?_⟩ | refine ⟨.inr (by simp), ?_⟩))) (Drops.refl _)
  rw [List.drop_eq_nil_of_le (by omega), List.any_nil] at hr
  have hk2 : k = s.length := by omega
  subst hk2
  have hq : 0 ≤ most.tdiv base ∧ most.tdiv base ≤ most := by
    have e2 : most.tdiv base = most / base := Int.tdiv_eq_ediv_of_nonneg (by omega)
    rw [e2]
    exact ⟨Int.ediv_nonneg (by omega) (by omega), Int.ediv_le_self _ (by omega)⟩
  have hwq : IntKind.u64.wrap (most.tdiv base) = most.tdiv base := wru64 _ (by omega)
  have hwb : IntKind.u64.wrap base = base := wru64 _ (by omega)
  refine loop_go (α := Nat × Int) (fun a => [.str s, .int .i64 base, .int .u64 most] ++ List.replicate 3 .junk ++ [.int .u64 0, .int .i64 0, .junk, .int .u64 a.2, .int .i64 a.1] ++ List.replicate 50 .junk) (fun _ => σ) (fun a => s.length - a.1) (fun a => a.1 ≤ s.length ∧ 0 ≤ a.2 ∧ a.2 ≤ most ∧ (s.drop a.1).any (digBad base) = false ∧ readGo base most s 0 false = readGo base most (s.drop a.1) a.2 false) (0, 0) ⟨by simp, by simp, by simp only; omega, hr, rfl⟩ (by ((try simp only [List.replicate_succ, List.replicate_zero, List.cons_append, List.nil_append]); repeat' (first | exact trivial | refine ⟨.inl rfl, ?_⟩ | refine ⟨.inr rfl, ?_⟩ | refine ⟨.inr (by simp), ?_⟩))) (Drops.refl _) ?_
  rintro ⟨i, n⟩ ⟨h1, h2, h3, h4, h5⟩
  simp only at h1 h2 h3 h4 h5
  simp -dsimp (maxSteps := 2000000) (disch := first | omega | (simp; done) | (simp; omega)) only [SA, SB, SC, SD, SE, SF, SG, Nat.reduceLT, Nat.reduceAdd, Nat.reduceSub, Nat.reduceMul, Nat.reduceLeDiff, Nat.reduceEqDiff, Nat.reduceBEq, Int.reduceToNat, Int.reduceLE, Int.reduceLT, Int.reduceEq, Int.reduceNeg, reduceCtorEq, ↓reduceIte, List.replicate_succ, List.replicate_zero]
  (repeat' (first | simp -dsimp (maxSteps := 2000000) (disch := first | omega | (simp; done) | (simp; omega)) only [SA, SB, SC, SD, SE, SF, SG, Nat.reduceLT, Nat.reduceAdd, Nat.reduceSub, Nat.reduceMul, Nat.reduceLeDiff, Nat.reduceEqDiff, Nat.reduceBEq, Int.reduceToNat, Int.reduceLE, Int.reduceLT, Int.reduceEq, Int.reduceNeg, reduceCtorEq, ↓reduceIte, hwq, hwb] | refine Cut.go ?_ | refine Both.intro ?_ ?_ | refine rdigit_call ?_ | (refine Br.intro ?_ ?_ <;> intro hb <;> have hb' := hb <;> (try simp only [SH] at hb') <;> (try simp -dsimp (maxSteps := 2000000) (disch := first | omega | (simp; done) | (simp; omega)) only [SA, SB, SC, SD, SE, SF, SG, Nat.reduceLT, Nat.reduceAdd, Nat.reduceSub, Nat.reduceMul, Nat.reduceLeDiff, Nat.reduceEqDiff, Nat.reduceBEq, Int.reduceToNat, Int.reduceLE, Int.reduceLT, Int.reduceEq, Int.reduceNeg, reduceCtorEq, ↓reduceIte, hb, hwq, hwb]))))
  · have hi : i < s.length := by omega
    obtain ⟨g1, g2, g3, g4, g5, g6⟩ := dig_next hbase hm hi h2 h3 h4 h5
    rw [g5 (.inl hb')]
  · have hi : i < s.length := by omega
    obtain ⟨g1, g2, g3, g4, g5, g6⟩ := dig_next hbase hm hi h2 h3 h4 h5
    rw [g1, wru64 (digitOf (s.getD i 0)) (by omega), wru64 (most - digitOf (s.getD i 0)) (by omega)] at hb'
    refine congrArg _ ?_
    rw [g5 (.inr ?_)]
    have h9 : 0 ≤ n * base := Int.mul_nonneg h2 (by omega)
    have h10 : n * base ≤ most.tdiv base * base := Int.mul_le_mul_of_nonneg_right (by omega) (by omega)
    have h11 : most.tdiv base * base ≤ most := by
      rw [Int.tdiv_eq_ediv_of_nonneg (by omega)]; exact Int.ediv_mul_le _ (by omega)
    rw [wru64 (n * base) (by omega)] at hb'
    exact hb'
  · have hi : i < s.length := by omega
    obtain ⟨g1, g2, g3, g4, g5, g6⟩ := dig_next hbase hm hi h2 h3 h4 h5
    rw [g1, wru64 (digitOf (s.getD i 0)) (by omega), wru64 (most - digitOf (s.getD i 0)) (by omega)] at hb'
    rw [g1, wru64 (digitOf (s.getD i 0)) (by omega)]
    have h9 : 0 ≤ n * base := Int.mul_nonneg h2 (by omega)
    have h10 : n * base ≤ most.tdiv base * base := Int.mul_le_mul_of_nonneg_right (by omega) (by omega)
    have h11 : most.tdiv base * base ≤ most := by
      rw [Int.tdiv_eq_ediv_of_nonneg (by omega)]; exact Int.ediv_mul_le _ (by omega)
    rw [wru64 (n * base) (by omega)] at hb' ⊢
    rw [wru64 (n * base + digitOf (s.getD i 0)) (by omega)]
    exact Round.go (i + 1, n * base + digitOf (s.getD i 0)) (by simp only; omega) ⟨by simp only; omega, by simp only; omega, by simp only; omega, g4, g6 (by omega)⟩ (by ((try simp only [List.replicate_succ, List.replicate_zero, List.cons_append, List.nil_append]); repeat' (first | exact trivial | refine ⟨.inl rfl, ?_⟩ | refine ⟨.inr rfl, ?_⟩ | refine ⟨.inr (by simp), ?_⟩))) (Drops.refl _)
  · rw [List.drop_eq_nil_of_le (by omega), readGo] at h5
    rw [readF, if_neg (fun h => by subst h; simp_all), h5]; rfl
theorem rdigits_call {s : List UInt8} {base most : Int} {σ : St} {K : Out → St → Prop} (hbase : 2 ≤ base ∧ base ≤ 16) (hm : 16 ≤ most ∧ most ≤ 18446744073709551615) (hs : s.length ≤ 9223372036854775807)
    (hk : K (.ret (.tuple [.int .u64 (readF s base most).1, .int .i64 (readF s base most).2])) σ) : goodFn Try.prog 63 = true ∧ Ok Try.prog 63 [.str s, .int .i64 base, .int .u64 most] σ K := pass gd63 (rdigits_ok s base most hbase hm hs σ) hk

end Go.Proofs.Ytkjgadanaknleaa
