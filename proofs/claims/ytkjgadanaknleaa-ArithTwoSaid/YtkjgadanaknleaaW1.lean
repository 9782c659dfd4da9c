/-
  THE WALKS, PART 1: levels, two numbers, numbers' texts.
-/
import Derived.Test.YtkjgadanaknleaaW0
namespace Go.Proofs.Ytkjgadanaknleaa
open Go Go.Id
set_option linter.unusedSimpArgs false
set_option linter.unusedVariables false
set_option maxRecDepth 100000
set_option maxHeartbeats 4000000

def levelOf (s : List UInt8) : Int :=
  if s == [124, 124] then 1 else if s == [38, 38] then 2 else if s == [124] then 3 else if s == [94] then 4 else if s == [38] then 5
  else if s == [61, 61] then 6 else if s == [33, 61] then 6
  else if s == [60] then 7 else if s == [60, 61] then 7 else if s == [62] then 7 else if s == [62, 61] then 7
  else if s == [60, 60] then 8 else if s == [62, 62] then 8 else if s == [43] then 9 else if s == [45] then 9
  else if s == [42] then 10 else if s == [47] then 10 else if s == [37] then 10 else 0
theorem level_ok (s : List UInt8) (σ : St) : Ok Try.prog 73 [.str s] σ (fun o s' => s' = σ ∧ o = .ret (.int .i64 (levelOf s))) := by
  apply en73
  simp -dsimp (maxSteps := 2000000) (disch := first | omega | (simp; done) | (simp; omega)) only [SA, SB, SC, SD, SE, SF, SG, Nat.reduceLT, Nat.reduceAdd, Nat.reduceSub, Nat.reduceMul, Nat.reduceLeDiff, Nat.reduceEqDiff, Nat.reduceBEq, Int.reduceToNat, Int.reduceLE, Int.reduceLT, Int.reduceEq, Int.reduceNeg, reduceCtorEq, ↓reduceIte, ic73, List.replicate_succ, List.replicate_zero]
  (repeat' (first | simp -dsimp (maxSteps := 2000000) (disch := first | omega | (simp; done) | (simp; omega)) only [SA, SB, SC, SD, SE, SF, SG, Nat.reduceLT, Nat.reduceAdd, Nat.reduceSub, Nat.reduceMul, Nat.reduceLeDiff, Nat.reduceEqDiff, Nat.reduceBEq, Int.reduceToNat, Int.reduceLE, Int.reduceLT, Int.reduceEq, Int.reduceNeg, reduceCtorEq, ↓reduceIte] | refine Cut.go ?_ | refine Both.intro ?_ ?_ | (refine Br.intro ?_ ?_ <;> intro hb <;> have hb' := hb <;> (try simp only [SH] at hb') <;> (try simp -dsimp (maxSteps := 2000000) (disch := first | omega | (simp; done) | (simp; omega)) only [SA, SB, SC, SD, SE, SF, SG, Nat.reduceLT, Nat.reduceAdd, Nat.reduceSub, Nat.reduceMul, Nat.reduceLeDiff, Nat.reduceEqDiff, Nat.reduceBEq, Int.reduceToNat, Int.reduceLE, Int.reduceLT, Int.reduceEq, Int.reduceNeg, reduceCtorEq, ↓reduceIte, hb]))))
  all_goals (first | (subst hb'; rfl) | simp_all [levelOf])
theorem level_call {s : List UInt8} {σ : St} {K : Out → St → Prop} (hk : K (.ret (.int .i64 (levelOf s))) σ) : goodFn Try.prog 73 = true ∧ Ok Try.prog 73 [.str s] σ K := pass gd73 (level_ok s σ) hk

def faultD (e : Int) : D := .iface 47 (.agg [.int .i64 e])
def outI : Except Int Int → Out
  | .ok v => .ret (.int .i64 v)
  | .error e => .panic (faultD e)

def flagI (b : Bool) : Int := if b then 1 else 0
def twoF (s : List UInt8) (a b : Int) : Except Int Int :=
  if s == [43] then .ok (IntKind.i64.wrap (a + b)) else if s == [45] then .ok (IntKind.i64.wrap (a - b)) else if s == [42] then .ok (IntKind.i64.wrap (a * b))
  else if s == [47] then (if b == 0 then .error 42 else .ok (IntKind.i64.wrap (a.tdiv b)))
  else if s == [37] then (if b == 0 then .error 42 else .ok (a.tmod b))
  else if s == [60, 60] then (if decide (b < 0) || decide (b > 63) then .error 41 else .ok (IntKind.i64.wrap (a * 2 ^ min b.toNat IntKind.i64.bits)))
  else if s == [62, 62] then (if decide (b < 0) || decide (b > 63) then .error 41 else .ok (a.fdiv (2 ^ min b.toNat IntKind.i64.bits)))
  else if s == [60] then .ok (flagI (decide (a < b))) else if s == [60, 61] then .ok (flagI (decide (a ≤ b)))
  else if s == [62] then .ok (flagI (decide (a > b))) else if s == [62, 61] then .ok (flagI (decide (a ≥ b)))
  else if s == [61, 61] then .ok (flagI (a == b)) else if s == [33, 61] then .ok (flagI (a != b))
  else if s == [38] then .ok (ibits .and .i64 a b) else if s == [94] then .ok (ibits .xor .i64 a b) else .ok (ibits .or .i64 a b)

theorem twoF_shl (a b : Int) (h1 : decide (b < 0) = false) (h2 : decide (b > 63) = false) : twoF [60, 60] a b = .ok (IntKind.i64.wrap (a * 2 ^ min b.toNat IntKind.i64.bits)) := by
  show (if decide (b < 0) || decide (b > 63) then _ else _) = _
  rw [h1, h2]; rfl
theorem twoF_shr (a b : Int) (h1 : decide (b < 0) = false) (h2 : decide (b > 63) = false) : twoF [62, 62] a b = .ok (a.fdiv (2 ^ min b.toNat IntKind.i64.bits)) := by
  show (if decide (b < 0) || decide (b > 63) then _ else _) = _
  rw [h1, h2]; rfl
theorem two_ok (s : List UInt8) (a b : Int) (σ : St) : Ok Try.prog 38 [.str s, .int .i64 a, .int .i64 b] σ (fun o s' => s' = σ ∧ o = outI (twoF s a b)) := by
  apply en38
  simp -dsimp (maxSteps := 2000000) (disch := first | omega | (simp; done) | (simp; omega)) only [SA, SB, SC, SD, SE, SF, SG, Nat.reduceLT, Nat.reduceAdd, Nat.reduceSub, Nat.reduceMul, Nat.reduceLeDiff, Nat.reduceEqDiff, Nat.reduceBEq, Int.reduceToNat, Int.reduceLE, Int.reduceLT, Int.reduceEq, Int.reduceNeg, reduceCtorEq, ↓reduceIte, ic38, List.replicate_succ, List.replicate_zero]
  (repeat' (first | simp -dsimp (maxSteps := 2000000) (disch := first | omega | (simp; done) | (simp; omega)) only [SA, SB, SC, SD, SE, SF, SG, Nat.reduceLT, Nat.reduceAdd, Nat.reduceSub, Nat.reduceMul, Nat.reduceLeDiff, Nat.reduceEqDiff, Nat.reduceBEq, Int.reduceToNat, Int.reduceLE, Int.reduceLT, Int.reduceEq, Int.reduceNeg, reduceCtorEq, ↓reduceIte] | refine Cut.go ?_ | refine Both.intro ?_ ?_ | refine flag_call ?_ | (refine Br.intro ?_ ?_ <;> intro hb <;> have hb' := hb <;> (try simp only [SH] at hb') <;> (try simp -dsimp (maxSteps := 2000000) (disch := first | omega | (simp; done) | (simp; omega)) only [SA, SB, SC, SD, SE, SF, SG, Nat.reduceLT, Nat.reduceAdd, Nat.reduceSub, Nat.reduceMul, Nat.reduceLeDiff, Nat.reduceEqDiff, Nat.reduceBEq, Int.reduceToNat, Int.reduceLE, Int.reduceLT, Int.reduceEq, Int.reduceNeg, reduceCtorEq, ↓reduceIte, hb]))))
  all_goals (try (simp_all [twoF, outI, flagI, faultD]; done))
  · obtain rfl : s = [60, 60] := by assumption
    rw [twoF_shl a b (by assumption) (by assumption)]; rfl
  · obtain rfl : s = [62, 62] := by assumption
    rw [twoF_shr a b (by assumption) (by assumption)]; rfl

def digs : List UInt8 := [48, 49, 50, 51, 52, 53, 54, 55, 56, 57, 97, 98, 99, 100, 101, 102]
/-- What a sign is worth as a digit. -/
def digitOf (c : UInt8) : Int := Lib.indexByte digs (if decide ((c.toNat : Int) ≥ 65) && decide ((c.toNat : Int) ≤ 70) then ((c.toNat : Int) + 32).toNat.toUInt8 else (c.toNat : Int).toNat.toUInt8)
theorem value_ok (c : UInt8) (σ : St) : Ok Try.prog 71 [.int .u8 c.toNat] σ (fun o s' => s' = σ ∧ o = .ret (.int .i64 (digitOf c))) := by
  apply en71
  simp -dsimp (maxSteps := 2000000) (disch := first | omega | (simp; done) | (simp; omega)) only [SA, SB, SC, SD, SE, SF, SG, Nat.reduceLT, Nat.reduceAdd, Nat.reduceSub, Nat.reduceMul, Nat.reduceLeDiff, Nat.reduceEqDiff, Nat.reduceBEq, Int.reduceToNat, Int.reduceLE, Int.reduceLT, Int.reduceEq, Int.reduceNeg, reduceCtorEq, ↓reduceIte, ic71, List.replicate_succ, List.replicate_zero]
  (repeat' (first | simp -dsimp (maxSteps := 2000000) (disch := first | omega | (simp; done) | (simp; omega)) only [SA, SB, SC, SD, SE, SF, SG, Nat.reduceLT, Nat.reduceAdd, Nat.reduceSub, Nat.reduceMul, Nat.reduceLeDiff, Nat.reduceEqDiff, Nat.reduceBEq, Int.reduceToNat, Int.reduceLE, Int.reduceLT, Int.reduceEq, Int.reduceNeg, reduceCtorEq, ↓reduceIte] | refine Cut.go ?_ | refine Both.intro ?_ ?_ | refine pass gd27 (indexByte_ok _ _ _) ?_ | (refine Br.intro ?_ ?_ <;> intro hb <;> have hb' := hb <;> (try simp only [SH] at hb') <;> (try simp -dsimp (maxSteps := 2000000) (disch := first | omega | (simp; done) | (simp; omega)) only [SA, SB, SC, SD, SE, SF, SG, Nat.reduceLT, Nat.reduceAdd, Nat.reduceSub, Nat.reduceMul, Nat.reduceLeDiff, Nat.reduceEqDiff, Nat.reduceBEq, Int.reduceToNat, Int.reduceLE, Int.reduceLT, Int.reduceEq, Int.reduceNeg, reduceCtorEq, ↓reduceIte, hb]))))
  all_goals (unfold digitOf; simp only [*, ↓reduceIte, Bool.false_eq_true, Bool.and_self, Bool.and_false, Bool.false_and]; try rfl)
theorem value_call {c : UInt8} {σ : St} {K : Out → St → Prop} (hk : K (.ret (.int .i64 (digitOf c))) σ) : goodFn Try.prog 71 = true ∧ Ok Try.prog 71 [.int .u8 c.toNat] σ K := pass gd71 (value_ok c σ) hk

def readGo (base most : Int) : List UInt8 → Int → Bool → Except Int (Int × Bool)
  | [], n, over => .ok (n, over)
  | c :: r, n, over => if decide (digitOf c < 0) || decide (digitOf c ≥ base) then .error 40 else
    readGo base most r (IntKind.u64.wrap (IntKind.u64.wrap (n * base) + digitOf c)) (over || decide (n > IntKind.u64.wrap ((most - digitOf c).tdiv base)))
/-- What digits of a base say, up to a greatest number. -/
def readF (s : List UInt8) (base most : Int) : Int × Int :=
  if s = [] then (0, 40) else match readGo base most s 0 false with
    | .error e => (0, e)
    | .ok (n, over) => if over then (0, 41) else (n, 0)
theorem drop_at {s : List UInt8} {k : Nat} (h : k < s.length) : s.drop k = s.getD k 0 :: s.drop (k + 1) := by
  rw [List.drop_eq_getElem_cons h]; simp [h]
theorem read_ok (s : List UInt8) (base most : Int) (hbase : 2 ≤ base ∧ base ≤ 16) (hm : 16 ≤ most ∧ most ≤ 18446744073709551615) (hs : s.length ≤ 9223372036854775807) (σ : St) :
    Ok Try.prog 54 [.str s, .int .i64 base, .int .u64 most] σ (fun o s' => s' = σ ∧ o = .ret (.tuple [.int .u64 (readF s base most).1, .int .i64 (readF s base most).2])) := by
  apply en54
  simp -dsimp (maxSteps := 2000000) (disch := first | omega | (simp; done) | (simp; omega)) only [SA, SB, SC, SD, SE, SF, SG, Nat.reduceLT, Nat.reduceAdd, Nat.reduceSub, Nat.reduceMul, Nat.reduceLeDiff, Nat.reduceEqDiff, Nat.reduceBEq, Int.reduceToNat, Int.reduceLE, Int.reduceLT, Int.reduceEq, Int.reduceNeg, reduceCtorEq, ↓reduceIte, ic54, List.replicate_succ, List.replicate_zero]
  (repeat' (first | simp -dsimp (maxSteps := 2000000) (disch := first | omega | (simp; done) | (simp; omega)) only [SA, SB, SC, SD, SE, SF, SG, Nat.reduceLT, Nat.reduceAdd, Nat.reduceSub, Nat.reduceMul, Nat.reduceLeDiff, Nat.reduceEqDiff, Nat.reduceBEq, Int.reduceToNat, Int.reduceLE, Int.reduceLT, Int.reduceEq, Int.reduceNeg, reduceCtorEq, ↓reduceIte] | refine Cut.go ?_ | refine Both.intro ?_ ?_ | (refine Br.intro ?_ ?_ <;> intro hb <;> have hb' := hb <;> (try simp only [SH] at hb') <;> (try simp -dsimp (maxSteps := 2000000) (disch := first | omega | (simp; done) | (simp; omega)) only [SA, SB, SC, SD, SE, SF, SG, Nat.reduceLT, Nat.reduceAdd, Nat.reduceSub, Nat.reduceMul, Nat.reduceLeDiff, Nat.reduceEqDiff, Nat.reduceBEq, Int.reduceToNat, Int.reduceLE, Int.reduceLT, Int.reduceEq, Int.reduceNeg, reduceCtorEq, ↓reduceIte, hb]))))
  · simp only [readF, hb', if_true]
  have hne : s ≠ [] := hb'
  refine loop_go (α := Nat × Int × Bool) (fun a => [.str s, .int .i64 base, .int .u64 most] ++ List.replicate 5 .junk ++ [.int .u64 a.2.1, .bool a.2.2, .junk, .junk, .junk, .junk, .junk, .int .i64 s.length, .int .i64 a.1] ++ List.replicate 35 .junk) (fun _ => σ) (fun a => s.length - a.1) (fun a => a.1 ≤ s.length ∧ readGo base most s 0 false = readGo base most (s.drop a.1) a.2.1 a.2.2) (0, 0, false) ⟨by omega, rfl⟩ (by ((try simp only [List.replicate_succ, List.replicate_zero, List.cons_append, List.nil_append]); repeat' (first | exact trivial | refine ⟨.inl rfl, ?_⟩ | refine ⟨.inr rfl, ?_⟩ | refine ⟨.inr (by simp), ?_⟩))) (Drops.refl _) ?_
  rintro ⟨k, n, over⟩ ⟨hk, hr⟩
  simp only at hk hr
  simp -dsimp (maxSteps := 2000000) (disch := first | omega | (simp; done) | (simp; omega)) only [SA, SB, SC, SD, SE, SF, SG, Nat.reduceLT, Nat.reduceAdd, Nat.reduceSub, Nat.reduceMul, Nat.reduceLeDiff, Nat.reduceEqDiff, Nat.reduceBEq, Int.reduceToNat, Int.reduceLE, Int.reduceLT, Int.reduceEq, Int.reduceNeg, reduceCtorEq, ↓reduceIte, List.replicate_succ, List.replicate_zero]
  (repeat' (first | simp -dsimp (maxSteps := 2000000) (disch := first | omega | (simp; done) | (simp; omega)) only [SA, SB, SC, SD, SE, SF, SG, Nat.reduceLT, Nat.reduceAdd, Nat.reduceSub, Nat.reduceMul, Nat.reduceLeDiff, Nat.reduceEqDiff, Nat.reduceBEq, Int.reduceToNat, Int.reduceLE, Int.reduceLT, Int.reduceEq, Int.reduceNeg, reduceCtorEq, ↓reduceIte] | refine Cut.go ?_ | refine Both.intro ?_ ?_ | refine value_call ?_ | (refine Br.intro ?_ ?_ <;> intro hb <;> have hb' := hb <;> (try simp only [SH] at hb') <;> (try simp -dsimp (maxSteps := 2000000) (disch := first | omega | (simp; done) | (simp; omega)) only [SA, SB, SC, SD, SE, SF, SG, Nat.reduceLT, Nat.reduceAdd, Nat.reduceSub, Nat.reduceMul, Nat.reduceLeDiff, Nat.reduceEqDiff, Nat.reduceBEq, Int.reduceToNat, Int.reduceLE, Int.reduceLT, Int.reduceEq, Int.reduceNeg, reduceCtorEq, ↓reduceIte, hb]))))
  · rw [drop_at (by omega), readGo, if_pos (by simp only [hb, Bool.true_or])] at hr
    simp only [readF, if_neg hne, hr]
  · rw [drop_at (by omega), readGo, if_pos (by simp only [hb, Bool.or_true])] at hr
    simp only [readF, if_neg hne, hr]
  · rw [drop_at (by omega), readGo, if_neg (by simp only [‹decide (digitOf (s.getD k 0) < 0) = false›, ‹decide (digitOf (s.getD k 0) ≥ base) = false›, Bool.or_self, Bool.false_eq_true, not_false_eq_true])] at hr
    exact Round.go (k + 1, IntKind.u64.wrap (IntKind.u64.wrap (n * base) + digitOf (s.getD k 0)), true) (by simp only; omega) ⟨by simp only; omega, by simpa only [hb', Bool.true_or] using hr⟩ (by ((try simp only [List.replicate_succ, List.replicate_zero, List.cons_append, List.nil_append]); repeat' (first | exact trivial | refine ⟨.inl rfl, ?_⟩ | refine ⟨.inr rfl, ?_⟩ | refine ⟨.inr (by simp), ?_⟩))) (Drops.refl _)
  · rw [drop_at (by omega), readGo, if_neg (by simp only [‹decide (digitOf (s.getD k 0) < 0) = false›, ‹decide (digitOf (s.getD k 0) ≥ base) = false›, Bool.or_self, Bool.false_eq_true, not_false_eq_true])] at hr
    exact Round.go (k + 1, IntKind.u64.wrap (IntKind.u64.wrap (n * base) + digitOf (s.getD k 0)), decide (n > IntKind.u64.wrap ((most - digitOf (s.getD k 0)).tdiv base))) (by simp only; omega) ⟨by simp only; omega, by simpa only [hb', Bool.false_or] using hr⟩ (by ((try simp only [List.replicate_succ, List.replicate_zero, List.cons_append, List.nil_append]); repeat' (first | exact trivial | refine ⟨.inl rfl, ?_⟩ | refine ⟨.inr rfl, ?_⟩ | refine ⟨.inr (by simp), ?_⟩))) (Drops.refl _)
  · rw [List.drop_eq_nil_of_le (by omega), readGo] at hr
    simp only [readF, if_neg hne, hr, hb', if_true]
  · rw [List.drop_eq_nil_of_le (by omega), readGo] at hr
    simp only [readF, if_neg hne, hr, hb', Bool.false_eq_true, if_false]

def cutPre (s p : List UInt8) : List UInt8 × Bool := if hasPre s p then (s.drop p.length, true) else (s, false)
theorem cutPrefix80_ok (s p : List UInt8) (σ : St) : Ok Try.prog 80 [.str s, .str p] σ (fun o s' => s' = σ ∧ o = .ret (.tuple [.str (cutPre s p).1, .bool (cutPre s p).2])) := by
  apply en80
  cases hp : hasPre s p with
  | false =>
    simp -dsimp (maxSteps := 2000000) (disch := first | omega | (simp; done) | (simp; omega)) only [SA, SB, SC, SD, SE, SF, SG, Nat.reduceLT, Nat.reduceAdd, Nat.reduceSub, Nat.reduceMul, Nat.reduceLeDiff, Nat.reduceEqDiff, Nat.reduceBEq, Int.reduceToNat, Int.reduceLE, Int.reduceLT, Int.reduceEq, Int.reduceNeg, reduceCtorEq, ↓reduceIte, ic80, List.replicate_succ, List.replicate_zero]
    (repeat' (first | simp -dsimp (maxSteps := 2000000) (disch := first | omega | (simp; done) | (simp; omega)) only [SA, SB, SC, SD, SE, SF, SG, Nat.reduceLT, Nat.reduceAdd, Nat.reduceSub, Nat.reduceMul, Nat.reduceLeDiff, Nat.reduceEqDiff, Nat.reduceBEq, Int.reduceToNat, Int.reduceLE, Int.reduceLT, Int.reduceEq, Int.reduceNeg, reduceCtorEq, ↓reduceIte, hp] | refine Cut.go ?_ | refine Both.intro ?_ ?_ | refine pass gd70 (hasPrefix70_ok _ _ _) ?_ | (refine Br.intro ?_ ?_ <;> intro hb <;> have hb' := hb <;> (try simp only [SH] at hb') <;> (try simp -dsimp (maxSteps := 2000000) (disch := first | omega | (simp; done) | (simp; omega)) only [SA, SB, SC, SD, SE, SF, SG, Nat.reduceLT, Nat.reduceAdd, Nat.reduceSub, Nat.reduceMul, Nat.reduceLeDiff, Nat.reduceEqDiff, Nat.reduceBEq, Int.reduceToNat, Int.reduceLE, Int.reduceLT, Int.reduceEq, Int.reduceNeg, reduceCtorEq, ↓reduceIte, hb, hp]))))
    all_goals simp only [cutPre, hp, Bool.false_eq_true, if_false]
  | true =>
    have hl : p.length ≤ s.length := by
      have := hp
      simp only [hasPre, Bool.and_eq_true, decide_eq_true_eq] at this
      omega
    simp -dsimp (maxSteps := 2000000) (disch := first | omega | (simp; done) | (simp; omega)) only [SA, SB, SC, SD, SE, SF, SG, Nat.reduceLT, Nat.reduceAdd, Nat.reduceSub, Nat.reduceMul, Nat.reduceLeDiff, Nat.reduceEqDiff, Nat.reduceBEq, Int.reduceToNat, Int.reduceLE, Int.reduceLT, Int.reduceEq, Int.reduceNeg, reduceCtorEq, ↓reduceIte, ic80, List.replicate_succ, List.replicate_zero]
    (repeat' (first | simp -dsimp (maxSteps := 2000000) (disch := first | omega | (simp; done) | (simp; omega)) only [SA, SB, SC, SD, SE, SF, SG, Nat.reduceLT, Nat.reduceAdd, Nat.reduceSub, Nat.reduceMul, Nat.reduceLeDiff, Nat.reduceEqDiff, Nat.reduceBEq, Int.reduceToNat, Int.reduceLE, Int.reduceLT, Int.reduceEq, Int.reduceNeg, reduceCtorEq, ↓reduceIte, hp] | refine Cut.go ?_ | refine Both.intro ?_ ?_ | refine pass gd70 (hasPrefix70_ok _ _ _) ?_ | (refine Br.intro ?_ ?_ <;> intro hb <;> have hb' := hb <;> (try simp only [SH] at hb') <;> (try simp -dsimp (maxSteps := 2000000) (disch := first | omega | (simp; done) | (simp; omega)) only [SA, SB, SC, SD, SE, SF, SG, Nat.reduceLT, Nat.reduceAdd, Nat.reduceSub, Nat.reduceMul, Nat.reduceLeDiff, Nat.reduceEqDiff, Nat.reduceBEq, Int.reduceToNat, Int.reduceLE, Int.reduceLT, Int.reduceEq, Int.reduceNeg, reduceCtorEq, ↓reduceIte, hb, hp]))))
    all_goals simp only [cutPre, hp, if_true]
theorem cutPrefix_ok (s p : List UInt8) (σ : St) : Ok Try.prog 74 [.str s, .str p] σ (fun o s' => s' = σ ∧ o = .ret (.tuple [.str (cutPre s p).1, .bool (cutPre s p).2])) := by
  apply en74
  simp -dsimp (maxSteps := 2000000) (disch := first | omega | (simp; done) | (simp; omega)) only [SA, SB, SC, SD, SE, SF, SG, Nat.reduceLT, Nat.reduceAdd, Nat.reduceSub, Nat.reduceMul, Nat.reduceLeDiff, Nat.reduceEqDiff, Nat.reduceBEq, Int.reduceToNat, Int.reduceLE, Int.reduceLT, Int.reduceEq, Int.reduceNeg, reduceCtorEq, ↓reduceIte, ic74, List.replicate_succ, List.replicate_zero]
  (repeat' (first | simp -dsimp (maxSteps := 2000000) (disch := first | omega | (simp; done) | (simp; omega)) only [SA, SB, SC, SD, SE, SF, SG, Nat.reduceLT, Nat.reduceAdd, Nat.reduceSub, Nat.reduceMul, Nat.reduceLeDiff, Nat.reduceEqDiff, Nat.reduceBEq, Int.reduceToNat, Int.reduceLE, Int.reduceLT, Int.reduceEq, Int.reduceNeg, reduceCtorEq, ↓reduceIte] | refine Cut.go ?_ | refine Both.intro ?_ ?_ | refine pass gd80 (cutPrefix80_ok _ _ _) ?_ | (refine Br.intro ?_ ?_ <;> intro hb <;> have hb' := hb <;> (try simp only [SH] at hb') <;> (try simp -dsimp (maxSteps := 2000000) (disch := first | omega | (simp; done) | (simp; omega)) only [SA, SB, SC, SD, SE, SF, SG, Nat.reduceLT, Nat.reduceAdd, Nat.reduceSub, Nat.reduceMul, Nat.reduceLeDiff, Nat.reduceEqDiff, Nat.reduceBEq, Int.reduceToNat, Int.reduceLE, Int.reduceLT, Int.reduceEq, Int.reduceNeg, reduceCtorEq, ↓reduceIte, hb]))))

def decimalF (s : List UInt8) : Int × Int :=
  if (cutPre s [45]).2 then (IntKind.i64.wrap (IntKind.u64.wrap (0 - (readF (cutPre s [45]).1 10 9223372036854775808).1)), (readF (cutPre s [45]).1 10 9223372036854775808).2)
  else (IntKind.i64.wrap (readF (cutPre s [43]).1 10 9223372036854775807).1, (readF (cutPre s [43]).1 10 9223372036854775807).2)
theorem cutPre_len (s p : List UInt8) : (cutPre s p).1.length ≤ s.length := by
  unfold cutPre; split <;> simp
theorem decimal_ok (s : List UInt8) (hs : s.length ≤ 9223372036854775807) (σ : St) : Ok Try.prog 60 [.str s] σ (fun o s' => s' = σ ∧ o = .ret (.tuple [.int .i64 (decimalF s).1, .int .i64 (decimalF s).2])) := by
  apply en60
  have h1 := cutPre_len s [45]
  have h2 := cutPre_len s [43]
  simp -dsimp (maxSteps := 2000000) (disch := first | omega | (simp; done) | (simp; omega)) only [SA, SB, SC, SD, SE, SF, SG, Nat.reduceLT, Nat.reduceAdd, Nat.reduceSub, Nat.reduceMul, Nat.reduceLeDiff, Nat.reduceEqDiff, Nat.reduceBEq, Int.reduceToNat, Int.reduceLE, Int.reduceLT, Int.reduceEq, Int.reduceNeg, reduceCtorEq, ↓reduceIte, ic60, List.replicate_succ, List.replicate_zero]
  (repeat' (first | simp -dsimp (maxSteps := 2000000) (disch := first | omega | (simp; done) | (simp; omega)) only [SA, SB, SC, SD, SE, SF, SG, Nat.reduceLT, Nat.reduceAdd, Nat.reduceSub, Nat.reduceMul, Nat.reduceLeDiff, Nat.reduceEqDiff, Nat.reduceBEq, Int.reduceToNat, Int.reduceLE, Int.reduceLT, Int.reduceEq, Int.reduceNeg, reduceCtorEq, ↓reduceIte] | refine Cut.go ?_ | refine Both.intro ?_ ?_ | refine pass gd74 (cutPrefix_ok _ _ _) ?_ | refine pass gd54 (read_ok _ _ _ (by omega) (by omega) (by omega) _) ?_ | (refine Br.intro ?_ ?_ <;> intro hb <;> have hb' := hb <;> (try simp only [SH] at hb') <;> (try simp -dsimp (maxSteps := 2000000) (disch := first | omega | (simp; done) | (simp; omega)) only [SA, SB, SC, SD, SE, SF, SG, Nat.reduceLT, Nat.reduceAdd, Nat.reduceSub, Nat.reduceMul, Nat.reduceLeDiff, Nat.reduceEqDiff, Nat.reduceBEq, Int.reduceToNat, Int.reduceLE, Int.reduceLT, Int.reduceEq, Int.reduceNeg, reduceCtorEq, ↓reduceIte, hb]))))
  all_goals simp only [decimalF, hb', if_true, Bool.false_eq_true, if_false]
theorem decimal_call {s : List UInt8} {σ : St} {K : Out → St → Prop} (hs : s.length ≤ 9223372036854775807) (hk : K (.ret (.tuple [.int .i64 (decimalF s).1, .int .i64 (decimalF s).2])) σ) : goodFn Try.prog 60 = true ∧ Ok Try.prog 60 [.str s] σ K := pass gd60 (decimal_ok s hs σ) hk
end Go.Proofs.Ytkjgadanaknleaa
