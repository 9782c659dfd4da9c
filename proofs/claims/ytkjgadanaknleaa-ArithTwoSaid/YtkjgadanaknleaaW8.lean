/-
  THE WALKS, PART 8: how a number is written.
-/
import Derived.Test.YtkjgadanaknleaaW4
namespace Go.Proofs.Ytkjgadanaknleaa
open Go Go.Id
set_option linter.unusedSimpArgs false
set_option linter.unusedVariables false
set_option maxRecDepth 100000
set_option maxHeartbeats 4000000

def digB (i : Nat) : UInt8 := digs.getD i 0
/-- A number's digits, put ahead of what there is already. -/
def baseA (b : Nat) : Nat → Nat → List UInt8 → List UInt8
  | 0, _, acc => acc
  | f + 1, n, acc => if n / b = 0 then digB (n % b) :: acc else baseA b f (n / b) (digB (n % b) :: acc)
def baseF (b n : Nat) : List UInt8 := baseA b 64 n []
def byD (x : UInt8) : D := .int .u8 x.toNat

structure BaseS where
  n : Nat
  c : List D
  at' : Nat
  first : Bool
  acc : List UInt8
theorem put_alloc (σ : St) (x : Ob) (y : Option Ob) : ((σ.alloc x).put σ.next y) = ⟨fun i => if i = σ.next then y else σ.obj i, σ.next + 1⟩ := by
  simp only [St.put, St.alloc, St.mk.injEq, and_true]
  funext i
  by_cases h : i = σ.next <;> simp [h]
theorem alloc_eq (σ : St) (x : Ob) : σ.alloc x = ⟨fun i => if i = σ.next then some x else σ.obj i, σ.next + 1⟩ := rfl
theorem bytes_of (acc : List UInt8) : bytesOf (acc.map byD) = some acc := by
  induction acc with
  | nil => rfl
  | cons a l ih => simp only [List.map_cons, byD, bytesOf] at ih ⊢; rw [ih]; simp
theorem byD_dc (x : UInt8) : dcells (byD x) = some [byD x] := rfl
theorem base_dig (n b : Nat) (hb2 : 2 ≤ b) (hb16 : b ≤ 16) : idxStr (.str [48, 49, 50, 51, 52, 53, 54, 55, 56, 57, 97, 98, 99, 100, 101, 102]) (.int .u64 ((n : Int).tmod b)) = some (byD (digB (n % b))) := by
  have h : n % b < 16 := by have := Nat.mod_lt n (show b > 0 by omega); omega
  have e : ((n : Int).tmod b) = ((n % b : Nat) : Int) := rfl
  rw [e, idxStr_at _ _ _ ⟨by omega, by simp; omega⟩]
  rfl
theorem base_addr (j k : Nat) (h1 : 1 ≤ k) (h2 : k ≤ 64) : idxAddrA 64 1 (.ref j 0) (.int .i64 ((k - 1 : Nat) : Int)) = some (.ref j (k - 1)) := by
  simp only [idxAddrA]
  rw [if_pos (by omega)]
  simp
theorem base_store (σ : St) (c : List D) (k : Nat) (x : UInt8) (h : k < c.length) : istore 1 (.ref σ.next k) (byD x) (σ.alloc (.cells c)) = some (σ.alloc (.cells (c.set k (byD x)))) := by
  rw [st_ref, alloc_obj, if_pos rfl, byD_dc, stO_some c [byD x] 1 σ.next k ⟨rfl, by simp; omega⟩, put_alloc, alloc_eq]
  rfl
theorem base_slice (j k : Nat) (h : k < 64) : isliceArr 64 1 (.ref j 0) (some (.int .i64 k)) none = some (.rslc j k 1 (64 - k) .closed) := by
  simp only [isliceArr, ibound]
  rw [if_pos (by omega)]
  simp [h]
theorem base_bytes (σ : St) (c : List D) (k : Nat) (acc : List UInt8) (h : c.drop k = acc.map byD) (hc : c.length = 64) (hk : k ≤ 64) : ibytesStr (.rslc σ.next k 1 (64 - k) .closed) (σ.alloc (.cells c)) = some (.str acc) := by
  simp only [ibytesStr, if_true, alloc_obj]
  rw [if_pos (by omega), h, List.take_of_length_le (by rw [← h, List.length_drop]; omega), bytes_of]; rfl
theorem base_ok (n₀ b : Nat) (hn : n₀ ≤ 18446744073709551615) (hb2 : 2 ≤ b) (hb16 : b ≤ 16) (σ : St) : Ok Try.prog 75 [.int .u64 n₀, .int .i64 b] σ (fun o s' => ∃ m, σ.next ≤ m ∧ s' = ⟨σ.obj, m⟩ ∧ o = .ret (.str (baseF b n₀))) := by
  refine Ok.fresh fun hf => Ok.drop ?_
  apply en75
  have e1 : decide ((b : Int) < 2) = false := by simp; omega
  have e2 : decide ((b : Int) > 16) = false := by simp; omega
  simp -dsimp (maxSteps := 2000000) (disch := first | omega | (simp; done) | (simp; omega)) only [SA, SB, SC, SD, SE, SF, SG, Nat.reduceLT, Nat.reduceAdd, Nat.reduceSub, Nat.reduceMul, Nat.reduceLeDiff, Nat.reduceEqDiff, Nat.reduceBEq, Int.reduceToNat, Int.reduceLE, Int.reduceLT, Int.reduceEq, Int.reduceNeg, reduceCtorEq, ↓reduceIte, ic75, List.replicate_succ, List.replicate_zero]
  (repeat' (first | simp -dsimp (maxSteps := 2000000) (disch := first | omega | (simp; done) | (simp; omega)) only [SA, SB, SC, SD, SE, SF, SG, Nat.reduceLT, Nat.reduceAdd, Nat.reduceSub, Nat.reduceMul, Nat.reduceLeDiff, Nat.reduceEqDiff, Nat.reduceBEq, Int.reduceToNat, Int.reduceLE, Int.reduceLT, Int.reduceEq, Int.reduceNeg, reduceCtorEq, ↓reduceIte, e1, e2] | refine Cut.go ?_ | refine Both.intro ?_ ?_ | (refine Br.intro ?_ ?_ <;> intro hb <;> have hb' := hb <;> (try simp only [SH] at hb') <;> (try simp -dsimp (maxSteps := 2000000) (disch := first | omega | (simp; done) | (simp; omega)) only [SA, SB, SC, SD, SE, SF, SG, Nat.reduceLT, Nat.reduceAdd, Nat.reduceSub, Nat.reduceMul, Nat.reduceLeDiff, Nat.reduceEqDiff, Nat.reduceBEq, Int.reduceToNat, Int.reduceLE, Int.reduceLT, Int.reduceEq, Int.reduceNeg, reduceCtorEq, ↓reduceIte, hb, e1, e2]))))
  refine loop_go (fun a : BaseS => [.int .u64 a.n, .int .i64 b, .junk, .junk, .str [], .ref σ.next 0, .int .i64 a.at', .bool a.first] ++ List.replicate 27 .junk) (fun a => σ.alloc (.cells a.c)) (fun a => a.at')
    (fun a : BaseS => a.c.length = 64 ∧ a.c.drop a.at' = a.acc.map byD ∧ a.acc.length + a.at' = 64 ∧ a.n * 2 ^ a.acc.length ≤ 18446744073709551615 ∧ (a.first = true ↔ a.acc = []) ∧ baseF b n₀ = (if a.first = false ∧ a.n = 0 then a.acc else baseA b a.at' a.n a.acc))
    ⟨n₀, List.replicate 64 (.int .u8 0), 64, true, []⟩ ⟨rfl, rfl, rfl, by simpa using hn, by simp, by simp [baseF]⟩ (by ((try simp only [List.replicate_succ, List.replicate_zero, List.cons_append, List.nil_append]); repeat' (first | exact trivial | refine ⟨.inl rfl, ?_⟩ | refine ⟨.inr rfl, ?_⟩ | refine ⟨.inr (by simp), ?_⟩))) (Drops.refl _) ?_
  rintro ⟨n, c, at', first, acc⟩ ⟨i1, i2, i3, i4, i5, i6⟩
  simp only [] at i1 i2 i3 i4 i5 i6 ⊢
  have hdig := base_dig n b hb2 hb16
  have hgo : (first = true ∨ n > 0) → 1 ≤ at' := by
    rintro (h | h)
    · have := i5.1 h; subst this; simp at i3; omega
    · rcases Nat.lt_or_ge 0 at' with h2 | h2
      · exact h2
      · have : acc.length = 64 := by omega
        rw [this] at i4; omega
  have hq : ((n : Int).tdiv b) = ((n / b : Nat) : Int) := rfl
  have hq2 : n / b ≤ n := Nat.div_le_self _ _
  have hn2 : n ≤ 18446744073709551615 := Nat.le_trans (Nat.le_mul_of_pos_right n (Nat.pow_pos (by omega))) i4
  have next : 1 ≤ at' → (first = false → n ≠ 0) → (fun a : BaseS => a.c.length = 64 ∧ a.c.drop a.at' = a.acc.map byD ∧ a.acc.length + a.at' = 64 ∧ a.n * 2 ^ a.acc.length ≤ 18446744073709551615 ∧ (a.first = true ↔ a.acc = []) ∧ baseF b n₀ = (if a.first = false ∧ a.n = 0 then a.acc else baseA b a.at' a.n a.acc))
      ⟨n / b, c.set (at' - 1) (byD (digB (n % b))), at' - 1, false, digB (n % b) :: acc⟩ := by
    intro h1 h2
    refine ⟨by simpa using i1, ?_, by simp; omega, ?_, by simp, ?_⟩
    · simp only []
      rw [List.drop_eq_getElem_cons (by simp; omega), List.getElem_set_self, show at' - 1 + 1 = at' by omega, List.drop_set_of_lt (by omega), i2]; rfl
    · simp only [List.length_cons, Nat.pow_succ]
      have h3 : n / b * 2 ≤ n := by
        have := Nat.div_mul_le_self n b
        have := Nat.mul_le_mul_left (n / b) hb2
        omega
      calc n / b * (2 ^ acc.length * 2) = n / b * 2 * 2 ^ acc.length := by rw [Nat.mul_comm (2 ^ acc.length), Nat.mul_assoc]
        _ ≤ n * 2 ^ acc.length := Nat.mul_le_mul_right _ h3
        _ ≤ _ := i4
    · rw [i6, if_neg (by rintro ⟨h3, h4⟩; exact h2 h3 h4)]
      obtain ⟨k, rfl⟩ : ∃ k, at' = k + 1 := ⟨at' - 1, by omega⟩
      simp only [baseA, Nat.add_sub_cancel, true_and]
  simp -dsimp (maxSteps := 2000000) (disch := first | omega | (simp; done) | (simp; omega)) only [SA, SB, SC, SD, SE, SF, SG, Nat.reduceLT, Nat.reduceAdd, Nat.reduceSub, Nat.reduceMul, Nat.reduceLeDiff, Nat.reduceEqDiff, Nat.reduceBEq, Int.reduceToNat, Int.reduceLE, Int.reduceLT, Int.reduceEq, Int.reduceNeg, reduceCtorEq, ↓reduceIte, List.replicate_succ, List.replicate_zero]
  (repeat' (first | simp -dsimp (maxSteps := 2000000) (disch := first | omega | (simp; done) | (simp; omega)) only [SA, SB, SC, SD, SE, SF, SG, Nat.reduceLT, Nat.reduceAdd, Nat.reduceSub, Nat.reduceMul, Nat.reduceLeDiff, Nat.reduceEqDiff, Nat.reduceBEq, Int.reduceToNat, Int.reduceLE, Int.reduceLT, Int.reduceEq, Int.reduceNeg, reduceCtorEq, ↓reduceIte, hdig] | refine Cut.go ?_ | refine Both.intro ?_ ?_ | (refine Br.intro ?_ ?_ <;> intro hb <;> have hb' := hb <;> (try simp only [SH] at hb') <;> (try simp -dsimp (maxSteps := 2000000) (disch := first | omega | (simp; done) | (simp; omega)) only [SA, SB, SC, SD, SE, SF, SG, Nat.reduceLT, Nat.reduceAdd, Nat.reduceSub, Nat.reduceMul, Nat.reduceLeDiff, Nat.reduceEqDiff, Nat.reduceBEq, Int.reduceToNat, Int.reduceLE, Int.reduceLT, Int.reduceEq, Int.reduceNeg, reduceCtorEq, ↓reduceIte, hb, hdig]))))
  rotate_right
  · rename_i g1 g2
    have hn0 : n = 0 := by omega
    have hne : acc ≠ [] := fun h => by rw [i5.2 h] at g1; cases g1
    have hat : at' < 64 := by
      have : acc.length ≠ 0 := by simpa using hne
      omega
    have hbs := base_slice σ.next at' hat
    have hbb := base_bytes σ c at' acc i2 i1 (by omega)
    (repeat' (first | simp -dsimp (maxSteps := 2000000) (disch := first | omega | (simp; done) | (simp; omega)) only [SA, SB, SC, SD, SE, SF, SG, Nat.reduceLT, Nat.reduceAdd, Nat.reduceSub, Nat.reduceMul, Nat.reduceLeDiff, Nat.reduceEqDiff, Nat.reduceBEq, Int.reduceToNat, Int.reduceLE, Int.reduceLT, Int.reduceEq, Int.reduceNeg, reduceCtorEq, ↓reduceIte, hbs, hbb] | refine Cut.go ?_ | refine Both.intro ?_ ?_ | (refine Br.intro ?_ ?_ <;> intro hb <;> have hb' := hb <;> (try simp only [SH] at hb') <;> (try simp -dsimp (maxSteps := 2000000) (disch := first | omega | (simp; done) | (simp; omega)) only [SA, SB, SC, SD, SE, SF, SG, Nat.reduceLT, Nat.reduceAdd, Nat.reduceSub, Nat.reduceMul, Nat.reduceLeDiff, Nat.reduceEqDiff, Nat.reduceBEq, Int.reduceToNat, Int.reduceLE, Int.reduceLT, Int.reduceEq, Int.reduceNeg, reduceCtorEq, ↓reduceIte, hb, hbs, hbb]))))
    refine ⟨⟨σ.obj, σ.next + 1⟩, ⟨Nat.le_refl _, fun i => ?_⟩, σ.next + 1, by omega, rfl, ?_⟩
    · by_cases h : i = σ.next
      · left; subst h; exact hf _ (Nat.le_refl _)
      · right; rw [alloc_obj, if_neg h]
    · rw [i6, if_pos ⟨g1, hn0⟩]
  all_goals
    have h1 := hgo (by first | exact .inl hb' | (right; omega))
    have had := base_addr σ.next at' h1 (by omega)
    have hst := base_store σ c (at' - 1) (digB (n % b)) (by omega)
    have hat : ((at' : Int) - 1) = ((at' - 1 : Nat) : Int) := by omega
    have hq3 : IntKind.u64.wrap ((n : Int).tdiv b) = ((n / b : Nat) : Int) := by
      rw [hq]; exact wru64 _ ⟨Int.natCast_nonneg _, by have h9 : ((n / b : Nat) : Int) ≤ ((18446744073709551615 : Nat) : Int) := Int.ofNat_le.2 (Nat.le_trans hq2 hn2); simpa using h9⟩
    have hat2 : IntKind.i64.wrap ((at' - 1 : Nat) : Int) = ((at' - 1 : Nat) : Int) := wr64 _ (by omega)
    (repeat' (first | simp -dsimp (maxSteps := 2000000) (disch := first | omega | (simp; done) | (simp; omega)) only [SA, SB, SC, SD, SE, SF, SG, Nat.reduceLT, Nat.reduceAdd, Nat.reduceSub, Nat.reduceMul, Nat.reduceLeDiff, Nat.reduceEqDiff, Nat.reduceBEq, Int.reduceToNat, Int.reduceLE, Int.reduceLT, Int.reduceEq, Int.reduceNeg, reduceCtorEq, ↓reduceIte, hat, hat2, had, hst, hq3] | refine Cut.go ?_ | refine Both.intro ?_ ?_ | (refine Br.intro ?_ ?_ <;> intro hb <;> have hb' := hb <;> (try simp only [SH] at hb') <;> (try simp -dsimp (maxSteps := 2000000) (disch := first | omega | (simp; done) | (simp; omega)) only [SA, SB, SC, SD, SE, SF, SG, Nat.reduceLT, Nat.reduceAdd, Nat.reduceSub, Nat.reduceMul, Nat.reduceLeDiff, Nat.reduceEqDiff, Nat.reduceBEq, Int.reduceToNat, Int.reduceLE, Int.reduceLT, Int.reduceEq, Int.reduceNeg, reduceCtorEq, ↓reduceIte, hb, hat, hat2, had, hst, hq3]))))
    refine Round.go _ ?_ (next h1 (by intro h; first | omega | simp_all)) (by ((try simp only [List.replicate_succ, List.replicate_zero, List.cons_append, List.nil_append]); repeat' (first | exact trivial | refine ⟨.inl rfl, ?_⟩ | refine ⟨.inr rfl, ?_⟩ | refine ⟨.inr (by simp), ?_⟩))) (Drops.refl _)
    show at' - 1 < at'
    omega
theorem base_call {n b : Nat} {σ : St} {K : Out → St → Prop} (hn : n ≤ 18446744073709551615) (hb2 : 2 ≤ b) (hb16 : b ≤ 16) (hk : ∀ m, σ.next ≤ m → K (.ret (.str (baseF b n))) ⟨σ.obj, m⟩) :
    goodFn Try.prog 75 = true ∧ Ok Try.prog 75 [.int .u64 n, .int .i64 b] σ K := ⟨gd75, (base_ok n b hn hb2 hb16 σ).mono fun o s ⟨m, h1, h2, h3⟩ => by subst h2; subst h3; exact hk m h1⟩
/-- How a number is written. -/
def textF (n : Int) : List UInt8 := if n < 0 then 45 :: baseF 10 n.natAbs else baseF 10 n.natAbs
theorem baseA_len (b : Nat) : ∀ (f n : Nat) (acc : List UInt8), (baseA b f n acc).length ≤ f + acc.length
  | 0, n, acc => by simp [baseA]
  | f + 1, n, acc => by
    rw [baseA]; split
    · simp; omega
    · have := baseA_len b f (n / b) (digB (n % b) :: acc); simp at this; omega
theorem baseF_len (b n : Nat) : (baseF b n).length ≤ 64 := by have := baseA_len b 64 n []; simpa [baseF] using this
theorem text_ok (n : Int) (h : -9223372036854775808 ≤ n ∧ n ≤ 9223372036854775807) (σ : St) : Ok Try.prog 62 [.int .i64 n] σ (fun o s' => ∃ m, σ.next ≤ m ∧ s' = ⟨σ.obj, m⟩ ∧ o = .ret (.str (textF n))) := by
  apply en62
  simp -dsimp (maxSteps := 2000000) (disch := first | omega | (simp; done) | (simp; omega)) only [SA, SB, SC, SD, SE, SF, SG, Nat.reduceLT, Nat.reduceAdd, Nat.reduceSub, Nat.reduceMul, Nat.reduceLeDiff, Nat.reduceEqDiff, Nat.reduceBEq, Int.reduceToNat, Int.reduceLE, Int.reduceLT, Int.reduceEq, Int.reduceNeg, reduceCtorEq, ↓reduceIte, ic62, List.replicate_succ, List.replicate_zero]
  (repeat' (first | simp -dsimp (maxSteps := 2000000) (disch := first | omega | (simp; done) | (simp; omega)) only [SA, SB, SC, SD, SE, SF, SG, Nat.reduceLT, Nat.reduceAdd, Nat.reduceSub, Nat.reduceMul, Nat.reduceLeDiff, Nat.reduceEqDiff, Nat.reduceBEq, Int.reduceToNat, Int.reduceLE, Int.reduceLT, Int.reduceEq, Int.reduceNeg, reduceCtorEq, ↓reduceIte] | refine Cut.go ?_ | refine Both.intro ?_ ?_ | (refine Br.intro ?_ ?_ <;> intro hb <;> have hb' := hb <;> (try simp only [SH] at hb') <;> (try simp -dsimp (maxSteps := 2000000) (disch := first | omega | (simp; done) | (simp; omega)) only [SA, SB, SC, SD, SE, SF, SG, Nat.reduceLT, Nat.reduceAdd, Nat.reduceSub, Nat.reduceMul, Nat.reduceLeDiff, Nat.reduceEqDiff, Nat.reduceBEq, Int.reduceToNat, Int.reduceLE, Int.reduceLT, Int.reduceEq, Int.reduceNeg, reduceCtorEq, ↓reduceIte, hb]))))
  · have e : (0 - (n + 1) + 1 : Int) = ((n.natAbs : Nat) : Int) := by omega
    rw [e]
    refine base_call (b := 10) (by omega) (by decide) (by decide) fun m hm => ?_
    have hl := baseF_len 10 n.natAbs
    (repeat' (first | simp -dsimp (maxSteps := 2000000) (disch := first | omega | (simp; done) | (simp; omega)) only [SA, SB, SC, SD, SE, SF, SG, Nat.reduceLT, Nat.reduceAdd, Nat.reduceSub, Nat.reduceMul, Nat.reduceLeDiff, Nat.reduceEqDiff, Nat.reduceBEq, Int.reduceToNat, Int.reduceLE, Int.reduceLT, Int.reduceEq, Int.reduceNeg, reduceCtorEq, ↓reduceIte] | refine Cut.go ?_ | refine Both.intro ?_ ?_ | (refine Br.intro ?_ ?_ <;> intro hb <;> have hb' := hb <;> (try simp only [SH] at hb') <;> (try simp -dsimp (maxSteps := 2000000) (disch := first | omega | (simp; done) | (simp; omega)) only [SA, SB, SC, SD, SE, SF, SG, Nat.reduceLT, Nat.reduceAdd, Nat.reduceSub, Nat.reduceMul, Nat.reduceLeDiff, Nat.reduceEqDiff, Nat.reduceBEq, Int.reduceToNat, Int.reduceLE, Int.reduceLT, Int.reduceEq, Int.reduceNeg, reduceCtorEq, ↓reduceIte, hb]))))
    exact ⟨m, hm, rfl, by rw [textF, if_pos hb']⟩
  · have e : n = ((n.natAbs : Nat) : Int) := by omega
    have e2 : ∀ K : Out → St → Prop, goodFn Try.prog 75 = true ∧ Ok Try.prog 75 [D.int IntKind.u64 (n.natAbs : Nat), D.int IntKind.i64 10] σ K → goodFn Try.prog 75 = true ∧ Ok Try.prog 75 [D.int IntKind.u64 n, D.int IntKind.i64 10] σ K := fun K h => by rw [e]; exact h
    refine e2 _ (base_call (b := 10) (by omega) (by decide) (by decide) fun m hm => ?_)
    (repeat' (first | simp -dsimp (maxSteps := 2000000) (disch := first | omega | (simp; done) | (simp; omega)) only [SA, SB, SC, SD, SE, SF, SG, Nat.reduceLT, Nat.reduceAdd, Nat.reduceSub, Nat.reduceMul, Nat.reduceLeDiff, Nat.reduceEqDiff, Nat.reduceBEq, Int.reduceToNat, Int.reduceLE, Int.reduceLT, Int.reduceEq, Int.reduceNeg, reduceCtorEq, ↓reduceIte] | refine Cut.go ?_ | refine Both.intro ?_ ?_ | (refine Br.intro ?_ ?_ <;> intro hb <;> have hb' := hb <;> (try simp only [SH] at hb') <;> (try simp -dsimp (maxSteps := 2000000) (disch := first | omega | (simp; done) | (simp; omega)) only [SA, SB, SC, SD, SE, SF, SG, Nat.reduceLT, Nat.reduceAdd, Nat.reduceSub, Nat.reduceMul, Nat.reduceLeDiff, Nat.reduceEqDiff, Nat.reduceBEq, Int.reduceToNat, Int.reduceLE, Int.reduceLT, Int.reduceEq, Int.reduceNeg, reduceCtorEq, ↓reduceIte, hb]))))
    exact ⟨m, hm, rfl, by rw [textF, if_neg hb']⟩
theorem text_call {n : Int} {σ : St} {K : Out → St → Prop} (h : -9223372036854775808 ≤ n ∧ n ≤ 9223372036854775807) (hk : ∀ m, σ.next ≤ m → K (.ret (.str (textF n))) ⟨σ.obj, m⟩) :
    goodFn Try.prog 62 = true ∧ Ok Try.prog 62 [.int .i64 n] σ K := ⟨gd62, (text_ok n h σ).mono fun o s ⟨m, h1, h2, h3⟩ => by subst h2; subst h3; exact hk m h1⟩
end Go.Proofs.Ytkjgadanaknleaa
