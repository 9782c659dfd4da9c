/-
  THE WALKS, layer 13, PART 21: the fields' texts.
-/
import Derived.Test.YthiidchbaicfgaaGreatDoorZL
namespace Go.Proofs.YthiidchbaicfgaaGreatDoor
open Go Go.Id
set_option linter.unusedSimpArgs false
set_option linter.unusedVariables false
set_option maxRecDepth 100000
set_option maxHeartbeats 8000000

theorem clo32 (s : List UInt8) (σ : St) : Ok Tryz.prog 32 [.str s] σ (fun o t => o = .ret (.bool (decide (4096 < s.length))) ∧ t = σ) := by
  have e : (decide ((s.length : Int) > 4096)) = decide (4096 < s.length) := by congr 1; simp; omega
  apply en32
  simp -dsimp (maxSteps := 2000000) (disch := first | omega | (simp; done) | (simp; omega)) only [SA, SB, SC, SD, SE, SF, SG, SI, Nat.reduceLT, Nat.reduceAdd, Nat.reduceSub, Nat.reduceMul, Nat.reduceLeDiff, Nat.reduceEqDiff, Nat.reduceBEq, Int.reduceToNat, Int.reduceLE, Int.reduceLT, Int.reduceEq, Int.reduceNeg, reduceCtorEq, ↓reduceIte, ic32, List.replicate_succ, List.replicate_zero]
  (repeat' (first | simp -dsimp (maxSteps := 2000000) (disch := first | omega | (simp; done) | (simp; omega)) only [SA, SB, SC, SD, SE, SF, SG, SI, Nat.reduceLT, Nat.reduceAdd, Nat.reduceSub, Nat.reduceMul, Nat.reduceLeDiff, Nat.reduceEqDiff, Nat.reduceBEq, Int.reduceToNat, Int.reduceLE, Int.reduceLT, Int.reduceEq, Int.reduceNeg, reduceCtorEq, ↓reduceIte, e] | refine Cut.go ?_ | refine Both.intro ?_ ?_ | (refine Br.intro ?_ ?_ <;> intro hb <;> have hb' := hb <;> (try simp only [SH] at hb') <;> (try simp -dsimp (maxSteps := 2000000) (disch := first | omega | (simp; done) | (simp; omega)) only [SA, SB, SC, SD, SE, SF, SG, SI, Nat.reduceLT, Nat.reduceAdd, Nat.reduceSub, Nat.reduceMul, Nat.reduceLeDiff, Nat.reduceEqDiff, Nat.reduceBEq, Int.reduceToNat, Int.reduceLE, Int.reduceLT, Int.reduceEq, Int.reduceNeg, reduceCtorEq, ↓reduceIte, hb, e]))))
/-- Texts. -/
inductive Strs : D → List (List UInt8) → Prop
  | snil : Strs .nils []
  | ssome (l : List (List UInt8)) (r : Room) : Strs (.slc 1 (l.map .str) r) l
theorem Strs.len {x : D} {l : List (List UInt8)} (h : Strs x l) : ilen x = some (.int .i64 l.length) := by cases h <;> simp [ilen]
theorem Strs.at {x : D} {l : List (List UInt8)} (h : Strs x l) {i : Nat} (hi : i < l.length) : idxAddrS 1 x (.int .i64 i) = some (.box [.str l[i]] 0) := by
  cases h with
  | snil => simp at hi
  | ssome l r => simp [idxAddrS, hi, dcells, scal]
def tooLong (l : List (List UInt8)) : Bool := l.any fun s => decide (4096 < s.length)
theorem idxf55 {x : D} {l : List (List UInt8)} (hx : Strs x l) (hl : l.length ≤ 1000000) (σ : St) : Ok Tryz.prog 55 [x, .func (.func 32) [] []] σ (fun o s => (∃ n : Int, o = .ret (.int .i64 n) ∧ decide (n ≥ 0) = tooLong l) ∧ s = σ) := by
  have hlx := hx.len
  apply en55
  simp -dsimp (maxSteps := 2000000) (disch := first | omega | (simp; done) | (simp; omega)) only [SA, SB, SC, SD, SE, SF, SG, SI, Nat.reduceLT, Nat.reduceAdd, Nat.reduceSub, Nat.reduceMul, Nat.reduceLeDiff, Nat.reduceEqDiff, Nat.reduceBEq, Int.reduceToNat, Int.reduceLE, Int.reduceLT, Int.reduceEq, Int.reduceNeg, reduceCtorEq, ↓reduceIte, ic55, List.replicate_succ, List.replicate_zero]
  (repeat' (first | simp -dsimp (maxSteps := 2000000) (disch := first | omega | (simp; done) | (simp; omega)) only [SA, SB, SC, SD, SE, SF, SG, SI, Nat.reduceLT, Nat.reduceAdd, Nat.reduceSub, Nat.reduceMul, Nat.reduceLeDiff, Nat.reduceEqDiff, Nat.reduceBEq, Int.reduceToNat, Int.reduceLE, Int.reduceLT, Int.reduceEq, Int.reduceNeg, reduceCtorEq, ↓reduceIte, hlx] | refine Cut.go ?_ | refine Both.intro ?_ ?_ | (refine Br.intro ?_ ?_ <;> intro hb <;> have hb' := hb <;> (try simp only [SH] at hb') <;> (try simp -dsimp (maxSteps := 2000000) (disch := first | omega | (simp; done) | (simp; omega)) only [SA, SB, SC, SD, SE, SF, SG, SI, Nat.reduceLT, Nat.reduceAdd, Nat.reduceSub, Nat.reduceMul, Nat.reduceLeDiff, Nat.reduceEqDiff, Nat.reduceBEq, Int.reduceToNat, Int.reduceLE, Int.reduceLT, Int.reduceEq, Int.reduceNeg, reduceCtorEq, ↓reduceIte, hb, hlx]))))
  refine loop_go (α := Nat) (fun i => [x, .func (.func 32) [] [], .junk, .junk, .int .i64 0, .junk, x, .int .i64 l.length, .int .i64 i] ++ List.replicate 10 .junk) (fun _ => σ) (fun i => l.length - i) (fun i => i ≤ l.length ∧ tooLong (l.take i) = false) 0 ⟨Nat.zero_le _, rfl⟩ (by ((try simp only [List.replicate_succ, List.replicate_zero, List.cons_append, List.nil_append]); repeat' (first | exact trivial | refine ⟨.inl rfl, ?_⟩ | refine ⟨.inr rfl, ?_⟩ | refine ⟨.inr (by simp), ?_⟩))) (Drops.refl _) ?_
  rintro i ⟨h1, h2⟩
  simp -dsimp (maxSteps := 2000000) (disch := first | omega | (simp; done) | (simp; omega)) only [SA, SB, SC, SD, SE, SF, SG, SI, Nat.reduceLT, Nat.reduceAdd, Nat.reduceSub, Nat.reduceMul, Nat.reduceLeDiff, Nat.reduceEqDiff, Nat.reduceBEq, Int.reduceToNat, Int.reduceLE, Int.reduceLT, Int.reduceEq, Int.reduceNeg, reduceCtorEq, ↓reduceIte, List.replicate_succ, List.replicate_zero]
  by_cases hi : i < l.length
  · have hcond : decide ((i : Int) < l.length) = true := by simp; exact hi
    have ax := hx.at hi
    have l1 : cellsAt [D.str l[i]] 0 none = some (.str l[i]) := rfl
    have ht : tooLong (l.take (i + 1)) = decide (4096 < (l[i]).length) := by
      rw [List.take_succ_eq_append_getElem hi]
      have : tooLong (l.take i ++ [l[i]]) = (tooLong (l.take i) || decide (4096 < (l[i]).length)) := by
        simp only [tooLong, List.any_append, List.any_cons, List.any_nil, Bool.or_false]
      rw [this, h2, Bool.false_or]
    (repeat' (first | simp -dsimp (maxSteps := 2000000) (disch := first | omega | (simp; done) | (simp; omega)) only [SA, SB, SC, SD, SE, SF, SG, SI, Nat.reduceLT, Nat.reduceAdd, Nat.reduceSub, Nat.reduceMul, Nat.reduceLeDiff, Nat.reduceEqDiff, Nat.reduceBEq, Int.reduceToNat, Int.reduceLE, Int.reduceLT, Int.reduceEq, Int.reduceNeg, reduceCtorEq, ↓reduceIte, hcond, ax, l1] | refine Cut.go ?_ | refine Both.intro ?_ ?_ | refine via (by kernel_rfl) (clo32 _ _) ?_ | (refine Br.intro ?_ ?_ <;> intro hb <;> have hb' := hb <;> (try simp only [SH] at hb') <;> (try simp -dsimp (maxSteps := 2000000) (disch := first | omega | (simp; done) | (simp; omega)) only [SA, SB, SC, SD, SE, SF, SG, SI, Nat.reduceLT, Nat.reduceAdd, Nat.reduceSub, Nat.reduceMul, Nat.reduceLeDiff, Nat.reduceEqDiff, Nat.reduceBEq, Int.reduceToNat, Int.reduceLE, Int.reduceLT, Int.reduceEq, Int.reduceNeg, reduceCtorEq, ↓reduceIte, hb, hcond, ax, l1]))))
    · refine ⟨i, rfl, ?_⟩
      have : tooLong l = true := by
        unfold tooLong
        rw [List.any_eq_true]
        exact ⟨l[i], List.getElem_mem hi, hb⟩
      rw [this]; simp
    · exact Round.go (i + 1) (by omega) ⟨by omega, by rw [ht]; exact hb⟩ (by ((try simp only [List.replicate_succ, List.replicate_zero, List.cons_append, List.nil_append]); repeat' (first | exact trivial | refine ⟨.inl rfl, ?_⟩ | refine ⟨.inr rfl, ?_⟩ | refine ⟨.inr (by simp), ?_⟩))) (Drops.refl _)
  · have hcond : decide ((i : Int) < l.length) = false := by simp; omega
    (repeat' (first | simp -dsimp (maxSteps := 2000000) (disch := first | omega | (simp; done) | (simp; omega)) only [SA, SB, SC, SD, SE, SF, SG, SI, Nat.reduceLT, Nat.reduceAdd, Nat.reduceSub, Nat.reduceMul, Nat.reduceLeDiff, Nat.reduceEqDiff, Nat.reduceBEq, Int.reduceToNat, Int.reduceLE, Int.reduceLT, Int.reduceEq, Int.reduceNeg, reduceCtorEq, ↓reduceIte, hcond] | refine Cut.go ?_ | refine Both.intro ?_ ?_ | (refine Br.intro ?_ ?_ <;> intro hb <;> have hb' := hb <;> (try simp only [SH] at hb') <;> (try simp -dsimp (maxSteps := 2000000) (disch := first | omega | (simp; done) | (simp; omega)) only [SA, SB, SC, SD, SE, SF, SG, SI, Nat.reduceLT, Nat.reduceAdd, Nat.reduceSub, Nat.reduceMul, Nat.reduceLeDiff, Nat.reduceEqDiff, Nat.reduceBEq, Int.reduceToNat, Int.reduceLE, Int.reduceLT, Int.reduceEq, Int.reduceNeg, reduceCtorEq, ↓reduceIte, hb, hcond]))))
    refine ⟨-1, rfl, ?_⟩
    rw [List.take_of_length_le (by omega)] at h2
    rw [h2]; rfl
theorem cont31 {x : D} {l : List (List UInt8)} (hx : Strs x l) (hl : l.length ≤ 1000000) (σ : St) : Ok Tryz.prog 31 [x, .func (.func 32) [] []] σ (fun o s => o = .ret (.bool (tooLong l)) ∧ s = σ) := by
  apply en31
  simp -dsimp (maxSteps := 2000000) (disch := first | omega | (simp; done) | (simp; omega)) only [SA, SB, SC, SD, SE, SF, SG, SI, Nat.reduceLT, Nat.reduceAdd, Nat.reduceSub, Nat.reduceMul, Nat.reduceLeDiff, Nat.reduceEqDiff, Nat.reduceBEq, Int.reduceToNat, Int.reduceLE, Int.reduceLT, Int.reduceEq, Int.reduceNeg, reduceCtorEq, ↓reduceIte, ic31, List.replicate_succ, List.replicate_zero]
  (repeat' (first | simp -dsimp (maxSteps := 2000000) (disch := first | omega | (simp; done) | (simp; omega)) only [SA, SB, SC, SD, SE, SF, SG, SI, Nat.reduceLT, Nat.reduceAdd, Nat.reduceSub, Nat.reduceMul, Nat.reduceLeDiff, Nat.reduceEqDiff, Nat.reduceBEq, Int.reduceToNat, Int.reduceLE, Int.reduceLT, Int.reduceEq, Int.reduceNeg, reduceCtorEq, ↓reduceIte] | refine Cut.go ?_ | refine Both.intro ?_ ?_ | (refine Br.intro ?_ ?_ <;> intro hb <;> have hb' := hb <;> (try simp only [SH] at hb') <;> (try simp -dsimp (maxSteps := 2000000) (disch := first | omega | (simp; done) | (simp; omega)) only [SA, SB, SC, SD, SE, SF, SG, SI, Nat.reduceLT, Nat.reduceAdd, Nat.reduceSub, Nat.reduceMul, Nat.reduceLeDiff, Nat.reduceEqDiff, Nat.reduceBEq, Int.reduceToNat, Int.reduceLE, Int.reduceLT, Int.reduceEq, Int.reduceNeg, reduceCtorEq, ↓reduceIte, hb]))))
  refine ⟨by kernel_rfl, (idxf55 hx hl σ).mono fun o s h => ?_⟩
  obtain ⟨⟨n, rfl, hn⟩, rfl⟩ := h
  (repeat' (first | simp -dsimp (maxSteps := 2000000) (disch := first | omega | (simp; done) | (simp; omega)) only [SA, SB, SC, SD, SE, SF, SG, SI, Nat.reduceLT, Nat.reduceAdd, Nat.reduceSub, Nat.reduceMul, Nat.reduceLeDiff, Nat.reduceEqDiff, Nat.reduceBEq, Int.reduceToNat, Int.reduceLE, Int.reduceLT, Int.reduceEq, Int.reduceNeg, reduceCtorEq, ↓reduceIte, hn] | refine Cut.go ?_ | refine Both.intro ?_ ?_ | (refine Br.intro ?_ ?_ <;> intro hb <;> have hb' := hb <;> (try simp only [SH] at hb') <;> (try simp -dsimp (maxSteps := 2000000) (disch := first | omega | (simp; done) | (simp; omega)) only [SA, SB, SC, SD, SE, SF, SG, SI, Nat.reduceLT, Nat.reduceAdd, Nat.reduceSub, Nat.reduceMul, Nat.reduceLeDiff, Nat.reduceEqDiff, Nat.reduceBEq, Int.reduceToNat, Int.reduceLE, Int.reduceLT, Int.reduceEq, Int.reduceNeg, reduceCtorEq, ↓reduceIte, hb, hn]))))
theorem glob162 (p : List UInt8) {σ : St} : Ok Tryz.prog 162 [.agg [.nilp], .str p] σ (fun o s' => (∃ m, σ.next ≤ m ∧ s' = ⟨σ.obj, m⟩) ∧ o = .ret .nils) := by
  refine Ok.fresh fun hf => Ok.drop ?_
  apply en162
  simp -dsimp (maxSteps := 2000000) (disch := first | omega | (simp; done) | (simp; omega)) only [SA, SB, SC, SD, SE, SF, SG, SI, Nat.reduceLT, Nat.reduceAdd, Nat.reduceSub, Nat.reduceMul, Nat.reduceLeDiff, Nat.reduceEqDiff, Nat.reduceBEq, Int.reduceToNat, Int.reduceLE, Int.reduceLT, Int.reduceEq, Int.reduceNeg, reduceCtorEq, ↓reduceIte, ic162, List.replicate_succ, List.replicate_zero]
  (repeat' (first | simp -dsimp (maxSteps := 2000000) (disch := first | omega | (simp; done) | (simp; omega)) only [SA, SB, SC, SD, SE, SF, SG, SI, Nat.reduceLT, Nat.reduceAdd, Nat.reduceSub, Nat.reduceMul, Nat.reduceLeDiff, Nat.reduceEqDiff, Nat.reduceBEq, Int.reduceToNat, Int.reduceLE, Int.reduceLT, Int.reduceEq, Int.reduceNeg, reduceCtorEq, ↓reduceIte] | refine Cut.go ?_ | refine Both.intro ?_ ?_ | (refine Br.intro ?_ ?_ <;> intro hb <;> have hb' := hb <;> (try simp only [SH] at hb') <;> (try simp -dsimp (maxSteps := 2000000) (disch := first | omega | (simp; done) | (simp; omega)) only [SA, SB, SC, SD, SE, SF, SG, SI, Nat.reduceLT, Nat.reduceAdd, Nat.reduceSub, Nat.reduceMul, Nat.reduceLeDiff, Nat.reduceEqDiff, Nat.reduceBEq, Int.reduceToNat, Int.reduceLE, Int.reduceLT, Int.reduceEq, Int.reduceNeg, reduceCtorEq, ↓reduceIte, hb]))))
  exact ⟨_, drops_old hf (fun i hi => by rw [alloc_obj, if_neg (by omega)]), _, by rw [alloc_next]; omega, rfl⟩
/-- The pattern of a field that is done; its text. -/
theorem Fld.strP {x : Option Nat} {blo hi : Nat} {σ : St} {j : Nat} {T P : List UInt8} {r : Bool} (h : Fld x blo hi σ j T P r) (ht : Tidy σ) (hl : P.length ≤ 10000000) {K : Out → St → Prop}
    (hk : ∀ s', (∃ cs lt, Bld s' j 0 cs lt T ∧ (T ≠ [] → blo ≤ lt ∧ lt + 3 ≤ hi)) → Tidy s' → (∀ i, i < blo ∨ hi ≤ i → s'.obj i = σ.obj i) → s'.next = σ.next → K (.ret (.str P)) s') : goodFn Tryz.prog 30 = true ∧ Ok Tryz.prog 30 [.ref j 2] σ K := by
  obtain ⟨ta, pa, lt, lp, a1, a2, a3, a4, a5, a6, a7, a8⟩ := h.ex
  have hle := h.le
  have hb : Bld σ j 2 [ta, bufD lt T, pa, bufD lp P, .bool r] lp P := ⟨a1, by rcases a3 with rfl | rfl <;> simp, rfl, ⟨83, h.mark, by simp⟩, a5⟩
  refine ⟨gd30, (str30 hb (by omega)).mono fun o s' ⟨h1, h2⟩ => ?_⟩
  subst h1
  subst h2
  have old : ∀ i, (P ≠ [] → i ≠ lp ∧ i ≠ lp + 1 ∧ i ≠ lp + 2) → (strSt σ lp P).obj i = σ.obj i := fun i hi => strSt_obj ht a5 i hi
  refine hk _ ⟨[ta, bufD lt T, pa, bufD lp P, .bool r], lt, ⟨?_, by rcases a2 with rfl | rfl <;> simp, rfl, ⟨83, ?_, by simp⟩, a4.same fun g i q1 q2 => old i fun g2 => ?_⟩, fun g => ⟨(a6 g).1, (a6 g).2.1⟩⟩ (strSt_tidy ht a5) (fun i hi => old i fun g => ?_) (strSt_next _ _ _)
  · rw [old _ fun g => by have := a7 g; omega]; exact a1
  · rw [old _ fun g => by have := a7 g; omega]; exact h.mark
  · have := a8 g g2; omega
  · have := a7 g; omega
theorem bld_str {σ : St} {j : Nat} {cs : List D} {lt blo hi : Nat} {T : List UInt8} (h : Bld σ j 0 cs lt T) (hb : T ≠ [] → blo ≤ lt ∧ lt + 3 ≤ hi) (ht : Tidy σ) (hl : T.length ≤ 10000000) {K : Out → St → Prop}
    (hk : ∀ s', Tidy s' → (∀ i, i < blo ∨ hi ≤ i → s'.obj i = σ.obj i) → s'.next = σ.next → K (.ret (.str T)) s') : goodFn Tryz.prog 30 = true ∧ Ok Tryz.prog 30 [.ref j 0] σ K := by
  refine ⟨gd30, (str30 h (by omega)).mono fun o s' ⟨h1, h2⟩ => ?_⟩
  subst h1
  subst h2
  exact hk _ (strSt_tidy ht h.buf) (fun i hi => strSt_obj ht h.buf i fun g => by have := hb g; omega) (strSt_next _ _ _)
/-- How much there is of fields. -/
def CS.le (c : CS) (n : Nat) : Prop := c.size ≤ n ∧ ∀ f ∈ c.L, f.1.length + f.2.length ≤ n
theorem CS.le.more {c : CS} {n m : Nat} (h : c.le n) (hm : n ≤ m) : c.le m := ⟨Nat.le_trans h.1 hm, fun f hf => Nat.le_trans (h.2 f hf) hm⟩
theorem CS.le.push {c : CS} {n : Nat} (h : c.le n) (x : Bool) : (c.push x).le (n + 1) := by
  refine ⟨Nat.le_trans (c.size_push x) (by have := h.1; omega), fun f hf => ?_⟩
  have h1 := h.1
  simp only [CS.push] at hf
  simp only [CS.size] at h1
  split at hf
  · rcases List.mem_append.1 hf with hf | hf
    · have := h.2 f hf; omega
    · simp at hf; subst hf; simp only []; omega
  · have := h.2 f hf; omega
theorem CS.le.at {c : CS} {n : Nat} (h : c.le n) (b : UInt8) : (c.at b).le (n + 1) := by
  have h1 := h.push false
  have h2 := h.push true
  unfold CS.at
  split
  · split
    · exact h1
    · exact h.more (Nat.le_succ _)
  · split
    · exact h1
    · split
      · exact CS.le.more (c := { c with w := false }) h (Nat.le_succ _)
      · exact h2
theorem CS.le.add {c : CS} {n : Nat} (h : c.le n) (s : List UInt8) (q : Bool) : (c.add s q).le (n + 3 * s.length) :=
  ⟨Nat.le_trans (c.size_add s q) (by have := h.1; omega), fun f hf => Nat.le_trans (h.2 f hf) (Nat.le_add_right _ _)⟩
theorem CS.le.byte {c : CS} {n : Nat} (h : c.le n) (ifs : List UInt8) (b : UInt8) : (c.byte ifs b).le (n + 3) := by
  unfold CS.byte
  split
  · exact (h.at b).more (by omega)
  · exact h.add [b] false
theorem CS.le.bytes (ifs : List UInt8) : ∀ (t : List UInt8) (c : CS) (n : Nat), c.le n → (t.foldl (CS.byte ifs) c).le (n + 3 * t.length)
  | [], c, n, h => h
  | b :: r, c, n, h => (CS.le.bytes ifs r (c.byte ifs b) (n + 3) (h.byte ifs b)).more (by simp only [List.length_cons]; omega)
theorem CS.le.atom {c : CS} {n : Nat} (h : c.le n) (ifs : List UInt8) (a : Atm) : (c.atom ifs a).le (n + 3 * a.t.length + 1) := by
  unfold CS.atom
  split
  · exact CS.le.more (c := { c.push false with w := false }) (h.push false) (by omega)
  · split
    · exact (CS.le.bytes ifs a.t c n h).more (by omega)
    · exact (h.add a.t a.q).more (by omega)
theorem CS.le.atoms (ifs : List UInt8) : ∀ (l : List Atm) (c : CS) (n : Nat), c.le n → (l.foldl (CS.atom ifs) c).le (n + wt l)
  | [], c, n, h => h
  | a :: r, c, n, h => (CS.le.atoms ifs r (c.atom ifs a) _ (h.atom ifs a)).more (by simp only [wt]; omega)
theorem cutF_le (l : List Atm) (ifs : List UInt8) : (cutF l ifs).length ≤ wt l + 1 ∧ ∀ f ∈ cutF l ifs, f.1.length + f.2.length ≤ wt l + 1 := by
  have h := (CS.le.atoms ifs l .zero 0 ⟨Nat.le_refl _, fun f hf => by cases hf⟩).push false
  rw [Nat.zero_add] at h
  refine ⟨?_, h.2⟩
  have := h.1
  simp only [CS.size] at this
  unfold cutF; omega
def lsO (l : List (List UInt8)) (tk : Nat) : D := if l = [] then .nils else .slc 1 (l.map .str) (.opened tk)
theorem lsO_strs (l : List (List UInt8)) (tk : Nat) : Strs (lsO l tk) l := by
  unfold lsO
  split
  · rename_i h; subst h; exact .snil
  · exact .ssome _ _
theorem lsO_app {s : St} {l : List (List UInt8)} {tk : Nat} (h : l ≠ [] → s.obj tk = some .tok) (hl : l.length ≤ 1000000) (t : List UInt8) : ∃ s1 : St, iappend 1 16 (lsO l tk) (.slc 1 [.str t] .exact) s = some (lsO (l ++ [t]) s.next, s1.alloc .tok) ∧ s1.next = s.next ∧ (∀ i, (l ≠ [] → i ≠ tk) → s1.obj i = s.obj i) ∧ (l ≠ [] → s1.obj tk = none) := by
  have hm : maxLen = 2 ^ 63 - 1 := rfl
  by_cases hL : l = []
  · subst hL
    exact ⟨s, rfl, rfl, fun _ _ => rfl, fun g => absurd rfl g⟩
  · refine ⟨s.put tk none, ?_, rfl, fun i hi => by rw [put_obj, if_neg (hi hL)], fun _ => by rw [put_obj, if_pos rfl]⟩
    have hne : l ++ [t] ≠ [] := by simp
    simp only [iappend, lsO, if_neg hL, if_neg hne, elems, if_true, List.length_cons, List.length_nil, List.length_map, h hL, List.map_append, List.map_cons, List.map_nil]
    rw [if_neg (by omega), if_pos (by refine ⟨trivial, ?_, ?_⟩ <;> omega)]
end Go.Proofs.YthiidchbaicfgaaGreatDoor
