/-
  THE WALKS, layer 13, PART 16: a field under way.
-/
import Derived.Test.YthiidchbaicfgaaGreatDoorZG
namespace Go.Proofs.YthiidchbaicfgaaGreatDoor
open Go Go.Id
set_option linter.unusedSimpArgs false
set_option linter.unusedVariables false
set_option maxRecDepth 100000
set_option maxHeartbeats 4000000

/-- A field at 'j', its texts' rows between 'blo' and 'hi'. -/
structure Fld (x : Option Nat) (blo hi : Nat) (σ : St) (j : Nat) (T P : List UInt8) (r : Bool) : Prop where
  ex : ∃ ta pa lt lp, σ.obj j = some (.cells [ta, bufD lt T, pa, bufD lp P, .bool r]) ∧ (ta = .nilp ∨ ta = .ref j 0) ∧ (pa = .nilp ∨ pa = .ref j 2) ∧ Buf σ lt T ∧ Buf σ lp P ∧
    (T ≠ [] → blo ≤ lt ∧ lt + 3 ≤ hi ∧ ∀ k, x = some k → k < lt ∨ lt + 3 ≤ k) ∧ (P ≠ [] → blo ≤ lp ∧ lp + 3 ≤ hi ∧ ∀ k, x = some k → k < lp ∨ lp + 3 ≤ k) ∧ (T ≠ [] → P ≠ [] → lt + 3 ≤ lp ∨ lp + 3 ≤ lt)
  mark : σ.obj (j + 1) = some (.ty j 83 (some 5))
  le : j + 2 ≤ blo ∧ blo ≤ hi
theorem Buf.same {σ s : St} {l : Nat} {bs : List UInt8} (h : Buf σ l bs) (hs : bs ≠ [] → ∀ i, l ≤ i → i < l + 3 → s.obj i = σ.obj i) : Buf s l bs := fun hb => by
  obtain ⟨a1, a2, a3⟩ := h hb
  exact ⟨by rw [hs hb _ (by omega) (by omega)]; exact a1, by rw [hs hb _ (by omega) (by omega)]; exact a2, by rw [hs hb _ (by omega) (by omega)]; exact a3⟩
theorem Fld.same {x : Option Nat} {blo hi : Nat} {σ s : St} {j : Nat} {T P : List UInt8} {r : Bool} (h : Fld x blo hi σ j T P r) (h0 : s.obj j = σ.obj j) (h1 : s.obj (j + 1) = σ.obj (j + 1)) (h2 : ∀ i, blo ≤ i → i < hi → s.obj i = σ.obj i) : Fld x blo hi s j T P r := by
  obtain ⟨ta, pa, lt, lp, a1, a2, a3, a4, a5, a6, a7, a8⟩ := h.ex
  refine ⟨⟨ta, pa, lt, lp, by rw [h0]; exact a1, a2, a3, a4.same fun g i q1 q2 => h2 i ?_ ?_, a5.same fun g i q1 q2 => h2 i ?_ ?_, a6, a7, a8⟩, by rw [h1]; exact h.mark, h.le⟩
  · have := a6 g; omega
  · have := a6 g; omega
  · have := a7 g; omega
  · have := a7 g; omega
/-- What a step may change, and what stays. -/
structure Frm (x : Option Nat) (blo j : Nat) (σ s : St) : Prop where
  low : ∀ i, (i < blo ∨ x = some i) → i ≠ j → s.obj i = σ.obj i
  fresh : s.Fresh
  tidy : Tidy s
  nxt : σ.next ≤ s.next
theorem Fld.text {x : Option Nat} {blo : Nat} {σ : St} {j : Nat} {T P : List UInt8} {r : Bool} (h : Fld x blo σ.next σ j T P r) (hf : σ.Fresh) (ht : Tidy σ) (hx : ∀ k, x = some k → k < σ.next) (s : List UInt8) (hl : T.length + s.length ≤ 10000000) {K : Out → St → Prop}
    (hk : ∀ s', Fld x blo s'.next s' j (T ++ s) P r → Frm x blo j σ s' → K (.ret (.tuple [.int .i64 s.length, .nili])) s') : goodFn Tryz.prog 57 = true ∧ Ok Tryz.prog 57 [.ref j 0, .str s] σ K := by
  obtain ⟨ta, pa, lt, lp, a1, a2, a3, a4, a5, a6, a7, a8⟩ := h.ex
  have hle := h.le
  have hb : Bld σ j 0 [ta, bufD lt T, pa, bufD lp P, .bool r] lt T := ⟨a1, by rcases a2 with rfl | rfl <;> simp, rfl, ⟨83, h.mark, by simp⟩, a4⟩
  have hd : T ≠ [] → j ≠ lt ∧ j ≠ lt + 1 ∧ j ≠ lt + 2 := fun g => by have := a6 g; omega
  refine ⟨gd57, (ws57 hb hd (by omega) (by omega)).mono fun o s' ⟨h1, h2⟩ => ?_⟩
  subst h1
  obtain ⟨l', p1, p2, p3, p4, p5, p6, p7⟩ := ws_spec (s := s) hb hd (by omega) hf ht fun g => (a6 g).2.1
  rw [← h2] at p1 p2 p3 p4 p5 p6 p7
  refine hk s' ⟨⟨.ref j 0, pa, l', lp, p1, .inr rfl, a3, p2, a5.same fun g i q1 q2 => ?_, fun g => ?_, fun g => ?_, fun g1 g2 => ?_⟩, ?_, by omega⟩ ⟨fun i q1 q2 => ?_, p5, p6, p7⟩
  · have := a7 g
    exact p4 i (by omega) (by omega) fun g3 => by have := a8 g3 g; omega
  · obtain ⟨q1, q2⟩ := p3 g
    rcases q1 with ⟨g1, rfl⟩ | q1
    · exact ⟨(a6 g1).1, q2, (a6 g1).2.2⟩
    · exact ⟨by omega, q2, fun k hk => .inl (by have := hx k hk; omega)⟩
  · exact ⟨(a7 g).1, by have := a7 g; omega, (a7 g).2.2⟩
  · obtain ⟨q1, q2⟩ := p3 g1
    rcases q1 with ⟨g3, rfl⟩ | q1
    · exact a8 g3 g2
    · have := a7 g2; omega
  · rw [p4 (j + 1) (by omega) (by omega) fun g => by have := a6 g; omega]; exact h.mark
  · rcases q1 with q1 | q1
    · exact p4 i (by omega) q2 fun g => by have := a6 g; omega
    · exact p4 i (hx i q1) q2 fun g => by have := (a6 g).2.2 i q1; omega
theorem Fld.pat {x : Option Nat} {blo : Nat} {σ : St} {j : Nat} {T P : List UInt8} {r : Bool} (h : Fld x blo σ.next σ j T P r) (hf : σ.Fresh) (ht : Tidy σ) (hx : ∀ k, x = some k → k < σ.next) (s : List UInt8) (hl : P.length + s.length ≤ 10000000) {K : Out → St → Prop}
    (hk : ∀ s', Fld x blo s'.next s' j T (P ++ s) r → Frm x blo j σ s' → K (.ret (.tuple [.int .i64 s.length, .nili])) s') : goodFn Tryz.prog 57 = true ∧ Ok Tryz.prog 57 [.ref j 2, .str s] σ K := by
  obtain ⟨ta, pa, lt, lp, a1, a2, a3, a4, a5, a6, a7, a8⟩ := h.ex
  have hle := h.le
  have hb : Bld σ j 2 [ta, bufD lt T, pa, bufD lp P, .bool r] lp P := ⟨a1, by rcases a3 with rfl | rfl <;> simp, rfl, ⟨83, h.mark, by simp⟩, a5⟩
  have hd : P ≠ [] → j ≠ lp ∧ j ≠ lp + 1 ∧ j ≠ lp + 2 := fun g => by have := a7 g; omega
  refine ⟨gd57, (ws57 hb hd (by omega) (by omega)).mono fun o s' ⟨h1, h2⟩ => ?_⟩
  subst h1
  obtain ⟨l', p1, p2, p3, p4, p5, p6, p7⟩ := ws_spec (s := s) hb hd (by omega) hf ht fun g => (a7 g).2.1
  rw [← h2] at p1 p2 p3 p4 p5 p6 p7
  refine hk s' ⟨⟨ta, .ref j 2, lt, l', p1, a2, .inr rfl, a4.same fun g i q1 q2 => ?_, p2, fun g => ?_, fun g => ?_, fun g1 g2 => ?_⟩, ?_, by omega⟩ ⟨fun i q1 q2 => ?_, p5, p6, p7⟩
  · have := a6 g
    exact p4 i (by omega) (by omega) fun g3 => by have := a8 g g3; omega
  · exact ⟨(a6 g).1, by have := a6 g; omega, (a6 g).2.2⟩
  · obtain ⟨q1, q2⟩ := p3 g
    rcases q1 with ⟨g1, rfl⟩ | q1
    · exact ⟨(a7 g1).1, q2, (a7 g1).2.2⟩
    · exact ⟨by omega, q2, fun k hk => .inl (by have := hx k hk; omega)⟩
  · obtain ⟨q1, q2⟩ := p3 g2
    rcases q1 with ⟨g3, rfl⟩ | q1
    · exact a8 g1 g3
    · have := a6 g1; omega
  · rw [p4 (j + 1) (by omega) (by omega) fun g => by have := a7 g; omega]; exact h.mark
  · rcases q1 with q1 | q1
    · exact p4 i (by omega) q2 fun g => by have := a7 g; omega
    · exact p4 i (hx i q1) q2 fun g => by have := (a7 g).2.2 i q1; omega
/-- Its cells. -/
theorem Fld.cell {x : Option Nat} {blo hi : Nat} {σ : St} {j : Nat} {T P : List UInt8} {r : Bool} (h : Fld x blo hi σ j T P r) : ∃ a b c d, σ.obj j = some (.cells [a, b, c, d, .bool r]) := by
  obtain ⟨ta, pa, lt, lp, a1, _⟩ := h.ex
  exact ⟨_, _, _, _, a1⟩
theorem Fld.real {x : Option Nat} {blo hi : Nat} {σ : St} {j : Nat} {T P : List UInt8} {r : Bool} (h : Fld x blo hi σ j T P r) {a b c d : D} (ho : σ.obj j = some (.cells [a, b, c, d, .bool r])) (r' : Bool) : Fld x blo hi (σ.put j (some (.cells [a, b, c, d, .bool r']))) j T P r' := by
  obtain ⟨ta, pa, lt, lp, a1, a2, a3, a4, a5, a6, a7, a8⟩ := h.ex
  have hle := h.le
  rw [ho] at a1
  simp only [Option.some.injEq, Ob.cells.injEq, List.cons.injEq] at a1
  obtain ⟨rfl, rfl, rfl, rfl, -⟩ := a1
  refine ⟨⟨_, _, lt, lp, by rw [put_obj, if_pos rfl], a2, a3, a4.put fun g => ?_, a5.put fun g => ?_, a6, a7, a8⟩, ?_, hle⟩
  · have := a6 g; omega
  · have := a7 g; omega
  · rw [put_obj, if_neg (by omega)]; exact h.mark
theorem Fld.next {x : Option Nat} {blo : Nat} {σ : St} {j : Nat} {T P : List UInt8} {r : Bool} (h : Fld x blo σ.next σ j T P r) {m : Nat} (hm : σ.next ≤ m) : Fld x blo m ⟨σ.obj, m⟩ j T P r := by
  obtain ⟨ta, pa, lt, lp, a1, a2, a3, a4, a5, a6, a7, a8⟩ := h.ex
  have hle := h.le
  exact ⟨⟨ta, pa, lt, lp, a1, a2, a3, a4, a5, fun g => ⟨(a6 g).1, by have := a6 g; omega, (a6 g).2.2⟩, fun g => ⟨(a7 g).1, by have := a7 g; omega, (a7 g).2.2⟩, a8⟩, h.mark, by omega⟩
theorem Frm.trans {x : Option Nat} {blo j : Nat} {σ s s' : St} (h : Frm x blo j σ s) (h' : Frm x blo j s s') : Frm x blo j σ s' :=
  ⟨fun i h1 h2 => by rw [h'.low i h1 h2, h.low i h1 h2], h'.fresh, h'.tidy, Nat.le_trans h.nxt h'.nxt⟩
theorem Frm.put {x : Option Nat} {blo j : Nat} {σ s : St} (h : Frm x blo j σ s) (hj : j < s.next) (c : D) (cs : List D) : Frm x blo j σ (s.put j (some (.cells (c :: cs)))) :=
  ⟨fun i h1 h2 => by rw [put_obj, if_neg h2]; exact h.low i h1 h2, put_fresh h.fresh hj _, h.tidy.put c cs, h.nxt⟩
theorem Frm.more {x : Option Nat} {blo j : Nat} {σ s : St} (h : Frm x blo j σ s) {m : Nat} (hm : s.next ≤ m) : Frm x blo j σ ⟨s.obj, m⟩ :=
  ⟨h.low, fun i hi => h.fresh i (Nat.le_trans hm hi), h.tidy, Nat.le_trans h.nxt hm⟩
theorem Fld.forget {x : Option Nat} {blo hi : Nat} {σ : St} {j : Nat} {T P : List UInt8} {r : Bool} (h : Fld x blo hi σ j T P r) : Fld none blo hi σ j T P r := by
  obtain ⟨ta, pa, lt, lp, a1, a2, a3, a4, a5, a6, a7, a8⟩ := h.ex
  exact ⟨⟨ta, pa, lt, lp, a1, a2, a3, a4, a5, fun g => ⟨(a6 g).1, (a6 g).2.1, fun k hk => by cases hk⟩, fun g => ⟨(a7 g).1, (a7 g).2.1, fun k hk => by cases hk⟩, a8⟩, h.mark, h.le⟩
/-- Something more is kept, that was made behind. -/
theorem Fld.keep {x : Option Nat} {blo hi : Nat} {σ : St} {j : Nat} {T P : List UInt8} {r : Bool} (h : Fld x blo hi σ j T P r) {k : Nat} (hk : hi ≤ k) : Fld (some k) blo hi σ j T P r := by
  obtain ⟨ta, pa, lt, lp, a1, a2, a3, a4, a5, a6, a7, a8⟩ := h.ex
  exact ⟨⟨ta, pa, lt, lp, a1, a2, a3, a4, a5, fun g => ⟨(a6 g).1, (a6 g).2.1, fun k' hk' => by cases hk'; have := a6 g; omega⟩, fun g => ⟨(a7 g).1, (a7 g).2.1, fun k' hk' => by cases hk'; have := a7 g; omega⟩, a8⟩, h.mark, h.le⟩
def addP (s : List UInt8) (q : Bool) : List UInt8 := if q then quoteB s else s
theorem add51 {x : Option Nat} {blo : Nat} {σ : St} {j : Nat} {T P : List UInt8} {r : Bool} (h : Fld x blo σ.next σ j T P r) (hf : σ.Fresh) (ht : Tidy σ) (hx : ∀ k, x = some k → k < σ.next) (s : List UInt8) (q : Bool) (hl : T.length + P.length + s.length ≤ 1000000) {K : Out → St → Prop}
    (hk : ∀ s', Fld x blo s'.next s' j (T ++ s) (P ++ addP s q) (r || q || !s.isEmpty) → Frm x blo j σ s' → K (.ret (.tuple [])) s') : goodFn Tryz.prog 51 = true ∧ Ok Tryz.prog 51 [.ref j 0, .str s, .bool q] σ K := by
  refine ⟨gd51, ?_⟩
  have hle := h.le
  apply en51
  simp -dsimp (maxSteps := 2000000) (disch := first | omega | (simp; done) | (simp; omega)) only [SA, SB, SC, SD, SE, SF, SG, SI, Nat.reduceLT, Nat.reduceAdd, Nat.reduceSub, Nat.reduceMul, Nat.reduceLeDiff, Nat.reduceEqDiff, Nat.reduceBEq, Int.reduceToNat, Int.reduceLE, Int.reduceLT, Int.reduceEq, Int.reduceNeg, reduceCtorEq, ↓reduceIte, ic51, List.replicate_succ, List.replicate_zero]
  (repeat' (first | simp -dsimp (maxSteps := 2000000) (disch := first | omega | (simp; done) | (simp; omega)) only [SA, SB, SC, SD, SE, SF, SG, SI, Nat.reduceLT, Nat.reduceAdd, Nat.reduceSub, Nat.reduceMul, Nat.reduceLeDiff, Nat.reduceEqDiff, Nat.reduceBEq, Int.reduceToNat, Int.reduceLE, Int.reduceLT, Int.reduceEq, Int.reduceNeg, reduceCtorEq, ↓reduceIte] | refine Cut.go ?_ | refine Both.intro ?_ ?_ | (refine Br.intro ?_ ?_ <;> intro hb <;> have hb' := hb <;> (try simp only [SH] at hb') <;> (try simp -dsimp (maxSteps := 2000000) (disch := first | omega | (simp; done) | (simp; omega)) only [SA, SB, SC, SD, SE, SF, SG, SI, Nat.reduceLT, Nat.reduceAdd, Nat.reduceSub, Nat.reduceMul, Nat.reduceLeDiff, Nat.reduceEqDiff, Nat.reduceBEq, Int.reduceToNat, Int.reduceLE, Int.reduceLT, Int.reduceEq, Int.reduceNeg, reduceCtorEq, ↓reduceIte, hb]))))
  refine h.text hf ht hx s (by omega) fun s1 h1 f1 => ?_
  have hq := quoteB_len s
  have fin : ∀ {s2 : St} {a b c d : D}, Fld x blo s2.next s2 j (T ++ s) (P ++ addP s q) r → Frm x blo j σ s2 → s2.obj j = some (.cells [a, b, c, d, .bool r]) → K (.ret (.tuple [])) (s2.put j (some (.cells [a, b, c, d, .bool (r || q || !s.isEmpty)]))) := fun {s2 a b c d} h2 f2 o2 =>
    hk _ (h2.real o2 _) (f2.put (by have := f2.nxt; omega) _ _)
  have he : (!s == []) = !s.isEmpty := by cases s <;> rfl
  cases q
  · (repeat' (first | simp -dsimp (maxSteps := 2000000) (disch := first | omega | (simp; done) | (simp; omega)) only [SA, SB, SC, SD, SE, SF, SG, SI, Nat.reduceLT, Nat.reduceAdd, Nat.reduceSub, Nat.reduceMul, Nat.reduceLeDiff, Nat.reduceEqDiff, Nat.reduceBEq, Int.reduceToNat, Int.reduceLE, Int.reduceLT, Int.reduceEq, Int.reduceNeg, reduceCtorEq, ↓reduceIte] | refine Cut.go ?_ | refine Both.intro ?_ ?_ | (refine Br.intro ?_ ?_ <;> intro hb <;> have hb' := hb <;> (try simp only [SH] at hb') <;> (try simp -dsimp (maxSteps := 2000000) (disch := first | omega | (simp; done) | (simp; omega)) only [SA, SB, SC, SD, SE, SF, SG, SI, Nat.reduceLT, Nat.reduceAdd, Nat.reduceSub, Nat.reduceMul, Nat.reduceLeDiff, Nat.reduceEqDiff, Nat.reduceBEq, Int.reduceToNat, Int.reduceLE, Int.reduceLT, Int.reduceEq, Int.reduceNeg, reduceCtorEq, ↓reduceIte, hb]))))
    refine h1.pat f1.fresh f1.tidy (fun k hk => by have := hx k hk; have := f1.nxt; omega) s (by omega) fun s2 h2 f2 => ?_
    obtain ⟨a, b, c, d, o2⟩ := h2.cell
    have := fin h2 (f1.trans f2) o2
    cases r
    · (repeat' (first | simp -dsimp (maxSteps := 2000000) (disch := first | omega | (simp; done) | (simp; omega)) only [SA, SB, SC, SD, SE, SF, SG, SI, Nat.reduceLT, Nat.reduceAdd, Nat.reduceSub, Nat.reduceMul, Nat.reduceLeDiff, Nat.reduceEqDiff, Nat.reduceBEq, Int.reduceToNat, Int.reduceLE, Int.reduceLT, Int.reduceEq, Int.reduceNeg, reduceCtorEq, ↓reduceIte, o2] | refine Cut.go ?_ | refine Both.intro ?_ ?_ | (refine Br.intro ?_ ?_ <;> intro hb <;> have hb' := hb <;> (try simp only [SH] at hb') <;> (try simp -dsimp (maxSteps := 2000000) (disch := first | omega | (simp; done) | (simp; omega)) only [SA, SB, SC, SD, SE, SF, SG, SI, Nat.reduceLT, Nat.reduceAdd, Nat.reduceSub, Nat.reduceMul, Nat.reduceLeDiff, Nat.reduceEqDiff, Nat.reduceBEq, Int.reduceToNat, Int.reduceLE, Int.reduceLT, Int.reduceEq, Int.reduceNeg, reduceCtorEq, ↓reduceIte, hb, o2]))))
      rw [he]
      exact this
    · (repeat' (first | simp -dsimp (maxSteps := 2000000) (disch := first | omega | (simp; done) | (simp; omega)) only [SA, SB, SC, SD, SE, SF, SG, SI, Nat.reduceLT, Nat.reduceAdd, Nat.reduceSub, Nat.reduceMul, Nat.reduceLeDiff, Nat.reduceEqDiff, Nat.reduceBEq, Int.reduceToNat, Int.reduceLE, Int.reduceLT, Int.reduceEq, Int.reduceNeg, reduceCtorEq, ↓reduceIte, o2] | refine Cut.go ?_ | refine Both.intro ?_ ?_ | (refine Br.intro ?_ ?_ <;> intro hb <;> have hb' := hb <;> (try simp only [SH] at hb') <;> (try simp -dsimp (maxSteps := 2000000) (disch := first | omega | (simp; done) | (simp; omega)) only [SA, SB, SC, SD, SE, SF, SG, SI, Nat.reduceLT, Nat.reduceAdd, Nat.reduceSub, Nat.reduceMul, Nat.reduceLeDiff, Nat.reduceEqDiff, Nat.reduceBEq, Int.reduceToNat, Int.reduceLE, Int.reduceLT, Int.reduceEq, Int.reduceNeg, reduceCtorEq, ↓reduceIte, hb, o2]))))
      exact this
  · (repeat' (first | simp -dsimp (maxSteps := 2000000) (disch := first | omega | (simp; done) | (simp; omega)) only [SA, SB, SC, SD, SE, SF, SG, SI, Nat.reduceLT, Nat.reduceAdd, Nat.reduceSub, Nat.reduceMul, Nat.reduceLeDiff, Nat.reduceEqDiff, Nat.reduceBEq, Int.reduceToNat, Int.reduceLE, Int.reduceLT, Int.reduceEq, Int.reduceNeg, reduceCtorEq, ↓reduceIte] | refine Cut.go ?_ | refine Both.intro ?_ ?_ | (refine Br.intro ?_ ?_ <;> intro hb <;> have hb' := hb <;> (try simp only [SH] at hb') <;> (try simp -dsimp (maxSteps := 2000000) (disch := first | omega | (simp; done) | (simp; omega)) only [SA, SB, SC, SD, SE, SF, SG, SI, Nat.reduceLT, Nat.reduceAdd, Nat.reduceSub, Nat.reduceMul, Nat.reduceLeDiff, Nat.reduceEqDiff, Nat.reduceBEq, Int.reduceToNat, Int.reduceLE, Int.reduceLT, Int.reduceEq, Int.reduceNeg, reduceCtorEq, ↓reduceIte, hb]))))
    refine ⟨gd35, (quote35 s (by omega) f1.tidy).mono fun o s2 g => ?_⟩
    obtain ⟨⟨m, hm, rfl⟩, rfl⟩ := g
    (repeat' (first | simp -dsimp (maxSteps := 2000000) (disch := first | omega | (simp; done) | (simp; omega)) only [SA, SB, SC, SD, SE, SF, SG, SI, Nat.reduceLT, Nat.reduceAdd, Nat.reduceSub, Nat.reduceMul, Nat.reduceLeDiff, Nat.reduceEqDiff, Nat.reduceBEq, Int.reduceToNat, Int.reduceLE, Int.reduceLT, Int.reduceEq, Int.reduceNeg, reduceCtorEq, ↓reduceIte] | refine Cut.go ?_ | refine Both.intro ?_ ?_ | (refine Br.intro ?_ ?_ <;> intro hb <;> have hb' := hb <;> (try simp only [SH] at hb') <;> (try simp -dsimp (maxSteps := 2000000) (disch := first | omega | (simp; done) | (simp; omega)) only [SA, SB, SC, SD, SE, SF, SG, SI, Nat.reduceLT, Nat.reduceAdd, Nat.reduceSub, Nat.reduceMul, Nat.reduceLeDiff, Nat.reduceEqDiff, Nat.reduceBEq, Int.reduceToNat, Int.reduceLE, Int.reduceLT, Int.reduceEq, Int.reduceNeg, reduceCtorEq, ↓reduceIte, hb]))))
    have f1' := f1.more hm
    refine Fld.pat (σ := ⟨s1.obj, m⟩) (h1.next hm) f1'.fresh f1'.tidy (fun k hk => by have := hx k hk; have := f1.nxt; show k < m; omega) (quoteB s) (by omega) fun s2 h2 f2 => ?_
    obtain ⟨a, b, c, d, o2⟩ := h2.cell
    have := fin h2 (f1'.trans f2) o2
    cases r
    · (repeat' (first | simp -dsimp (maxSteps := 2000000) (disch := first | omega | (simp; done) | (simp; omega)) only [SA, SB, SC, SD, SE, SF, SG, SI, Nat.reduceLT, Nat.reduceAdd, Nat.reduceSub, Nat.reduceMul, Nat.reduceLeDiff, Nat.reduceEqDiff, Nat.reduceBEq, Int.reduceToNat, Int.reduceLE, Int.reduceLT, Int.reduceEq, Int.reduceNeg, reduceCtorEq, ↓reduceIte, o2] | refine Cut.go ?_ | refine Both.intro ?_ ?_ | (refine Br.intro ?_ ?_ <;> intro hb <;> have hb' := hb <;> (try simp only [SH] at hb') <;> (try simp -dsimp (maxSteps := 2000000) (disch := first | omega | (simp; done) | (simp; omega)) only [SA, SB, SC, SD, SE, SF, SG, SI, Nat.reduceLT, Nat.reduceAdd, Nat.reduceSub, Nat.reduceMul, Nat.reduceLeDiff, Nat.reduceEqDiff, Nat.reduceBEq, Int.reduceToNat, Int.reduceLE, Int.reduceLT, Int.reduceEq, Int.reduceNeg, reduceCtorEq, ↓reduceIte, hb, o2]))))
      exact this
    · (repeat' (first | simp -dsimp (maxSteps := 2000000) (disch := first | omega | (simp; done) | (simp; omega)) only [SA, SB, SC, SD, SE, SF, SG, SI, Nat.reduceLT, Nat.reduceAdd, Nat.reduceSub, Nat.reduceMul, Nat.reduceLeDiff, Nat.reduceEqDiff, Nat.reduceBEq, Int.reduceToNat, Int.reduceLE, Int.reduceLT, Int.reduceEq, Int.reduceNeg, reduceCtorEq, ↓reduceIte, o2] | refine Cut.go ?_ | refine Both.intro ?_ ?_ | (refine Br.intro ?_ ?_ <;> intro hb <;> have hb' := hb <;> (try simp only [SH] at hb') <;> (try simp -dsimp (maxSteps := 2000000) (disch := first | omega | (simp; done) | (simp; omega)) only [SA, SB, SC, SD, SE, SF, SG, SI, Nat.reduceLT, Nat.reduceAdd, Nat.reduceSub, Nat.reduceMul, Nat.reduceLeDiff, Nat.reduceEqDiff, Nat.reduceBEq, Int.reduceToNat, Int.reduceLE, Int.reduceLT, Int.reduceEq, Int.reduceNeg, reduceCtorEq, ↓reduceIte, hb, o2]))))
      exact this
end Go.Proofs.YthiidchbaicfgaaGreatDoor
