/-
  THE WALKS, layer 13, PART 15: what a written text leaves; what stands for itself.
-/
import Derived.Test.YthiidchbaicfgaaGreatDoorZF
namespace Go.Proofs.YthiidchbaicfgaaGreatDoor
open Go Go.Id
set_option linter.unusedSimpArgs false
set_option linter.unusedVariables false
set_option maxRecDepth 100000
set_option maxHeartbeats 4000000

theorem Tidy.put' {σ : St} (h : Tidy σ) {j : Nat} {cs : List D} (hc : cs ≠ []) : Tidy (σ.put j (some (.cells cs))) := by
  cases cs with
  | nil => exact absurd rfl hc
  | cons c r => exact h.put c r
theorem ws_spec {σ : St} {j o : Nat} {cs : List D} {l : Nat} {bs s : List UInt8} (h : Bld σ j o cs l bs) (hd : bs ≠ [] → j ≠ l ∧ j ≠ l + 1 ∧ j ≠ l + 2) (hjn : j < σ.next) (hf : σ.Fresh) (ht : Tidy σ) (hn : bs ≠ [] → l + 3 ≤ σ.next) :
    ∃ l', (wsSt σ j o cs l bs s).obj j = some (.cells ((cs.set o (.ref j o)).set (o + 1) (bufD l' (bs ++ s)))) ∧ Buf (wsSt σ j o cs l bs s) l' (bs ++ s) ∧
      (bs ++ s ≠ [] → ((bs ≠ [] ∧ l' = l) ∨ σ.next ≤ l') ∧ l' + 3 ≤ (wsSt σ j o cs l bs s).next) ∧
      (∀ i, i < σ.next → i ≠ j → (bs ≠ [] → i ≠ l ∧ i ≠ l + 1 ∧ i ≠ l + 2) → (wsSt σ j o cs l bs s).obj i = σ.obj i) ∧
      (wsSt σ j o cs l bs s).Fresh ∧ Tidy (wsSt σ j o cs l bs s) ∧ σ.next ≤ (wsSt σ j o cs l bs s).next := by
  have hlt := h.lt
  have hne : cs.set o (.ref j o) ≠ [] := by
    intro e
    have := congrArg List.length e
    simp at this; subst this; simp at hlt
  have hne2 : ∀ x, (cs.set o (.ref j o)).set (o + 1) x ≠ [] := by
    intro x e
    have := congrArg List.length e
    simp at this; subst this; simp at hlt
  unfold wsSt
  split
  · rename_i hs
    subst hs
    have e : (cs.set o (.ref j o)).set (o + 1) (bufD l bs) = cs.set o (.ref j o) := by
      have : (cs.set o (.ref j o))[o + 1]? = some (bufD l bs) := by simp [h.h1]
      obtain ⟨_, g⟩ := List.getElem?_eq_some_iff.1 this
      conv => lhs; rw [← g]
      rw [List.set_getElem_self]
    refine ⟨l, ?_, ?_, ?_, ?_, put_fresh hf hjn _, ht.put' hne, Nat.le_refl _⟩
    · rw [put_obj, if_pos rfl, List.append_nil, e]
    · rw [List.append_nil]; exact h.buf.put hd
    · rw [List.append_nil]; exact fun g => ⟨.inl ⟨g, rfl⟩, hn g⟩
    · intro i h1 h2 h3
      rw [put_obj, if_neg h2]
  · rename_i hs
    have hbs : bs ++ s ≠ [] := by simp [hs]
    refine ⟨σ.next, ?_, ?_, ?_, ?_, ?_, ?_, ?_⟩
    · rw [put_obj, if_pos rfl]
    · exact (bufSt_new _ _ _ _).put fun _ => by omega
    · exact fun _ => ⟨.inr (Nat.le_refl _), Nat.le_refl _⟩
    · intro i h1 h2 h3
      rw [put_obj, if_neg h2]; exact bufSt_old h1 h3
    · exact put_fresh (bufSt_fresh hf _ _ _) (by rw [bufSt_next]; omega) _
    · exact (ht.buf hf h.buf hbs).put' (hne2 _)
    · show σ.next ≤ σ.next + 3; omega
/-- A builder of one's own, behind 'σ0'. -/
structure Own1 (σ0 : St) (bs : List UInt8) (s : St) : Prop where
  ex : ∃ a l, Bld s σ0.next 0 [a, bufD l bs] l bs ∧ (bs ≠ [] → σ0.next + 2 ≤ l ∧ l + 3 ≤ s.next)
  low : ∀ i, i < σ0.next → s.obj i = σ0.obj i
  nxt : σ0.next + 2 ≤ s.next
  fresh : s.Fresh
  tidy : Tidy s
theorem Own1.new {σ : St} (hf : σ.Fresh) (ht : Tidy σ) : Own1 σ [] ((σ.alloc (.cells [.nilp, .nils])).alloc (.ty σ.next 81 (some 2))) := by
  refine ⟨⟨.nilp, 0, ⟨?_, .inl rfl, rfl, ⟨81, ?_, by decide⟩, fun h => absurd rfl h⟩, fun h => absurd rfl h⟩, fun i hi => ?_, ?_, ?_, ?_⟩
  · rw [two_obj, if_neg (by omega), if_pos rfl]; rfl
  · rw [two_obj, if_pos rfl]; rfl
  · rw [two_obj, if_neg (by omega), if_neg (by omega)]
  · exact Nat.le_refl _
  · exact alloc_fresh (alloc_fresh hf _) _
  · refine (ht.alloc hf (by simp)).alloc_ty (alloc_fresh hf _) (.inl rfl) (c := .nilp) (cs := [.nils]) ?_
    rw [alloc_obj, if_pos rfl]
theorem Own1.ws {σ0 s : St} {bs : List UInt8} (h : Own1 σ0 bs s) (t : List UInt8) (hl : bs.length + t.length ≤ 10000000) {K : Out → St → Prop} (hk : ∀ s', Own1 σ0 (bs ++ t) s' → K (.ret (.tuple [.int .i64 t.length, .nili])) s') :
    goodFn Tryz.prog 57 = true ∧ Ok Tryz.prog 57 [.ref σ0.next 0, .str t] s K := by
  obtain ⟨a, l, hb, hn⟩ := h.ex
  have hnx := h.nxt
  have hd : bs ≠ [] → σ0.next ≠ l ∧ σ0.next ≠ l + 1 ∧ σ0.next ≠ l + 2 := fun g => by have := hn g; omega
  refine ⟨gd57, (ws57 hb hd (by omega) (by omega)).mono fun o s' ⟨h1, h2⟩ => ?_⟩
  subst h1
  obtain ⟨l', p1, p2, p3, p4, p5, p6, p7⟩ := ws_spec (s := t) hb hd (by omega) h.fresh h.tidy fun g => (hn g).2
  rw [← h2] at p1 p2 p3 p4 p5 p6 p7
  obtain ⟨T, hm, hT⟩ := hb.hm
  refine hk s' ⟨⟨.ref σ0.next 0, l', ⟨p1, .inr rfl, rfl, ⟨T, ?_, hT⟩, p2⟩, fun g => ?_⟩, fun i hi => ?_, by omega, p5, p6⟩
  · rw [p4 (σ0.next + 1) (by omega) (by omega) (fun g => by have := hn g; omega)]; exact hm
  · obtain ⟨q1, q2⟩ := p3 g
    refine ⟨?_, q2⟩
    rcases q1 with ⟨g1, rfl⟩ | q1
    · exact (hn g1).1
    · omega
  · rw [p4 i (by omega) (by omega) (fun g => by have := hn g; omega)]; exact h.low i hi
theorem Own1.wb {σ0 s : St} {bs : List UInt8} (h : Own1 σ0 bs s) (c : UInt8) {n : Int} (hn : n = c.toNat) (hl : bs.length ≤ 10000000) {K : Out → St → Prop} (hk : ∀ s', Own1 σ0 (bs ++ [c]) s' → K (.ret .nili) s') :
    goodFn Tryz.prog 56 = true ∧ Ok Tryz.prog 56 [.ref σ0.next 0, .int .u8 n] s K := by
  obtain ⟨a, l, hb, hn'⟩ := h.ex
  have hnx := h.nxt
  have hd : bs ≠ [] → σ0.next ≠ l ∧ σ0.next ≠ l + 1 ∧ σ0.next ≠ l + 2 := fun g => by have := hn' g; omega
  refine ⟨gd56, (wb56 c hn hb hd (by omega) (by omega)).mono fun o s' ⟨h1, h2⟩ => ?_⟩
  subst h1
  obtain ⟨l', p1, p2, p3, p4, p5, p6, p7⟩ := ws_spec (s := [c]) hb hd (by omega) h.fresh h.tidy fun g => (hn' g).2
  rw [← h2] at p1 p2 p3 p4 p5 p6 p7
  obtain ⟨T, hm, hT⟩ := hb.hm
  refine hk s' ⟨⟨.ref σ0.next 0, l', ⟨p1, .inr rfl, rfl, ⟨T, ?_, hT⟩, p2⟩, fun g => ?_⟩, fun i hi => ?_, by omega, p5, p6⟩
  · rw [p4 (σ0.next + 1) (by omega) (by omega) (fun g => by have := hn' g; omega)]; exact hm
  · obtain ⟨q1, q2⟩ := p3 g
    refine ⟨?_, q2⟩
    rcases q1 with ⟨g1, rfl⟩ | q1
    · exact (hn' g1).1
    · omega
  · rw [p4 i (by omega) (by omega) (fun g => by have := hn' g; omega)]; exact h.low i hi
theorem Own1.str {σ0 s : St} {bs : List UInt8} (h : Own1 σ0 bs s) (hl : bs.length ≤ 10000000) {K : Out → St → Prop} (hk : ∀ s', (∀ i, i < σ0.next → s'.obj i = σ0.obj i) → σ0.next ≤ s'.next → K (.ret (.str bs)) s') :
    goodFn Tryz.prog 30 = true ∧ Ok Tryz.prog 30 [.ref σ0.next 0] s K := by
  obtain ⟨a, l, hb, hn⟩ := h.ex
  have hnx := h.nxt
  refine ⟨gd30, (str30 hb (by omega)).mono fun o s' ⟨h1, h2⟩ => ?_⟩
  subst h1
  refine hk s' (fun i hi => ?_) ?_
  · rw [h2, strSt_obj h.tidy hb.buf i fun g => by have := hn g; omega]; exact h.low i hi
  · rw [h2, strSt_next]; omega
/-- What stands for itself. -/
def isMeta (c : UInt8) : Bool := [42, 63, 91, 93, 33, 45, 92].contains c
def quoteB : List UInt8 → List UInt8
  | [] => []
  | c :: r => (if isMeta c then [92, c] else [c]) ++ quoteB r
theorem quoteB_app : ∀ a b : List UInt8, quoteB (a ++ b) = quoteB a ++ quoteB b
  | [], b => rfl
  | c :: r, b => by simp [quoteB, quoteB_app r b]
theorem quoteB_len : ∀ a : List UInt8, (quoteB a).length ≤ 2 * a.length
  | [] => Nat.le_refl _
  | c :: r => by
    have := quoteB_len r
    simp only [quoteB, List.length_append, List.length_cons]
    split <;> simp <;> omega
theorem take_step (s : List UInt8) (i : Nat) (h : i < s.length) : s.take (i + 1) = s.take i ++ [s.getD i 0] := by
  rw [List.take_add_one]; simp [h]
theorem quote35 (s : List UInt8) (hs : s.length ≤ 1000000) {σ : St} (ht : Tidy σ) : Ok Tryz.prog 35 [.str s] σ (fun o s' => (∃ m, σ.next ≤ m ∧ s' = ⟨σ.obj, m⟩) ∧ o = .ret (.str (quoteB s))) := by
  refine Ok.fresh fun hf => Ok.drop ?_
  apply en35
  simp -dsimp (maxSteps := 2000000) (disch := first | omega | (simp; done) | (simp; omega)) only [SA, SB, SC, SD, SE, SF, SG, SI, Nat.reduceLT, Nat.reduceAdd, Nat.reduceSub, Nat.reduceMul, Nat.reduceLeDiff, Nat.reduceEqDiff, Nat.reduceBEq, Int.reduceToNat, Int.reduceLE, Int.reduceLT, Int.reduceEq, Int.reduceNeg, reduceCtorEq, ↓reduceIte, ic35, List.replicate_succ, List.replicate_zero]
  (repeat' (first | simp -dsimp (maxSteps := 2000000) (disch := first | omega | (simp; done) | (simp; omega)) only [SA, SB, SC, SD, SE, SF, SG, SI, Nat.reduceLT, Nat.reduceAdd, Nat.reduceSub, Nat.reduceMul, Nat.reduceLeDiff, Nat.reduceEqDiff, Nat.reduceBEq, Int.reduceToNat, Int.reduceLE, Int.reduceLT, Int.reduceEq, Int.reduceNeg, reduceCtorEq, ↓reduceIte] | refine Cut.go ?_ | refine Both.intro ?_ ?_ | (refine Br.intro ?_ ?_ <;> intro hb <;> have hb' := hb <;> (try simp only [SH] at hb') <;> (try simp -dsimp (maxSteps := 2000000) (disch := first | omega | (simp; done) | (simp; omega)) only [SA, SB, SC, SD, SE, SF, SG, SI, Nat.reduceLT, Nat.reduceAdd, Nat.reduceSub, Nat.reduceMul, Nat.reduceLeDiff, Nat.reduceEqDiff, Nat.reduceBEq, Int.reduceToNat, Int.reduceLE, Int.reduceLT, Int.reduceEq, Int.reduceNeg, reduceCtorEq, ↓reduceIte, hb]))))
  refine loop_go (α := Nat × St) (fun a => [.str s, .junk, .str [], .ref σ.next 0, .junk, .str s, .int .i64 s.length, .int .i64 a.1] ++ List.replicate 14 .junk) (fun a => a.2) (fun a => s.length - a.1) (fun a => a.1 ≤ s.length ∧ Own1 σ (quoteB (s.take a.1)) a.2) (0, _) ⟨Nat.zero_le _, Own1.new hf ht⟩ (by ((try simp only [List.replicate_succ, List.replicate_zero, List.cons_append, List.nil_append]); repeat' (first | exact trivial | refine ⟨.inl rfl, ?_⟩ | refine ⟨.inr rfl, ?_⟩ | refine ⟨.inr (by simp), ?_⟩))) (Drops.refl _) ?_
  rintro ⟨i, t⟩ ⟨h1, ho⟩
  simp only [] at h1 ho ⊢
  simp -dsimp (maxSteps := 2000000) (disch := first | omega | (simp; done) | (simp; omega)) only [SA, SB, SC, SD, SE, SF, SG, SI, Nat.reduceLT, Nat.reduceAdd, Nat.reduceSub, Nat.reduceMul, Nat.reduceLeDiff, Nat.reduceEqDiff, Nat.reduceBEq, Int.reduceToNat, Int.reduceLE, Int.reduceLT, Int.reduceEq, Int.reduceNeg, reduceCtorEq, ↓reduceIte, List.replicate_succ, List.replicate_zero]
  have hq : (quoteB (s.take i)).length ≤ 2000000 := by
    have := quoteB_len (s.take i)
    have : (s.take i).length ≤ s.length := by simp; omega
    omega
  have e2 : i < s.length → quoteB (s.take (i + 1)) = quoteB (s.take i) ++ ((if isMeta (s.getD i 0) then [92, s.getD i 0] else [s.getD i 0])) := fun hi => by
    rw [take_step s i hi, quoteB_app]; simp [quoteB]
  (repeat' (first | simp -dsimp (maxSteps := 2000000) (disch := first | omega | (simp; done) | (simp; omega)) only [SA, SB, SC, SD, SE, SF, SG, SI, Nat.reduceLT, Nat.reduceAdd, Nat.reduceSub, Nat.reduceMul, Nat.reduceLeDiff, Nat.reduceEqDiff, Nat.reduceBEq, Int.reduceToNat, Int.reduceLE, Int.reduceLT, Int.reduceEq, Int.reduceNeg, reduceCtorEq, ↓reduceIte, idx_at, idx_nonneg] | refine Cut.go ?_ | refine Both.intro ?_ ?_ | refine via gd52 (ib52 _ _ _) ?_ | (refine Br.intro ?_ ?_ <;> intro hb <;> have hb' := hb <;> (try simp only [SH] at hb') <;> (try simp -dsimp (maxSteps := 2000000) (disch := first | omega | (simp; done) | (simp; omega)) only [SA, SB, SC, SD, SE, SF, SG, SI, Nat.reduceLT, Nat.reduceAdd, Nat.reduceSub, Nat.reduceMul, Nat.reduceLeDiff, Nat.reduceEqDiff, Nat.reduceBEq, Int.reduceToNat, Int.reduceLE, Int.reduceLT, Int.reduceEq, Int.reduceNeg, reduceCtorEq, ↓reduceIte, hb, idx_at, idx_nonneg]))))
  · have hm : isMeta (s.getD i 0) = true := hb
    refine ho.wb 92 rfl (by omega) fun t1 ho1 => ?_
    (repeat' (first | simp -dsimp (maxSteps := 2000000) (disch := first | omega | (simp; done) | (simp; omega)) only [SA, SB, SC, SD, SE, SF, SG, SI, Nat.reduceLT, Nat.reduceAdd, Nat.reduceSub, Nat.reduceMul, Nat.reduceLeDiff, Nat.reduceEqDiff, Nat.reduceBEq, Int.reduceToNat, Int.reduceLE, Int.reduceLT, Int.reduceEq, Int.reduceNeg, reduceCtorEq, ↓reduceIte, idx_at] | refine Cut.go ?_ | refine Both.intro ?_ ?_ | (refine Br.intro ?_ ?_ <;> intro hb <;> have hb' := hb <;> (try simp only [SH] at hb') <;> (try simp -dsimp (maxSteps := 2000000) (disch := first | omega | (simp; done) | (simp; omega)) only [SA, SB, SC, SD, SE, SF, SG, SI, Nat.reduceLT, Nat.reduceAdd, Nat.reduceSub, Nat.reduceMul, Nat.reduceLeDiff, Nat.reduceEqDiff, Nat.reduceBEq, Int.reduceToNat, Int.reduceLE, Int.reduceLT, Int.reduceEq, Int.reduceNeg, reduceCtorEq, ↓reduceIte, hb, idx_at]))))
    refine ho1.wb (s.getD i 0) rfl (by simp; omega) fun t2 ho2 => ?_
    (repeat' (first | simp -dsimp (maxSteps := 2000000) (disch := first | omega | (simp; done) | (simp; omega)) only [SA, SB, SC, SD, SE, SF, SG, SI, Nat.reduceLT, Nat.reduceAdd, Nat.reduceSub, Nat.reduceMul, Nat.reduceLeDiff, Nat.reduceEqDiff, Nat.reduceBEq, Int.reduceToNat, Int.reduceLE, Int.reduceLT, Int.reduceEq, Int.reduceNeg, reduceCtorEq, ↓reduceIte] | refine Cut.go ?_ | refine Both.intro ?_ ?_ | (refine Br.intro ?_ ?_ <;> intro hb <;> have hb' := hb <;> (try simp only [SH] at hb') <;> (try simp -dsimp (maxSteps := 2000000) (disch := first | omega | (simp; done) | (simp; omega)) only [SA, SB, SC, SD, SE, SF, SG, SI, Nat.reduceLT, Nat.reduceAdd, Nat.reduceSub, Nat.reduceMul, Nat.reduceLeDiff, Nat.reduceEqDiff, Nat.reduceBEq, Int.reduceToNat, Int.reduceLE, Int.reduceLT, Int.reduceEq, Int.reduceNeg, reduceCtorEq, ↓reduceIte, hb]))))
    refine Round.go (i + 1, t2) (by simp only []; omega) ⟨by simp only []; omega, ?_⟩ (by ((try simp only [List.replicate_succ, List.replicate_zero, List.cons_append, List.nil_append]); repeat' (first | exact trivial | refine ⟨.inl rfl, ?_⟩ | refine ⟨.inr rfl, ?_⟩ | refine ⟨.inr (by simp), ?_⟩))) (Drops.refl _)
    simp only []
    rw [e2 (by omega), hm]
    simpa using ho2
  · have hm : isMeta (s.getD i 0) = false := hb
    refine ho.wb (s.getD i 0) rfl (by omega) fun t2 ho2 => ?_
    (repeat' (first | simp -dsimp (maxSteps := 2000000) (disch := first | omega | (simp; done) | (simp; omega)) only [SA, SB, SC, SD, SE, SF, SG, SI, Nat.reduceLT, Nat.reduceAdd, Nat.reduceSub, Nat.reduceMul, Nat.reduceLeDiff, Nat.reduceEqDiff, Nat.reduceBEq, Int.reduceToNat, Int.reduceLE, Int.reduceLT, Int.reduceEq, Int.reduceNeg, reduceCtorEq, ↓reduceIte] | refine Cut.go ?_ | refine Both.intro ?_ ?_ | (refine Br.intro ?_ ?_ <;> intro hb <;> have hb' := hb <;> (try simp only [SH] at hb') <;> (try simp -dsimp (maxSteps := 2000000) (disch := first | omega | (simp; done) | (simp; omega)) only [SA, SB, SC, SD, SE, SF, SG, SI, Nat.reduceLT, Nat.reduceAdd, Nat.reduceSub, Nat.reduceMul, Nat.reduceLeDiff, Nat.reduceEqDiff, Nat.reduceBEq, Int.reduceToNat, Int.reduceLE, Int.reduceLT, Int.reduceEq, Int.reduceNeg, reduceCtorEq, ↓reduceIte, hb]))))
    refine Round.go (i + 1, t2) (by simp only []; omega) ⟨by simp only []; omega, ?_⟩ (by ((try simp only [List.replicate_succ, List.replicate_zero, List.cons_append, List.nil_append]); repeat' (first | exact trivial | refine ⟨.inl rfl, ?_⟩ | refine ⟨.inr rfl, ?_⟩ | refine ⟨.inr (by simp), ?_⟩))) (Drops.refl _)
    simp only []
    rw [e2 (by omega), hm]
    simpa using ho2
  · have e : s.take i = s := List.take_of_length_le (by omega)
    rw [e] at ho
    have := quoteB_len s
    refine ho.str (by omega) fun t1 g1 g2 => ?_
    (repeat' (first | simp -dsimp (maxSteps := 2000000) (disch := first | omega | (simp; done) | (simp; omega)) only [SA, SB, SC, SD, SE, SF, SG, SI, Nat.reduceLT, Nat.reduceAdd, Nat.reduceSub, Nat.reduceMul, Nat.reduceLeDiff, Nat.reduceEqDiff, Nat.reduceBEq, Int.reduceToNat, Int.reduceLE, Int.reduceLT, Int.reduceEq, Int.reduceNeg, reduceCtorEq, ↓reduceIte] | refine Cut.go ?_ | refine Both.intro ?_ ?_ | (refine Br.intro ?_ ?_ <;> intro hb <;> have hb' := hb <;> (try simp only [SH] at hb') <;> (try simp -dsimp (maxSteps := 2000000) (disch := first | omega | (simp; done) | (simp; omega)) only [SA, SB, SC, SD, SE, SF, SG, SI, Nat.reduceLT, Nat.reduceAdd, Nat.reduceSub, Nat.reduceMul, Nat.reduceLeDiff, Nat.reduceEqDiff, Nat.reduceBEq, Int.reduceToNat, Int.reduceLE, Int.reduceLT, Int.reduceEq, Int.reduceNeg, reduceCtorEq, ↓reduceIte, hb]))))
    exact ⟨_, drops_old hf g1, _, g2, rfl⟩
end Go.Proofs.YthiidchbaicfgaaGreatDoor
