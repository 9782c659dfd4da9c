/-
  THE WALKS, layer 13, PART 29: atoms of a variable, or of a text in quotes.
-/
import Derived.Test.YthiidchbaicfgaaGreatDoorZT
namespace Go.Proofs.YthiidchbaicfgaaGreatDoor
open Go Go.Id
set_option linter.unusedSimpArgs false
set_option linter.unusedVariables false
set_option maxRecDepth 100000
set_option maxHeartbeats 8000000

theorem hasp98 (σ : St) : Ok Tryz.prog 98 [.str [], .str [58]] σ (fun o s => o = .ret (.bool false) ∧ s = σ) := by
  apply en98
  simp -dsimp (maxSteps := 2000000) (disch := first | omega | (simp; done) | (simp; omega)) only [SA, SB, SC, SD, SE, SF, SG, SI, Nat.reduceLT, Nat.reduceAdd, Nat.reduceSub, Nat.reduceMul, Nat.reduceLeDiff, Nat.reduceEqDiff, Nat.reduceBEq, Int.reduceToNat, Int.reduceLE, Int.reduceLT, Int.reduceEq, Int.reduceNeg, reduceCtorEq, ↓reduceIte, ic98, List.replicate_succ, List.replicate_zero]
  have z : decide (((0 : Nat) : Int) ≥ ((1 : Nat) : Int)) = false := rfl
  (repeat' (first | simp -dsimp (maxSteps := 2000000) (disch := first | omega | (simp; done) | (simp; omega)) only [SA, SB, SC, SD, SE, SF, SG, SI, Nat.reduceLT, Nat.reduceAdd, Nat.reduceSub, Nat.reduceMul, Nat.reduceLeDiff, Nat.reduceEqDiff, Nat.reduceBEq, Int.reduceToNat, Int.reduceLE, Int.reduceLT, Int.reduceEq, Int.reduceNeg, reduceCtorEq, ↓reduceIte, z] | refine Cut.go ?_ | refine Both.intro ?_ ?_ | (refine Br.intro ?_ ?_ <;> intro hb <;> have hb' := hb <;> (try simp only [SH] at hb') <;> (try simp -dsimp (maxSteps := 2000000) (disch := first | omega | (simp; done) | (simp; omega)) only [SA, SB, SC, SD, SE, SF, SG, SI, Nat.reduceLT, Nat.reduceAdd, Nat.reduceSub, Nat.reduceMul, Nat.reduceLeDiff, Nat.reduceEqDiff, Nat.reduceBEq, Int.reduceToNat, Int.reduceLE, Int.reduceLT, Int.reduceEq, Int.reduceNeg, reduceCtorEq, ↓reduceIte, hb, z]))))
theorem cutp99 (σ : St) : Ok Tryz.prog 99 [.str [], .str [58]] σ (fun o s => o = .ret (.tuple [.str [], .bool false]) ∧ s = σ) := by
  apply en99
  simp -dsimp (maxSteps := 2000000) (disch := first | omega | (simp; done) | (simp; omega)) only [SA, SB, SC, SD, SE, SF, SG, SI, Nat.reduceLT, Nat.reduceAdd, Nat.reduceSub, Nat.reduceMul, Nat.reduceLeDiff, Nat.reduceEqDiff, Nat.reduceBEq, Int.reduceToNat, Int.reduceLE, Int.reduceLT, Int.reduceEq, Int.reduceNeg, reduceCtorEq, ↓reduceIte, ic99, List.replicate_succ, List.replicate_zero]
  (repeat' (first | simp -dsimp (maxSteps := 2000000) (disch := first | omega | (simp; done) | (simp; omega)) only [SA, SB, SC, SD, SE, SF, SG, SI, Nat.reduceLT, Nat.reduceAdd, Nat.reduceSub, Nat.reduceMul, Nat.reduceLeDiff, Nat.reduceEqDiff, Nat.reduceBEq, Int.reduceToNat, Int.reduceLE, Int.reduceLT, Int.reduceEq, Int.reduceNeg, reduceCtorEq, ↓reduceIte] | refine Cut.go ?_ | refine Both.intro ?_ ?_ | refine via gd98 (hasp98 _) ?_ | (refine Br.intro ?_ ?_ <;> intro hb <;> have hb' := hb <;> (try simp only [SH] at hb') <;> (try simp -dsimp (maxSteps := 2000000) (disch := first | omega | (simp; done) | (simp; omega)) only [SA, SB, SC, SD, SE, SF, SG, SI, Nat.reduceLT, Nat.reduceAdd, Nat.reduceSub, Nat.reduceMul, Nat.reduceLeDiff, Nat.reduceEqDiff, Nat.reduceBEq, Int.reduceToNat, Int.reduceLE, Int.reduceLT, Int.reduceEq, Int.reduceNeg, reduceCtorEq, ↓reduceIte, hb]))))
theorem cutp80 (σ : St) : Ok Tryz.prog 80 [.str [], .str [58]] σ (fun o s => o = .ret (.tuple [.str [], .bool false]) ∧ s = σ) := by
  apply en80
  simp -dsimp (maxSteps := 2000000) (disch := first | omega | (simp; done) | (simp; omega)) only [SA, SB, SC, SD, SE, SF, SG, SI, Nat.reduceLT, Nat.reduceAdd, Nat.reduceSub, Nat.reduceMul, Nat.reduceLeDiff, Nat.reduceEqDiff, Nat.reduceBEq, Int.reduceToNat, Int.reduceLE, Int.reduceLT, Int.reduceEq, Int.reduceNeg, reduceCtorEq, ↓reduceIte, ic80, List.replicate_succ, List.replicate_zero]
  (repeat' (first | simp -dsimp (maxSteps := 2000000) (disch := first | omega | (simp; done) | (simp; omega)) only [SA, SB, SC, SD, SE, SF, SG, SI, Nat.reduceLT, Nat.reduceAdd, Nat.reduceSub, Nat.reduceMul, Nat.reduceLeDiff, Nat.reduceEqDiff, Nat.reduceBEq, Int.reduceToNat, Int.reduceLE, Int.reduceLT, Int.reduceEq, Int.reduceNeg, reduceCtorEq, ↓reduceIte] | refine Cut.go ?_ | refine Both.intro ?_ ?_ | refine via gd99 (cutp99 _) ?_ | (refine Br.intro ?_ ?_ <;> intro hb <;> have hb' := hb <;> (try simp only [SH] at hb') <;> (try simp -dsimp (maxSteps := 2000000) (disch := first | omega | (simp; done) | (simp; omega)) only [SA, SB, SC, SD, SE, SF, SG, SI, Nat.reduceLT, Nat.reduceAdd, Nat.reduceSub, Nat.reduceMul, Nat.reduceLeDiff, Nat.reduceEqDiff, Nat.reduceBEq, Int.reduceToNat, Int.reduceLE, Int.reduceLT, Int.reduceEq, Int.reduceNeg, reduceCtorEq, ↓reduceIte, hb]))))
def lsA (l : List Atm) (tk : Nat) : D := if l = [] then .nils else .slc 4 (l.map atomD) (.opened tk)
theorem lsA_atoms (l : List Atm) (tk : Nat) : Atoms (lsA l tk) l := by
  unfold lsA
  split
  · rename_i h; subst h; exact .anil
  · exact .asome _ _
theorem lsA_scal (l : List Atm) (tk : Nat) : scal (lsA l tk) = true := by unfold lsA; split <;> rfl
/-- Atoms under way, behind 'σ0'. -/
structure Exp (σ0 : St) (j : Nat) (al : List Atm) (s : St) : Prop where
  ex : ∃ tk, s.obj σ0.next = some (.cells [.ref j 0, theHost, lsA al tk]) ∧ (al ≠ [] → s.obj tk = some .tok ∧ σ0.next < tk ∧ tk < s.next)
  low : ∀ i, i < σ0.next → s.obj i = σ0.obj i
  fresh : s.Fresh
  nxt : σ0.next < s.next
theorem Exp.grow {σ0 s s' : St} {j : Nat} {al : List Atm} (h : Exp σ0 j al s) (ho : ∀ i, i < s.next → s'.obj i = s.obj i) (hn : s.next ≤ s'.next) (hf : s'.Fresh) : Exp σ0 j al s' := by
  obtain ⟨tk, h1, h2⟩ := h.ex
  have := h.nxt
  refine ⟨⟨tk, by rw [ho _ this]; exact h1, fun g => ?_⟩, fun i hi => by rw [ho i (by omega)]; exact h.low i hi, hf, by omega⟩
  obtain ⟨a, b, c⟩ := h2 g
  exact ⟨by rw [ho _ c]; exact a, b, by omega⟩
theorem exp_app {σ0 s : St} {j : Nat} {al : List Atm} (h : Exp σ0 j al s) (hl : al.length ≤ 1000000) (a : Atm) {tk : Nat} (h1 : s.obj σ0.next = some (.cells [.ref j 0, theHost, lsA al tk])) :
    ∃ s1 : St, iappend 4 24 (lsA al tk) (.slc 4 [atomD a] .exact) s = some (lsA (al ++ [a]) s.next, s1) ∧ s1.obj σ0.next = some (.cells [.ref j 0, theHost, lsA al tk]) ∧ Exp σ0 j (al ++ [a]) (s1.put σ0.next (some (.cells [.ref j 0, theHost, lsA (al ++ [a]) s.next]))) := by
  have hm : maxLen = 2 ^ 63 - 1 := rfl
  have hn := h.nxt
  obtain ⟨tk', h1', h2⟩ := h.ex
  have hne : al ++ [a] ≠ [] := by simp
  have key : ∀ s1 : St, s1.next = s.next → s1.Fresh → (∀ i, i < s.next → (al ≠ [] → i ≠ tk) → s1.obj i = s.obj i) → (al ≠ [] → σ0.next < tk) → (s1.alloc .tok).obj σ0.next = some (.cells [.ref j 0, theHost, lsA al tk]) ∧ Exp σ0 j (al ++ [a]) ((s1.alloc .tok).put σ0.next (some (.cells [.ref j 0, theHost, lsA (al ++ [a]) s.next]))) := fun s1 k1 k2 k3 k4 => by
    refine ⟨?_, ⟨s.next, ?_, fun _ => ⟨?_, hn, ?_⟩⟩, fun i hi => ?_, put_fresh (alloc_fresh k2 _) (by rw [alloc_next]; omega) _, ?_⟩
    · rw [alloc_obj, if_neg (by omega), k3 _ hn fun g => by have := k4 g; omega]; exact h1
    · rw [put_obj, if_pos rfl]
    · rw [put_obj, if_neg (by omega), alloc_obj, if_pos k1.symm]
    · show s.next < s1.next + 1; omega
    · rw [put_obj, if_neg (by omega), alloc_obj, if_neg (by omega), k3 i (by omega) fun g => by have := k4 g; omega]; exact h.low i hi
    · show σ0.next < s1.next + 1; omega
  by_cases hL : al = []
  · subst hL
    exact ⟨s.alloc .tok, rfl, key s rfl h.fresh (fun _ _ _ => rfl) fun g => absurd rfl g⟩
  · have htk : tk' = tk := by
      rw [h1] at h1'
      simp only [lsA, if_neg hL, Option.some.injEq, Ob.cells.injEq, List.cons.injEq, D.slc.injEq, Room.opened.injEq] at h1'
      exact h1'.2.2.1.2.2.symm
    subst htk
    obtain ⟨g1, g2, g3⟩ := h2 hL
    refine ⟨(s.put tk' none).alloc .tok, ?_, key (s.put tk' none) rfl (fun i hi => ?_) (fun i hi hi2 => by rw [put_obj, if_neg (hi2 hL)]) fun _ => g2⟩
    · simp only [iappend, lsA, if_neg hL, if_neg hne, elems, if_true, List.length_cons, List.length_nil, List.length_map, g1, List.map_append, List.map_cons, List.map_nil]
      rw [if_neg (by omega), if_pos (by refine ⟨trivial, ?_, ?_⟩ <;> omega)]
    · have : s.next ≤ i := hi
      rw [put_obj, if_neg (by omega)]; exact h.fresh i this
theorem Exp.put {σ0 s : St} {j : Nat} {al : List Atm} (h : Exp σ0 j al s) (hl : al.length ≤ 1000000) (t : List UInt8) (q : Bool) {K : Out → St → Prop} (hk : ∀ s', Exp σ0 j (al ++ [⟨t, q, !q, false⟩]) s' → K (.ret (.tuple [])) s') :
    goodFn Tryz.prog 68 = true ∧ Ok Tryz.prog 68 [.ref σ0.next 0, .str t, .bool q] s K := by
  obtain ⟨tk, h1, _⟩ := h.ex
  obtain ⟨s1, e1, e2, e3⟩ := exp_app h hl ⟨t, q, !q, false⟩ h1
  have dl := dcells_sc (lsA_scal (al ++ [⟨t, q, !q, false⟩]) s.next)
  have sl := lsA_scal al tk
  have lx : cellsAt [D.ref j 0, theHost, lsA al tk] 2 none = some (lsA al tk) := by simp [cellsAt, sl]
  refine ⟨gd68, ?_⟩
  unfold atomD at e1
  simp only [] at e1
  apply en68
  simp -dsimp (maxSteps := 2000000) (disch := first | omega | (simp; done) | (simp; omega)) only [SA, SB, SC, SD, SE, SF, SG, SI, Nat.reduceLT, Nat.reduceAdd, Nat.reduceSub, Nat.reduceMul, Nat.reduceLeDiff, Nat.reduceEqDiff, Nat.reduceBEq, Int.reduceToNat, Int.reduceLE, Int.reduceLT, Int.reduceEq, Int.reduceNeg, reduceCtorEq, ↓reduceIte, ic68, List.replicate_succ, List.replicate_zero]
  (repeat' (first | simp -dsimp (maxSteps := 2000000) (disch := first | omega | (simp; done) | (simp; omega)) only [SA, SB, SC, SD, SE, SF, SG, SI, Nat.reduceLT, Nat.reduceAdd, Nat.reduceSub, Nat.reduceMul, Nat.reduceLeDiff, Nat.reduceEqDiff, Nat.reduceBEq, Int.reduceToNat, Int.reduceLE, Int.reduceLT, Int.reduceEq, Int.reduceNeg, reduceCtorEq, ↓reduceIte, h1, lx, e1, dl, e2] | refine Cut.go ?_ | refine Both.intro ?_ ?_ | (refine Br.intro ?_ ?_ <;> intro hb <;> have hb' := hb <;> (try simp only [SH] at hb') <;> (try simp -dsimp (maxSteps := 2000000) (disch := first | omega | (simp; done) | (simp; omega)) only [SA, SB, SC, SD, SE, SF, SG, SI, Nat.reduceLT, Nat.reduceAdd, Nat.reduceSub, Nat.reduceMul, Nat.reduceLeDiff, Nat.reduceEqDiff, Nat.reduceBEq, Int.reduceToNat, Int.reduceLE, Int.reduceLT, Int.reduceEq, Int.reduceNeg, reduceCtorEq, ↓reduceIte, hb, h1, lx, e1, dl, e2]))))
  exact hk _ e3
theorem op_a : (([] : List UInt8) == [45]) = false := rfl
theorem op_b : (([] : List UInt8) == [43]) = false := rfl
theorem op_c : (([] : List UInt8) == [63]) = false := rfl
theorem op_d : (([] : List UInt8) == [61]) = false := rfl
theorem op_e : (([] : List UInt8) == [108, 101, 110]) = false := rfl
theorem op_f : (([] : List UInt8) == [35]) = false := rfl
theorem op_g : (([] : List UInt8) == [35, 35]) = false := rfl
theorem op_h : (([] : List UInt8) == [37]) = false := rfl
theorem op_i : (([] : List UInt8) == [37, 37]) = false := rfl
theorem Exp.param {σ0 s : St} {j : Nat} {l : Vs} {y z : D} {al : List Atm} (h : Exp σ0 j al s) (hf : σ0.Fresh) (ht : TabAt σ0 j l y z) (hl : al.length ≤ 1000000) {n : List UInt8} (hn : nameB n = true) (q : Bool) {K : Out → St → Prop}
    (hk : ∀ s', Exp σ0 j (al ++ [⟨(tget n l).getD [], q, !q, false⟩]) s' → K (.ret (.int .i64 0)) s') :
    goodFn Tryz.prog 67 = true ∧ Ok Tryz.prog 67 [.ref σ0.next 0, .agg [.int .i64 2, .bool q, .str n, .str [], .nils]] s K := by
  obtain ⟨tk, h1, _⟩ := h.ex
  have hnx := h.nxt
  have sl := lsA_scal al tk
  have sh : scal theHost = true := rfl
  have hE : Exp σ0 j al (s.alloc (.cells [.int .i64 2, .bool q, .str n, .str [], .nils])) := h.grow (fun i hi => by rw [alloc_obj, if_neg (by omega)]) (by rw [alloc_next]; omega) (alloc_fresh h.fresh _)
  have hT : TabAt (s.alloc (.cells [.int .i64 2, .bool q, .str n, .str [], .nils])) j l y z := ht.low hf hE.low (by have := hE.nxt; omega)
  have o1 : (s.alloc (.cells [.int .i64 2, .bool q, .str n, .str [], .nils])).obj σ0.next = some (.cells [.ref j 0, theHost, lsA al tk]) := by rw [alloc_obj, if_neg (by omega)]; exact h1
  have o2 : (s.alloc (.cells [.int .i64 2, .bool q, .str n, .str [], .nils])).obj s.next = some (.cells [.int .i64 2, .bool q, .str n, .str [], .nils]) := by rw [alloc_obj, if_pos rfl]
  have w1 : (σ0.next = s.next) = False := by simp; omega
  have e1 : (n == [64]) = false := name_not hn 64 (by decide)
  have e2 : (n == [42]) = false := name_not hn 42 (by decide)
  refine ⟨gd67, ?_⟩
  apply en67
  simp -dsimp (maxSteps := 2000000) (disch := first | omega | (simp; done) | (simp; omega)) only [SA, SB, SC, SD, SE, SF, SG, SI, Nat.reduceLT, Nat.reduceAdd, Nat.reduceSub, Nat.reduceMul, Nat.reduceLeDiff, Nat.reduceEqDiff, Nat.reduceBEq, Int.reduceToNat, Int.reduceLE, Int.reduceLT, Int.reduceEq, Int.reduceNeg, reduceCtorEq, ↓reduceIte, ic67, List.replicate_succ, List.replicate_zero]
  (repeat' (first | simp -dsimp (maxSteps := 2000000) (disch := first | omega | (simp; done) | (simp; omega)) only [SA, SB, SC, SD, SE, SF, SG, SI, Nat.reduceLT, Nat.reduceAdd, Nat.reduceSub, Nat.reduceMul, Nat.reduceLeDiff, Nat.reduceEqDiff, Nat.reduceBEq, Int.reduceToNat, Int.reduceLE, Int.reduceLT, Int.reduceEq, Int.reduceNeg, reduceCtorEq, ↓reduceIte, w1, h1] | refine Cut.go ?_ | refine Both.intro ?_ ?_ | (refine Br.intro ?_ ?_ <;> intro hb <;> have hb' := hb <;> (try simp only [SH] at hb') <;> (try simp -dsimp (maxSteps := 2000000) (disch := first | omega | (simp; done) | (simp; omega)) only [SA, SB, SC, SD, SE, SF, SG, SI, Nat.reduceLT, Nat.reduceAdd, Nat.reduceSub, Nat.reduceMul, Nat.reduceLeDiff, Nat.reduceEqDiff, Nat.reduceBEq, Int.reduceToNat, Int.reduceLE, Int.reduceLT, Int.reduceEq, Int.reduceNeg, reduceCtorEq, ↓reduceIte, hb, w1, h1]))))
  generalize hS : (s.alloc (.cells [.int .i64 2, .bool q, .str n, .str [], .nils])) = S at *
  refine ⟨gd54, (get54n hT hn).mono fun o s' g => ?_⟩
  obtain ⟨⟨m, hm, rfl⟩, rfl⟩ := g
  have hE2 : Exp σ0 j al ⟨S.obj, m⟩ := hE.grow (fun _ _ => rfl) hm fun i hi => hE.fresh i (Nat.le_trans hm hi)
  have hE3 : ∀ {K' : Out → St → Prop}, (∀ s', Exp σ0 j (al ++ [⟨(tget n l).getD [], q, !q, false⟩]) s' → K' (.ret (.tuple [])) s') → goodFn Tryz.prog 68 = true ∧ Ok Tryz.prog 68 [.ref σ0.next 0, .str ((tget n l).getD []), .bool q] ⟨S.obj, m⟩ K' := fun h' => hE2.put hl _ _ h'
  (repeat' (first | simp -dsimp (maxSteps := 2000000) (disch := first | omega | (simp; done) | (simp; omega)) only [SA, SB, SC, SD, SE, SF, SG, SI, Nat.reduceLT, Nat.reduceAdd, Nat.reduceSub, Nat.reduceMul, Nat.reduceLeDiff, Nat.reduceEqDiff, Nat.reduceBEq, Int.reduceToNat, Int.reduceLE, Int.reduceLT, Int.reduceEq, Int.reduceNeg, reduceCtorEq, ↓reduceIte, o1, o2, e1, e2, op_a, op_b, op_c, op_d, op_e, op_f, op_g, op_h, op_i] | refine Cut.go ?_ | refine Both.intro ?_ ?_ | refine via gd80 (cutp80 _) ?_ | (refine Br.intro ?_ ?_ <;> intro hb <;> have hb' := hb <;> (try simp only [SH] at hb') <;> (try simp -dsimp (maxSteps := 2000000) (disch := first | omega | (simp; done) | (simp; omega)) only [SA, SB, SC, SD, SE, SF, SG, SI, Nat.reduceLT, Nat.reduceAdd, Nat.reduceSub, Nat.reduceMul, Nat.reduceLeDiff, Nat.reduceEqDiff, Nat.reduceBEq, Int.reduceToNat, Int.reduceLE, Int.reduceLT, Int.reduceEq, Int.reduceNeg, reduceCtorEq, ↓reduceIte, hb, o1, o2, e1, e2, op_a, op_b, op_c, op_d, op_e, op_f, op_g, op_h, op_i]))))
  all_goals refine hE3 fun s' h' => ?_
  all_goals (repeat' (first | simp -dsimp (maxSteps := 2000000) (disch := first | omega | (simp; done) | (simp; omega)) only [SA, SB, SC, SD, SE, SF, SG, SI, Nat.reduceLT, Nat.reduceAdd, Nat.reduceSub, Nat.reduceMul, Nat.reduceLeDiff, Nat.reduceEqDiff, Nat.reduceBEq, Int.reduceToNat, Int.reduceLE, Int.reduceLT, Int.reduceEq, Int.reduceNeg, reduceCtorEq, ↓reduceIte] | refine Cut.go ?_ | refine Both.intro ?_ ?_ | (refine Br.intro ?_ ?_ <;> intro hb <;> have hb' := hb <;> (try simp only [SH] at hb') <;> (try simp -dsimp (maxSteps := 2000000) (disch := first | omega | (simp; done) | (simp; omega)) only [SA, SB, SC, SD, SE, SF, SG, SI, Nat.reduceLT, Nat.reduceAdd, Nat.reduceSub, Nat.reduceMul, Nat.reduceLeDiff, Nat.reduceEqDiff, Nat.reduceBEq, Int.reduceToNat, Int.reduceLE, Int.reduceLT, Int.reduceEq, Int.reduceNeg, reduceCtorEq, ↓reduceIte, hb]))))
  all_goals exact hk s' h'
end Go.Proofs.YthiidchbaicfgaaGreatDoor
