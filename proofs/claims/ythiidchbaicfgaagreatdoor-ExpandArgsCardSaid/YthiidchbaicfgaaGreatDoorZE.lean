/-
  THE WALKS, layer 13, PART 13: a text is written to a builder.
-/
import Derived.Test.YthiidchbaicfgaaGreatDoorZD
namespace Go.Proofs.YthiidchbaicfgaaGreatDoor
open Go Go.Id
set_option linter.unusedSimpArgs false
set_option linter.unusedVariables false
set_option maxRecDepth 100000
set_option maxHeartbeats 4000000

/-- A call whose outcome and store are known. -/
theorem via {f : FuncId} {xs : List D} {σ s0 : St} {d : D} {K : Out → St → Prop} (hg : goodFn Tryz.prog f = true) (h : Ok Tryz.prog f xs σ (fun o s => o = .ret d ∧ s = s0)) (hk : K (.ret d) s0) : goodFn Tryz.prog f = true ∧ Ok Tryz.prog f xs σ K :=
  ⟨hg, h.mono fun o s ⟨h1, h2⟩ => by subst h1; subst h2; exact hk⟩
theorem noesc_ext {x : D} {σ : St} {K : D → St → Prop} (hk : K x σ) : ExtOk Tryz.prog 97 [x] σ K := (ext_same x σ).mono fun d s ⟨h1, h2⟩ => by subst h1; subst h2; exact hk
/-- A builder at cell 'o' of variable 'j'. -/
structure Bld (σ : St) (j o : Nat) (cs : List D) (l : Nat) (bs : List UInt8) : Prop where
  hj : σ.obj j = some (.cells cs)
  h0 : cs[o]? = some .nilp ∨ cs[o]? = some (.ref j o)
  h1 : cs[o + 1]? = some (bufD l bs)
  hm : ∃ T, σ.obj (j + 1) = some (.ty j T (some cs.length)) ∧ (T, cs.length, o) ∈ [(81, 2, 0), (83, 5, 0), (83, 5, 2)]
  buf : Buf σ l bs
theorem Bld.lt {σ : St} {j o : Nat} {cs : List D} {l : Nat} {bs : List UInt8} (h : Bld σ j o cs l bs) : o + 1 < cs.length := (List.getElem?_eq_some_iff.1 h.h1).1
theorem check75 {σ : St} {j o : Nat} {cs : List D} {l : Nat} {bs : List UInt8} (h : Bld σ j o cs l bs) :
    Ok Tryz.prog 75 [.ref j o] σ (fun out s => out = .ret (.tuple []) ∧ s = σ.put j (some (.cells (cs.set o (.ref j o))))) := by
  have hlt := h.lt
  obtain ⟨T, hm, ht⟩ := h.hm
  have hj := h.hj
  have e0 : (o + 0) = o := rfl
  have c1 : o < cs.length := by omega
  have c2 : [(81, 2, 0), (83, 5, 0), (83, 5, 2)].contains (T, cs.length, o) = true := by simpa using ht
  have c3 : o + 1 ≤ cs.length := by omega
  apply en75
  simp -dsimp (maxSteps := 2000000) (disch := first | omega | (simp; done) | (simp; omega)) only [SA, SB, SC, SD, SE, SF, SG, SI, Nat.reduceLT, Nat.reduceAdd, Nat.reduceSub, Nat.reduceMul, Nat.reduceLeDiff, Nat.reduceEqDiff, Nat.reduceBEq, Int.reduceToNat, Int.reduceLE, Int.reduceLT, Int.reduceEq, Int.reduceNeg, reduceCtorEq, ↓reduceIte, ic75, List.replicate_succ, List.replicate_zero]
  have q0 : ieq .ptr (.ref j o) (.ref j o) = some true := by simp [ieq]
  rcases h.h0 with h0 | h0
  · have l0 : cellsAt cs o none = some .nilp := by simp [cellsAt, h0, scal]
    (repeat' (first | simp -dsimp (maxSteps := 2000000) (disch := first | omega | (simp; done) | (simp; omega)) only [SA, SB, SC, SD, SE, SF, SG, SI, Nat.reduceLT, Nat.reduceAdd, Nat.reduceSub, Nat.reduceMul, Nat.reduceLeDiff, Nat.reduceEqDiff, Nat.reduceBEq, Int.reduceToNat, Int.reduceLE, Int.reduceLT, Int.reduceEq, Int.reduceNeg, reduceCtorEq, ↓reduceIte, hj, l0, e0, itoUns, iofUns, hm, c1, c2, c3] | refine Cut.go ?_ | refine Both.intro ?_ ?_ | refine noesc_ext ?_ | (refine Br.intro ?_ ?_ <;> intro hb <;> have hb' := hb <;> (try simp only [SH] at hb') <;> (try simp -dsimp (maxSteps := 2000000) (disch := first | omega | (simp; done) | (simp; omega)) only [SA, SB, SC, SD, SE, SF, SG, SI, Nat.reduceLT, Nat.reduceAdd, Nat.reduceSub, Nat.reduceMul, Nat.reduceLeDiff, Nat.reduceEqDiff, Nat.reduceBEq, Int.reduceToNat, Int.reduceLE, Int.reduceLT, Int.reduceEq, Int.reduceNeg, reduceCtorEq, ↓reduceIte, hb, hj, l0, e0, itoUns, iofUns, hm, c1, c2, c3]))))
  · have l0 : cellsAt cs o none = some (.ref j o) := by simp [cellsAt, h0, scal]
    (repeat' (first | simp -dsimp (maxSteps := 2000000) (disch := first | omega | (simp; done) | (simp; omega)) only [SA, SB, SC, SD, SE, SF, SG, SI, Nat.reduceLT, Nat.reduceAdd, Nat.reduceSub, Nat.reduceMul, Nat.reduceLeDiff, Nat.reduceEqDiff, Nat.reduceBEq, Int.reduceToNat, Int.reduceLE, Int.reduceLT, Int.reduceEq, Int.reduceNeg, reduceCtorEq, ↓reduceIte, hj, l0, e0, itoUns, iofUns, hm, c1, c2, c3, q0] | refine Cut.go ?_ | refine Both.intro ?_ ?_ | refine noesc_ext ?_ | (refine Br.intro ?_ ?_ <;> intro hb <;> have hb' := hb <;> (try simp only [SH] at hb') <;> (try simp -dsimp (maxSteps := 2000000) (disch := first | omega | (simp; done) | (simp; omega)) only [SA, SB, SC, SD, SE, SF, SG, SI, Nat.reduceLT, Nat.reduceAdd, Nat.reduceSub, Nat.reduceMul, Nat.reduceLeDiff, Nat.reduceEqDiff, Nat.reduceBEq, Int.reduceToNat, Int.reduceLE, Int.reduceLT, Int.reduceEq, Int.reduceNeg, reduceCtorEq, ↓reduceIte, hb, hj, l0, e0, itoUns, iofUns, hm, c1, c2, c3, q0]))))
    have e : cs.set o (.ref j o) = cs := by
      obtain ⟨_, g⟩ := List.getElem?_eq_some_iff.1 h0
      rw [← g, List.set_getElem_self]
    rw [e, St.put_self _ _ _ hj]
/-- The store behind a text that was written. -/
def wsSt (σ : St) (j o : Nat) (cs : List D) (l : Nat) (bs s : List UInt8) : St :=
  if s = [] then σ.put j (some (.cells (cs.set o (.ref j o))))
  else (bufSt σ l bs (bs ++ s)).put j (some (.cells ((cs.set o (.ref j o)).set (o + 1) (bufD σ.next (bs ++ s)))))
theorem Buf.put {σ : St} {l : Nat} {bs : List UInt8} {j : Nat} {x : Option Ob} (h : Buf σ l bs) (hd : bs ≠ [] → j ≠ l ∧ j ≠ l + 1 ∧ j ≠ l + 2) : Buf (σ.put j x) l bs := fun hb => by
  obtain ⟨a1, a2, a3⟩ := h hb
  obtain ⟨d1, d2, d3⟩ := hd hb
  refine ⟨?_, ?_, ?_⟩
  · rw [put_obj, if_neg (Ne.symm d1)]; exact a1
  · rw [put_obj, if_neg (Ne.symm d2)]; exact a2
  · rw [put_obj, if_neg (Ne.symm d3)]; exact a3
theorem ws57 {σ : St} {j o : Nat} {cs : List D} {l : Nat} {bs s : List UInt8} (h : Bld σ j o cs l bs) (hd : bs ≠ [] → j ≠ l ∧ j ≠ l + 1 ∧ j ≠ l + 2) (hjn : j < σ.next) (hl : bs.length + s.length ≤ 100000000) :
    Ok Tryz.prog 57 [.ref j o, .str s] σ (fun out s' => out = .ret (.tuple [.int .i64 s.length, .nili]) ∧ s' = wsSt σ j o cs l bs s) := by
  have hlt := h.lt
  have h1 := h.h1
  apply en57
  simp -dsimp (maxSteps := 2000000) (disch := first | omega | (simp; done) | (simp; omega)) only [SA, SB, SC, SD, SE, SF, SG, SI, Nat.reduceLT, Nat.reduceAdd, Nat.reduceSub, Nat.reduceMul, Nat.reduceLeDiff, Nat.reduceEqDiff, Nat.reduceBEq, Int.reduceToNat, Int.reduceLE, Int.reduceLT, Int.reduceEq, Int.reduceNeg, reduceCtorEq, ↓reduceIte, ic57, List.replicate_succ, List.replicate_zero]
  have c1 : o + 1 + 1 ≤ cs.length := by omega
  have l1 : cellsAt (cs.set o (.ref j o)) (o + 1) none = some (bufD l bs) := by simp [cellsAt, h1, bufD_scal]
  have hb2 : Buf (σ.put j (some (.cells (cs.set o (.ref j o))))) l bs := h.buf.put hd
  have el : elems 1 (.str s) (σ.put j (some (.cells (cs.set o (.ref j o))))) = some (bytesD s) := rfl
  by_cases hs : s = []
  · have a1 : iappendT 1 1 5 (bufD l bs) (.str s) (σ.put j (some (.cells (cs.set o (.ref j o))))) = some (bufD l bs, σ.put j (some (.cells (cs.set o (.ref j o))))) := buf_nil (by rw [el, hs]; rfl)
    (repeat' (first | simp -dsimp (maxSteps := 2000000) (disch := first | omega | (simp; done) | (simp; omega)) only [SA, SB, SC, SD, SE, SF, SG, SI, Nat.reduceLT, Nat.reduceAdd, Nat.reduceSub, Nat.reduceMul, Nat.reduceLeDiff, Nat.reduceEqDiff, Nat.reduceBEq, Int.reduceToNat, Int.reduceLE, Int.reduceLT, Int.reduceEq, Int.reduceNeg, reduceCtorEq, ↓reduceIte, l1, a1, bufD_cells, c1, List.length_set] | refine Cut.go ?_ | refine Both.intro ?_ ?_ | refine via gd75 (check75 h) ?_ | (refine Br.intro ?_ ?_ <;> intro hb <;> have hb' := hb <;> (try simp only [SH] at hb') <;> (try simp -dsimp (maxSteps := 2000000) (disch := first | omega | (simp; done) | (simp; omega)) only [SA, SB, SC, SD, SE, SF, SG, SI, Nat.reduceLT, Nat.reduceAdd, Nat.reduceSub, Nat.reduceMul, Nat.reduceLeDiff, Nat.reduceEqDiff, Nat.reduceBEq, Int.reduceToNat, Int.reduceLE, Int.reduceLT, Int.reduceEq, Int.reduceNeg, reduceCtorEq, ↓reduceIte, hb, l1, a1, bufD_cells, c1, List.length_set]))))
    have e : (cs.set o (.ref j o)).set (o + 1) (bufD l bs) = cs.set o (.ref j o) := by
      have : (cs.set o (.ref j o))[o + 1]? = some (bufD l bs) := by simp [h1]
      obtain ⟨_, g⟩ := List.getElem?_eq_some_iff.1 this
      conv => lhs; rw [← g]
      rw [List.set_getElem_self]
    rw [St.put_put, e, wsSt, if_pos hs]
  · have a1 := buf_app hb2 hs hl el
    have o1 : (bufSt (σ.put j (some (.cells (cs.set o (.ref j o))))) l bs (bs ++ s)).obj j = some (.cells (cs.set o (.ref j o))) := by
      rw [bufSt_old (σ := σ.put j _) hjn hd, put_obj, if_pos rfl]
    (repeat' (first | simp -dsimp (maxSteps := 2000000) (disch := first | omega | (simp; done) | (simp; omega)) only [SA, SB, SC, SD, SE, SF, SG, SI, Nat.reduceLT, Nat.reduceAdd, Nat.reduceSub, Nat.reduceMul, Nat.reduceLeDiff, Nat.reduceEqDiff, Nat.reduceBEq, Int.reduceToNat, Int.reduceLE, Int.reduceLT, Int.reduceEq, Int.reduceNeg, reduceCtorEq, ↓reduceIte, l1, a1, bufD_cells, c1, List.length_set, o1] | refine Cut.go ?_ | refine Both.intro ?_ ?_ | refine via gd75 (check75 h) ?_ | (refine Br.intro ?_ ?_ <;> intro hb <;> have hb' := hb <;> (try simp only [SH] at hb') <;> (try simp -dsimp (maxSteps := 2000000) (disch := first | omega | (simp; done) | (simp; omega)) only [SA, SB, SC, SD, SE, SF, SG, SI, Nat.reduceLT, Nat.reduceAdd, Nat.reduceSub, Nat.reduceMul, Nat.reduceLeDiff, Nat.reduceEqDiff, Nat.reduceBEq, Int.reduceToNat, Int.reduceLE, Int.reduceLT, Int.reduceEq, Int.reduceNeg, reduceCtorEq, ↓reduceIte, hb, l1, a1, bufD_cells, c1, List.length_set, o1]))))
    rw [wsSt, if_neg hs]
    refine St.ext (fun i => ?_) rfl
    by_cases hi : i = j
    · rw [put_obj, if_pos hi, put_obj, if_pos hi]; try rfl
    · rw [put_obj, if_neg hi, put_obj, if_neg hi, bufSt_obj, bufSt_obj, put_obj, if_neg hi]; try rfl
end Go.Proofs.YthiidchbaicfgaaGreatDoor
