/-
  THE WALKS, layer 13, PART 8: the document's table.
-/
import Derived.Test.YthiidchbaicfgaaGreatDoorZ7
namespace Go.Proofs.YthiidchbaicfgaaGreatDoor
open Go Go.Id
set_option linter.unusedSimpArgs false
set_option linter.unusedVariables false
set_option maxRecDepth 100000
set_option maxHeartbeats 4000000

theorem VarsAt.at3 {s : St} {x : D} {l : List (List UInt8 × List UInt8)} (h : VarsAt s x l) {i : Nat} (hi : i < l.length) :
    ∃ j, idxAddrS 2 x (.int .i64 i) = some (.ref j (2 * i)) ∧ iload (some 2) (.ref j (2 * i)) s = some (.agg [.str (l[i]).1, .str (l[i]).2]) ∧ iload none (.ref j (2 * i)) s = some (.str (l[i]).1) := by
  rcases h with ⟨rfl, rfl⟩ | ⟨j, t, rfl, h1, h2, h3⟩
  · simp at hi
  · refine ⟨j, ?_, ?_, ?_⟩
    · simp only [idxAddrS]
      rw [if_pos ⟨trivial, by omega, by omega⟩]
      simp [Nat.mul_comm]
    · simp only [iload, h1, cellsAt]
      rw [if_pos (by rw [flat2_len]; omega), flat2_drop, List.drop_eq_getElem_cons hi]
      rfl
    · have e : (flat2 l)[2 * i]? = some (.str l[i].1) := by
        have : ((flat2 l).drop (2 * i))[0]? = some (.str l[i].1) := by rw [flat2_drop, List.drop_eq_getElem_cons hi]; rfl
        simpa using this
      simp only [iload, h1, cellsAt, e, scalO, Option.bind, scal, if_true]
theorem VarsAt.low {s s' : St} {x : D} {l : List (List UInt8 × List UInt8)} (h : VarsAt s x l) (hf : s.Fresh) (ho : ∀ i, i < s.next → s'.obj i = s.obj i) : VarsAt s' x l := by
  have hlt : ∀ i o, s.obj i = some o → i < s.next := fun i o hi => Nat.lt_of_not_le fun hle => by rw [hf i hle] at hi; cases hi
  rcases h with ⟨rfl, rfl⟩ | ⟨b, t, rfl, o1, o2, o3⟩
  · exact .inl ⟨rfl, rfl⟩
  · exact .inr ⟨b, t, rfl, by rw [ho _ (hlt _ _ o1)]; exact o1, by rw [ho _ (hlt _ _ o2)]; exact o2, by rw [ho _ (hlt _ _ o3)]; exact o3⟩
/-- A list that is built behind 'b'. -/
structure Mine (b : Nat) (σ0 : St) (x : D) (k : List (List UInt8 × List UInt8)) (s : St) : Prop where
  low : ∀ i, i < b → s.obj i = σ0.obj i
  le : b ≤ s.next
  fresh : s.Fresh
  at' : VarsAt s x k
  far : ∀ jv t n, x = .rslc jv 0 2 n (.opened t) → b ≤ jv ∧ b ≤ t
  sc : scal x = true
theorem Mine.app {b : Nat} {σ0 s : St} {x : D} {k : List (List UInt8 × List UInt8)} (h : Mine b σ0 x k s) (hk : k.length ≤ 5000) (n v : List UInt8) :
    ∃ x' s', iappendT 2 32 57 x (.slc 2 [.agg [.str n, .str v]] .exact) s = some (x', s') ∧ Mine b σ0 x' (k ++ [(n, v)]) s' := by
  have hlt : ∀ i o, s.obj i = some o → i < s.next := fun i o hi => Nat.lt_of_not_le fun hle => by rw [h.fresh i hle] at hi; cases hi
  have hle := h.le
  rcases h.at' with ⟨rfl, rfl⟩ | ⟨j, t, rfl, o1, o2, o3⟩
  · refine ⟨.rslc s.next 0 2 1 (.opened (s.next + 1)), nilSt s [.str n, .str v], rfl, fun i hi => ?_, ?_, fun i hi => ?_, .inr ⟨s.next, s.next + 1, rfl, ?_, ?_, ?_⟩, fun a c m e => ?_, rfl⟩
    · rw [nilSt_obj, if_neg (by omega), if_neg (by omega), if_neg (by omega)]; exact h.low i hi
    · show b ≤ s.next + 1 + 1 + 1; omega
    · have : s.next + 1 + 1 + 1 ≤ i := hi
      rw [nilSt_obj, if_neg (by omega), if_neg (by omega), if_neg (by omega)]; exact h.fresh i (by omega)
    · rw [nilSt_obj, if_neg (by omega), if_neg (by omega), if_pos rfl]; rfl
    · rw [nilSt_obj, if_neg (by omega), if_pos rfl]
    · rw [nilSt_obj, if_pos rfl]
    · cases e; omega
  · obtain ⟨f1, f2⟩ := h.far _ _ _ rfl
    have g1 := hlt _ _ o1
    have g2 := hlt _ _ o2
    have g3 := hlt _ _ o3
    have e1 : (k.length + 1) * 32 ≤ 140737488355328 ∧ k.length + 1 ≤ maxLen := by
      have : maxLen = 2 ^ 63 - 1 := rfl
      omega
    have hjt : j ≠ t := fun hh => by subst hh; rw [o1] at o2; cases o2
    have htj : t ≠ j + 2 := fun hh => by rw [hh, o3] at o2; cases o2
    have e2 : iold 2 (.rslc j 0 2 k.length (.opened t)) (s.put (j + 2) none) = some (k.length, flat2 k, ((s.put (j + 2) none).put j none).put t none) := by
      simp only [iold, put_obj, if_true]
      rw [if_neg (by omega), if_neg htj, o1, o2]
      simp only []
      rw [if_pos ⟨trivial, by rw [flat2_len]⟩]
    have e3 : flat2 (k ++ [(n, v)]) = flat2 k ++ [.str n, .str v] := by rw [flat2_app]; rfl
    have ha : iappendT 2 32 57 (.rslc j 0 2 k.length (.opened t)) (.slc 2 [.agg [.str n, .str v]] .exact) s = some (.rslc s.next 0 2 (k.length + 1) (.opened (s.next + 1)), insSt s j t (flat2 (k ++ [(n, v)]))) := by
      simp only [iappendT, elems, if_true, List.length_cons, List.length_nil, Nat.zero_add, o3]
      rw [if_neg (by omega), if_pos ⟨trivial, trivial⟩]
      simp only [iappendR, elems, if_true, List.length_cons, List.length_nil, Nat.zero_add, e2, e3]
      rw [if_neg (by omega)]
      simp only [flat, dcells, List.all_cons, List.all_nil, scal, Bool.and_self, if_true, List.append_nil]
      rw [if_pos e1]; rfl
    refine ⟨_, _, ha, fun i hi => ?_, ?_, fun i hi => ?_, .inr ⟨s.next, s.next + 1, by rw [List.length_append]; rfl, ?_, ?_, ?_⟩, fun a c m e => ?_, rfl⟩
    · rw [insSt_obj, if_neg (by omega), if_neg (by omega), if_neg (by omega), if_neg (by omega), if_neg (by omega), if_neg (by omega)]; exact h.low i hi
    · show b ≤ s.next + 1 + 1 + 1; omega
    · have : s.next + 1 + 1 + 1 ≤ i := hi
      rw [insSt_obj, if_neg (by omega), if_neg (by omega), if_neg (by omega), if_neg (by omega), if_neg (by omega), if_neg (by omega)]; exact h.fresh i (by omega)
    · rw [insSt_obj, if_neg (by omega), if_neg (by omega), if_pos rfl]
    · rw [insSt_obj, if_neg (by omega), if_pos rfl]
    · rw [insSt_obj, if_pos rfl]
    · cases e; omega
theorem place26 {x y z : D} {l : List (List UInt8 × List UInt8)} (hl : l.length ≤ 1100) (sx : scal x = true) (sy : scal y = true) (sz : scal z = true) (name : List UInt8) (σ : St) (hx : VarsAt σ x l) :
    Ok Tryz.prog 26 [.agg [x, y, z], .str name] σ (fun o s' => (∃ m, σ.next ≤ m ∧ s' = ⟨σ.obj, m⟩) ∧ ∃ p, o = .ret (.int .i64 p)) := by
  refine Ok.fresh fun hf => Ok.drop ?_
  have hlx := hx.len
  have hd : dcells (.agg [x, y, z]) = some [x, y, z] := by simp [dcells, sx, sy, sz]
  have hso : scalO (some x) = some x := by simp [scalO, sx]
  apply en26
  simp -dsimp (maxSteps := 2000000) (disch := first | omega | (simp; done) | (simp; omega)) only [SA, SB, SC, SD, SE, SF, SG, SI, Nat.reduceLT, Nat.reduceAdd, Nat.reduceSub, Nat.reduceMul, Nat.reduceLeDiff, Nat.reduceEqDiff, Nat.reduceBEq, Int.reduceToNat, Int.reduceLE, Int.reduceLT, Int.reduceEq, Int.reduceNeg, reduceCtorEq, ↓reduceIte, ic26, List.replicate_succ, List.replicate_zero]
  (repeat' (first | simp -dsimp (maxSteps := 2000000) (disch := first | omega | (simp; done) | (simp; omega)) only [SA, SB, SC, SD, SE, SF, SG, SI, Nat.reduceLT, Nat.reduceAdd, Nat.reduceSub, Nat.reduceMul, Nat.reduceLeDiff, Nat.reduceEqDiff, Nat.reduceBEq, Int.reduceToNat, Int.reduceLE, Int.reduceLT, Int.reduceEq, Int.reduceNeg, reduceCtorEq, ↓reduceIte, hd] | refine Cut.go ?_ | refine Both.intro ?_ ?_ | (refine Br.intro ?_ ?_ <;> intro hb <;> have hb' := hb <;> (try simp only [SH] at hb') <;> (try simp -dsimp (maxSteps := 2000000) (disch := first | omega | (simp; done) | (simp; omega)) only [SA, SB, SC, SD, SE, SF, SG, SI, Nat.reduceLT, Nat.reduceAdd, Nat.reduceSub, Nat.reduceMul, Nat.reduceLeDiff, Nat.reduceEqDiff, Nat.reduceBEq, Int.reduceToNat, Int.reduceLE, Int.reduceLT, Int.reduceEq, Int.reduceNeg, reduceCtorEq, ↓reduceIte, hb, hd]))))
  refine loop_go (α := Nat) (fun i => [.agg [x, y, z], .str name, .ref σ.next 0, .junk, .int .i64 0, .int .i64 i] ++ List.replicate 16 .junk) (fun _ => σ.alloc (.cells [x, y, z])) (fun i => l.length - i) (fun i => i ≤ l.length) 0 (Nat.zero_le _) (by ((try simp only [List.replicate_succ, List.replicate_zero, List.cons_append, List.nil_append]); repeat' (first | exact trivial | refine ⟨.inl rfl, ?_⟩ | refine ⟨.inr rfl, ?_⟩ | refine ⟨.inr (by simp), ?_⟩))) (Drops.refl _) ?_
  intro i h1
  have hx2 : VarsAt (σ.alloc (.cells [x, y, z])) x l := hx.low hf fun i hi => by rw [alloc_obj, if_neg (by omega)]
  have hend : ∀ p : Int, ∃ s', Drops (σ.alloc (.cells [x, y, z])) s' ∧ (∃ m, σ.next ≤ m ∧ s' = ⟨σ.obj, m⟩) ∧ ∃ q, Out.ret (.int .i64 p) = .ret (.int .i64 q) := fun p =>
    ⟨_, drops_old hf (fun i hi => by rw [alloc_obj, if_neg (by omega)]), ⟨_, by rw [alloc_next]; omega, rfl⟩, p, rfl⟩
  simp -dsimp (maxSteps := 2000000) (disch := first | omega | (simp; done) | (simp; omega)) only [SA, SB, SC, SD, SE, SF, SG, SI, Nat.reduceLT, Nat.reduceAdd, Nat.reduceSub, Nat.reduceMul, Nat.reduceLeDiff, Nat.reduceEqDiff, Nat.reduceBEq, Int.reduceToNat, Int.reduceLE, Int.reduceLT, Int.reduceEq, Int.reduceNeg, reduceCtorEq, ↓reduceIte, List.replicate_succ, List.replicate_zero]
  (repeat' (first | simp -dsimp (maxSteps := 2000000) (disch := first | omega | (simp; done) | (simp; omega)) only [SA, SB, SC, SD, SE, SF, SG, SI, Nat.reduceLT, Nat.reduceAdd, Nat.reduceSub, Nat.reduceMul, Nat.reduceLeDiff, Nat.reduceEqDiff, Nat.reduceBEq, Int.reduceToNat, Int.reduceLE, Int.reduceLT, Int.reduceEq, Int.reduceNeg, reduceCtorEq, ↓reduceIte, hlx, hso] | refine Cut.go ?_ | refine Both.intro ?_ ?_ | (refine Br.intro ?_ ?_ <;> intro hb <;> have hb' := hb <;> (try simp only [SH] at hb') <;> (try simp -dsimp (maxSteps := 2000000) (disch := first | omega | (simp; done) | (simp; omega)) only [SA, SB, SC, SD, SE, SF, SG, SI, Nat.reduceLT, Nat.reduceAdd, Nat.reduceSub, Nat.reduceMul, Nat.reduceLeDiff, Nat.reduceEqDiff, Nat.reduceBEq, Int.reduceToNat, Int.reduceLE, Int.reduceLT, Int.reduceEq, Int.reduceNeg, reduceCtorEq, ↓reduceIte, hb, hlx, hso]))))
  · obtain ⟨j, a1, a2, a3⟩ := hx2.at3 (i := i) (by omega)
    (repeat' (first | simp -dsimp (maxSteps := 2000000) (disch := first | omega | (simp; done) | (simp; omega)) only [SA, SB, SC, SD, SE, SF, SG, SI, Nat.reduceLT, Nat.reduceAdd, Nat.reduceSub, Nat.reduceMul, Nat.reduceLeDiff, Nat.reduceEqDiff, Nat.reduceBEq, Int.reduceToNat, Int.reduceLE, Int.reduceLT, Int.reduceEq, Int.reduceNeg, reduceCtorEq, ↓reduceIte, hlx, hso, a1, a3] | refine Cut.go ?_ | refine Both.intro ?_ ?_ | (refine Br.intro ?_ ?_ <;> intro hb <;> have hb' := hb <;> (try simp only [SH] at hb') <;> (try simp -dsimp (maxSteps := 2000000) (disch := first | omega | (simp; done) | (simp; omega)) only [SA, SB, SC, SD, SE, SF, SG, SI, Nat.reduceLT, Nat.reduceAdd, Nat.reduceSub, Nat.reduceMul, Nat.reduceLeDiff, Nat.reduceEqDiff, Nat.reduceBEq, Int.reduceToNat, Int.reduceLE, Int.reduceLT, Int.reduceEq, Int.reduceNeg, reduceCtorEq, ↓reduceIte, hb, hlx, hso, a1, a3]))))
    · exact hend _
    · exact Round.go (i + 1) (by omega) (by omega) (by ((try simp only [List.replicate_succ, List.replicate_zero, List.cons_append, List.nil_append]); repeat' (first | exact trivial | refine ⟨.inl rfl, ?_⟩ | refine ⟨.inr rfl, ?_⟩ | refine ⟨.inr (by simp), ?_⟩))) (Drops.refl _)
  · exact hend _
end Go.Proofs.YthiidchbaicfgaaGreatDoor
