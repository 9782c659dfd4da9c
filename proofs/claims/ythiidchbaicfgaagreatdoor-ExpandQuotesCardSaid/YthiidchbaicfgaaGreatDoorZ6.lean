/-
  THE WALKS, layer 13, PART 6: a variable is given a value.
-/
import Derived.Test.YthiidchbaicfgaaGreatDoorZ5
namespace Go.Proofs.YthiidchbaicfgaaGreatDoor
open Go Go.Id
set_option linter.unusedSimpArgs false
set_option linter.unusedVariables false
set_option maxRecDepth 100000
set_option maxHeartbeats 4000000

theorem flat2_set : ∀ (l : List (List UInt8 × List UInt8)) (p : Nat) (v : List UInt8), p < l.length → setAt (flat2 l) (2 * p + 1) [.str v] = flat2 (l.set p ((l.getD p default).1, v))
  | [], p, v, h => by simp at h
  | q :: r, 0, v, h => by simp [flat2, setAt]
  | q :: r, p + 1, v, h => by
    have ih := flat2_set r p v (by simpa using h)
    rw [show 2 * (p + 1) + 1 = (2 * p + 1) + 1 + 1 by omega]
    simp only [flat2, setAt, List.set_cons_succ, List.getD_cons_succ] at ih ⊢
    rw [ih]
theorem flat2_app : ∀ (a b : List (List UInt8 × List UInt8)), flat2 (a ++ b) = flat2 a ++ flat2 b
  | [], b => rfl
  | p :: r, b => by simp [flat2, flat2_app r b]
theorem flat2_take : ∀ (l : List (List UInt8 × List UInt8)) (i : Nat), (flat2 l).take (i * 2) = flat2 (l.take i)
  | l, 0 => by simp [flat2]
  | [], i + 1 => by simp [flat2]
  | p :: r, i + 1 => by
    rw [show (i + 1) * 2 = i * 2 + 1 + 1 by omega]
    simp only [flat2, List.take_succ_cons, flat2_take r i]
theorem flat2_ins (l : List (List UInt8 × List UInt8)) (p : Nat) (n v : List UInt8) : insL (flat2 l) [.str n, .str v] p = flat2 (l.take p ++ [(n, v)] ++ l.drop p) := by
  simp only [insL, flat2_app, flat2_take]
  rw [show p * 2 = 2 * p by omega, flat2_drop]
  rfl
/-- A table that was made behind 'σ0'. -/
structure Tab (σ0 : St) (j : Nat) (l : List (List UInt8 × List UInt8)) (s : St) : Prop where
  low : ∀ i, i < σ0.next → s.obj i = σ0.obj i
  nxt : σ0.next ≤ j ∧ j < s.next
  fresh : s.Fresh
  few : l.length ≤ 64
  x : ∃ x y z, s.obj j = some (.cells [x, y, z]) ∧ scal x = true ∧ scal y = true ∧ scal z = true ∧ VarsAt s x l ∧
    ∀ jv t n, x = .rslc jv 0 2 n (.opened t) → σ0.next ≤ jv ∧ σ0.next ≤ t ∧ jv ≠ j ∧ t ≠ j ∧ jv + 2 ≠ j
theorem Tab.more {σ0 s s' : St} {j : Nat} {l : List (List UInt8 × List UInt8)} (h : Tab σ0 j l s) (ho : s'.obj = s.obj) (hn : s.next ≤ s'.next) : Tab σ0 j l s' := by
  refine ⟨fun i hi => by rw [ho]; exact h.low i hi, ⟨h.nxt.1, Nat.lt_of_lt_of_le h.nxt.2 hn⟩, fun i hi => by rw [ho]; exact h.fresh i (by omega), h.few, ?_⟩
  obtain ⟨x, y, z, h1, h2, h3, h4, h5, h6⟩ := h.x
  exact ⟨x, y, z, by rw [ho]; exact h1, h2, h3, h4, h5.more (fun i => by rw [ho]), h6⟩
theorem gd25 : goodFn Tryz.prog 25 = true := by kernel_rfl
theorem insSt_obj (σ : St) (j t : Nat) (F : List D) (i : Nat) : (insSt σ j t F).obj i = if i = σ.next + 1 + 1 then some (.ty σ.next 57 none) else if i = σ.next + 1 then some .tok else if i = σ.next then some (.cells F) else if i = t then none else if i = j then none else if i = j + 2 then none else σ.obj i := rfl
theorem insSt_next (σ : St) (j t : Nat) (F : List D) : (insSt σ j t F).next = σ.next + 1 + 1 + 1 := rfl
def nilSt (σ : St) (F : List D) : St := ((σ.alloc (.cells F)).alloc .tok).alloc (.ty σ.next 57 none)
theorem nilSt_obj (σ : St) (F : List D) (i : Nat) : (nilSt σ F).obj i = if i = σ.next + 1 + 1 then some (.ty σ.next 57 none) else if i = σ.next + 1 then some .tok else if i = σ.next then some (.cells F) else σ.obj i := rfl
/-- A table whose variables are told anew, in a state where they lie at 'a'. -/
theorem Tab.anew {σ0 σ s : St} {j : Nat} {l l' : List (List UInt8 × List UInt8)} {y z : D} (h : Tab σ0 j l σ) (hlow : ∀ i, i < σ0.next → s.obj i = σ0.obj i) (hf : s.Fresh) (hn : σ.next ≤ s.next) (hfew : l'.length ≤ 64) (sy : scal y = true) (sz : scal z = true)
    {a : Nat} (ha : σ.next ≤ a) (h1 : s.obj a = some (.cells (flat2 l'))) (h2 : s.obj (a + 1) = some .tok) (h3 : s.obj (a + 1 + 1) = some (.ty a 57 none)) (hlt : j < σ.next) (hs : a + 1 + 1 < s.next) {F : List D} (hF : F = [.rslc a 0 2 l'.length (.opened (a + 1)), y, z]) :
    Tab σ0 j l' (s.put j (some (.cells F))) := by
  subst hF
  have n1 := h.nxt.1
  refine ⟨fun i hi => ?_, ⟨n1, by show j < s.next; omega⟩, fun i hi => ?_, hfew, _, y, z, by rw [put_obj, if_pos rfl], rfl, sy, sz, .inr ⟨a, a + 1, rfl, ?_, ?_, ?_⟩, fun jv t n e => ?_⟩
  · rw [put_obj, if_neg (by omega)]; exact hlow i hi
  · have : s.next ≤ i := hi
    rw [put_obj, if_neg (by omega)]; exact hf i hi
  · rw [put_obj, if_neg (by omega)]; exact h1
  · rw [put_obj, if_neg (by omega)]; exact h2
  · rw [put_obj, if_neg (by omega)]; exact h3
  · cases e
    have := h.nxt.2
    refine ⟨by omega, by omega, by omega, by omega, by omega⟩
theorem set9 {σ0 σ : St} {j : Nat} {l : List (List UInt8 × List UInt8)} (ht : Tab σ0 j l σ) (name value : List UInt8) :
    Ok Tryz.prog 9 [.ref j 0, .str name, .str value] σ (fun o s' => ∃ e l', o = .ret (.int .i64 e) ∧ Tab σ0 j l' s') := by
  obtain ⟨x, y, z, hj, sx, sy, sz, hx, hfar⟩ := ht.x
  have hso : scalO (some x) = some x := by simp [scalO, sx]
  have hlx := hx.len
  apply en9
  simp -dsimp (maxSteps := 2000000) (disch := first | omega | (simp; done) | (simp; omega)) only [SA, SB, SC, SD, SE, SF, SG, SI, Nat.reduceLT, Nat.reduceAdd, Nat.reduceSub, Nat.reduceMul, Nat.reduceLeDiff, Nat.reduceEqDiff, Nat.reduceBEq, Int.reduceToNat, Int.reduceLE, Int.reduceLT, Int.reduceEq, Int.reduceNeg, reduceCtorEq, ↓reduceIte, ic9, List.replicate_succ, List.replicate_zero]
  (repeat' (first | simp -dsimp (maxSteps := 2000000) (disch := first | omega | (simp; done) | (simp; omega)) only [SA, SB, SC, SD, SE, SF, SG, SI, Nat.reduceLT, Nat.reduceAdd, Nat.reduceSub, Nat.reduceMul, Nat.reduceLeDiff, Nat.reduceEqDiff, Nat.reduceBEq, Int.reduceToNat, Int.reduceLE, Int.reduceLT, Int.reduceEq, Int.reduceNeg, reduceCtorEq, ↓reduceIte] | refine Cut.go ?_ | refine Both.intro ?_ ?_ | (refine Br.intro ?_ ?_ <;> intro hb <;> have hb' := hb <;> (try simp only [SH] at hb') <;> (try simp -dsimp (maxSteps := 2000000) (disch := first | omega | (simp; done) | (simp; omega)) only [SA, SB, SC, SD, SE, SF, SG, SI, Nat.reduceLT, Nat.reduceAdd, Nat.reduceSub, Nat.reduceMul, Nat.reduceLeDiff, Nat.reduceEqDiff, Nat.reduceBEq, Int.reduceToNat, Int.reduceLE, Int.reduceLT, Int.reduceEq, Int.reduceNeg, reduceCtorEq, ↓reduceIte, hb]))))
  refine Says.call (name23 _) gd23 fun b => ?_
  cases b
  · (repeat' (first | simp -dsimp (maxSteps := 2000000) (disch := first | omega | (simp; done) | (simp; omega)) only [SA, SB, SC, SD, SE, SF, SG, SI, Nat.reduceLT, Nat.reduceAdd, Nat.reduceSub, Nat.reduceMul, Nat.reduceLeDiff, Nat.reduceEqDiff, Nat.reduceBEq, Int.reduceToNat, Int.reduceLE, Int.reduceLT, Int.reduceEq, Int.reduceNeg, reduceCtorEq, ↓reduceIte] | refine Cut.go ?_ | refine Both.intro ?_ ?_ | (refine Br.intro ?_ ?_ <;> intro hb <;> have hb' := hb <;> (try simp only [SH] at hb') <;> (try simp -dsimp (maxSteps := 2000000) (disch := first | omega | (simp; done) | (simp; omega)) only [SA, SB, SC, SD, SE, SF, SG, SI, Nat.reduceLT, Nat.reduceAdd, Nat.reduceSub, Nat.reduceMul, Nat.reduceLeDiff, Nat.reduceEqDiff, Nat.reduceBEq, Int.reduceToNat, Int.reduceLE, Int.reduceLT, Int.reduceEq, Int.reduceNeg, reduceCtorEq, ↓reduceIte, hb]))))
    exact ⟨_, l, rfl, ht⟩
  (repeat' (first | simp -dsimp (maxSteps := 2000000) (disch := first | omega | (simp; done) | (simp; omega)) only [SA, SB, SC, SD, SE, SF, SG, SI, Nat.reduceLT, Nat.reduceAdd, Nat.reduceSub, Nat.reduceMul, Nat.reduceLeDiff, Nat.reduceEqDiff, Nat.reduceBEq, Int.reduceToNat, Int.reduceLE, Int.reduceLT, Int.reduceEq, Int.reduceNeg, reduceCtorEq, ↓reduceIte] | refine Cut.go ?_ | refine Both.intro ?_ ?_ | (refine Br.intro ?_ ?_ <;> intro hb <;> have hb' := hb <;> (try simp only [SH] at hb') <;> (try simp -dsimp (maxSteps := 2000000) (disch := first | omega | (simp; done) | (simp; omega)) only [SA, SB, SC, SD, SE, SF, SG, SI, Nat.reduceLT, Nat.reduceAdd, Nat.reduceSub, Nat.reduceMul, Nat.reduceLeDiff, Nat.reduceEqDiff, Nat.reduceBEq, Int.reduceToNat, Int.reduceLE, Int.reduceLT, Int.reduceEq, Int.reduceNeg, reduceCtorEq, ↓reduceIte, hb]))))
  · exact ⟨_, l, rfl, ht⟩
  refine ⟨gd24, (place24 (by have := ht.few; omega) name σ hj sx hx).mono fun o s' h => ?_⟩
  obtain ⟨⟨m, hm, rfl⟩, p, b, h1, h2, rfl⟩ := h
  have ht2 : Tab σ0 j l ⟨σ.obj, m⟩ := ht.more rfl hm
  cases b
  · (repeat' (first | simp -dsimp (maxSteps := 2000000) (disch := first | omega | (simp; done) | (simp; omega)) only [SA, SB, SC, SD, SE, SF, SG, SI, Nat.reduceLT, Nat.reduceAdd, Nat.reduceSub, Nat.reduceMul, Nat.reduceLeDiff, Nat.reduceEqDiff, Nat.reduceBEq, Int.reduceToNat, Int.reduceLE, Int.reduceLT, Int.reduceEq, Int.reduceNeg, reduceCtorEq, ↓reduceIte, hj, hso, hlx, inilM_r] | refine Cut.go ?_ | refine Both.intro ?_ ?_ | (refine Br.intro ?_ ?_ <;> intro hb <;> have hb' := hb <;> (try simp only [SH] at hb') <;> (try simp -dsimp (maxSteps := 2000000) (disch := first | omega | (simp; done) | (simp; omega)) only [SA, SB, SC, SD, SE, SF, SG, SI, Nat.reduceLT, Nat.reduceAdd, Nat.reduceSub, Nat.reduceMul, Nat.reduceLeDiff, Nat.reduceEqDiff, Nat.reduceBEq, Int.reduceToNat, Int.reduceLE, Int.reduceLT, Int.reduceEq, Int.reduceNeg, reduceCtorEq, ↓reduceIte, hb, hj, hso, hlx, inilM_r]))))
    · exact ⟨_, l, rfl, ht2⟩
    have hfew : l.length < 64 := by omega
    have nj := ht.nxt
    rcases hx with ⟨rfl, rfl⟩ | ⟨jv, t, rfl, o1, o2, o3⟩
    · obtain rfl : p = 0 := by simpa using h1
      refine ⟨gd25, (insert_nil (σ := ⟨σ.obj, m⟩) (va := .str name) (vc := .str value) (r := .exact) rfl rfl).mono fun o s' h => ?_⟩
      obtain ⟨rfl, rfl⟩ := h
      have hS : (nilSt ⟨σ.obj, m⟩ [.str name, .str value]).obj j = some (.cells [.nils, y, z]) := by
        rw [nilSt_obj]; simp only []; rw [if_neg (by omega), if_neg (by omega), if_neg (by omega)]; exact hj
      generalize hSS : nilSt ⟨σ.obj, m⟩ [.str name, .str value] = S at hS
      rw [show (((⟨σ.obj, m⟩ : St).alloc (.cells [.str name, .str value])).alloc .tok).alloc (.ty m 57 none) = S from hSS]
      (repeat' (first | simp -dsimp (maxSteps := 2000000) (disch := first | omega | (simp; done) | (simp; omega)) only [SA, SB, SC, SD, SE, SF, SG, SI, Nat.reduceLT, Nat.reduceAdd, Nat.reduceSub, Nat.reduceMul, Nat.reduceLeDiff, Nat.reduceEqDiff, Nat.reduceBEq, Int.reduceToNat, Int.reduceLE, Int.reduceLT, Int.reduceEq, Int.reduceNeg, reduceCtorEq, ↓reduceIte, hS] | refine Cut.go ?_ | refine Both.intro ?_ ?_ | (refine Br.intro ?_ ?_ <;> intro hb <;> have hb' := hb <;> (try simp only [SH] at hb') <;> (try simp -dsimp (maxSteps := 2000000) (disch := first | omega | (simp; done) | (simp; omega)) only [SA, SB, SC, SD, SE, SF, SG, SI, Nat.reduceLT, Nat.reduceAdd, Nat.reduceSub, Nat.reduceMul, Nat.reduceLeDiff, Nat.reduceEqDiff, Nat.reduceBEq, Int.reduceToNat, Int.reduceLE, Int.reduceLT, Int.reduceEq, Int.reduceNeg, reduceCtorEq, ↓reduceIte, hb, hS]))))
      refine ⟨_, [(name, value)], rfl, ht2.anew (a := m) (s := S) ?_ ?_ ?_ (by simp) sy sz (Nat.le_refl _) ?_ ?_ ?_ (show j < m by omega) ?_ rfl⟩
      all_goals subst hSS
      · intro i hi; rw [nilSt_obj]; simp only []; rw [if_neg (by omega), if_neg (by omega), if_neg (by omega)]; exact ht.low i hi
      · intro i hi
        have : m + 1 + 1 + 1 ≤ i := hi
        rw [nilSt_obj]; simp only []; rw [if_neg (by omega), if_neg (by omega), if_neg (by omega)]; exact ht.fresh i (by omega)
      · show m ≤ m + 1 + 1 + 1; omega
      · rw [nilSt_obj]; simp only []; rw [if_neg (by omega), if_neg (by omega), if_pos trivial]; rfl
      · rw [nilSt_obj]; simp only []; rw [if_neg (by omega), if_pos trivial]
      · rw [nilSt_obj]; simp only []; rw [if_pos trivial]
      · show m + 1 + 1 < m + 1 + 1 + 1; omega
    · obtain ⟨f1, f2, f3, f4, f5⟩ := hfar _ _ _ rfl
      have hlt : ∀ i o, σ.obj i = some o → i < σ.next := fun i o hi => Nat.lt_of_not_le fun hle => by rw [ht.fresh i hle] at hi; cases hi
      have g1 := hlt _ _ o1
      have g2 := hlt _ _ o2
      have g3 := hlt _ _ o3
      refine ⟨gd25, (insert_ok (σ := ⟨σ.obj, m⟩) (va := .str name) (vc := .str value) (r := .exact) o1 o2 o3 (flat2_len l) (flat2_scal l) rfl rfl h1 (by omega)).mono fun o s' h => ?_⟩
      obtain ⟨rfl, rfl⟩ := h
      rw [flat2_ins]
      have hS : (insSt ⟨σ.obj, m⟩ jv t (flat2 (l.take p ++ [(name, value)] ++ l.drop p))).obj j = some (.cells [.rslc jv 0 2 l.length (.opened t), y, z]) := by
        rw [insSt_obj]; simp only []; rw [if_neg (by omega), if_neg (by omega), if_neg (by omega), if_neg (by omega), if_neg (by omega), if_neg (by omega)]; exact hj
      generalize hSS : insSt ⟨σ.obj, m⟩ jv t (flat2 (l.take p ++ [(name, value)] ++ l.drop p)) = S at hS ⊢
      (repeat' (first | simp -dsimp (maxSteps := 2000000) (disch := first | omega | (simp; done) | (simp; omega)) only [SA, SB, SC, SD, SE, SF, SG, SI, Nat.reduceLT, Nat.reduceAdd, Nat.reduceSub, Nat.reduceMul, Nat.reduceLeDiff, Nat.reduceEqDiff, Nat.reduceBEq, Int.reduceToNat, Int.reduceLE, Int.reduceLT, Int.reduceEq, Int.reduceNeg, reduceCtorEq, ↓reduceIte, hS] | refine Cut.go ?_ | refine Both.intro ?_ ?_ | (refine Br.intro ?_ ?_ <;> intro hb <;> have hb' := hb <;> (try simp only [SH] at hb') <;> (try simp -dsimp (maxSteps := 2000000) (disch := first | omega | (simp; done) | (simp; omega)) only [SA, SB, SC, SD, SE, SF, SG, SI, Nat.reduceLT, Nat.reduceAdd, Nat.reduceSub, Nat.reduceMul, Nat.reduceLeDiff, Nat.reduceEqDiff, Nat.reduceBEq, Int.reduceToNat, Int.reduceLE, Int.reduceLT, Int.reduceEq, Int.reduceNeg, reduceCtorEq, ↓reduceIte, hb, hS]))))
      have hl' : (l.take p ++ [(name, value)] ++ l.drop p).length = l.length + 1 := by
        simp only [List.length_append, List.length_take, List.length_drop, List.length_cons, List.length_nil]; omega
      refine ⟨_, l.take p ++ [(name, value)] ++ l.drop p, rfl, ht2.anew (a := m) (s := S) ?_ ?_ ?_ (by omega) sy sz (Nat.le_refl _) ?_ ?_ ?_ (show j < m by omega) ?_ (by rw [hl'])⟩
      all_goals subst hSS
      · intro i hi; rw [insSt_obj]; simp only []; rw [if_neg (by omega), if_neg (by omega), if_neg (by omega), if_neg (by omega), if_neg (by omega), if_neg (by omega)]; exact ht.low i hi
      · intro i hi
        have : m + 1 + 1 + 1 ≤ i := hi
        rw [insSt_obj]; simp only []; rw [if_neg (by omega), if_neg (by omega), if_neg (by omega), if_neg (by omega), if_neg (by omega), if_neg (by omega)]; exact ht.fresh i (by omega)
      · show m ≤ m + 1 + 1 + 1; omega
      · rw [insSt_obj]; simp only []; rw [if_neg (by omega), if_neg (by omega), if_pos trivial]
      · rw [insSt_obj]; simp only []; rw [if_neg (by omega), if_pos trivial]
      · rw [insSt_obj]; simp only []; rw [if_pos trivial]
      · show m + 1 + 1 < m + 1 + 1 + 1; omega
  · have hp : p < l.length := h2 rfl
    rcases hx with ⟨rfl, rfl⟩ | ⟨jv, t, rfl, o1, o2, o3⟩
    · simp at hp
    obtain ⟨f1, f2, f3, f4, f5⟩ := hfar _ _ _ rfl
    have e1 : idxAddrS 2 (.rslc jv 0 2 l.length (.opened t)) (.int .i64 p) = some (.ref jv (2 * p)) := by
      simp only [idxAddrS]
      rw [if_pos ⟨trivial, by omega, by omega⟩]
      simp [Nat.mul_comm]
    have e2 : istore 1 (.ref jv (2 * p + 1)) (.str value) ⟨σ.obj, m⟩ = some ((⟨σ.obj, m⟩ : St).put jv (some (.cells (flat2 (l.set p ((l.getD p default).1, value)))))) := by
      simp only [istore, o1, dcells]
      rw [if_pos ⟨rfl, by rw [flat2_len]; simp; omega⟩, flat2_set l p value hp]
    (repeat' (first | simp -dsimp (maxSteps := 2000000) (disch := first | omega | (simp; done) | (simp; omega)) only [SA, SB, SC, SD, SE, SF, SG, SI, Nat.reduceLT, Nat.reduceAdd, Nat.reduceSub, Nat.reduceMul, Nat.reduceLeDiff, Nat.reduceEqDiff, Nat.reduceBEq, Int.reduceToNat, Int.reduceLE, Int.reduceLT, Int.reduceEq, Int.reduceNeg, reduceCtorEq, ↓reduceIte, hj, hso, hlx, inilM_r, e1, e2] | refine Cut.go ?_ | refine Both.intro ?_ ?_ | (refine Br.intro ?_ ?_ <;> intro hb <;> have hb' := hb <;> (try simp only [SH] at hb') <;> (try simp -dsimp (maxSteps := 2000000) (disch := first | omega | (simp; done) | (simp; omega)) only [SA, SB, SC, SD, SE, SF, SG, SI, Nat.reduceLT, Nat.reduceAdd, Nat.reduceSub, Nat.reduceMul, Nat.reduceLeDiff, Nat.reduceEqDiff, Nat.reduceBEq, Int.reduceToNat, Int.reduceLE, Int.reduceLT, Int.reduceEq, Int.reduceNeg, reduceCtorEq, ↓reduceIte, hb, hj, hso, hlx, inilM_r, e1, e2]))))
    have nj := ht.nxt
    have hlt : ∀ i o, σ.obj i = some o → i < σ.next := fun i o hi => Nat.lt_of_not_le fun hle => by rw [ht.fresh i hle] at hi; cases hi
    have g1 := hlt _ _ o1
    have g2 := hlt _ _ o2
    have g3 := hlt _ _ o3
    have htj : t ≠ jv := fun h => by subst h; rw [o1] at o2; cases o2
    refine ⟨_, l.set p ((l.getD p default).1, value), rfl, ⟨fun i hi => ?_, ⟨nj.1, by show j < m; omega⟩, fun i hi => ?_, by rw [List.length_set]; exact ht.few, _, y, z, by rw [put_obj, if_neg (fun h => f3 h.symm)]; exact hj, rfl, sy, sz, .inr ⟨jv, t, by rw [List.length_set], by rw [put_obj, if_pos rfl], by rw [put_obj, if_neg htj]; exact o2, by rw [put_obj, if_neg (by omega)]; exact o3⟩, fun a b n e => by cases e; exact ⟨f1, f2, f3, f4, f5⟩⟩⟩
    · rw [put_obj, if_neg (by omega)]; exact ht.low i hi
    · have : m ≤ i := hi
      rw [put_obj, if_neg (by omega)]; exact ht.fresh i (by omega)
end Go.Proofs.YthiidchbaicfgaaGreatDoor
