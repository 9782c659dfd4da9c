/-
  THE WALKS, layer 13, PART 26: a variable is given a value, exactly.
-/
import Derived.Test.YthiidchbaicfgaaGreatDoorZQ
namespace Go.Proofs.YthiidchbaicfgaaGreatDoor
open Go Go.Id
set_option linter.unusedSimpArgs false
set_option linter.unusedVariables false
set_option maxRecDepth 100000
set_option maxHeartbeats 8000000

/-- A table that was made behind 'σ0'. -/
structure TabY (σ0 : St) (j : Nat) (l : Vs) (y z : D) (s : St) : Prop where
  low : ∀ i, i < σ0.next → s.obj i = σ0.obj i
  nxt : σ0.next ≤ j ∧ j < s.next
  fresh : s.Fresh
  few : l.length ≤ 64
  sorted : Sorted l
  x : ∃ x, s.obj j = some (.cells [x, y, z]) ∧ scal x = true ∧ scal y = true ∧ scal z = true ∧ VarsAt s x l ∧
    ∀ jv t n, x = .rslc jv 0 2 n (.opened t) → σ0.next ≤ jv ∧ σ0.next ≤ t ∧ jv ≠ j ∧ t ≠ j ∧ jv + 2 ≠ j
theorem TabY.more {σ0 s s' : St} {j : Nat} {l : Vs} {y z : D} (h : TabY σ0 j l y z s) (ho : s'.obj = s.obj) (hn : s.next ≤ s'.next) : TabY σ0 j l y z s' := by
  refine ⟨fun i hi => by rw [ho]; exact h.low i hi, ⟨h.nxt.1, Nat.lt_of_lt_of_le h.nxt.2 hn⟩, fun i hi => by rw [ho]; exact h.fresh i (by omega), h.few, h.sorted, ?_⟩
  obtain ⟨x, h1, h2, h3, h4, h5, h6⟩ := h.x
  exact ⟨x, by rw [ho]; exact h1, h2, h3, h4, h5.more (fun i => by rw [ho]), h6⟩
/-- What giving a value comes to. -/
def setE (n v : List UInt8) (l : Vs) : Int × Vs :=
  if nameB n then (if 4096 < v.length then (2, l) else if (tget n l).isNone && decide (64 ≤ l.length) then (2, l) else (0, tset n v l)) else (70, l)
/-- A table whose variables are told anew, in a state where they lie at 'a'. -/
theorem TabY.anew {σ0 σ s : St} {j : Nat} {l l' : Vs} {y z : D} (h : TabY σ0 j l y z σ) (hlow : ∀ i, i < σ0.next → s.obj i = σ0.obj i) (hf : s.Fresh) (hn : σ.next ≤ s.next) (hfew : l'.length ≤ 64) (hsrt : Sorted l') (sy : scal y = true) (sz : scal z = true)
    {a : Nat} (ha : σ.next ≤ a) (h1 : s.obj a = some (.cells (flat2 l'))) (h2 : s.obj (a + 1) = some .tok) (h3 : s.obj (a + 1 + 1) = some (.ty a 57 none)) (hlt : j < σ.next) (hs : a + 1 + 1 < s.next) {F : List D} (hF : F = [.rslc a 0 2 l'.length (.opened (a + 1)), y, z]) :
    TabY σ0 j l' y z (s.put j (some (.cells F))) := by
  subst hF
  have n1 := h.nxt.1
  refine ⟨fun i hi => ?_, ⟨n1, by show j < s.next; omega⟩, fun i hi => ?_, hfew, hsrt, _, by rw [put_obj, if_pos rfl], rfl, sy, sz, .inr ⟨a, a + 1, rfl, ?_, ?_, ?_⟩, fun jv t n e => ?_⟩
  · rw [put_obj, if_neg (by omega)]; exact hlow i hi
  · have : s.next ≤ i := hi
    rw [put_obj, if_neg (by omega)]; exact hf i hi
  · rw [put_obj, if_neg (by omega)]; exact h1
  · rw [put_obj, if_neg (by omega)]; exact h2
  · rw [put_obj, if_neg (by omega)]; exact h3
  · cases e
    have := h.nxt.2
    refine ⟨by omega, by omega, by omega, by omega, by omega⟩
theorem tset_len (n v : List UInt8) : ∀ l : Vs, (tset n v l).length ≤ l.length + 1
  | [] => Nat.le_refl _
  | q :: r => by
    have := tset_len n v r
    rw [tset]
    split
    · simp only [List.length_cons]; omega
    · split <;> simp only [List.length_cons] <;> omega
theorem isAt_get {l : Vs} {n : List UInt8} {p : Nat} (hs : Sorted l) (hp : Pos l n p) : (tget n l).isNone = !isAt l n p := by
  cases h : isAt l n p
  · rw [tget_none n hs hp h]; rfl
  · unfold isAt at h
    split at h
    · rename_i hl
      rw [tget_at n hp hl (by simpa using h)]; rfl
    · cases h
/-- What of the store is a list of variables. -/
def foot (x : D) (i : Nat) : Prop := match x with
  | .rslc jv _ _ _ (.opened t) => i = jv ∨ i = t ∨ i = jv + 2
  | _ => False
def SetOut (σ0 : St) (j : Nat) (l : Vs) (y z : D) (name value : List UInt8) (σ : St) (o : Out) (s' : St) : Prop :=
  o = .ret (.int .i64 (setE name value l).1) ∧ TabY σ0 j (setE name value l).2 y z s' ∧ σ.next ≤ s'.next ∧ ∀ x, σ.obj j = some (.cells [x, y, z]) → ∀ i, i < σ.next → i ≠ j → ¬ foot x i → s'.obj i = σ.obj i
theorem set9x {σ0 σ : St} {j : Nat} {l : Vs} {y z : D} (ht : TabY σ0 j l y z σ) (name value : List UInt8) :
    Ok Tryz.prog 9 [.ref j 0, .str name, .str value] σ (SetOut σ0 j l y z name value σ) := by
  obtain ⟨x, hj, sx, sy, sz, hx, hfar⟩ := ht.x
  have hso : scalO (some x) = some x := by simp [scalO, sx]
  have hlx := hx.len
  apply en9
  simp -dsimp (maxSteps := 2000000) (disch := first | omega | (simp; done) | (simp; omega)) only [SA, SB, SC, SD, SE, SF, SG, SI, Nat.reduceLT, Nat.reduceAdd, Nat.reduceSub, Nat.reduceMul, Nat.reduceLeDiff, Nat.reduceEqDiff, Nat.reduceBEq, Int.reduceToNat, Int.reduceLE, Int.reduceLT, Int.reduceEq, Int.reduceNeg, reduceCtorEq, ↓reduceIte, ic9, List.replicate_succ, List.replicate_zero]
  cases hn : nameB name
  · (repeat' (first | simp -dsimp (maxSteps := 2000000) (disch := first | omega | (simp; done) | (simp; omega)) only [SA, SB, SC, SD, SE, SF, SG, SI, Nat.reduceLT, Nat.reduceAdd, Nat.reduceSub, Nat.reduceMul, Nat.reduceLeDiff, Nat.reduceEqDiff, Nat.reduceBEq, Int.reduceToNat, Int.reduceLE, Int.reduceLT, Int.reduceEq, Int.reduceNeg, reduceCtorEq, ↓reduceIte, hn] | refine Cut.go ?_ | refine Both.intro ?_ ?_ | refine via gd23 (name23x _ _) ?_ | (refine Br.intro ?_ ?_ <;> intro hb <;> have hb' := hb <;> (try simp only [SH] at hb') <;> (try simp -dsimp (maxSteps := 2000000) (disch := first | omega | (simp; done) | (simp; omega)) only [SA, SB, SC, SD, SE, SF, SG, SI, Nat.reduceLT, Nat.reduceAdd, Nat.reduceSub, Nat.reduceMul, Nat.reduceLeDiff, Nat.reduceEqDiff, Nat.reduceBEq, Int.reduceToNat, Int.reduceLE, Int.reduceLT, Int.reduceEq, Int.reduceNeg, reduceCtorEq, ↓reduceIte, hb, hn]))))
    have : setE name value l = (70, l) := by simp [setE, hn]
    rw [SetOut, this]; exact ⟨rfl, ht, Nat.le_refl _, fun _ _ _ _ _ _ => rfl⟩
  by_cases hv : 4096 < value.length
  · have hcond : decide ((value.length : Int) > 4096) = true := by simp; omega
    (repeat' (first | simp -dsimp (maxSteps := 2000000) (disch := first | omega | (simp; done) | (simp; omega)) only [SA, SB, SC, SD, SE, SF, SG, SI, Nat.reduceLT, Nat.reduceAdd, Nat.reduceSub, Nat.reduceMul, Nat.reduceLeDiff, Nat.reduceEqDiff, Nat.reduceBEq, Int.reduceToNat, Int.reduceLE, Int.reduceLT, Int.reduceEq, Int.reduceNeg, reduceCtorEq, ↓reduceIte, hn, hcond] | refine Cut.go ?_ | refine Both.intro ?_ ?_ | refine via gd23 (name23x _ _) ?_ | (refine Br.intro ?_ ?_ <;> intro hb <;> have hb' := hb <;> (try simp only [SH] at hb') <;> (try simp -dsimp (maxSteps := 2000000) (disch := first | omega | (simp; done) | (simp; omega)) only [SA, SB, SC, SD, SE, SF, SG, SI, Nat.reduceLT, Nat.reduceAdd, Nat.reduceSub, Nat.reduceMul, Nat.reduceLeDiff, Nat.reduceEqDiff, Nat.reduceBEq, Int.reduceToNat, Int.reduceLE, Int.reduceLT, Int.reduceEq, Int.reduceNeg, reduceCtorEq, ↓reduceIte, hb, hn, hcond]))))
    have : setE name value l = (2, l) := by simp [setE, hn, hv]
    rw [SetOut, this]; exact ⟨rfl, ht, Nat.le_refl _, fun _ _ _ _ _ _ => rfl⟩
  have hcond : decide ((value.length : Int) > 4096) = false := by simp; omega
  (repeat' (first | simp -dsimp (maxSteps := 2000000) (disch := first | omega | (simp; done) | (simp; omega)) only [SA, SB, SC, SD, SE, SF, SG, SI, Nat.reduceLT, Nat.reduceAdd, Nat.reduceSub, Nat.reduceMul, Nat.reduceLeDiff, Nat.reduceEqDiff, Nat.reduceBEq, Int.reduceToNat, Int.reduceLE, Int.reduceLT, Int.reduceEq, Int.reduceNeg, reduceCtorEq, ↓reduceIte, hn, hcond] | refine Cut.go ?_ | refine Both.intro ?_ ?_ | refine via gd23 (name23x _ _) ?_ | (refine Br.intro ?_ ?_ <;> intro hb <;> have hb' := hb <;> (try simp only [SH] at hb') <;> (try simp -dsimp (maxSteps := 2000000) (disch := first | omega | (simp; done) | (simp; omega)) only [SA, SB, SC, SD, SE, SF, SG, SI, Nat.reduceLT, Nat.reduceAdd, Nat.reduceSub, Nat.reduceMul, Nat.reduceLeDiff, Nat.reduceEqDiff, Nat.reduceBEq, Int.reduceToNat, Int.reduceLE, Int.reduceLT, Int.reduceEq, Int.reduceNeg, reduceCtorEq, ↓reduceIte, hb, hn, hcond]))))
  refine ⟨gd24, (place24x (by have := ht.few; omega) ht.sorted name σ hj sx hx.read).mono fun o s' h => ?_⟩
  obtain ⟨⟨m, hm, rfl⟩, p, hp, rfl⟩ := h
  have h1 := hp.le
  have hg := isAt_get ht.sorted hp
  have ht2 : TabY σ0 j l y z ⟨σ.obj, m⟩ := ht.more rfl hm
  cases hb : isAt l name p
  · rw [hb] at hg
    by_cases h64 : 64 ≤ l.length
    · have hcond2 : decide ((l.length : Int) ≥ 64) = true := by simp; omega
      (repeat' (first | simp -dsimp (maxSteps := 2000000) (disch := first | omega | (simp; done) | (simp; omega)) only [SA, SB, SC, SD, SE, SF, SG, SI, Nat.reduceLT, Nat.reduceAdd, Nat.reduceSub, Nat.reduceMul, Nat.reduceLeDiff, Nat.reduceEqDiff, Nat.reduceBEq, Int.reduceToNat, Int.reduceLE, Int.reduceLT, Int.reduceEq, Int.reduceNeg, reduceCtorEq, ↓reduceIte, hj, hso, hlx, inilM_r, hcond2] | refine Cut.go ?_ | refine Both.intro ?_ ?_ | (refine Br.intro ?_ ?_ <;> intro hb <;> have hb' := hb <;> (try simp only [SH] at hb') <;> (try simp -dsimp (maxSteps := 2000000) (disch := first | omega | (simp; done) | (simp; omega)) only [SA, SB, SC, SD, SE, SF, SG, SI, Nat.reduceLT, Nat.reduceAdd, Nat.reduceSub, Nat.reduceMul, Nat.reduceLeDiff, Nat.reduceEqDiff, Nat.reduceBEq, Int.reduceToNat, Int.reduceLE, Int.reduceLT, Int.reduceEq, Int.reduceNeg, reduceCtorEq, ↓reduceIte, hb, hj, hso, hlx, inilM_r, hcond2]))))
      have : setE name value l = (2, l) := by simp [setE, hn, hv, hg, h64]
      rw [SetOut, this]; exact ⟨rfl, ht2, hm, fun _ _ _ _ _ _ => rfl⟩
    have hcond2 : decide ((l.length : Int) ≥ 64) = false := by simp; omega
    have hE : setE name value l = (0, l.take p ++ [(name, value)] ++ l.drop p) := by rw [tset_new name value hp hb]; simp [setE, hn, hv, hg, h64]
    have hsr : Sorted (l.take p ++ [(name, value)] ++ l.drop p) := by rw [tset_new name value hp hb]; exact tset_sorted _ _ ht.sorted
    have hj0 := hj
    (repeat' (first | simp -dsimp (maxSteps := 2000000) (disch := first | omega | (simp; done) | (simp; omega)) only [SA, SB, SC, SD, SE, SF, SG, SI, Nat.reduceLT, Nat.reduceAdd, Nat.reduceSub, Nat.reduceMul, Nat.reduceLeDiff, Nat.reduceEqDiff, Nat.reduceBEq, Int.reduceToNat, Int.reduceLE, Int.reduceLT, Int.reduceEq, Int.reduceNeg, reduceCtorEq, ↓reduceIte, hj, hso, hlx, inilM_r, hcond2] | refine Cut.go ?_ | refine Both.intro ?_ ?_ | (refine Br.intro ?_ ?_ <;> intro hb <;> have hb' := hb <;> (try simp only [SH] at hb') <;> (try simp -dsimp (maxSteps := 2000000) (disch := first | omega | (simp; done) | (simp; omega)) only [SA, SB, SC, SD, SE, SF, SG, SI, Nat.reduceLT, Nat.reduceAdd, Nat.reduceSub, Nat.reduceMul, Nat.reduceLeDiff, Nat.reduceEqDiff, Nat.reduceBEq, Int.reduceToNat, Int.reduceLE, Int.reduceLT, Int.reduceEq, Int.reduceNeg, reduceCtorEq, ↓reduceIte, hb, hj, hso, hlx, inilM_r, hcond2]))))
    have hfew : l.length < 64 := by omega
    have nj := ht.nxt
    rcases hx with ⟨rfl, rfl⟩ | ⟨jv, t, rfl, o1, o2, o3⟩
    · obtain rfl : p = 0 := by simpa using h1
      refine ⟨gd25, (insert_nil (σ := ⟨σ.obj, m⟩) (va := .str name) (vc := .str value) (r := .exact) rfl rfl).mono fun o s' h => ?_⟩
      obtain ⟨rfl, rfl⟩ := h
      have hS : (nilSt ⟨σ.obj, m⟩ [.str name, .str value]).obj j = some (.cells [.nils, y, z]) := by
        rw [nilSt_obj]; simp only []; rw [if_neg (by omega), if_neg (by omega), if_neg (by omega)]; exact hj
      generalize hSS : nilSt ⟨σ.obj, m⟩ [.str name, .str value] = S at hS
      rw [show (((⟨σ.obj, m⟩ : St).alloc (.cells [.str name, .str value])).alloc .tok).alloc (.ty m 57 none) = S from hSS]
      (repeat' (first | simp -dsimp (maxSteps := 2000000) (disch := first | omega | (simp; done) | (simp; omega)) only [SA, SB, SC, SD, SE, SF, SG, SI, Nat.reduceLT, Nat.reduceAdd, Nat.reduceSub, Nat.reduceMul, Nat.reduceLeDiff, Nat.reduceEqDiff, Nat.reduceBEq, Int.reduceToNat, Int.reduceLE, Int.reduceLT, Int.reduceEq, Int.reduceNeg, reduceCtorEq, ↓reduceIte, hS] | refine Cut.go ?_ | refine Both.intro ?_ ?_ | (refine Br.intro ?_ ?_ <;> intro hb <;> have hb' := hb <;> (try simp only [SH] at hb') <;> (try simp -dsimp (maxSteps := 2000000) (disch := first | omega | (simp; done) | (simp; omega)) only [SA, SB, SC, SD, SE, SF, SG, SI, Nat.reduceLT, Nat.reduceAdd, Nat.reduceSub, Nat.reduceMul, Nat.reduceLeDiff, Nat.reduceEqDiff, Nat.reduceBEq, Int.reduceToNat, Int.reduceLE, Int.reduceLT, Int.reduceEq, Int.reduceNeg, reduceCtorEq, ↓reduceIte, hb, hS]))))
      have hSo : ∀ i, i < σ.next → S.obj i = σ.obj i := fun i hi => by
        rw [← hSS, nilSt_obj]; simp only []; rw [if_neg (by omega), if_neg (by omega), if_neg (by omega)]
      have hSn : S.next = m + 1 + 1 + 1 := by rw [← hSS]; rfl
      rw [SetOut, hE]
      refine ⟨rfl, ?_, by show σ.next ≤ S.next; omega, fun x' hx' i hi hij hfo => by rw [put_obj, if_neg hij]; exact hSo i hi⟩
      refine ht2.anew (a := m) (s := S) (l' := [(name, value)]) ?_ ?_ ?_ (by simp) hsr sy sz (Nat.le_refl _) ?_ ?_ ?_ (show j < m by omega) ?_ rfl
      all_goals subst hSS
      · intro i hi; rw [nilSt_obj]; simp only []; rw [if_neg (by omega), if_neg (by omega), if_neg (by omega)]; exact ht.low i hi
      · intro i hi
        have : m + 1 + 1 + 1 ≤ i := hi
        rw [nilSt_obj]; simp only []; rw [if_neg (by omega), if_neg (by omega), if_neg (by omega)]; exact ht.fresh i (by omega)
      · show m ≤ m + 1 + 1 + 1; omega
      · rw [nilSt_obj]; simp only []; rw [if_neg (by omega), if_neg (by omega), if_pos trivial]; rfl
      · rw [nilSt_obj]; simp only []; rw [if_neg (by omega), if_pos trivial]
      · rw [nilSt_obj]; simp only []; rw [if_pos trivial]
      · show m + 1 + 1 < m + 1 + 1 + 1; omega
    · obtain ⟨f1, f2, f3, f4, f5⟩ := hfar _ _ _ rfl
      have hlt : ∀ i o, σ.obj i = some o → i < σ.next := fun i o hi => Nat.lt_of_not_le fun hle => by rw [ht.fresh i hle] at hi; cases hi
      have g1 := hlt _ _ o1
      have g2 := hlt _ _ o2
      have g3 := hlt _ _ o3
      refine ⟨gd25, (insert_ok (σ := ⟨σ.obj, m⟩) (va := .str name) (vc := .str value) (r := .exact) o1 o2 o3 (flat2_len l) (flat2_scal l) rfl rfl h1 (by omega)).mono fun o s' h => ?_⟩
      obtain ⟨rfl, rfl⟩ := h
      rw [flat2_ins]
      have hS : (insSt ⟨σ.obj, m⟩ jv t (flat2 (l.take p ++ [(name, value)] ++ l.drop p))).obj j = some (.cells [.rslc jv 0 2 l.length (.opened t), y, z]) := by
        rw [insSt_obj]; simp only []; rw [if_neg (by omega), if_neg (by omega), if_neg (by omega), if_neg (by omega), if_neg (by omega), if_neg (by omega)]; exact hj
      generalize hSS : insSt ⟨σ.obj, m⟩ jv t (flat2 (l.take p ++ [(name, value)] ++ l.drop p)) = S at hS ⊢
      (repeat' (first | simp -dsimp (maxSteps := 2000000) (disch := first | omega | (simp; done) | (simp; omega)) only [SA, SB, SC, SD, SE, SF, SG, SI, Nat.reduceLT, Nat.reduceAdd, Nat.reduceSub, Nat.reduceMul, Nat.reduceLeDiff, Nat.reduceEqDiff, Nat.reduceBEq, Int.reduceToNat, Int.reduceLE, Int.reduceLT, Int.reduceEq, Int.reduceNeg, reduceCtorEq, ↓reduceIte, hS] | refine Cut.go ?_ | refine Both.intro ?_ ?_ | (refine Br.intro ?_ ?_ <;> intro hb <;> have hb' := hb <;> (try simp only [SH] at hb') <;> (try simp -dsimp (maxSteps := 2000000) (disch := first | omega | (simp; done) | (simp; omega)) only [SA, SB, SC, SD, SE, SF, SG, SI, Nat.reduceLT, Nat.reduceAdd, Nat.reduceSub, Nat.reduceMul, Nat.reduceLeDiff, Nat.reduceEqDiff, Nat.reduceBEq, Int.reduceToNat, Int.reduceLE, Int.reduceLT, Int.reduceEq, Int.reduceNeg, reduceCtorEq, ↓reduceIte, hb, hS]))))
      have hl' : (l.take p ++ [(name, value)] ++ l.drop p).length = l.length + 1 := by
        simp only [List.length_append, List.length_take, List.length_drop, List.length_cons, List.length_nil]; omega
      have hSo : ∀ i, i < σ.next → ¬ (i = jv ∨ i = t ∨ i = jv + 2) → S.obj i = σ.obj i := fun i hi hfo => by
        rw [← hSS, insSt_obj]; simp only []; rw [if_neg (by omega), if_neg (by omega), if_neg (by omega), if_neg (by omega), if_neg (by omega), if_neg (by omega)]
      have hSn : S.next = m + 1 + 1 + 1 := by rw [← hSS]; rfl
      rw [SetOut, hE]
      refine ⟨rfl, ?_, by show σ.next ≤ S.next; omega, fun x' hx' i hi hij hfo => ?_⟩
      rotate_left
      · rw [hj] at hx'
        simp only [Option.some.injEq, Ob.cells.injEq, List.cons.injEq] at hx'
        obtain ⟨rfl, -⟩ := hx'
        rw [put_obj, if_neg hij]; exact hSo i hi hfo
      refine ht2.anew (a := m) (s := S) (l' := l.take p ++ [(name, value)] ++ l.drop p) ?_ ?_ ?_ (by omega) hsr sy sz (Nat.le_refl _) ?_ ?_ ?_ (show j < m by omega) ?_ (by rw [hl'])
      all_goals subst hSS
      · intro i hi; rw [insSt_obj]; simp only []; rw [if_neg (by omega), if_neg (by omega), if_neg (by omega), if_neg (by omega), if_neg (by omega), if_neg (by omega)]; exact ht.low i hi
      · intro i hi
        have : m + 1 + 1 + 1 ≤ i := hi
        rw [insSt_obj]; simp only []; rw [if_neg (by omega), if_neg (by omega), if_neg (by omega), if_neg (by omega), if_neg (by omega), if_neg (by omega)]; exact ht.fresh i (by omega)
      · show m ≤ m + 1 + 1 + 1; omega
      · rw [insSt_obj]; simp only []; rw [if_neg (by omega), if_neg (by omega), if_pos trivial]
      · rw [insSt_obj]; simp only []; rw [if_neg (by omega), if_pos trivial]
      · rw [insSt_obj]; simp only []; rw [if_pos trivial]
      · show m + 1 + 1 < m + 1 + 1 + 1; omega
  · rw [hb] at hg
    have hpl : p < l.length ∧ (l.getD p default).1 = name := by
      unfold isAt at hb
      split at hb
      · rename_i h
        refine ⟨h, ?_⟩
        rw [List.getD_eq_getElem?_getD, List.getElem?_eq_getElem h]; simpa using hb
      · cases hb
    obtain ⟨hp', hpn⟩ := hpl
    have hE : setE name value l = (0, l.set p (name, value)) := by rw [tset_at name value hp hb]; simp [setE, hn, hv, hg]
    have hsr : Sorted (l.set p (name, value)) := by rw [tset_at name value hp hb]; exact tset_sorted _ _ ht.sorted
    rcases hx with ⟨rfl, rfl⟩ | ⟨jv, t, rfl, o1, o2, o3⟩
    · simp at hp'
    obtain ⟨f1, f2, f3, f4, f5⟩ := hfar _ _ _ rfl
    have e1 : idxAddrS 2 (.rslc jv 0 2 l.length (.opened t)) (.int .i64 p) = some (.ref jv (2 * p)) := by
      simp only [idxAddrS]
      rw [if_pos ⟨trivial, by omega, by omega⟩]
      simp [Nat.mul_comm]
    have e2 : istore 1 (.ref jv (2 * p + 1)) (.str value) ⟨σ.obj, m⟩ = some ((⟨σ.obj, m⟩ : St).put jv (some (.cells (flat2 (l.set p (name, value)))))) := by
      simp only [istore, o1, dcells]
      rw [if_pos ⟨rfl, by rw [flat2_len]; simp; omega⟩, flat2_set l p value hp', hpn]
    (repeat' (first | simp -dsimp (maxSteps := 2000000) (disch := first | omega | (simp; done) | (simp; omega)) only [SA, SB, SC, SD, SE, SF, SG, SI, Nat.reduceLT, Nat.reduceAdd, Nat.reduceSub, Nat.reduceMul, Nat.reduceLeDiff, Nat.reduceEqDiff, Nat.reduceBEq, Int.reduceToNat, Int.reduceLE, Int.reduceLT, Int.reduceEq, Int.reduceNeg, reduceCtorEq, ↓reduceIte, hj, hso, hlx, inilM_r, e1, e2] | refine Cut.go ?_ | refine Both.intro ?_ ?_ | (refine Br.intro ?_ ?_ <;> intro hb <;> have hb' := hb <;> (try simp only [SH] at hb') <;> (try simp -dsimp (maxSteps := 2000000) (disch := first | omega | (simp; done) | (simp; omega)) only [SA, SB, SC, SD, SE, SF, SG, SI, Nat.reduceLT, Nat.reduceAdd, Nat.reduceSub, Nat.reduceMul, Nat.reduceLeDiff, Nat.reduceEqDiff, Nat.reduceBEq, Int.reduceToNat, Int.reduceLE, Int.reduceLT, Int.reduceEq, Int.reduceNeg, reduceCtorEq, ↓reduceIte, hb, hj, hso, hlx, inilM_r, e1, e2]))))
    have nj := ht.nxt
    have hlt : ∀ i o, σ.obj i = some o → i < σ.next := fun i o hi => Nat.lt_of_not_le fun hle => by rw [ht.fresh i hle] at hi; cases hi
    have g1 := hlt _ _ o1
    have g2 := hlt _ _ o2
    have g3 := hlt _ _ o3
    have htj : t ≠ jv := fun h => by subst h; rw [o1] at o2; cases o2
    rw [SetOut, hE]
    refine ⟨rfl, ?_, hm, fun x' hx' i hi hij hfo => ?_⟩
    rotate_left
    · rw [hj] at hx'
      simp only [Option.some.injEq, Ob.cells.injEq, List.cons.injEq] at hx'
      obtain ⟨rfl, -⟩ := hx'
      have : i ≠ jv := fun e => hfo (.inl e)
      rw [put_obj, if_neg this]
    refine ⟨fun i hi => ?_, ⟨nj.1, by show j < m; omega⟩, fun i hi => ?_, by rw [List.length_set]; exact ht.few, hsr, _, by rw [put_obj, if_neg (fun h => f3 h.symm)]; exact hj, rfl, sy, sz, .inr ⟨jv, t, by rw [List.length_set], by rw [put_obj, if_pos rfl], by rw [put_obj, if_neg htj]; exact o2, by rw [put_obj, if_neg (by omega)]; exact o3⟩, fun a b n e => by cases e; exact ⟨f1, f2, f3, f4, f5⟩⟩
    · rw [put_obj, if_neg (by omega)]; exact ht.low i hi
    · have : m ≤ i := hi
      rw [put_obj, if_neg (by omega)]; exact ht.fresh i (by omega)
end Go.Proofs.YthiidchbaicfgaaGreatDoor
