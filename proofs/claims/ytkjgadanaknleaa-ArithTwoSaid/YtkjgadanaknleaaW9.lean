/-
  THE WALKS, PART 9: the machine's variables.
-/
import Derived.Test.YtkjgadanaknleaaW8
namespace Go.Proofs.Ytkjgadanaknleaa
open Go Go.Id
set_option linter.unusedSimpArgs false
set_option linter.unusedVariables false
set_option maxRecDepth 100000
set_option maxHeartbeats 4000000

/-- A variable. -/
structure V where
  name : List UInt8
  value : List UInt8
  deriving DecidableEq, Inhabited
def V.cs (v : V) : List D := [.str v.name, .str v.value]
def V.d (v : V) : D := .agg v.cs
def flatV (l : List V) : List D := l.flatMap V.cs
theorem flatV_nil : flatV [] = [] := rfl
theorem flatV_cons (v : V) (l : List V) : flatV (v :: l) = .str v.name :: .str v.value :: flatV l := rfl
theorem flatV_len : ∀ l : List V, (flatV l).length = 2 * l.length
  | [] => rfl
  | v :: l => by rw [flatV_cons]; simp only [List.length_cons, flatV_len l]; omega
theorem flatV_app (l m : List V) : flatV (l ++ m) = flatV l ++ flatV m := by simp [flatV]
theorem flatV_drop : ∀ (l : List V) (i : Nat), (flatV l).drop (2 * i) = flatV (l.drop i)
  | l, 0 => rfl
  | [], i + 1 => by simp [flatV]
  | v :: l, i + 1 => by rw [flatV_cons, show 2 * (i + 1) = 2 * i + 1 + 1 by omega]; simp only [List.drop_succ_cons]; exact flatV_drop l i
theorem flatV_take (v : V) (l : List V) : (flatV (v :: l)).take 2 = v.cs := rfl
theorem flatV_get0 {l : List V} {i : Nat} (h : i < l.length) : (flatV l)[2 * i]? = some (.str l[i].name) := by
  have := flatV_drop l i
  rw [List.drop_eq_getElem_cons h, flatV_cons] at this
  have h2 : ((flatV l).drop (2 * i))[0]? = some (.str l[i].name) := by rw [this]; rfl
  simpa using h2
theorem flatV_get1 {l : List V} {i : Nat} (h : i < l.length) : (flatV l)[2 * i + 1]? = some (.str l[i].value) := by
  have := flatV_drop l i
  rw [List.drop_eq_getElem_cons h, flatV_cons] at this
  have h2 : ((flatV l).drop (2 * i))[1]? = some (.str l[i].value) := by rw [this]; rfl
  simpa using h2
theorem flatV_set : ∀ (l : List V) (i : Nat) (x : List UInt8), i < l.length → (flatV l).set (2 * i + 1) (.str x) = flatV (l.set i ⟨(l.getD i default).name, x⟩)
  | v :: l, 0, x, _ => by rw [flatV_cons]; rfl
  | v :: l, i + 1, x, h => by
    have := flatV_set l i x (by simpa using h)
    rw [flatV_cons, show 2 * (i + 1) + 1 = 2 * i + 1 + 1 + 1 by omega]
    simp only [List.set_cons_succ, this, List.getD_cons_succ, flatV_cons]
  | [], i, x, h => by simp at h

/-- That a slice's datum stands for variables. -/
inductive Vs (σ : St) : D → List V → Prop
  | vnil : Vs σ .nils []
  | vnone : Vs σ (.slc 2 [] .exact) []
  | vsome (j t : Nat) (l : List V) (hl : l ≠ []) (hj : σ.obj j = some (.cells (flatV l))) (ht : σ.obj t = some .tok) : Vs σ (.rslc j 0 2 l.length (.opened t)) l

theorem Vs.len {σ : St} {x : D} {l : List V} (h : Vs σ x l) : ilen x = some (.int .i64 l.length) := by cases h <;> rfl

theorem drops_alloc {σ : St} (hf : σ.Fresh) (x : Ob) : Drops (σ.alloc x) ⟨σ.obj, σ.next + 1⟩ := by
  refine ⟨Nat.le_refl _, fun i => ?_⟩
  by_cases h : i = σ.next
  · left; subst h; exact hf _ (Nat.le_refl _)
  · right; rw [alloc_obj, if_neg h]
theorem Vs.at {σ : St} {x : D} {l : List V} (h : Vs σ x l) {i : Nat} (hi : i < l.length) : ∃ j, idxAddrS 2 x (.int .i64 i) = .some (.ref j (2 * i)) ∧ σ.obj j = .some (.cells (flatV l)) := by
  cases h with
  | vnil => simp at hi
  | vnone => simp at hi
  | vsome j t l hl hj ht =>
    refine ⟨j, ?_, hj⟩
    simp only [idxAddrS]
    rw [if_pos ⟨trivial, by omega, by omega⟩]
    simp [Nat.mul_comm]
theorem flat_load {l : List V} {i : Nat} (hi : i < l.length) : cellsAt (flatV l) (2 * i) (.some 2) = .some (V.d (l[i])) := by
  rw [ca_some _ _ _ (by rw [flatV_len]; omega), flatV_drop, List.drop_eq_getElem_cons hi, flatV_take]; rfl
theorem get1_ok (v : V) (k : Nat) (name : List UInt8) (σ : St) (hk : σ.obj k = some (.cells [.str name])) : Ok Try.prog 59 [v.d, .ref k 0] σ (fun o s' => ∃ m, σ.next ≤ m ∧ s' = ⟨σ.obj, m⟩ ∧ o = .ret (.bool (v.name == name))) := by
  refine Ok.fresh fun hf => Ok.drop ?_
  have hlt : k < σ.next := Nat.lt_of_not_le fun hle => by rw [hf _ hle] at hk; cases hk
  have hk1 : (k = σ.next) = False := eq_false (by omega)
  apply en59
  simp -dsimp (maxSteps := 2000000) (disch := first | omega | (simp; done) | (simp; omega)) only [SA, SB, SC, SD, SE, SF, SG, Nat.reduceLT, Nat.reduceAdd, Nat.reduceSub, Nat.reduceMul, Nat.reduceLeDiff, Nat.reduceEqDiff, Nat.reduceBEq, Int.reduceToNat, Int.reduceLE, Int.reduceLT, Int.reduceEq, Int.reduceNeg, reduceCtorEq, ↓reduceIte, ic59, List.replicate_succ, List.replicate_zero, V.d, V.cs]
  (repeat' (first | simp -dsimp (maxSteps := 2000000) (disch := first | omega | (simp; done) | (simp; omega)) only [SA, SB, SC, SD, SE, SF, SG, Nat.reduceLT, Nat.reduceAdd, Nat.reduceSub, Nat.reduceMul, Nat.reduceLeDiff, Nat.reduceEqDiff, Nat.reduceBEq, Int.reduceToNat, Int.reduceLE, Int.reduceLT, Int.reduceEq, Int.reduceNeg, reduceCtorEq, ↓reduceIte, hk, hk1] | refine Cut.go ?_ | refine Both.intro ?_ ?_ | (refine Br.intro ?_ ?_ <;> intro hb <;> have hb' := hb <;> (try simp only [SH] at hb') <;> (try simp -dsimp (maxSteps := 2000000) (disch := first | omega | (simp; done) | (simp; omega)) only [SA, SB, SC, SD, SE, SF, SG, Nat.reduceLT, Nat.reduceAdd, Nat.reduceSub, Nat.reduceMul, Nat.reduceLeDiff, Nat.reduceEqDiff, Nat.reduceBEq, Int.reduceToNat, Int.reduceLE, Int.reduceLT, Int.reduceEq, Int.reduceNeg, reduceCtorEq, ↓reduceIte, hb, hk, hk1]))))
  exact ⟨_, drops_alloc hf _, σ.next + 1, by omega, rfl⟩
theorem set1_ok (v : V) (k : Nat) (name : List UInt8) (σ : St) (hk : σ.obj k = some (.cells [.str name])) : Ok Try.prog 61 [v.d, .ref k 0] σ (fun o s' => ∃ m, σ.next ≤ m ∧ s' = ⟨σ.obj, m⟩ ∧ o = .ret (.bool (v.name == name))) := by
  refine Ok.fresh fun hf => Ok.drop ?_
  have hlt : k < σ.next := Nat.lt_of_not_le fun hle => by rw [hf _ hle] at hk; cases hk
  have hk1 : (k = σ.next) = False := eq_false (by omega)
  apply en61
  simp -dsimp (maxSteps := 2000000) (disch := first | omega | (simp; done) | (simp; omega)) only [SA, SB, SC, SD, SE, SF, SG, Nat.reduceLT, Nat.reduceAdd, Nat.reduceSub, Nat.reduceMul, Nat.reduceLeDiff, Nat.reduceEqDiff, Nat.reduceBEq, Int.reduceToNat, Int.reduceLE, Int.reduceLT, Int.reduceEq, Int.reduceNeg, reduceCtorEq, ↓reduceIte, ic61, List.replicate_succ, List.replicate_zero, V.d, V.cs]
  (repeat' (first | simp -dsimp (maxSteps := 2000000) (disch := first | omega | (simp; done) | (simp; omega)) only [SA, SB, SC, SD, SE, SF, SG, Nat.reduceLT, Nat.reduceAdd, Nat.reduceSub, Nat.reduceMul, Nat.reduceLeDiff, Nat.reduceEqDiff, Nat.reduceBEq, Int.reduceToNat, Int.reduceLE, Int.reduceLT, Int.reduceEq, Int.reduceNeg, reduceCtorEq, ↓reduceIte, hk, hk1] | refine Cut.go ?_ | refine Both.intro ?_ ?_ | (refine Br.intro ?_ ?_ <;> intro hb <;> have hb' := hb <;> (try simp only [SH] at hb') <;> (try simp -dsimp (maxSteps := 2000000) (disch := first | omega | (simp; done) | (simp; omega)) only [SA, SB, SC, SD, SE, SF, SG, Nat.reduceLT, Nat.reduceAdd, Nat.reduceSub, Nat.reduceMul, Nat.reduceLeDiff, Nat.reduceEqDiff, Nat.reduceBEq, Int.reduceToNat, Int.reduceLE, Int.reduceLT, Int.reduceEq, Int.reduceNeg, reduceCtorEq, ↓reduceIte, hb, hk, hk1]))))
  exact ⟨_, drops_alloc hf _, σ.next + 1, by omega, rfl⟩

/-- The place of the first variable of a name, or below 0. -/
def idxV (name : List UInt8) : List V → Int → Int
  | [], _ => -1
  | v :: l, i => if v.name == name then i else idxV name l (i + 1)
theorem indexFunc_ok {x : D} {l : List V} {k : Nat} {name : List UInt8} {σ : St} {g : FuncId} (hx : Vs σ x l) (hl : l.length ≤ 1000) (gd : goodFn Try.prog g = true)
    (hg : ∀ (v : V) (m : Nat), Ok Try.prog g [v.d, .ref k 0] ⟨σ.obj, m⟩ (fun o s' => ∃ m', m ≤ m' ∧ s' = ⟨σ.obj, m'⟩ ∧ o = .ret (.bool (v.name == name)))) :
    Ok Try.prog 58 [x, .func (.func g) [] [.ref k 0]] σ (fun o s' => ∃ m, σ.next ≤ m ∧ s' = ⟨σ.obj, m⟩ ∧ o = .ret (.int .i64 (idxV name l 0))) := by
  apply en58
  simp -dsimp (maxSteps := 2000000) (disch := first | omega | (simp; done) | (simp; omega)) only [SA, SB, SC, SD, SE, SF, SG, Nat.reduceLT, Nat.reduceAdd, Nat.reduceSub, Nat.reduceMul, Nat.reduceLeDiff, Nat.reduceEqDiff, Nat.reduceBEq, Int.reduceToNat, Int.reduceLE, Int.reduceLT, Int.reduceEq, Int.reduceNeg, reduceCtorEq, ↓reduceIte, ic58, List.replicate_succ, List.replicate_zero]
  (repeat' (first | simp -dsimp (maxSteps := 2000000) (disch := first | omega | (simp; done) | (simp; omega)) only [SA, SB, SC, SD, SE, SF, SG, Nat.reduceLT, Nat.reduceAdd, Nat.reduceSub, Nat.reduceMul, Nat.reduceLeDiff, Nat.reduceEqDiff, Nat.reduceBEq, Int.reduceToNat, Int.reduceLE, Int.reduceLT, Int.reduceEq, Int.reduceNeg, reduceCtorEq, ↓reduceIte, hx.len] | refine Cut.go ?_ | refine Both.intro ?_ ?_ | (refine Br.intro ?_ ?_ <;> intro hb <;> have hb' := hb <;> (try simp only [SH] at hb') <;> (try simp -dsimp (maxSteps := 2000000) (disch := first | omega | (simp; done) | (simp; omega)) only [SA, SB, SC, SD, SE, SF, SG, Nat.reduceLT, Nat.reduceAdd, Nat.reduceSub, Nat.reduceMul, Nat.reduceLeDiff, Nat.reduceEqDiff, Nat.reduceBEq, Int.reduceToNat, Int.reduceLE, Int.reduceLT, Int.reduceEq, Int.reduceNeg, reduceCtorEq, ↓reduceIte, hb, hx.len]))))
  refine loop_go (fun a : Nat × Nat => [x, .func (.func g) [] [.ref k 0], .junk, .junk, .int .i64 0, .junk, x, .int .i64 l.length, .int .i64 a.1] ++ List.replicate 10 .junk) (fun a => ⟨σ.obj, a.2⟩) (fun a => l.length - a.1)
    (fun a => a.1 ≤ l.length ∧ σ.next ≤ a.2 ∧ idxV name l 0 = idxV name (l.drop a.1) a.1) (0, σ.next) ⟨Nat.zero_le _, Nat.le_refl _, rfl⟩ (by ((try simp only [List.replicate_succ, List.replicate_zero, List.cons_append, List.nil_append]); repeat' (first | exact trivial | refine ⟨.inl rfl, ?_⟩ | refine ⟨.inr rfl, ?_⟩ | refine ⟨.inr (by simp), ?_⟩))) (Drops.refl _) ?_
  rintro ⟨i, m⟩ ⟨h1, h2, h3⟩
  simp only [] at h1 h2 h3 ⊢
  simp -dsimp (maxSteps := 2000000) (disch := first | omega | (simp; done) | (simp; omega)) only [SA, SB, SC, SD, SE, SF, SG, Nat.reduceLT, Nat.reduceAdd, Nat.reduceSub, Nat.reduceMul, Nat.reduceLeDiff, Nat.reduceEqDiff, Nat.reduceBEq, Int.reduceToNat, Int.reduceLE, Int.reduceLT, Int.reduceEq, Int.reduceNeg, reduceCtorEq, ↓reduceIte, List.replicate_succ, List.replicate_zero]
  (repeat' (first | simp -dsimp (maxSteps := 2000000) (disch := first | omega | (simp; done) | (simp; omega)) only [SA, SB, SC, SD, SE, SF, SG, Nat.reduceLT, Nat.reduceAdd, Nat.reduceSub, Nat.reduceMul, Nat.reduceLeDiff, Nat.reduceEqDiff, Nat.reduceBEq, Int.reduceToNat, Int.reduceLE, Int.reduceLT, Int.reduceEq, Int.reduceNeg, reduceCtorEq, ↓reduceIte] | refine Cut.go ?_ | refine Both.intro ?_ ?_ | (refine Br.intro ?_ ?_ <;> intro hb <;> have hb' := hb <;> (try simp only [SH] at hb') <;> (try simp -dsimp (maxSteps := 2000000) (disch := first | omega | (simp; done) | (simp; omega)) only [SA, SB, SC, SD, SE, SF, SG, Nat.reduceLT, Nat.reduceAdd, Nat.reduceSub, Nat.reduceMul, Nat.reduceLeDiff, Nat.reduceEqDiff, Nat.reduceBEq, Int.reduceToNat, Int.reduceLE, Int.reduceLT, Int.reduceEq, Int.reduceNeg, reduceCtorEq, ↓reduceIte, hb]))))
  · have hi : i < l.length := by omega
    obtain ⟨j, ha, hj⟩ := hx.at hi
    have hld := flat_load hi
    (repeat' (first | simp -dsimp (maxSteps := 2000000) (disch := first | omega | (simp; done) | (simp; omega)) only [SA, SB, SC, SD, SE, SF, SG, Nat.reduceLT, Nat.reduceAdd, Nat.reduceSub, Nat.reduceMul, Nat.reduceLeDiff, Nat.reduceEqDiff, Nat.reduceBEq, Int.reduceToNat, Int.reduceLE, Int.reduceLT, Int.reduceEq, Int.reduceNeg, reduceCtorEq, ↓reduceIte, ha, hj, hld] | refine Cut.go ?_ | refine Both.intro ?_ ?_ | (refine Br.intro ?_ ?_ <;> intro hb <;> have hb' := hb <;> (try simp only [SH] at hb') <;> (try simp -dsimp (maxSteps := 2000000) (disch := first | omega | (simp; done) | (simp; omega)) only [SA, SB, SC, SD, SE, SF, SG, Nat.reduceLT, Nat.reduceAdd, Nat.reduceSub, Nat.reduceMul, Nat.reduceLeDiff, Nat.reduceEqDiff, Nat.reduceBEq, Int.reduceToNat, Int.reduceLE, Int.reduceLT, Int.reduceEq, Int.reduceNeg, reduceCtorEq, ↓reduceIte, hb, ha, hj, hld]))))
    refine ⟨gd, (hg _ m).mono ?_⟩
    rintro o s' ⟨m', h4, rfl, rfl⟩
    have hd := List.drop_eq_getElem_cons hi
    (repeat' (first | simp -dsimp (maxSteps := 2000000) (disch := first | omega | (simp; done) | (simp; omega)) only [SA, SB, SC, SD, SE, SF, SG, Nat.reduceLT, Nat.reduceAdd, Nat.reduceSub, Nat.reduceMul, Nat.reduceLeDiff, Nat.reduceEqDiff, Nat.reduceBEq, Int.reduceToNat, Int.reduceLE, Int.reduceLT, Int.reduceEq, Int.reduceNeg, reduceCtorEq, ↓reduceIte] | refine Cut.go ?_ | refine Both.intro ?_ ?_ | (refine Br.intro ?_ ?_ <;> intro hb <;> have hb' := hb <;> (try simp only [SH] at hb') <;> (try simp -dsimp (maxSteps := 2000000) (disch := first | omega | (simp; done) | (simp; omega)) only [SA, SB, SC, SD, SE, SF, SG, Nat.reduceLT, Nat.reduceAdd, Nat.reduceSub, Nat.reduceMul, Nat.reduceLeDiff, Nat.reduceEqDiff, Nat.reduceBEq, Int.reduceToNat, Int.reduceLE, Int.reduceLT, Int.reduceEq, Int.reduceNeg, reduceCtorEq, ↓reduceIte, hb]))))
    · exact ⟨m', by omega, rfl, by rw [h3, hd, idxV, if_pos hb]⟩
    · refine Round.go (i + 1, m') (by show l.length - (i + 1) < l.length - i; omega) ⟨hi, ?_, ?_⟩ (by ((try simp only [List.replicate_succ, List.replicate_zero, List.cons_append, List.nil_append]); repeat' (first | exact trivial | refine ⟨.inl rfl, ?_⟩ | refine ⟨.inr rfl, ?_⟩ | refine ⟨.inr (by simp), ?_⟩))) (Drops.refl _)
      · show σ.next ≤ m'; omega
      · rw [h3, hd, idxV, if_neg (by simp [hb])]; rfl
  · have hi : i = l.length := by omega
    exact ⟨m, h2, rfl, by rw [h3, hi, List.drop_length, idxV]⟩
/-- The first variable of a name. -/
def findV (name : List UInt8) (l : List V) : Option V := l.find? (·.name == name)
theorem idxV_at (name : List UInt8) : ∀ (l : List V) (i : Nat), (idxV name l i = -1 ∧ findV name l = none) ∨ ∃ k, ∃ h : k < l.length, idxV name l i = ((i + k : Nat) : Int) ∧ findV name l = some l[k] ∧ l[k].name = name
  | [], i => .inl ⟨rfl, rfl⟩
  | v :: l, i => by
    rw [idxV, findV, List.find?_cons]
    by_cases h : (v.name == name) = true
    · rw [if_pos h, h]; exact .inr ⟨0, by simp, by simp, by simp, by simpa using h⟩
    · rw [if_neg h]
      simp only [Bool.not_eq_true] at h
      rw [h]
      have h4 : idxV name l ((i : Int) + 1) = idxV name l ((i + 1 : Nat) : Int) := by simp
      rw [h4]
      rcases idxV_at name l (i + 1) with h1 | ⟨k, h1, h2, h3⟩
      · left; exact h1
      · right
        refine ⟨k + 1, by simpa using h1, ?_, by simpa [findV] using h3⟩
        rw [h2]; omega
/-- What a variable's text is as a number. -/
def numF (s : List UInt8) : Except Int Int :=
  if s == [] then .ok 0 else if (decimalF s).2 == 0 then .ok (decimalF s).1 else if (constF s).2 == 0 then .ok (constF s).1 else .error (constF s).2
/-- A variable's number. -/
def getF (name : List UInt8) (l : List V) : Except Int Int := match findV name l with
  | none => .ok 0
  | some v => numF v.value
theorem get_ok {jm : Nat} {x : D} {l : List V} {name : List UInt8} {σ : St} (hm : σ.obj jm = some (.cells [x])) (hs : scalO (some x) = some x) (hx : Vs σ x l) (hl : l.length ≤ 1000) (hv : ∀ v ∈ l, v.value.length ≤ 9223372036854775807) :
    Ok Try.prog 37 [.ref jm 0, .str name] σ (fun o s' => ∃ m, σ.next ≤ m ∧ s' = ⟨σ.obj, m⟩ ∧ o = outI (getF name l)) := by
  refine Ok.fresh fun hf => Ok.drop ?_
  have hlt : jm < σ.next := Nat.lt_of_not_le fun hle => by rw [hf _ hle] at hm; cases hm
  have hm1 : (jm = σ.next) = False := eq_false (by omega)
  have hx1 : Vs (σ.alloc (.cells [.str name])) x l := by
    cases hx with
    | vnil => exact .vnil
    | vnone => exact .vnone
    | vsome j t l hl hj ht =>
      have h1 : j < σ.next := Nat.lt_of_not_le fun hle => by rw [hf _ hle] at hj; cases hj
      have h2 : t < σ.next := Nat.lt_of_not_le fun hle => by rw [hf _ hle] at ht; cases ht
      exact .vsome j t l hl (by rw [alloc_obj, if_neg (by omega), hj]) (by rw [alloc_obj, if_neg (by omega), ht])
  apply en37
  simp -dsimp (maxSteps := 2000000) (disch := first | omega | (simp; done) | (simp; omega)) only [SA, SB, SC, SD, SE, SF, SG, Nat.reduceLT, Nat.reduceAdd, Nat.reduceSub, Nat.reduceMul, Nat.reduceLeDiff, Nat.reduceEqDiff, Nat.reduceBEq, Int.reduceToNat, Int.reduceLE, Int.reduceLT, Int.reduceEq, Int.reduceNeg, reduceCtorEq, ↓reduceIte, ic37, List.replicate_succ, List.replicate_zero]
  (repeat' (first | simp -dsimp (maxSteps := 2000000) (disch := first | omega | (simp; done) | (simp; omega)) only [SA, SB, SC, SD, SE, SF, SG, Nat.reduceLT, Nat.reduceAdd, Nat.reduceSub, Nat.reduceMul, Nat.reduceLeDiff, Nat.reduceEqDiff, Nat.reduceBEq, Int.reduceToNat, Int.reduceLE, Int.reduceLT, Int.reduceEq, Int.reduceNeg, reduceCtorEq, ↓reduceIte, hm, hm1, hs] | refine Cut.go ?_ | refine Both.intro ?_ ?_ | (refine Br.intro ?_ ?_ <;> intro hb <;> have hb' := hb <;> (try simp only [SH] at hb') <;> (try simp -dsimp (maxSteps := 2000000) (disch := first | omega | (simp; done) | (simp; omega)) only [SA, SB, SC, SD, SE, SF, SG, Nat.reduceLT, Nat.reduceAdd, Nat.reduceSub, Nat.reduceMul, Nat.reduceLeDiff, Nat.reduceEqDiff, Nat.reduceBEq, Int.reduceToNat, Int.reduceLE, Int.reduceLT, Int.reduceEq, Int.reduceNeg, reduceCtorEq, ↓reduceIte, hb, hm, hm1, hs]))))
  refine ⟨gd58, (indexFunc_ok (name := name) hx1 hl gd59 fun v m => get1_ok v _ name _ (by rw [alloc_obj, if_pos rfl])).mono ?_⟩
  rintro o s' ⟨m, h1, rfl, rfl⟩
  simp only [alloc_next] at h1
  have dr : Drops ⟨(σ.alloc (.cells [.str name])).obj, m⟩ ⟨σ.obj, m⟩ := by
    refine ⟨Nat.le_refl _, fun i => ?_⟩
    by_cases h : i = σ.next
    · left; subst h; exact hf _ (Nat.le_refl _)
    · right; show _ = (σ.alloc (.cells [.str name])).obj i; rw [alloc_obj, if_neg h]
  rcases idxV_at name l 0 with ⟨e1, e2⟩ | ⟨k, hk, e1, e2, e3⟩
  · have e1' : idxV name l 0 = -1 := e1
    rw [e1']
    (repeat' (first | simp -dsimp (maxSteps := 2000000) (disch := first | omega | (simp; done) | (simp; omega)) only [SA, SB, SC, SD, SE, SF, SG, Nat.reduceLT, Nat.reduceAdd, Nat.reduceSub, Nat.reduceMul, Nat.reduceLeDiff, Nat.reduceEqDiff, Nat.reduceBEq, Int.reduceToNat, Int.reduceLE, Int.reduceLT, Int.reduceEq, Int.reduceNeg, reduceCtorEq, ↓reduceIte] | refine Cut.go ?_ | refine Both.intro ?_ ?_ | (refine Br.intro ?_ ?_ <;> intro hb <;> have hb' := hb <;> (try simp only [SH] at hb') <;> (try simp -dsimp (maxSteps := 2000000) (disch := first | omega | (simp; done) | (simp; omega)) only [SA, SB, SC, SD, SE, SF, SG, Nat.reduceLT, Nat.reduceAdd, Nat.reduceSub, Nat.reduceMul, Nat.reduceLeDiff, Nat.reduceEqDiff, Nat.reduceBEq, Int.reduceToNat, Int.reduceLE, Int.reduceLT, Int.reduceEq, Int.reduceNeg, reduceCtorEq, ↓reduceIte, hb]))))
    exact ⟨_, dr, m, by omega, rfl, by simp only [getF, e2]; rfl⟩
  · have e1' : idxV name l 0 = (k : Int) := by rw [show (0 : Int) = ((0 : Nat) : Int) from rfl, e1]; simp
    rw [e1']
    have e4 : decide ((k : Int) < 0) = false := by simp
    obtain ⟨j, ha, hj⟩ := hx1.at hk
    have hld : cellsAt (flatV l) (2 * k + 1) none = some (.str l[k].value) := by rw [ca_none, flatV_get1 hk]; rfl
    have hvl := hv l[k] (List.getElem_mem hk)
    generalize l[k] = v at *
    have hg : getF name l = numF v.value := by simp only [getF, e2]
    rw [hg]
    have hm2 : (σ.alloc (.cells [.str name])).obj jm = some (.cells [x]) := by rw [alloc_obj, if_neg (by omega), hm]
    generalize (σ.alloc (.cells [.str name])).obj = ob at dr hj hm2 ⊢
    (repeat' (first | simp -dsimp (maxSteps := 2000000) (disch := first | omega | (simp; done) | (simp; omega)) only [SA, SB, SC, SD, SE, SF, SG, Nat.reduceLT, Nat.reduceAdd, Nat.reduceSub, Nat.reduceMul, Nat.reduceLeDiff, Nat.reduceEqDiff, Nat.reduceBEq, Int.reduceToNat, Int.reduceLE, Int.reduceLT, Int.reduceEq, Int.reduceNeg, reduceCtorEq, ↓reduceIte, hm2, hs, e4, ha, hj, hld] | refine Cut.go ?_ | refine Both.intro ?_ ?_ | refine decimal_call hvl ?_ | refine constant_call hvl ?_ | (refine Br.intro ?_ ?_ <;> intro hb <;> have hb' := hb <;> (try simp only [SH] at hb') <;> (try simp -dsimp (maxSteps := 2000000) (disch := first | omega | (simp; done) | (simp; omega)) only [SA, SB, SC, SD, SE, SF, SG, Nat.reduceLT, Nat.reduceAdd, Nat.reduceSub, Nat.reduceMul, Nat.reduceLeDiff, Nat.reduceEqDiff, Nat.reduceBEq, Int.reduceToNat, Int.reduceLE, Int.reduceLT, Int.reduceEq, Int.reduceNeg, reduceCtorEq, ↓reduceIte, hb, hm2, hs, e4, ha, hj, hld]))))
    all_goals (refine ⟨_, dr, m, by omega, rfl, ?_⟩)
    all_goals clear dr hj hm2 ha hld hg e2 e3 hv hm hs hx hx1
    all_goals simp_all [numF, outI, faultD]
end Go.Proofs.Ytkjgadanaknleaa
