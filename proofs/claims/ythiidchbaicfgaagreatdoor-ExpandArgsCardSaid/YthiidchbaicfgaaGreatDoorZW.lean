/-
  THE PLAIN LAW of ExpandSplits; small functions of the document.
-/
import Derived.Test.YthiidchbaicfgaaGreatDoorZV
namespace Go.Proofs.YthiidchbaicfgaaGreatDoor
open Go Go.Id
set_option linter.unusedSimpArgs false
set_option linter.unusedVariables false
set_option maxRecDepth 100000
set_option maxHeartbeats 8000000

/-- Texts with a text between. -/
def jn (b : List UInt8) : List (List UInt8) → List UInt8
  | [] => []
  | [t] => t
  | t :: u :: r => t ++ b ++ jn b (u :: r)
theorem jn_snoc (b : List UInt8) : ∀ (l : List (List UInt8)) (t : List UInt8), l ≠ [] → jn b (l ++ [t]) = jn b l ++ b ++ t
  | [], t, h => absurd rfl h
  | [u], t, _ => rfl
  | u :: v :: r, t, _ => by
    have := jn_snoc b (v :: r) t (by simp)
    show u ++ b ++ jn b ((v :: r) ++ [t]) = _
    rw [this]
    simp [jn, List.append_assoc]
theorem jn_len (b : List UInt8) (n : Nat) : ∀ l : List (List UInt8), (∀ t ∈ l, t.length ≤ n) → (jn b l).length ≤ l.length * (n + b.length)
  | [], _ => by simp [jn]
  | [t], h => by
    have := h t (by simp)
    simp only [jn, List.length_cons, List.length_nil]; omega
  | t :: u :: r, h => by
    have h1 := jn_len b n (u :: r) fun x hx => h x (by simp only [List.mem_cons] at hx ⊢; exact .inr hx)
    have h2 := h t (by simp)
    simp only [jn, List.length_append, List.length_cons] at h1 ⊢
    have e : (r.length + 1 + 1) * (n + b.length) = (r.length + 1) * (n + b.length) + (n + b.length) := by rw [Nat.add_mul (r.length + 1) 1, Nat.one_mul]
    omega
/-- A word without separators. -/
theorem fold_word (ifs : List UInt8) : ∀ (t : List UInt8) (c : CS), (∀ b ∈ t, ifs.contains b = false) → t.foldl (CS.byte ifs) c = { c with T := c.T ++ t, P := c.P ++ t, r := c.r || !t.isEmpty }
  | [], c, _ => by simp
  | b :: r, c, h => by
    have h1 : ifs.contains b = false := h b (by simp)
    have h2 := fold_word ifs r (c.byte ifs b) fun x hx => h x (by simp [hx])
    rw [List.foldl_cons, h2, CS.byte, h1]
    simp [CS.add, addP]
def dup (t : List UInt8) : List UInt8 × List UInt8 := (t, t)
theorem map_dup : ∀ l : List (List UInt8), (l.map dup).map (·.1) = l
  | [] => rfl
  | t :: r => by
    have := map_dup r
    simp only [List.map_cons, this]; rfl
/-- Words with a separator between. -/
theorem fold_jn (ifs : List UInt8) (sep : UInt8) (hsep : ifs.contains sep = true) : ∀ (l : List (List UInt8)) (c : CS), l ≠ [] → (∀ t ∈ l, t ≠ [] ∧ ∀ b ∈ t, ifs.contains b = false) → c.T = [] → c.P = [] → c.r = false →
    ((jn [sep] l).foldl (CS.byte ifs) c).r = true ∧ (((jn [sep] l).foldl (CS.byte ifs) c).push false).L = c.L ++ l.map dup
  | [], c, h, _, _, _, _ => absurd rfl h
  | [t], c, _, h, hT, hP, hr => by
    obtain ⟨h1, h2⟩ := h t (by simp)
    have h3 : t.isEmpty = false := by simpa using h1
    rw [jn, fold_word ifs t c h2]
    simp [CS.push, hT, hP, hr, h3, dup]
  | t :: u :: r, c, _, h, hT, hP, hr => by
    obtain ⟨h1, h2⟩ := h t (by simp)
    have h3 : t.isEmpty = false := by simpa using h1
    obtain ⟨w, hw⟩ : ∃ w, ((t.foldl (CS.byte ifs) c).at sep) = { (t.foldl (CS.byte ifs) c).push false with w := w } := by
      have hr1 : (t.foldl (CS.byte ifs) c).r = true := by rw [fold_word ifs t c h2]; simp [h3]
      unfold CS.at
      rw [hr1]
      cases blank sep
      · exact ⟨false, rfl⟩
      · exact ⟨true, rfl⟩
    have e : (jn [sep] (t :: u :: r)).foldl (CS.byte ifs) c = (jn [sep] (u :: r)).foldl (CS.byte ifs) { (t.foldl (CS.byte ifs) c).push false with w := w } := by
      rw [jn, List.foldl_append, List.foldl_append, List.foldl_cons, List.foldl_nil, CS.byte, hsep, if_pos rfl, hw]
    have ih := fold_jn ifs sep hsep (u :: r) { (t.foldl (CS.byte ifs) c).push false with w := w } (by simp) (fun x hx => h x (by simp only [List.mem_cons] at hx ⊢; exact .inr hx)) rfl rfl rfl
    rw [← e] at ih
    refine ⟨ih.1, ?_⟩
    rw [ih.2]
    have : ((t.foldl (CS.byte ifs) c).push false).L = c.L ++ [dup t] := by
      rw [fold_word ifs t c h2]
      simp [CS.push, hT, hP, hr, h3, dup]
    simp only [this, List.map_cons, List.append_assoc, List.cons_append, List.nil_append]
/-- What is cut of texts with a separator between. -/
theorem splits_plain (ifs : List UInt8) (sep : UInt8) (hsep : ifs.contains sep = true) (l : List (List UInt8)) (h : ∀ t ∈ l, t ≠ [] ∧ ∀ b ∈ t, ifs.contains b = false) :
    (cutF [⟨jn [sep] l, false, true, false⟩] ifs).map (·.1) = l := by
  have hd : ∀ l : List (List UInt8), (l.map dup).map (·.1) = l := map_dup
  show (((jn [sep] l).foldl (CS.byte ifs) CS.zero).push false).L.map (fun f => f.1) = l
  cases l with
  | nil => rfl
  | cons t r =>
    rw [(fold_jn ifs sep hsep (t :: r) .zero (by simp) h rfl rfl rfl).2]
    exact hd _
/-- With blanks about them. -/
theorem splits_blanks (ifs : List UInt8) (sep : UInt8) (hsep : ifs.contains sep = true) (hb : ifs.contains 32 = true) (l : List (List UInt8)) (h : ∀ t ∈ l, t ≠ [] ∧ ∀ b ∈ t, ifs.contains b = false) :
    (cutF [⟨[32, 32] ++ jn [sep] l ++ [32], false, true, false⟩] ifs).map (·.1) = l := by
  have hd : ∀ l : List (List UInt8), (l.map dup).map (·.1) = l := map_dup
  show ((([32, 32] ++ jn [sep] l ++ [32] : List UInt8).foldl (CS.byte ifs) CS.zero).push false).L.map (fun f => f.1) = l
  have e1 : ([32, 32] : List UInt8).foldl (CS.byte ifs) .zero = .zero := by
    simp only [List.foldl_cons, List.foldl_nil, CS.byte, hb, if_true]; rfl
  rw [List.foldl_append, List.foldl_append, e1, List.foldl_cons, List.foldl_nil]
  simp only [CS.byte, hb, if_true]
  cases l with
  | nil => rfl
  | cons t r =>
    obtain ⟨h1, h2⟩ := fold_jn ifs sep hsep (t :: r) .zero (by simp) h rfl rfl rfl
    have e2 : ((jn [sep] (t :: r)).foldl (CS.byte ifs) .zero).at 32 = { ((jn [sep] (t :: r)).foldl (CS.byte ifs) .zero).push false with w := true } := by
      unfold CS.at
      rw [h1]; rfl
    rw [e2]
    have e3 : ({ ((jn [sep] (t :: r)).foldl (CS.byte ifs) .zero).push false with w := true } : CS).push false = { ((jn [sep] (t :: r)).foldl (CS.byte ifs) .zero).push false with w := true } := by
      simp [CS.push]
    rw [e3]
    show (((jn [sep] (t :: r)).foldl (CS.byte ifs) CS.zero).push false).L.map (fun f => f.1) = _
    rw [h2]
    exact hd _

/-! Small functions of the document. -/
theorem has18 (s : List UInt8) (hs : s.length ≤ 1000000) (c : UInt8) {n : Int} (hn : n = c.toNat) (σ : St) : Ok Tryz.prog 18 [.str s, .int .u8 n] σ (fun o s' => o = .ret (.bool (s.contains c)) ∧ s' = σ) := by
  subst hn
  apply en18
  simp -dsimp (maxSteps := 2000000) (disch := first | omega | (simp; done) | (simp; omega)) only [SA, SB, SC, SD, SE, SF, SG, SI, Nat.reduceLT, Nat.reduceAdd, Nat.reduceSub, Nat.reduceMul, Nat.reduceLeDiff, Nat.reduceEqDiff, Nat.reduceBEq, Int.reduceToNat, Int.reduceLE, Int.reduceLT, Int.reduceEq, Int.reduceNeg, reduceCtorEq, ↓reduceIte, ic18, List.replicate_succ, List.replicate_zero]
  (repeat' (first | simp -dsimp (maxSteps := 2000000) (disch := first | omega | (simp; done) | (simp; omega)) only [SA, SB, SC, SD, SE, SF, SG, SI, Nat.reduceLT, Nat.reduceAdd, Nat.reduceSub, Nat.reduceMul, Nat.reduceLeDiff, Nat.reduceEqDiff, Nat.reduceBEq, Int.reduceToNat, Int.reduceLE, Int.reduceLT, Int.reduceEq, Int.reduceNeg, reduceCtorEq, ↓reduceIte] | refine Cut.go ?_ | refine Both.intro ?_ ?_ | (refine Br.intro ?_ ?_ <;> intro hb <;> have hb' := hb <;> (try simp only [SH] at hb') <;> (try simp -dsimp (maxSteps := 2000000) (disch := first | omega | (simp; done) | (simp; omega)) only [SA, SB, SC, SD, SE, SF, SG, SI, Nat.reduceLT, Nat.reduceAdd, Nat.reduceSub, Nat.reduceMul, Nat.reduceLeDiff, Nat.reduceEqDiff, Nat.reduceBEq, Int.reduceToNat, Int.reduceLE, Int.reduceLT, Int.reduceEq, Int.reduceNeg, reduceCtorEq, ↓reduceIte, hb]))))
  refine loop_go (fun a : Nat => [.str s, .int .u8 c.toNat, .junk, .junk, .bool false, .int .i64 a] ++ List.replicate 11 .junk) (fun _ => σ) (fun a => s.length - a) (fun a => a ≤ s.length ∧ (s.take a).contains c = false) 0 ⟨Nat.zero_le _, rfl⟩ (by ((try simp only [List.replicate_succ, List.replicate_zero, List.cons_append, List.nil_append]); repeat' (first | exact trivial | refine ⟨.inl rfl, ?_⟩ | refine ⟨.inr rfl, ?_⟩ | refine ⟨.inr (by simp), ?_⟩))) (Drops.refl _) ?_
  rintro i ⟨h1, h2⟩
  simp -dsimp (maxSteps := 2000000) (disch := first | omega | (simp; done) | (simp; omega)) only [SA, SB, SC, SD, SE, SF, SG, SI, Nat.reduceLT, Nat.reduceAdd, Nat.reduceSub, Nat.reduceMul, Nat.reduceLeDiff, Nat.reduceEqDiff, Nat.reduceBEq, Int.reduceToNat, Int.reduceLE, Int.reduceLT, Int.reduceEq, Int.reduceNeg, reduceCtorEq, ↓reduceIte, List.replicate_succ, List.replicate_zero]
  by_cases hi : i < s.length
  · have hcond : decide ((i : Int) < s.length) = true := by simp; exact hi
    have ia := idx_at s i hi
    have e1 : (s.take (i + 1)).contains c = (c == s.getD i 0) := by
      rw [take_step s i hi]
      have : (s.take i ++ [s.getD i 0]).contains c = ((s.take i).contains c || (c == s.getD i 0)) := by
        generalize s.getD i 0 = d
        rw [Bool.eq_iff_iff]; simp
      rw [this, h2, Bool.false_or]
    by_cases hc : c = s.getD i 0
    · have z : (((s.getD i 0).toNat : Int) == c.toNat) = true := by rw [hc]; simp
      (repeat' (first | simp -dsimp (maxSteps := 2000000) (disch := first | omega | (simp; done) | (simp; omega)) only [SA, SB, SC, SD, SE, SF, SG, SI, Nat.reduceLT, Nat.reduceAdd, Nat.reduceSub, Nat.reduceMul, Nat.reduceLeDiff, Nat.reduceEqDiff, Nat.reduceBEq, Int.reduceToNat, Int.reduceLE, Int.reduceLT, Int.reduceEq, Int.reduceNeg, reduceCtorEq, ↓reduceIte, hcond, ia, z] | refine Cut.go ?_ | refine Both.intro ?_ ?_ | (refine Br.intro ?_ ?_ <;> intro hb <;> have hb' := hb <;> (try simp only [SH] at hb') <;> (try simp -dsimp (maxSteps := 2000000) (disch := first | omega | (simp; done) | (simp; omega)) only [SA, SB, SC, SD, SE, SF, SG, SI, Nat.reduceLT, Nat.reduceAdd, Nat.reduceSub, Nat.reduceMul, Nat.reduceLeDiff, Nat.reduceEqDiff, Nat.reduceBEq, Int.reduceToNat, Int.reduceLE, Int.reduceLT, Int.reduceEq, Int.reduceNeg, reduceCtorEq, ↓reduceIte, hb, hcond, ia, z]))))
      have : s.contains c = true := by
        have hm : s[i] = s.getD i 0 := by rw [List.getD_eq_getElem?_getD, List.getElem?_eq_getElem hi]; rfl
        rw [List.contains_iff_mem, hc, ← hm]; exact List.getElem_mem hi
      rw [this]
    · have z : (((s.getD i 0).toNat : Int) == c.toNat) = false := by
        rw [beq_eq_false_iff_ne]
        intro e
        exact hc (UInt8.toNat_inj.1 (by omega))
      (repeat' (first | simp -dsimp (maxSteps := 2000000) (disch := first | omega | (simp; done) | (simp; omega)) only [SA, SB, SC, SD, SE, SF, SG, SI, Nat.reduceLT, Nat.reduceAdd, Nat.reduceSub, Nat.reduceMul, Nat.reduceLeDiff, Nat.reduceEqDiff, Nat.reduceBEq, Int.reduceToNat, Int.reduceLE, Int.reduceLT, Int.reduceEq, Int.reduceNeg, reduceCtorEq, ↓reduceIte, hcond, ia, z] | refine Cut.go ?_ | refine Both.intro ?_ ?_ | (refine Br.intro ?_ ?_ <;> intro hb <;> have hb' := hb <;> (try simp only [SH] at hb') <;> (try simp -dsimp (maxSteps := 2000000) (disch := first | omega | (simp; done) | (simp; omega)) only [SA, SB, SC, SD, SE, SF, SG, SI, Nat.reduceLT, Nat.reduceAdd, Nat.reduceSub, Nat.reduceMul, Nat.reduceLeDiff, Nat.reduceEqDiff, Nat.reduceBEq, Int.reduceToNat, Int.reduceLE, Int.reduceLT, Int.reduceEq, Int.reduceNeg, reduceCtorEq, ↓reduceIte, hb, hcond, ia, z]))))
      exact Round.go (i + 1) (by omega) ⟨by omega, by rw [e1]; simpa using hc⟩ (by ((try simp only [List.replicate_succ, List.replicate_zero, List.cons_append, List.nil_append]); repeat' (first | exact trivial | refine ⟨.inl rfl, ?_⟩ | refine ⟨.inr rfl, ?_⟩ | refine ⟨.inr (by simp), ?_⟩))) (Drops.refl _)
  · have hcond : decide ((i : Int) < s.length) = false := by simp; omega
    (repeat' (first | simp -dsimp (maxSteps := 2000000) (disch := first | omega | (simp; done) | (simp; omega)) only [SA, SB, SC, SD, SE, SF, SG, SI, Nat.reduceLT, Nat.reduceAdd, Nat.reduceSub, Nat.reduceMul, Nat.reduceLeDiff, Nat.reduceEqDiff, Nat.reduceBEq, Int.reduceToNat, Int.reduceLE, Int.reduceLT, Int.reduceEq, Int.reduceNeg, reduceCtorEq, ↓reduceIte, hcond] | refine Cut.go ?_ | refine Both.intro ?_ ?_ | (refine Br.intro ?_ ?_ <;> intro hb <;> have hb' := hb <;> (try simp only [SH] at hb') <;> (try simp -dsimp (maxSteps := 2000000) (disch := first | omega | (simp; done) | (simp; omega)) only [SA, SB, SC, SD, SE, SF, SG, SI, Nat.reduceLT, Nat.reduceAdd, Nat.reduceSub, Nat.reduceMul, Nat.reduceLeDiff, Nat.reduceEqDiff, Nat.reduceBEq, Int.reduceToNat, Int.reduceLE, Int.reduceLT, Int.reduceEq, Int.reduceNeg, reduceCtorEq, ↓reduceIte, hb, hcond]))))
    rw [List.take_of_length_le (by omega)] at h2
    rw [h2]
theorem texts15 {x y : D} {l : List (List UInt8)} (hx : Strs x l) (hy : Strs y l) (hl : l.length ≤ 1000000) (σ : St) : Ok Tryz.prog 15 [x, y] σ (fun o s' => o = .ret (.bool true) ∧ s' = σ) := by
  have lx := hx.len
  have ly := hy.len
  have z0 : ((l.length : Int) != l.length) = false := by simp
  apply en15
  simp -dsimp (maxSteps := 2000000) (disch := first | omega | (simp; done) | (simp; omega)) only [SA, SB, SC, SD, SE, SF, SG, SI, Nat.reduceLT, Nat.reduceAdd, Nat.reduceSub, Nat.reduceMul, Nat.reduceLeDiff, Nat.reduceEqDiff, Nat.reduceBEq, Int.reduceToNat, Int.reduceLE, Int.reduceLT, Int.reduceEq, Int.reduceNeg, reduceCtorEq, ↓reduceIte, ic15, List.replicate_succ, List.replicate_zero]
  (repeat' (first | simp -dsimp (maxSteps := 2000000) (disch := first | omega | (simp; done) | (simp; omega)) only [SA, SB, SC, SD, SE, SF, SG, SI, Nat.reduceLT, Nat.reduceAdd, Nat.reduceSub, Nat.reduceMul, Nat.reduceLeDiff, Nat.reduceEqDiff, Nat.reduceBEq, Int.reduceToNat, Int.reduceLE, Int.reduceLT, Int.reduceEq, Int.reduceNeg, reduceCtorEq, ↓reduceIte, lx, ly, z0] | refine Cut.go ?_ | refine Both.intro ?_ ?_ | (refine Br.intro ?_ ?_ <;> intro hb <;> have hb' := hb <;> (try simp only [SH] at hb') <;> (try simp -dsimp (maxSteps := 2000000) (disch := first | omega | (simp; done) | (simp; omega)) only [SA, SB, SC, SD, SE, SF, SG, SI, Nat.reduceLT, Nat.reduceAdd, Nat.reduceSub, Nat.reduceMul, Nat.reduceLeDiff, Nat.reduceEqDiff, Nat.reduceBEq, Int.reduceToNat, Int.reduceLE, Int.reduceLT, Int.reduceEq, Int.reduceNeg, reduceCtorEq, ↓reduceIte, hb, lx, ly, z0]))))
  refine loop_go (fun a : Nat => [x, y, .junk, .junk, .bool false, .int .i64 a] ++ List.replicate 20 .junk) (fun _ => σ) (fun a => l.length - a) (fun a => a ≤ l.length) 0 (Nat.zero_le _) (by ((try simp only [List.replicate_succ, List.replicate_zero, List.cons_append, List.nil_append]); repeat' (first | exact trivial | refine ⟨.inl rfl, ?_⟩ | refine ⟨.inr rfl, ?_⟩ | refine ⟨.inr (by simp), ?_⟩))) (Drops.refl _) ?_
  intro i h1
  simp -dsimp (maxSteps := 2000000) (disch := first | omega | (simp; done) | (simp; omega)) only [SA, SB, SC, SD, SE, SF, SG, SI, Nat.reduceLT, Nat.reduceAdd, Nat.reduceSub, Nat.reduceMul, Nat.reduceLeDiff, Nat.reduceEqDiff, Nat.reduceBEq, Int.reduceToNat, Int.reduceLE, Int.reduceLT, Int.reduceEq, Int.reduceNeg, reduceCtorEq, ↓reduceIte, List.replicate_succ, List.replicate_zero]
  by_cases hi : i < l.length
  · have hcond : decide ((i : Int) < l.length) = true := by simp; exact hi
    have ax := hx.at hi
    have ay := hy.at hi
    have l1 : cellsAt [D.str l[i]] 0 none = some (.str l[i]) := rfl
    have z1 : (!(l[i] == l[i])) = false := by simp
    (repeat' (first | simp -dsimp (maxSteps := 2000000) (disch := first | omega | (simp; done) | (simp; omega)) only [SA, SB, SC, SD, SE, SF, SG, SI, Nat.reduceLT, Nat.reduceAdd, Nat.reduceSub, Nat.reduceMul, Nat.reduceLeDiff, Nat.reduceEqDiff, Nat.reduceBEq, Int.reduceToNat, Int.reduceLE, Int.reduceLT, Int.reduceEq, Int.reduceNeg, reduceCtorEq, ↓reduceIte, lx, hcond, ax, ay, l1, z1] | refine Cut.go ?_ | refine Both.intro ?_ ?_ | (refine Br.intro ?_ ?_ <;> intro hb <;> have hb' := hb <;> (try simp only [SH] at hb') <;> (try simp -dsimp (maxSteps := 2000000) (disch := first | omega | (simp; done) | (simp; omega)) only [SA, SB, SC, SD, SE, SF, SG, SI, Nat.reduceLT, Nat.reduceAdd, Nat.reduceSub, Nat.reduceMul, Nat.reduceLeDiff, Nat.reduceEqDiff, Nat.reduceBEq, Int.reduceToNat, Int.reduceLE, Int.reduceLT, Int.reduceEq, Int.reduceNeg, reduceCtorEq, ↓reduceIte, hb, lx, hcond, ax, ay, l1, z1]))))
    exact Round.go (i + 1) (by omega) (by omega) (by ((try simp only [List.replicate_succ, List.replicate_zero, List.cons_append, List.nil_append]); repeat' (first | exact trivial | refine ⟨.inl rfl, ?_⟩ | refine ⟨.inr rfl, ?_⟩ | refine ⟨.inr (by simp), ?_⟩))) (Drops.refl _)
  · have hcond : decide ((i : Int) < l.length) = false := by simp; omega
    (repeat' (first | simp -dsimp (maxSteps := 2000000) (disch := first | omega | (simp; done) | (simp; omega)) only [SA, SB, SC, SD, SE, SF, SG, SI, Nat.reduceLT, Nat.reduceAdd, Nat.reduceSub, Nat.reduceMul, Nat.reduceLeDiff, Nat.reduceEqDiff, Nat.reduceBEq, Int.reduceToNat, Int.reduceLE, Int.reduceLT, Int.reduceEq, Int.reduceNeg, reduceCtorEq, ↓reduceIte, lx, hcond] | refine Cut.go ?_ | refine Both.intro ?_ ?_ | (refine Br.intro ?_ ?_ <;> intro hb <;> have hb' := hb <;> (try simp only [SH] at hb') <;> (try simp -dsimp (maxSteps := 2000000) (disch := first | omega | (simp; done) | (simp; omega)) only [SA, SB, SC, SD, SE, SF, SG, SI, Nat.reduceLT, Nat.reduceAdd, Nat.reduceSub, Nat.reduceMul, Nat.reduceLeDiff, Nat.reduceEqDiff, Nat.reduceBEq, Int.reduceToNat, Int.reduceLE, Int.reduceLT, Int.reduceEq, Int.reduceNeg, reduceCtorEq, ↓reduceIte, hb, lx, hcond]))))
end Go.Proofs.YthiidchbaicfgaaGreatDoor
