/-
  THE WALKS, layer 13, PART 14: a byte is written to a builder; its text; what stands for itself.
-/
import Derived.Test.YthiidchbaicfgaaGreatDoorZE
namespace Go.Proofs.YthiidchbaicfgaaGreatDoor
open Go Go.Id
set_option linter.unusedSimpArgs false
set_option linter.unusedVariables false
set_option maxRecDepth 100000
set_option maxHeartbeats 4000000

/-- What is known of shapes is known of variables that live, right behind these. -/
def Tidy (σ : St) : Prop := ∀ i j T n, σ.obj i = some (.ty j T n) → (i = j + 1 ∨ i = j + 2) ∧ ∃ c cs, σ.obj j = some (.cells (c :: cs))
theorem Tidy.alloc {σ : St} (h : Tidy σ) (hf : σ.Fresh) {x : Ob} (hx : ∀ j T n, x ≠ .ty j T n) : Tidy (σ.alloc x) := by
  intro i j T n hi
  rw [alloc_obj] at hi
  split at hi
  · cases hi; exact absurd rfl (hx _ _ _)
  · obtain ⟨h1, c, cs, h2⟩ := h i j T n hi
    refine ⟨h1, c, cs, ?_⟩
    rw [alloc_obj, if_neg ?_]; exact h2
    rintro rfl
    rw [hf _ (Nat.le_refl _)] at h2; cases h2
theorem Tidy.alloc_ty {σ : St} (h : Tidy σ) (hf : σ.Fresh) {j : Nat} {T : TypeId} {n : Option Nat} (hj : σ.next = j + 1 ∨ σ.next = j + 2) {c : D} {cs : List D} (ho : σ.obj j = some (.cells (c :: cs))) : Tidy (σ.alloc (.ty j T n)) := by
  have hne : ∀ {k : Nat} {c : D} {cs : List D}, σ.obj k = some (.cells (c :: cs)) → k ≠ σ.next := by
    rintro k c cs hk rfl
    rw [hf _ (Nat.le_refl _)] at hk; cases hk
  intro i j' T' n' hi
  rw [alloc_obj] at hi
  split at hi
  · rename_i he
    cases hi
    exact ⟨by omega, c, cs, by rw [alloc_obj, if_neg (hne ho)]; exact ho⟩
  · obtain ⟨h1, c, cs, h2⟩ := h i j' T' n' hi
    exact ⟨h1, c, cs, by rw [alloc_obj, if_neg (hne h2)]; exact h2⟩
theorem Tidy.put {σ : St} (h : Tidy σ) {j : Nat} (c : D) (cs : List D) : Tidy (σ.put j (some (.cells (c :: cs)))) := by
  intro i j' T' n' hi
  rw [put_obj] at hi
  split at hi
  · cases hi
  · obtain ⟨h1, c', cs', h2⟩ := h i j' T' n' hi
    refine ⟨h1, ?_⟩
    rw [put_obj]
    split
    · exact ⟨c, cs, rfl⟩
    · exact ⟨c', cs', h2⟩
theorem bytesD_cons {s : List UInt8} (h : s ≠ []) : ∃ c cs, bytesD s = c :: cs := by
  cases s with
  | nil => exact absurd rfl h
  | cons a r => exact ⟨_, _, rfl⟩
theorem Tidy.buf {σ : St} (h : Tidy σ) (hf : σ.Fresh) {l : Nat} {bs out : List UInt8} (hb : Buf σ l bs) (ho : out ≠ []) : Tidy (bufSt σ l bs out) := by
  have hne : ∀ {k : Nat} {c : D} {cs : List D}, σ.obj k = some (.cells (c :: cs)) → k < σ.next := by
    intro k c cs hk
    refine Nat.lt_of_not_le fun hle => ?_
    rw [hf _ hle] at hk; cases hk
  intro i j T n hi
  rw [bufSt_obj] at hi
  split at hi
  · cases hi
    obtain ⟨c, cs, e⟩ := bytesD_cons ho
    refine ⟨by omega, c, cs, ?_⟩
    rw [bufSt_obj, if_neg (by omega), if_neg (by omega), if_pos rfl, e]
  split at hi
  · cases hi
  split at hi
  · cases hi
  split at hi
  · cases hi
  rename_i hl
  obtain ⟨h1, c, cs, h2⟩ := h i j T n hi
  have := hne h2
  refine ⟨h1, c, cs, ?_⟩
  rw [bufSt_obj, if_neg (by omega), if_neg (by omega), if_neg (by omega), if_neg ?_]; exact h2
  rintro ⟨g1, g2⟩
  obtain ⟨o1, o2, o3⟩ := hb g1
  rcases g2 with rfl | rfl | rfl
  · exact hl ⟨g1, by omega⟩
  · rw [o2] at h2; cases h2
  · rw [o3] at h2; cases h2
theorem bufSt_fresh {σ : St} (hf : σ.Fresh) (l : Nat) (bs out : List UInt8) : (bufSt σ l bs out).Fresh := fun i hi => by
  have : σ.next + 3 ≤ i := hi
  rw [bufSt_obj, if_neg (by omega), if_neg (by omega), if_neg (by omega)]
  split
  · rfl
  · exact hf i (by omega)
theorem put_fresh {σ : St} (hf : σ.Fresh) {j : Nat} (hj : j < σ.next) (x : Option Ob) : (σ.put j x).Fresh := fun i hi => by
  have : σ.next ≤ i := hi
  rw [put_obj, if_neg (by omega)]; exact hf i this
theorem alloc_fresh {σ : St} (hf : σ.Fresh) (x : Ob) : (σ.alloc x).Fresh := fun i hi => by
  rw [alloc_next] at hi
  rw [alloc_obj, if_neg (by omega)]; exact hf i (by omega)
/-- The store behind a builder's text. -/
def strSt (σ : St) (l : Nat) (bs : List UInt8) : St := if bs = [] then σ else σ.clean l
theorem strSt_next (σ : St) (l : Nat) (bs : List UInt8) : (strSt σ l bs).next = σ.next := by unfold strSt; split <;> rfl
theorem strSt_obj {σ : St} (h : Tidy σ) {l : Nat} {bs : List UInt8} (hb : Buf σ l bs) (i : Nat) (hi : bs ≠ [] → i ≠ l ∧ i ≠ l + 1 ∧ i ≠ l + 2) : (strSt σ l bs).obj i = σ.obj i := by
  unfold strSt
  split
  · rfl
  rename_i hne
  obtain ⟨h1, h2, h3⟩ := hi hne
  simp only [St.clean]
  rw [if_neg (by omega)]
  split
  · rename_i j' T n ho
    obtain ⟨g1, c, cs, g2⟩ := h _ _ _ _ ho
    rw [if_neg (by omega), g2, ho]
  · rfl
theorem strSt_tidy {σ : St} (h : Tidy σ) {l : Nat} {bs : List UInt8} (hb : Buf σ l bs) : Tidy (strSt σ l bs) := by
  unfold strSt
  split
  · exact h
  rename_i hne
  obtain ⟨o1, o2, o3⟩ := hb hne
  intro i j T n hi
  simp only [St.clean] at hi ⊢
  split at hi
  · cases hi
  split at hi
  · rename_i j' T' n' ho
    split at hi
    · cases hi
    obtain ⟨g1, c, cs, g2⟩ := h _ _ _ _ ho
    rw [g2] at hi
    cases hi
    refine ⟨g1, c, cs, ?_⟩
    rw [if_neg ?_, g2]
    rintro (e | e)
    · exact absurd e (by assumption)
    · subst e
      rw [o2] at g2; cases g2
  · rename_i ho
    exact absurd hi (ho _ _ _)
theorem wb56 {σ : St} {j o : Nat} {cs : List D} {l : Nat} {bs : List UInt8} (c : UInt8) {n : Int} (hn : n = c.toNat) (h : Bld σ j o cs l bs) (hd : bs ≠ [] → j ≠ l ∧ j ≠ l + 1 ∧ j ≠ l + 2) (hjn : j < σ.next) (hl : bs.length ≤ 10000000) :
    Ok Tryz.prog 56 [.ref j o, .int .u8 n] σ (fun out s' => out = .ret .nili ∧ s' = wsSt σ j o cs l bs [c]) := by
  subst hn
  have hlt := h.lt
  have h1 := h.h1
  apply en56
  simp -dsimp (maxSteps := 2000000) (disch := first | omega | (simp; done) | (simp; omega)) only [SA, SB, SC, SD, SE, SF, SG, SI, Nat.reduceLT, Nat.reduceAdd, Nat.reduceSub, Nat.reduceMul, Nat.reduceLeDiff, Nat.reduceEqDiff, Nat.reduceBEq, Int.reduceToNat, Int.reduceLE, Int.reduceLT, Int.reduceEq, Int.reduceNeg, reduceCtorEq, ↓reduceIte, ic56, List.replicate_succ, List.replicate_zero]
  have c1 : o + 1 + 1 ≤ cs.length := by omega
  have l1 : cellsAt (cs.set o (.ref j o)) (o + 1) none = some (bufD l bs) := by simp [cellsAt, h1, bufD_scal]
  have hb2 : Buf (σ.put j (some (.cells (cs.set o (.ref j o))))) l bs := h.buf.put hd
  have el : elems 1 (.slc 1 [.int .u8 c.toNat] .exact) (σ.put j (some (.cells (cs.set o (.ref j o))))) = some (bytesD [c]) := rfl
  have hs : [c] ≠ [] := by simp
  have a1 := buf_app hb2 hs (by simp; omega) el
  have o1 : (bufSt (σ.put j (some (.cells (cs.set o (.ref j o))))) l bs (bs ++ [c])).obj j = some (.cells (cs.set o (.ref j o))) := by
    rw [bufSt_old (σ := σ.put j _) hjn hd, put_obj, if_pos rfl]
  (repeat' (first | simp -dsimp (maxSteps := 2000000) (disch := first | omega | (simp; done) | (simp; omega)) only [SA, SB, SC, SD, SE, SF, SG, SI, Nat.reduceLT, Nat.reduceAdd, Nat.reduceSub, Nat.reduceMul, Nat.reduceLeDiff, Nat.reduceEqDiff, Nat.reduceBEq, Int.reduceToNat, Int.reduceLE, Int.reduceLT, Int.reduceEq, Int.reduceNeg, reduceCtorEq, ↓reduceIte, l1, a1, bufD_cells, c1, List.length_set, o1] | refine Cut.go ?_ | refine Both.intro ?_ ?_ | refine via gd75 (check75 h) ?_ | (refine Br.intro ?_ ?_ <;> intro hb <;> have hb' := hb <;> (try simp only [SH] at hb') <;> (try simp -dsimp (maxSteps := 2000000) (disch := first | omega | (simp; done) | (simp; omega)) only [SA, SB, SC, SD, SE, SF, SG, SI, Nat.reduceLT, Nat.reduceAdd, Nat.reduceSub, Nat.reduceMul, Nat.reduceLeDiff, Nat.reduceEqDiff, Nat.reduceBEq, Int.reduceToNat, Int.reduceLE, Int.reduceLT, Int.reduceEq, Int.reduceNeg, reduceCtorEq, ↓reduceIte, hb, l1, a1, bufD_cells, c1, List.length_set, o1]))))
  rw [wsSt, if_neg hs]
  refine St.ext (fun i => ?_) rfl
  by_cases hi : i = j
  · rw [put_obj, if_pos hi, put_obj, if_pos hi]; try rfl
  · rw [put_obj, if_neg hi, put_obj, if_neg hi, bufSt_obj, bufSt_obj, put_obj, if_neg hi]; try rfl
theorem str30 {σ : St} {j o : Nat} {cs : List D} {l : Nat} {bs : List UInt8} (h : Bld σ j o cs l bs) (hl : bs.length ≤ 100000000) :
    Ok Tryz.prog 30 [.ref j o] σ (fun out s' => out = .ret (.str bs) ∧ s' = strSt σ l bs) := by
  have hlt := h.lt
  have h1 := h.h1
  have hj := h.hj
  have l1 : cellsAt cs (o + 1) none = some (bufD l bs) := by simp [cellsAt, h1, bufD_scal]
  have u : ∃ x, isliceData (bufD l bs) = some x ∧ iunsStr [5] x (.int .i64 bs.length) σ = some (.str bs, strSt σ l bs) := by
    by_cases hb : bs = []
    · subst hb; exact ⟨.nilp, rfl, rfl⟩
    · obtain ⟨o1, o2, o3⟩ := h.buf hb
      refine ⟨.ref l 0, ?_, ?_⟩
      · simp [bufD, hb, isliceData]
      · simp only [iunsStr, o1, o2, o3, bytesD_len, bytesD_ok, bytesD_of, strSt, if_neg hb]
        have hbn : bytesD bs ≠ [] := by simpa [bytesD] using hb
        rw [if_pos ⟨trivial, by decide, trivial, hbn, by omega, trivial⟩]
  obtain ⟨x, u1, u2⟩ := u
  apply en30
  simp -dsimp (maxSteps := 2000000) (disch := first | omega | (simp; done) | (simp; omega)) only [SA, SB, SC, SD, SE, SF, SG, SI, Nat.reduceLT, Nat.reduceAdd, Nat.reduceSub, Nat.reduceMul, Nat.reduceLeDiff, Nat.reduceEqDiff, Nat.reduceBEq, Int.reduceToNat, Int.reduceLE, Int.reduceLT, Int.reduceEq, Int.reduceNeg, reduceCtorEq, ↓reduceIte, ic30, List.replicate_succ, List.replicate_zero]
  (repeat' (first | simp -dsimp (maxSteps := 2000000) (disch := first | omega | (simp; done) | (simp; omega)) only [SA, SB, SC, SD, SE, SF, SG, SI, Nat.reduceLT, Nat.reduceAdd, Nat.reduceSub, Nat.reduceMul, Nat.reduceLeDiff, Nat.reduceEqDiff, Nat.reduceBEq, Int.reduceToNat, Int.reduceLE, Int.reduceLT, Int.reduceEq, Int.reduceNeg, reduceCtorEq, ↓reduceIte, hj, l1, u1, u2, bufD_len] | refine Cut.go ?_ | refine Both.intro ?_ ?_ | (refine Br.intro ?_ ?_ <;> intro hb <;> have hb' := hb <;> (try simp only [SH] at hb') <;> (try simp -dsimp (maxSteps := 2000000) (disch := first | omega | (simp; done) | (simp; omega)) only [SA, SB, SC, SD, SE, SF, SG, SI, Nat.reduceLT, Nat.reduceAdd, Nat.reduceSub, Nat.reduceMul, Nat.reduceLeDiff, Nat.reduceEqDiff, Nat.reduceBEq, Int.reduceToNat, Int.reduceLE, Int.reduceLT, Int.reduceEq, Int.reduceNeg, reduceCtorEq, ↓reduceIte, hb, hj, l1, u1, u2, bufD_len]))))
theorem idx_nonneg : ∀ (s : List UInt8) (c : UInt8), decide (Lib.indexByte s c ≥ 0) = s.contains c
  | [], c => rfl
  | b :: r, c => by
    have ih := idx_nonneg r c
    have hg := Lib.indexByte_ge r c
    unfold Lib.indexByte
    by_cases h : b = c
    · simp [h]
    · have h2 : (b == c) = false := by simp [h]
      have h3 : (c == b) = false := by simp [Ne.symm h]
      simp only [h2, List.contains_cons, h3, Bool.false_or]
      rw [← ih]
      by_cases h4 : Lib.indexByte r c = -1
      · simp [h4]
      · have : (Lib.indexByte r c == -1) = false := by simp [h4]
        simp only [this]
        simp; omega
theorem idxb_ext {s : List UInt8} {c : UInt8} {σ : St} {K : D → St → Prop} (hk : K (.int .i64 (Lib.indexByte s c)) σ) : ExtOk Tryz.prog 93 [.str s, .int .u8 c.toNat] σ K := (ext_idx s c.toNat σ).mono fun d t ⟨h1, h2⟩ => by
  subst h1; subst h2
  have : ((c.toNat : Int)).toNat.toUInt8 = c := by simp
  rw [this]; exact hk
theorem ib71 (s : List UInt8) (c : UInt8) (σ : St) : Ok Tryz.prog 71 [.str s, .int .u8 c.toNat] σ (fun o t => o = .ret (.int .i64 (Lib.indexByte s c)) ∧ t = σ) := by
  apply en71
  simp -dsimp (maxSteps := 2000000) (disch := first | omega | (simp; done) | (simp; omega)) only [SA, SB, SC, SD, SE, SF, SG, SI, Nat.reduceLT, Nat.reduceAdd, Nat.reduceSub, Nat.reduceMul, Nat.reduceLeDiff, Nat.reduceEqDiff, Nat.reduceBEq, Int.reduceToNat, Int.reduceLE, Int.reduceLT, Int.reduceEq, Int.reduceNeg, reduceCtorEq, ↓reduceIte, ic71, List.replicate_succ, List.replicate_zero]
  (repeat' (first | simp -dsimp (maxSteps := 2000000) (disch := first | omega | (simp; done) | (simp; omega)) only [SA, SB, SC, SD, SE, SF, SG, SI, Nat.reduceLT, Nat.reduceAdd, Nat.reduceSub, Nat.reduceMul, Nat.reduceLeDiff, Nat.reduceEqDiff, Nat.reduceBEq, Int.reduceToNat, Int.reduceLE, Int.reduceLT, Int.reduceEq, Int.reduceNeg, reduceCtorEq, ↓reduceIte] | refine Cut.go ?_ | refine Both.intro ?_ ?_ | refine idxb_ext ?_ | (refine Br.intro ?_ ?_ <;> intro hb <;> have hb' := hb <;> (try simp only [SH] at hb') <;> (try simp -dsimp (maxSteps := 2000000) (disch := first | omega | (simp; done) | (simp; omega)) only [SA, SB, SC, SD, SE, SF, SG, SI, Nat.reduceLT, Nat.reduceAdd, Nat.reduceSub, Nat.reduceMul, Nat.reduceLeDiff, Nat.reduceEqDiff, Nat.reduceBEq, Int.reduceToNat, Int.reduceLE, Int.reduceLT, Int.reduceEq, Int.reduceNeg, reduceCtorEq, ↓reduceIte, hb]))))
theorem ib52 (s : List UInt8) (c : UInt8) (σ : St) : Ok Tryz.prog 52 [.str s, .int .u8 c.toNat] σ (fun o t => o = .ret (.int .i64 (Lib.indexByte s c)) ∧ t = σ) := by
  apply en52
  simp -dsimp (maxSteps := 2000000) (disch := first | omega | (simp; done) | (simp; omega)) only [SA, SB, SC, SD, SE, SF, SG, SI, Nat.reduceLT, Nat.reduceAdd, Nat.reduceSub, Nat.reduceMul, Nat.reduceLeDiff, Nat.reduceEqDiff, Nat.reduceBEq, Int.reduceToNat, Int.reduceLE, Int.reduceLT, Int.reduceEq, Int.reduceNeg, reduceCtorEq, ↓reduceIte, ic52, List.replicate_succ, List.replicate_zero]
  (repeat' (first | simp -dsimp (maxSteps := 2000000) (disch := first | omega | (simp; done) | (simp; omega)) only [SA, SB, SC, SD, SE, SF, SG, SI, Nat.reduceLT, Nat.reduceAdd, Nat.reduceSub, Nat.reduceMul, Nat.reduceLeDiff, Nat.reduceEqDiff, Nat.reduceBEq, Int.reduceToNat, Int.reduceLE, Int.reduceLT, Int.reduceEq, Int.reduceNeg, reduceCtorEq, ↓reduceIte] | refine Cut.go ?_ | refine Both.intro ?_ ?_ | refine via gd71 (ib71 _ _ _) ?_ | (refine Br.intro ?_ ?_ <;> intro hb <;> have hb' := hb <;> (try simp only [SH] at hb') <;> (try simp -dsimp (maxSteps := 2000000) (disch := first | omega | (simp; done) | (simp; omega)) only [SA, SB, SC, SD, SE, SF, SG, SI, Nat.reduceLT, Nat.reduceAdd, Nat.reduceSub, Nat.reduceMul, Nat.reduceLeDiff, Nat.reduceEqDiff, Nat.reduceBEq, Int.reduceToNat, Int.reduceLE, Int.reduceLT, Int.reduceEq, Int.reduceNeg, reduceCtorEq, ↓reduceIte, hb]))))
end Go.Proofs.YthiidchbaicfgaaGreatDoor
