/-
  THE WALKS, PART 48: the document's variables.
-/
import Derived.Test.YtkjgadanaknleaaY1
import Derived.Test.YtkjgadanaknleaaY6
import Derived.Test.YtkjgadanaknleaaW17
import Derived.Test.YtkjgadanaknleaaIdW
namespace Go.Proofs.Ytkjgadanaknleaa
open Go Go.Id
set_option linter.unusedSimpArgs false
set_option linter.unusedVariables false
set_option maxRecDepth 100000
set_option maxHeartbeats 4000000

theorem Vd.len2 {x : D} {l : List V} (h : Vd x l) : ilen x = some (.int .i64 l.length) := by cases h <;> simp [ilen]
theorem Vd.at2 {x : D} {l : List V} (h : Vd x l) {i : Nat} (hi : i < l.length) : idxAddrS 2 x (.int .i64 i) = some (.box (l[i]).cs 0) := by
  cases h with
  | vnil => simp at hi
  | vsome l r =>
    rw [ix_map _ _ _ _ _ _ ⟨by omega, by omega⟩]
    have : l.getD ((i : Int)).toNat default = l[i] := by simp [hi]
    rw [this]; rfl
theorem place_ok {x : D} {l : List V} (hx : Vd x l) (hl : l.length ≤ 64) (name : List UInt8) (σ : St) : Ok Try.prog 67 [x, .str name] σ (fun o s' => s' = σ ∧ o = .ret (.int .i64 (idxV name l 0))) := by
  apply en67
  have hlx := hx.len2
  simp -dsimp (maxSteps := 2000000) (disch := first | omega | (simp; done) | (simp; omega)) only [SA, SB, SC, SD, SE, SF, SG, Nat.reduceLT, Nat.reduceAdd, Nat.reduceSub, Nat.reduceMul, Nat.reduceLeDiff, Nat.reduceEqDiff, Nat.reduceBEq, Int.reduceToNat, Int.reduceLE, Int.reduceLT, Int.reduceEq, Int.reduceNeg, reduceCtorEq, ↓reduceIte, ic67, List.replicate_succ, List.replicate_zero]
  (repeat' (first | simp -dsimp (maxSteps := 2000000) (disch := first | omega | (simp; done) | (simp; omega)) only [SA, SB, SC, SD, SE, SF, SG, Nat.reduceLT, Nat.reduceAdd, Nat.reduceSub, Nat.reduceMul, Nat.reduceLeDiff, Nat.reduceEqDiff, Nat.reduceBEq, Int.reduceToNat, Int.reduceLE, Int.reduceLT, Int.reduceEq, Int.reduceNeg, reduceCtorEq, ↓reduceIte] | refine Cut.go ?_ | refine Both.intro ?_ ?_ | (refine Br.intro ?_ ?_ <;> intro hb <;> have hb' := hb <;> (try simp only [SH] at hb') <;> (try simp -dsimp (maxSteps := 2000000) (disch := first | omega | (simp; done) | (simp; omega)) only [SA, SB, SC, SD, SE, SF, SG, Nat.reduceLT, Nat.reduceAdd, Nat.reduceSub, Nat.reduceMul, Nat.reduceLeDiff, Nat.reduceEqDiff, Nat.reduceBEq, Int.reduceToNat, Int.reduceLE, Int.reduceLT, Int.reduceEq, Int.reduceNeg, reduceCtorEq, ↓reduceIte, hb]))))
  refine loop_go (fun a : Nat => [x, .str name, .junk, .junk, .int .i64 0, .int .i64 a] ++ List.replicate 14 .junk) (fun _ => σ) (fun a => l.length - a) (fun a => a ≤ l.length ∧ idxV name l 0 = idxV name (l.drop a) a) 0 ⟨Nat.zero_le _, by simp⟩ (by ((try simp only [List.replicate_succ, List.replicate_zero, List.cons_append, List.nil_append]); repeat' (first | exact trivial | refine ⟨.inl rfl, ?_⟩ | refine ⟨.inr rfl, ?_⟩ | refine ⟨.inr (by simp), ?_⟩))) (Drops.refl _) ?_
  rintro i ⟨h1, h2⟩
  simp -dsimp (maxSteps := 2000000) (disch := first | omega | (simp; done) | (simp; omega)) only [SA, SB, SC, SD, SE, SF, SG, Nat.reduceLT, Nat.reduceAdd, Nat.reduceSub, Nat.reduceMul, Nat.reduceLeDiff, Nat.reduceEqDiff, Nat.reduceBEq, Int.reduceToNat, Int.reduceLE, Int.reduceLT, Int.reduceEq, Int.reduceNeg, reduceCtorEq, ↓reduceIte, List.replicate_succ, List.replicate_zero]
  (repeat' (first | simp -dsimp (maxSteps := 2000000) (disch := first | omega | (simp; done) | (simp; omega)) only [SA, SB, SC, SD, SE, SF, SG, Nat.reduceLT, Nat.reduceAdd, Nat.reduceSub, Nat.reduceMul, Nat.reduceLeDiff, Nat.reduceEqDiff, Nat.reduceBEq, Int.reduceToNat, Int.reduceLE, Int.reduceLT, Int.reduceEq, Int.reduceNeg, reduceCtorEq, ↓reduceIte, hlx] | refine Cut.go ?_ | refine Both.intro ?_ ?_ | (refine Br.intro ?_ ?_ <;> intro hb <;> have hb' := hb <;> (try simp only [SH] at hb') <;> (try simp -dsimp (maxSteps := 2000000) (disch := first | omega | (simp; done) | (simp; omega)) only [SA, SB, SC, SD, SE, SF, SG, Nat.reduceLT, Nat.reduceAdd, Nat.reduceSub, Nat.reduceMul, Nat.reduceLeDiff, Nat.reduceEqDiff, Nat.reduceBEq, Int.reduceToNat, Int.reduceLE, Int.reduceLT, Int.reduceEq, Int.reduceNeg, reduceCtorEq, ↓reduceIte, hb, hlx]))))
  · have hi : i < l.length := by omega
    have ax := hx.at2 hi
    have d1 := List.drop_eq_getElem_cons hi
    rw [d1, idxV] at h2
    (repeat' (first | simp -dsimp (maxSteps := 2000000) (disch := first | omega | (simp; done) | (simp; omega)) only [SA, SB, SC, SD, SE, SF, SG, Nat.reduceLT, Nat.reduceAdd, Nat.reduceSub, Nat.reduceMul, Nat.reduceLeDiff, Nat.reduceEqDiff, Nat.reduceBEq, Int.reduceToNat, Int.reduceLE, Int.reduceLT, Int.reduceEq, Int.reduceNeg, reduceCtorEq, ↓reduceIte, ax, V.cs] | refine Cut.go ?_ | refine Both.intro ?_ ?_ | (refine Br.intro ?_ ?_ <;> intro hb <;> have hb' := hb <;> (try simp only [SH] at hb') <;> (try simp -dsimp (maxSteps := 2000000) (disch := first | omega | (simp; done) | (simp; omega)) only [SA, SB, SC, SD, SE, SF, SG, Nat.reduceLT, Nat.reduceAdd, Nat.reduceSub, Nat.reduceMul, Nat.reduceLeDiff, Nat.reduceEqDiff, Nat.reduceBEq, Int.reduceToNat, Int.reduceLE, Int.reduceLT, Int.reduceEq, Int.reduceNeg, reduceCtorEq, ↓reduceIte, hb, ax, V.cs]))))
    · rw [h2, if_pos hb]
    · exact Round.go (i + 1) (by omega) ⟨by omega, by rw [h2, if_neg (by rw [hb]; decide)]; rfl⟩ (by ((try simp only [List.replicate_succ, List.replicate_zero, List.cons_append, List.nil_append]); repeat' (first | exact trivial | refine ⟨.inl rfl, ?_⟩ | refine ⟨.inr rfl, ?_⟩ | refine ⟨.inr (by simp), ?_⟩))) (Drops.refl _)
  · have hi : i = l.length := by omega
    rw [h2, hi, List.drop_length, idxV]
theorem place_call {x : D} {l : List V} {name : List UInt8} {σ : St} {K : Out → St → Prop} (hx : Vd x l) (hl : l.length ≤ 64) (hk : K (.ret (.int .i64 (idxV name l 0))) σ) : goodFn Try.prog 67 = true ∧ Ok Try.prog 67 [x, .str name] σ K := pass gd67 (place_ok hx hl name σ) hk

/-- A name's number; with an error it may be any. -/
def ValP (R : Except Int Int) (n e : Int) : Prop := match R with
  | .ok v => n = v ∧ e = 0
  | .error e' => e = e'
theorem value_ok2 {x : D} {l : List V} (hx : Vd x l) (hv : VOk l) (name : List UInt8) (σ : St) : Ok Try.prog 48 [x, .str name] σ (fun o s' => s' = σ ∧ ∃ n e, o = .ret (.tuple [.int .i64 n, .int .i64 e]) ∧ ValP (getF name l) n e) := by
  apply en48
  rcases idxV_at name l 0 with ⟨e1, e2⟩ | ⟨k, hk, e1, e2, e3⟩
  · have e1' : idxV name l 0 = -1 := e1
    simp -dsimp (maxSteps := 2000000) (disch := first | omega | (simp; done) | (simp; omega)) only [SA, SB, SC, SD, SE, SF, SG, Nat.reduceLT, Nat.reduceAdd, Nat.reduceSub, Nat.reduceMul, Nat.reduceLeDiff, Nat.reduceEqDiff, Nat.reduceBEq, Int.reduceToNat, Int.reduceLE, Int.reduceLT, Int.reduceEq, Int.reduceNeg, reduceCtorEq, ↓reduceIte, ic48, List.replicate_succ, List.replicate_zero]
    (repeat' (first | simp -dsimp (maxSteps := 2000000) (disch := first | omega | (simp; done) | (simp; omega)) only [SA, SB, SC, SD, SE, SF, SG, Nat.reduceLT, Nat.reduceAdd, Nat.reduceSub, Nat.reduceMul, Nat.reduceLeDiff, Nat.reduceEqDiff, Nat.reduceBEq, Int.reduceToNat, Int.reduceLE, Int.reduceLT, Int.reduceEq, Int.reduceNeg, reduceCtorEq, ↓reduceIte, e1'] | refine Cut.go ?_ | refine Both.intro ?_ ?_ | refine place_call hx hv.1 ?_ | (refine Br.intro ?_ ?_ <;> intro hb <;> have hb' := hb <;> (try simp only [SH] at hb') <;> (try simp -dsimp (maxSteps := 2000000) (disch := first | omega | (simp; done) | (simp; omega)) only [SA, SB, SC, SD, SE, SF, SG, Nat.reduceLT, Nat.reduceAdd, Nat.reduceSub, Nat.reduceMul, Nat.reduceLeDiff, Nat.reduceEqDiff, Nat.reduceBEq, Int.reduceToNat, Int.reduceLE, Int.reduceLT, Int.reduceEq, Int.reduceNeg, reduceCtorEq, ↓reduceIte, hb, e1']))))
    exact ⟨0, 0, rfl, by rw [getF, e2]; exact ⟨rfl, rfl⟩⟩
  · have e1' : idxV name l 0 = (k : Int) := by rw [show (0 : Int) = ((0 : Nat) : Int) from rfl, e1]; simp
    have e4 : decide ((k : Int) < 0) = false := by simp
    have ax := hx.at2 hk
    have hvl := hv.2 l[k] (List.getElem_mem hk)
    have hg : getF name l = numF (l[k]).value := by simp only [getF, e2]
    rw [hg]
    generalize l[k] = v at *
    simp -dsimp (maxSteps := 2000000) (disch := first | omega | (simp; done) | (simp; omega)) only [SA, SB, SC, SD, SE, SF, SG, Nat.reduceLT, Nat.reduceAdd, Nat.reduceSub, Nat.reduceMul, Nat.reduceLeDiff, Nat.reduceEqDiff, Nat.reduceBEq, Int.reduceToNat, Int.reduceLE, Int.reduceLT, Int.reduceEq, Int.reduceNeg, reduceCtorEq, ↓reduceIte, ic48, List.replicate_succ, List.replicate_zero]
    (repeat' (first | simp -dsimp (maxSteps := 2000000) (disch := first | omega | (simp; done) | (simp; omega)) only [SA, SB, SC, SD, SE, SF, SG, Nat.reduceLT, Nat.reduceAdd, Nat.reduceSub, Nat.reduceMul, Nat.reduceLeDiff, Nat.reduceEqDiff, Nat.reduceBEq, Int.reduceToNat, Int.reduceLE, Int.reduceLT, Int.reduceEq, Int.reduceNeg, reduceCtorEq, ↓reduceIte, e1', e4, ax, V.cs] | refine Cut.go ?_ | refine Both.intro ?_ ?_ | refine place_call hx hv.1 ?_ | refine rdecimal_call hvl ?_ | refine rconst_call hvl ?_ | (refine Br.intro ?_ ?_ <;> intro hb <;> have hb' := hb <;> (try simp only [SH] at hb') <;> (try simp -dsimp (maxSteps := 2000000) (disch := first | omega | (simp; done) | (simp; omega)) only [SA, SB, SC, SD, SE, SF, SG, Nat.reduceLT, Nat.reduceAdd, Nat.reduceSub, Nat.reduceMul, Nat.reduceLeDiff, Nat.reduceEqDiff, Nat.reduceBEq, Int.reduceToNat, Int.reduceLE, Int.reduceLT, Int.reduceEq, Int.reduceNeg, reduceCtorEq, ↓reduceIte, hb, e1', e4, ax, V.cs]))))
    · exact ⟨0, 0, rfl, by rw [numF, if_pos hb]; exact ⟨rfl, rfl⟩⟩
    · rename_i q1 _
      refine ⟨_, _, rfl, ?_⟩
      rw [numF, if_neg (by rw [q1]; decide), if_neg (by simpa using hb')]
      by_cases hc : (constF v.value).2 = 0
      · rw [if_pos (by simpa using hc)]; exact ⟨rfl, hc⟩
      · rw [if_neg (by simpa using hc)]; rfl
    · rename_i q1 _
      refine ⟨_, _, rfl, ?_⟩
      rw [numF, if_neg (by rw [q1]; decide), if_pos (by simpa using hb')]
      exact ⟨rfl, rfl⟩
theorem rval_call {x : D} {l : List V} {name : List UInt8} {σ : St} {K : Out → St → Prop} (hx : Vd x l) (hv : VOk l) (hk : ∀ n e, ValP (getF name l) n e → K (.ret (.tuple [.int .i64 n, .int .i64 e])) σ) : goodFn Try.prog 48 = true ∧ Ok Try.prog 48 [x, .str name] σ K :=
  ⟨gd48, (value_ok2 hx hv name σ).mono fun o s' ⟨h1, n, e, h2, h3⟩ => by subst h1; subst h2; exact hk n e h3⟩

/-- What is reckoned. -/
def GP (σ : St) (R : Except Int (Int × List V)) (o : Out) (s' : St) : Prop := ∃ m, σ.next ≤ m ∧ s' = ⟨σ.obj, m⟩ ∧ match R with
  | .ok r => ∃ y, Vd y r.2 ∧ o = .ret (.agg [.int .i64 r.1, y, .int .i64 0])
  | .error e => ∃ n y, scal y = true ∧ o = .ret (.agg [.int .i64 n, y, .int .i64 e])
def GPd (σ : St) (R : Except Int (Int × List V)) (o : Out) (s : St) : Prop := ∃ s', Drops s s' ∧ GP σ R o s'
def GPf (σ : St) (R : Except Int (Int × List V)) (o : Out) (s : St) : Prop := GPd σ R o s ∨ ∃ j cs l l', s.obj j = some (.cells cs) ∧ o = .ret (.agg l) ∧ Frzs j cs l l' ∧ GPd σ R (.ret (.agg l')) (s.put j none)
theorem gp_ok {σ s : St} {R : Except Int (Int × List V)} {n : Int} {l : List V} {y : D} (hf : σ.Fresh) (ho : ∀ i, i < σ.next → s.obj i = σ.obj i) (hn : σ.next ≤ s.next) (h : R = .ok (n, l)) (hv : Vs s y l) (hg : ∀ j t len, y = .rslc j 0 2 len (.opened t) → σ.next ≤ j) :
    GPf σ R (.ret (.agg [.int .i64 n, y, .int .i64 0])) s := by
  subst h
  cases hv with
  | vnil => left; exact ⟨_, drops_end hf ho, s.next, hn, rfl, .nils, .vnil, rfl⟩
  | vnone => left; exact ⟨_, drops_end hf ho, s.next, hn, rfl, .slc 2 [] .exact, .vsome [] _, rfl⟩
  | vsome j t l hl hj ht =>
    right
    have hgj := hg _ _ _ rfl
    refine ⟨j, flatV l, _, [.int .i64 n, .slc 2 (chunks 2 l.length ((flatV l).drop 0)) (.opened t), .int .i64 0], hj, rfl, .cons (.refl _) (.cons (.slc _ _ _ _ (by rw [flatV_len]; omega) (flatV_scal l)) (.cons (.refl _) .nil)), ?_⟩
    refine ⟨_, drops_end hf (s := s.put j none) (fun i hi => by rw [put_obj, if_neg (by omega), ho i hi]), _, ?_, rfl, .slc 2 (l.map V.d) (.opened t), .vsome l _, ?_⟩
    · exact hn
    · rw [List.drop_zero, chunks_flat]
theorem gp_err {σ s : St} {R : Except Int (Int × List V)} {e : Int} (n : Int) (y : D) (hf : σ.Fresh) (ho : ∀ i, i < σ.next → s.obj i = σ.obj i) (hn : σ.next ≤ s.next) (h : R = .error e) (hy : scal y = true) :
    GPf σ R (.ret (.agg [.int .i64 n, y, .int .i64 e])) s := by
  subst h; left; exact ⟨_, drops_end hf ho, s.next, hn, rfl, n, y, hy, rfl⟩
theorem append_one {s : St} {j t : Nat} {l : List V} (hl : l.length ≤ 100) (hj : s.obj j = some (.cells (flatV l))) (ht : s.obj t = some .tok) (name val : List UInt8) :
    iappendR 2 32 (.rslc j 0 2 l.length (.opened t)) (.slc 2 [.agg [.str name, .str val]] .exact) s =
      some (.rslc s.next 0 2 (l.length + 1) (.opened (s.next + 1)), ((((s.put j none).put t none).alloc (.cells (flatV (l ++ [⟨name, val⟩])))).alloc .tok)) := by
  have e1 : (l.length + 1) * 32 ≤ 140737488355328 ∧ l.length + 1 ≤ maxLen := by
    have : maxLen = 2 ^ 63 - 1 := rfl
    omega
  have e2 : iold 2 (.rslc j 0 2 l.length (.opened t)) s = some (l.length, flatV l, (s.put j none).put t none) := by
    simp only [iold, hj, ht, if_true]
    rw [if_pos ⟨trivial, by rw [flatV_len]; omega⟩]
  have e3 : flatV (l ++ [⟨name, val⟩]) = flatV l ++ [.str name, .str val] := by rw [flatV_app]; rfl
  simp only [iappendR, elems, if_true, List.length_cons, List.length_nil, Nat.zero_add, e2, e3]
  rw [if_neg (by omega)]
  simp only [flat, dcells, List.all_cons, List.all_nil, scal, Bool.and_self, if_true, List.append_nil]
  rw [if_pos e1]; rfl
theorem append_none {s : St} (name val : List UInt8) : iappendR 2 32 (.slc 2 [] .exact) (.slc 2 [.agg [.str name, .str val]] .exact) s = some (.rslc s.next 0 2 1 (.opened (s.next + 1)), (s.alloc (.cells (flatV [⟨name, val⟩]))).alloc .tok) := rfl
theorem clone_none {x : D} {σ : St} (hx : Vd x []) : iappendR 2 32 (.slc 2 [] .exact) x σ = some (.slc 2 [] .exact, σ) := by
  generalize hl : ([] : List V) = l at hx
  cases hx with
  | vnil => rfl
  | vsome l r => subst hl; rfl
theorem clone_some {x : D} {l : List V} {σ : St} (hx : Vd x l) (hl : l.length ≤ 100) (hne : l ≠ []) : iappendR 2 32 (.slc 2 [] .exact) x σ = some (.rslc σ.next 0 2 l.length (.opened (σ.next + 1)), (σ.alloc (.cells (flatV l))).alloc .tok) := by
  cases hx with
  | vnil => exact absurd rfl hne
  | vsome l r => exact clone_app hl hne
theorem idx_r {j t len k : Nat} (h : k < len) : idxAddrS 2 (.rslc j 0 2 len (.opened t)) (.int .i64 k) = some (.ref j (2 * k)) := by
  simp only [idxAddrS]
  rw [if_pos ⟨trivial, by omega, by omega⟩]
  simp [Nat.mul_comm]
def putR (name : List UInt8) (n : Int) (l : List V) : Except Int (Int × List V) := match setF name n l with
  | .ok l' => .ok (n, l')
  | .error e => .error e
theorem put_ok2 {x : D} {l : List V} (hx : Vd x l) (hl : l.length ≤ 64) (name : List UInt8) (n : Int) (hn : I64 n) (σ : St) : Ok Try.prog 50 [x, .str name, .int .i64 n] σ (GP σ (putR name n l)) := by
  refine Ok.fresh fun hf => Ok.drop (Ok.freezeA (show Ok Try.prog 50 [x, .str name, .int .i64 n] σ (GPf σ (putR name n l)) from ?_))
  have hlx := hx.len2
  have z1 : decide ((-1 : Int) ≥ 0) = false := rfl
  apply en50
  by_cases hne : l = []
  · subst hne
    have hc : ∀ s : St, iappendR 2 32 (.slc 2 [] .exact) x s = some (.slc 2 [] .exact, s) := fun s => clone_none hx
    have e1 : idxV name [] 0 = -1 := rfl
    have z : decide (((0 : Nat) : Int) ≥ 64) = false := rfl
    simp -dsimp (maxSteps := 2000000) (disch := first | omega | (simp; done) | (simp; omega)) only [SA, SB, SC, SD, SE, SF, SG, Nat.reduceLT, Nat.reduceAdd, Nat.reduceSub, Nat.reduceMul, Nat.reduceLeDiff, Nat.reduceEqDiff, Nat.reduceBEq, Int.reduceToNat, Int.reduceLE, Int.reduceLT, Int.reduceEq, Int.reduceNeg, reduceCtorEq, ↓reduceIte, ic50, List.replicate_succ, List.replicate_zero]
    (repeat' (first | simp -dsimp (maxSteps := 2000000) (disch := first | omega | (simp; done) | (simp; omega)) only [SA, SB, SC, SD, SE, SF, SG, Nat.reduceLT, Nat.reduceAdd, Nat.reduceSub, Nat.reduceMul, Nat.reduceLeDiff, Nat.reduceEqDiff, Nat.reduceBEq, Int.reduceToNat, Int.reduceLE, Int.reduceLT, Int.reduceEq, Int.reduceNeg, reduceCtorEq, ↓reduceIte, hc, e1, hlx, append_none, ite_ne, z, z1] | refine Cut.go ?_ | refine Both.intro ?_ ?_ | refine place_call hx hl ?_ | refine rtext_call hn ?_ | (refine Br.intro ?_ ?_ <;> intro hb <;> have hb' := hb <;> (try simp only [SH] at hb') <;> (try simp -dsimp (maxSteps := 2000000) (disch := first | omega | (simp; done) | (simp; omega)) only [SA, SB, SC, SD, SE, SF, SG, Nat.reduceLT, Nat.reduceAdd, Nat.reduceSub, Nat.reduceMul, Nat.reduceLeDiff, Nat.reduceEqDiff, Nat.reduceBEq, Int.reduceToNat, Int.reduceLE, Int.reduceLT, Int.reduceEq, Int.reduceNeg, reduceCtorEq, ↓reduceIte, hb, hc, e1, hlx, append_none, ite_ne, z, z1]))))
    exact gp_ok (l := [⟨name, textF n⟩]) hf (fun i hi => (by first | rfl | (simp (disch := omega) only [put_obj, alloc_obj, put_next, alloc_next, ite_ne]; done))) (by first | omega | (simp only [put_next, alloc_next]; omega)) rfl (.vsome _ _ [⟨name, textF n⟩] (by simp) (by (try simp (disch := omega) only [put_obj, alloc_obj, put_next, alloc_next, ite_ne, if_true])) (by (try simp (disch := omega) only [put_obj, alloc_obj, put_next, alloc_next, ite_ne, if_true]))) (fun j t len e => by cases e; omega)
  · have hc : ∀ s : St, iappendR 2 32 (.slc 2 [] .exact) x s = some (.rslc s.next 0 2 l.length (.opened (s.next + 1)), (s.alloc (.cells (flatV l))).alloc .tok) := fun s => clone_some hx (by omega) hne
    rcases idxV_at name l 0 with ⟨e1, e2⟩ | ⟨k, hk, e1, e2, e3⟩
    · have e1' : idxV name l 0 = -1 := e1
      have hput := (putV_at name (textF n) l 0).1 e1'
      simp -dsimp (maxSteps := 2000000) (disch := first | omega | (simp; done) | (simp; omega)) only [SA, SB, SC, SD, SE, SF, SG, Nat.reduceLT, Nat.reduceAdd, Nat.reduceSub, Nat.reduceMul, Nat.reduceLeDiff, Nat.reduceEqDiff, Nat.reduceBEq, Int.reduceToNat, Int.reduceLE, Int.reduceLT, Int.reduceEq, Int.reduceNeg, reduceCtorEq, ↓reduceIte, ic50, List.replicate_succ, List.replicate_zero]
      (repeat' (first | simp -dsimp (maxSteps := 2000000) (disch := first | omega | (simp; done) | (simp; omega)) only [SA, SB, SC, SD, SE, SF, SG, Nat.reduceLT, Nat.reduceAdd, Nat.reduceSub, Nat.reduceMul, Nat.reduceLeDiff, Nat.reduceEqDiff, Nat.reduceBEq, Int.reduceToNat, Int.reduceLE, Int.reduceLT, Int.reduceEq, Int.reduceNeg, reduceCtorEq, ↓reduceIte, hc, e1', hlx, ite_ne, z1] | refine Cut.go ?_ | refine Both.intro ?_ ?_ | refine place_call hx hl ?_ | refine rtext_call hn ?_ | (refine Br.intro ?_ ?_ <;> intro hb <;> have hb' := hb <;> (try simp only [SH] at hb') <;> (try simp -dsimp (maxSteps := 2000000) (disch := first | omega | (simp; done) | (simp; omega)) only [SA, SB, SC, SD, SE, SF, SG, Nat.reduceLT, Nat.reduceAdd, Nat.reduceSub, Nat.reduceMul, Nat.reduceLeDiff, Nat.reduceEqDiff, Nat.reduceBEq, Int.reduceToNat, Int.reduceLE, Int.reduceLT, Int.reduceEq, Int.reduceNeg, reduceCtorEq, ↓reduceIte, hb, hc, e1', hlx, ite_ne, z1]))))
      · refine gp_err 0 .nils hf (fun i hi => (by first | rfl | (simp (disch := omega) only [put_obj, alloc_obj, put_next, alloc_next, ite_ne]; done))) (by first | omega | (simp only [put_next, alloc_next]; omega)) ?_ rfl
        have : 64 ≤ l.length := by omega
        simp only [putR, setF, e2]
        rw [if_pos (by simpa using this)]
      · have hno : ¬ 64 ≤ l.length := by omega
        have hR : putR name n l = .ok (n, l ++ [⟨name, textF n⟩]) := by simp only [putR, setF, e2]; rw [if_neg (by simp [hno]), hput]
        have ha := append_one (s := ((σ.alloc (.cells [.int .i64 0, .nils, .int .i64 0])).alloc (.cells (flatV l))).alloc .tok) (j := σ.next + 1) (t := σ.next + 1 + 1) (l := l) (by omega) (by (try simp (disch := omega) only [put_obj, alloc_obj, put_next, alloc_next, ite_ne, if_true])) (by (try simp (disch := omega) only [put_obj, alloc_obj, put_next, alloc_next, ite_ne, if_true])) name (textF n)
        simp only [alloc_next] at ha
        (repeat' (first | simp -dsimp (maxSteps := 2000000) (disch := first | omega | (simp; done) | (simp; omega)) only [SA, SB, SC, SD, SE, SF, SG, Nat.reduceLT, Nat.reduceAdd, Nat.reduceSub, Nat.reduceMul, Nat.reduceLeDiff, Nat.reduceEqDiff, Nat.reduceBEq, Int.reduceToNat, Int.reduceLE, Int.reduceLT, Int.reduceEq, Int.reduceNeg, reduceCtorEq, ↓reduceIte, ha, ite_ne] | refine Cut.go ?_ | refine Both.intro ?_ ?_ | (refine Br.intro ?_ ?_ <;> intro hb <;> have hb' := hb <;> (try simp only [SH] at hb') <;> (try simp -dsimp (maxSteps := 2000000) (disch := first | omega | (simp; done) | (simp; omega)) only [SA, SB, SC, SD, SE, SF, SG, Nat.reduceLT, Nat.reduceAdd, Nat.reduceSub, Nat.reduceMul, Nat.reduceLeDiff, Nat.reduceEqDiff, Nat.reduceBEq, Int.reduceToNat, Int.reduceLE, Int.reduceLT, Int.reduceEq, Int.reduceNeg, reduceCtorEq, ↓reduceIte, hb, ha, ite_ne]))))
        have el : l.length + 1 = (l ++ [(⟨name, textF n⟩ : V)]).length := by simp
        rw [el]
        exact gp_ok hf (fun i hi => (by first | rfl | (simp (disch := omega) only [put_obj, alloc_obj, put_next, alloc_next, ite_ne]; done))) (by first | omega | (simp only [put_next, alloc_next]; omega)) hR (.vsome _ _ _ (by simp) (by (try simp (disch := omega) only [put_obj, alloc_obj, put_next, alloc_next, ite_ne, if_true])) (by (try simp (disch := omega) only [put_obj, alloc_obj, put_next, alloc_next, ite_ne, if_true]))) (fun j t len e => by cases e; omega)
    · have e1' : idxV name l 0 = (k : Int) := by rw [show (0 : Int) = ((0 : Nat) : Int) from rfl, e1]; simp
      have e4 : decide ((k : Int) ≥ 0) = true := by simp
      have hput := (putV_at name (textF n) l 0).2 k (by simpa using e1)
      have hR : putR name n l = .ok (n, l.set k ⟨(l.getD k default).name, textF n⟩) := by simp only [putR, setF, e2]; rw [if_neg (by simp), hput]
      have hix : ∀ j t, idxAddrS 2 (.rslc j 0 2 l.length (.opened t)) (.int .i64 k) = some (.ref j (2 * k)) := fun j t => idx_r hk
      have hst : ∀ j : Nat, stO (some (.cells (flatV l))) (some [.str (textF n)]) 1 j (2 * k + 1) = fun s => some (s.put j (some (.cells (flatV (l.set k ⟨(l.getD k default).name, textF n⟩))))) := fun j => by
        funext s
        rw [stO_some _ _ _ _ _ (by simp [flatV_len]; omega)]
        simp only [setAt, flatV_set l k (textF n) hk]
      simp -dsimp (maxSteps := 2000000) (disch := first | omega | (simp; done) | (simp; omega)) only [SA, SB, SC, SD, SE, SF, SG, Nat.reduceLT, Nat.reduceAdd, Nat.reduceSub, Nat.reduceMul, Nat.reduceLeDiff, Nat.reduceEqDiff, Nat.reduceBEq, Int.reduceToNat, Int.reduceLE, Int.reduceLT, Int.reduceEq, Int.reduceNeg, reduceCtorEq, ↓reduceIte, ic50, List.replicate_succ, List.replicate_zero]
      (repeat' (first | simp -dsimp (maxSteps := 2000000) (disch := first | omega | (simp; done) | (simp; omega)) only [SA, SB, SC, SD, SE, SF, SG, Nat.reduceLT, Nat.reduceAdd, Nat.reduceSub, Nat.reduceMul, Nat.reduceLeDiff, Nat.reduceEqDiff, Nat.reduceBEq, Int.reduceToNat, Int.reduceLE, Int.reduceLT, Int.reduceEq, Int.reduceNeg, reduceCtorEq, ↓reduceIte, hc, e1', e4, hlx, hix, hst, ite_ne] | refine Cut.go ?_ | refine Both.intro ?_ ?_ | refine place_call hx hl ?_ | refine rtext_call hn ?_ | (refine Br.intro ?_ ?_ <;> intro hb <;> have hb' := hb <;> (try simp only [SH] at hb') <;> (try simp -dsimp (maxSteps := 2000000) (disch := first | omega | (simp; done) | (simp; omega)) only [SA, SB, SC, SD, SE, SF, SG, Nat.reduceLT, Nat.reduceAdd, Nat.reduceSub, Nat.reduceMul, Nat.reduceLeDiff, Nat.reduceEqDiff, Nat.reduceBEq, Int.reduceToNat, Int.reduceLE, Int.reduceLT, Int.reduceEq, Int.reduceNeg, reduceCtorEq, ↓reduceIte, hb, hc, e1', e4, hlx, hix, hst, ite_ne]))))
      have el : l.length = (l.set k ⟨(l.getD k default).name, textF n⟩).length := by simp
      have hne2 : l.set k ⟨(l.getD k default).name, textF n⟩ ≠ [] := fun h => hne (by simpa using congrArg List.length h)
      rw [el]
      exact gp_ok hf (fun i hi => (by first | rfl | (simp (disch := omega) only [put_obj, alloc_obj, put_next, alloc_next, ite_ne]; done))) (by first | omega | (simp only [put_next, alloc_next]; omega)) hR (.vsome _ _ _ hne2 (by (try simp (disch := omega) only [put_obj, alloc_obj, put_next, alloc_next, ite_ne, if_true])) (by (try simp (disch := omega) only [put_obj, alloc_obj, put_next, alloc_next, ite_ne, if_true]))) (fun j t len e => by cases e; omega)
theorem rput_call {x : D} {l : List V} {name : List UInt8} {n : Int} {σ : St} {K : Out → St → Prop} (hx : Vd x l) (hl : l.length ≤ 64) (hn : I64 n)
    (hk : ∀ m, σ.next ≤ m → (∀ l', setF name n l = .ok l' → ∀ y, Vd y l' → K (.ret (.agg [.int .i64 n, y, .int .i64 0])) ⟨σ.obj, m⟩) ∧ (∀ e, setF name n l = .error e → ∀ n' y, scal y = true → K (.ret (.agg [.int .i64 n', y, .int .i64 e])) ⟨σ.obj, m⟩)) :
    goodFn Try.prog 50 = true ∧ Ok Try.prog 50 [x, .str name, .int .i64 n] σ K := by
  refine ⟨gd50, (put_ok2 hx hl name n hn σ).mono fun o s' ⟨m, h1, h2, h3⟩ => ?_⟩
  subst h2
  have hk := hk m h1
  unfold putR at h3
  cases hr : setF name n l with
  | ok l' => rw [hr] at h3; obtain ⟨y, h4, rfl⟩ := h3; exact hk.1 l' hr y h4
  | error e => rw [hr] at h3; obtain ⟨n', y, h4, rfl⟩ := h3; exact hk.2 e hr n' y h4
theorem Vd.dc {y : D} {l : List V} (h : Vd y l) : dcells y = some [y] := by cases h <;> rfl
theorem Vd.scal {y : D} {l : List V} (h : Vd y l) : Go.Id.scal y = true := by cases h <;> rfl
theorem truth_ok (b : Bool) (σ : St) : Ok Try.prog 51 [.bool b] σ (fun o s => s = σ ∧ o = .ret (.int .i64 (flagI b))) := by
  apply en51
  simp -dsimp (maxSteps := 2000000) (disch := first | omega | (simp; done) | (simp; omega)) only [SA, SB, SC, SD, SE, SF, SG, Nat.reduceLT, Nat.reduceAdd, Nat.reduceSub, Nat.reduceMul, Nat.reduceLeDiff, Nat.reduceEqDiff, Nat.reduceBEq, Int.reduceToNat, Int.reduceLE, Int.reduceLT, Int.reduceEq, Int.reduceNeg, reduceCtorEq, ↓reduceIte, ic51, List.replicate_succ, List.replicate_zero]
  (repeat' (first | simp -dsimp (maxSteps := 2000000) (disch := first | omega | (simp; done) | (simp; omega)) only [SA, SB, SC, SD, SE, SF, SG, Nat.reduceLT, Nat.reduceAdd, Nat.reduceSub, Nat.reduceMul, Nat.reduceLeDiff, Nat.reduceEqDiff, Nat.reduceBEq, Int.reduceToNat, Int.reduceLE, Int.reduceLT, Int.reduceEq, Int.reduceNeg, reduceCtorEq, ↓reduceIte] | refine Cut.go ?_ | refine Both.intro ?_ ?_ | (refine Br.intro ?_ ?_ <;> intro hb <;> have hb' := hb <;> (try simp only [SH] at hb') <;> (try simp -dsimp (maxSteps := 2000000) (disch := first | omega | (simp; done) | (simp; omega)) only [SA, SB, SC, SD, SE, SF, SG, Nat.reduceLT, Nat.reduceAdd, Nat.reduceSub, Nat.reduceMul, Nat.reduceLeDiff, Nat.reduceEqDiff, Nat.reduceBEq, Int.reduceToNat, Int.reduceLE, Int.reduceLT, Int.reduceEq, Int.reduceNeg, reduceCtorEq, ↓reduceIte, hb]))))
  all_goals simp_all [flagI]
theorem truth_call {b : Bool} {σ : St} {K : Out → St → Prop} (hk : K (.ret (.int .i64 (flagI b))) σ) : goodFn Try.prog 51 = true ∧ Ok Try.prog 51 [.bool b] σ K := pass gd51 (truth_ok b σ) hk
end Go.Proofs.Ytkjgadanaknleaa
