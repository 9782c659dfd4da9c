/-
  THE WALKS, PART 47: the document reads levels, and what stands alone.
-/
import Derived.Test.YtkjgadanaknleaaY6
namespace Go.Proofs.Ytkjgadanaknleaa
open Go Go.Id
set_option linter.unusedSimpArgs false
set_option linter.unusedVariables false
set_option maxRecDepth 100000
set_option maxHeartbeats 4000000

theorem level_top (s : List UInt8) : levelOf s ≤ 10 := by
  unfold levelOf
  repeat' (first | omega | split)
theorem bin_top (l : List Tok) (d : Int) : binE 11 l d = unE l d := by
  rw [binE_eq]
  cases h : unE l d with
  | error e => rfl
  | ok x =>
    have := level_top (nextOf x.rest)
    simp only []
    rw [loopE_stop (by omega)]
theorem lv_len (k : Nat) : (lvls.getD k default).length ≤ 100 := by
  by_cases h : k < 10
  · have : ∀ k < 10, (lvls.getD k default).length ≤ 100 := by decide
    exact this k h
  · have hl : lvls.length = 10 := rfl
    rw [List.getD_eq_getElem?_getD, List.getElem?_eq_none (by omega)]; decide
theorem lvD_dc (l : List (List UInt8)) : dcells (lvD l) = some [lvD l] := rfl
def zeroR : Ob := .cells [.str [], .str [], .int .i64 0, .nils, .int .i64 0, .int .i64 0]
def rdCells (x : Nd) (p : Nat) : List D := [.str x.tok.sign, .str x.tok.name, .int .i64 x.tok.n, x.kids, .int .i64 p, .int .i64 0]
structure LevS where
  x : Rd
  p : Nat
  n : Nat
theorem drops_lev {σ : St} {n1 n2 : Nat} {x : Nd} {p : Nat} {s : St} (hf : σ.Fresh) (h1 : σ.next + 1 ≤ n1) (h2 : n1 + 1 ≤ n2) (hn : s.next ≤ n2 + 1)
    (hc : s.obj n1 = some (.cells (rdCells x p))) (ho : ∀ i, i ≠ n1 → i ≠ n2 → s.obj i = (σ.alloc zeroR).obj i) : Drops s ((⟨(σ.alloc zeroR).obj, n2 + 1⟩ : St).put n1 (some (.cells (rdCells x p)))) := by
  refine ⟨hn, fun i => ?_⟩
  rw [put_obj]
  by_cases h : i = n1
  · subst h; right; rw [if_pos rfl, hc]
  · rw [if_neg h]
    by_cases h3 : i = n2
    · left; subst h3
      show (σ.alloc zeroR).obj i = none
      rw [alloc_obj, if_neg (by omega)]; exact hf _ (by omega)
    · right; exact (ho i h h3).symm

theorem drops_put {o : Nat → Option Ob} {n : Nat} {c : Ob} {x : Option Ob} : Drops (((⟨o, n⟩ : St).alloc c).put n x) ((⟨o, n + 1⟩ : St).put n x) := by
  refine ⟨Nat.le_refl _, fun i => ?_⟩
  right
  rw [put_obj, put_obj]
  by_cases h : i = n
  · rw [if_pos h, if_pos h]
  · rw [if_neg h, if_neg h, alloc_obj, if_neg h]
theorem level_walk (l : List Tok) (i k : Nat) (nest : Int) (hl : l.length ≤ 9000) (hi : i ≤ l.length) (hk : k ≤ 10)
    (hun : k = 10 → Reads 78 [.int .i64 nest] (unE (l.drop i) nest) l i)
    (hlev : ∀ i', i ≤ i' → i' ≤ l.length → k < 10 → Reads 65 [.int .i64 ((k : Int) + 1), .int .i64 nest] (binE (k + 2) (l.drop i') nest) l i') : Reads 65 [.int .i64 k, .int .i64 nest] (binE (k + 1) (l.drop i) nest) l i := by
  intro r σ
  refine Ok.fresh fun hf => Ok.drop ?_
  apply en65
  have hll : lvls.length = 10 := rfl
  have hk1 : (k : Int) + 1 = ((k + 1 : Nat) : Int) := by omega
  simp -dsimp (maxSteps := 2000000) (disch := first | omega | (simp; done) | (simp; omega)) only [SA, SB, SC, SD, SE, SF, SG, Nat.reduceLT, Nat.reduceAdd, Nat.reduceSub, Nat.reduceMul, Nat.reduceLeDiff, Nat.reduceEqDiff, Nat.reduceBEq, Int.reduceToNat, Int.reduceLE, Int.reduceLT, Int.reduceEq, Int.reduceNeg, reduceCtorEq, ↓reduceIte, ic65, List.replicate_succ, List.replicate_zero]
  (repeat' (first | simp -dsimp (maxSteps := 2000000) (disch := first | omega | (simp; done) | (simp; omega)) only [SA, SB, SC, SD, SE, SF, SG, Nat.reduceLT, Nat.reduceAdd, Nat.reduceSub, Nat.reduceMul, Nat.reduceLeDiff, Nat.reduceEqDiff, Nat.reduceBEq, Int.reduceToNat, Int.reduceLE, Int.reduceLT, Int.reduceEq, Int.reduceNeg, reduceCtorEq, ↓reduceIte, List.length_map, hll] | refine Cut.go ?_ | refine Both.intro ?_ ?_ | refine levels_call ?_ | (refine Br.intro ?_ ?_ <;> intro hb <;> have hb' := hb <;> (try simp only [SH] at hb') <;> (try simp -dsimp (maxSteps := 2000000) (disch := first | omega | (simp; done) | (simp; omega)) only [SA, SB, SC, SD, SE, SF, SG, Nat.reduceLT, Nat.reduceAdd, Nat.reduceSub, Nat.reduceMul, Nat.reduceLeDiff, Nat.reduceEqDiff, Nat.reduceBEq, Int.reduceToNat, Int.reduceLE, Int.reduceLT, Int.reduceEq, Int.reduceNeg, reduceCtorEq, ↓reduceIte, hb, List.length_map, hll]))))
  · have hk2 : k = 10 := by omega
    subst hk2
    refine (hun rfl).call gd78 fun n hn => ⟨fun x hx p hp hr => ?_, fun e he t k at' hk => ?_⟩
    · rw [alloc_next] at hn
      (repeat' (first | simp -dsimp (maxSteps := 2000000) (disch := first | omega | (simp; done) | (simp; omega)) only [SA, SB, SC, SD, SE, SF, SG, Nat.reduceLT, Nat.reduceAdd, Nat.reduceSub, Nat.reduceMul, Nat.reduceLeDiff, Nat.reduceEqDiff, Nat.reduceBEq, Int.reduceToNat, Int.reduceLE, Int.reduceLT, Int.reduceEq, Int.reduceNeg, reduceCtorEq, ↓reduceIte, readD, ite_ne, kids_sc] | refine Cut.go ?_ | refine Both.intro ?_ ?_ | (refine Br.intro ?_ ?_ <;> intro hb <;> have hb' := hb <;> (try simp only [SH] at hb') <;> (try simp -dsimp (maxSteps := 2000000) (disch := first | omega | (simp; done) | (simp; omega)) only [SA, SB, SC, SD, SE, SF, SG, Nat.reduceLT, Nat.reduceAdd, Nat.reduceSub, Nat.reduceMul, Nat.reduceLeDiff, Nat.reduceEqDiff, Nat.reduceBEq, Int.reduceToNat, Int.reduceLE, Int.reduceLT, Int.reduceEq, Int.reduceNeg, reduceCtorEq, ↓reduceIte, hb, readD, ite_ne, kids_sc]))))
      exact rp_ok x p hp hr hf (fun j hj => (by first | rfl | (simp (disch := omega) only [put_obj, alloc_obj, put_next, alloc_next, ite_ne]; done))) (by first | omega | (simp only [put_next, alloc_next]; omega)) ((bin_top _ _).trans hx) rfl
    · rw [alloc_next] at hn
      (repeat' (first | simp -dsimp (maxSteps := 2000000) (disch := first | omega | (simp; done) | (simp; omega)) only [SA, SB, SC, SD, SE, SF, SG, Nat.reduceLT, Nat.reduceAdd, Nat.reduceSub, Nat.reduceMul, Nat.reduceLeDiff, Nat.reduceEqDiff, Nat.reduceBEq, Int.reduceToNat, Int.reduceLE, Int.reduceLT, Int.reduceEq, Int.reduceNeg, reduceCtorEq, ↓reduceIte, readD, ite_ne, hk] | refine Cut.go ?_ | refine Both.intro ?_ ?_ | (refine Br.intro ?_ ?_ <;> intro hb <;> have hb' := hb <;> (try simp only [SH] at hb') <;> (try simp -dsimp (maxSteps := 2000000) (disch := first | omega | (simp; done) | (simp; omega)) only [SA, SB, SC, SD, SE, SF, SG, Nat.reduceLT, Nat.reduceAdd, Nat.reduceSub, Nat.reduceMul, Nat.reduceLeDiff, Nat.reduceEqDiff, Nat.reduceBEq, Int.reduceToNat, Int.reduceLE, Int.reduceLT, Int.reduceEq, Int.reduceNeg, reduceCtorEq, ↓reduceIte, hb, readD, ite_ne, hk]))))
      exact rp_err t k at' hf (fun j hj => (by first | rfl | (simp (disch := omega) only [put_obj, alloc_obj, put_next, alloc_next, ite_ne]; done))) (by first | omega | (simp only [put_next, alloc_next]; omega)) ((bin_top _ _).trans he) hk rfl
  have hk2 : k < 10 := by omega
  have hsp := binE_split ((k : Int) + 1) (l.drop i) nest
  rw [show (k : Int) + 1 + 1 = (k : Int) + 2 by omega] at hsp
  refine (hlev i (Nat.le_refl _) hi hk2).call gd65 fun n1 hn1 => ⟨fun x hx p hp hr => ?_, fun e he t kk at' hkk => ?_⟩
  rotate_left
  · rw [alloc_next] at hn1
    have hne : (e == 0) = false := by simpa using binE_nz he
    simp -dsimp (maxSteps := 2000000) (disch := first | omega | (simp; done) | (simp; omega)) only [SA, SB, SC, SD, SE, SF, SG, Nat.reduceLT, Nat.reduceAdd, Nat.reduceSub, Nat.reduceMul, Nat.reduceLeDiff, Nat.reduceEqDiff, Nat.reduceBEq, Int.reduceToNat, Int.reduceLE, Int.reduceLT, Int.reduceEq, Int.reduceNeg, reduceCtorEq, ↓reduceIte, readD, ite_ne, hkk]
    (repeat' (first | simp -dsimp (maxSteps := 2000000) (disch := first | omega | (simp; done) | (simp; omega)) only [SA, SB, SC, SD, SE, SF, SG, Nat.reduceLT, Nat.reduceAdd, Nat.reduceSub, Nat.reduceMul, Nat.reduceLeDiff, Nat.reduceEqDiff, Nat.reduceBEq, Int.reduceToNat, Int.reduceLE, Int.reduceLT, Int.reduceEq, Int.reduceNeg, reduceCtorEq, ↓reduceIte, readD, ite_ne, hkk] | refine Cut.go ?_ | refine Both.intro ?_ ?_ | (refine Br.intro ?_ ?_ <;> intro hb <;> have hb' := hb <;> (try simp only [SH] at hb') <;> (try simp -dsimp (maxSteps := 2000000) (disch := first | omega | (simp; done) | (simp; omega)) only [SA, SB, SC, SD, SE, SF, SG, Nat.reduceLT, Nat.reduceAdd, Nat.reduceSub, Nat.reduceMul, Nat.reduceLeDiff, Nat.reduceEqDiff, Nat.reduceBEq, Int.reduceToNat, Int.reduceLE, Int.reduceLT, Int.reduceEq, Int.reduceNeg, reduceCtorEq, ↓reduceIte, hb, readD, ite_ne, hkk]))))
    refine loop_go (α := Unit) (fun _ => [.junk, .junk, .junk, .junk, .junk, .junk, .junk, .junk, .ref σ.next 0, .ref n1 0] ++ List.replicate 56 .junk) (fun _ => ((⟨(σ.alloc zeroR).obj, n1 + 1⟩ : St).put n1 (some (.cells [.str t.sign, .str t.name, .int .i64 t.n, kk, .int .i64 at', .int .i64 e])))) (fun _ => 0) (fun _ => True) () trivial (by ((try simp only [List.replicate_succ, List.replicate_zero, List.cons_append, List.nil_append]); repeat' (first | exact trivial | refine ⟨.inl rfl, ?_⟩ | refine ⟨.inr rfl, ?_⟩ | refine ⟨.inr (by simp), ?_⟩))) ?_ ?_
    · exact drops_put
    · rintro _ _
      simp -dsimp (maxSteps := 2000000) (disch := first | omega | (simp; done) | (simp; omega)) only [SA, SB, SC, SD, SE, SF, SG, Nat.reduceLT, Nat.reduceAdd, Nat.reduceSub, Nat.reduceMul, Nat.reduceLeDiff, Nat.reduceEqDiff, Nat.reduceBEq, Int.reduceToNat, Int.reduceLE, Int.reduceLT, Int.reduceEq, Int.reduceNeg, reduceCtorEq, ↓reduceIte, List.replicate_succ, List.replicate_zero]
      (repeat' (first | simp -dsimp (maxSteps := 2000000) (disch := first | omega | (simp; done) | (simp; omega)) only [SA, SB, SC, SD, SE, SF, SG, Nat.reduceLT, Nat.reduceAdd, Nat.reduceSub, Nat.reduceMul, Nat.reduceLeDiff, Nat.reduceEqDiff, Nat.reduceBEq, Int.reduceToNat, Int.reduceLE, Int.reduceLT, Int.reduceEq, Int.reduceNeg, reduceCtorEq, ↓reduceIte, ite_ne, hkk, hne] | refine Cut.go ?_ | refine Both.intro ?_ ?_ | (refine Br.intro ?_ ?_ <;> intro hb <;> have hb' := hb <;> (try simp only [SH] at hb') <;> (try simp -dsimp (maxSteps := 2000000) (disch := first | omega | (simp; done) | (simp; omega)) only [SA, SB, SC, SD, SE, SF, SG, Nat.reduceLT, Nat.reduceAdd, Nat.reduceSub, Nat.reduceMul, Nat.reduceLeDiff, Nat.reduceEqDiff, Nat.reduceBEq, Int.reduceToNat, Int.reduceLE, Int.reduceLT, Int.reduceEq, Int.reduceNeg, reduceCtorEq, ↓reduceIte, hb, ite_ne, hkk, hne]))))
      exact rp_err t kk at' hf (fun j hj => (by first | rfl | (simp (disch := omega) only [put_obj, alloc_obj, put_next, alloc_next, ite_ne]; done))) (by first | omega | (simp only [put_next, alloc_next]; omega)) (by rw [hsp, he]) hkk rfl
  rw [alloc_next] at hn1
  rw [hx] at hsp
  have hip := sub_at (binE_sub hx) hp hr
  have hlt := binE_next hx
  simp -dsimp (maxSteps := 2000000) (disch := first | omega | (simp; done) | (simp; omega)) only [SA, SB, SC, SD, SE, SF, SG, Nat.reduceLT, Nat.reduceAdd, Nat.reduceSub, Nat.reduceMul, Nat.reduceLeDiff, Nat.reduceEqDiff, Nat.reduceBEq, Int.reduceToNat, Int.reduceLE, Int.reduceLT, Int.reduceEq, Int.reduceNeg, reduceCtorEq, ↓reduceIte, readD, ite_ne, kids_sc]
  (repeat' (first | simp -dsimp (maxSteps := 2000000) (disch := first | omega | (simp; done) | (simp; omega)) only [SA, SB, SC, SD, SE, SF, SG, Nat.reduceLT, Nat.reduceAdd, Nat.reduceSub, Nat.reduceMul, Nat.reduceLeDiff, Nat.reduceEqDiff, Nat.reduceBEq, Int.reduceToNat, Int.reduceLE, Int.reduceLT, Int.reduceEq, Int.reduceNeg, reduceCtorEq, ↓reduceIte, readD, ite_ne, kids_sc] | refine Cut.go ?_ | refine Both.intro ?_ ?_ | (refine Br.intro ?_ ?_ <;> intro hb <;> have hb' := hb <;> (try simp only [SH] at hb') <;> (try simp -dsimp (maxSteps := 2000000) (disch := first | omega | (simp; done) | (simp; omega)) only [SA, SB, SC, SD, SE, SF, SG, Nat.reduceLT, Nat.reduceAdd, Nat.reduceSub, Nat.reduceMul, Nat.reduceLeDiff, Nat.reduceEqDiff, Nat.reduceBEq, Int.reduceToNat, Int.reduceLE, Int.reduceLT, Int.reduceEq, Int.reduceNeg, reduceCtorEq, ↓reduceIte, hb, readD, ite_ne, kids_sc]))))
  refine loop_go (α := LevS) (fun a => [.slc 3 (l.map Tok.d) r, .junk, .int .i64 k, .int .i64 nest, .junk, .junk, .junk, .junk, .ref σ.next 0, .ref n1 0] ++ List.replicate 56 .junk) (fun a => ((⟨(σ.alloc zeroR).obj, a.n⟩ : St).put n1 (some (.cells (rdCells a.x.nd a.p))))) (fun a => l.length - a.p)
    (fun a => a.p ≤ l.length ∧ l.drop a.p = a.x.rest ∧ i < a.p ∧ binE (k + 1) (l.drop i) nest = loopE (k + 1) a.x nest ∧ n1 + 1 ≤ a.n ∧ levelOf (nextOf a.x.rest) < k + 2) ⟨x, p, n1 + 1⟩ ⟨hp, hr, hip, hsp, Nat.le_refl _, hlt⟩ (by ((try simp only [List.replicate_succ, List.replicate_zero, List.cons_append, List.nil_append]); repeat' (first | exact trivial | refine ⟨.inl rfl, ?_⟩ | refine ⟨.inr rfl, ?_⟩ | refine ⟨.inr (by simp), ?_⟩))) drops_put ?_
  rintro ⟨⟨nd, rest⟩, p, n⟩ ⟨i1, i2, i3, i4, i5, i6⟩
  simp only [] at i1 i2 i3 i4 i5 i6 ⊢
  have z0 : ((0 : Int) == 0) = true := rfl
  have z1 : ((0 : Int) != 0) = false := rfl
  have hp1 : (p : Int) + 1 = ((p + 1 : Nat) : Int) := by omega
  have hat := level_at (s := nextOf (l.drop p)) hk2
  simp -dsimp (maxSteps := 2000000) (disch := first | omega | (simp; done) | (simp; omega)) only [SA, SB, SC, SD, SE, SF, SG, Nat.reduceLT, Nat.reduceAdd, Nat.reduceSub, Nat.reduceMul, Nat.reduceLeDiff, Nat.reduceEqDiff, Nat.reduceBEq, Int.reduceToNat, Int.reduceLE, Int.reduceLT, Int.reduceEq, Int.reduceNeg, reduceCtorEq, ↓reduceIte, List.replicate_succ, List.replicate_zero]
  (repeat' (first | simp -dsimp (maxSteps := 2000000) (disch := first | omega | (simp; done) | (simp; omega)) only [SA, SB, SC, SD, SE, SF, SG, Nat.reduceLT, Nat.reduceAdd, Nat.reduceSub, Nat.reduceMul, Nat.reduceLeDiff, Nat.reduceEqDiff, Nat.reduceBEq, Int.reduceToNat, Int.reduceLE, Int.reduceLT, Int.reduceEq, Int.reduceNeg, reduceCtorEq, ↓reduceIte, rdCells, ite_ne, kids_sc, z0, z1, hp1, lvD_dc, List.length_map, hll] | refine Cut.go ?_ | refine Both.intro ?_ ?_ | refine rsign_call (by omega) ?_ | refine levels_call ?_ | refine one_call (lvls.getD k default) (lv_len k) ?_ | (refine Br.intro ?_ ?_ <;> intro hb <;> have hb' := hb <;> (try simp only [SH] at hb') <;> (try simp -dsimp (maxSteps := 2000000) (disch := first | omega | (simp; done) | (simp; omega)) only [SA, SB, SC, SD, SE, SF, SG, Nat.reduceLT, Nat.reduceAdd, Nat.reduceSub, Nat.reduceMul, Nat.reduceLeDiff, Nat.reduceEqDiff, Nat.reduceBEq, Int.reduceToNat, Int.reduceLE, Int.reduceLT, Int.reduceEq, Int.reduceNeg, reduceCtorEq, ↓reduceIte, hb, rdCells, ite_ne, kids_sc, z0, z1, hp1, lvD_dc, List.length_map, hll]))))
  rotate_left
  · have hb2 := hat.symm.trans hb
    rw [decide_eq_false_iff_not, i2] at hb2
    exact rp_ok ⟨nd, rest⟩ p i1 i2 hf (fun j hj => by simp (disch := omega) only [put_obj, ite_ne]; exact old_alloc hj (Nat.le_refl _)) (by first | omega | (simp only [put_next, alloc_next]; omega)) (by rw [i4]; exact loopE_stop (by simp only []; omega)) rfl
  have hb2 := hat.symm.trans hb
  rw [decide_eq_true_eq] at hb2
  obtain ⟨k1, k2, k3⟩ := next_cons (l := l) (p := p) (s := nextOf (l.drop p)) (fun h0 => by
    have : levelOf [] = 0 := by decide
    rw [h0, this] at hb2; omega) rfl
  rw [← k2] at hb2
  rw [i2] at k3
  have hgo := loopE_go (k := (k : Int) + 1) (nd := nd) (q := l.getD p default) (r := l.drop (p + 1)) (d := nest) (by omega)
  rw [← k3, hb2, show (k : Int) + 1 + 1 = (k : Int) + 2 by omega] at hgo
  refine (hlev (p + 1) (by omega) (by omega) hk2).call gd65 fun n2 hn2 => ⟨fun y hy p2 hp2 hr2 => ?_, fun e he t kk at' hkk => ?_⟩
  · simp only [put_next, alloc_next] at hn2
    have hip2 := sub_at (binE_sub hy) hp2 hr2
    have hlt2 := binE_next hy
    rw [hy] at hgo
    (repeat' (first | simp -dsimp (maxSteps := 2000000) (disch := first | omega | (simp; done) | (simp; omega)) only [SA, SB, SC, SD, SE, SF, SG, Nat.reduceLT, Nat.reduceAdd, Nat.reduceSub, Nat.reduceMul, Nat.reduceLeDiff, Nat.reduceEqDiff, Nat.reduceBEq, Int.reduceToNat, Int.reduceLE, Int.reduceLT, Int.reduceEq, Int.reduceNeg, reduceCtorEq, ↓reduceIte, readD, ite_ne, kids_sc, z1, Tok.d] | refine Cut.go ?_ | refine Both.intro ?_ ?_ | (refine Br.intro ?_ ?_ <;> intro hb <;> have hb' := hb <;> (try simp only [SH] at hb') <;> (try simp -dsimp (maxSteps := 2000000) (disch := first | omega | (simp; done) | (simp; omega)) only [SA, SB, SC, SD, SE, SF, SG, Nat.reduceLT, Nat.reduceAdd, Nat.reduceSub, Nat.reduceMul, Nat.reduceLeDiff, Nat.reduceEqDiff, Nat.reduceBEq, Int.reduceToNat, Int.reduceLE, Int.reduceLT, Int.reduceEq, Int.reduceNeg, reduceCtorEq, ↓reduceIte, hb, readD, ite_ne, kids_sc, z1, Tok.d]))))
    refine Round.go ⟨⟨.two (l.getD p default) nd y.nd, y.rest⟩, p2, n2 + 1⟩ (by show l.length - p2 < l.length - p; omega) ⟨hp2, hr2, by show i < p2; omega, by rw [i4]; exact hgo, by show n1 + 1 ≤ n2 + 1; omega, hlt2⟩ (by ((try simp only [List.replicate_succ, List.replicate_zero, List.cons_append, List.nil_append]); repeat' (first | exact trivial | refine ⟨.inl rfl, ?_⟩ | refine ⟨.inr rfl, ?_⟩ | refine ⟨.inr (by simp), ?_⟩))) ?_
    refine drops_lev (n2 := n2) hf hn1 (by omega) (by first | omega | (simp only [put_next, alloc_next]; omega)) ?_ fun j j1 j2 => ?_
    · simp only [put_obj, if_true]; rfl
    · simp (disch := omega) only [put_obj, alloc_obj, put_next, ite_ne]
  · simp only [put_next, alloc_next] at hn2
    have hne : (e != 0) = true := by simpa using binE_nz he
    rw [he] at hgo
    (repeat' (first | simp -dsimp (maxSteps := 2000000) (disch := first | omega | (simp; done) | (simp; omega)) only [SA, SB, SC, SD, SE, SF, SG, Nat.reduceLT, Nat.reduceAdd, Nat.reduceSub, Nat.reduceMul, Nat.reduceLeDiff, Nat.reduceEqDiff, Nat.reduceBEq, Int.reduceToNat, Int.reduceLE, Int.reduceLT, Int.reduceEq, Int.reduceNeg, reduceCtorEq, ↓reduceIte, readD, ite_ne, hkk, hne] | refine Cut.go ?_ | refine Both.intro ?_ ?_ | (refine Br.intro ?_ ?_ <;> intro hb <;> have hb' := hb <;> (try simp only [SH] at hb') <;> (try simp -dsimp (maxSteps := 2000000) (disch := first | omega | (simp; done) | (simp; omega)) only [SA, SB, SC, SD, SE, SF, SG, Nat.reduceLT, Nat.reduceAdd, Nat.reduceSub, Nat.reduceMul, Nat.reduceLeDiff, Nat.reduceEqDiff, Nat.reduceBEq, Int.reduceToNat, Int.reduceLE, Int.reduceLT, Int.reduceEq, Int.reduceNeg, reduceCtorEq, ↓reduceIte, hb, readD, ite_ne, hkk, hne]))))
    exact rp_err t kk at' hf (fun j hj => by simp (disch := omega) only [put_obj, alloc_obj, put_next, ite_ne]) (by first | omega | (simp only [put_next, alloc_next]; omega)) (by rw [i4]; exact hgo) hkk rfl
theorem un_nil {l : List Tok} {i : Nat} {d : Int} (h : l.length ≤ i) (hd : ¬ d + 1 > 65) : unE (l.drop i) d = .error 61 := by
  rw [List.drop_eq_nil_of_le h]; exact unE_nil hd
theorem unary_walk (l : List Tok) (i : Nat) (nest : Int) (hl : l.length ≤ 9000) (hi : i ≤ l.length) (hn0 : 0 ≤ nest ∧ nest ≤ 65)
    (hun : ∀ i', i < i' → i' ≤ l.length → nest ≤ 64 → Reads 78 [.int .i64 (nest + 1)] (unE (l.drop i') (nest + 1)) l i')
    (hall : ∀ i', i < i' → i' ≤ l.length → nest ≤ 64 → Reads 23 [.int .i64 (nest + 1)] (exprE (l.drop i') (nest + 1)) l i') : Reads 78 [.int .i64 nest] (unE (l.drop i) nest) l i := by
  intro r σ
  refine Ok.fresh fun hf => Ok.drop ?_
  apply en78
  have hi1 : (i : Int) + 1 = ((i + 1 : Nat) : Int) := by omega
  simp -dsimp (maxSteps := 2000000) (disch := first | omega | (simp; done) | (simp; omega)) only [SA, SB, SC, SD, SE, SF, SG, Nat.reduceLT, Nat.reduceAdd, Nat.reduceSub, Nat.reduceMul, Nat.reduceLeDiff, Nat.reduceEqDiff, Nat.reduceBEq, Int.reduceToNat, Int.reduceLE, Int.reduceLT, Int.reduceEq, Int.reduceNeg, reduceCtorEq, ↓reduceIte, ic78, List.replicate_succ, List.replicate_zero]
  (repeat' (first | simp -dsimp (maxSteps := 2000000) (disch := first | omega | (simp; done) | (simp; omega)) only [SA, SB, SC, SD, SE, SF, SG, Nat.reduceLT, Nat.reduceAdd, Nat.reduceSub, Nat.reduceMul, Nat.reduceLeDiff, Nat.reduceEqDiff, Nat.reduceBEq, Int.reduceToNat, Int.reduceLE, Int.reduceLT, Int.reduceEq, Int.reduceNeg, reduceCtorEq, ↓reduceIte, hi1, Tok.d, ite_ne] | refine Cut.go ?_ | refine Both.intro ?_ ?_ | refine one_call [[43], [45], [33], [126]] (by decide) ?_ | (refine Br.intro ?_ ?_ <;> intro hb <;> have hb' := hb <;> (try simp only [SH] at hb') <;> (try simp -dsimp (maxSteps := 2000000) (disch := first | omega | (simp; done) | (simp; omega)) only [SA, SB, SC, SD, SE, SF, SG, Nat.reduceLT, Nat.reduceAdd, Nat.reduceSub, Nat.reduceMul, Nat.reduceLeDiff, Nat.reduceEqDiff, Nat.reduceBEq, Int.reduceToNat, Int.reduceLE, Int.reduceLT, Int.reduceEq, Int.reduceNeg, reduceCtorEq, ↓reduceIte, hb, hi1, Tok.d, ite_ne]))))
  · exact rp_err ⟨[], [], 0⟩ .nils 0 hf (fun j hj => (by first | rfl | (simp (disch := omega) only [put_obj, alloc_obj, put_next, alloc_next, ite_ne]; done))) (by first | omega | (simp only [put_next, alloc_next]; omega)) (unE_deep (by omega)) rfl rfl
  · exact rp_err ⟨[], [], 0⟩ .nils 0 hf (fun j hj => (by first | rfl | (simp (disch := omega) only [put_obj, alloc_obj, put_next, alloc_next, ite_ne]; done))) (by first | omega | (simp only [put_next, alloc_next]; omega)) (un_nil (by omega) (by omega)) rfl rfl
  all_goals
    have hil : i < l.length := by omega
    have hx := unE_cons (a := l.getD i default) (r := l.drop (i + 1)) (d := nest) (by omega)
    rw [← drop_tok hil] at hx
  · rw [if_pos hb] at hx
    exact rp_ok ⟨.leaf (l.getD i default), l.drop (i + 1)⟩ (i + 1) hil rfl hf (fun j hj => (by first | rfl | (simp (disch := omega) only [put_obj, alloc_obj, put_next, alloc_next, ite_ne]; done))) (by first | omega | (simp only [put_next, alloc_next]; omega)) hx rfl
  · have hb2 := hb
    rw [sgn_list] at hb2
    rename_i q1 _
    rw [if_neg (by rw [q1]; decide), if_pos hb2] at hx
    refine (hun (i + 1) (by omega) hil (by omega)).call gd78 fun n hn => ⟨fun y hy p hp hr => ?_, fun e he t k at' hk => ?_⟩
    · rw [alloc_next] at hn
      rw [hy] at hx
      have z1 : ((0 : Int) != 0) = false := rfl
      (repeat' (first | simp -dsimp (maxSteps := 2000000) (disch := first | omega | (simp; done) | (simp; omega)) only [SA, SB, SC, SD, SE, SF, SG, Nat.reduceLT, Nat.reduceAdd, Nat.reduceSub, Nat.reduceMul, Nat.reduceLeDiff, Nat.reduceEqDiff, Nat.reduceBEq, Int.reduceToNat, Int.reduceLE, Int.reduceLT, Int.reduceEq, Int.reduceNeg, reduceCtorEq, ↓reduceIte, readD, ite_ne, kids_sc, z1, Tok.d] | refine Cut.go ?_ | refine Both.intro ?_ ?_ | (refine Br.intro ?_ ?_ <;> intro hb <;> have hb' := hb <;> (try simp only [SH] at hb') <;> (try simp -dsimp (maxSteps := 2000000) (disch := first | omega | (simp; done) | (simp; omega)) only [SA, SB, SC, SD, SE, SF, SG, Nat.reduceLT, Nat.reduceAdd, Nat.reduceSub, Nat.reduceMul, Nat.reduceLeDiff, Nat.reduceEqDiff, Nat.reduceBEq, Int.reduceToNat, Int.reduceLE, Int.reduceLT, Int.reduceEq, Int.reduceNeg, reduceCtorEq, ↓reduceIte, hb, readD, ite_ne, kids_sc, z1, Tok.d]))))
      exact rp_ok ⟨.one (l.getD i default) y.nd, y.rest⟩ p hp hr hf (fun j hj => (by first | rfl | (simp (disch := omega) only [put_obj, alloc_obj, put_next, alloc_next, ite_ne]; done))) (by first | omega | (simp only [put_next, alloc_next]; omega)) hx rfl
    · rw [alloc_next] at hn
      rw [he] at hx
      have hne : (e != 0) = true := by simpa using unE_nz he
      (repeat' (first | simp -dsimp (maxSteps := 2000000) (disch := first | omega | (simp; done) | (simp; omega)) only [SA, SB, SC, SD, SE, SF, SG, Nat.reduceLT, Nat.reduceAdd, Nat.reduceSub, Nat.reduceMul, Nat.reduceLeDiff, Nat.reduceEqDiff, Nat.reduceBEq, Int.reduceToNat, Int.reduceLE, Int.reduceLT, Int.reduceEq, Int.reduceNeg, reduceCtorEq, ↓reduceIte, readD, ite_ne, hk, hne] | refine Cut.go ?_ | refine Both.intro ?_ ?_ | (refine Br.intro ?_ ?_ <;> intro hb <;> have hb' := hb <;> (try simp only [SH] at hb') <;> (try simp -dsimp (maxSteps := 2000000) (disch := first | omega | (simp; done) | (simp; omega)) only [SA, SB, SC, SD, SE, SF, SG, Nat.reduceLT, Nat.reduceAdd, Nat.reduceSub, Nat.reduceMul, Nat.reduceLeDiff, Nat.reduceEqDiff, Nat.reduceBEq, Int.reduceToNat, Int.reduceLE, Int.reduceLT, Int.reduceEq, Int.reduceNeg, reduceCtorEq, ↓reduceIte, hb, readD, ite_ne, hk, hne]))))
      exact rp_err t k at' hf (fun j hj => (by first | rfl | (simp (disch := omega) only [put_obj, alloc_obj, put_next, alloc_next, ite_ne]; done))) (by first | omega | (simp only [put_next, alloc_next]; omega)) hx hk rfl
  all_goals
    rename_i q1 q2 q3 q4
    rw [sgn_list] at q3
    rw [if_neg (by rw [q1]; decide), if_neg (by rw [q3]; decide)] at hx
  · rw [if_pos hb] at hx
    have z0 : ((0 : Int) == 0) = true := rfl
    refine (hall (i + 1) (by omega) hil (by omega)).call gd23 fun n hn => ⟨fun y hy p hp hr => ?_, fun e he t k at' hk => ?_⟩
    · rw [alloc_next] at hn
      rw [hy] at hx
      simp only [← hr] at hx
      have hp1 : (p : Int) + 1 = ((p + 1 : Nat) : Int) := by omega
      (repeat' (first | simp -dsimp (maxSteps := 2000000) (disch := first | omega | (simp; done) | (simp; omega)) only [SA, SB, SC, SD, SE, SF, SG, Nat.reduceLT, Nat.reduceAdd, Nat.reduceSub, Nat.reduceMul, Nat.reduceLeDiff, Nat.reduceEqDiff, Nat.reduceBEq, Int.reduceToNat, Int.reduceLE, Int.reduceLT, Int.reduceEq, Int.reduceNeg, reduceCtorEq, ↓reduceIte, readD, ite_ne, kids_sc, z0, hp1] | refine Cut.go ?_ | refine Both.intro ?_ ?_ | refine rsign_call (by omega) ?_ | (refine Br.intro ?_ ?_ <;> intro hb <;> have hb' := hb <;> (try simp only [SH] at hb') <;> (try simp -dsimp (maxSteps := 2000000) (disch := first | omega | (simp; done) | (simp; omega)) only [SA, SB, SC, SD, SE, SF, SG, Nat.reduceLT, Nat.reduceAdd, Nat.reduceSub, Nat.reduceMul, Nat.reduceLeDiff, Nat.reduceEqDiff, Nat.reduceBEq, Int.reduceToNat, Int.reduceLE, Int.reduceLT, Int.reduceEq, Int.reduceNeg, reduceCtorEq, ↓reduceIte, hb, readD, ite_ne, kids_sc, z0, hp1]))))
      · obtain ⟨k1, k2, k3⟩ := next_cons (by decide) hb'
        rw [k3] at hx
        simp only [k2, beq_self_eq_true, if_true] at hx
        exact rp_ok ⟨y.nd, l.drop (p + 1)⟩ (p + 1) k1 rfl hf (fun j hj => (by first | rfl | (simp (disch := omega) only [put_obj, alloc_obj, put_next, alloc_next, ite_ne]; done))) (by first | omega | (simp only [put_next, alloc_next]; omega)) hx rfl
      · refine rp_err ⟨[], [], 0⟩ .nils 0 hf (fun j hj => (by first | rfl | (simp (disch := omega) only [put_obj, alloc_obj, put_next, alloc_next, ite_ne]; done))) (by first | omega | (simp only [put_next, alloc_next]; omega)) ?_ rfl rfl
        rw [hx]
        cases hd : l.drop p with
        | nil => rfl
        | cons q r' => rw [hd] at hb; simp only [nextOf] at hb; simp only [hb]; rfl
    · rw [alloc_next] at hn
      rw [he] at hx
      have hne : (e == 0) = false := by simpa using exprE_nz he
      (repeat' (first | simp -dsimp (maxSteps := 2000000) (disch := first | omega | (simp; done) | (simp; omega)) only [SA, SB, SC, SD, SE, SF, SG, Nat.reduceLT, Nat.reduceAdd, Nat.reduceSub, Nat.reduceMul, Nat.reduceLeDiff, Nat.reduceEqDiff, Nat.reduceBEq, Int.reduceToNat, Int.reduceLE, Int.reduceLT, Int.reduceEq, Int.reduceNeg, reduceCtorEq, ↓reduceIte, readD, ite_ne, hk, hne] | refine Cut.go ?_ | refine Both.intro ?_ ?_ | (refine Br.intro ?_ ?_ <;> intro hb <;> have hb' := hb <;> (try simp only [SH] at hb') <;> (try simp -dsimp (maxSteps := 2000000) (disch := first | omega | (simp; done) | (simp; omega)) only [SA, SB, SC, SD, SE, SF, SG, Nat.reduceLT, Nat.reduceAdd, Nat.reduceSub, Nat.reduceMul, Nat.reduceLeDiff, Nat.reduceEqDiff, Nat.reduceBEq, Int.reduceToNat, Int.reduceLE, Int.reduceLT, Int.reduceEq, Int.reduceNeg, reduceCtorEq, ↓reduceIte, hb, readD, ite_ne, hk, hne]))))
      exact rp_err t k _ hf (fun j hj => (by first | rfl | (simp (disch := omega) only [put_obj, alloc_obj, put_next, alloc_next, ite_ne]; done))) (by first | omega | (simp only [put_next, alloc_next]; omega)) hx hk rfl
  · rw [if_neg (by rw [hb]; decide)] at hx
    exact rp_err ⟨[], [], 0⟩ .nils 0 hf (fun j hj => (by first | rfl | (simp (disch := omega) only [put_obj, alloc_obj, put_next, alloc_next, ite_ne]; done))) (by first | omega | (simp only [put_next, alloc_next]; omega)) hx rfl rfl

/-- The document reads as the program does. -/
theorem rparse_all (l : List Tok) (hl : l.length ≤ 9000) (hs : ∀ j, SgOk (l.getD j default).sign) : ∀ N : Nat,
    (∀ i (nest : Int), i ≤ l.length → 0 ≤ nest → nest ≤ 65 → 20 * (l.length - i) + 14 ≤ N → Reads 23 [.int .i64 nest] (exprE (l.drop i) nest) l i) ∧
    (∀ i (nest : Int), i ≤ l.length → 0 ≤ nest → nest ≤ 65 → 20 * (l.length - i) + 13 ≤ N → Reads 47 [.int .i64 nest] (condE (l.drop i) nest) l i) ∧
    (∀ i (k : Nat) (nest : Int), i ≤ l.length → k ≤ 10 → 0 ≤ nest → nest ≤ 65 → 20 * (l.length - i) + (12 - k) ≤ N → Reads 65 [.int .i64 k, .int .i64 nest] (binE (k + 1) (l.drop i) nest) l i) ∧
    (∀ i (nest : Int), i ≤ l.length → 0 ≤ nest → nest ≤ 65 → 20 * (l.length - i) + 1 ≤ N → Reads 78 [.int .i64 nest] (unE (l.drop i) nest) l i)
  | 0 => ⟨fun _ _ _ _ _ h => by omega, fun _ _ _ _ _ h => by omega, fun _ _ _ _ hk _ _ h => by omega, fun _ _ _ _ _ h => by omega⟩
  | N + 1 => by
    obtain ⟨ha, hc, hv, hu⟩ := rparse_all l hl hs N
    refine ⟨fun i nest hi h0 h1 hN => ?_, fun i nest hi h0 h1 hN => ?_, fun i k nest hi hk h0 h1 hN => ?_, fun i nest hi h0 h1 hN => ?_⟩
    · exact all_walk l i nest hl hi hs (fun i' g1 g2 => ha i' nest g2 h0 h1 (by omega)) (hc i nest hi h0 h1 (by omega))
    · exact cond_walk2 l i nest hl hi (hv i 0 nest hi (by omega) h0 h1 (by omega)) (fun i' g1 g2 => ha i' nest g2 h0 h1 (by omega)) (fun i' g1 g2 => hc i' nest g2 h0 h1 (by omega))
    · refine level_walk l i k nest hl hi hk (fun h => hu i nest hi h0 h1 (by omega)) fun i' g1 g2 g3 => ?_
      have := hv i' (k + 1) nest g2 (by omega) h0 h1 (by omega)
      rw [show ((k + 1 : Nat) : Int) + 1 = (k : Int) + 2 by omega] at this
      exact this
    · exact unary_walk l i nest hl hi ⟨h0, h1⟩ (fun i' g1 g2 g3 => hu i' (nest + 1) g2 (by omega) (by omega) (by omega)) (fun i' g1 g2 g3 => ha i' (nest + 1) g2 (by omega) (by omega) (by omega))
end Go.Proofs.Ytkjgadanaknleaa
