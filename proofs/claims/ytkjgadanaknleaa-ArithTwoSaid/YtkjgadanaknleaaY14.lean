/-
  THE WALKS, PART 54: the law of two numbers with a sign between.
-/
import Derived.Test.YtkjgadanaknleaaY13
namespace Go.Proofs.Ytkjgadanaknleaa
open Go Go.Id
set_option linter.unusedSimpArgs false
set_option linter.unusedVariables false
set_option maxRecDepth 100000
set_option maxHeartbeats 4000000

def parsed2 (s : List UInt8) : Option Nd := match tokensF s.length s [] with
  | .error _ => none
  | .ok ts => if ts = [] then none else match exprF (4 * ts.length + 4) ts 0 with
    | .error _ => none
    | .ok x => if x.rest = [] then some x.nd else none
theorem arith_of2 {s : List UInt8} {nd : Nd} {l : List V} (h : parsed2 s = some nd) (hs : s.length ≤ 8192) (hl : l.length ≤ 64) : arithF s l = evalF nd l := by
  rw [arithF, if_neg (by omega)]
  unfold parsed2 at h
  split at h
  · cases h
  · rename_i ts hts
    rw [hts]
    simp only []
    split at h
    · cases h
    · rename_i hne
      rw [if_neg hne]
      split at h
      · cases h
      · rename_i x hx
        rw [hx]
        simp only []
        split at h
        · rename_i hr; rw [if_pos hr]; cases h; rfl
        · cases h
def betw : List (List UInt8) := [[43], [45], [42], [47], [37], [60, 60], [62, 62], [60], [60, 61], [62], [62, 61], [61, 61], [33, 61], [38], [94], [124]]
def twoN (s : List UInt8) : Nd := .two ⟨s, [], 0⟩ (.leaf ⟨[], [120], 0⟩) (.leaf ⟨[], [121], 0⟩)
def txtA (s : List UInt8) : List UInt8 := [40, 120, 32] ++ s ++ [36, 121, 41]
def txtB (s : List UInt8) : List UInt8 := [120] ++ s ++ [121]
theorem two_same {s : List UInt8} (h : s ∈ betw) (l : List V) (hl : l.length ≤ 64) : arithF (txtA s) l = arithF (txtB s) l := by
  have h2 : parsed2 (txtA s) = some (twoN s) ∧ parsed2 (txtB s) = some (twoN s) ∧ s.length ≤ 2 := by
    simp only [betw, List.mem_cons, List.not_mem_nil, or_false] at h
    rcases h with rfl | rfl | rfl | rfl | rfl | rfl | rfl | rfl | rfl | rfl | rfl | rfl | rfl | rfl | rfl | rfl <;> exact ⟨by kernel_rfl, by kernel_rfl, by decide⟩
  obtain ⟨h3, h4, h5⟩ := h2
  rw [arith_of2 h3 (by simp [txtA]; omega) hl, arith_of2 h4 (by simp [txtB]; omega) hl]
theorem twolaw_ok (a b c : Int) (ha : I64 a) (hb2 : I64 b) (hc : 0 ≤ c) (σ : St) : Ok Try.prog 4 [.int .i64 a, .int .i64 b, .int .u64 c] σ (fun o _ => o = .ret (.bool true)) := by
  apply en4
  have hk : 0 ≤ c.tmod 16 ∧ c.tmod 16 < 16 := by
    rw [Int.tmod_eq_emod_of_nonneg hc]; omega
  generalize hm : c.tmod 16 = m at hk
  obtain ⟨k, rfl⟩ : ∃ k : Nat, m = k := ⟨m.toNat, by omega⟩
  have hmem : betw.getD k [] ∈ betw := by
    have : k < betw.length := by simp [betw]; omega
    rw [List.getD_eq_getElem?_getD, List.getElem?_eq_getElem this]; exact List.getElem_mem this
  have hix : idxAddrS 1 (.slc 1 [.str [43], .str [45], .str [42], .str [47], .str [37], .str [60, 60], .str [62, 62], .str [60], .str [60, 61], .str [62], .str [62, 61], .str [61, 61], .str [33, 61], .str [38], .str [94], .str [124]] .exact) (.int .u64 k) = some (.box [.str (betw.getD k [])] 0) := by
    have := ix_map D.str betw 1 .exact .u64 k ⟨by omega, by simp [betw]; omega⟩
    exact this.trans rfl
  have hsl : (betw.getD k []).length ≤ 2 := by
    have : ∀ x ∈ betw, x.length ≤ 2 := by decide
    exact this _ hmem
  generalize betw.getD k [] = s at hmem hix hsl
  have cat1 : ibin .add (.str [40, 120, 32]) (.str s) = some (.str ([40, 120, 32] ++ s)) := bs_add _ _ (by simp; omega)
  have cat2 : ibin .add (.str ([40, 120, 32] ++ s)) (.str [36, 121, 41]) = some (.str (txtA s)) := bs_add _ _ (by simp; omega)
  have cat3 : ibin .add (.str [120]) (.str s) = some (.str ([120] ++ s)) := bs_add _ _ (by simp; omega)
  have cat4 : ibin .add (.str ([120] ++ s)) (.str [121]) = some (.str (txtB s)) := bs_add _ _ (by simp; omega)
  have z16 : ((16 : Int) = 0) = False := by simp
  have z00 : ((0 : Int) == 0) = true := rfl
  simp -dsimp (maxSteps := 2000000) (disch := first | omega | (simp; done) | (simp; omega)) only [SA, SB, SC, SD, SE, SF, SG, Nat.reduceLT, Nat.reduceAdd, Nat.reduceSub, Nat.reduceMul, Nat.reduceLeDiff, Nat.reduceEqDiff, Nat.reduceBEq, Int.reduceToNat, Int.reduceLE, Int.reduceLT, Int.reduceEq, Int.reduceNeg, reduceCtorEq, ↓reduceIte, ic4, List.replicate_succ, List.replicate_zero]
  (repeat' (first | simp -dsimp (maxSteps := 2000000) (disch := first | omega | (simp; done) | (simp; omega)) only [SA, SB, SC, SD, SE, SF, SG, Nat.reduceLT, Nat.reduceAdd, Nat.reduceSub, Nat.reduceMul, Nat.reduceLeDiff, Nat.reduceEqDiff, Nat.reduceBEq, Int.reduceToNat, Int.reduceLE, Int.reduceLT, Int.reduceEq, Int.reduceNeg, reduceCtorEq, ↓reduceIte, hm, z16, hix, cat1, cat2, cat3, cat4, ite_ne] | refine Cut.go ?_ | refine Both.intro ?_ ?_ | refine rtext_call ha ?_ | refine rtext_call hb2 ?_ | (refine Br.intro ?_ ?_ <;> intro hb <;> have hb' := hb <;> (try simp only [SH] at hb') <;> (try simp -dsimp (maxSteps := 2000000) (disch := first | omega | (simp; done) | (simp; omega)) only [SA, SB, SC, SD, SE, SF, SG, Nat.reduceLT, Nat.reduceAdd, Nat.reduceSub, Nat.reduceMul, Nat.reduceLeDiff, Nat.reduceEqDiff, Nat.reduceBEq, Int.reduceToNat, Int.reduceLE, Int.reduceLT, Int.reduceEq, Int.reduceNeg, reduceCtorEq, ↓reduceIte, hb, hm, z16, hix, cat1, cat2, cat3, cat4, ite_ne]))))
  have hx : Vd (.slc 2 [.agg [.str [120], .str (textF a)], .agg [.str [121], .str (textF b)]] .exact) [⟨[120], textF a⟩, ⟨[121], textF b⟩] := .vsome [⟨[120], textF a⟩, ⟨[121], textF b⟩] .exact
  have hv : ∀ v ∈ ([⟨[120], textF a⟩, ⟨[121], textF b⟩] : List V), v.value.length ≤ 9223372036854775807 := by
    have h1 := textF_len a
    have h2 := textF_len b
    intro v hv
    simp only [List.mem_cons, List.not_mem_nil, or_false] at hv
    rcases hv with rfl | rfl <;> simp only [] <;> omega
  have hsame := two_same hmem [⟨[120], textF a⟩, ⟨[121], textF b⟩] (by simp)
  cases hA : arithF (txtA s) [⟨[120], textF a⟩, ⟨[121], textF b⟩] with
  | ok r =>
    rw [hA] at hsame
    refine eval_is hA hx hv fun m y hm2 hy => ?_
    simp only [put_next, alloc_next] at hm2
    (repeat' (first | simp -dsimp (maxSteps := 2000000) (disch := first | omega | (simp; done) | (simp; omega)) only [SA, SB, SC, SD, SE, SF, SG, Nat.reduceLT, Nat.reduceAdd, Nat.reduceSub, Nat.reduceMul, Nat.reduceLeDiff, Nat.reduceEqDiff, Nat.reduceBEq, Int.reduceToNat, Int.reduceLE, Int.reduceLT, Int.reduceEq, Int.reduceNeg, reduceCtorEq, ↓reduceIte, cat3, cat4, ite_ne] | refine Cut.go ?_ | refine Both.intro ?_ ?_ | (refine Br.intro ?_ ?_ <;> intro hb <;> have hb' := hb <;> (try simp only [SH] at hb') <;> (try simp -dsimp (maxSteps := 2000000) (disch := first | omega | (simp; done) | (simp; omega)) only [SA, SB, SC, SD, SE, SF, SG, Nat.reduceLT, Nat.reduceAdd, Nat.reduceSub, Nat.reduceMul, Nat.reduceLeDiff, Nat.reduceEqDiff, Nat.reduceBEq, Int.reduceToNat, Int.reduceLE, Int.reduceLT, Int.reduceEq, Int.reduceNeg, reduceCtorEq, ↓reduceIte, hb, cat3, cat4, ite_ne]))))
    refine reval_is hsame.symm hx hv fun m2 y2 hm3 hy2 => ?_
    have hd : decide (r.2 = r.2) = true := by simp
    have hn : (r.1 == r.1) = true := by simp
    (repeat' (first | simp -dsimp (maxSteps := 2000000) (disch := first | omega | (simp; done) | (simp; omega)) only [SA, SB, SC, SD, SE, SF, SG, Nat.reduceLT, Nat.reduceAdd, Nat.reduceSub, Nat.reduceMul, Nat.reduceLeDiff, Nat.reduceEqDiff, Nat.reduceBEq, Int.reduceToNat, Int.reduceLE, Int.reduceLT, Int.reduceEq, Int.reduceNeg, reduceCtorEq, ↓reduceIte, z00, hn, hd] | refine Cut.go ?_ | refine Both.intro ?_ ?_ | refine vars_call hy hy2 (Nat.le_trans (arith_inv2 hv hA) (by decide)) ?_ | (refine Br.intro ?_ ?_ <;> intro hb <;> have hb' := hb <;> (try simp only [SH] at hb') <;> (try simp -dsimp (maxSteps := 2000000) (disch := first | omega | (simp; done) | (simp; omega)) only [SA, SB, SC, SD, SE, SF, SG, Nat.reduceLT, Nat.reduceAdd, Nat.reduceSub, Nat.reduceMul, Nat.reduceLeDiff, Nat.reduceEqDiff, Nat.reduceBEq, Int.reduceToNat, Int.reduceLE, Int.reduceLT, Int.reduceEq, Int.reduceNeg, reduceCtorEq, ↓reduceIte, hb, z00, hn, hd]))))
    refine awake_call fun m3 hm3 => ?_
    (repeat' (first | simp -dsimp (maxSteps := 2000000) (disch := first | omega | (simp; done) | (simp; omega)) only [SA, SB, SC, SD, SE, SF, SG, Nat.reduceLT, Nat.reduceAdd, Nat.reduceSub, Nat.reduceMul, Nat.reduceLeDiff, Nat.reduceEqDiff, Nat.reduceBEq, Int.reduceToNat, Int.reduceLE, Int.reduceLT, Int.reduceEq, Int.reduceNeg, reduceCtorEq, ↓reduceIte] | refine Cut.go ?_ | refine Both.intro ?_ ?_ | (refine Br.intro ?_ ?_ <;> intro hb <;> have hb' := hb <;> (try simp only [SH] at hb') <;> (try simp -dsimp (maxSteps := 2000000) (disch := first | omega | (simp; done) | (simp; omega)) only [SA, SB, SC, SD, SE, SF, SG, Nat.reduceLT, Nat.reduceAdd, Nat.reduceSub, Nat.reduceMul, Nat.reduceLeDiff, Nat.reduceEqDiff, Nat.reduceBEq, Int.reduceToNat, Int.reduceLE, Int.reduceLT, Int.reduceEq, Int.reduceNeg, reduceCtorEq, ↓reduceIte, hb]))))
  | error e =>
    rw [hA] at hsame
    refine eval_not hA hx hv fun m hm2 => ?_
    simp only [put_next, alloc_next] at hm2
    (repeat' (first | simp -dsimp (maxSteps := 2000000) (disch := first | omega | (simp; done) | (simp; omega)) only [SA, SB, SC, SD, SE, SF, SG, Nat.reduceLT, Nat.reduceAdd, Nat.reduceSub, Nat.reduceMul, Nat.reduceLeDiff, Nat.reduceEqDiff, Nat.reduceBEq, Int.reduceToNat, Int.reduceLE, Int.reduceLT, Int.reduceEq, Int.reduceNeg, reduceCtorEq, ↓reduceIte, cat3, cat4, ite_ne] | refine Cut.go ?_ | refine Both.intro ?_ ?_ | (refine Br.intro ?_ ?_ <;> intro hb <;> have hb' := hb <;> (try simp only [SH] at hb') <;> (try simp -dsimp (maxSteps := 2000000) (disch := first | omega | (simp; done) | (simp; omega)) only [SA, SB, SC, SD, SE, SF, SG, Nat.reduceLT, Nat.reduceAdd, Nat.reduceSub, Nat.reduceMul, Nat.reduceLeDiff, Nat.reduceEqDiff, Nat.reduceBEq, Int.reduceToNat, Int.reduceLE, Int.reduceLT, Int.reduceEq, Int.reduceNeg, reduceCtorEq, ↓reduceIte, hb, cat3, cat4, ite_ne]))))
    refine reval_not hsame.symm hx hv fun m2 hm3 => ?_
    have hd : decide (([] : List V) = []) = true := by simp
    have hn : (e == e) = true := by simp
    (repeat' (first | simp -dsimp (maxSteps := 2000000) (disch := first | omega | (simp; done) | (simp; omega)) only [SA, SB, SC, SD, SE, SF, SG, Nat.reduceLT, Nat.reduceAdd, Nat.reduceSub, Nat.reduceMul, Nat.reduceLeDiff, Nat.reduceEqDiff, Nat.reduceBEq, Int.reduceToNat, Int.reduceLE, Int.reduceLT, Int.reduceEq, Int.reduceNeg, reduceCtorEq, ↓reduceIte, z00, hn, hd] | refine Cut.go ?_ | refine Both.intro ?_ ?_ | refine vars_call .vnil .vnil (by simp) ?_ | (refine Br.intro ?_ ?_ <;> intro hb <;> have hb' := hb <;> (try simp only [SH] at hb') <;> (try simp -dsimp (maxSteps := 2000000) (disch := first | omega | (simp; done) | (simp; omega)) only [SA, SB, SC, SD, SE, SF, SG, Nat.reduceLT, Nat.reduceAdd, Nat.reduceSub, Nat.reduceMul, Nat.reduceLeDiff, Nat.reduceEqDiff, Nat.reduceBEq, Int.reduceToNat, Int.reduceLE, Int.reduceLT, Int.reduceEq, Int.reduceNeg, reduceCtorEq, ↓reduceIte, hb, z00, hn, hd]))))
    refine awake_call fun m3 hm3 => ?_
    (repeat' (first | simp -dsimp (maxSteps := 2000000) (disch := first | omega | (simp; done) | (simp; omega)) only [SA, SB, SC, SD, SE, SF, SG, Nat.reduceLT, Nat.reduceAdd, Nat.reduceSub, Nat.reduceMul, Nat.reduceLeDiff, Nat.reduceEqDiff, Nat.reduceBEq, Int.reduceToNat, Int.reduceLE, Int.reduceLT, Int.reduceEq, Int.reduceNeg, reduceCtorEq, ↓reduceIte] | refine Cut.go ?_ | refine Both.intro ?_ ?_ | (refine Br.intro ?_ ?_ <;> intro hb <;> have hb' := hb <;> (try simp only [SH] at hb') <;> (try simp -dsimp (maxSteps := 2000000) (disch := first | omega | (simp; done) | (simp; omega)) only [SA, SB, SC, SD, SE, SF, SG, Nat.reduceLT, Nat.reduceAdd, Nat.reduceSub, Nat.reduceMul, Nat.reduceLeDiff, Nat.reduceEqDiff, Nat.reduceBEq, Int.reduceToNat, Int.reduceLE, Int.reduceLT, Int.reduceEq, Int.reduceNeg, reduceCtorEq, ↓reduceIte, hb]))))
end Go.Proofs.Ytkjgadanaknleaa
