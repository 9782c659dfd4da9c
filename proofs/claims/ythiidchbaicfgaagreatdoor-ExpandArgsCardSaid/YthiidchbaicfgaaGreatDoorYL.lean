/-
  THE LAW ExpandArgs: the walk.
-/
import Derived.Test.YthiidchbaicfgaaGreatDoorYK
namespace Go.Proofs.YthiidchbaicfgaaGreatDoor
open Go Go.Id
set_option linter.unusedSimpArgs false
set_option linter.unusedVariables false
set_option maxRecDepth 100000
set_option maxHeartbeats 8000000

theorem argsB_all {ag : List (List UInt8)} (h : argsB ag = true) : ag.length ≤ 256 ∧ tooLong ag = false ∧ ∀ t ∈ ag, t.length ≤ 4096 := by
  unfold argsB at h
  rw [Bool.and_eq_true, decide_eq_true_eq, Bool.not_eq_true'] at h
  refine ⟨h.1, h.2, fun t ht => ?_⟩
  have := h.2
  unfold tooLong at this
  rw [List.any_eq_false] at this
  have := this t ht
  simp at this; omega
theorem NewE_args {l : Vs} {ag : List (List UInt8)} (h : NewE l ag = 0) : argsB ag = true ∧ (newE l []).1 = 0 := by
  unfold NewE at h
  split at h
  · rename_i h0
    split at h
    · rename_i h1; exact ⟨h1, h0⟩
    · cases h
  · rename_i h0; exact absurd h h0
/-- No value of a table is too long. -/
def Short (l : Vs) : Prop := ∀ q ∈ l, q.2.length ≤ 4096
theorem tget_short {l : Vs} (h : Short l) {n v : List UInt8} (hg : tget n l = some v) : v.length ≤ 4096 := by
  induction l with
  | nil => cases hg
  | cons q r ih =>
    rw [tget] at hg
    split at hg
    · cases hg; exact h q (by simp)
    · exact ih (fun z hz => h z (by simp [hz])) hg
theorem setE_short {n v : List UInt8} {l : Vs} (h : Short l) : Short (setE n v l).2 := by
  unfold setE
  split
  · split
    · exact h
    · rename_i hv
      split
      · exact h
      · intro z hz
        rcases tset_mem n v hz with rfl | hz
        · simp only []; omega
        · exact h z hz
  · exact h
theorem newE_short : ∀ (l acc : Vs), Short acc → Short (newE l acc).2
  | [], acc, h => h
  | q :: r, acc, h => by
    rw [newE]
    split
    · exact newE_short r _ (setE_short h)
    · exact h
theorem sep_short {l : Vs} (h : Short l) : (sepOf l).length ≤ 4096 := by
  unfold sepOf
  cases hg : tget ifsN l with
  | none => simp
  | some v => exact tget_short h hg
theorem tot_take (l : List (List UInt8)) (i : Nat) (hi : i < l.length) : tot (l.take (i + 1)) = tot (l.take i) + (l[i]).length + 1 := by
  rw [List.take_succ_eq_append_getElem hi, tot_snoc]
theorem law4 {x ga : D} {l : Vs} {ag : List (List UInt8)} (hx : Vz x l) (ha : Strs ga ag) (σ : St) : Ok Tryz.prog 4 [x, ga] σ (fun o _ => o = .ret (.bool true)) := by
  have sn2 : scal (.int .i64 0) = true := rfl
  have sa := ha.scal
  have hla := ha.len
  apply en4
  simp -dsimp (maxSteps := 2000000) (disch := first | omega | (simp; done) | (simp; omega)) only [SA, SB, SC, SD, SE, SF, SG, SI, Nat.reduceLT, Nat.reduceAdd, Nat.reduceSub, Nat.reduceMul, Nat.reduceLeDiff, Nat.reduceEqDiff, Nat.reduceBEq, Int.reduceToNat, Int.reduceLE, Int.reduceLT, Int.reduceEq, Int.reduceNeg, reduceCtorEq, ↓reduceIte, ic4, List.replicate_succ, List.replicate_zero]
  (repeat' (first | simp -dsimp (maxSteps := 2000000) (disch := first | omega | (simp; done) | (simp; omega)) only [SA, SB, SC, SD, SE, SF, SG, SI, Nat.reduceLT, Nat.reduceAdd, Nat.reduceSub, Nat.reduceMul, Nat.reduceLeDiff, Nat.reduceEqDiff, Nat.reduceBEq, Int.reduceToNat, Int.reduceLE, Int.reduceLT, Int.reduceEq, Int.reduceNeg, reduceCtorEq, ↓reduceIte] | refine Cut.go ?_ | refine Both.intro ?_ ?_ | (refine Br.intro ?_ ?_ <;> intro hb <;> have hb' := hb <;> (try simp only [SH] at hb') <;> (try simp -dsimp (maxSteps := 2000000) (disch := first | omega | (simp; done) | (simp; omega)) only [SA, SB, SC, SD, SE, SF, SG, SI, Nat.reduceLT, Nat.reduceAdd, Nat.reduceSub, Nat.reduceMul, Nat.reduceLeDiff, Nat.reduceEqDiff, Nat.reduceBEq, Int.reduceToNat, Int.reduceLE, Int.reduceLT, Int.reduceEq, Int.reduceNeg, reduceCtorEq, ↓reduceIte, hb]))))
  refine ⟨gd7, Ok.drop ((tables7x hx ha σ).mono fun o s1 h => ?_)⟩
  unfold Out7 at h
  split at h
  · rename_i hok
    obtain ⟨j, xr, rfl, g, B, yp, hT, hyp, sxr, hV, hjB, hB1, hfoot, hfar⟩ := h
    unfold okB at hok
    rw [decide_eq_true_eq] at hok
    obtain ⟨hl40, ha40, hN⟩ := hok
    obtain ⟨hargs, _⟩ := NewE_args hN
    obtain ⟨_, htl, hall⟩ := argsB_all hargs
    refine ⟨_, bare_drops s1, ?_⟩
    have hA := hT.read.bare
    have hti := bare_tidy s1
    have hf1 : (bare s1).Fresh := fun i hi => by
      show (match s1.obj i with | some (.ty _ _ _) => none | o => o) = none
      rw [hT.fresh i hi]
    have hVb : VarsR (bare s1) xr (newE l []).2 := by
      rcases hV with h | ⟨jv, t, e1, o1⟩
      · exact .inl h
      · exact .inr ⟨jv, t, e1, bare_cells o1⟩
    have hfew := hT.few
    generalize bare s1 = S1 at *
    have dd := dcells3 sxr sa sn2
    have hSf := put_fresh (alloc_fresh hf1 (.cells [.nils, .nils, .int .i64 0])) (j := S1.next) (by rw [alloc_next]; omega) (some (.cells [xr, ga, .int .i64 0]))
    have hSo : ∀ i, i < S1.next → ((S1.alloc (.cells [.nils, .nils, .int .i64 0])).put S1.next (some (.cells [xr, ga, .int .i64 0]))).obj i = S1.obj i := fun i hi => by rw [put_obj, if_neg (by omega), alloc_obj, if_neg (by omega)]
    have hA2 := hA.low hf1 hSo (by show S1.next ≤ S1.next + 1; omega)
    have ht2 : Tidy ((S1.alloc (.cells [.nils, .nils, .int .i64 0])).put S1.next (some (.cells [xr, ga, .int .i64 0]))) := (hti.alloc hf1 (by simp)).put _ _
    have hV2 := hVb.low hf1 hSo
    have o8 : ((S1.alloc (.cells [.nils, .nils, .int .i64 0])).put S1.next (some (.cells [xr, ga, .int .i64 0]))).obj S1.next = some (.cells [xr, ga, .int .i64 0]) := by rw [put_obj, if_pos rfl]
    (repeat' (first | simp -dsimp (maxSteps := 2000000) (disch := first | omega | (simp; done) | (simp; omega)) only [SA, SB, SC, SD, SE, SF, SG, SI, Nat.reduceLT, Nat.reduceAdd, Nat.reduceSub, Nat.reduceMul, Nat.reduceLeDiff, Nat.reduceEqDiff, Nat.reduceBEq, Int.reduceToNat, Int.reduceLE, Int.reduceLT, Int.reduceEq, Int.reduceNeg, reduceCtorEq, ↓reduceIte, dd] | refine Cut.go ?_ | refine Both.intro ?_ ?_ | (refine Br.intro ?_ ?_ <;> intro hb <;> have hb' := hb <;> (try simp only [SH] at hb') <;> (try simp -dsimp (maxSteps := 2000000) (disch := first | omega | (simp; done) | (simp; omega)) only [SA, SB, SC, SD, SE, SF, SG, SI, Nat.reduceLT, Nat.reduceAdd, Nat.reduceSub, Nat.reduceMul, Nat.reduceLeDiff, Nat.reduceEqDiff, Nat.reduceBEq, Int.reduceToNat, Int.reduceLE, Int.reduceLT, Int.reduceEq, Int.reduceNeg, reduceCtorEq, ↓reduceIte, hb, dd]))))
    generalize hS2 : ((S1.alloc (.cells [.nils, .nils, .int .i64 0])).put S1.next (some (.cells [xr, ga, .int .i64 0]))) = S2 at *
    have htl2 : tot ag ≤ 40 * 4097 := by
      have h1 := tot_le 4096 ag hall
      have h2 : ag.length * (4096 + 1) ≤ 40 * 4097 := Nat.mul_le_mul ha40 (Nat.le_refl _)
      omega
    have htt : ∀ i, tot (ag.take i) ≤ 40 * 4097 := fun i => by
      have h1 := tot_le 4096 (ag.take i) fun t ht => hall t (List.mem_of_mem_take ht)
      have h3 : (ag.take i).length ≤ 40 := by rw [List.length_take]; omega
      have h2 : (ag.take i).length * (4096 + 1) ≤ 40 * 4097 := Nat.mul_le_mul h3 (Nat.le_refl _)
      omega
    refine loop_go (α := Nat) (fun i => [x, ga, .junk, .junk, .bool false, .ref j 0, .ref S1.next 0, .bool true, .int .i64 (tot (ag.take i)), .int .i64 i] ++ List.replicate 89 .junk) (fun _ => S2) (fun i => ag.length - i) (fun i => i ≤ ag.length) 0 (Nat.zero_le _) (by ((try simp only [List.replicate_succ, List.replicate_zero, List.cons_append, List.nil_append]); repeat' (first | exact trivial | refine ⟨.inl rfl, ?_⟩ | refine ⟨.inr rfl, ?_⟩ | refine ⟨.inr (by simp), ?_⟩))) (Drops.refl _) ?_
    intro i h1
    have htti := htt i
    simp -dsimp (maxSteps := 2000000) (disch := first | omega | (simp; done) | (simp; omega)) only [SA, SB, SC, SD, SE, SF, SG, SI, Nat.reduceLT, Nat.reduceAdd, Nat.reduceSub, Nat.reduceMul, Nat.reduceLeDiff, Nat.reduceEqDiff, Nat.reduceBEq, Int.reduceToNat, Int.reduceLE, Int.reduceLT, Int.reduceEq, Int.reduceNeg, reduceCtorEq, ↓reduceIte, List.replicate_succ, List.replicate_zero]
    by_cases hi : i < ag.length
    · have hcond : decide ((i : Int) < ag.length) = true := by simp; exact hi
      have ax := ha.at hi
      have lx : cellsAt [D.str ag[i]] 0 none = some (.str ag[i]) := rfl
      have hti1 := tot_take ag i hi
      have hli := hall ag[i] (List.getElem_mem hi)
      (repeat' (first | simp -dsimp (maxSteps := 2000000) (disch := first | omega | (simp; done) | (simp; omega)) only [SA, SB, SC, SD, SE, SF, SG, SI, Nat.reduceLT, Nat.reduceAdd, Nat.reduceSub, Nat.reduceMul, Nat.reduceLeDiff, Nat.reduceEqDiff, Nat.reduceBEq, Int.reduceToNat, Int.reduceLE, Int.reduceLT, Int.reduceEq, Int.reduceNeg, reduceCtorEq, ↓reduceIte, hla, hcond, ax, lx] | refine Cut.go ?_ | refine Both.intro ?_ ?_ | (refine Br.intro ?_ ?_ <;> intro hb <;> have hb' := hb <;> (try simp only [SH] at hb') <;> (try simp -dsimp (maxSteps := 2000000) (disch := first | omega | (simp; done) | (simp; omega)) only [SA, SB, SC, SD, SE, SF, SG, SI, Nat.reduceLT, Nat.reduceAdd, Nat.reduceSub, Nat.reduceMul, Nat.reduceLeDiff, Nat.reduceEqDiff, Nat.reduceBEq, Int.reduceToNat, Int.reduceLE, Int.reduceLT, Int.reduceEq, Int.reduceNeg, reduceCtorEq, ↓reduceIte, hb, hla, hcond, ax, lx]))))
      refine Round.go (i + 1) (by omega) (by omega) ?_ (Drops.refl _)
      have e : ((tot (ag.take (i + 1)) : Nat) : Int) = (tot (ag.take i) : Int) + (ag[i]).length + 1 := by rw [hti1]; omega
      rw [e]
      ((try simp only [List.replicate_succ, List.replicate_zero, List.cons_append, List.nil_append]); repeat' (first | exact trivial | refine ⟨.inl rfl, ?_⟩ | refine ⟨.inr rfl, ?_⟩ | refine ⟨.inr (by simp), ?_⟩))
    · have hcond : decide ((i : Int) < ag.length) = false := by simp; omega
      have etk : ag.take i = ag := List.take_of_length_le (by omega)
      rw [etk]
      have hsep := sep_short (newE_short l [] fun q hq => by cases hq)
      have hj1 : (jn [32] ag).length ≤ 200000 := by have := jn_tot [32] (by simp) ag; omega
      have ht1 : ((sepOf (newE l []).2).take 1).length ≤ 1 := by rw [List.length_take]; omega
      have hj3 : (jn ((sepOf (newE l []).2).take 1) ag).length ≤ 200000 := by have := jn_tot _ ht1 ag; omega
      (repeat' (first | simp -dsimp (maxSteps := 2000000) (disch := first | omega | (simp; done) | (simp; omega)) only [SA, SB, SC, SD, SE, SF, SG, SI, Nat.reduceLT, Nat.reduceAdd, Nat.reduceSub, Nat.reduceMul, Nat.reduceLeDiff, Nat.reduceEqDiff, Nat.reduceBEq, Int.reduceToNat, Int.reduceLE, Int.reduceLT, Int.reduceEq, Int.reduceNeg, reduceCtorEq, ↓reduceIte, hla, hcond] | refine Cut.go ?_ | refine Both.intro ?_ ?_ | (refine Br.intro ?_ ?_ <;> intro hb <;> have hb' := hb <;> (try simp only [SH] at hb') <;> (try simp -dsimp (maxSteps := 2000000) (disch := first | omega | (simp; done) | (simp; omega)) only [SA, SB, SC, SD, SE, SF, SG, SI, Nat.reduceLT, Nat.reduceAdd, Nat.reduceSub, Nat.reduceMul, Nat.reduceLeDiff, Nat.reduceEqDiff, Nat.reduceBEq, Int.reduceToNat, Int.reduceLE, Int.reduceLT, Int.reduceEq, Int.reduceNeg, reduceCtorEq, ↓reduceIte, hb, hla, hcond]))))
      have hF1 := fields_at ht2 hA2 hyp ha40 (by omega) (by have := wt_all ag; omega) (r := .exact) (r' := .exact)
      rw [cut_args] at hF1
      refine ⟨gd12, hF1.mono fun o s3 h => ?_⟩
      obtain ⟨⟨m3, hm3, rfl⟩, ho⟩ := h
      have e1 : (decide (256 < ag.length) || tooLong ag) = false := by rw [htl]; simp; omega
      rw [FieldsOut, e1] at ho
      obtain ⟨xa, hxa, rfl⟩ := ho
      (repeat' (first | simp -dsimp (maxSteps := 2000000) (disch := first | omega | (simp; done) | (simp; omega)) only [SA, SB, SC, SD, SE, SF, SG, SI, Nat.reduceLT, Nat.reduceAdd, Nat.reduceSub, Nat.reduceMul, Nat.reduceLeDiff, Nat.reduceEqDiff, Nat.reduceBEq, Int.reduceToNat, Int.reduceLE, Int.reduceLT, Int.reduceEq, Int.reduceNeg, reduceCtorEq, ↓reduceIte] | refine Cut.go ?_ | refine Both.intro ?_ ?_ | (refine Br.intro ?_ ?_ <;> intro hb <;> have hb' := hb <;> (try simp only [SH] at hb') <;> (try simp -dsimp (maxSteps := 2000000) (disch := first | omega | (simp; done) | (simp; omega)) only [SA, SB, SC, SD, SE, SF, SG, SI, Nat.reduceLT, Nat.reduceAdd, Nat.reduceSub, Nat.reduceMul, Nat.reduceLeDiff, Nat.reduceEqDiff, Nat.reduceBEq, Int.reduceToNat, Int.reduceLE, Int.reduceLT, Int.reduceEq, Int.reduceNeg, reduceCtorEq, ↓reduceIte, hb]))))
      have hF2 := fields_star (σ := ⟨S2.obj, m3⟩) ht2 (hA2.more hm3) hyp ha40 (by omega) (by omega) (by omega) (r := .exact) (r' := .exact)
      rw [cut_one] at hF2
      refine ⟨gd12, hF2.mono fun o s4 h => ?_⟩
      obtain ⟨⟨m4, hm4, rfl⟩, ho⟩ := h
      simp only [] at hm4
      have hV4 : VarsR ⟨S2.obj, m4⟩ xr (newE l []).2 := hV2
      have l8 : cellsAt [xr, ga, D.int .i64 0] 0 (some 3) = some (.agg [xr, ga, .int .i64 0]) := rfl
      have hG := get16 hfew sxr sa sn2 ⟨S2.obj, m4⟩ hV4
      generalize hW : (newE l []).2 = W at *
      generalize hJ : jn ((sepOf W).take 1) ag = J at *
      have hJt : J.length ≤ tot ag := by rw [← hJ]; exact jn_tot _ ht1 ag
      have hjoin : ∀ k, (jn ((sepOf W).take 1) (ag.take k)).length ≤ 10000000 := fun k => by have := jn_tot _ ht1 (ag.take k); have := htt k; omega
      have z0 : ((0 : Int) == 0) = true := rfl
      have sepx : ∃ B2, ((tget ifsN W).isSome = false ∧ (sepOf W).take 1 = [32]) ∨ ((tget ifsN W).isSome = true ∧ (tget ifsN W).getD [] = B2 ∧ (sepOf W).take 1 = B2.take 1) := by
        unfold sepOf
        cases tget ifsN W with
        | none => exact ⟨[], .inl ⟨rfl, rfl⟩⟩
        | some v => exact ⟨v, .inr ⟨rfl, rfl, rfl⟩⟩
      by_cases hbig : 4096 < tot ag
      · have hc : decide (((tot ag : Nat) : Int) > 4096) = true := by simp; omega
        unfold FieldsOut at ho
        have key : ∃ d e, o = .ret (.tuple [d, .int .i64 e]) := by
          split at ho
          · exact ⟨_, _, ho⟩
          · obtain ⟨xb, _, h⟩ := ho; exact ⟨_, _, h⟩
        obtain ⟨d, e, rfl⟩ := key
        (repeat' (first | simp -dsimp (maxSteps := 2000000) (disch := first | omega | (simp; done) | (simp; omega)) only [SA, SB, SC, SD, SE, SF, SG, SI, Nat.reduceLT, Nat.reduceAdd, Nat.reduceSub, Nat.reduceMul, Nat.reduceLeDiff, Nat.reduceEqDiff, Nat.reduceBEq, Int.reduceToNat, Int.reduceLE, Int.reduceLT, Int.reduceEq, Int.reduceNeg, reduceCtorEq, ↓reduceIte, o8, l8] | refine Cut.go ?_ | refine Both.intro ?_ ?_ | (refine Br.intro ?_ ?_ <;> intro hb <;> have hb' := hb <;> (try simp only [SH] at hb') <;> (try simp -dsimp (maxSteps := 2000000) (disch := first | omega | (simp; done) | (simp; omega)) only [SA, SB, SC, SD, SE, SF, SG, SI, Nat.reduceLT, Nat.reduceAdd, Nat.reduceSub, Nat.reduceMul, Nat.reduceLeDiff, Nat.reduceEqDiff, Nat.reduceBEq, Int.reduceToNat, Int.reduceLE, Int.reduceLT, Int.reduceEq, Int.reduceNeg, reduceCtorEq, ↓reduceIte, hb, o8, l8]))))
        refine ⟨gd16, hG.mono fun o s5 h => ?_⟩
        obtain ⟨⟨m5, hm5, rfl⟩, rfl⟩ := h
        generalize (tget ifsN W).getD [] = v5
        generalize (tget ifsN W).isSome = b5
        cases b5
        · (repeat' (first | simp -dsimp (maxSteps := 2000000) (disch := first | omega | (simp; done) | (simp; omega)) only [SA, SB, SC, SD, SE, SF, SG, SI, Nat.reduceLT, Nat.reduceAdd, Nat.reduceSub, Nat.reduceMul, Nat.reduceLeDiff, Nat.reduceEqDiff, Nat.reduceBEq, Int.reduceToNat, Int.reduceLE, Int.reduceLT, Int.reduceEq, Int.reduceNeg, reduceCtorEq, ↓reduceIte, hc] | refine Cut.go ?_ | refine Both.intro ?_ ?_ | refine awake_call ?_ | (refine Br.intro ?_ ?_ <;> intro hb <;> have hb' := hb <;> (try simp only [SH] at hb') <;> (try simp -dsimp (maxSteps := 2000000) (disch := first | omega | (simp; done) | (simp; omega)) only [SA, SB, SC, SD, SE, SF, SG, SI, Nat.reduceLT, Nat.reduceAdd, Nat.reduceSub, Nat.reduceMul, Nat.reduceLeDiff, Nat.reduceEqDiff, Nat.reduceBEq, Int.reduceToNat, Int.reduceLE, Int.reduceLT, Int.reduceEq, Int.reduceNeg, reduceCtorEq, ↓reduceIte, hb, hc]))))
        · by_cases hv1 : 1 < v5.length
          · have hc2 : decide ((v5.length : Int) > 1) = true := by simp; omega
            (repeat' (first | simp -dsimp (maxSteps := 2000000) (disch := first | omega | (simp; done) | (simp; omega)) only [SA, SB, SC, SD, SE, SF, SG, SI, Nat.reduceLT, Nat.reduceAdd, Nat.reduceSub, Nat.reduceMul, Nat.reduceLeDiff, Nat.reduceEqDiff, Nat.reduceBEq, Int.reduceToNat, Int.reduceLE, Int.reduceLT, Int.reduceEq, Int.reduceNeg, reduceCtorEq, ↓reduceIte, hc, hc2] | refine Cut.go ?_ | refine Both.intro ?_ ?_ | refine awake_call ?_ | (refine Br.intro ?_ ?_ <;> intro hb <;> have hb' := hb <;> (try simp only [SH] at hb') <;> (try simp -dsimp (maxSteps := 2000000) (disch := first | omega | (simp; done) | (simp; omega)) only [SA, SB, SC, SD, SE, SF, SG, SI, Nat.reduceLT, Nat.reduceAdd, Nat.reduceSub, Nat.reduceMul, Nat.reduceLeDiff, Nat.reduceEqDiff, Nat.reduceBEq, Int.reduceToNat, Int.reduceLE, Int.reduceLT, Int.reduceEq, Int.reduceNeg, reduceCtorEq, ↓reduceIte, hb, hc, hc2]))))
          · have hc2 : decide ((v5.length : Int) > 1) = false := by simp; omega
            (repeat' (first | simp -dsimp (maxSteps := 2000000) (disch := first | omega | (simp; done) | (simp; omega)) only [SA, SB, SC, SD, SE, SF, SG, SI, Nat.reduceLT, Nat.reduceAdd, Nat.reduceSub, Nat.reduceMul, Nat.reduceLeDiff, Nat.reduceEqDiff, Nat.reduceBEq, Int.reduceToNat, Int.reduceLE, Int.reduceLT, Int.reduceEq, Int.reduceNeg, reduceCtorEq, ↓reduceIte, hc, hc2] | refine Cut.go ?_ | refine Both.intro ?_ ?_ | refine awake_call ?_ | (refine Br.intro ?_ ?_ <;> intro hb <;> have hb' := hb <;> (try simp only [SH] at hb') <;> (try simp -dsimp (maxSteps := 2000000) (disch := first | omega | (simp; done) | (simp; omega)) only [SA, SB, SC, SD, SE, SF, SG, SI, Nat.reduceLT, Nat.reduceAdd, Nat.reduceSub, Nat.reduceMul, Nat.reduceLeDiff, Nat.reduceEqDiff, Nat.reduceBEq, Int.reduceToNat, Int.reduceLE, Int.reduceLT, Int.reduceEq, Int.reduceNeg, reduceCtorEq, ↓reduceIte, hb, hc, hc2]))))
      · have hc : decide (((tot ag : Nat) : Int) > 4096) = false := by simp; omega
        have e2 : (decide (256 < [J].length) || tooLong [J]) = false := by simp [tooLong]; omega
        rw [FieldsOut, e2] at ho
        obtain ⟨xb, hxb, rfl⟩ := ho
        have one : Strs (.slc 1 [.str J] .exact) [J] := .ssome [J] .exact
        (repeat' (first | simp -dsimp (maxSteps := 2000000) (disch := first | omega | (simp; done) | (simp; omega)) only [SA, SB, SC, SD, SE, SF, SG, SI, Nat.reduceLT, Nat.reduceAdd, Nat.reduceSub, Nat.reduceMul, Nat.reduceLeDiff, Nat.reduceEqDiff, Nat.reduceBEq, Int.reduceToNat, Int.reduceLE, Int.reduceLT, Int.reduceEq, Int.reduceNeg, reduceCtorEq, ↓reduceIte, o8, l8] | refine Cut.go ?_ | refine Both.intro ?_ ?_ | (refine Br.intro ?_ ?_ <;> intro hb <;> have hb' := hb <;> (try simp only [SH] at hb') <;> (try simp -dsimp (maxSteps := 2000000) (disch := first | omega | (simp; done) | (simp; omega)) only [SA, SB, SC, SD, SE, SF, SG, SI, Nat.reduceLT, Nat.reduceAdd, Nat.reduceSub, Nat.reduceMul, Nat.reduceLeDiff, Nat.reduceEqDiff, Nat.reduceBEq, Int.reduceToNat, Int.reduceLE, Int.reduceLT, Int.reduceEq, Int.reduceNeg, reduceCtorEq, ↓reduceIte, hb, o8, l8]))))
        refine ⟨gd16, hG.mono fun o s5 h => ?_⟩
        obtain ⟨⟨m5, hm5, rfl⟩, rfl⟩ := h
        obtain ⟨B2, hs2⟩ := sepx
        rcases hs2 with ⟨hb5, hs3⟩ | ⟨hb5, hv5, hs3⟩
        · rw [hb5]
          rw [hs3] at hJ hjoin
          have hJo := joined17 ha [32] (by omega) hjoin (by simp)
          rw [hJ] at hJo
          (repeat' (first | simp -dsimp (maxSteps := 2000000) (disch := first | omega | (simp; done) | (simp; omega)) only [SA, SB, SC, SD, SE, SF, SG, SI, Nat.reduceLT, Nat.reduceAdd, Nat.reduceSub, Nat.reduceMul, Nat.reduceLeDiff, Nat.reduceEqDiff, Nat.reduceBEq, Int.reduceToNat, Int.reduceLE, Int.reduceLT, Int.reduceEq, Int.reduceNeg, reduceCtorEq, ↓reduceIte, hc, z0] | refine Cut.go ?_ | refine Both.intro ?_ ?_ | refine via gd17 (hJo _) ?_ | refine texts_call hxa ha (by omega) ?_ | refine texts_call hxb one (by simp) ?_ | refine awake_call ?_ | (refine Br.intro ?_ ?_ <;> intro hb <;> have hb' := hb <;> (try simp only [SH] at hb') <;> (try simp -dsimp (maxSteps := 2000000) (disch := first | omega | (simp; done) | (simp; omega)) only [SA, SB, SC, SD, SE, SF, SG, SI, Nat.reduceLT, Nat.reduceAdd, Nat.reduceSub, Nat.reduceMul, Nat.reduceLeDiff, Nat.reduceEqDiff, Nat.reduceBEq, Int.reduceToNat, Int.reduceLE, Int.reduceLT, Int.reduceEq, Int.reduceNeg, reduceCtorEq, ↓reduceIte, hb, hc, z0]))))
        · rw [hb5, hv5]
          rw [hs3] at hJ hjoin
          by_cases hv1 : 1 < B2.length
          · have hc2 : decide ((B2.length : Int) > 1) = true := by simp; omega
            have hJo := joined17 ha (B2.take 1) (by omega) hjoin (by rw [List.length_take]; omega)
            rw [hJ] at hJo
            have hsl : isl (.str B2) none (some (.int .i64 1)) = some (.str (B2.take 1)) := by rw [isl_hi _ _ _ (by omega)]; rfl
            (repeat' (first | simp -dsimp (maxSteps := 2000000) (disch := first | omega | (simp; done) | (simp; omega)) only [SA, SB, SC, SD, SE, SF, SG, SI, Nat.reduceLT, Nat.reduceAdd, Nat.reduceSub, Nat.reduceMul, Nat.reduceLeDiff, Nat.reduceEqDiff, Nat.reduceBEq, Int.reduceToNat, Int.reduceLE, Int.reduceLT, Int.reduceEq, Int.reduceNeg, reduceCtorEq, ↓reduceIte, hc, hc2, hsl, z0] | refine Cut.go ?_ | refine Both.intro ?_ ?_ | refine via gd17 (hJo _) ?_ | refine texts_call hxa ha (by omega) ?_ | refine texts_call hxb one (by simp) ?_ | refine awake_call ?_ | (refine Br.intro ?_ ?_ <;> intro hb <;> have hb' := hb <;> (try simp only [SH] at hb') <;> (try simp -dsimp (maxSteps := 2000000) (disch := first | omega | (simp; done) | (simp; omega)) only [SA, SB, SC, SD, SE, SF, SG, SI, Nat.reduceLT, Nat.reduceAdd, Nat.reduceSub, Nat.reduceMul, Nat.reduceLeDiff, Nat.reduceEqDiff, Nat.reduceBEq, Int.reduceToNat, Int.reduceLE, Int.reduceLT, Int.reduceEq, Int.reduceNeg, reduceCtorEq, ↓reduceIte, hb, hc, hc2, hsl, z0]))))
          · have hc2 : decide ((B2.length : Int) > 1) = false := by simp; omega
            have hB2 : B2.take 1 = B2 := List.take_of_length_le (by omega)
            rw [hB2] at hJ hjoin
            have hJo := joined17 ha B2 (by omega) hjoin (by omega)
            rw [hJ] at hJo
            (repeat' (first | simp -dsimp (maxSteps := 2000000) (disch := first | omega | (simp; done) | (simp; omega)) only [SA, SB, SC, SD, SE, SF, SG, SI, Nat.reduceLT, Nat.reduceAdd, Nat.reduceSub, Nat.reduceMul, Nat.reduceLeDiff, Nat.reduceEqDiff, Nat.reduceBEq, Int.reduceToNat, Int.reduceLE, Int.reduceLT, Int.reduceEq, Int.reduceNeg, reduceCtorEq, ↓reduceIte, hc, hc2, z0] | refine Cut.go ?_ | refine Both.intro ?_ ?_ | refine via gd17 (hJo _) ?_ | refine texts_call hxa ha (by omega) ?_ | refine texts_call hxb one (by simp) ?_ | refine awake_call ?_ | (refine Br.intro ?_ ?_ <;> intro hb <;> have hb' := hb <;> (try simp only [SH] at hb') <;> (try simp -dsimp (maxSteps := 2000000) (disch := first | omega | (simp; done) | (simp; omega)) only [SA, SB, SC, SD, SE, SF, SG, SI, Nat.reduceLT, Nat.reduceAdd, Nat.reduceSub, Nat.reduceMul, Nat.reduceLeDiff, Nat.reduceEqDiff, Nat.reduceBEq, Int.reduceToNat, Int.reduceLE, Int.reduceLT, Int.reduceEq, Int.reduceNeg, reduceCtorEq, ↓reduceIte, hb, hc, hc2, z0]))))
  · obtain ⟨t, xr, yr, sxr, syr, rfl⟩ := h
    refine ⟨_, Drops.refl _, ?_⟩
    have dd := dcells3 sxr syr sn2
    (repeat' (first | simp -dsimp (maxSteps := 2000000) (disch := first | omega | (simp; done) | (simp; omega)) only [SA, SB, SC, SD, SE, SF, SG, SI, Nat.reduceLT, Nat.reduceAdd, Nat.reduceSub, Nat.reduceMul, Nat.reduceLeDiff, Nat.reduceEqDiff, Nat.reduceBEq, Int.reduceToNat, Int.reduceLE, Int.reduceLT, Int.reduceEq, Int.reduceNeg, reduceCtorEq, ↓reduceIte, dd] | refine Cut.go ?_ | refine Both.intro ?_ ?_ | refine awake_call ?_ | (refine Br.intro ?_ ?_ <;> intro hb <;> have hb' := hb <;> (try simp only [SH] at hb') <;> (try simp -dsimp (maxSteps := 2000000) (disch := first | omega | (simp; done) | (simp; omega)) only [SA, SB, SC, SD, SE, SF, SG, SI, Nat.reduceLT, Nat.reduceAdd, Nat.reduceSub, Nat.reduceMul, Nat.reduceLeDiff, Nat.reduceEqDiff, Nat.reduceBEq, Int.reduceToNat, Int.reduceLE, Int.reduceLT, Int.reduceEq, Int.reduceNeg, reduceCtorEq, ↓reduceIte, hb, dd]))))
end Go.Proofs.YthiidchbaicfgaaGreatDoor
