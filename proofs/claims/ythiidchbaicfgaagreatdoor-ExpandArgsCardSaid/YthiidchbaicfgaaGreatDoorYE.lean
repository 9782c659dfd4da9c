/-
  THE WALKS, layer 13, PART 35: both tables, exactly.
-/
import Derived.Test.YthiidchbaicfgaaGreatDoorYD
namespace Go.Proofs.YthiidchbaicfgaaGreatDoor
open Go Go.Id
set_option linter.unusedSimpArgs false
set_option linter.unusedVariables false
set_option maxRecDepth 100000
set_option maxHeartbeats 8000000

theorem TabY.rebase {σ0 s s' : St} {j : Nat} {l : Vs} {y z : D} (h : TabY σ0 j l y z s) (ho : ∀ i, σ0.next ≤ i → i < s.next → s'.obj i = s.obj i) (hn : s.next ≤ s'.next) (hf : s'.Fresh) : TabY ⟨s'.obj, σ0.next⟩ j l y z s' := by
  have hlt : ∀ i o, s.obj i = some o → i < s.next := fun i o hi => Nat.lt_of_not_le fun hle => by rw [h.fresh i hle] at hi; cases hi
  have nj := h.nxt
  obtain ⟨a, h1, h2, h3, h4, h5, h6⟩ := h.x
  refine ⟨fun i hi => rfl, ⟨h.nxt.1, by omega⟩, hf, h.few, h.sorted, a, ?_, h2, h3, h4, ?_, h6⟩
  · rw [ho _ nj.1 nj.2]; exact h1
  · rcases h5 with ⟨rfl, rfl⟩ | ⟨b, t, rfl, o1, o2, o3⟩
    · exact .inl ⟨rfl, rfl⟩
    · obtain ⟨f1, f2, f3, f4, f5⟩ := h6 _ _ _ rfl
      exact .inr ⟨b, t, rfl, by rw [ho _ f1 (hlt _ _ o1)]; exact o1, by rw [ho _ f2 (hlt _ _ o2)]; exact o2, by rw [ho _ (by omega) (hlt _ _ o3)]; exact o3⟩
theorem TabY.foot {σ0 s : St} {j : Nat} {l : Vs} {y z x : D} (h : TabY σ0 j l y z s) (hx : s.obj j = some (.cells [x, y, z])) {i : Nat} (hi : foot x i) : i < s.next := by
  have hlt : ∀ i o, s.obj i = some o → i < s.next := fun i o hi => Nat.lt_of_not_le fun hle => by rw [h.fresh i hle] at hi; cases hi
  obtain ⟨a, h1, h2, h3, h4, h5, h6⟩ := h.x
  rw [hx] at h1
  simp only [Option.some.injEq, Ob.cells.injEq, List.cons.injEq] at h1
  obtain ⟨rfl, -⟩ := h1
  rcases h5 with ⟨rfl, rfl⟩ | ⟨b, t, rfl, o1, o2, o3⟩
  · exact hi.elim
  · rcases hi with rfl | rfl | rfl
    · exact hlt _ _ o1
    · exact hlt _ _ o2
    · exact hlt _ _ o3
/-- Both tables. -/
def Both (l : Vs) (a : D) (ag : List (List UInt8)) (j : Nat) (x : D) (s : St) : Prop := ∃ g B y, TabY g j (newE l []).2 y (.int .i64 0) s ∧ Strs y ag ∧ scal x = true ∧ VarsR s x (newE l []).2 ∧ j < B ∧ B ≤ s.next ∧ (∀ x', s.obj j = some (.cells [x', y, .int .i64 0]) → ∀ i, foot x' i → i < B) ∧ ∀ jv t k, x = .rslc jv 0 2 k (.opened t) → B ≤ jv
def okB (l : Vs) (ag : List (List UInt8)) : Bool := decide (l.length ≤ 40 ∧ ag.length ≤ 40 ∧ NewE l ag = 0)
def Out7 (l : Vs) (a : D) (ag : List (List UInt8)) (o : Out) (s : St) : Prop :=
  if okB l ag = true then ∃ j x, o = .ret (.tuple [.ref j 0, .agg [x, a, .int .i64 0], .bool true]) ∧ Both l a ag j x s
  else ∃ t x y, scal x = true ∧ scal y = true ∧ o = .ret (.tuple [t, .agg [x, y, .int .i64 0], .bool false])
theorem tables7x {x a : D} {l : Vs} {ag : List (List UInt8)} (hx : Vz x l) (ha : Strs a ag) (σ : St) : Ok Tryz.prog 7 [x, a] σ (Out7 l a ag) := by
  refine Ok.fresh fun hf => ?_
  have hlx := hx.len
  have hla := ha.len
  have sa := ha.scal
  have sn : scal .nils = true := rfl
  have sn2 : scal (.int .i64 0) = true := rfl
  have dz : dcells (.agg [.nils, .nils, .int .i64 0]) = some [.nils, .nils, .int .i64 0] := rfl
  have bad : okB l ag = false → ∀ {t x y : D} {s : St}, scal x = true → scal y = true → Out7 l a ag (.ret (.tuple [t, .agg [x, y, .int .i64 0], .bool false])) s := fun h {t x y s} h1 h2 => by
    rw [Out7, if_neg (by rw [h]; decide)]
    exact ⟨t, x, y, h1, h2, rfl⟩
  apply en7
  simp -dsimp (maxSteps := 2000000) (disch := first | omega | (simp; done) | (simp; omega)) only [SA, SB, SC, SD, SE, SF, SG, SI, Nat.reduceLT, Nat.reduceAdd, Nat.reduceSub, Nat.reduceMul, Nat.reduceLeDiff, Nat.reduceEqDiff, Nat.reduceBEq, Int.reduceToNat, Int.reduceLE, Int.reduceLT, Int.reduceEq, Int.reduceNeg, reduceCtorEq, ↓reduceIte, ic7, List.replicate_succ, List.replicate_zero]
  by_cases h40 : 40 < l.length
  · have hc1 : decide ((l.length : Int) > 40) = true := by simp; omega
    (repeat' (first | simp -dsimp (maxSteps := 2000000) (disch := first | omega | (simp; done) | (simp; omega)) only [SA, SB, SC, SD, SE, SF, SG, SI, Nat.reduceLT, Nat.reduceAdd, Nat.reduceSub, Nat.reduceMul, Nat.reduceLeDiff, Nat.reduceEqDiff, Nat.reduceBEq, Int.reduceToNat, Int.reduceLE, Int.reduceLT, Int.reduceEq, Int.reduceNeg, reduceCtorEq, ↓reduceIte, hlx, hla, hc1, dz, sn, sn2] | refine Cut.go ?_ | refine Both.intro ?_ ?_ | (refine Br.intro ?_ ?_ <;> intro hb <;> have hb' := hb <;> (try simp only [SH] at hb') <;> (try simp -dsimp (maxSteps := 2000000) (disch := first | omega | (simp; done) | (simp; omega)) only [SA, SB, SC, SD, SE, SF, SG, SI, Nat.reduceLT, Nat.reduceAdd, Nat.reduceSub, Nat.reduceMul, Nat.reduceLeDiff, Nat.reduceEqDiff, Nat.reduceBEq, Int.reduceToNat, Int.reduceLE, Int.reduceLT, Int.reduceEq, Int.reduceNeg, reduceCtorEq, ↓reduceIte, hb, hlx, hla, hc1, dz, sn, sn2]))))
    exact bad (by unfold okB; simp; omega) rfl rfl
  have hc1 : decide ((l.length : Int) > 40) = false := by simp; omega
  by_cases ha40 : 40 < ag.length
  · have hc2 : decide ((ag.length : Int) > 40) = true := by simp; omega
    (repeat' (first | simp -dsimp (maxSteps := 2000000) (disch := first | omega | (simp; done) | (simp; omega)) only [SA, SB, SC, SD, SE, SF, SG, SI, Nat.reduceLT, Nat.reduceAdd, Nat.reduceSub, Nat.reduceMul, Nat.reduceLeDiff, Nat.reduceEqDiff, Nat.reduceBEq, Int.reduceToNat, Int.reduceLE, Int.reduceLT, Int.reduceEq, Int.reduceNeg, reduceCtorEq, ↓reduceIte, hlx, hla, hc1, hc2, dz, sn, sn2] | refine Cut.go ?_ | refine Both.intro ?_ ?_ | (refine Br.intro ?_ ?_ <;> intro hb <;> have hb' := hb <;> (try simp only [SH] at hb') <;> (try simp -dsimp (maxSteps := 2000000) (disch := first | omega | (simp; done) | (simp; omega)) only [SA, SB, SC, SD, SE, SF, SG, SI, Nat.reduceLT, Nat.reduceAdd, Nat.reduceSub, Nat.reduceMul, Nat.reduceLeDiff, Nat.reduceEqDiff, Nat.reduceBEq, Int.reduceToNat, Int.reduceLE, Int.reduceLT, Int.reduceEq, Int.reduceNeg, reduceCtorEq, ↓reduceIte, hb, hlx, hla, hc1, hc2, dz, sn, sn2]))))
    exact bad (by unfold okB; simp; omega) rfl rfl
  have hc2 : decide ((ag.length : Int) > 40) = false := by simp; omega
  (repeat' (first | simp -dsimp (maxSteps := 2000000) (disch := first | omega | (simp; done) | (simp; omega)) only [SA, SB, SC, SD, SE, SF, SG, SI, Nat.reduceLT, Nat.reduceAdd, Nat.reduceSub, Nat.reduceMul, Nat.reduceLeDiff, Nat.reduceEqDiff, Nat.reduceBEq, Int.reduceToNat, Int.reduceLE, Int.reduceLT, Int.reduceEq, Int.reduceNeg, reduceCtorEq, ↓reduceIte, hlx, hla, hc1, hc2, dz, sn, sn2] | refine Cut.go ?_ | refine Both.intro ?_ ?_ | (refine Br.intro ?_ ?_ <;> intro hb <;> have hb' := hb <;> (try simp only [SH] at hb') <;> (try simp -dsimp (maxSteps := 2000000) (disch := first | omega | (simp; done) | (simp; omega)) only [SA, SB, SC, SD, SE, SF, SG, SI, Nat.reduceLT, Nat.reduceAdd, Nat.reduceSub, Nat.reduceMul, Nat.reduceLeDiff, Nat.reduceEqDiff, Nat.reduceBEq, Int.reduceToNat, Int.reduceLE, Int.reduceLT, Int.reduceEq, Int.reduceNeg, reduceCtorEq, ↓reduceIte, hb, hlx, hla, hc1, hc2, dz, sn, sn2]))))
  refine ⟨gd19, (new19x hx (by omega) ha (by omega) _).mono fun o s1 h => ?_⟩
  unfold NewOut at h
  by_cases hN : NewE l ag = 0
  · rw [if_pos hN] at h
    obtain ⟨y, hy, rfl, hT⟩ := h
    (repeat' (first | simp -dsimp (maxSteps := 2000000) (disch := first | omega | (simp; done) | (simp; omega)) only [SA, SB, SC, SD, SE, SF, SG, SI, Nat.reduceLT, Nat.reduceAdd, Nat.reduceSub, Nat.reduceMul, Nat.reduceLeDiff, Nat.reduceEqDiff, Nat.reduceBEq, Int.reduceToNat, Int.reduceLE, Int.reduceLT, Int.reduceEq, Int.reduceNeg, reduceCtorEq, ↓reduceIte] | refine Cut.go ?_ | refine Both.intro ?_ ?_ | (refine Br.intro ?_ ?_ <;> intro hb <;> have hb' := hb <;> (try simp only [SH] at hb') <;> (try simp -dsimp (maxSteps := 2000000) (disch := first | omega | (simp; done) | (simp; omega)) only [SA, SB, SC, SD, SE, SF, SG, SI, Nat.reduceLT, Nat.reduceAdd, Nat.reduceSub, Nat.reduceMul, Nat.reduceLeDiff, Nat.reduceEqDiff, Nat.reduceBEq, Int.reduceToNat, Int.reduceLE, Int.reduceLT, Int.reduceEq, Int.reduceNeg, reduceCtorEq, ↓reduceIte, hb]))))
    refine ⟨gd21, (new21x hx (by omega) ha (by omega) _).mono fun o s2 h => ?_⟩
    obtain ⟨⟨xr, yr, sxr, syr, rfl, hok⟩, hf2, hn2, hlow2⟩ := h
    obtain ⟨rfl, hV, hfar⟩ := hok hN
    rw [hN]
    have dd := dcells3 sxr sa sn2
    have hT1 := hT.nxt
    simp only [alloc_next] at hT1
    have w1 : (σ.next = s2.next) = False := by simp; omega
    have ob : s2.obj σ.next = some (.cells [.nils, .nils, .int .i64 0]) := by
      rw [hlow2 _ (by omega), hT.low _ (by rw [alloc_next]; omega), alloc_obj, if_pos rfl]
    have l3 : cellsAt [xr, yr, D.int .i64 0] 0 (some 3) = some (.agg [xr, yr, .int .i64 0]) := rfl
    (repeat' (first | simp -dsimp (maxSteps := 2000000) (disch := first | omega | (simp; done) | (simp; omega)) only [SA, SB, SC, SD, SE, SF, SG, SI, Nat.reduceLT, Nat.reduceAdd, Nat.reduceSub, Nat.reduceMul, Nat.reduceLeDiff, Nat.reduceEqDiff, Nat.reduceBEq, Int.reduceToNat, Int.reduceLE, Int.reduceLT, Int.reduceEq, Int.reduceNeg, reduceCtorEq, ↓reduceIte, dd, sxr, sa, sn2, dz, w1, ob, l3] | refine Cut.go ?_ | refine Both.intro ?_ ?_ | (refine Br.intro ?_ ?_ <;> intro hb <;> have hb' := hb <;> (try simp only [SH] at hb') <;> (try simp -dsimp (maxSteps := 2000000) (disch := first | omega | (simp; done) | (simp; omega)) only [SA, SB, SC, SD, SE, SF, SG, SI, Nat.reduceLT, Nat.reduceAdd, Nat.reduceSub, Nat.reduceMul, Nat.reduceLeDiff, Nat.reduceEqDiff, Nat.reduceBEq, Int.reduceToNat, Int.reduceLE, Int.reduceLT, Int.reduceEq, Int.reduceNeg, reduceCtorEq, ↓reduceIte, hb, dd, sxr, sa, sn2, dz, w1, ob, l3]))))
    rw [Out7, if_pos (by unfold okB; simp; omega)]
    have hT2 := hT.other hlow2 hn2 hf2
    have hF : ∀ i, i ≠ σ.next → i < s2.next → (((s2.alloc (.cells [.nils, .nils, .int .i64 0])).put s2.next (some (.cells [xr, yr, .int .i64 0]))).put σ.next (some (.cells [xr, yr, .int .i64 0]))).obj i = s2.obj i := fun i h1 h2 => by
      rw [put_obj, if_neg h1, put_obj, if_neg (by omega), alloc_obj, if_neg (by omega)]
    have hFf := put_fresh (put_fresh (alloc_fresh hf2 (.cells [.nils, .nils, .int .i64 0])) (j := s2.next) (by rw [alloc_next]; omega) (some (.cells [xr, yr, .int .i64 0]))) (j := σ.next) (by show σ.next < s2.next + 1; omega) (some (.cells [xr, yr, .int .i64 0]))
    have hlt2 : ∀ i o, s2.obj i = some o → i < s2.next := fun i o hi => Nat.lt_of_not_le fun hle => by rw [hf2 i hle] at hi; cases hi
    refine ⟨σ.next + 1, xr, rfl, _, s1.next, y, hT2.rebase (fun i h1 h2 => hF i (by rw [alloc_next] at h1; omega) h2) (by show s2.next ≤ s2.next + 1; omega) hFf, hy, sxr, ?_, hT1.2, ?_, fun x' hx' i hi => ?_, hfar⟩
    · rcases hV with h | ⟨jv, t, e1, o1⟩
      · exact .inl h
      · have := hfar _ _ _ e1
        exact .inr ⟨jv, t, e1, by rw [hF jv (by omega) (hlt2 _ _ o1)]; exact o1⟩
    · show s1.next ≤ s2.next + 1; omega
    · rw [hF _ (by omega) (by omega), hlow2 _ (by omega)] at hx'
      exact hT.foot hx' hi
  · rw [if_neg hN] at h
    obtain ⟨⟨m, hm, rfl⟩, rfl⟩ := h
    (repeat' (first | simp -dsimp (maxSteps := 2000000) (disch := first | omega | (simp; done) | (simp; omega)) only [SA, SB, SC, SD, SE, SF, SG, SI, Nat.reduceLT, Nat.reduceAdd, Nat.reduceSub, Nat.reduceMul, Nat.reduceLeDiff, Nat.reduceEqDiff, Nat.reduceBEq, Int.reduceToNat, Int.reduceLE, Int.reduceLT, Int.reduceEq, Int.reduceNeg, reduceCtorEq, ↓reduceIte] | refine Cut.go ?_ | refine Both.intro ?_ ?_ | (refine Br.intro ?_ ?_ <;> intro hb <;> have hb' := hb <;> (try simp only [SH] at hb') <;> (try simp -dsimp (maxSteps := 2000000) (disch := first | omega | (simp; done) | (simp; omega)) only [SA, SB, SC, SD, SE, SF, SG, SI, Nat.reduceLT, Nat.reduceAdd, Nat.reduceSub, Nat.reduceMul, Nat.reduceLeDiff, Nat.reduceEqDiff, Nat.reduceBEq, Int.reduceToNat, Int.reduceLE, Int.reduceLT, Int.reduceEq, Int.reduceNeg, reduceCtorEq, ↓reduceIte, hb]))))
    refine ⟨gd21, (new21x hx (by omega) ha (by omega) _).mono fun o s2 h => ?_⟩
    obtain ⟨⟨xr, yr, sxr, syr, rfl, hok⟩, hf2, hn2, hlow2⟩ := h
    have dd := dcells3 sxr syr sn2
    simp only [alloc_next] at hm
    have w1 : (σ.next = s2.next) = False := by simp; have : m ≤ s2.next := hn2; omega
    have ob : s2.obj σ.next = some (.cells [.nils, .nils, .int .i64 0]) := by
      rw [hlow2 _ (by show σ.next < m; omega)]
      show (σ.alloc _).obj σ.next = _
      rw [alloc_obj, if_pos rfl]
    have l3 : cellsAt [xr, yr, D.int .i64 0] 0 (some 3) = some (.agg [xr, yr, .int .i64 0]) := rfl
    have z : (NewE l ag == 0) = false := by simpa using hN
    (repeat' (first | simp -dsimp (maxSteps := 2000000) (disch := first | omega | (simp; done) | (simp; omega)) only [SA, SB, SC, SD, SE, SF, SG, SI, Nat.reduceLT, Nat.reduceAdd, Nat.reduceSub, Nat.reduceMul, Nat.reduceLeDiff, Nat.reduceEqDiff, Nat.reduceBEq, Int.reduceToNat, Int.reduceLE, Int.reduceLT, Int.reduceEq, Int.reduceNeg, reduceCtorEq, ↓reduceIte, dd, sxr, syr, sn2, dz, w1, ob, l3, z] | refine Cut.go ?_ | refine Both.intro ?_ ?_ | (refine Br.intro ?_ ?_ <;> intro hb <;> have hb' := hb <;> (try simp only [SH] at hb') <;> (try simp -dsimp (maxSteps := 2000000) (disch := first | omega | (simp; done) | (simp; omega)) only [SA, SB, SC, SD, SE, SF, SG, SI, Nat.reduceLT, Nat.reduceAdd, Nat.reduceSub, Nat.reduceMul, Nat.reduceLeDiff, Nat.reduceEqDiff, Nat.reduceBEq, Int.reduceToNat, Int.reduceLE, Int.reduceLT, Int.reduceEq, Int.reduceNeg, reduceCtorEq, ↓reduceIte, hb, dd, sxr, syr, sn2, dz, w1, ob, l3, z]))))
    exact bad (by unfold okB; simp; omega) sxr syr
end Go.Proofs.YthiidchbaicfgaaGreatDoor
