/-
  THE WALKS, layer 13, PART 34: the document's table is made, exactly: all of it; both tables.
-/
import Derived.Test.YthiidchbaicfgaaGreatDoorYC
namespace Go.Proofs.YthiidchbaicfgaaGreatDoor
open Go Go.Id
set_option linter.unusedSimpArgs false
set_option linter.unusedVariables false
set_option maxRecDepth 100000
set_option maxHeartbeats 8000000

theorem tget_away (n : List UInt8) : ∀ r : Vs, (∀ z ∈ r, ¬ z.1 = n) → tget n r = none
  | [], _ => rfl
  | q :: r, h => by rw [tget, if_neg (h q (by simp))]; exact tget_away n r fun z hz => h z (by simp [hz])
theorem tset_few (n v : List UInt8) : ∀ l : Vs, Sorted l → (tget n l).isSome = true → (tset n v l).length ≤ l.length
  | [], _, h => by cases h
  | q :: r, hs, h => by
    obtain ⟨h1, h2⟩ := List.pairwise_cons.1 hs
    rw [tset]
    split
    · rename_i hc
      have hq : ¬ q.1 = n := fun e => by rw [e, cb_refl] at hc; omega
      rw [tget, if_neg hq] at h
      have := tset_few n v r h2 h
      simp only [List.length_cons]; omega
    · rename_i hc
      split
      · simp
      · rename_i hq
        exfalso
        rw [tget, if_neg hq, tget_away n r] at h
        · cases h
        · intro z hz e
          have := h1 z hz
          rw [e] at this; exact hc this
theorem setE_keeps {n v : List UInt8} {l : Vs} (hl : l.length ≤ 64) (hs : Sorted l) : (setE n v l).2.length ≤ 64 ∧ Sorted (setE n v l).2 := by
  unfold setE
  split
  · split
    · exact ⟨hl, hs⟩
    · split
      · exact ⟨hl, hs⟩
      · rename_i hf
        refine ⟨?_, tset_sorted _ _ hs⟩
        cases hg : tget n l
        · have : ¬ 64 ≤ l.length := fun h => hf (by rw [hg]; simpa using h)
          have := tset_len n v l
          simp only []; omega
        · have := tset_few n v l hs (by rw [hg]; rfl)
          simp only []; omega
  · exact ⟨hl, hs⟩
def New21 (σ : St) (l : Vs) (a : D) (ag : List (List UInt8)) (o : Out) (s : St) : Prop :=
  (∃ x y, scal x = true ∧ scal y = true ∧ o = .ret (.tuple [.agg [x, y, .int .i64 0], .int .i64 (NewE l ag)]) ∧ (NewE l ag = 0 → y = a ∧ VarsR s x (newE l []).2 ∧ ∀ jv t k, x = .rslc jv 0 2 k (.opened t) → σ.next ≤ jv)) ∧ s.Fresh ∧ σ.next ≤ s.next ∧ ∀ i, i < σ.next → s.obj i = σ.obj i
theorem new21x {x a : D} {l : Vs} {ag : List (List UInt8)} (hx : Vz x l) (hl : l.length ≤ 1000) (ha : Strs a ag) (hal : ag.length ≤ 1000000) (σ : St) : Ok Tryz.prog 21 [x, a] σ (New21 σ l a ag) := by
  refine Ok.fresh fun hf => ?_
  have hlx := hx.len
  have sa := ha.scal
  apply en21
  simp -dsimp (maxSteps := 2000000) (disch := first | omega | (simp; done) | (simp; omega)) only [SA, SB, SC, SD, SE, SF, SG, SI, Nat.reduceLT, Nat.reduceAdd, Nat.reduceSub, Nat.reduceMul, Nat.reduceLeDiff, Nat.reduceEqDiff, Nat.reduceBEq, Int.reduceToNat, Int.reduceLE, Int.reduceLT, Int.reduceEq, Int.reduceNeg, reduceCtorEq, ↓reduceIte, ic21, List.replicate_succ, List.replicate_zero]
  (repeat' (first | simp -dsimp (maxSteps := 2000000) (disch := first | omega | (simp; done) | (simp; omega)) only [SA, SB, SC, SD, SE, SF, SG, SI, Nat.reduceLT, Nat.reduceAdd, Nat.reduceSub, Nat.reduceMul, Nat.reduceLeDiff, Nat.reduceEqDiff, Nat.reduceBEq, Int.reduceToNat, Int.reduceLE, Int.reduceLT, Int.reduceEq, Int.reduceNeg, reduceCtorEq, ↓reduceIte, hlx] | refine Cut.go ?_ | refine Both.intro ?_ ?_ | (refine Br.intro ?_ ?_ <;> intro hb <;> have hb' := hb <;> (try simp only [SH] at hb') <;> (try simp -dsimp (maxSteps := 2000000) (disch := first | omega | (simp; done) | (simp; omega)) only [SA, SB, SC, SD, SE, SF, SG, SI, Nat.reduceLT, Nat.reduceAdd, Nat.reduceSub, Nat.reduceMul, Nat.reduceLeDiff, Nat.reduceEqDiff, Nat.reduceBEq, Int.reduceToNat, Int.reduceLE, Int.reduceLT, Int.reduceEq, Int.reduceNeg, reduceCtorEq, ↓reduceIte, hb, hlx]))))
  have q0 : ((σ.alloc (.cells [.nils, .nils, .int .i64 0])).alloc (.cells [.nils, .nils, .int .i64 0])).obj σ.next = some (.cells [.nils, .nils, .int .i64 0]) := by rw [two_obj, if_neg (by omega), if_pos rfl]
  have q1 : ((σ.alloc (.cells [.nils, .nils, .int .i64 0])).alloc (.cells [.nils, .nils, .int .i64 0])).obj (σ.next + 1) = some (.cells [.nils, .nils, .int .i64 0]) := by rw [two_obj, if_pos rfl]
  have qlow : ∀ i, i < σ.next → ((σ.alloc (.cells [.nils, .nils, .int .i64 0])).alloc (.cells [.nils, .nils, .int .i64 0])).obj i = σ.obj i := fun i hi => by rw [two_obj, if_neg (by omega), if_neg (by omega)]
  have qf : ((σ.alloc (.cells [.nils, .nils, .int .i64 0])).alloc (.cells [.nils, .nils, .int .i64 0])).Fresh := fun i hi => by
    have : σ.next + 2 ≤ i := hi
    rw [two_obj, if_neg (by omega), if_neg (by omega)]; exact hf i (by omega)
  have qn : ((σ.alloc (.cells [.nils, .nils, .int .i64 0])).alloc (.cells [.nils, .nils, .int .i64 0])).next = σ.next + 2 := rfl
  generalize ((σ.alloc (.cells [.nils, .nils, .int .i64 0])).alloc (.cells [.nils, .nils, .int .i64 0])) = S at *
  refine loop_go (α := Nat × D × Int × Vs × St) (fun b => [x, a, .junk, .junk, .ref σ.next 0, .int .i64 0, .ref (σ.next + 1) 0, .int .i64 b.2.2.1, .int .i64 b.1] ++ List.replicate 36 .junk) (fun b => b.2.2.2.2) (fun b => l.length - b.1)
    (fun b => b.1 ≤ l.length ∧ scal b.2.1 = true ∧ b.2.2.2.2.obj σ.next = some (.cells [.nils, .nils, .int .i64 0]) ∧ b.2.2.2.2.obj (σ.next + 1) = some (.cells [b.2.1, .nils, .int .i64 0]) ∧ VarsR b.2.2.2.2 b.2.1 b.2.2.2.1 ∧ (b.2.2.2.1.length ≤ 64 ∧ Sorted b.2.2.2.1) ∧ newE (l.drop b.1) b.2.2.2.1 = newE l [] ∧ (∀ jv t k, b.2.1 = .rslc jv 0 2 k (.opened t) → σ.next + 2 ≤ jv) ∧ σ.next + 2 ≤ b.2.2.2.2.next ∧ b.2.2.2.2.Fresh ∧ (∀ i, i < σ.next → b.2.2.2.2.obj i = σ.obj i))
    (0, .nils, 0, [], S) ⟨Nat.zero_le _, rfl, q0, q1, .inl ⟨rfl, rfl⟩, ⟨by simp, List.Pairwise.nil⟩, rfl, fun _ _ _ e => (nomatch e), by simp only []; omega, qf, qlow⟩ (by ((try simp only [List.replicate_succ, List.replicate_zero, List.cons_append, List.nil_append]); repeat' (first | exact trivial | refine ⟨.inl rfl, ?_⟩ | refine ⟨.inr rfl, ?_⟩ | refine ⟨.inr (by simp), ?_⟩))) (Drops.refl _) ?_
  rintro ⟨i, xa, e, acc, s⟩ ⟨h1, sx, r0, r1, rx, ⟨hfew, hsr⟩, hE, hfar, hn, hfs, hlow⟩
  simp only [] at h1 sx r0 r1 rx hfew hsr hE hfar hn hfs hlow ⊢
  have hso : scalO (some xa) = some xa := by simp [scalO, sx]
  have w1 : (σ.next + 1 = σ.next) = False := by simp
  have w2 : (σ.next = σ.next + 1) = False := by simp
  have sn : scal .nils = true := rfl
  have sn2 : scal (.int .i64 0) = true := rfl
  have dz : dcells (.agg [.nils, .nils, .int .i64 0]) = some [.nils, .nils, .int .i64 0] := rfl
  simp -dsimp (maxSteps := 2000000) (disch := first | omega | (simp; done) | (simp; omega)) only [SA, SB, SC, SD, SE, SF, SG, SI, Nat.reduceLT, Nat.reduceAdd, Nat.reduceSub, Nat.reduceMul, Nat.reduceLeDiff, Nat.reduceEqDiff, Nat.reduceBEq, Int.reduceToNat, Int.reduceLE, Int.reduceLT, Int.reduceEq, Int.reduceNeg, reduceCtorEq, ↓reduceIte, List.replicate_succ, List.replicate_zero]
  by_cases hi : i < l.length
  · have hcond : decide ((i : Int) < l.length) = true := by simp; exact hi
    have ax := hx.at hi
    have hE2 : newE (l.drop i) acc = if (setE l[i].1 l[i].2 acc).1 = 0 then newE (l.drop (i + 1)) (setE l[i].1 l[i].2 acc).2 else ((setE l[i].1 l[i].2 acc).1, acc) := by
      rw [List.drop_eq_getElem_cons hi]; rfl
    rw [hE] at hE2
    have l0 : cellsAt [xa, D.nils, D.int .i64 0] 0 (some 3) = some (.agg [xa, .nils, .int .i64 0]) := rfl
    have l1 : cellsAt [D.str l[i].1, D.str l[i].2] 0 none = some (.str l[i].1) := rfl
    have l2 : cellsAt [D.str l[i].1, D.str l[i].2] 1 none = some (.str l[i].2) := rfl
    (repeat' (first | simp -dsimp (maxSteps := 2000000) (disch := first | omega | (simp; done) | (simp; omega)) only [SA, SB, SC, SD, SE, SF, SG, SI, Nat.reduceLT, Nat.reduceAdd, Nat.reduceSub, Nat.reduceMul, Nat.reduceLeDiff, Nat.reduceEqDiff, Nat.reduceBEq, Int.reduceToNat, Int.reduceLE, Int.reduceLT, Int.reduceEq, Int.reduceNeg, reduceCtorEq, ↓reduceIte, hlx, hcond, ax, r0, r1, l0, l1, l2] | refine Cut.go ?_ | refine Both.intro ?_ ?_ | (refine Br.intro ?_ ?_ <;> intro hb <;> have hb' := hb <;> (try simp only [SH] at hb') <;> (try simp -dsimp (maxSteps := 2000000) (disch := first | omega | (simp; done) | (simp; omega)) only [SA, SB, SC, SD, SE, SF, SG, SI, Nat.reduceLT, Nat.reduceAdd, Nat.reduceSub, Nat.reduceMul, Nat.reduceLeDiff, Nat.reduceEqDiff, Nat.reduceBEq, Int.reduceToNat, Int.reduceLE, Int.reduceLT, Int.reduceEq, Int.reduceNeg, reduceCtorEq, ↓reduceIte, hb, hlx, hcond, ax, r0, r1, l0, l1, l2]))))
    refine ⟨gd11, (set11x hfew hsr sx rfl rfl _ _ _ rx).mono fun o s1 h => ?_⟩
    obtain ⟨x', rfl, sx', hx', hf1, hn1, hlow1, hwh⟩ := h
    have u0 : s1.obj σ.next = some (.cells [.nils, .nils, .int .i64 0]) := by rw [hlow1 _ (by omega)]; exact r0
    have u1 : s1.obj (σ.next + 1) = some (.cells [xa, .nils, .int .i64 0]) := by rw [hlow1 _ (by omega)]; exact r1
    have dd : dcells (.agg [x', .nils, .int .i64 0]) = some [x', .nils, .int .i64 0] := dcells3 sx' rfl rfl
    have hk := setE_keeps (n := l[i].1) (v := l[i].2) hfew hsr
    by_cases h0 : (setE l[i].1 l[i].2 acc).1 = 0
    · have z : ((setE l[i].1 l[i].2 acc).1 != 0) = false := by simpa using h0
      rw [if_pos h0] at hE2
      (repeat' (first | simp -dsimp (maxSteps := 2000000) (disch := first | omega | (simp; done) | (simp; omega)) only [SA, SB, SC, SD, SE, SF, SG, SI, Nat.reduceLT, Nat.reduceAdd, Nat.reduceSub, Nat.reduceMul, Nat.reduceLeDiff, Nat.reduceEqDiff, Nat.reduceBEq, Int.reduceToNat, Int.reduceLE, Int.reduceLT, Int.reduceEq, Int.reduceNeg, reduceCtorEq, ↓reduceIte, dd, u0, u1, w1, w2, z, sx', sn, sn2] | refine Cut.go ?_ | refine Both.intro ?_ ?_ | (refine Br.intro ?_ ?_ <;> intro hb <;> have hb' := hb <;> (try simp only [SH] at hb') <;> (try simp -dsimp (maxSteps := 2000000) (disch := first | omega | (simp; done) | (simp; omega)) only [SA, SB, SC, SD, SE, SF, SG, SI, Nat.reduceLT, Nat.reduceAdd, Nat.reduceSub, Nat.reduceMul, Nat.reduceLeDiff, Nat.reduceEqDiff, Nat.reduceBEq, Int.reduceToNat, Int.reduceLE, Int.reduceLT, Int.reduceEq, Int.reduceNeg, reduceCtorEq, ↓reduceIte, hb, dd, u0, u1, w1, w2, z, sx', sn, sn2]))))
      refine Round.go (i + 1, x', (setE l[i].1 l[i].2 acc).1, (setE l[i].1 l[i].2 acc).2, s1.put (σ.next + 1) (some (.cells [x', .nils, .int .i64 0]))) (by simp only []; omega) ⟨by simp only []; omega, sx', ?_, ?_, ?_, hk, hE2.symm, ?_, ?_, ?_, ?_⟩ (by ((try simp only [List.replicate_succ, List.replicate_zero, List.cons_append, List.nil_append]); repeat' (first | exact trivial | refine ⟨.inl rfl, ?_⟩ | refine ⟨.inr rfl, ?_⟩ | refine ⟨.inr (by simp), ?_⟩))) (Drops.refl _)
      · simp only []; rw [put_obj, if_neg (by omega)]; exact u0
      · simp only []; rw [put_obj, if_pos rfl]
      · rcases hx' with h | ⟨jv, t, e1, o1⟩
        · exact .inl h
        · refine .inr ⟨jv, t, e1, ?_⟩
          simp only []
          rw [put_obj, if_neg ?_]; exact o1
          rcases hwh with e2 | e2
          · have := hfar _ _ _ (e2 ▸ e1); omega
          · have := e2 _ _ _ e1; omega
      · intro jv t k e1
        rcases hwh with e2 | e2
        · exact hfar _ _ _ (e2 ▸ e1)
        · have := e2 _ _ _ e1; omega
      · show σ.next + 2 ≤ s1.next; omega
      · exact put_fresh hf1 (by omega) _
      · intro i' hi'
        simp only []; rw [put_obj, if_neg (by omega), hlow1 _ (by omega)]; exact hlow i' hi'
    · have z : ((setE l[i].1 l[i].2 acc).1 != 0) = true := by simpa using h0
      rw [if_neg h0] at hE2
      (repeat' (first | simp -dsimp (maxSteps := 2000000) (disch := first | omega | (simp; done) | (simp; omega)) only [SA, SB, SC, SD, SE, SF, SG, SI, Nat.reduceLT, Nat.reduceAdd, Nat.reduceSub, Nat.reduceMul, Nat.reduceLeDiff, Nat.reduceEqDiff, Nat.reduceBEq, Int.reduceToNat, Int.reduceLE, Int.reduceLT, Int.reduceEq, Int.reduceNeg, reduceCtorEq, ↓reduceIte, dd, u0, u1, w1, w2, z, sx', sn, sn2, dz] | refine Cut.go ?_ | refine Both.intro ?_ ?_ | (refine Br.intro ?_ ?_ <;> intro hb <;> have hb' := hb <;> (try simp only [SH] at hb') <;> (try simp -dsimp (maxSteps := 2000000) (disch := first | omega | (simp; done) | (simp; omega)) only [SA, SB, SC, SD, SE, SF, SG, SI, Nat.reduceLT, Nat.reduceAdd, Nat.reduceSub, Nat.reduceMul, Nat.reduceLeDiff, Nat.reduceEqDiff, Nat.reduceBEq, Int.reduceToNat, Int.reduceLE, Int.reduceLT, Int.reduceEq, Int.reduceNeg, reduceCtorEq, ↓reduceIte, hb, dd, u0, u1, w1, w2, z, sx', sn, sn2, dz]))))
      have hN : NewE l ag = (setE l[i].1 l[i].2 acc).1 := by rw [NewE, hE2, if_neg h0]
      refine ⟨⟨.nils, .nils, rfl, rfl, by rw [hN], fun h => absurd (hN ▸ h) h0⟩, ?_, ?_, ?_⟩
      · exact put_fresh (put_fresh hf1 (by omega) _) (by show σ.next < s1.next; omega) _
      · show σ.next ≤ s1.next; omega
      · intro i' hi'
        rw [put_obj, if_neg (by omega), put_obj, if_neg (by omega), hlow1 _ (by omega)]; exact hlow i' hi'
  · have hcond : decide ((i : Int) < l.length) = false := by simp; omega
    have hE2 : newE l [] = (0, acc) := by
      rw [← hE, List.drop_of_length_le (by omega)]; rfl
    have l0 : cellsAt [xa, D.nils, D.int .i64 0] 0 (some 3) = some (.agg [xa, .nils, .int .i64 0]) := rfl
    (repeat' (first | simp -dsimp (maxSteps := 2000000) (disch := first | omega | (simp; done) | (simp; omega)) only [SA, SB, SC, SD, SE, SF, SG, SI, Nat.reduceLT, Nat.reduceAdd, Nat.reduceSub, Nat.reduceMul, Nat.reduceLeDiff, Nat.reduceEqDiff, Nat.reduceBEq, Int.reduceToNat, Int.reduceLE, Int.reduceLT, Int.reduceEq, Int.reduceNeg, reduceCtorEq, ↓reduceIte, hlx, hcond, r0, r1, l0] | refine Cut.go ?_ | refine Both.intro ?_ ?_ | (refine Br.intro ?_ ?_ <;> intro hb <;> have hb' := hb <;> (try simp only [SH] at hb') <;> (try simp -dsimp (maxSteps := 2000000) (disch := first | omega | (simp; done) | (simp; omega)) only [SA, SB, SC, SD, SE, SF, SG, SI, Nat.reduceLT, Nat.reduceAdd, Nat.reduceSub, Nat.reduceMul, Nat.reduceLeDiff, Nat.reduceEqDiff, Nat.reduceBEq, Int.reduceToNat, Int.reduceLE, Int.reduceLT, Int.reduceEq, Int.reduceNeg, reduceCtorEq, ↓reduceIte, hb, hlx, hcond, r0, r1, l0]))))
    refine ⟨gd41, (setArgs41x sx rfl rfl ha hal s).mono fun o s1 h => ?_⟩
    obtain ⟨⟨m, hm, rfl⟩, rfl⟩ := h
    cases hok : argsB ag
    · have hN : NewE l ag = 2 := by rw [NewE, hE2, if_pos rfl, hok]; rfl
      have dd : dcells (.agg [xa, .nils, .int .i64 0]) = some [xa, .nils, .int .i64 0] := dcells3 sx rfl rfl
      have z : ((2 : Int) != 0) = true := rfl
      (repeat' (first | simp -dsimp (maxSteps := 2000000) (disch := first | omega | (simp; done) | (simp; omega)) only [SA, SB, SC, SD, SE, SF, SG, SI, Nat.reduceLT, Nat.reduceAdd, Nat.reduceSub, Nat.reduceMul, Nat.reduceLeDiff, Nat.reduceEqDiff, Nat.reduceBEq, Int.reduceToNat, Int.reduceLE, Int.reduceLT, Int.reduceEq, Int.reduceNeg, reduceCtorEq, ↓reduceIte, dd, r0, r1, w1, w2, dz, sx, sn, sn2, z, Bool.false_eq_true] | refine Cut.go ?_ | refine Both.intro ?_ ?_ | (refine Br.intro ?_ ?_ <;> intro hb <;> have hb' := hb <;> (try simp only [SH] at hb') <;> (try simp -dsimp (maxSteps := 2000000) (disch := first | omega | (simp; done) | (simp; omega)) only [SA, SB, SC, SD, SE, SF, SG, SI, Nat.reduceLT, Nat.reduceAdd, Nat.reduceSub, Nat.reduceMul, Nat.reduceLeDiff, Nat.reduceEqDiff, Nat.reduceBEq, Int.reduceToNat, Int.reduceLE, Int.reduceLT, Int.reduceEq, Int.reduceNeg, reduceCtorEq, ↓reduceIte, hb, dd, r0, r1, w1, w2, dz, sx, sn, sn2, z, Bool.false_eq_true]))))
      refine ⟨⟨.nils, .nils, rfl, rfl, by rw [hN], fun h => absurd (hN ▸ h) (by decide)⟩, ?_, ?_, ?_⟩
      · exact put_fresh (put_fresh (σ := ⟨s.obj, m⟩) (fun i hi => hfs i (Nat.le_trans hm hi)) (by show σ.next + 1 < m; omega) _) (by show σ.next < m; omega) _
      · show σ.next ≤ m; omega
      · intro i' hi'
        rw [put_obj, if_neg (by omega), put_obj, if_neg (by omega)]; exact hlow i' hi'
    · have hN : NewE l ag = 0 := by rw [NewE, hE2, if_pos rfl, hok]; rfl
      have dd : dcells (.agg [xa, a, .int .i64 0]) = some [xa, a, .int .i64 0] := dcells3 sx sa rfl
      have l3 : cellsAt [xa, a, D.int .i64 0] 0 (some 3) = some (.agg [xa, a, .int .i64 0]) := rfl
      have z : ((0 : Int) != 0) = false := rfl
      (repeat' (first | simp -dsimp (maxSteps := 2000000) (disch := first | omega | (simp; done) | (simp; omega)) only [SA, SB, SC, SD, SE, SF, SG, SI, Nat.reduceLT, Nat.reduceAdd, Nat.reduceSub, Nat.reduceMul, Nat.reduceLeDiff, Nat.reduceEqDiff, Nat.reduceBEq, Int.reduceToNat, Int.reduceLE, Int.reduceLT, Int.reduceEq, Int.reduceNeg, reduceCtorEq, ↓reduceIte, dd, r0, r1, w1, w2, dz, sx, sa, sn, sn2, z, l3] | refine Cut.go ?_ | refine Both.intro ?_ ?_ | (refine Br.intro ?_ ?_ <;> intro hb <;> have hb' := hb <;> (try simp only [SH] at hb') <;> (try simp -dsimp (maxSteps := 2000000) (disch := first | omega | (simp; done) | (simp; omega)) only [SA, SB, SC, SD, SE, SF, SG, SI, Nat.reduceLT, Nat.reduceAdd, Nat.reduceSub, Nat.reduceMul, Nat.reduceLeDiff, Nat.reduceEqDiff, Nat.reduceBEq, Int.reduceToNat, Int.reduceLE, Int.reduceLT, Int.reduceEq, Int.reduceNeg, reduceCtorEq, ↓reduceIte, hb, dd, r0, r1, w1, w2, dz, sx, sa, sn, sn2, z, l3]))))
      refine ⟨⟨xa, a, sx, sa, by rw [hN], fun _ => ⟨rfl, ?_, fun jv t k e1 => by have := hfar jv t k e1; omega⟩⟩, ?_, ?_, ?_⟩
      · rw [hE2]
        rcases rx with h | ⟨jv, t, e1, o1⟩
        · exact .inl h
        · have := hfar _ _ _ e1
          exact .inr ⟨jv, t, e1, by rw [put_obj, if_neg (by omega), put_obj, if_neg (by omega)]; exact o1⟩
      · exact put_fresh (put_fresh (σ := ⟨s.obj, m⟩) (fun i hi => hfs i (Nat.le_trans hm hi)) (by show σ.next + 1 < m; omega) _) (by show σ.next < m; omega) _
      · show σ.next ≤ m; omega
      · intro i' hi'
        rw [put_obj, if_neg (by omega), put_obj, if_neg (by omega)]; exact hlow i' hi'
end Go.Proofs.YthiidchbaicfgaaGreatDoor
