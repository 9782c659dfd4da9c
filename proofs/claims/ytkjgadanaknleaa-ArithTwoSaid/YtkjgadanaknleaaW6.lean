/-
  THE WALKS, PART 6: what binds two.
-/
import Derived.Test.YtkjgadanaknleaaW5
namespace Go.Proofs.Ytkjgadanaknleaa
open Go Go.Id
set_option linter.unusedSimpArgs false
set_option linter.unusedVariables false
set_option maxRecDepth 100000
set_option maxHeartbeats 4000000

structure BinS where
  x : Rd
  f : Nat
  n : Nat
theorem level_le (s : List UInt8) : 0 ≤ levelOf s ∧ levelOf s ≤ 10 := by
  unfold levelOf
  repeat' (first | omega | split)
theorem loopF_end {f : Nat} {least deep : Int} {x : Rd} (h : ¬ levelOf (nextOf x.rest) ≥ least) : loopF (f + 1) least x deep = .ok x := by rw [loopF, if_neg h]
theorem loopF_none {f : Nat} {least deep : Int} {nd : Nd} (h : levelOf [] ≥ least) : loopF (f + 1) least ⟨nd, []⟩ deep = .error 61 := by rw [loopF, if_pos (show levelOf (nextOf []) ≥ least from h)]
theorem loopF_cons {f : Nat} {least deep : Int} {nd : Nd} {q : Tok} {r : List Tok} (h : levelOf q.sign ≥ least) : loopF (f + 1) least ⟨nd, q :: r⟩ deep = match binF f (levelOf q.sign + 1) r deep with
    | .error e => .error e
    | .ok y => loopF f least ⟨.two q nd y.nd, y.rest⟩ deep := by rw [loopF, if_pos (show levelOf (nextOf (q :: r)) ≥ least from h)]; rfl
theorem bin_walk (f : Nat) (least : Int) (l : List Tok) (deep : Int) (hfit : Fit l deep) (hm : 4 * l.length + 2 ≤ f + 1)
    (hun : Parses 72 [] (unF f l deep) l deep)
    (hbin : ∀ f' least' r, f' ≤ f → 4 * r.length + 2 ≤ f' → Fit r deep → Parses 56 [.int .i64 least'] (binF f' least' r deep) r deep) : Parses 56 [.int .i64 least] (binF (f + 1) least l deep) l deep := by
  intro σ j t h
  refine Ok.fresh fun hf => Ok.drop ?_
  have hlt : j < σ.next := Nat.lt_of_not_le fun hle => by rw [hf _ hle] at h; cases h
  apply en56
  simp -dsimp (maxSteps := 2000000) (disch := first | omega | (simp; done) | (simp; omega)) only [SA, SB, SC, SD, SE, SF, SG, Nat.reduceLT, Nat.reduceAdd, Nat.reduceSub, Nat.reduceMul, Nat.reduceLeDiff, Nat.reduceEqDiff, Nat.reduceBEq, Int.reduceToNat, Int.reduceLE, Int.reduceLT, Int.reduceEq, Int.reduceNeg, reduceCtorEq, ↓reduceIte, ic56, List.replicate_succ, List.replicate_zero]
  (repeat' (first | simp -dsimp (maxSteps := 2000000) (disch := first | omega | (simp; done) | (simp; omega)) only [SA, SB, SC, SD, SE, SF, SG, Nat.reduceLT, Nat.reduceAdd, Nat.reduceSub, Nat.reduceMul, Nat.reduceLeDiff, Nat.reduceEqDiff, Nat.reduceBEq, Int.reduceToNat, Int.reduceLE, Int.reduceLT, Int.reduceEq, Int.reduceNeg, reduceCtorEq, ↓reduceIte] | refine Cut.go ?_ | refine Both.intro ?_ ?_ | (refine Br.intro ?_ ?_ <;> intro hb <;> have hb' := hb <;> (try simp only [SH] at hb') <;> (try simp -dsimp (maxSteps := 2000000) (disch := first | omega | (simp; done) | (simp; omega)) only [SA, SB, SC, SD, SE, SF, SG, Nat.reduceLT, Nat.reduceAdd, Nat.reduceSub, Nat.reduceMul, Nat.reduceLeDiff, Nat.reduceEqDiff, Nat.reduceBEq, Int.reduceToNat, Int.reduceLE, Int.reduceLT, Int.reduceEq, Int.reduceNeg, reduceCtorEq, ↓reduceIte, hb]))))
  refine hun.call gd72 h fun n1 hn1 => ⟨fun x hx => ?_, fun e he l' deep' => ?_⟩
  rotate_left
  · (repeat' (first | simp -dsimp (maxSteps := 2000000) (disch := first | omega | (simp; done) | (simp; omega)) only [SA, SB, SC, SD, SE, SF, SG, Nat.reduceLT, Nat.reduceAdd, Nat.reduceSub, Nat.reduceMul, Nat.reduceLeDiff, Nat.reduceEqDiff, Nat.reduceBEq, Int.reduceToNat, Int.reduceLE, Int.reduceLT, Int.reduceEq, Int.reduceNeg, reduceCtorEq, ↓reduceIte] | refine Cut.go ?_ | refine Both.intro ?_ ?_ | (refine Br.intro ?_ ?_ <;> intro hb <;> have hb' := hb <;> (try simp only [SH] at hb') <;> (try simp -dsimp (maxSteps := 2000000) (disch := first | omega | (simp; done) | (simp; omega)) only [SA, SB, SC, SD, SE, SF, SG, Nat.reduceLT, Nat.reduceAdd, Nat.reduceSub, Nat.reduceMul, Nat.reduceLeDiff, Nat.reduceEqDiff, Nat.reduceBEq, Int.reduceToNat, Int.reduceLE, Int.reduceLT, Int.reduceEq, Int.reduceNeg, reduceCtorEq, ↓reduceIte, hb]))))
    exact ⟨_, Drops.refl _, PR.err l' deep' (by simp only [binF, he]) hn1⟩
  have hspec : binF (f + 1) least l deep = loopF f least x deep := by simp only [binF, hx]
  have hsub : Sub x.rest l := (subF f).2.2.2.1 _ _ _ hx
  rw [hspec]
  have hsl := hsub.2
  (repeat' (first | simp -dsimp (maxSteps := 2000000) (disch := first | omega | (simp; done) | (simp; omega)) only [SA, SB, SC, SD, SE, SF, SG, Nat.reduceLT, Nat.reduceAdd, Nat.reduceSub, Nat.reduceMul, Nat.reduceLeDiff, Nat.reduceEqDiff, Nat.reduceBEq, Int.reduceToNat, Int.reduceLE, Int.reduceLT, Int.reduceEq, Int.reduceNeg, reduceCtorEq, ↓reduceIte] | refine Cut.go ?_ | refine Both.intro ?_ ?_ | (refine Br.intro ?_ ?_ <;> intro hb <;> have hb' := hb <;> (try simp only [SH] at hb') <;> (try simp -dsimp (maxSteps := 2000000) (disch := first | omega | (simp; done) | (simp; omega)) only [SA, SB, SC, SD, SE, SF, SG, Nat.reduceLT, Nat.reduceAdd, Nat.reduceSub, Nat.reduceMul, Nat.reduceLeDiff, Nat.reduceEqDiff, Nat.reduceBEq, Int.reduceToNat, Int.reduceLE, Int.reduceLT, Int.reduceEq, Int.reduceNeg, reduceCtorEq, ↓reduceIte, hb]))))
  refine loop_go (fun a => [.ref j 0, .int .i64 least, .junk, .junk, .nilp, a.x.nd.d] ++ List.replicate 22 .junk) (fun a => rdSt σ j a.x.rest t deep a.n) (fun a => a.f)
    (fun a : BinS => loopF f least x deep = loopF a.f least a.x deep ∧ σ.next ≤ a.n ∧ Fit a.x.rest deep ∧ 4 * a.x.rest.length + 1 ≤ a.f ∧ a.f ≤ f) ⟨x, f, n1⟩ ⟨rfl, hn1, hfit.sub hsub, (by show 4 * x.rest.length + 1 ≤ f; omega), Nat.le_refl _⟩ (by ((try simp only [List.replicate_succ, List.replicate_zero, List.cons_append, List.nil_append]); repeat' (first | exact trivial | refine ⟨.inl rfl, ?_⟩ | refine ⟨.inr rfl, ?_⟩ | refine ⟨.inr (by simp), ?_⟩))) (Drops.refl _) ?_
  rintro ⟨⟨nd, rest⟩, g, n⟩ ⟨hi1, hi2, hi3, hi4, hi5⟩
  simp only [] at hi1 hi2 hi3 hi4 hi5 ⊢
  obtain ⟨g, rfl⟩ : ∃ g', g = g' + 1 := ⟨g - 1, by omega⟩
  simp -dsimp (maxSteps := 2000000) (disch := first | omega | (simp; done) | (simp; omega)) only [SA, SB, SC, SD, SE, SF, SG, Nat.reduceLT, Nat.reduceAdd, Nat.reduceSub, Nat.reduceMul, Nat.reduceLeDiff, Nat.reduceEqDiff, Nat.reduceBEq, Int.reduceToNat, Int.reduceLE, Int.reduceLT, Int.reduceEq, Int.reduceNeg, reduceCtorEq, ↓reduceIte, List.replicate_succ, List.replicate_zero]
  (repeat' (first | simp -dsimp (maxSteps := 2000000) (disch := first | omega | (simp; done) | (simp; omega)) only [SA, SB, SC, SD, SE, SF, SG, Nat.reduceLT, Nat.reduceAdd, Nat.reduceSub, Nat.reduceMul, Nat.reduceLeDiff, Nat.reduceEqDiff, Nat.reduceBEq, Int.reduceToNat, Int.reduceLE, Int.reduceLT, Int.reduceEq, Int.reduceNeg, reduceCtorEq, ↓reduceIte] | refine Cut.go ?_ | refine Both.intro ?_ ?_ | refine next_call (rdSt_at ..) ?_ | refine level_call ?_ | (refine Br.intro ?_ ?_ <;> intro hb <;> have hb' := hb <;> (try simp only [SH] at hb') <;> (try simp -dsimp (maxSteps := 2000000) (disch := first | omega | (simp; done) | (simp; omega)) only [SA, SB, SC, SD, SE, SF, SG, Nat.reduceLT, Nat.reduceAdd, Nat.reduceSub, Nat.reduceMul, Nat.reduceLeDiff, Nat.reduceEqDiff, Nat.reduceBEq, Int.reduceToNat, Int.reduceLE, Int.reduceLT, Int.reduceEq, Int.reduceNeg, reduceCtorEq, ↓reduceIte, hb]))))
  · cases rest with
    | nil =>
      refine take_none (rdSt_at ..) fun n2 hn2 => ?_
      simp only [rdSt_next] at hn2
      (repeat' (first | simp -dsimp (maxSteps := 2000000) (disch := first | omega | (simp; done) | (simp; omega)) only [SA, SB, SC, SD, SE, SF, SG, Nat.reduceLT, Nat.reduceAdd, Nat.reduceSub, Nat.reduceMul, Nat.reduceLeDiff, Nat.reduceEqDiff, Nat.reduceBEq, Int.reduceToNat, Int.reduceLE, Int.reduceLT, Int.reduceEq, Int.reduceNeg, reduceCtorEq, ↓reduceIte, rdSt_rdSt] | refine Cut.go ?_ | refine Both.intro ?_ ?_ | (refine Br.intro ?_ ?_ <;> intro hb <;> have hb' := hb <;> (try simp only [SH] at hb') <;> (try simp -dsimp (maxSteps := 2000000) (disch := first | omega | (simp; done) | (simp; omega)) only [SA, SB, SC, SD, SE, SF, SG, Nat.reduceLT, Nat.reduceAdd, Nat.reduceSub, Nat.reduceMul, Nat.reduceLeDiff, Nat.reduceEqDiff, Nat.reduceBEq, Int.reduceToNat, Int.reduceLE, Int.reduceLT, Int.reduceEq, Int.reduceNeg, reduceCtorEq, ↓reduceIte, hb, rdSt_rdSt]))))
      exact ⟨_, Drops.refl _, PR.err [] deep (by rw [hi1]; exact loopF_none hb') (by omega)⟩
    | cons q r =>
      simp only [nextOf] at hb hb'
      simp only [List.length_cons] at hi4
      refine take_call (rdSt_at ..) fun n2 hn2 => ?_
      rw [rdSt_rdSt]
      simp only [rdSt_next] at hn2
      (repeat' (first | simp -dsimp (maxSteps := 2000000) (disch := first | omega | (simp; done) | (simp; omega)) only [SA, SB, SC, SD, SE, SF, SG, Nat.reduceLT, Nat.reduceAdd, Nat.reduceSub, Nat.reduceMul, Nat.reduceLeDiff, Nat.reduceEqDiff, Nat.reduceBEq, Int.reduceToNat, Int.reduceLE, Int.reduceLT, Int.reduceEq, Int.reduceNeg, reduceCtorEq, ↓reduceIte, Tok.d, alloc_obj, rdSt_next] | refine Cut.go ?_ | refine Both.intro ?_ ?_ | (refine Br.intro ?_ ?_ <;> intro hb <;> have hb' := hb <;> (try simp only [SH] at hb') <;> (try simp -dsimp (maxSteps := 2000000) (disch := first | omega | (simp; done) | (simp; omega)) only [SA, SB, SC, SD, SE, SF, SG, Nat.reduceLT, Nat.reduceAdd, Nat.reduceSub, Nat.reduceMul, Nat.reduceLeDiff, Nat.reduceEqDiff, Nat.reduceBEq, Int.reduceToNat, Int.reduceLE, Int.reduceLT, Int.reduceEq, Int.reduceNeg, reduceCtorEq, ↓reduceIte, hb, Tok.d, alloc_obj, rdSt_next]))))
      have kp := Kept.new (σ := σ) (j := j) (t := t) (l := r) (deep := deep) (n := n2) q [.str [], .str [], .int .i64 0] hlt (by omega)
      have h2 : (((rdSt σ j r t deep n2).alloc (.cells [.str [], .str [], .int .i64 0])).put n2 (some (.cells [.str q.sign, .str q.name, .int .i64 q.n]))).obj j = some (rdr r t deep) := by
        rw [put_obj, if_neg kp.ne.symm, alloc_obj, if_neg (by simp only [rdSt_next]; omega), rdSt_at]
      have hx2 : (((rdSt σ j r t deep n2).alloc (.cells [.str [], .str [], .int .i64 0])).put n2 (some (.cells [.str q.sign, .str q.name, .int .i64 q.n]))).next = n2 + 1 := rfl
      have hk2 := kp.at_k
      generalize ((rdSt σ j r t deep n2).alloc (.cells [.str [], .str [], .int .i64 0])).put n2 (some (.cells [.str q.sign, .str q.name, .int .i64 q.n])) = σ2 at kp h2 hx2 hk2 ⊢
      have hk : ∀ l t d n, (rdSt σ2 j l t d n).obj n2 = some (.cells [.str q.sign, .str q.name, .int .i64 q.n]) := fun l t d n => by rw [rdSt_obj, if_neg kp.ne, kp.at_k]
      have hlv := level_le q.sign
      have hl1 := level_le q.sign
      (repeat' (first | simp -dsimp (maxSteps := 2000000) (disch := first | omega | (simp; done) | (simp; omega)) only [SA, SB, SC, SD, SE, SF, SG, Nat.reduceLT, Nat.reduceAdd, Nat.reduceSub, Nat.reduceMul, Nat.reduceLeDiff, Nat.reduceEqDiff, Nat.reduceBEq, Int.reduceToNat, Int.reduceLE, Int.reduceLT, Int.reduceEq, Int.reduceNeg, reduceCtorEq, ↓reduceIte, hk2] | refine Cut.go ?_ | refine Both.intro ?_ ?_ | refine level_call ?_ | (refine Br.intro ?_ ?_ <;> intro hb <;> have hb' := hb <;> (try simp only [SH] at hb') <;> (try simp -dsimp (maxSteps := 2000000) (disch := first | omega | (simp; done) | (simp; omega)) only [SA, SB, SC, SD, SE, SF, SG, Nat.reduceLT, Nat.reduceAdd, Nat.reduceSub, Nat.reduceMul, Nat.reduceLeDiff, Nat.reduceEqDiff, Nat.reduceBEq, Int.reduceToNat, Int.reduceLE, Int.reduceLT, Int.reduceEq, Int.reduceNeg, reduceCtorEq, ↓reduceIte, hb, hk2]))))
      refine (hbin g _ r (by omega) (by omega) hi3.tail).call gd56 h2 fun n3 hn3 => ⟨fun y hy => ?_, fun e he l' deep' => ?_⟩
      · (repeat' (first | simp -dsimp (maxSteps := 2000000) (disch := first | omega | (simp; done) | (simp; omega)) only [SA, SB, SC, SD, SE, SF, SG, Nat.reduceLT, Nat.reduceAdd, Nat.reduceSub, Nat.reduceMul, Nat.reduceLeDiff, Nat.reduceEqDiff, Nat.reduceBEq, Int.reduceToNat, Int.reduceLE, Int.reduceLT, Int.reduceEq, Int.reduceNeg, reduceCtorEq, ↓reduceIte, hk, dc_nd] | refine Cut.go ?_ | refine Both.intro ?_ ?_ | (refine Br.intro ?_ ?_ <;> intro hb <;> have hb' := hb <;> (try simp only [SH] at hb') <;> (try simp -dsimp (maxSteps := 2000000) (disch := first | omega | (simp; done) | (simp; omega)) only [SA, SB, SC, SD, SE, SF, SG, Nat.reduceLT, Nat.reduceAdd, Nat.reduceSub, Nat.reduceMul, Nat.reduceLeDiff, Nat.reduceEqDiff, Nat.reduceBEq, Int.reduceToNat, Int.reduceLE, Int.reduceLT, Int.reduceEq, Int.reduceNeg, reduceCtorEq, ↓reduceIte, hb, hk, dc_nd]))))
        have s2 : Sub y.rest r := (subF g).2.2.1 _ _ _ _ hy
        have l2 := s2.2
        refine Round.go ⟨⟨.two q nd y.nd, y.rest⟩, g, n3⟩ (Nat.lt_succ_self _) ⟨?_, ?_, ?_, ?_, ?_⟩ ?_ (kp.drops hf ..)
        · rw [hi1, loopF_cons hb', hy]
        · show σ.next ≤ n3; omega
        · exact hi3.tail.sub s2
        · show 4 * y.rest.length + 1 ≤ g; omega
        · show g ≤ f; omega
        · simp only [Nd.d, ndD]; ((try simp only [List.replicate_succ, List.replicate_zero, List.cons_append, List.nil_append]); repeat' (first | exact trivial | refine ⟨.inl rfl, ?_⟩ | refine ⟨.inr rfl, ?_⟩ | refine ⟨.inr (by simp), ?_⟩))
      · (repeat' (first | simp -dsimp (maxSteps := 2000000) (disch := first | omega | (simp; done) | (simp; omega)) only [SA, SB, SC, SD, SE, SF, SG, Nat.reduceLT, Nat.reduceAdd, Nat.reduceSub, Nat.reduceMul, Nat.reduceLeDiff, Nat.reduceEqDiff, Nat.reduceBEq, Int.reduceToNat, Int.reduceLE, Int.reduceLT, Int.reduceEq, Int.reduceNeg, reduceCtorEq, ↓reduceIte] | refine Cut.go ?_ | refine Both.intro ?_ ?_ | (refine Br.intro ?_ ?_ <;> intro hb <;> have hb' := hb <;> (try simp only [SH] at hb') <;> (try simp -dsimp (maxSteps := 2000000) (disch := first | omega | (simp; done) | (simp; omega)) only [SA, SB, SC, SD, SE, SF, SG, Nat.reduceLT, Nat.reduceAdd, Nat.reduceSub, Nat.reduceMul, Nat.reduceLeDiff, Nat.reduceEqDiff, Nat.reduceBEq, Int.reduceToNat, Int.reduceLE, Int.reduceLT, Int.reduceEq, Int.reduceNeg, reduceCtorEq, ↓reduceIte, hb]))))
        exact ⟨_, kp.drops hf .., PR.err l' deep' (by rw [hi1, loopF_cons hb', he]) (by omega)⟩
  · exact ⟨_, Drops.refl _, PR.ok (x := ⟨nd, rest⟩) (by rw [hi1]; exact loopF_end (by simp only []; omega)) hi2⟩
end Go.Proofs.Ytkjgadanaknleaa
