/-
  THE WALKS, layer 13, PART 18: a byte that fields are split at.
-/
import Derived.Test.YthiidchbaicfgaaGreatDoorZI
namespace Go.Proofs.YthiidchbaicfgaaGreatDoor
open Go Go.Id
set_option linter.unusedSimpArgs false
set_option linter.unusedVariables false
set_option maxRecDepth 100000
set_option maxHeartbeats 4000000

def blank (b : UInt8) : Bool := b == 32 || b == 9 || b == 10
def CS.at (c : CS) (b : UInt8) : CS :=
  if blank b then (if c.r then { c.push false with w := true } else c)
  else if c.r then { c.push false with w := false }
  else if c.w then { c with w := false }
  else c.push true
theorem Cutting.cell {σ0 s : St} {xo : Option (Nat × List D)} {c : CS} (h : Cutting σ0 xo c s) : ∃ l now a b d e, s.obj (σ0.next + 2) = some (.cells [l, .ref now 0, .bool c.w]) ∧ scal l = true ∧ s.obj now = some (.cells [a, b, d, e, .bool c.r]) := by
  obtain ⟨now, blo, up, L, tk, e1, e2, e3, e4, e5, e6, e7, e8, e9, e10⟩ := h.ex
  obtain ⟨a, b, d, e, o2⟩ := e6.cell
  exact ⟨_, now, a, b, d, e, e1, lsD_scal _ _, o2⟩
theorem Cutting.setW {σ0 s : St} {xo : Option (Nat × List D)} {c : CS} (h : Cutting σ0 xo c s) {l n : D} {w0 : Bool} (ho : s.obj (σ0.next + 2) = some (.cells [l, n, .bool w0])) (w' : Bool) : Cutting σ0 xo { c with w := w' } (s.put (σ0.next + 2) (some (.cells [l, n, .bool w']))) := by
  obtain ⟨now, blo, up, L, tk, e1, e2, e3, e4, e5, e6, e7, e8, e9, e10⟩ := h.ex
  have hle := e6.le
  rw [ho] at e1
  simp only [Option.some.injEq, Ob.cells.injEq, List.cons.injEq] at e1
  obtain ⟨rfl, rfl, -⟩ := e1
  have old : ∀ i, i ≠ σ0.next + 2 → (s.put (σ0.next + 2) (some (.cells [lsD L tk, .ref now 0, .bool w']))).obj i = s.obj i := fun i hi => by rw [put_obj, if_neg hi]
  refine ⟨⟨now, blo, up, L, tk, by rw [put_obj, if_pos rfl], fun g => ?_, e3.same fun i _ _ q => old i q, e4, e5, e6.same (old _ e7) (old _ e8) (fun i q1 q2 => old i (by omega)), e7, e8, e9, fun k cs hk => by obtain ⟨g1, g2, g3, g4⟩ := e10 k cs hk; exact ⟨by rw [old k g4]; exact g1, g2, g3, g4⟩⟩, fun i hi => ?_, put_fresh h.fresh (by omega) _, h.tidy.put _ _⟩
  · obtain ⟨q1, q2, q3, q4⟩ := e2 g
    exact ⟨by rw [old _ q4]; exact q1, q2, q3, q4⟩
  · rw [old i (by omega)]; exact h.low i hi
theorem at53 {σ0 s : St} {xo : Option (Nat × List D)} {c : CS} (h : Cutting σ0 xo c s) (b : UInt8) (hl : c.L.length ≤ 1000000) {K : Out → St → Prop} (hk : ∀ s', Cutting σ0 xo (c.at b) s' → K (.ret (.tuple [])) s') :
    goodFn Tryz.prog 53 = true ∧ Ok Tryz.prog 53 [.ref (σ0.next + 2) 0, .int .u8 b.toNat] s K := by
  refine ⟨gd53, ?_⟩
  obtain ⟨l, now, x0, x1, x2, x3, o1, sl, o2⟩ := h.cell
  have q1 : ((b.toNat : Int) == 32) = (b == 32) := by rw [Bool.eq_iff_iff]; simp [← UInt8.toNat_inj]; omega
  have q2 : ((b.toNat : Int) == 9) = (b == 9) := by rw [Bool.eq_iff_iff]; simp [← UInt8.toNat_inj]; omega
  have q3 : ((b.toNat : Int) == 10) = (b == 10) := by rw [Bool.eq_iff_iff]; simp [← UInt8.toNat_inj]; omega
  have hbl : ∀ {x y z : Bool}, (b == 32) = x → (b == 9) = y → (b == 10) = z → blank b = (x || y || z) := fun h1 h2 h3 => by rw [blank, h1, h2, h3]
  generalize hc1 : (b == 32) = b1 at *
  generalize hc2 : (b == 9) = b2 at *
  generalize hc3 : (b == 10) = b3 at *
  have hB := hbl rfl rfl rfl
  generalize hr : c.r = r at *
  generalize hw : c.w = w at *
  apply en53
  simp -dsimp (maxSteps := 2000000) (disch := first | omega | (simp; done) | (simp; omega)) only [SA, SB, SC, SD, SE, SF, SG, SI, Nat.reduceLT, Nat.reduceAdd, Nat.reduceSub, Nat.reduceMul, Nat.reduceLeDiff, Nat.reduceEqDiff, Nat.reduceBEq, Int.reduceToNat, Int.reduceLE, Int.reduceLT, Int.reduceEq, Int.reduceNeg, reduceCtorEq, ↓reduceIte, ic53, List.replicate_succ, List.replicate_zero]
  cases r
  · have e1 : blank b = true → K (.ret (.tuple [])) s := fun hb => by
      have := hk s; rw [CS.at, hb, hr] at this; exact this h
    have e2 : blank b = false → w = true → K (.ret (.tuple [])) (s.put (σ0.next + 2) (some (.cells [l, .ref now 0, .bool false]))) := fun hb hw' => by
      refine hk _ ?_
      rw [show c.at b = { c with w := false } from by simp [CS.at, hb, hr, hw, hw']]; exact h.setW o1 false
    have e3 : blank b = false → w = false → ∀ s', Cutting σ0 xo (c.push true) s' → K (.ret (.tuple [])) s' := fun hb hw' s' h' => by
      refine hk _ ?_
      rw [CS.at, hb, hr, hw, hw']; exact h'
    cases b1
    · (repeat' (first | simp -dsimp (maxSteps := 2000000) (disch := first | omega | (simp; done) | (simp; omega)) only [SA, SB, SC, SD, SE, SF, SG, SI, Nat.reduceLT, Nat.reduceAdd, Nat.reduceSub, Nat.reduceMul, Nat.reduceLeDiff, Nat.reduceEqDiff, Nat.reduceBEq, Int.reduceToNat, Int.reduceLE, Int.reduceLT, Int.reduceEq, Int.reduceNeg, reduceCtorEq, ↓reduceIte, o1, o2, sl, q1, q2, q3] | refine Cut.go ?_ | refine Both.intro ?_ ?_ | refine push50 h _ hl ?_ | (refine Br.intro ?_ ?_ <;> intro hb <;> have hb' := hb <;> (try simp only [SH] at hb') <;> (try simp -dsimp (maxSteps := 2000000) (disch := first | omega | (simp; done) | (simp; omega)) only [SA, SB, SC, SD, SE, SF, SG, SI, Nat.reduceLT, Nat.reduceAdd, Nat.reduceSub, Nat.reduceMul, Nat.reduceLeDiff, Nat.reduceEqDiff, Nat.reduceBEq, Int.reduceToNat, Int.reduceLE, Int.reduceLT, Int.reduceEq, Int.reduceNeg, reduceCtorEq, ↓reduceIte, hb, o1, o2, sl, q1, q2, q3]))))
      · exact e1 (by rw [hB, hb']; rfl)
      · exact e1 (by simp_all)
      · exact e2 (by simp_all) hb'
      · exact e3 (by simp_all) hb'
    · (repeat' (first | simp -dsimp (maxSteps := 2000000) (disch := first | omega | (simp; done) | (simp; omega)) only [SA, SB, SC, SD, SE, SF, SG, SI, Nat.reduceLT, Nat.reduceAdd, Nat.reduceSub, Nat.reduceMul, Nat.reduceLeDiff, Nat.reduceEqDiff, Nat.reduceBEq, Int.reduceToNat, Int.reduceLE, Int.reduceLT, Int.reduceEq, Int.reduceNeg, reduceCtorEq, ↓reduceIte, o1, o2, sl, q1, q2, q3] | refine Cut.go ?_ | refine Both.intro ?_ ?_ | (refine Br.intro ?_ ?_ <;> intro hb <;> have hb' := hb <;> (try simp only [SH] at hb') <;> (try simp -dsimp (maxSteps := 2000000) (disch := first | omega | (simp; done) | (simp; omega)) only [SA, SB, SC, SD, SE, SF, SG, SI, Nat.reduceLT, Nat.reduceAdd, Nat.reduceSub, Nat.reduceMul, Nat.reduceLeDiff, Nat.reduceEqDiff, Nat.reduceBEq, Int.reduceToNat, Int.reduceLE, Int.reduceLT, Int.reduceEq, Int.reduceNeg, reduceCtorEq, ↓reduceIte, hb, o1, o2, sl, q1, q2, q3]))))
      exact e1 (by rw [hB]; rfl)
  · have e1 : blank b = true → ∀ {s1 : St} {l n : D} {w0 : Bool}, Cutting σ0 xo (c.push false) s1 → s1.obj (σ0.next + 2) = some (.cells [l, n, .bool w0]) → K (.ret (.tuple [])) (s1.put (σ0.next + 2) (some (.cells [l, n, .bool true]))) := fun hb s1 l n w0 h1 g => by
      refine hk _ ?_
      rw [CS.at, hb, hr]; exact h1.setW g true
    have e2 : blank b = false → ∀ {s1 : St} {l n : D} {w0 : Bool}, Cutting σ0 xo (c.push false) s1 → s1.obj (σ0.next + 2) = some (.cells [l, n, .bool w0]) → K (.ret (.tuple [])) (s1.put (σ0.next + 2) (some (.cells [l, n, .bool false]))) := fun hb s1 l n w0 h1 g => by
      refine hk _ ?_
      rw [CS.at, hb, hr]; exact h1.setW g false
    cases b1
    · (repeat' (first | simp -dsimp (maxSteps := 2000000) (disch := first | omega | (simp; done) | (simp; omega)) only [SA, SB, SC, SD, SE, SF, SG, SI, Nat.reduceLT, Nat.reduceAdd, Nat.reduceSub, Nat.reduceMul, Nat.reduceLeDiff, Nat.reduceEqDiff, Nat.reduceBEq, Int.reduceToNat, Int.reduceLE, Int.reduceLT, Int.reduceEq, Int.reduceNeg, reduceCtorEq, ↓reduceIte, o1, o2, sl, q1, q2, q3] | refine Cut.go ?_ | refine Both.intro ?_ ?_ | (refine Br.intro ?_ ?_ <;> intro hb <;> have hb' := hb <;> (try simp only [SH] at hb') <;> (try simp -dsimp (maxSteps := 2000000) (disch := first | omega | (simp; done) | (simp; omega)) only [SA, SB, SC, SD, SE, SF, SG, SI, Nat.reduceLT, Nat.reduceAdd, Nat.reduceSub, Nat.reduceMul, Nat.reduceLeDiff, Nat.reduceEqDiff, Nat.reduceBEq, Int.reduceToNat, Int.reduceLE, Int.reduceLT, Int.reduceEq, Int.reduceNeg, reduceCtorEq, ↓reduceIte, hb, o1, o2, sl, q1, q2, q3]))))
      · refine push50 h _ hl fun s1 h1 => ?_
        obtain ⟨l', n', _, _, _, _, g, sl', _⟩ := h1.cell
        (repeat' (first | simp -dsimp (maxSteps := 2000000) (disch := first | omega | (simp; done) | (simp; omega)) only [SA, SB, SC, SD, SE, SF, SG, SI, Nat.reduceLT, Nat.reduceAdd, Nat.reduceSub, Nat.reduceMul, Nat.reduceLeDiff, Nat.reduceEqDiff, Nat.reduceBEq, Int.reduceToNat, Int.reduceLE, Int.reduceLT, Int.reduceEq, Int.reduceNeg, reduceCtorEq, ↓reduceIte, g] | refine Cut.go ?_ | refine Both.intro ?_ ?_ | (refine Br.intro ?_ ?_ <;> intro hb <;> have hb' := hb <;> (try simp only [SH] at hb') <;> (try simp -dsimp (maxSteps := 2000000) (disch := first | omega | (simp; done) | (simp; omega)) only [SA, SB, SC, SD, SE, SF, SG, SI, Nat.reduceLT, Nat.reduceAdd, Nat.reduceSub, Nat.reduceMul, Nat.reduceLeDiff, Nat.reduceEqDiff, Nat.reduceBEq, Int.reduceToNat, Int.reduceLE, Int.reduceLT, Int.reduceEq, Int.reduceNeg, reduceCtorEq, ↓reduceIte, hb, g]))))
        exact e1 (by rw [hB, hb']; rfl) h1 g
      · refine push50 h _ hl fun s1 h1 => ?_
        obtain ⟨l', n', _, _, _, _, g, sl', _⟩ := h1.cell
        (repeat' (first | simp -dsimp (maxSteps := 2000000) (disch := first | omega | (simp; done) | (simp; omega)) only [SA, SB, SC, SD, SE, SF, SG, SI, Nat.reduceLT, Nat.reduceAdd, Nat.reduceSub, Nat.reduceMul, Nat.reduceLeDiff, Nat.reduceEqDiff, Nat.reduceBEq, Int.reduceToNat, Int.reduceLE, Int.reduceLT, Int.reduceEq, Int.reduceNeg, reduceCtorEq, ↓reduceIte, g] | refine Cut.go ?_ | refine Both.intro ?_ ?_ | (refine Br.intro ?_ ?_ <;> intro hb <;> have hb' := hb <;> (try simp only [SH] at hb') <;> (try simp -dsimp (maxSteps := 2000000) (disch := first | omega | (simp; done) | (simp; omega)) only [SA, SB, SC, SD, SE, SF, SG, SI, Nat.reduceLT, Nat.reduceAdd, Nat.reduceSub, Nat.reduceMul, Nat.reduceLeDiff, Nat.reduceEqDiff, Nat.reduceBEq, Int.reduceToNat, Int.reduceLE, Int.reduceLT, Int.reduceEq, Int.reduceNeg, reduceCtorEq, ↓reduceIte, hb, g]))))
        exact e1 (by simp_all) h1 g
      · refine push50 h _ hl fun s1 h1 => ?_
        obtain ⟨l', n', _, _, _, _, g, sl', _⟩ := h1.cell
        (repeat' (first | simp -dsimp (maxSteps := 2000000) (disch := first | omega | (simp; done) | (simp; omega)) only [SA, SB, SC, SD, SE, SF, SG, SI, Nat.reduceLT, Nat.reduceAdd, Nat.reduceSub, Nat.reduceMul, Nat.reduceLeDiff, Nat.reduceEqDiff, Nat.reduceBEq, Int.reduceToNat, Int.reduceLE, Int.reduceLT, Int.reduceEq, Int.reduceNeg, reduceCtorEq, ↓reduceIte, g] | refine Cut.go ?_ | refine Both.intro ?_ ?_ | (refine Br.intro ?_ ?_ <;> intro hb <;> have hb' := hb <;> (try simp only [SH] at hb') <;> (try simp -dsimp (maxSteps := 2000000) (disch := first | omega | (simp; done) | (simp; omega)) only [SA, SB, SC, SD, SE, SF, SG, SI, Nat.reduceLT, Nat.reduceAdd, Nat.reduceSub, Nat.reduceMul, Nat.reduceLeDiff, Nat.reduceEqDiff, Nat.reduceBEq, Int.reduceToNat, Int.reduceLE, Int.reduceLT, Int.reduceEq, Int.reduceNeg, reduceCtorEq, ↓reduceIte, hb, g]))))
        exact e2 (by simp_all) h1 g
    · (repeat' (first | simp -dsimp (maxSteps := 2000000) (disch := first | omega | (simp; done) | (simp; omega)) only [SA, SB, SC, SD, SE, SF, SG, SI, Nat.reduceLT, Nat.reduceAdd, Nat.reduceSub, Nat.reduceMul, Nat.reduceLeDiff, Nat.reduceEqDiff, Nat.reduceBEq, Int.reduceToNat, Int.reduceLE, Int.reduceLT, Int.reduceEq, Int.reduceNeg, reduceCtorEq, ↓reduceIte, o1, o2, sl, q1, q2, q3] | refine Cut.go ?_ | refine Both.intro ?_ ?_ | (refine Br.intro ?_ ?_ <;> intro hb <;> have hb' := hb <;> (try simp only [SH] at hb') <;> (try simp -dsimp (maxSteps := 2000000) (disch := first | omega | (simp; done) | (simp; omega)) only [SA, SB, SC, SD, SE, SF, SG, SI, Nat.reduceLT, Nat.reduceAdd, Nat.reduceSub, Nat.reduceMul, Nat.reduceLeDiff, Nat.reduceEqDiff, Nat.reduceBEq, Int.reduceToNat, Int.reduceLE, Int.reduceLT, Int.reduceEq, Int.reduceNeg, reduceCtorEq, ↓reduceIte, hb, o1, o2, sl, q1, q2, q3]))))
      refine push50 h _ hl fun s1 h1 => ?_
      obtain ⟨l', n', _, _, _, _, g, sl', _⟩ := h1.cell
      (repeat' (first | simp -dsimp (maxSteps := 2000000) (disch := first | omega | (simp; done) | (simp; omega)) only [SA, SB, SC, SD, SE, SF, SG, SI, Nat.reduceLT, Nat.reduceAdd, Nat.reduceSub, Nat.reduceMul, Nat.reduceLeDiff, Nat.reduceEqDiff, Nat.reduceBEq, Int.reduceToNat, Int.reduceLE, Int.reduceLT, Int.reduceEq, Int.reduceNeg, reduceCtorEq, ↓reduceIte, g] | refine Cut.go ?_ | refine Both.intro ?_ ?_ | (refine Br.intro ?_ ?_ <;> intro hb <;> have hb' := hb <;> (try simp only [SH] at hb') <;> (try simp -dsimp (maxSteps := 2000000) (disch := first | omega | (simp; done) | (simp; omega)) only [SA, SB, SC, SD, SE, SF, SG, SI, Nat.reduceLT, Nat.reduceAdd, Nat.reduceSub, Nat.reduceMul, Nat.reduceLeDiff, Nat.reduceEqDiff, Nat.reduceBEq, Int.reduceToNat, Int.reduceLE, Int.reduceLT, Int.reduceEq, Int.reduceNeg, reduceCtorEq, ↓reduceIte, hb, g]))))
      exact e1 (by rw [hB]; rfl) h1 g
end Go.Proofs.YthiidchbaicfgaaGreatDoor
