/-
  THE WALKS, layer 13, PART 22: the fields of a word.
-/
import Derived.Test.YthiidchbaicfgaaGreatDoorZM
namespace Go.Proofs.YthiidchbaicfgaaGreatDoor
open Go Go.Id
set_option linter.unusedSimpArgs false
set_option linter.unusedVariables false
set_option maxRecDepth 100000
set_option maxHeartbeats 8000000

def theHost : D := .iface 43 (.agg [.nilp])
theorem host_meth (f : List D) : inilM [(43, "Glob"), (43, "Run")] (.func (.method "Glob") [theHost] f) = some (.func (.method "Glob") [theHost] f) := rfl
/-- A call that makes nothing that stays. -/
def Pure (f : FuncId) (xs : List D) (σ : St) (R : Out → Prop) : Prop := Ok Tryz.prog f xs σ (fun o s' => (∃ m, σ.next ≤ m ∧ s' = ⟨σ.obj, m⟩) ∧ R o)
def FieldsOut (L : List (List UInt8)) (o : Out) : Prop :=
  if decide (256 < L.length) || tooLong L then o = .ret (.tuple [.nils, .int .i64 2]) else ∃ x, Strs x L ∧ o = .ret (.tuple [x, .int .i64 0])
theorem dones_at {jc : Nat} {s : St} {L : List (Nat × List UInt8 × List UInt8)} {lo up k : Nat} (h : Dones jc s lo (L.drop k) up) (hk : k < L.length) : ∃ blo hi q, lo ≤ (L[k]).1 ∧ Fld none blo hi s (L[k]).1 (L[k]).2.1 (L[k]).2.2 q ∧ (L[k]).1 ≠ jc ∧ (L[k]).1 + 1 ≠ jc ∧ jc < blo ∧ Dones jc s hi (L.drop (k + 1)) up := by
  rw [List.drop_eq_getElem_cons hk] at h
  exact h
theorem fields_of {w : D} (hw : scal w = true) {r : Room} {j : Nat} {al : List Atm} {ifs : List UInt8} {σ : St} (ht : Tidy σ) (hal : wt al ≤ 900000)
    (A : Pure 27 [w, .ref j 0, theHost] σ fun o => ∃ x, Atoms x al ∧ o = .ret (.tuple [x, .int .i64 0])) (S : ∀ m, σ.next ≤ m → Pure 29 [.ref j 0] ⟨σ.obj, m⟩ fun o => o = .ret (.str ifs)) :
    Pure 12 [.slc 1 [w] r, .ref j 0, theHost] σ (FieldsOut ((cutF al ifs).map (·.1))) := by
  generalize hFF : (cutF al ifs).map (·.1) = FF
  refine Ok.fresh fun hf => Ok.drop ?_
  have z0 : decide ((0 : Int) < 1) = true := rfl
  have i0 : idxAddrS 1 (.slc 1 [w] r) (.int .i64 0) = some (.box [w] 0) := by
    simp [idxAddrS, dcells_sc hw]
  have l0 : cellsAt [w] 0 none = some w := by simp [cellsAt, hw]
  apply en12
  have hx : ilen (.slc 1 [w] r) = some (.int .i64 1) := rfl
  unfold theHost at A ⊢
  simp -dsimp (maxSteps := 2000000) (disch := first | omega | (simp; done) | (simp; omega)) only [SA, SB, SC, SD, SE, SF, SG, SI, Nat.reduceLT, Nat.reduceAdd, Nat.reduceSub, Nat.reduceMul, Nat.reduceLeDiff, Nat.reduceEqDiff, Nat.reduceBEq, Int.reduceToNat, Int.reduceLE, Int.reduceLT, Int.reduceEq, Int.reduceNeg, reduceCtorEq, ↓reduceIte, ic12, List.replicate_succ, List.replicate_zero]
  (repeat' (first | simp -dsimp (maxSteps := 2000000) (disch := first | omega | (simp; done) | (simp; omega)) only [SA, SB, SC, SD, SE, SF, SG, SI, Nat.reduceLT, Nat.reduceAdd, Nat.reduceSub, Nat.reduceMul, Nat.reduceLeDiff, Nat.reduceEqDiff, Nat.reduceBEq, Int.reduceToNat, Int.reduceLE, Int.reduceLT, Int.reduceEq, Int.reduceNeg, reduceCtorEq, ↓reduceIte, hx] | refine Cut.go ?_ | refine Both.intro ?_ ?_ | (refine Br.intro ?_ ?_ <;> intro hb <;> have hb' := hb <;> (try simp only [SH] at hb') <;> (try simp -dsimp (maxSteps := 2000000) (disch := first | omega | (simp; done) | (simp; omega)) only [SA, SB, SC, SD, SE, SF, SG, SI, Nat.reduceLT, Nat.reduceAdd, Nat.reduceSub, Nat.reduceMul, Nat.reduceLeDiff, Nat.reduceEqDiff, Nat.reduceBEq, Int.reduceToNat, Int.reduceLE, Int.reduceLT, Int.reduceEq, Int.reduceNeg, reduceCtorEq, ↓reduceIte, hb, hx]))))
  refine loop_go (α := Nat × D × St) (fun a => [.slc 1 [w] r, .ref j 0, .iface 43 (.agg [.nilp]), .junk, .junk, .junk, .nils, .int .i64 0, a.2.1, .junk, .junk, .junk, .junk, .junk, .junk, .junk, .junk, .junk, .junk, .junk, .junk, .junk, .slc 1 [w] r, .int .i64 1, .int .i64 a.1] ++ List.replicate 52 .junk) (fun a => a.2.2) (fun a => 1 - a.1) (fun a => (a.1 = 0 ∧ a.2.1 = .nils ∧ a.2.2 = σ) ∨ (a.1 = 1 ∧ Strs a.2.1 (FF) ∧ (decide (256 < (FF).length) || tooLong (FF)) = false ∧ σ.next ≤ a.2.2.next ∧ ∀ i, i < σ.next → a.2.2.obj i = σ.obj i)) (0, .nils, σ) (.inl ⟨rfl, rfl, rfl⟩) (by ((try simp only [List.replicate_succ, List.replicate_zero, List.cons_append, List.nil_append]); repeat' (first | exact trivial | refine ⟨.inl rfl, ?_⟩ | refine ⟨.inr rfl, ?_⟩ | refine ⟨.inr (by simp), ?_⟩))) (Drops.refl _) ?_
  rintro ⟨i, out, s⟩ (⟨h1, h2, h3⟩ | ⟨h1, h2, h3, h4, h5⟩)
  · simp only [] at h1 h2 h3
    subst h1; subst h2; subst h3
    have z0' : decide (((0 : Nat) : Int) < 1) = true := rfl
    simp -dsimp (maxSteps := 2000000) (disch := first | omega | (simp; done) | (simp; omega)) only [SA, SB, SC, SD, SE, SF, SG, SI, Nat.reduceLT, Nat.reduceAdd, Nat.reduceSub, Nat.reduceMul, Nat.reduceLeDiff, Nat.reduceEqDiff, Nat.reduceBEq, Int.reduceToNat, Int.reduceLE, Int.reduceLT, Int.reduceEq, Int.reduceNeg, reduceCtorEq, ↓reduceIte, List.replicate_succ, List.replicate_zero]
    have i0' : idxAddrS 1 (.slc 1 [w] r) (.int .i64 ((0 : Nat) : Int)) = some (.box [w] 0) := i0
    (repeat' (first | simp -dsimp (maxSteps := 2000000) (disch := first | omega | (simp; done) | (simp; omega)) only [SA, SB, SC, SD, SE, SF, SG, SI, Nat.reduceLT, Nat.reduceAdd, Nat.reduceSub, Nat.reduceMul, Nat.reduceLeDiff, Nat.reduceEqDiff, Nat.reduceBEq, Int.reduceToNat, Int.reduceLE, Int.reduceLT, Int.reduceEq, Int.reduceNeg, reduceCtorEq, ↓reduceIte, z0', i0, l0, i0'] | refine Cut.go ?_ | refine Both.intro ?_ ?_ | (refine Br.intro ?_ ?_ <;> intro hb <;> have hb' := hb <;> (try simp only [SH] at hb') <;> (try simp -dsimp (maxSteps := 2000000) (disch := first | omega | (simp; done) | (simp; omega)) only [SA, SB, SC, SD, SE, SF, SG, SI, Nat.reduceLT, Nat.reduceAdd, Nat.reduceSub, Nat.reduceMul, Nat.reduceLeDiff, Nat.reduceEqDiff, Nat.reduceBEq, Int.reduceToNat, Int.reduceLE, Int.reduceLT, Int.reduceEq, Int.reduceNeg, reduceCtorEq, ↓reduceIte, hb, z0', i0, l0, i0']))))
    refine ⟨gd27, A.mono fun o s1 h => ?_⟩
    obtain ⟨⟨m, hm, rfl⟩, x, hxa, rfl⟩ := h
    have z4 : ((0 : Int) != 0) = false := rfl
    (repeat' (first | simp -dsimp (maxSteps := 2000000) (disch := first | omega | (simp; done) | (simp; omega)) only [SA, SB, SC, SD, SE, SF, SG, SI, Nat.reduceLT, Nat.reduceAdd, Nat.reduceSub, Nat.reduceMul, Nat.reduceLeDiff, Nat.reduceEqDiff, Nat.reduceBEq, Int.reduceToNat, Int.reduceLE, Int.reduceLT, Int.reduceEq, Int.reduceNeg, reduceCtorEq, ↓reduceIte, z4] | refine Cut.go ?_ | refine Both.intro ?_ ?_ | (refine Br.intro ?_ ?_ <;> intro hb <;> have hb' := hb <;> (try simp only [SH] at hb') <;> (try simp -dsimp (maxSteps := 2000000) (disch := first | omega | (simp; done) | (simp; omega)) only [SA, SB, SC, SD, SE, SF, SG, SI, Nat.reduceLT, Nat.reduceAdd, Nat.reduceSub, Nat.reduceMul, Nat.reduceLeDiff, Nat.reduceEqDiff, Nat.reduceBEq, Int.reduceToNat, Int.reduceLE, Int.reduceLT, Int.reduceEq, Int.reduceNeg, reduceCtorEq, ↓reduceIte, hb, z4]))))
    refine ⟨gd29, (S m hm).mono fun o s1 h => ?_⟩
    obtain ⟨⟨m2, hm2, rfl⟩, rfl⟩ := h
    simp only [] at hm2
    (repeat' (first | simp -dsimp (maxSteps := 2000000) (disch := first | omega | (simp; done) | (simp; omega)) only [SA, SB, SC, SD, SE, SF, SG, SI, Nat.reduceLT, Nat.reduceAdd, Nat.reduceSub, Nat.reduceMul, Nat.reduceLeDiff, Nat.reduceEqDiff, Nat.reduceBEq, Int.reduceToNat, Int.reduceLE, Int.reduceLT, Int.reduceEq, Int.reduceNeg, reduceCtorEq, ↓reduceIte] | refine Cut.go ?_ | refine Both.intro ?_ ?_ | (refine Br.intro ?_ ?_ <;> intro hb <;> have hb' := hb <;> (try simp only [SH] at hb') <;> (try simp -dsimp (maxSteps := 2000000) (disch := first | omega | (simp; done) | (simp; omega)) only [SA, SB, SC, SD, SE, SF, SG, SI, Nat.reduceLT, Nat.reduceAdd, Nat.reduceSub, Nat.reduceMul, Nat.reduceLeDiff, Nat.reduceEqDiff, Nat.reduceBEq, Int.reduceToNat, Int.reduceLE, Int.reduceLT, Int.reduceEq, Int.reduceNeg, reduceCtorEq, ↓reduceIte, hb]))))
    refine ⟨gd28, (cut28 hxa ifs (σ := ⟨s.obj, m2⟩) ht hal).mono fun o s1 h => ?_⟩
    obtain ⟨L, up, tk, rfl, hLF, hD, hup, hlow, hfr, hti⟩ := h
    have hL : ilen (lsD L tk) = some (.int .i64 L.length) := by
      unfold lsD; split
      · rename_i h; subst h; rfl
      · simp [ilen]
    (repeat' (first | simp -dsimp (maxSteps := 2000000) (disch := first | omega | (simp; done) | (simp; omega)) only [SA, SB, SC, SD, SE, SF, SG, SI, Nat.reduceLT, Nat.reduceAdd, Nat.reduceSub, Nat.reduceMul, Nat.reduceLeDiff, Nat.reduceEqDiff, Nat.reduceBEq, Int.reduceToNat, Int.reduceLE, Int.reduceLT, Int.reduceEq, Int.reduceNeg, reduceCtorEq, ↓reduceIte, hL] | refine Cut.go ?_ | refine Both.intro ?_ ?_ | (refine Br.intro ?_ ?_ <;> intro hb <;> have hb' := hb <;> (try simp only [SH] at hb') <;> (try simp -dsimp (maxSteps := 2000000) (disch := first | omega | (simp; done) | (simp; omega)) only [SA, SB, SC, SD, SE, SF, SG, SI, Nat.reduceLT, Nat.reduceAdd, Nat.reduceSub, Nat.reduceMul, Nat.reduceLeDiff, Nat.reduceEqDiff, Nat.reduceBEq, Int.reduceToNat, Int.reduceLE, Int.reduceLT, Int.reduceEq, Int.reduceNeg, reduceCtorEq, ↓reduceIte, hb, hL]))))
    have hLn : L.length = (cutF al ifs).length := by rw [← hLF, List.length_map]
    obtain ⟨hb1, hb2⟩ := cutF_le al ifs
    have hbk : ∀ k (hk : k < L.length), (L[k]).2.1.length + (L[k]).2.2.length ≤ wt al + 1 := fun k hk => hb2 _ (by rw [← hLF]; exact List.mem_map.2 ⟨L[k], List.getElem_mem hk, rfl⟩)
    refine loop_go (α := Nat × Nat × St) (fun a => [.slc 1 [w] r, .ref j 0, .iface 43 (.agg [.nilp]), .junk, .junk, .junk, .nils, .int .i64 0, lsO ((L.take a.1).map (·.2.1)) a.2.1, .junk, .junk, .junk, .junk, .junk, .junk, .junk, .junk, .junk, .junk, .junk, .junk, .junk, .slc 1 [w] r, .int .i64 1, .int .i64 0, .junk, .junk, .junk, .junk, .junk, .junk, .junk, .junk, .junk, .junk, .junk, .junk, .junk, .junk, .junk, .junk, lsD L tk, .int .i64 L.length, .int .i64 a.1] ++ List.replicate 33 .junk) (fun a => a.2.2) (fun a => L.length - a.1)
      (fun a => a.1 ≤ L.length ∧ (∃ lo, m2 ≤ lo ∧ Dones (m2 + 2) a.2.2 lo (L.drop a.1) up) ∧ Tidy a.2.2 ∧ a.2.2.Fresh ∧ up ≤ a.2.2.next ∧ ((L.take a.1).map (·.2.1) ≠ [] → a.2.2.obj a.2.1 = some .tok ∧ up ≤ a.2.1) ∧ ∀ i, i < m2 → a.2.2.obj i = s.obj i) (0, 0, s1) ⟨Nat.zero_le _, ⟨m2, Nat.le_refl _, hD⟩, hti, hfr, hup, fun g => absurd rfl g, hlow⟩ (by ((try simp only [List.replicate_succ, List.replicate_zero, List.cons_append, List.nil_append]); repeat' (first | exact trivial | refine ⟨.inl rfl, ?_⟩ | refine ⟨.inr rfl, ?_⟩ | refine ⟨.inr (by simp), ?_⟩))) (Drops.refl _) ?_
    rintro ⟨k, tko, u⟩ ⟨hk, ⟨lo, hlo, hDu⟩, hTu, hFu, hUu, hOu, hLu⟩
    simp only [] at hk hDu hTu hFu hUu hOu hLu ⊢
    simp -dsimp (maxSteps := 2000000) (disch := first | omega | (simp; done) | (simp; omega)) only [SA, SB, SC, SD, SE, SF, SG, SI, Nat.reduceLT, Nat.reduceAdd, Nat.reduceSub, Nat.reduceMul, Nat.reduceLeDiff, Nat.reduceEqDiff, Nat.reduceBEq, Int.reduceToNat, Int.reduceLE, Int.reduceLT, Int.reduceEq, Int.reduceNeg, reduceCtorEq, ↓reduceIte, List.replicate_succ, List.replicate_zero]
    by_cases hkl : k < L.length
    · have hcond : decide ((k : Int) < L.length) = true := by simp; exact hkl
      obtain ⟨blo, hi, q, g1, g2, g3, g4, g5, g6⟩ := dones_at hDu hkl
      have hne : L ≠ [] := by rintro rfl; simp at hkl
      have ax : idxAddrS 1 (lsD L tk) (.int .i64 k) = some (.box [.ref (L[k]).1 0] 0) := by
        simp [lsD, hne, idxAddrS, hkl, dcells, scal]
      have lx : cellsAt [D.ref (L[k]).1 0] 0 none = some (.ref (L[k]).1 0) := rfl
      have hbs := hbk k hkl
      (repeat' (first | simp -dsimp (maxSteps := 2000000) (disch := first | omega | (simp; done) | (simp; omega)) only [SA, SB, SC, SD, SE, SF, SG, SI, Nat.reduceLT, Nat.reduceAdd, Nat.reduceSub, Nat.reduceMul, Nat.reduceLeDiff, Nat.reduceEqDiff, Nat.reduceBEq, Int.reduceToNat, Int.reduceLE, Int.reduceLT, Int.reduceEq, Int.reduceNeg, reduceCtorEq, ↓reduceIte, hcond, ax, lx] | refine Cut.go ?_ | refine Both.intro ?_ ?_ | (refine Br.intro ?_ ?_ <;> intro hb <;> have hb' := hb <;> (try simp only [SH] at hb') <;> (try simp -dsimp (maxSteps := 2000000) (disch := first | omega | (simp; done) | (simp; omega)) only [SA, SB, SC, SD, SE, SF, SG, SI, Nat.reduceLT, Nat.reduceAdd, Nat.reduceSub, Nat.reduceMul, Nat.reduceLeDiff, Nat.reduceEqDiff, Nat.reduceBEq, Int.reduceToNat, Int.reduceLE, Int.reduceLT, Int.reduceEq, Int.reduceNeg, reduceCtorEq, ↓reduceIte, hb, hcond, ax, lx]))))
      refine g2.strP hTu (by omega) fun u2 hB2 hT2 hO2 hN2 => ?_
      have hM : methD Tryz.prog 43 "Glob" = some 162 := by kernel_rfl
      (repeat' (first | simp -dsimp (maxSteps := 2000000) (disch := first | omega | (simp; done) | (simp; omega)) only [SA, SB, SC, SD, SE, SF, SG, SI, Nat.reduceLT, Nat.reduceAdd, Nat.reduceSub, Nat.reduceMul, Nat.reduceLeDiff, Nat.reduceEqDiff, Nat.reduceBEq, Int.reduceToNat, Int.reduceLE, Int.reduceLT, Int.reduceEq, Int.reduceNeg, reduceCtorEq, ↓reduceIte, host_meth, hM] | refine Cut.go ?_ | refine Both.intro ?_ ?_ | (refine Br.intro ?_ ?_ <;> intro hb <;> have hb' := hb <;> (try simp only [SH] at hb') <;> (try simp -dsimp (maxSteps := 2000000) (disch := first | omega | (simp; done) | (simp; omega)) only [SA, SB, SC, SD, SE, SF, SG, SI, Nat.reduceLT, Nat.reduceAdd, Nat.reduceSub, Nat.reduceMul, Nat.reduceLeDiff, Nat.reduceEqDiff, Nat.reduceBEq, Int.reduceToNat, Int.reduceLE, Int.reduceLT, Int.reduceEq, Int.reduceNeg, reduceCtorEq, ↓reduceIte, hb, host_meth, hM]))))
      refine ⟨gd162, (glob162 _).mono fun o u3 h => ?_⟩
      obtain ⟨⟨m3, hm3, rfl⟩, rfl⟩ := h
      have hn0 : ilen .nils = some (.int .i64 0) := rfl
      have z5 : ((0 : Int) == 0) = true := rfl
      obtain ⟨cs, lt, hB, hBr⟩ := hB2
      (repeat' (first | simp -dsimp (maxSteps := 2000000) (disch := first | omega | (simp; done) | (simp; omega)) only [SA, SB, SC, SD, SE, SF, SG, SI, Nat.reduceLT, Nat.reduceAdd, Nat.reduceSub, Nat.reduceMul, Nat.reduceLeDiff, Nat.reduceEqDiff, Nat.reduceBEq, Int.reduceToNat, Int.reduceLE, Int.reduceLT, Int.reduceEq, Int.reduceNeg, reduceCtorEq, ↓reduceIte, hn0, z5] | refine Cut.go ?_ | refine Both.intro ?_ ?_ | (refine Br.intro ?_ ?_ <;> intro hb <;> have hb' := hb <;> (try simp only [SH] at hb') <;> (try simp -dsimp (maxSteps := 2000000) (disch := first | omega | (simp; done) | (simp; omega)) only [SA, SB, SC, SD, SE, SF, SG, SI, Nat.reduceLT, Nat.reduceAdd, Nat.reduceSub, Nat.reduceMul, Nat.reduceLeDiff, Nat.reduceEqDiff, Nat.reduceBEq, Int.reduceToNat, Int.reduceLE, Int.reduceLT, Int.reduceEq, Int.reduceNeg, reduceCtorEq, ↓reduceIte, hb, hn0, z5]))))
      refine bld_str (σ := ⟨u2.obj, m3⟩) (blo := blo) (hi := hi) ⟨hB.hj, hB.h0, hB.h1, hB.hm, hB.buf⟩ hBr hT2 (by omega) fun u4 hT4 hO4 hN4 => ?_
      have hold : ∀ i, i < blo ∨ hi ≤ i → u4.obj i = u.obj i := fun i hi => by rw [hO4 i hi]; exact hO2 i hi
      have hup2 := g6.le
      have g2le := g2.le
      have hF4 : u4.Fresh := fun i hi' => by
        rw [hN4] at hi'
        have : m3 ≤ i := hi'
        rw [hold i (.inr (by omega))]; exact hFu i (by omega)
      have hu4n : u.next ≤ u4.next := by rw [hN4]; show u.next ≤ m3; omega
      obtain ⟨u5, hap, hn5, ho5, hz5⟩ := lsO_app (s := u4) (l := (L.take k).map (·.2.1)) (tk := tko) (fun g => by
        obtain ⟨q1, q2⟩ := hOu g
        rw [hold tko (.inr (by omega))]; exact q1) (by simp; omega) (L[k]).2.1
      (repeat' (first | simp -dsimp (maxSteps := 2000000) (disch := first | omega | (simp; done) | (simp; omega)) only [SA, SB, SC, SD, SE, SF, SG, SI, Nat.reduceLT, Nat.reduceAdd, Nat.reduceSub, Nat.reduceMul, Nat.reduceLeDiff, Nat.reduceEqDiff, Nat.reduceBEq, Int.reduceToNat, Int.reduceLE, Int.reduceLT, Int.reduceEq, Int.reduceNeg, reduceCtorEq, ↓reduceIte, hap] | refine Cut.go ?_ | refine Both.intro ?_ ?_ | (refine Br.intro ?_ ?_ <;> intro hb <;> have hb' := hb <;> (try simp only [SH] at hb') <;> (try simp -dsimp (maxSteps := 2000000) (disch := first | omega | (simp; done) | (simp; omega)) only [SA, SB, SC, SD, SE, SF, SG, SI, Nat.reduceLT, Nat.reduceAdd, Nat.reduceSub, Nat.reduceMul, Nat.reduceLeDiff, Nat.reduceEqDiff, Nat.reduceBEq, Int.reduceToNat, Int.reduceLE, Int.reduceLT, Int.reduceEq, Int.reduceNeg, reduceCtorEq, ↓reduceIte, hb, hap]))))
      have hmap : (L.take (k + 1)).map (·.2.1) = (L.take k).map (·.2.1) ++ [(L[k]).2.1] := by
        rw [List.take_succ_eq_append_getElem hkl, List.map_append]; rfl
      have ho6 : ∀ i, i < u4.next → ((L.take k).map (·.2.1) ≠ [] → i ≠ tko) → (u5.alloc .tok).obj i = u4.obj i := fun i q1 q2 => by
        rw [alloc_obj, if_neg (by omega)]; exact ho5 i q2
      have hF5 : u5.Fresh := fun i hi' => by
        rw [hn5] at hi'
        by_cases hq : (L.take k).map (·.2.1) ≠ [] → i ≠ tko
        · rw [ho5 i hq]; exact hF4 i hi'
        · exfalso
          apply hq
          rintro g rfl
          have := (hOu g).1
          rw [hFu _ (by omega)] at this; cases this
      have hT5 : Tidy u5 := by
        intro i j' T n hi'
        by_cases hq : (L.take k).map (·.2.1) ≠ [] → i ≠ tko
        · rw [ho5 i hq] at hi'
          obtain ⟨q1, c, cs, q2⟩ := hT4 i j' T n hi'
          refine ⟨q1, c, cs, ?_⟩
          rw [ho5 j' ?_]; exact q2
          rintro g rfl
          obtain ⟨q3, q4⟩ := hOu g
          rw [hold _ (.inr (by omega)), q3] at q2; cases q2
        · exfalso
          apply hq
          rintro g rfl
          rw [hz5 g] at hi'; cases hi'
      refine Round.go (k + 1, u4.next, u5.alloc .tok) (by simp only []; omega) ⟨by simp only []; omega, ⟨hi, by omega, ?_⟩, hT5.alloc hF5 (by simp), alloc_fresh hF5 _, ?_, fun _ => ⟨?_, ?_⟩, fun i hi' => ?_⟩ (by simp only [hmap]; ((try simp only [List.replicate_succ, List.replicate_zero, List.cons_append, List.nil_append]); repeat' (first | exact trivial | refine ⟨.inl rfl, ?_⟩ | refine ⟨.inr rfl, ?_⟩ | refine ⟨.inr (by simp), ?_⟩))) (Drops.refl _)
      · refine g6.same fun i q1 q2 q3 => ?_
        simp only []
        rw [ho6 i (by omega) fun g => by have := hOu g; omega]
        exact hold i (.inr q1)
      · show up ≤ u5.next + 1; omega
      · show (u5.alloc .tok).obj u4.next = _
        rw [alloc_obj, if_pos hn5.symm]
      · show up ≤ u4.next; omega
      · simp only []
        rw [ho6 i (by omega) fun g => by have := hOu g; omega, hold i (.inl (by omega))]
        exact hLu i hi'
    · have hcond : decide ((k : Int) < L.length) = false := by simp; omega
      have hkL : k = L.length := by omega
      have hDle := hDu.le
      have hT : (L.take k).map (·.2.1) = FF := by
        rw [hkL, List.take_length, ← hFF, ← hLF, List.map_map]; rfl
      have hSt := lsO_strs ((L.take k).map (·.2.1)) tko
      have hle := hSt.len
      rw [hT] at hSt hle
      rw [hT]
      have hc2 : (FF).length ≤ 1000000 := by rw [← hFF, List.length_map]; omega
      have e6 : decide (((FF).length : Int) > 256) = decide (256 < (FF).length) := by congr 1; simp; omega
      (repeat' (first | simp -dsimp (maxSteps := 2000000) (disch := first | omega | (simp; done) | (simp; omega)) only [SA, SB, SC, SD, SE, SF, SG, SI, Nat.reduceLT, Nat.reduceAdd, Nat.reduceSub, Nat.reduceMul, Nat.reduceLeDiff, Nat.reduceEqDiff, Nat.reduceBEq, Int.reduceToNat, Int.reduceLE, Int.reduceLT, Int.reduceEq, Int.reduceNeg, reduceCtorEq, ↓reduceIte, hcond, hle, e6] | refine Cut.go ?_ | refine Both.intro ?_ ?_ | refine via (by kernel_rfl) (cont31 hSt hc2 _) ?_ | (refine Br.intro ?_ ?_ <;> intro hb <;> have hb' := hb <;> (try simp only [SH] at hb') <;> (try simp -dsimp (maxSteps := 2000000) (disch := first | omega | (simp; done) | (simp; omega)) only [SA, SB, SC, SD, SE, SF, SG, SI, Nat.reduceLT, Nat.reduceAdd, Nat.reduceSub, Nat.reduceMul, Nat.reduceLeDiff, Nat.reduceEqDiff, Nat.reduceBEq, Int.reduceToNat, Int.reduceLE, Int.reduceLT, Int.reduceEq, Int.reduceNeg, reduceCtorEq, ↓reduceIte, hb, hcond, hle, e6]))))
      · refine ⟨_, drops_old hf (fun i hi' => hLu i (by omega)), ⟨_, by omega, rfl⟩, ?_⟩
        rw [FieldsOut, hb]; rfl
      · refine ⟨_, drops_old hf (fun i hi' => hLu i (by omega)), ⟨_, by omega, rfl⟩, ?_⟩
        rw [FieldsOut, if_pos (by simp_all)]
      · have hs1 : s.next ≤ u.next := by omega
        have hs2 : ∀ i, i < s.next → u.obj i = s.obj i := fun i hi' => hLu i (by omega)
        have hs3 : (decide (256 < FF.length) || tooLong FF) = false := by simp_all
        refine Round.go (1, lsO FF tko, u) (by simp) ?_ (by ((try simp only [List.replicate_succ, List.replicate_zero, List.cons_append, List.nil_append]); repeat' (first | exact trivial | refine ⟨.inl rfl, ?_⟩ | refine ⟨.inr rfl, ?_⟩ | refine ⟨.inr (by simp), ?_⟩))) (Drops.refl _)
        exact .inr ⟨rfl, hSt, hs1, hs2⟩
  · simp only [] at h1 h2 h3 h4 h5
    subst h1
    have z1 : decide (((1 : Nat) : Int) < 1) = false := rfl
    simp -dsimp (maxSteps := 2000000) (disch := first | omega | (simp; done) | (simp; omega)) only [SA, SB, SC, SD, SE, SF, SG, SI, Nat.reduceLT, Nat.reduceAdd, Nat.reduceSub, Nat.reduceMul, Nat.reduceLeDiff, Nat.reduceEqDiff, Nat.reduceBEq, Int.reduceToNat, Int.reduceLE, Int.reduceLT, Int.reduceEq, Int.reduceNeg, reduceCtorEq, ↓reduceIte, List.replicate_succ, List.replicate_zero]
    (repeat' (first | simp -dsimp (maxSteps := 2000000) (disch := first | omega | (simp; done) | (simp; omega)) only [SA, SB, SC, SD, SE, SF, SG, SI, Nat.reduceLT, Nat.reduceAdd, Nat.reduceSub, Nat.reduceMul, Nat.reduceLeDiff, Nat.reduceEqDiff, Nat.reduceBEq, Int.reduceToNat, Int.reduceLE, Int.reduceLT, Int.reduceEq, Int.reduceNeg, reduceCtorEq, ↓reduceIte, z1] | refine Cut.go ?_ | refine Both.intro ?_ ?_ | (refine Br.intro ?_ ?_ <;> intro hb <;> have hb' := hb <;> (try simp only [SH] at hb') <;> (try simp -dsimp (maxSteps := 2000000) (disch := first | omega | (simp; done) | (simp; omega)) only [SA, SB, SC, SD, SE, SF, SG, SI, Nat.reduceLT, Nat.reduceAdd, Nat.reduceSub, Nat.reduceMul, Nat.reduceLeDiff, Nat.reduceEqDiff, Nat.reduceBEq, Int.reduceToNat, Int.reduceLE, Int.reduceLT, Int.reduceEq, Int.reduceNeg, reduceCtorEq, ↓reduceIte, hb, z1]))))
    refine ⟨_, drops_old hf h5, ⟨_, h4, rfl⟩, ?_⟩
    rw [FieldsOut, h3]
    exact ⟨_, h2, rfl⟩
end Go.Proofs.YthiidchbaicfgaaGreatDoor
