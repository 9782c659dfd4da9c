/-
  THE WALKS, layer 13, PART 17: a field ends, another begins.
-/
import Derived.Test.YthiidchbaicfgaaGreatDoorZH
namespace Go.Proofs.YthiidchbaicfgaaGreatDoor
open Go Go.Id
set_option linter.unusedSimpArgs false
set_option linter.unusedVariables false
set_option maxRecDepth 100000
set_option maxHeartbeats 4000000

/-- Fields that are done, one behind the other. -/
def Dones (jc : Nat) (s : St) : Nat → List (Nat × List UInt8 × List UInt8) → Nat → Prop
  | lo, [], up => lo ≤ up
  | lo, (j, T, P) :: r, up => ∃ blo hi q, lo ≤ j ∧ Fld none blo hi s j T P q ∧ j ≠ jc ∧ j + 1 ≠ jc ∧ jc < blo ∧ Dones jc s hi r up
theorem Dones.le {jc : Nat} {s : St} : ∀ {L : List (Nat × List UInt8 × List UInt8)} {lo up : Nat}, Dones jc s lo L up → lo ≤ up
  | [], _, _, h => h
  | (j, T, P) :: r, lo, up, h => by
    obtain ⟨blo, hi, q, h1, h2, _, _, _, h3⟩ := h
    have := Dones.le h3
    have := h2.le
    omega
theorem Dones.same {jc : Nat} {σ s : St} : ∀ {L : List (Nat × List UInt8 × List UInt8)} {lo up : Nat}, Dones jc σ lo L up → (∀ i, lo ≤ i → i < up → i ≠ jc → s.obj i = σ.obj i) → Dones jc s lo L up
  | [], _, _, h, _ => h
  | (j, T, P) :: r, lo, up, h, hs => by
    obtain ⟨blo, hi, q, h1, h2, h3, h4, h5, h6⟩ := h
    have h7 := Dones.le h6
    have h8 := h2.le
    exact ⟨blo, hi, q, h1, h2.same (hs _ (by omega) (by omega) h3) (hs _ (by omega) (by omega) h4) fun i q1 q2 => hs i (by omega) (by omega) (by omega), h3, h4, h5, h6.same fun i q1 q2 q3 => hs i (by omega) q2 q3⟩
theorem Dones.snoc {jc : Nat} {s : St} {j : Nat} {T P : List UInt8} {blo hi : Nat} {q : Bool} (hF : Fld none blo hi s j T P q) (h3 : j ≠ jc) (h4 : j + 1 ≠ jc) (h5 : jc < blo) : ∀ {L : List (Nat × List UInt8 × List UInt8)} {lo up : Nat}, Dones jc s lo L up → up ≤ j → Dones jc s lo (L ++ [(j, T, P)]) hi
  | [], lo, up, h, hj => ⟨blo, hi, q, Nat.le_trans h hj, hF, h3, h4, h5, Nat.le_refl _⟩
  | (j', T', P') :: r, lo, up, h, hj => by
    obtain ⟨blo', hi', q', g1, g2, g3, g4, g5, g6⟩ := h
    exact ⟨blo', hi', q', g1, g2, g3, g4, g5, Dones.snoc hF h3 h4 h5 g6 hj⟩
/-- Fields under way, by contents. -/
structure CS where
  L : List (List UInt8 × List UInt8)
  T : List UInt8
  P : List UInt8
  r : Bool
  w : Bool
def CS.push (c : CS) (always : Bool) : CS := { c with L := if c.r || always then c.L ++ [(c.T, c.P)] else c.L, T := [], P := [], r := false }
def lsD (L : List (Nat × List UInt8 × List UInt8)) (tk : Nat) : D := if L = [] then .nils else .slc 1 (L.map fun f => .ref f.1 0) (.opened tk)
theorem lsD_scal (L : List (Nat × List UInt8 × List UInt8)) (tk : Nat) : scal (lsD L tk) = true := by unfold lsD; split <;> rfl
/-- A cutter of fields, behind 'σ0'. -/
structure Cutting (σ0 : St) (xo : Option (Nat × List D)) (c : CS) (s : St) : Prop where
  ex : ∃ now blo up L tk, s.obj (σ0.next + 2) = some (.cells [lsD L tk, .ref now 0, .bool c.w]) ∧ (L ≠ [] → s.obj tk = some .tok ∧ up ≤ tk ∧ tk < now ∧ tk ≠ σ0.next + 2) ∧ Dones (σ0.next + 2) s σ0.next L up ∧ up ≤ now ∧ L.map (·.2) = c.L ∧
    Fld (xo.map (·.1)) blo s.next s now c.T c.P c.r ∧ now ≠ σ0.next + 2 ∧ now + 1 ≠ σ0.next + 2 ∧ σ0.next + 2 < blo ∧ ∀ k cs, xo = some (k, cs) → s.obj k = some (.cells cs) ∧ k < s.next ∧ k ≠ now ∧ k ≠ σ0.next + 2
  low : ∀ i, i < σ0.next → s.obj i = σ0.obj i
  fresh : s.Fresh
  tidy : Tidy s
/-- A new field, and who knows of it. -/
def newSt (S : St) (jc : Nat) (C : List D) : St := (((S.alloc (.cells [.nilp, .nils, .nilp, .nils, .bool false])).alloc (.ty S.next 83 (some 5))).put jc (some (.cells C)))
theorem newSt_old (S : St) (jc : Nat) (C : List D) {i : Nat} (h : i < S.next) (hj : i ≠ jc) : (newSt S jc C).obj i = S.obj i := by
  rw [newSt, put_obj, if_neg hj, two_obj, if_neg (by omega), if_neg (by omega)]
theorem newSt_fld {x : Option Nat} {S : St} {jc : Nat} (C : List D) (h : jc < S.next) : Fld x (S.next + 2) (newSt S jc C).next (newSt S jc C) S.next [] [] false := by
  refine ⟨⟨.nilp, .nilp, 0, 0, ?_, .inl rfl, .inl rfl, fun g => absurd rfl g, fun g => absurd rfl g, fun g => absurd rfl g, fun g => absurd rfl g, fun g => absurd rfl g⟩, ?_, by omega, Nat.le_refl _⟩
  · rw [newSt, put_obj, if_neg (by omega), two_obj, if_neg (by omega), if_pos rfl]; rfl
  · rw [newSt, put_obj, if_neg (by omega), two_obj, if_pos rfl]
theorem newSt_fresh {S : St} (hf : S.Fresh) {jc : Nat} (h : jc < S.next) (C : List D) : (newSt S jc C).Fresh :=
  put_fresh (alloc_fresh (alloc_fresh hf _) _) (by show jc < S.next + 1 + 1; omega) _
theorem newSt_tidy {S : St} (ht : Tidy S) (hf : S.Fresh) (jc : Nat) {C : List D} (hC : C ≠ []) : Tidy (newSt S jc C) := by
  refine Tidy.put' (Tidy.alloc_ty (ht.alloc hf (by simp)) (alloc_fresh hf _) (.inl rfl) (c := .nilp) (cs := [.nils, .nilp, .nils, .bool false]) ?_) hC
  rw [alloc_obj, if_pos rfl]
theorem push50 {σ0 s : St} {xo : Option (Nat × List D)} {c : CS} (h : Cutting σ0 xo c s) (always : Bool) (hl : c.L.length ≤ 1000000) {K : Out → St → Prop} (hk : ∀ s', Cutting σ0 xo (c.push always) s' → K (.ret (.tuple [])) s') :
    goodFn Tryz.prog 50 = true ∧ Ok Tryz.prog 50 [.ref (σ0.next + 2) 0, .bool always] s K := by
  obtain ⟨now, blo, up, L, tk, e1, e2, e3, e4, e5, e6, e7, e8, e9, e10⟩ := h.ex
  obtain ⟨a, b, d, e, o2⟩ := e6.cell
  have hle := e6.le
  have hup := e3.le
  have hLl : L.length ≤ 1000000 := by have := congrArg List.length e5; simp at this; omega
  refine ⟨gd50, ?_⟩
  obtain ⟨s1, hs1⟩ : ∃ s1, s1 = if L = [] then s else s.put tk none := ⟨_, rfl⟩
  have hs1n : s1.next = s.next := by rw [hs1]; split <;> rfl
  have hs1o : ∀ i, (L ≠ [] → i ≠ tk) → s1.obj i = s.obj i := fun i hi => by
    rw [hs1]; split
    · rfl
    · rename_i hL; rw [put_obj, if_neg (hi hL)]
  have hap : iappend 1 8 (lsD L tk) (.slc 1 [.ref now 0] .exact) s = some (lsD (L ++ [(now, c.T, c.P)]) s.next, s1.alloc .tok) := by
    have hm : maxLen = 2 ^ 63 - 1 := rfl
    by_cases hL : L = []
    · subst hL
      rw [hs1]; rfl
    · obtain ⟨q1, _⟩ := e2 hL
      have hne : L ++ [(now, c.T, c.P)] ≠ [] := by simp
      simp only [iappend, lsD, if_neg hL, if_neg hne, elems, if_true, List.length_cons, List.length_nil, List.length_map, q1, List.map_append, List.map_cons, List.map_nil]
      rw [if_neg (by omega), if_pos (by refine ⟨trivial, ?_, ?_⟩ <;> omega)]
      rw [hs1, if_neg hL]
  have dl := fun L tk => dcells_sc (lsD_scal L tk)
  have lc : cellsAt [lsD L tk, D.ref now 0, D.bool c.w] 0 none = some (lsD L tk) := by simp [cellsAt, lsD_scal]
  have oc1 : (s1.alloc .tok).obj (σ0.next + 2) = some (.cells [lsD L tk, .ref now 0, .bool c.w]) := by
    rw [alloc_obj, if_neg (by omega), hs1o _ (fun g => by have := e2 g; omega)]; exact e1
  obtain ⟨S, hS⟩ : ∃ S, S = s1.alloc .tok := ⟨_, rfl⟩
  rw [← hS] at hap oc1
  have hSn : S.next = s.next + 1 := by rw [hS, alloc_next, hs1n]
  have w1 : (σ0.next + 2 = S.next) = False := by simp; omega
  have w2 : (σ0.next + 2 = S.next + 1) = False := by simp; omega
  have w3 : (σ0.next + 2 = s.next) = False := by simp; omega
  have w4 : (σ0.next + 2 = s.next + 1) = False := by simp; omega
  have hSo : ∀ i, i < s.next → (L ≠ [] → i ≠ tk) → S.obj i = s.obj i := fun i h1 h2 => by rw [hS, alloc_obj, if_neg (by omega)]; exact hs1o i h2
  have hSt : S.obj s.next = some .tok := by rw [hS, alloc_obj, if_pos hs1n.symm]
  have hs1f : s1.Fresh := fun i hi => by
    rw [hs1n] at hi
    by_cases hL : L = []
    · rw [hs1o i fun g => absurd hL g]; exact h.fresh i hi
    · rw [hs1o i fun g => by have := e2 hL; omega]; exact h.fresh i hi
  have hs1t : Tidy s1 := by
    intro i j T n hi
    by_cases hL : L = []
    · rw [hs1, if_pos hL] at hi ⊢; exact h.tidy i j T n hi
    · rw [hs1, if_neg hL] at hi ⊢
      rw [put_obj] at hi
      split at hi
      · cases hi
      · obtain ⟨g1, c, cs, g2⟩ := h.tidy i j T n hi
        refine ⟨g1, c, cs, ?_⟩
        rw [put_obj, if_neg ?_]; exact g2
        rintro rfl
        rw [(e2 hL).1] at g2; cases g2
  have hSf : S.Fresh := by rw [hS]; exact alloc_fresh hs1f _
  have hSd : Tidy S := by rw [hS]; exact hs1t.alloc hs1f (by simp)
  have finA : (c.r || always) = true → K (.ret (.tuple [])) (newSt (S.put (σ0.next + 2) (some (.cells [lsD (L ++ [(now, c.T, c.P)]) s.next, .ref now 0, .bool c.w]))) (σ0.next + 2) [lsD (L ++ [(now, c.T, c.P)]) s.next, .ref S.next 0, .bool c.w]) := fun hr => by
    refine hk _ ?_
    have hpf := put_fresh hSf (j := σ0.next + 2) (by omega) (some (.cells [lsD (L ++ [(now, c.T, c.P)]) s.next, .ref now 0, .bool c.w]))
    have hpt := hSd.put (j := σ0.next + 2) (lsD (L ++ [(now, c.T, c.P)]) s.next) [.ref now 0, .bool c.w]
    have hpn : (S.put (σ0.next + 2) (some (.cells [lsD (L ++ [(now, c.T, c.P)]) s.next, .ref now 0, .bool c.w]))).next = s.next + 1 := hSn
    have hpo : ∀ i, i ≠ σ0.next + 2 → (S.put (σ0.next + 2) (some (.cells [lsD (L ++ [(now, c.T, c.P)]) s.next, .ref now 0, .bool c.w]))).obj i = S.obj i := fun i hi => by rw [put_obj, if_neg hi]
    rw [← show (S.put (σ0.next + 2) (some (.cells [lsD (L ++ [(now, c.T, c.P)]) s.next, .ref now 0, .bool c.w]))).next = S.next from rfl]
    generalize (S.put (σ0.next + 2) (some (.cells [lsD (L ++ [(now, c.T, c.P)]) s.next, .ref now 0, .bool c.w]))) = Q at *
    have old : ∀ i, i < s.next → i ≠ σ0.next + 2 → (L ≠ [] → i ≠ tk) → (newSt Q (σ0.next + 2) [lsD (L ++ [(now, c.T, c.P)]) s.next, .ref Q.next 0, .bool c.w]).obj i = s.obj i := fun i g1 g2 g3 => by
      rw [newSt_old _ _ _ (by omega) g2, hpo i g2, hSo i g1 g3]
    have hF := newSt_fld (x := xo.map (·.1)) (S := Q) (jc := σ0.next + 2) [lsD (L ++ [(now, c.T, c.P)]) s.next, .ref Q.next 0, .bool c.w] (by omega)
    refine ⟨⟨Q.next, Q.next + 2, s.next, L ++ [(now, c.T, c.P)], s.next, ?_, fun _ => ⟨?_, Nat.le_refl _, by omega, by omega⟩, ?_, by omega, ?_, ?_, by omega, by omega, by omega, fun k cs hk => ?_⟩, fun i hi => ?_, newSt_fresh hpf (by omega) _, newSt_tidy hpt hpf _ (by simp)⟩
    · rw [newSt, put_obj, if_pos rfl]; rfl
    · rw [newSt_old _ _ _ (by omega) (by omega), hpo _ (by omega)]; exact hSt
    · refine Dones.snoc (blo := blo) (q := c.r) (e6.forget.same (old _ (by omega) e7 fun g => by have := e2 g; omega) (old _ (by omega) e8 fun g => by have := e2 g; omega) fun i q1 q2 => old i q2 (by omega) fun g => by have := e2 g; omega) e7 e8 e9 (e3.same fun i q1 q2 q3 => old i (by omega) q3 fun g => by have := e2 g; omega) e4
    · simp [CS.push, hr, e5]
    · exact hF
    · obtain ⟨g1, g2, g3, g4⟩ := e10 k cs hk
      refine ⟨?_, ?_, by omega, g4⟩
      · rw [old k g2 g4 fun g => ?_]; exact g1
        rintro rfl
        rw [(e2 g).1] at g1; cases g1
      · show k < Q.next + 1 + 1; omega
    · rw [old i (by omega) (by omega) fun g => by have := e2 g; omega]; exact h.low i hi
  have finB : (c.r || always) = false → K (.ret (.tuple [])) (newSt s (σ0.next + 2) [lsD L tk, .ref s.next 0, .bool c.w]) := fun hr => by
    refine hk _ ?_
    have old : ∀ i, i < s.next → i ≠ σ0.next + 2 → (newSt s (σ0.next + 2) [lsD L tk, .ref s.next 0, .bool c.w]).obj i = s.obj i := fun i g1 g2 => newSt_old _ _ _ g1 g2
    refine ⟨⟨s.next, s.next + 2, up, L, tk, ?_, fun g => ?_, ?_, by omega, ?_, ?_, by omega, by omega, by omega, fun k cs hk => ?_⟩, fun i hi => ?_, newSt_fresh h.fresh (by omega) _, newSt_tidy h.tidy h.fresh _ (by simp)⟩
    · rw [newSt, put_obj, if_pos rfl]; rfl
    · obtain ⟨q1, q2, q3, q4⟩ := e2 g
      exact ⟨by rw [old _ (by omega) q4]; exact q1, q2, by omega, q4⟩
    · exact e3.same fun i q1 q2 q3 => old i (by omega) q3
    · simp [CS.push, hr, e5]
    · exact newSt_fld _ (by omega)
    · obtain ⟨g1, g2, g3, g4⟩ := e10 k cs hk
      exact ⟨by rw [old k g2 g4]; exact g1, by show k < s.next + 1 + 1; omega, by omega, g4⟩
    · rw [old i (by omega) (by omega)]; exact h.low i hi
  apply en50
  simp -dsimp (maxSteps := 2000000) (disch := first | omega | (simp; done) | (simp; omega)) only [SA, SB, SC, SD, SE, SF, SG, SI, Nat.reduceLT, Nat.reduceAdd, Nat.reduceSub, Nat.reduceMul, Nat.reduceLeDiff, Nat.reduceEqDiff, Nat.reduceBEq, Int.reduceToNat, Int.reduceLE, Int.reduceLT, Int.reduceEq, Int.reduceNeg, reduceCtorEq, ↓reduceIte, ic50, List.replicate_succ, List.replicate_zero]
  (repeat' (first | simp -dsimp (maxSteps := 2000000) (disch := first | omega | (simp; done) | (simp; omega)) only [SA, SB, SC, SD, SE, SF, SG, SI, Nat.reduceLT, Nat.reduceAdd, Nat.reduceSub, Nat.reduceMul, Nat.reduceLeDiff, Nat.reduceEqDiff, Nat.reduceBEq, Int.reduceToNat, Int.reduceLE, Int.reduceLT, Int.reduceEq, Int.reduceNeg, reduceCtorEq, ↓reduceIte, e1, o2, lsD_scal, dl, lc, hap, oc1, w1, w2, w3, w4] | refine Cut.go ?_ | refine Both.intro ?_ ?_ | (refine Br.intro ?_ ?_ <;> intro hb <;> have hb' := hb <;> (try simp only [SH] at hb') <;> (try simp -dsimp (maxSteps := 2000000) (disch := first | omega | (simp; done) | (simp; omega)) only [SA, SB, SC, SD, SE, SF, SG, SI, Nat.reduceLT, Nat.reduceAdd, Nat.reduceSub, Nat.reduceMul, Nat.reduceLeDiff, Nat.reduceEqDiff, Nat.reduceBEq, Int.reduceToNat, Int.reduceLE, Int.reduceLT, Int.reduceEq, Int.reduceNeg, reduceCtorEq, ↓reduceIte, hb, e1, o2, lsD_scal, dl, lc, hap, oc1, w1, w2, w3, w4]))))
  all_goals try exact finA (by simp [hb'])
  all_goals exact finB (by simp_all)
end Go.Proofs.YthiidchbaicfgaaGreatDoor
