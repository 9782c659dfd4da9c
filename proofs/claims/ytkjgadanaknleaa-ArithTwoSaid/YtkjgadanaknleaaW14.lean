/-
  THE WALKS, PART 14: a text is reckoned.
-/
import Derived.Test.YtkjgadanaknleaaW13
import Derived.Test.YtkjgadanaknleaaIdW
namespace Go.Proofs.Ytkjgadanaknleaa
open Go Go.Id
set_option linter.unusedSimpArgs false
set_option linter.unusedVariables false
set_option maxRecDepth 100000
set_option maxHeartbeats 4000000

/-- A slice of variables, by its contents. -/
inductive Vd : D → List V → Prop
  | vnil : Vd .nils []
  | vsome (l : List V) (r : Room) : Vd (.slc 2 (l.map V.d) r) l
theorem flat_vars : ∀ l : List V, flat (l.map V.d) = some (flatV l)
  | [] => rfl
  | v :: l => by
    have : dcells v.d = some [.str v.name, .str v.value] := rfl
    simp only [List.map_cons, flat, this, flat_vars l]; rfl
theorem clone_app {l : List V} {r : Room} {σ : St} (hl : l.length ≤ 100) (hne : l ≠ []) : iappendR 2 32 (.slc 2 [] .exact) (.slc 2 (l.map V.d) r) σ =
    some (.rslc σ.next 0 2 l.length (.opened (σ.next + 1)), (σ.alloc (.cells (flatV l))).alloc .tok) := by
  have e2 : iold 2 (.slc 2 [] .exact) σ = some (0, [], σ) := rfl
  have e1 : (0 + l.length) * 32 ≤ 140737488355328 ∧ 0 + l.length ≤ maxLen := by
    have : maxLen = 2 ^ 63 - 1 := rfl
    omega
  have e3 : ¬ l.length = 0 := by simpa using hne
  simp only [iappendR, elems, if_true, List.length_map, e2, flat_vars]
  rw [if_neg e3, if_pos e1]; simp
/-- A copy of variables. -/
structure Cl (σ : St) (y : D) (l : List V) (s : St) : Prop where
  vs : Vs s y l
  sc : scalO (some y) = some y
  ge : ∀ j t len, y = .rslc j 0 2 len (.opened t) → σ.next ≤ j ∧ σ.next ≤ t
  low : ∀ i, i < σ.next → s.obj i = σ.obj i
  nxt : σ.next ≤ s.next
theorem clone_ok {x : D} {l : List V} {σ : St} (hx : Vd x l) (hl : l.length ≤ 100) : Ok Try.prog 19 [x] σ (fun o s => ∃ y, o = .ret y ∧ Cl σ y l s) := by
  apply en19
  cases hx with
  | vnil =>
    simp -dsimp (maxSteps := 2000000) (disch := first | omega | (simp; done) | (simp; omega)) only [SA, SB, SC, SD, SE, SF, SG, Nat.reduceLT, Nat.reduceAdd, Nat.reduceSub, Nat.reduceMul, Nat.reduceLeDiff, Nat.reduceEqDiff, Nat.reduceBEq, Int.reduceToNat, Int.reduceLE, Int.reduceLT, Int.reduceEq, Int.reduceNeg, reduceCtorEq, ↓reduceIte, ic19, List.replicate_succ, List.replicate_zero]
    (repeat' (first | simp -dsimp (maxSteps := 2000000) (disch := first | omega | (simp; done) | (simp; omega)) only [SA, SB, SC, SD, SE, SF, SG, Nat.reduceLT, Nat.reduceAdd, Nat.reduceSub, Nat.reduceMul, Nat.reduceLeDiff, Nat.reduceEqDiff, Nat.reduceBEq, Int.reduceToNat, Int.reduceLE, Int.reduceLT, Int.reduceEq, Int.reduceNeg, reduceCtorEq, ↓reduceIte] | refine Cut.go ?_ | refine Both.intro ?_ ?_ | (refine Br.intro ?_ ?_ <;> intro hb <;> have hb' := hb <;> (try simp only [SH] at hb') <;> (try simp -dsimp (maxSteps := 2000000) (disch := first | omega | (simp; done) | (simp; omega)) only [SA, SB, SC, SD, SE, SF, SG, Nat.reduceLT, Nat.reduceAdd, Nat.reduceSub, Nat.reduceMul, Nat.reduceLeDiff, Nat.reduceEqDiff, Nat.reduceBEq, Int.reduceToNat, Int.reduceLE, Int.reduceLT, Int.reduceEq, Int.reduceNeg, reduceCtorEq, ↓reduceIte, hb]))))
    exact ⟨.nils, rfl, .vnil, rfl, fun _ _ _ e => (nomatch e), fun _ _ => rfl, Nat.le_refl _⟩
  | vsome l r =>
    by_cases hne : l = []
    · subst hne
      simp -dsimp (maxSteps := 2000000) (disch := first | omega | (simp; done) | (simp; omega)) only [SA, SB, SC, SD, SE, SF, SG, Nat.reduceLT, Nat.reduceAdd, Nat.reduceSub, Nat.reduceMul, Nat.reduceLeDiff, Nat.reduceEqDiff, Nat.reduceBEq, Int.reduceToNat, Int.reduceLE, Int.reduceLT, Int.reduceEq, Int.reduceNeg, reduceCtorEq, ↓reduceIte, ic19, List.replicate_succ, List.replicate_zero]
      have e : iappendR 2 32 (.slc 2 [] .exact) (.slc 2 [] r) σ = some (.slc 2 [] .exact, σ) := rfl
      (repeat' (first | simp -dsimp (maxSteps := 2000000) (disch := first | omega | (simp; done) | (simp; omega)) only [SA, SB, SC, SD, SE, SF, SG, Nat.reduceLT, Nat.reduceAdd, Nat.reduceSub, Nat.reduceMul, Nat.reduceLeDiff, Nat.reduceEqDiff, Nat.reduceBEq, Int.reduceToNat, Int.reduceLE, Int.reduceLT, Int.reduceEq, Int.reduceNeg, reduceCtorEq, ↓reduceIte, e] | refine Cut.go ?_ | refine Both.intro ?_ ?_ | (refine Br.intro ?_ ?_ <;> intro hb <;> have hb' := hb <;> (try simp only [SH] at hb') <;> (try simp -dsimp (maxSteps := 2000000) (disch := first | omega | (simp; done) | (simp; omega)) only [SA, SB, SC, SD, SE, SF, SG, Nat.reduceLT, Nat.reduceAdd, Nat.reduceSub, Nat.reduceMul, Nat.reduceLeDiff, Nat.reduceEqDiff, Nat.reduceBEq, Int.reduceToNat, Int.reduceLE, Int.reduceLT, Int.reduceEq, Int.reduceNeg, reduceCtorEq, ↓reduceIte, hb, e]))))
      exact ⟨.slc 2 [] .exact, rfl, .vnone, rfl, fun _ _ _ e => (nomatch e), fun _ _ => rfl, Nat.le_refl _⟩
    · have e := clone_app (σ := σ) (r := r) hl hne
      simp -dsimp (maxSteps := 2000000) (disch := first | omega | (simp; done) | (simp; omega)) only [SA, SB, SC, SD, SE, SF, SG, Nat.reduceLT, Nat.reduceAdd, Nat.reduceSub, Nat.reduceMul, Nat.reduceLeDiff, Nat.reduceEqDiff, Nat.reduceBEq, Int.reduceToNat, Int.reduceLE, Int.reduceLT, Int.reduceEq, Int.reduceNeg, reduceCtorEq, ↓reduceIte, ic19, List.replicate_succ, List.replicate_zero]
      (repeat' (first | simp -dsimp (maxSteps := 2000000) (disch := first | omega | (simp; done) | (simp; omega)) only [SA, SB, SC, SD, SE, SF, SG, Nat.reduceLT, Nat.reduceAdd, Nat.reduceSub, Nat.reduceMul, Nat.reduceLeDiff, Nat.reduceEqDiff, Nat.reduceBEq, Int.reduceToNat, Int.reduceLE, Int.reduceLT, Int.reduceEq, Int.reduceNeg, reduceCtorEq, ↓reduceIte, e] | refine Cut.go ?_ | refine Both.intro ?_ ?_ | (refine Br.intro ?_ ?_ <;> intro hb <;> have hb' := hb <;> (try simp only [SH] at hb') <;> (try simp -dsimp (maxSteps := 2000000) (disch := first | omega | (simp; done) | (simp; omega)) only [SA, SB, SC, SD, SE, SF, SG, Nat.reduceLT, Nat.reduceAdd, Nat.reduceSub, Nat.reduceMul, Nat.reduceLeDiff, Nat.reduceEqDiff, Nat.reduceBEq, Int.reduceToNat, Int.reduceLE, Int.reduceLT, Int.reduceEq, Int.reduceNeg, reduceCtorEq, ↓reduceIte, hb, e]))))
      refine ⟨_, rfl, .vsome _ _ l hne ?_ ?_, rfl, fun j t len e => ?_, fun i hi => ?_, ?_⟩
      · rw [alloc_obj, if_neg (by rw [alloc_next]; omega), alloc_obj, if_pos rfl]
      · rw [alloc_obj, if_pos (by rw [alloc_next])]
      · cases e; omega
      · rw [alloc_obj, if_neg (by rw [alloc_next]; omega), alloc_obj, if_neg (by omega)]
      · simp only [alloc_next]; omega
theorem clone_call {x : D} {l : List V} {σ : St} {K : Out → St → Prop} (hx : Vd x l) (hl : l.length ≤ 100) (hk : ∀ y s, s.Fresh → Cl σ y l s → K (.ret y) s) : goodFn Try.prog 19 = true ∧ Ok Try.prog 19 [x] σ K :=
  ⟨gd19, (clone_ok hx hl).fresh'.mono fun o s ⟨h0, y, h1, h2⟩ => by subst h1; exact hk y s h0 h2⟩
theorem tokens_call {s₀ : List UInt8} {σ : St} {K : Out → St → Prop} (hs : s₀.length ≤ 9000)
    (hk : ∀ n, σ.next ≤ n → (∀ l, tokensF s₀.length s₀ [] = .ok l → ∀ t, K (.ret (.tuple [toksD l t, .int .i64 0])) ⟨σ.obj, n⟩) ∧ (∀ e, tokensF s₀.length s₀ [] = .error e → K (.ret (.tuple [.nils, .int .i64 e])) ⟨σ.obj, n⟩)) :
    goodFn Try.prog 17 = true ∧ Ok Try.prog 17 [.str s₀] σ K := by
  refine ⟨gd17, (tokens_ok s₀ hs σ).mono fun o s' ⟨n, h1, h2, h3⟩ => ?_⟩
  subst h2
  have hk := hk n h1
  cases hr : tokensF s₀.length s₀ [] with
  | ok l => rw [hr] at h3; obtain ⟨t, rfl⟩ := h3; exact hk.1 l hr t
  | error e => rw [hr] at h3; subst h3; exact hk.2 e hr
theorem toksD_len (l : List Tok) (t : Nat) : ilen (toksD l t) = some (.int .i64 l.length) := by cases l with
  | nil => rfl
  | cons a r => simp [toksD, ilen]

/-! The deferred function's code behind 'recover()'. -/
noncomputable def b18 : Code := (Try.f18).body.getD .skip
noncomputable def c18 : Code := match b18 with | .seq _ c => c | c => c
noncomputable def o18 : Oper := match b18 with | .seq (.region _ os _) _ => os[0]?.getD default | _ => default
noncomputable def n18 : Nat := match b18 with | .seq (.region n _ _) _ => n | _ => 0
noncomputable def i18 : ICode := match ic18 with | .seq _ c => c | c => c
theorem rc18r : rcode Try.prog pol c18 = some i18 := by kernel_rfl
theorem hb18 : (Try.f18).body = some (.seq (.region n18 #[o18] false) c18) := by kernel_rfl
theorem hop18 : (match o18.op with | .call { callee := .builtin .recover, args, .. } => args.isEmpty | _ => false) = true := by kernel_rfl
theorem hdst18 : o18.dst = some 6 := by kernel_rfl
theorem hgu18 : o18.guard = none := by kernel_rfl
/-- The deferred call where nothing went wrong. -/
theorem rec_none {σ : St} {a b c : D} {R : Id.Mode → St → Prop} (hr : R .returning σ) : goodFn Try.prog 18 = true ∧ OkD Try.prog 18 [a, b, c] .returning σ R := by
  refine ⟨gd18, OkD_recover mixed (pol := pol) Try.func18 hb18 hop18 hdst18 hgu18 rc18r rfl ?_⟩
  show iwp Try.prog i18 _ (Env.put ⟨[a, b, c] ++ List.replicate 11 .junk, []⟩ (some 6) .nili) σ
  simp only [i18, ic18]
  simp -dsimp (maxSteps := 2000000) (disch := first | omega | (simp; done) | (simp; omega)) only [SA, SB, SC, SD, SE, SF, SG, Nat.reduceLT, Nat.reduceAdd, Nat.reduceSub, Nat.reduceMul, Nat.reduceLeDiff, Nat.reduceEqDiff, Nat.reduceBEq, Int.reduceToNat, Int.reduceLE, Int.reduceLT, Int.reduceEq, Int.reduceNeg, reduceCtorEq, ↓reduceIte, List.replicate_succ, List.replicate_zero, ep_some]
  (repeat' (first | simp -dsimp (maxSteps := 2000000) (disch := first | omega | (simp; done) | (simp; omega)) only [SA, SB, SC, SD, SE, SF, SG, Nat.reduceLT, Nat.reduceAdd, Nat.reduceSub, Nat.reduceMul, Nat.reduceLeDiff, Nat.reduceEqDiff, Nat.reduceBEq, Int.reduceToNat, Int.reduceLE, Int.reduceLT, Int.reduceEq, Int.reduceNeg, reduceCtorEq, ↓reduceIte] | refine Cut.go ?_ | refine Both.intro ?_ ?_ | (refine Br.intro ?_ ?_ <;> intro hb <;> have hb' := hb <;> (try simp only [SH] at hb') <;> (try simp -dsimp (maxSteps := 2000000) (disch := first | omega | (simp; done) | (simp; omega)) only [SA, SB, SC, SD, SE, SF, SG, Nat.reduceLT, Nat.reduceAdd, Nat.reduceSub, Nat.reduceMul, Nat.reduceLeDiff, Nat.reduceEqDiff, Nat.reduceBEq, Int.reduceToNat, Int.reduceLE, Int.reduceLT, Int.reduceEq, Int.reduceNeg, reduceCtorEq, ↓reduceIte, hb]))))
  exact ⟨rfl, hr⟩
/-- The deferred call where it was given up: what is told then. -/
theorem rec_fault {σ : St} {a b c : Nat} {e : Int} {ca cb cc : D} {R : Id.Mode → St → Prop} (ha : σ.obj a = some (.cells [ca])) (hb : σ.obj b = some (.cells [cb])) (hc : σ.obj c = some (.cells [cc])) (la : a < σ.next) (lb : b < σ.next) (lc : c < σ.next) (hab : a ≠ b) (hac : a ≠ c) (hbc : b ≠ c)
    (hr : ∀ s : St, s.obj a = some (.cells [.int .i64 0]) → s.obj b = some (.cells [.nils]) → s.obj c = some (.cells [.int .i64 e]) → (∀ i, i < σ.next → i ≠ a → i ≠ b → i ≠ c → s.obj i = σ.obj i) → σ.next ≤ s.next → R .returning s) :
    goodFn Try.prog 18 = true ∧ OkD Try.prog 18 [.ref a 0, .ref b 0, .ref c 0] (.panicking (faultD e)) σ R := by
  refine ⟨gd18, OkD_recover mixed (pol := pol) Try.func18 hb18 hop18 hdst18 hgu18 rc18r rfl ?_⟩
  show iwp Try.prog i18 _ (Env.put ⟨[.ref a 0, .ref b 0, .ref c 0] ++ List.replicate 11 .junk, []⟩ (some 6) (faultD e)) σ
  have h1 : (a = σ.next) = False := eq_false (by omega)
  have h2 : (b = σ.next) = False := eq_false (by omega)
  have h3 : (c = σ.next) = False := eq_false (by omega)
  have h4 : (a = b) = False := eq_false hab
  have h5 : (a = c) = False := eq_false hac
  have h6 : (b = c) = False := eq_false hbc
  have h7 : (b = a) = False := eq_false (Ne.symm hab)
  have h8 : (c = a) = False := eq_false (Ne.symm hac)
  have h9 : (c = b) = False := eq_false (Ne.symm hbc)
  have k1 : (σ.next = a) = False := eq_false (by omega)
  have k2 : (σ.next = b) = False := eq_false (by omega)
  have k3 : (σ.next = c) = False := eq_false (by omega)
  simp only [i18, ic18, faultD]
  simp -dsimp (maxSteps := 2000000) (disch := first | omega | (simp; done) | (simp; omega)) only [SA, SB, SC, SD, SE, SF, SG, Nat.reduceLT, Nat.reduceAdd, Nat.reduceSub, Nat.reduceMul, Nat.reduceLeDiff, Nat.reduceEqDiff, Nat.reduceBEq, Int.reduceToNat, Int.reduceLE, Int.reduceLT, Int.reduceEq, Int.reduceNeg, reduceCtorEq, ↓reduceIte, List.replicate_succ, List.replicate_zero, ep_some]
  (repeat' (first | simp -dsimp (maxSteps := 2000000) (disch := first | omega | (simp; done) | (simp; omega)) only [SA, SB, SC, SD, SE, SF, SG, Nat.reduceLT, Nat.reduceAdd, Nat.reduceSub, Nat.reduceMul, Nat.reduceLeDiff, Nat.reduceEqDiff, Nat.reduceBEq, Int.reduceToNat, Int.reduceLE, Int.reduceLT, Int.reduceEq, Int.reduceNeg, reduceCtorEq, ↓reduceIte, ha, hb, hc, h1, h2, h3, h4, h5, h6, h7, h8, h9, k1, k2, k3] | refine Cut.go ?_ | refine Both.intro ?_ ?_ | (refine Br.intro ?_ ?_ <;> intro hb <;> have hb' := hb <;> (try simp only [SH] at hb') <;> (try simp -dsimp (maxSteps := 2000000) (disch := first | omega | (simp; done) | (simp; omega)) only [SA, SB, SC, SD, SE, SF, SG, Nat.reduceLT, Nat.reduceAdd, Nat.reduceSub, Nat.reduceMul, Nat.reduceLeDiff, Nat.reduceEqDiff, Nat.reduceBEq, Int.reduceToNat, Int.reduceLE, Int.reduceLT, Int.reduceEq, Int.reduceNeg, reduceCtorEq, ↓reduceIte, hb, ha, hb, hc, h1, h2, h3, h4, h5, h6, h7, h8, h9, k1, k2, k3]))))
  refine ⟨rfl, hr _ ?_ ?_ ?_ (fun i g1 g2 g3 g4 => ?_) ?_⟩
  · rw [put_obj, if_neg hac, put_obj, if_neg hab, put_obj, if_pos rfl]
  · rw [put_obj, if_neg hbc, put_obj, if_pos rfl]
  · rw [put_obj, if_pos rfl]
  · rw [put_obj, if_neg g4, put_obj, if_neg g3, put_obj, if_neg g2, put_obj, if_neg (by omega), alloc_obj, if_neg (by omega)]
  · simp only [put_next, alloc_next]; omega
end Go.Proofs.Ytkjgadanaknleaa
