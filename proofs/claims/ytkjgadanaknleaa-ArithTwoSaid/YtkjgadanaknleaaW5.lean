/-
  THE WALKS, PART 5: the parser's functions that call each other.
-/
import Derived.Test.YtkjgadanaknleaaW4
namespace Go.Proofs.Ytkjgadanaknleaa
open Go Go.Id
set_option linter.unusedSimpArgs false
set_option linter.unusedVariables false
set_option maxRecDepth 100000
set_option maxHeartbeats 4000000

/-- Something that is reckoned. -/
inductive Nd where
  | leaf (t : Tok)
  | gives (t a : Tok) (x : Nd)
  | one (t : Tok) (x : Nd)
  | two (t : Tok) (x y : Nd)
  | cond (t : Tok) (x y z : Nd)

/-- A node's cells. -/
def ndD (t : Tok) (kids : D) : D := .box [.str t.sign, .str t.name, .int .i64 t.n, kids] 0
def Nd.d : Nd → D
  | .leaf t => ndD t .nils
  | .gives t a x => ndD t (.slc 1 [ndD a .nils, x.d] .exact)
  | .one t x => ndD t (.slc 1 [x.d] .exact)
  | .two t x y => ndD t (.slc 1 [x.d, y.d] .exact)
  | .cond t x y z => ndD t (.slc 1 [x.d, y.d, z.d] .exact)

/-- What reading comes to, by fuel: a node and the tokens behind it. -/
structure Rd where
  nd : Nd
  rest : List Tok

mutual
def exprF : Nat → List Tok → Int → Except Int Rd
  | 0, _, _ => .error 0
  | f + 1, l, deep => match l with
    | a :: b :: r => if !(a.name == []) && isGives b.sign then
        match exprF f r deep with
        | .ok x => .ok ⟨.gives b a x.nd, x.rest⟩
        | .error e => .error e
      else condF f l deep
    | _ => condF f l deep
def condF : Nat → List Tok → Int → Except Int Rd
  | 0, _, _ => .error 0
  | f + 1, l, deep => match binF f 1 l deep with
    | .error e => .error e
    | .ok x => match x.rest with
      | q :: r => if q.sign == [63] then
          match exprF f r deep with
          | .error e => .error e
          | .ok y => match y.rest with
            | c :: r' => if c.sign == [58] then
                match condF f r' deep with
                | .error e => .error e
                | .ok z => .ok ⟨.cond q x.nd y.nd z.nd, z.rest⟩
              else .error 61
            | [] => .error 61
        else .ok x
      | [] => .ok x
def binF : Nat → Int → List Tok → Int → Except Int Rd
  | 0, _, _, _ => .error 0
  | f + 1, least, l, deep => match unF f l deep with
    | .error e => .error e
    | .ok x => loopF f least x deep
def loopF : Nat → Int → Rd → Int → Except Int Rd
  | 0, _, _, _ => .error 0
  | f + 1, least, x, deep => if levelOf (nextOf x.rest) ≥ least then
      match x.rest with
      | [] => .error 61
      | q :: r => match binF f (levelOf q.sign + 1) r deep with
        | .error e => .error e
        | .ok y => loopF f least ⟨.two q x.nd y.nd, y.rest⟩ deep
    else .ok x
def unF : Nat → List Tok → Int → Except Int Rd
  | 0, _, _ => .error 0
  | f + 1, l, deep => if deep + 1 > 65 then .error 63 else match l with
    | [] => .error 61
    | a :: r => if a.sign == [] then .ok ⟨.leaf a, r⟩
      else if a.sign == [43] || a.sign == [45] || a.sign == [33] || a.sign == [126] then
        match unF f r (deep + 1) with
        | .error e => .error e
        | .ok x => .ok ⟨.one a x.nd, x.rest⟩
      else if a.sign == [40] then
        match exprF f r (deep + 1) with
        | .error e => .error e
        | .ok x => match x.rest with
          | c :: r' => if c.sign == [41] then .ok ⟨x.nd, r'⟩ else .error 61
          | [] => .error 61
      else .error 61
end

/-! How a reading ends. -/
def PR (σ : St) (j t : Nat) (deep : Int) (R : Except Int Rd) (o : Out) (s' : St) : Prop := ∃ n, σ.next ≤ n ∧ match R with
  | .ok x => o = .ret x.nd.d ∧ s' = rdSt σ j x.rest t deep n
  | .error e => o = .panic (faultD e) ∧ ∃ l' deep', s' = rdSt σ j l' t deep' n
theorem PR.ok {σ : St} {j t : Nat} {deep : Int} {R : Except Int Rd} {x : Rd} {n : Nat} (h : R = .ok x) (hn : σ.next ≤ n) : PR σ j t deep R (.ret x.nd.d) (rdSt σ j x.rest t deep n) := by
  subst h; exact ⟨n, hn, rfl, rfl⟩
theorem PR.err {σ : St} {j t : Nat} {deep : Int} {R : Except Int Rd} {e : Int} {n : Nat} (l' : List Tok) (deep' : Int) (h : R = .error e) (hn : σ.next ≤ n) : PR σ j t deep R (.panic (faultD e)) (rdSt σ j l' t deep' n) := by
  subst h; exact ⟨n, hn, rfl, l', deep', rfl⟩
/-- That a function reads so. -/
def Parses (f : FuncId) (ex : List D) (R : Except Int Rd) (l : List Tok) (deep : Int) : Prop :=
  ∀ (σ : St) (j t : Nat), σ.obj j = some (rdr l t deep) → Ok Try.prog f (.ref j 0 :: ex) σ (PR σ j t deep R)
theorem Parses.call {f : FuncId} {ex : List D} {R : Except Int Rd} {l : List Tok} {deep : Int} (hp : Parses f ex R l deep) {σ : St} {j t : Nat} {K : Out → St → Prop} (gd : goodFn Try.prog f = true) (h : σ.obj j = some (rdr l t deep))
    (hk : ∀ n, σ.next ≤ n → (∀ x, R = .ok x → K (.ret x.nd.d) (rdSt σ j x.rest t deep n)) ∧ (∀ e, R = .error e → ∀ l' deep', K (.panic (faultD e)) (rdSt σ j l' t deep' n))) : goodFn Try.prog f = true ∧ Ok Try.prog f (.ref j 0 :: ex) σ K := by
  refine ⟨gd, (hp σ j t h).mono ?_⟩
  rintro o s' ⟨n, hn, hh⟩
  have hk := hk n hn
  cases R with
  | ok x => obtain ⟨rfl, rfl⟩ := hh; exact hk.1 x rfl
  | error e => obtain ⟨rfl, l', deep', rfl⟩ := hh; exact hk.2 e rfl l' deep'
theorem take_call {a : Tok} {l : List Tok} {t : Nat} {deep : Int} {j : Nat} {σ : St} {K : Out → St → Prop} (h : σ.obj j = some (rdr (a :: l) t deep)) (hk : ∀ n, σ.next ≤ n → K (.ret a.d) (rdSt σ j l t deep n)) :
    goodFn Try.prog 35 = true ∧ Ok Try.prog 35 [.ref j 0] σ K := by
  refine ⟨gd35, (take_ok h).mono ?_⟩
  rintro o s' ⟨n, hn, rfl, rfl⟩
  exact hk n hn
theorem take_none {t : Nat} {deep : Int} {j : Nat} {σ : St} {K : Out → St → Prop} (h : σ.obj j = some (rdr [] t deep)) (hk : ∀ n, σ.next ≤ n → K (.panic (faultD 61)) (rdSt σ j [] t deep n)) :
    goodFn Try.prog 35 = true ∧ Ok Try.prog 35 [.ref j 0] σ K := by
  refine ⟨gd35, (take_ok h).mono ?_⟩
  rintro o s' ⟨n, hn, rfl, rfl⟩
  exact hk n hn
theorem Drops_rd {σ s : St} {j t : Nat} {l : List Tok} {deep : Int} {n : Nat} (hf : σ.Fresh) (hn : s.next ≤ n) (hj : s.obj j = some (rdr l t deep)) (ho : ∀ i, i < σ.next → i ≠ j → s.obj i = σ.obj i) : Drops s (rdSt σ j l t deep n) := by
  refine ⟨hn, fun i => ?_⟩
  rw [rdSt_obj]
  by_cases h : i = j
  · subst h; right; rw [if_pos rfl, hj]
  · rw [if_neg h]
    by_cases h2 : i < σ.next
    · right; exact (ho i h2 h).symm
    · left; exact hf i (by omega)
def Fit (l : List Tok) (deep : Int) : Prop := (∀ a ∈ l, a.sign.length ≤ 9000) ∧ 0 ≤ deep ∧ deep ≤ 65
theorem Fit.tail {a : Tok} {l : List Tok} {deep : Int} (h : Fit (a :: l) deep) : Fit l deep := ⟨fun x hx => h.1 x (List.mem_cons_of_mem _ hx), h.2⟩
theorem Fit.suf {l r : List Tok} {deep : Int} (h : Fit l deep) (hs : r <:+ l) : Fit r deep := ⟨fun x hx => h.1 x (hs.subset hx), h.2⟩

theorem dc_nd (x : Nd) : dcells x.d = some [x.d] := by cases x <;> rfl
@[simp] theorem sc_nd (x : Nd) : scal x.d = true := by cases x <;> rfl
theorem PR.ok' {σ : St} {j t : Nat} {deep : Int} {R : Except Int Rd} {n : Nat} {rest : List Tok} (x : Nd) {d : D} (hd : d = x.d) (h : R = .ok ⟨x, rest⟩) (hn : σ.next ≤ n) : PR σ j t deep R (.ret d) (rdSt σ j rest t deep n) := by
  rw [hd]; exact PR.ok h hn
theorem rdSt_at (σ : St) (j : Nat) (l : List Tok) (t : Nat) (deep : Int) (n : Nat) : (rdSt σ j l t deep n).obj j = some (rdr l t deep) := by rw [rdSt_obj, if_pos rfl]
/-- The rest of a text, shorter. -/
def Sub (r l : List Tok) : Prop := r <:+ l ∧ r.length < l.length
theorem Sub.trans {a b c : List Tok} (h : Sub a b) (h2 : Sub b c) : Sub a c := ⟨h.1.trans h2.1, by have := h.2; have := h2.2; omega⟩
theorem Sub.cons (a : Tok) (l : List Tok) : Sub l (a :: l) := ⟨List.suffix_cons a l, by simp⟩
theorem Sub.pre {a b c : List Tok} (h : a <:+ b) (h2 : Sub b c) : Sub a c := ⟨h.trans h2.1, by have := h.length_le; have := h2.2; omega⟩
theorem subF : ∀ f, (∀ l d x, exprF f l d = .ok x → Sub x.rest l) ∧ (∀ l d x, condF f l d = .ok x → Sub x.rest l) ∧ (∀ least l d x, binF f least l d = .ok x → Sub x.rest l) ∧ (∀ l d x, unF f l d = .ok x → Sub x.rest l) ∧
    (∀ least x d y, loopF f least x d = .ok y → y.rest <:+ x.rest)
  | 0 => by
    refine ⟨?_, ?_, ?_, ?_, ?_⟩ <;> intros <;> rename_i h <;> simp [exprF, condF, binF, unF, loopF] at h
  | f + 1 => by
    obtain ⟨he, hc, hb, hu, hl⟩ := subF f
    refine ⟨fun l d x h => ?_, fun l d x h => ?_, fun least l d x h => ?_, fun l d x h => ?_, fun least x d y h => ?_⟩
    · rw [exprF.eq_def] at h
      simp only [] at h
      split at h
      · rename_i a b r
        split at h
        · split at h
          · rename_i y hy; cases h; exact (he _ _ _ hy).trans ((Sub.cons b r).trans (Sub.cons a _))
          · cases h
        · exact hc _ _ _ h
      · exact hc _ _ _ h
    · rw [condF] at h
      split at h
      · cases h
      · rename_i x1 h1
        have s1 := hb _ _ _ _ h1
        split at h
        · rename_i q r hr
          split at h
          · split at h
            · cases h
            · rename_i y hy
              have s2 := he _ _ _ hy
              split at h
              · rename_i c r' hr'
                split at h
                · split at h
                  · cases h
                  · rename_i z hz
                    cases h
                    rw [hr] at s1; rw [hr'] at s2
                    exact (hc _ _ _ hz).trans ((Sub.cons _ _).trans (s2.trans ((Sub.cons _ _).trans s1)))
                · cases h
              · cases h
          · cases h; exact s1
        · cases h; exact s1
    · rw [binF] at h
      split at h
      · cases h
      · rename_i x1 h1
        exact Sub.pre (hl _ _ _ _ h) (hu _ _ _ h1)
    · rw [unF.eq_def] at h
      simp only [] at h
      split at h
      · cases h
      · split at h
        · cases h
        · rename_i a r
          split at h
          · cases h; exact Sub.cons _ _
          · split at h
            · split at h
              · cases h
              · rename_i x1 h1; cases h; exact (hu _ _ _ h1).trans (Sub.cons _ _)
            · split at h
              · split at h
                · cases h
                · rename_i x1 h1
                  split at h
                  · rename_i c r' hr
                    split at h
                    · cases h
                      have := he _ _ _ h1
                      rw [hr] at this
                      exact (Sub.cons _ _).trans (this.trans (Sub.cons _ _))
                    · cases h
                  · cases h
              · cases h
    · rw [loopF] at h
      split at h
      · split at h
        · cases h
        · rename_i q r hr
          split at h
          · cases h
          · rename_i y1 h1
            rw [hr]
            exact (hl _ _ _ _ h).trans ((hb _ _ _ _ h1).trans (Sub.cons _ _)).1
      · cases h; exact List.suffix_refl _
theorem Fit.sub {l r : List Tok} {deep : Int} (h : Fit l deep) (hs : Sub r l) : Fit r deep := h.suf hs.1

theorem ix_0 (sz : Nat) (x : D) (xs : List D) (r : Room) (k : IntKind) : idxAddrS sz (.slc sz (x :: xs) r) (.int k 0) = boxO (dcells x) := by
  simp only [idxAddrS, and_self, if_true, Int.le_refl, Int.toNat_zero, List.getElem?_cons_zero, Option.bind_some]; cases dcells x <;> rfl
theorem ix_1 (sz : Nat) (x y : D) (xs : List D) (r : Room) (k : IntKind) : idxAddrS sz (.slc sz (x :: y :: xs) r) (.int k 1) = boxO (dcells y) := by
  simp only [idxAddrS, and_self, if_true, show (0 : Int) ≤ 1 by omega, show (1 : Int).toNat = 1 from rfl, List.getElem?_cons_succ, List.getElem?_cons_zero, Option.bind_some]; cases dcells y <;> rfl

theorem expr_walk (f : Nat) (l : List Tok) (deep : Int) (hfit : Fit l deep)
    (hexpr : ∀ r, r.length + 2 ≤ l.length → Fit r deep → Parses 20 [] (exprF f r deep) r deep)
    (hcond : Parses 36 [] (condF f l deep) l deep) : Parses 20 [] (exprF (f + 1) l deep) l deep := by
  intro σ j t h
  refine Ok.fresh fun hf => Ok.drop ?_
  have hlt : j < σ.next := Nat.lt_of_not_le fun hle => by rw [hf _ hle] at h; cases h
  have h0 := h
  unfold rdr at h
  have tail : exprF (f + 1) l deep = condF f l deep → ∀ {K : Out → St → Prop}, (∀ o s, PR σ j t deep (exprF (f + 1) l deep) o s → K o s) → goodFn Try.prog 36 = true ∧ Ok Try.prog 36 [.ref j 0] σ K := fun he K hk =>
    ⟨gd36, (hcond σ j t h0).mono fun o s hh => hk o s (by rw [he]; exact hh)⟩
  apply en20
  cases l with
  | nil =>
    have e0 : decide (((0 : Nat) : Int) > 1) = false := rfl
    simp -dsimp (maxSteps := 2000000) (disch := first | omega | (simp; done) | (simp; omega)) only [SA, SB, SC, SD, SE, SF, SG, Nat.reduceLT, Nat.reduceAdd, Nat.reduceSub, Nat.reduceMul, Nat.reduceLeDiff, Nat.reduceEqDiff, Nat.reduceBEq, Int.reduceToNat, Int.reduceLE, Int.reduceLT, Int.reduceEq, Int.reduceNeg, reduceCtorEq, ↓reduceIte, ic20, List.replicate_succ, List.replicate_zero]
    (repeat' (first | simp -dsimp (maxSteps := 2000000) (disch := first | omega | (simp; done) | (simp; omega)) only [SA, SB, SC, SD, SE, SF, SG, Nat.reduceLT, Nat.reduceAdd, Nat.reduceSub, Nat.reduceMul, Nat.reduceLeDiff, Nat.reduceEqDiff, Nat.reduceBEq, Int.reduceToNat, Int.reduceLE, Int.reduceLT, Int.reduceEq, Int.reduceNeg, reduceCtorEq, ↓reduceIte, h, e0] | refine Cut.go ?_ | refine Both.intro ?_ ?_ | (refine Br.intro ?_ ?_ <;> intro hb <;> have hb' := hb <;> (try simp only [SH] at hb') <;> (try simp -dsimp (maxSteps := 2000000) (disch := first | omega | (simp; done) | (simp; omega)) only [SA, SB, SC, SD, SE, SF, SG, Nat.reduceLT, Nat.reduceAdd, Nat.reduceSub, Nat.reduceMul, Nat.reduceLeDiff, Nat.reduceEqDiff, Nat.reduceBEq, Int.reduceToNat, Int.reduceLE, Int.reduceLT, Int.reduceEq, Int.reduceNeg, reduceCtorEq, ↓reduceIte, hb, h, e0]))))
    refine tail (by simp only [exprF]) fun o s hp => ?_
    cases o with
    | ret d => (repeat' (first | simp -dsimp (maxSteps := 2000000) (disch := first | omega | (simp; done) | (simp; omega)) only [SA, SB, SC, SD, SE, SF, SG, Nat.reduceLT, Nat.reduceAdd, Nat.reduceSub, Nat.reduceMul, Nat.reduceLeDiff, Nat.reduceEqDiff, Nat.reduceBEq, Int.reduceToNat, Int.reduceLE, Int.reduceLT, Int.reduceEq, Int.reduceNeg, reduceCtorEq, ↓reduceIte] | refine Cut.go ?_)); exact ⟨s, Drops.refl s, hp⟩
    | panic d => exact ⟨s, Drops.refl s, hp⟩
  | cons a l =>
    cases l with
    | nil =>
      have e0 : decide (((0 + 1 : Nat) : Int) > 1) = false := rfl
      simp -dsimp (maxSteps := 2000000) (disch := first | omega | (simp; done) | (simp; omega)) only [SA, SB, SC, SD, SE, SF, SG, Nat.reduceLT, Nat.reduceAdd, Nat.reduceSub, Nat.reduceMul, Nat.reduceLeDiff, Nat.reduceEqDiff, Nat.reduceBEq, Int.reduceToNat, Int.reduceLE, Int.reduceLT, Int.reduceEq, Int.reduceNeg, reduceCtorEq, ↓reduceIte, ic20, List.replicate_succ, List.replicate_zero]
      (repeat' (first | simp -dsimp (maxSteps := 2000000) (disch := first | omega | (simp; done) | (simp; omega)) only [SA, SB, SC, SD, SE, SF, SG, Nat.reduceLT, Nat.reduceAdd, Nat.reduceSub, Nat.reduceMul, Nat.reduceLeDiff, Nat.reduceEqDiff, Nat.reduceBEq, Int.reduceToNat, Int.reduceLE, Int.reduceLT, Int.reduceEq, Int.reduceNeg, reduceCtorEq, ↓reduceIte, h, e0] | refine Cut.go ?_ | refine Both.intro ?_ ?_ | (refine Br.intro ?_ ?_ <;> intro hb <;> have hb' := hb <;> (try simp only [SH] at hb') <;> (try simp -dsimp (maxSteps := 2000000) (disch := first | omega | (simp; done) | (simp; omega)) only [SA, SB, SC, SD, SE, SF, SG, Nat.reduceLT, Nat.reduceAdd, Nat.reduceSub, Nat.reduceMul, Nat.reduceLeDiff, Nat.reduceEqDiff, Nat.reduceBEq, Int.reduceToNat, Int.reduceLE, Int.reduceLT, Int.reduceEq, Int.reduceNeg, reduceCtorEq, ↓reduceIte, hb, h, e0]))))
      refine tail (by simp only [exprF]) fun o s hp => ?_
      cases o with
      | ret d => (repeat' (first | simp -dsimp (maxSteps := 2000000) (disch := first | omega | (simp; done) | (simp; omega)) only [SA, SB, SC, SD, SE, SF, SG, Nat.reduceLT, Nat.reduceAdd, Nat.reduceSub, Nat.reduceMul, Nat.reduceLeDiff, Nat.reduceEqDiff, Nat.reduceBEq, Int.reduceToNat, Int.reduceLE, Int.reduceLT, Int.reduceEq, Int.reduceNeg, reduceCtorEq, ↓reduceIte] | refine Cut.go ?_)); exact ⟨s, Drops.refl s, hp⟩
      | panic d => exact ⟨s, Drops.refl s, hp⟩
    | cons b r =>
      have e1 : decide (((r.length + 1 + 1 : Nat) : Int) > 1) = true := by simp; omega
      simp -dsimp (maxSteps := 2000000) (disch := first | omega | (simp; done) | (simp; omega)) only [SA, SB, SC, SD, SE, SF, SG, Nat.reduceLT, Nat.reduceAdd, Nat.reduceSub, Nat.reduceMul, Nat.reduceLeDiff, Nat.reduceEqDiff, Nat.reduceBEq, Int.reduceToNat, Int.reduceLE, Int.reduceLT, Int.reduceEq, Int.reduceNeg, reduceCtorEq, ↓reduceIte, ic20, List.replicate_succ, List.replicate_zero]
      have hs : b.sign.length ≤ 9000 := hfit.1 b (by simp)
      (repeat' (first | simp -dsimp (maxSteps := 2000000) (disch := first | omega | (simp; done) | (simp; omega)) only [SA, SB, SC, SD, SE, SF, SG, Nat.reduceLT, Nat.reduceAdd, Nat.reduceSub, Nat.reduceMul, Nat.reduceLeDiff, Nat.reduceEqDiff, Nat.reduceBEq, Int.reduceToNat, Int.reduceLE, Int.reduceLT, Int.reduceEq, Int.reduceNeg, reduceCtorEq, ↓reduceIte, h, e1, Tok.d, ix_0, ix_1] | refine Cut.go ?_ | refine Both.intro ?_ ?_ | refine (gives_call (t := b) hs) ?_ | (refine Br.intro ?_ ?_ <;> intro hb <;> have hb' := hb <;> (try simp only [SH] at hb') <;> (try simp -dsimp (maxSteps := 2000000) (disch := first | omega | (simp; done) | (simp; omega)) only [SA, SB, SC, SD, SE, SF, SG, Nat.reduceLT, Nat.reduceAdd, Nat.reduceSub, Nat.reduceMul, Nat.reduceLeDiff, Nat.reduceEqDiff, Nat.reduceBEq, Int.reduceToNat, Int.reduceLE, Int.reduceLT, Int.reduceEq, Int.reduceNeg, reduceCtorEq, ↓reduceIte, hb, h, e1, Tok.d, ix_0, ix_1]))))
      · refine tail (by simp only [exprF, hb]; rfl) fun o s hp => ?_
        cases o with
        | ret d => (repeat' (first | simp -dsimp (maxSteps := 2000000) (disch := first | omega | (simp; done) | (simp; omega)) only [SA, SB, SC, SD, SE, SF, SG, Nat.reduceLT, Nat.reduceAdd, Nat.reduceSub, Nat.reduceMul, Nat.reduceLeDiff, Nat.reduceEqDiff, Nat.reduceBEq, Int.reduceToNat, Int.reduceLE, Int.reduceLT, Int.reduceEq, Int.reduceNeg, reduceCtorEq, ↓reduceIte] | refine Cut.go ?_)); exact ⟨s, Drops.refl s, hp⟩
        | panic d => exact ⟨s, Drops.refl s, hp⟩
      · rename_i hb1 hb1'
        refine take_call h0 fun n1 hn1 => ?_
        (repeat' (first | simp -dsimp (maxSteps := 2000000) (disch := first | omega | (simp; done) | (simp; omega)) only [SA, SB, SC, SD, SE, SF, SG, Nat.reduceLT, Nat.reduceAdd, Nat.reduceSub, Nat.reduceMul, Nat.reduceLeDiff, Nat.reduceEqDiff, Nat.reduceBEq, Int.reduceToNat, Int.reduceLE, Int.reduceLT, Int.reduceEq, Int.reduceNeg, reduceCtorEq, ↓reduceIte, Tok.d] | refine Cut.go ?_ | refine Both.intro ?_ ?_ | (refine Br.intro ?_ ?_ <;> intro hb <;> have hb' := hb <;> (try simp only [SH] at hb') <;> (try simp -dsimp (maxSteps := 2000000) (disch := first | omega | (simp; done) | (simp; omega)) only [SA, SB, SC, SD, SE, SF, SG, Nat.reduceLT, Nat.reduceAdd, Nat.reduceSub, Nat.reduceMul, Nat.reduceLeDiff, Nat.reduceEqDiff, Nat.reduceBEq, Int.reduceToNat, Int.reduceLE, Int.reduceLT, Int.reduceEq, Int.reduceNeg, reduceCtorEq, ↓reduceIte, hb, Tok.d]))))
        refine take_call (rdSt_at ..) fun n2 hn2 => ?_
        (repeat' (first | simp -dsimp (maxSteps := 2000000) (disch := first | omega | (simp; done) | (simp; omega)) only [SA, SB, SC, SD, SE, SF, SG, Nat.reduceLT, Nat.reduceAdd, Nat.reduceSub, Nat.reduceMul, Nat.reduceLeDiff, Nat.reduceEqDiff, Nat.reduceBEq, Int.reduceToNat, Int.reduceLE, Int.reduceLT, Int.reduceEq, Int.reduceNeg, reduceCtorEq, ↓reduceIte, Tok.d, rdSt_rdSt] | refine Cut.go ?_ | refine Both.intro ?_ ?_ | (refine Br.intro ?_ ?_ <;> intro hb <;> have hb' := hb <;> (try simp only [SH] at hb') <;> (try simp -dsimp (maxSteps := 2000000) (disch := first | omega | (simp; done) | (simp; omega)) only [SA, SB, SC, SD, SE, SF, SG, Nat.reduceLT, Nat.reduceAdd, Nat.reduceSub, Nat.reduceMul, Nat.reduceLeDiff, Nat.reduceEqDiff, Nat.reduceBEq, Int.reduceToNat, Int.reduceLE, Int.reduceLT, Int.reduceEq, Int.reduceNeg, reduceCtorEq, ↓reduceIte, hb, Tok.d, rdSt_rdSt]))))
        refine (hexpr r (by simp) hfit.tail.tail).call gd20 (rdSt_at ..) fun n3 hn3 => ⟨fun x hx => ?_, fun e he l' deep' => ?_⟩
        · (repeat' (first | simp -dsimp (maxSteps := 2000000) (disch := first | omega | (simp; done) | (simp; omega)) only [SA, SB, SC, SD, SE, SF, SG, Nat.reduceLT, Nat.reduceAdd, Nat.reduceSub, Nat.reduceMul, Nat.reduceLeDiff, Nat.reduceEqDiff, Nat.reduceBEq, Int.reduceToNat, Int.reduceLE, Int.reduceLT, Int.reduceEq, Int.reduceNeg, reduceCtorEq, ↓reduceIte, Tok.d, rdSt_rdSt, dc_nd] | refine Cut.go ?_ | refine Both.intro ?_ ?_ | (refine Br.intro ?_ ?_ <;> intro hb <;> have hb' := hb <;> (try simp only [SH] at hb') <;> (try simp -dsimp (maxSteps := 2000000) (disch := first | omega | (simp; done) | (simp; omega)) only [SA, SB, SC, SD, SE, SF, SG, Nat.reduceLT, Nat.reduceAdd, Nat.reduceSub, Nat.reduceMul, Nat.reduceLeDiff, Nat.reduceEqDiff, Nat.reduceBEq, Int.reduceToNat, Int.reduceLE, Int.reduceLT, Int.reduceEq, Int.reduceNeg, reduceCtorEq, ↓reduceIte, hb, Tok.d, rdSt_rdSt, dc_nd]))))
          refine ⟨_, Drops.refl _, ?_⟩
          exact PR.ok' (.gives b a x.nd) rfl (by simp only [exprF, hb1, hb, hx]; rfl) (by simp only [rdSt_next] at hn2 hn3; omega)
        · (repeat' (first | simp -dsimp (maxSteps := 2000000) (disch := first | omega | (simp; done) | (simp; omega)) only [SA, SB, SC, SD, SE, SF, SG, Nat.reduceLT, Nat.reduceAdd, Nat.reduceSub, Nat.reduceMul, Nat.reduceLeDiff, Nat.reduceEqDiff, Nat.reduceBEq, Int.reduceToNat, Int.reduceLE, Int.reduceLT, Int.reduceEq, Int.reduceNeg, reduceCtorEq, ↓reduceIte, Tok.d, rdSt_rdSt] | refine Cut.go ?_ | refine Both.intro ?_ ?_ | (refine Br.intro ?_ ?_ <;> intro hb <;> have hb' := hb <;> (try simp only [SH] at hb') <;> (try simp -dsimp (maxSteps := 2000000) (disch := first | omega | (simp; done) | (simp; omega)) only [SA, SB, SC, SD, SE, SF, SG, Nat.reduceLT, Nat.reduceAdd, Nat.reduceSub, Nat.reduceMul, Nat.reduceLeDiff, Nat.reduceEqDiff, Nat.reduceBEq, Int.reduceToNat, Int.reduceLE, Int.reduceLT, Int.reduceEq, Int.reduceNeg, reduceCtorEq, ↓reduceIte, hb, Tok.d, rdSt_rdSt]))))
          refine ⟨_, Drops.refl _, ?_⟩
          exact PR.err l' deep' (by simp only [exprF, hb1, hb, he]; rfl) (by simp only [rdSt_next] at hn2 hn3; omega)
      · rename_i hb1 hb1'
        refine tail (by simp only [exprF, hb, hb1]; rfl) fun o s hp => ?_
        cases o with
        | ret d => (repeat' (first | simp -dsimp (maxSteps := 2000000) (disch := first | omega | (simp; done) | (simp; omega)) only [SA, SB, SC, SD, SE, SF, SG, Nat.reduceLT, Nat.reduceAdd, Nat.reduceSub, Nat.reduceMul, Nat.reduceLeDiff, Nat.reduceEqDiff, Nat.reduceBEq, Int.reduceToNat, Int.reduceLE, Int.reduceLT, Int.reduceEq, Int.reduceNeg, reduceCtorEq, ↓reduceIte] | refine Cut.go ?_)); exact ⟨s, Drops.refl s, hp⟩
        | panic d => exact ⟨s, Drops.refl s, hp⟩

/-- A token that was taken lies in a cell of its own. -/
structure Kept (σ : St) (j k : Nat) (q : Tok) (s : St) : Prop where
  at_k : s.obj k = some (.cells [.str q.sign, .str q.name, .int .i64 q.n])
  ne : k ≠ j
  ge : σ.next ≤ k
  nx : k < s.next
  old : ∀ i, i < σ.next → i ≠ j → s.obj i = σ.obj i
theorem Kept.rd {σ s : St} {j k : Nat} {q : Tok} (h : Kept σ j k q s) (l : List Tok) (t : Nat) (deep : Int) {n : Nat} (hn : s.next ≤ n) : Kept σ j k q (rdSt s j l t deep n) :=
  ⟨by rw [rdSt_obj, if_neg h.ne, h.at_k], h.ne, h.ge, by have := h.nx; simp only [rdSt_next]; omega, fun i h1 h2 => by rw [rdSt_obj, if_neg h2, h.old i h1 h2]⟩
theorem Kept.new {σ : St} {j t : Nat} {l : List Tok} {deep : Int} {n : Nat} (q : Tok) (z : List D) (hj : j < σ.next) (hn : σ.next ≤ n) :
    Kept σ j n q (((rdSt σ j l t deep n).alloc (.cells z)).put n (some (.cells [.str q.sign, .str q.name, .int .i64 q.n]))) :=
  ⟨by rw [put_obj, if_pos rfl], by omega, hn, by simp only [put_next, alloc_next, rdSt_next]; omega, fun i h1 h2 => by
    rw [put_obj, if_neg (by omega), alloc_obj, if_neg (by simp only [rdSt_next]; omega), rdSt_obj, if_neg h2]⟩
theorem Kept.drops {σ s : St} {j k : Nat} {q : Tok} (h : Kept σ j k q s) (hf : σ.Fresh) (l : List Tok) (t : Nat) (deep : Int) (n : Nat) : Drops (rdSt s j l t deep n) (rdSt σ j l t deep n) :=
  Drops_rd hf (Nat.le_refl _) (rdSt_at ..) fun i h1 h2 => by rw [rdSt_obj, if_neg h2, h.old i h1 h2]

theorem cond_walk (f : Nat) (l : List Tok) (deep : Int) (hfit : Fit l deep)
    (hbin : Parses 56 [.int .i64 1] (binF f 1 l deep) l deep)
    (hexpr : ∀ r, r.length + 1 ≤ l.length → Fit r deep → Parses 20 [] (exprF f r deep) r deep)
    (hcond : ∀ r, r.length + 1 ≤ l.length → Fit r deep → Parses 36 [] (condF f r deep) r deep) : Parses 36 [] (condF (f + 1) l deep) l deep := by
  intro σ j t h
  refine Ok.fresh fun hf => Ok.drop ?_
  have hlt : j < σ.next := Nat.lt_of_not_le fun hle => by rw [hf _ hle] at h; cases h
  apply en36
  simp -dsimp (maxSteps := 2000000) (disch := first | omega | (simp; done) | (simp; omega)) only [SA, SB, SC, SD, SE, SF, SG, Nat.reduceLT, Nat.reduceAdd, Nat.reduceSub, Nat.reduceMul, Nat.reduceLeDiff, Nat.reduceEqDiff, Nat.reduceBEq, Int.reduceToNat, Int.reduceLE, Int.reduceLT, Int.reduceEq, Int.reduceNeg, reduceCtorEq, ↓reduceIte, ic36, List.replicate_succ, List.replicate_zero]
  (repeat' (first | simp -dsimp (maxSteps := 2000000) (disch := first | omega | (simp; done) | (simp; omega)) only [SA, SB, SC, SD, SE, SF, SG, Nat.reduceLT, Nat.reduceAdd, Nat.reduceSub, Nat.reduceMul, Nat.reduceLeDiff, Nat.reduceEqDiff, Nat.reduceBEq, Int.reduceToNat, Int.reduceLE, Int.reduceLT, Int.reduceEq, Int.reduceNeg, reduceCtorEq, ↓reduceIte] | refine Cut.go ?_ | refine Both.intro ?_ ?_ | (refine Br.intro ?_ ?_ <;> intro hb <;> have hb' := hb <;> (try simp only [SH] at hb') <;> (try simp -dsimp (maxSteps := 2000000) (disch := first | omega | (simp; done) | (simp; omega)) only [SA, SB, SC, SD, SE, SF, SG, Nat.reduceLT, Nat.reduceAdd, Nat.reduceSub, Nat.reduceMul, Nat.reduceLeDiff, Nat.reduceEqDiff, Nat.reduceBEq, Int.reduceToNat, Int.reduceLE, Int.reduceLT, Int.reduceEq, Int.reduceNeg, reduceCtorEq, ↓reduceIte, hb]))))
  refine hbin.call gd56 h fun n1 hn1 => ⟨fun x hx => ?_, fun e he l' deep' => ?_⟩
  rotate_left
  · (repeat' (first | simp -dsimp (maxSteps := 2000000) (disch := first | omega | (simp; done) | (simp; omega)) only [SA, SB, SC, SD, SE, SF, SG, Nat.reduceLT, Nat.reduceAdd, Nat.reduceSub, Nat.reduceMul, Nat.reduceLeDiff, Nat.reduceEqDiff, Nat.reduceBEq, Int.reduceToNat, Int.reduceLE, Int.reduceLT, Int.reduceEq, Int.reduceNeg, reduceCtorEq, ↓reduceIte] | refine Cut.go ?_ | refine Both.intro ?_ ?_ | (refine Br.intro ?_ ?_ <;> intro hb <;> have hb' := hb <;> (try simp only [SH] at hb') <;> (try simp -dsimp (maxSteps := 2000000) (disch := first | omega | (simp; done) | (simp; omega)) only [SA, SB, SC, SD, SE, SF, SG, Nat.reduceLT, Nat.reduceAdd, Nat.reduceSub, Nat.reduceMul, Nat.reduceLeDiff, Nat.reduceEqDiff, Nat.reduceBEq, Int.reduceToNat, Int.reduceLE, Int.reduceLT, Int.reduceEq, Int.reduceNeg, reduceCtorEq, ↓reduceIte, hb]))))
    exact ⟨_, Drops.refl _, PR.err l' deep' (by simp only [condF, he]) hn1⟩
  obtain ⟨nd, rest⟩ := x
  have s1 : Sub rest l := (subF f).2.2.1 _ _ _ _ hx
  (repeat' (first | simp -dsimp (maxSteps := 2000000) (disch := first | omega | (simp; done) | (simp; omega)) only [SA, SB, SC, SD, SE, SF, SG, Nat.reduceLT, Nat.reduceAdd, Nat.reduceSub, Nat.reduceMul, Nat.reduceLeDiff, Nat.reduceEqDiff, Nat.reduceBEq, Int.reduceToNat, Int.reduceLE, Int.reduceLT, Int.reduceEq, Int.reduceNeg, reduceCtorEq, ↓reduceIte] | refine Cut.go ?_ | refine Both.intro ?_ ?_ | refine next_call (rdSt_at ..) ?_ | (refine Br.intro ?_ ?_ <;> intro hb <;> have hb' := hb <;> (try simp only [SH] at hb') <;> (try simp -dsimp (maxSteps := 2000000) (disch := first | omega | (simp; done) | (simp; omega)) only [SA, SB, SC, SD, SE, SF, SG, Nat.reduceLT, Nat.reduceAdd, Nat.reduceSub, Nat.reduceMul, Nat.reduceLeDiff, Nat.reduceEqDiff, Nat.reduceBEq, Int.reduceToNat, Int.reduceLE, Int.reduceLT, Int.reduceEq, Int.reduceNeg, reduceCtorEq, ↓reduceIte, hb]))))
  rotate_left
  · cases rest with
    | nil =>
      exact ⟨_, Drops.refl _, PR.ok (x := ⟨nd, []⟩) (by simp only [condF, hx]) hn1⟩
    | cons q r =>
      simp only [nextOf] at hb hb'
      exact ⟨_, Drops.refl _, PR.ok (x := ⟨nd, q :: r⟩) (by simp only [condF, hx, hb', hb]; rfl) hn1⟩
  cases rest with
  | nil => simp [nextOf] at hb'
  | cons q r =>
    simp only [nextOf] at hb hb'
    have hq := hb
    have l1 := s1.2
    simp only [List.length_cons] at l1
    refine take_call (rdSt_at ..) fun n2 hn2 => ?_
    rw [rdSt_rdSt]
    simp only [rdSt_next] at hn2
    (repeat' (first | simp -dsimp (maxSteps := 2000000) (disch := first | omega | (simp; done) | (simp; omega)) only [SA, SB, SC, SD, SE, SF, SG, Nat.reduceLT, Nat.reduceAdd, Nat.reduceSub, Nat.reduceMul, Nat.reduceLeDiff, Nat.reduceEqDiff, Nat.reduceBEq, Int.reduceToNat, Int.reduceLE, Int.reduceLT, Int.reduceEq, Int.reduceNeg, reduceCtorEq, ↓reduceIte, Tok.d, alloc_obj, rdSt_next] | refine Cut.go ?_ | refine Both.intro ?_ ?_ | (refine Br.intro ?_ ?_ <;> intro hb <;> have hb' := hb <;> (try simp only [SH] at hb') <;> (try simp -dsimp (maxSteps := 2000000) (disch := first | omega | (simp; done) | (simp; omega)) only [SA, SB, SC, SD, SE, SF, SG, Nat.reduceLT, Nat.reduceAdd, Nat.reduceSub, Nat.reduceMul, Nat.reduceLeDiff, Nat.reduceEqDiff, Nat.reduceBEq, Int.reduceToNat, Int.reduceLE, Int.reduceLT, Int.reduceEq, Int.reduceNeg, reduceCtorEq, ↓reduceIte, hb, Tok.d, alloc_obj, rdSt_next]))))
    have kp := Kept.new (σ := σ) (j := j) (t := t) (l := r) (deep := deep) (n := n2) q [.str [], .str [], .int .i64 0] hlt (by omega)
    have h2 : (((rdSt σ j r t deep n2).alloc (.cells [.str [], .str [], .int .i64 0])).put n2 (some (.cells [.str q.sign, .str q.name, .int .i64 q.n]))).obj j = some (rdr r t deep) := by
      rw [put_obj, if_neg kp.ne.symm, alloc_obj, if_neg (by simp only [rdSt_next]; omega), rdSt_at]
    have hx2 : (((rdSt σ j r t deep n2).alloc (.cells [.str [], .str [], .int .i64 0])).put n2 (some (.cells [.str q.sign, .str q.name, .int .i64 q.n]))).next = n2 + 1 := rfl
    generalize ((rdSt σ j r t deep n2).alloc (.cells [.str [], .str [], .int .i64 0])).put n2 (some (.cells [.str q.sign, .str q.name, .int .i64 q.n])) = σ2 at kp h2 hx2 ⊢
    have hk : ∀ l t d n, (rdSt σ2 j l t d n).obj n2 = some (.cells [.str q.sign, .str q.name, .int .i64 q.n]) := fun l t d n => by rw [rdSt_obj, if_neg kp.ne, kp.at_k]
    refine (hexpr r (by omega) (hfit.sub s1).tail).call gd20 h2 fun n3 hn3 => ⟨fun y hy => ?_, fun e he l' deep' => ?_⟩
    rotate_left
    · (repeat' (first | simp -dsimp (maxSteps := 2000000) (disch := first | omega | (simp; done) | (simp; omega)) only [SA, SB, SC, SD, SE, SF, SG, Nat.reduceLT, Nat.reduceAdd, Nat.reduceSub, Nat.reduceMul, Nat.reduceLeDiff, Nat.reduceEqDiff, Nat.reduceBEq, Int.reduceToNat, Int.reduceLE, Int.reduceLT, Int.reduceEq, Int.reduceNeg, reduceCtorEq, ↓reduceIte] | refine Cut.go ?_ | refine Both.intro ?_ ?_ | (refine Br.intro ?_ ?_ <;> intro hb <;> have hb' := hb <;> (try simp only [SH] at hb') <;> (try simp -dsimp (maxSteps := 2000000) (disch := first | omega | (simp; done) | (simp; omega)) only [SA, SB, SC, SD, SE, SF, SG, Nat.reduceLT, Nat.reduceAdd, Nat.reduceSub, Nat.reduceMul, Nat.reduceLeDiff, Nat.reduceEqDiff, Nat.reduceBEq, Int.reduceToNat, Int.reduceLE, Int.reduceLT, Int.reduceEq, Int.reduceNeg, reduceCtorEq, ↓reduceIte, hb]))))
      exact ⟨_, kp.drops hf .., PR.err l' deep' (by simp only [condF, hx, hq, he]; rfl) (by omega)⟩
    obtain ⟨nd2, rest2⟩ := y
    have s2 : Sub rest2 r := (subF f).1 _ _ _ hy
    (repeat' (first | simp -dsimp (maxSteps := 2000000) (disch := first | omega | (simp; done) | (simp; omega)) only [SA, SB, SC, SD, SE, SF, SG, Nat.reduceLT, Nat.reduceAdd, Nat.reduceSub, Nat.reduceMul, Nat.reduceLeDiff, Nat.reduceEqDiff, Nat.reduceBEq, Int.reduceToNat, Int.reduceLE, Int.reduceLT, Int.reduceEq, Int.reduceNeg, reduceCtorEq, ↓reduceIte] | refine Cut.go ?_ | refine Both.intro ?_ ?_ | refine next_call (rdSt_at ..) ?_ | (refine Br.intro ?_ ?_ <;> intro hb <;> have hb' := hb <;> (try simp only [SH] at hb') <;> (try simp -dsimp (maxSteps := 2000000) (disch := first | omega | (simp; done) | (simp; omega)) only [SA, SB, SC, SD, SE, SF, SG, Nat.reduceLT, Nat.reduceAdd, Nat.reduceSub, Nat.reduceMul, Nat.reduceLeDiff, Nat.reduceEqDiff, Nat.reduceBEq, Int.reduceToNat, Int.reduceLE, Int.reduceLT, Int.reduceEq, Int.reduceNeg, reduceCtorEq, ↓reduceIte, hb]))))
    rotate_left
    · refine ⟨_, kp.drops hf .., PR.err rest2 deep ?_ (by omega)⟩
      cases rest2 with
      | nil => simp only [condF, hx, hq, hy]; rfl
      | cons c r' =>
        simp only [nextOf] at hb
        simp only [condF, hx, hq, hy, hb]; rfl
    cases rest2 with
    | nil => simp [nextOf] at hb'
    | cons c r' =>
      simp only [nextOf] at hb hb'
      have l2 := s2.2
      simp only [List.length_cons] at l2
      refine take_call (rdSt_at ..) fun n4 hn4 => ?_
      rw [rdSt_rdSt]
      simp only [rdSt_next] at hn4
      (repeat' (first | simp -dsimp (maxSteps := 2000000) (disch := first | omega | (simp; done) | (simp; omega)) only [SA, SB, SC, SD, SE, SF, SG, Nat.reduceLT, Nat.reduceAdd, Nat.reduceSub, Nat.reduceMul, Nat.reduceLeDiff, Nat.reduceEqDiff, Nat.reduceBEq, Int.reduceToNat, Int.reduceLE, Int.reduceLT, Int.reduceEq, Int.reduceNeg, reduceCtorEq, ↓reduceIte, Tok.d, hk] | refine Cut.go ?_ | refine Both.intro ?_ ?_ | (refine Br.intro ?_ ?_ <;> intro hb <;> have hb' := hb <;> (try simp only [SH] at hb') <;> (try simp -dsimp (maxSteps := 2000000) (disch := first | omega | (simp; done) | (simp; omega)) only [SA, SB, SC, SD, SE, SF, SG, Nat.reduceLT, Nat.reduceAdd, Nat.reduceSub, Nat.reduceMul, Nat.reduceLeDiff, Nat.reduceEqDiff, Nat.reduceBEq, Int.reduceToNat, Int.reduceLE, Int.reduceLT, Int.reduceEq, Int.reduceNeg, reduceCtorEq, ↓reduceIte, hb, Tok.d, hk]))))
      refine (hcond r' (by omega) ((hfit.sub s1).tail.sub s2).tail).call gd36 (rdSt_at ..) fun n5 hn5 => ⟨fun z hz => ?_, fun e he l' deep' => ?_⟩
      · simp only [rdSt_next] at hn5
        (repeat' (first | simp -dsimp (maxSteps := 2000000) (disch := first | omega | (simp; done) | (simp; omega)) only [SA, SB, SC, SD, SE, SF, SG, Nat.reduceLT, Nat.reduceAdd, Nat.reduceSub, Nat.reduceMul, Nat.reduceLeDiff, Nat.reduceEqDiff, Nat.reduceBEq, Int.reduceToNat, Int.reduceLE, Int.reduceLT, Int.reduceEq, Int.reduceNeg, reduceCtorEq, ↓reduceIte, rdSt_rdSt, hk, dc_nd] | refine Cut.go ?_ | refine Both.intro ?_ ?_ | (refine Br.intro ?_ ?_ <;> intro hb <;> have hb' := hb <;> (try simp only [SH] at hb') <;> (try simp -dsimp (maxSteps := 2000000) (disch := first | omega | (simp; done) | (simp; omega)) only [SA, SB, SC, SD, SE, SF, SG, Nat.reduceLT, Nat.reduceAdd, Nat.reduceSub, Nat.reduceMul, Nat.reduceLeDiff, Nat.reduceEqDiff, Nat.reduceBEq, Int.reduceToNat, Int.reduceLE, Int.reduceLT, Int.reduceEq, Int.reduceNeg, reduceCtorEq, ↓reduceIte, hb, rdSt_rdSt, hk, dc_nd]))))
        exact ⟨_, kp.drops hf .., PR.ok' (.cond q nd nd2 z.nd) rfl (by simp only [condF, hx, hq, hy, hb, hz]; rfl) (by omega)⟩
      · simp only [rdSt_next] at hn5
        (repeat' (first | simp -dsimp (maxSteps := 2000000) (disch := first | omega | (simp; done) | (simp; omega)) only [SA, SB, SC, SD, SE, SF, SG, Nat.reduceLT, Nat.reduceAdd, Nat.reduceSub, Nat.reduceMul, Nat.reduceLeDiff, Nat.reduceEqDiff, Nat.reduceBEq, Int.reduceToNat, Int.reduceLE, Int.reduceLT, Int.reduceEq, Int.reduceNeg, reduceCtorEq, ↓reduceIte, rdSt_rdSt, hk] | refine Cut.go ?_ | refine Both.intro ?_ ?_ | (refine Br.intro ?_ ?_ <;> intro hb <;> have hb' := hb <;> (try simp only [SH] at hb') <;> (try simp -dsimp (maxSteps := 2000000) (disch := first | omega | (simp; done) | (simp; omega)) only [SA, SB, SC, SD, SE, SF, SG, Nat.reduceLT, Nat.reduceAdd, Nat.reduceSub, Nat.reduceMul, Nat.reduceLeDiff, Nat.reduceEqDiff, Nat.reduceBEq, Int.reduceToNat, Int.reduceLE, Int.reduceLT, Int.reduceEq, Int.reduceNeg, reduceCtorEq, ↓reduceIte, hb, rdSt_rdSt, hk]))))
        exact ⟨_, kp.drops hf .., PR.err l' deep' (by simp only [condF, hx, hq, hy, hb, he]; rfl) (by omega)⟩
end Go.Proofs.Ytkjgadanaknleaa
