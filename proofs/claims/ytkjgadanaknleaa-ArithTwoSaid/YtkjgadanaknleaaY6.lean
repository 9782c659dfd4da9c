/-
  THE WALKS, PART 46: the document reads tokens.
-/
import Derived.Test.YtkjgadanaknleaaY5
namespace Go.Proofs.Ytkjgadanaknleaa
open Go Go.Id
set_option linter.unusedSimpArgs false
set_option linter.unusedVariables false
set_option maxRecDepth 100000
set_option maxHeartbeats 4000000

/-- A node, as the document keeps it. -/
def Nd.tok : Nd → Tok
  | .leaf t | .gives t _ _ | .one t _ | .two t _ _ => t
  | .cond _ _ _ _ => ⟨[63], [], 0⟩
def nodeD (t : Tok) (k : D) : D := .agg [.str t.sign, .str t.name, .int .i64 t.n, k]
def Nd.kids : Nd → D
  | .leaf _ => .nils
  | .gives _ a x => .slc 4 [nodeD a .nils, nodeD x.tok x.kids] .exact
  | .one _ x => .slc 4 [nodeD x.tok x.kids] .exact
  | .two _ x y => .slc 4 [nodeD x.tok x.kids, nodeD y.tok y.kids] .exact
  | .cond _ x y z => .slc 4 [nodeD x.tok x.kids, nodeD y.tok y.kids, nodeD z.tok z.kids] .exact
@[simp] theorem kids_sc (x : Nd) : scal x.kids = true := by cases x <;> rfl
def readD (t : Tok) (k : D) (at' e : Int) : D := .agg [.str t.sign, .str t.name, .int .i64 t.n, k, .int .i64 at', .int .i64 e]

/-- How a reading ends. -/
def RP (σ : St) (l : List Tok) (R : Except Int Rd) (o : Out) (s' : St) : Prop := ∃ n, σ.next ≤ n ∧ s' = ⟨σ.obj, n⟩ ∧ match R with
  | .ok x => ∃ p : Nat, p ≤ l.length ∧ l.drop p = x.rest ∧ o = .ret (readD x.nd.tok x.nd.kids p 0)
  | .error e => ∃ t k at', scal k = true ∧ o = .ret (readD t k at' e)
def Reads (f : FuncId) (ex : List D) (R : Except Int Rd) (l : List Tok) (i : Nat) : Prop :=
  ∀ (r : Room) (σ : St), Ok Try.prog f (.slc 3 (l.map Tok.d) r :: .int .i64 i :: ex) σ (RP σ l R)
theorem Reads.call {f : FuncId} {ex : List D} {R : Except Int Rd} {l : List Tok} {i : Nat} (hp : Reads f ex R l i) {r : Room} {σ : St} {K : Out → St → Prop} (gd : goodFn Try.prog f = true)
    (hk : ∀ n, σ.next ≤ n → (∀ x, R = .ok x → ∀ p : Nat, p ≤ l.length → l.drop p = x.rest → K (.ret (readD x.nd.tok x.nd.kids p 0)) ⟨σ.obj, n⟩) ∧ (∀ e, R = .error e → ∀ t k at', scal k = true → K (.ret (readD t k at' e)) ⟨σ.obj, n⟩)) :
    goodFn Try.prog f = true ∧ Ok Try.prog f (.slc 3 (l.map Tok.d) r :: .int .i64 i :: ex) σ K := by
  refine ⟨gd, (hp r σ).mono ?_⟩
  rintro o s' ⟨n, hn, rfl, hh⟩
  have hk := hk n hn
  cases R with
  | ok x => obtain ⟨p, h1, h2, rfl⟩ := hh; exact hk.1 x rfl p h1 h2
  | error e => obtain ⟨t, k, at', h1, rfl⟩ := hh; exact hk.2 e rfl t k at' h1
theorem drops_end {σ s : St} (hf : σ.Fresh) (h : ∀ i, i < σ.next → s.obj i = σ.obj i) : Drops s ⟨σ.obj, s.next⟩ := by
  refine ⟨Nat.le_refl _, fun i => ?_⟩
  by_cases hi : i < σ.next
  · exact .inr (h i hi).symm
  · exact .inl (hf i (by omega))
theorem rp_ok {σ s : St} {l : List Tok} {R : Except Int Rd} {d : D} (x : Rd) (p : Nat) (hp : p ≤ l.length) (hr : l.drop p = x.rest) (hf : σ.Fresh) (ho : ∀ i, i < σ.next → s.obj i = σ.obj i) (hn : σ.next ≤ s.next) (hR : R = .ok x) (hd : d = readD x.nd.tok x.nd.kids p 0) :
    ∃ s', Drops s s' ∧ RP σ l R (.ret d) s' := by
  subst hR; exact ⟨_, drops_end hf ho, s.next, hn, rfl, p, hp, hr, by rw [hd]⟩
theorem sub_at {l : List Tok} {x : Rd} {i p : Nat} (h : Sub x.rest (l.drop i)) (hp : p ≤ l.length) (hr : l.drop p = x.rest) : i < p := by
  have := h.2
  rw [← hr, List.length_drop, List.length_drop] at this
  omega
theorem next_cons {l : List Tok} {p : Nat} {s : List UInt8} (hs : s ≠ []) (h : nextOf (l.drop p) = s) : p < l.length ∧ (l.getD p default).sign = s ∧ l.drop p = l.getD p default :: l.drop (p + 1) := by
  by_cases hp : p < l.length
  · have := drop_tok hp
    rw [this] at h
    exact ⟨hp, h, this⟩
  · rw [List.drop_eq_nil_of_le (by omega)] at h
    exact absurd h.symm hs
theorem rp_err {σ s : St} {l : List Tok} {R : Except Int Rd} {e : Int} {d : D} (t : Tok) (k : D) (at' : Int) (hf : σ.Fresh) (ho : ∀ i, i < σ.next → s.obj i = σ.obj i) (hn : σ.next ≤ s.next) (hR : R = .error e) (hk : scal k = true) (hd : d = readD t k at' e) :
    ∃ s', Drops s s' ∧ RP σ l R (.ret d) s' := by
  subst hR; exact ⟨_, drops_end hf ho, s.next, hn, rfl, t, k, at', hk, by rw [hd]⟩
theorem ite_ne {α : Type} {i j : Nat} {inst : Decidable (i = j)} {a b : α} (h : i ≠ j) : @ite α (i = j) inst a b = b := if_neg h
theorem nodeD_dc (t : Tok) (k : D) (h : scal k = true) : dcells (nodeD t k) = some [.str t.sign, .str t.name, .int .i64 t.n, k] := by
  simp [nodeD, dcells, h]
/-- What lies behind. -/
theorem drop_suf {r l : List Tok} (h : r <:+ l) : l.drop (l.length - r.length) = r := by
  obtain ⟨t, rfl⟩ := h
  simp

theorem old_alloc {σ : St} {i n : Nat} {x : Ob} (h : i < n) (hn : n ≤ σ.next) : (σ.alloc x).obj i = σ.obj i := by rw [alloc_obj, if_neg (by omega)]
theorem expr_at {l : List Tok} {i : Nat} {d : Int} (h : i + 1 < l.length) (hn : (l.getD i default).name ≠ []) (hg : isGives (l.getD (i + 1) default).sign = true) : exprE (l.drop i) d = match exprE (l.drop (i + 2)) d with
    | .ok x => .ok ⟨.gives (l.getD (i + 1) default) (l.getD i default) x.nd, x.rest⟩
    | .error e => .error e := by
  rw [drop_tok (by omega), drop_tok h, exprE_gives]
  · rfl
  have : ((l.getD i default).name == []) = false := by simpa using hn
  rw [this, hg]; rfl
theorem expr_not {l : List Tok} {i : Nat} {d : Int} (h : i + 1 < l.length → (l.getD i default).name ≠ [] → isGives (l.getD (i + 1) default).sign = false) : exprE (l.drop i) d = condE (l.drop i) d := by
  refine exprE_cond fun a b r hab => ?_
  have h1 : (l.drop i).length = r.length + 2 := by rw [hab]; rfl
  rw [List.length_drop] at h1
  rw [drop_tok (by omega), drop_tok (by omega)] at hab
  simp only [List.cons.injEq] at hab
  obtain ⟨rfl, rfl, rfl⟩ := hab
  by_cases hn : (l.getD i default).name = []
  · rw [hn]; rfl
  · rw [h (by omega) hn, Bool.and_false]
theorem all_walk (l : List Tok) (i : Nat) (nest : Int) (hl : l.length ≤ 9000) (hi : i ≤ l.length) (hs : ∀ j, SgOk (l.getD j default).sign)
    (hall : ∀ i', i < i' → i' ≤ l.length → Reads 23 [.int .i64 nest] (exprE (l.drop i') nest) l i')
    (hcond : Reads 47 [.int .i64 nest] (condE (l.drop i) nest) l i) : Reads 23 [.int .i64 nest] (exprE (l.drop i) nest) l i := by
  intro r σ
  refine Ok.fresh fun hf => Ok.drop ?_
  apply en23
  have hi1 : ((i : Int) + 1).toNat = i + 1 := by omega
  have hi2 : (i : Int) + 2 = ((i + 2 : Nat) : Int) := by omega
  simp -dsimp (maxSteps := 2000000) (disch := first | omega | (simp; done) | (simp; omega)) only [SA, SB, SC, SD, SE, SF, SG, Nat.reduceLT, Nat.reduceAdd, Nat.reduceSub, Nat.reduceMul, Nat.reduceLeDiff, Nat.reduceEqDiff, Nat.reduceBEq, Int.reduceToNat, Int.reduceLE, Int.reduceLT, Int.reduceEq, Int.reduceNeg, reduceCtorEq, ↓reduceIte, ic23, List.replicate_succ, List.replicate_zero]
  (repeat' (first | simp -dsimp (maxSteps := 2000000) (disch := first | omega | (simp; done) | (simp; omega)) only [SA, SB, SC, SD, SE, SF, SG, Nat.reduceLT, Nat.reduceAdd, Nat.reduceSub, Nat.reduceMul, Nat.reduceLeDiff, Nat.reduceEqDiff, Nat.reduceBEq, Int.reduceToNat, Int.reduceLE, Int.reduceLT, Int.reduceEq, Int.reduceNeg, reduceCtorEq, ↓reduceIte, hi1, hi2, Tok.d] | refine Cut.go ?_ | refine Both.intro ?_ ?_ | refine rgives_call ?_ | (refine Br.intro ?_ ?_ <;> intro hb <;> have hb' := hb <;> (try simp only [SH] at hb') <;> (try simp -dsimp (maxSteps := 2000000) (disch := first | omega | (simp; done) | (simp; omega)) only [SA, SB, SC, SD, SE, SF, SG, Nat.reduceLT, Nat.reduceAdd, Nat.reduceSub, Nat.reduceMul, Nat.reduceLeDiff, Nat.reduceEqDiff, Nat.reduceBEq, Int.reduceToNat, Int.reduceLE, Int.reduceLT, Int.reduceEq, Int.reduceNeg, reduceCtorEq, ↓reduceIte, hb, hi1, hi2, Tok.d]))))
  rotate_right
  all_goals try
    have hc : exprE (l.drop i) nest = condE (l.drop i) nest := expr_not fun q1 q2 => by
      first
        | omega
        | exact absurd hb' q2
        | (rw [← gives_eq (hs _)]; exact hb)
    refine hcond.call gd47 fun n hn => ⟨fun x hx p hp hr => ?_, fun e he t k at' hk => ?_⟩
    · rw [alloc_next] at hn
      (repeat' (first | simp -dsimp (maxSteps := 2000000) (disch := first | omega | (simp; done) | (simp; omega)) only [SA, SB, SC, SD, SE, SF, SG, Nat.reduceLT, Nat.reduceAdd, Nat.reduceSub, Nat.reduceMul, Nat.reduceLeDiff, Nat.reduceEqDiff, Nat.reduceBEq, Int.reduceToNat, Int.reduceLE, Int.reduceLT, Int.reduceEq, Int.reduceNeg, reduceCtorEq, ↓reduceIte, readD, ite_ne, kids_sc] | refine Cut.go ?_ | refine Both.intro ?_ ?_ | (refine Br.intro ?_ ?_ <;> intro hb <;> have hb' := hb <;> (try simp only [SH] at hb') <;> (try simp -dsimp (maxSteps := 2000000) (disch := first | omega | (simp; done) | (simp; omega)) only [SA, SB, SC, SD, SE, SF, SG, Nat.reduceLT, Nat.reduceAdd, Nat.reduceSub, Nat.reduceMul, Nat.reduceLeDiff, Nat.reduceEqDiff, Nat.reduceBEq, Int.reduceToNat, Int.reduceLE, Int.reduceLT, Int.reduceEq, Int.reduceNeg, reduceCtorEq, ↓reduceIte, hb, readD, ite_ne, kids_sc]))))
      exact rp_ok x p hp hr hf (fun j hj => (by first | rfl | (simp (disch := omega) only [put_obj, alloc_obj, put_next, alloc_next, ite_ne]; done))) (by first | omega | (simp only [put_next, alloc_next]; omega)) (by rw [hc, hx]) rfl
    · rw [alloc_next] at hn
      (repeat' (first | simp -dsimp (maxSteps := 2000000) (disch := first | omega | (simp; done) | (simp; omega)) only [SA, SB, SC, SD, SE, SF, SG, Nat.reduceLT, Nat.reduceAdd, Nat.reduceSub, Nat.reduceMul, Nat.reduceLeDiff, Nat.reduceEqDiff, Nat.reduceBEq, Int.reduceToNat, Int.reduceLE, Int.reduceLT, Int.reduceEq, Int.reduceNeg, reduceCtorEq, ↓reduceIte, readD, ite_ne, hk] | refine Cut.go ?_ | refine Both.intro ?_ ?_ | (refine Br.intro ?_ ?_ <;> intro hb <;> have hb' := hb <;> (try simp only [SH] at hb') <;> (try simp -dsimp (maxSteps := 2000000) (disch := first | omega | (simp; done) | (simp; omega)) only [SA, SB, SC, SD, SE, SF, SG, Nat.reduceLT, Nat.reduceAdd, Nat.reduceSub, Nat.reduceMul, Nat.reduceLeDiff, Nat.reduceEqDiff, Nat.reduceBEq, Int.reduceToNat, Int.reduceLE, Int.reduceLT, Int.reduceEq, Int.reduceNeg, reduceCtorEq, ↓reduceIte, hb, readD, ite_ne, hk]))))
      exact rp_err t k at' hf (fun j hj => (by first | rfl | (simp (disch := omega) only [put_obj, alloc_obj, put_next, alloc_next, ite_ne]; done))) (by first | omega | (simp only [put_next, alloc_next]; omega)) (by rw [hc, he]) hk rfl
  rename_i q1 q2 q3 q4
  have hx0 := expr_at (d := nest) (i := i) (l := l) (by omega) q4 (by rw [← gives_eq (hs _)]; exact hb)
  refine (hall (i + 2) (by omega) (by omega)).call gd23 fun n hn => ⟨fun x hx p hp hr => ?_, fun e he t k at' hk => ?_⟩
  · rw [alloc_next] at hn
    rw [hx] at hx0
    have z0 : ((0 : Int) != 0) = false := rfl
    (repeat' (first | simp -dsimp (maxSteps := 2000000) (disch := first | omega | (simp; done) | (simp; omega)) only [SA, SB, SC, SD, SE, SF, SG, Nat.reduceLT, Nat.reduceAdd, Nat.reduceSub, Nat.reduceMul, Nat.reduceLeDiff, Nat.reduceEqDiff, Nat.reduceBEq, Int.reduceToNat, Int.reduceLE, Int.reduceLT, Int.reduceEq, Int.reduceNeg, reduceCtorEq, ↓reduceIte, readD, ite_ne, kids_sc, hi1, Tok.d, z0] | refine Cut.go ?_ | refine Both.intro ?_ ?_ | (refine Br.intro ?_ ?_ <;> intro hb <;> have hb' := hb <;> (try simp only [SH] at hb') <;> (try simp -dsimp (maxSteps := 2000000) (disch := first | omega | (simp; done) | (simp; omega)) only [SA, SB, SC, SD, SE, SF, SG, Nat.reduceLT, Nat.reduceAdd, Nat.reduceSub, Nat.reduceMul, Nat.reduceLeDiff, Nat.reduceEqDiff, Nat.reduceBEq, Int.reduceToNat, Int.reduceLE, Int.reduceLT, Int.reduceEq, Int.reduceNeg, reduceCtorEq, ↓reduceIte, hb, readD, ite_ne, kids_sc, hi1, Tok.d, z0]))))
    exact rp_ok ⟨.gives (l.getD (i + 1) default) (l.getD i default) x.nd, x.rest⟩ p hp hr hf (fun j hj => (by first | rfl | (simp (disch := omega) only [put_obj, alloc_obj, put_next, alloc_next, ite_ne]; done))) (by first | omega | (simp only [put_next, alloc_next]; omega)) hx0 rfl
  · rw [alloc_next] at hn
    rw [he] at hx0
    have hne : (e != 0) = true := by simpa using exprE_nz he
    (repeat' (first | simp -dsimp (maxSteps := 2000000) (disch := first | omega | (simp; done) | (simp; omega)) only [SA, SB, SC, SD, SE, SF, SG, Nat.reduceLT, Nat.reduceAdd, Nat.reduceSub, Nat.reduceMul, Nat.reduceLeDiff, Nat.reduceEqDiff, Nat.reduceBEq, Int.reduceToNat, Int.reduceLE, Int.reduceLT, Int.reduceEq, Int.reduceNeg, reduceCtorEq, ↓reduceIte, readD, ite_ne, hk, hne] | refine Cut.go ?_ | refine Both.intro ?_ ?_ | (refine Br.intro ?_ ?_ <;> intro hb <;> have hb' := hb <;> (try simp only [SH] at hb') <;> (try simp -dsimp (maxSteps := 2000000) (disch := first | omega | (simp; done) | (simp; omega)) only [SA, SB, SC, SD, SE, SF, SG, Nat.reduceLT, Nat.reduceAdd, Nat.reduceSub, Nat.reduceMul, Nat.reduceLeDiff, Nat.reduceEqDiff, Nat.reduceBEq, Int.reduceToNat, Int.reduceLE, Int.reduceLT, Int.reduceEq, Int.reduceNeg, reduceCtorEq, ↓reduceIte, hb, readD, ite_ne, hk, hne]))))
    exact rp_err t k at' hf (fun j hj => (by first | rfl | (simp (disch := omega) only [put_obj, alloc_obj, put_next, alloc_next, ite_ne]; done))) (by first | omega | (simp only [put_next, alloc_next]; omega)) hx0 hk rfl
theorem cond_walk2 (l : List Tok) (i : Nat) (nest : Int) (hl : l.length ≤ 9000) (hi : i ≤ l.length)
    (hlev : Reads 65 [.int .i64 0, .int .i64 nest] (binE 1 (l.drop i) nest) l i)
    (hall : ∀ i', i < i' → i' ≤ l.length → Reads 23 [.int .i64 nest] (exprE (l.drop i') nest) l i')
    (hcond : ∀ i', i < i' → i' ≤ l.length → Reads 47 [.int .i64 nest] (condE (l.drop i') nest) l i') : Reads 47 [.int .i64 nest] (condE (l.drop i) nest) l i := by
  intro r σ
  refine Ok.fresh fun hf => Ok.drop ?_
  apply en47
  simp -dsimp (maxSteps := 2000000) (disch := first | omega | (simp; done) | (simp; omega)) only [SA, SB, SC, SD, SE, SF, SG, Nat.reduceLT, Nat.reduceAdd, Nat.reduceSub, Nat.reduceMul, Nat.reduceLeDiff, Nat.reduceEqDiff, Nat.reduceBEq, Int.reduceToNat, Int.reduceLE, Int.reduceLT, Int.reduceEq, Int.reduceNeg, reduceCtorEq, ↓reduceIte, ic47, List.replicate_succ, List.replicate_zero]
  (repeat' (first | simp -dsimp (maxSteps := 2000000) (disch := first | omega | (simp; done) | (simp; omega)) only [SA, SB, SC, SD, SE, SF, SG, Nat.reduceLT, Nat.reduceAdd, Nat.reduceSub, Nat.reduceMul, Nat.reduceLeDiff, Nat.reduceEqDiff, Nat.reduceBEq, Int.reduceToNat, Int.reduceLE, Int.reduceLT, Int.reduceEq, Int.reduceNeg, reduceCtorEq, ↓reduceIte] | refine Cut.go ?_ | refine Both.intro ?_ ?_ | (refine Br.intro ?_ ?_ <;> intro hb <;> have hb' := hb <;> (try simp only [SH] at hb') <;> (try simp -dsimp (maxSteps := 2000000) (disch := first | omega | (simp; done) | (simp; omega)) only [SA, SB, SC, SD, SE, SF, SG, Nat.reduceLT, Nat.reduceAdd, Nat.reduceSub, Nat.reduceMul, Nat.reduceLeDiff, Nat.reduceEqDiff, Nat.reduceBEq, Int.reduceToNat, Int.reduceLE, Int.reduceLT, Int.reduceEq, Int.reduceNeg, reduceCtorEq, ↓reduceIte, hb]))))
  have hce := condE_eq (l.drop i) nest
  refine hlev.call gd65 fun n1 hn1 => ⟨fun x hx p hp hr => ?_, fun e he t k at' hk => ?_⟩
  rotate_left
  · rw [alloc_next] at hn1
    have hne : (e != 0) = true := by simpa using binE_nz he
    (repeat' (first | simp -dsimp (maxSteps := 2000000) (disch := first | omega | (simp; done) | (simp; omega)) only [SA, SB, SC, SD, SE, SF, SG, Nat.reduceLT, Nat.reduceAdd, Nat.reduceSub, Nat.reduceMul, Nat.reduceLeDiff, Nat.reduceEqDiff, Nat.reduceBEq, Int.reduceToNat, Int.reduceLE, Int.reduceLT, Int.reduceEq, Int.reduceNeg, reduceCtorEq, ↓reduceIte, readD, ite_ne, hk, hne] | refine Cut.go ?_ | refine Both.intro ?_ ?_ | (refine Br.intro ?_ ?_ <;> intro hb <;> have hb' := hb <;> (try simp only [SH] at hb') <;> (try simp -dsimp (maxSteps := 2000000) (disch := first | omega | (simp; done) | (simp; omega)) only [SA, SB, SC, SD, SE, SF, SG, Nat.reduceLT, Nat.reduceAdd, Nat.reduceSub, Nat.reduceMul, Nat.reduceLeDiff, Nat.reduceEqDiff, Nat.reduceBEq, Int.reduceToNat, Int.reduceLE, Int.reduceLT, Int.reduceEq, Int.reduceNeg, reduceCtorEq, ↓reduceIte, hb, readD, ite_ne, hk, hne]))))
    exact rp_err t k at' hf (fun j hj => (by first | rfl | (simp (disch := omega) only [put_obj, alloc_obj, put_next, alloc_next, ite_ne]; done))) (by first | omega | (simp only [put_next, alloc_next]; omega)) (by rw [hce, he]) hk rfl
  rw [alloc_next] at hn1
  have hip := sub_at (binE_sub hx) hp hr
  have z0 : ((0 : Int) != 0) = false := rfl
  have hp1 : (p : Int) + 1 = ((p + 1 : Nat) : Int) := by omega
  rw [hx] at hce
  simp only [← hr] at hce
  (repeat' (first | simp -dsimp (maxSteps := 2000000) (disch := first | omega | (simp; done) | (simp; omega)) only [SA, SB, SC, SD, SE, SF, SG, Nat.reduceLT, Nat.reduceAdd, Nat.reduceSub, Nat.reduceMul, Nat.reduceLeDiff, Nat.reduceEqDiff, Nat.reduceBEq, Int.reduceToNat, Int.reduceLE, Int.reduceLT, Int.reduceEq, Int.reduceNeg, reduceCtorEq, ↓reduceIte, readD, ite_ne, kids_sc, z0, hp1] | refine Cut.go ?_ | refine Both.intro ?_ ?_ | refine rsign_call (by omega) ?_ | (refine Br.intro ?_ ?_ <;> intro hb <;> have hb' := hb <;> (try simp only [SH] at hb') <;> (try simp -dsimp (maxSteps := 2000000) (disch := first | omega | (simp; done) | (simp; omega)) only [SA, SB, SC, SD, SE, SF, SG, Nat.reduceLT, Nat.reduceAdd, Nat.reduceSub, Nat.reduceMul, Nat.reduceLeDiff, Nat.reduceEqDiff, Nat.reduceBEq, Int.reduceToNat, Int.reduceLE, Int.reduceLT, Int.reduceEq, Int.reduceNeg, reduceCtorEq, ↓reduceIte, hb, readD, ite_ne, kids_sc, z0, hp1]))))
  rotate_left
  · refine rp_ok x p hp hr hf (fun j hj => (by first | rfl | (simp (disch := omega) only [put_obj, alloc_obj, put_next, alloc_next, ite_ne]; done))) (by first | omega | (simp only [put_next, alloc_next]; omega)) ?_ rfl
    rw [hce]
    cases hd : l.drop p with
    | nil => rfl
    | cons q r' => rw [hd] at hb; simp only [nextOf] at hb; simp only [hb]; rfl
  obtain ⟨k1, k2, k3⟩ := next_cons (by decide) hb'
  rw [k3] at hce
  simp only [k2, beq_self_eq_true, if_true] at hce
  refine (hall (p + 1) (by omega) (by omega)).call gd23 fun n2 hn2 => ⟨fun y hy p2 hp2 hr2 => ?_, fun e he t k at' hk => ?_⟩
  rotate_left
  · simp only [put_next, alloc_next] at hn2
    have hne : (e != 0) = true := by simpa using exprE_nz he
    (repeat' (first | simp -dsimp (maxSteps := 2000000) (disch := first | omega | (simp; done) | (simp; omega)) only [SA, SB, SC, SD, SE, SF, SG, Nat.reduceLT, Nat.reduceAdd, Nat.reduceSub, Nat.reduceMul, Nat.reduceLeDiff, Nat.reduceEqDiff, Nat.reduceBEq, Int.reduceToNat, Int.reduceLE, Int.reduceLT, Int.reduceEq, Int.reduceNeg, reduceCtorEq, ↓reduceIte, readD, ite_ne, hk, hne] | refine Cut.go ?_ | refine Both.intro ?_ ?_ | (refine Br.intro ?_ ?_ <;> intro hb <;> have hb' := hb <;> (try simp only [SH] at hb') <;> (try simp -dsimp (maxSteps := 2000000) (disch := first | omega | (simp; done) | (simp; omega)) only [SA, SB, SC, SD, SE, SF, SG, Nat.reduceLT, Nat.reduceAdd, Nat.reduceSub, Nat.reduceMul, Nat.reduceLeDiff, Nat.reduceEqDiff, Nat.reduceBEq, Int.reduceToNat, Int.reduceLE, Int.reduceLT, Int.reduceEq, Int.reduceNeg, reduceCtorEq, ↓reduceIte, hb, readD, ite_ne, hk, hne]))))
    exact rp_err t k at' hf (fun j hj => (by first | rfl | (simp (disch := omega) only [put_obj, alloc_obj, put_next, alloc_next, ite_ne]; done))) (by first | omega | (simp only [put_next, alloc_next]; omega)) (by rw [hce, he]) hk rfl
  simp only [put_next, alloc_next] at hn2
  have hip2 := sub_at (exprE_sub hy) hp2 hr2
  have hp3 : (p2 : Int) + 1 = ((p2 + 1 : Nat) : Int) := by omega
  rw [hy] at hce
  simp only [← hr2] at hce
  (repeat' (first | simp -dsimp (maxSteps := 2000000) (disch := first | omega | (simp; done) | (simp; omega)) only [SA, SB, SC, SD, SE, SF, SG, Nat.reduceLT, Nat.reduceAdd, Nat.reduceSub, Nat.reduceMul, Nat.reduceLeDiff, Nat.reduceEqDiff, Nat.reduceBEq, Int.reduceToNat, Int.reduceLE, Int.reduceLT, Int.reduceEq, Int.reduceNeg, reduceCtorEq, ↓reduceIte, readD, ite_ne, kids_sc, z0, hp3] | refine Cut.go ?_ | refine Both.intro ?_ ?_ | refine rsign_call (by omega) ?_ | (refine Br.intro ?_ ?_ <;> intro hb <;> have hb' := hb <;> (try simp only [SH] at hb') <;> (try simp -dsimp (maxSteps := 2000000) (disch := first | omega | (simp; done) | (simp; omega)) only [SA, SB, SC, SD, SE, SF, SG, Nat.reduceLT, Nat.reduceAdd, Nat.reduceSub, Nat.reduceMul, Nat.reduceLeDiff, Nat.reduceEqDiff, Nat.reduceBEq, Int.reduceToNat, Int.reduceLE, Int.reduceLT, Int.reduceEq, Int.reduceNeg, reduceCtorEq, ↓reduceIte, hb, readD, ite_ne, kids_sc, z0, hp3]))))
  rotate_left
  · refine rp_err ⟨[], [], 0⟩ .nils 0 hf (fun j hj => (by first | rfl | (simp (disch := omega) only [put_obj, alloc_obj, put_next, alloc_next, ite_ne]; done))) (by first | omega | (simp only [put_next, alloc_next]; omega)) ?_ rfl rfl
    rw [hce]
    cases hd : l.drop p2 with
    | nil => rfl
    | cons q r' => rw [hd] at hb; simp only [nextOf] at hb; simp only [hb]; rfl
  obtain ⟨k4, k5, k6⟩ := next_cons (by decide) hb'
  rw [k6] at hce
  simp only [k5, beq_self_eq_true, if_true] at hce
  refine (hcond (p2 + 1) (by omega) (by omega)).call gd47 fun n3 hn3 => ⟨fun z hz p3 hp3 hr3 => ?_, fun e he t k at' hk => ?_⟩
  rotate_left
  · simp only [put_next, alloc_next] at hn3
    have hne : (e != 0) = true := by simpa using condE_nz he
    (repeat' (first | simp -dsimp (maxSteps := 2000000) (disch := first | omega | (simp; done) | (simp; omega)) only [SA, SB, SC, SD, SE, SF, SG, Nat.reduceLT, Nat.reduceAdd, Nat.reduceSub, Nat.reduceMul, Nat.reduceLeDiff, Nat.reduceEqDiff, Nat.reduceBEq, Int.reduceToNat, Int.reduceLE, Int.reduceLT, Int.reduceEq, Int.reduceNeg, reduceCtorEq, ↓reduceIte, readD, ite_ne, hk, hne] | refine Cut.go ?_ | refine Both.intro ?_ ?_ | (refine Br.intro ?_ ?_ <;> intro hb <;> have hb' := hb <;> (try simp only [SH] at hb') <;> (try simp -dsimp (maxSteps := 2000000) (disch := first | omega | (simp; done) | (simp; omega)) only [SA, SB, SC, SD, SE, SF, SG, Nat.reduceLT, Nat.reduceAdd, Nat.reduceSub, Nat.reduceMul, Nat.reduceLeDiff, Nat.reduceEqDiff, Nat.reduceBEq, Int.reduceToNat, Int.reduceLE, Int.reduceLT, Int.reduceEq, Int.reduceNeg, reduceCtorEq, ↓reduceIte, hb, readD, ite_ne, hk, hne]))))
    exact rp_err t k at' hf (fun j hj => (by first | rfl | (simp (disch := omega) only [put_obj, alloc_obj, put_next, alloc_next, ite_ne]; done))) (by first | omega | (simp only [put_next, alloc_next]; omega)) (by rw [hce, he]) hk rfl
  simp only [put_next, alloc_next] at hn3
  rw [hz] at hce
  (repeat' (first | simp -dsimp (maxSteps := 2000000) (disch := first | omega | (simp; done) | (simp; omega)) only [SA, SB, SC, SD, SE, SF, SG, Nat.reduceLT, Nat.reduceAdd, Nat.reduceSub, Nat.reduceMul, Nat.reduceLeDiff, Nat.reduceEqDiff, Nat.reduceBEq, Int.reduceToNat, Int.reduceLE, Int.reduceLT, Int.reduceEq, Int.reduceNeg, reduceCtorEq, ↓reduceIte, readD, ite_ne, kids_sc, z0] | refine Cut.go ?_ | refine Both.intro ?_ ?_ | (refine Br.intro ?_ ?_ <;> intro hb <;> have hb' := hb <;> (try simp only [SH] at hb') <;> (try simp -dsimp (maxSteps := 2000000) (disch := first | omega | (simp; done) | (simp; omega)) only [SA, SB, SC, SD, SE, SF, SG, Nat.reduceLT, Nat.reduceAdd, Nat.reduceSub, Nat.reduceMul, Nat.reduceLeDiff, Nat.reduceEqDiff, Nat.reduceBEq, Int.reduceToNat, Int.reduceLE, Int.reduceLT, Int.reduceEq, Int.reduceNeg, reduceCtorEq, ↓reduceIte, hb, readD, ite_ne, kids_sc, z0]))))
  exact rp_ok ⟨.cond (l.getD p default) x.nd y.nd z.nd, z.rest⟩ p3 hp3 hr3 hf (fun j hj => (by first | rfl | (simp (disch := omega) only [put_obj, alloc_obj, put_next, alloc_next, ite_ne]; done))) (by first | omega | (simp only [put_next, alloc_next]; omega)) hce rfl
end Go.Proofs.Ytkjgadanaknleaa
