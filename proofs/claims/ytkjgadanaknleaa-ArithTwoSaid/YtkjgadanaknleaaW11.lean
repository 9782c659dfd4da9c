/-
  THE WALKS, PART 11: a node is reckoned.
-/
import Derived.Test.YtkjgadanaknleaaW7
import Derived.Test.YtkjgadanaknleaaW10
namespace Go.Proofs.Ytkjgadanaknleaa
open Go Go.Id
set_option linter.unusedSimpArgs false
set_option linter.unusedVariables false
set_option maxRecDepth 100000
set_option maxHeartbeats 4000000

def I64 (n : Int) : Prop := -9223372036854775808 ≤ n ∧ n ≤ 9223372036854775807
theorem I64.wrap (n : Int) : I64 (IntKind.i64.wrap n) := by rw [IntKind.wrap_i64]; unfold I64; omega
theorem I64.flag (b : Bool) : I64 (flagI b) := by unfold I64 flagI; split <;> omega
theorem I64.bits (op : BinOp) (a b : Int) : I64 (ibits op .i64 a b) := I64.wrap _
def oneF (s : List UInt8) (v : Int) : Int :=
  if s == [45] then IntKind.i64.wrap (0 - v) else if s == [33] then flagI (v == 0) else if s == [126] then ibits .xor .i64 (-1) v else v
theorem I64.one {s : List UInt8} {v : Int} (h : I64 v) : I64 (oneF s v) := by
  unfold oneF
  repeat' split
  · exact I64.wrap _
  · exact I64.flag _
  · exact I64.bits _ _ _
  · exact h
def OkI : Except Int Int → Prop
  | .ok v => I64 v
  | .error _ => True
theorem OkI.ite {c : Prop} [Decidable c] {x y : Except Int Int} (h1 : OkI x) (h2 : OkI y) : OkI (if c then x else y) := by split <;> assumption
theorem I64.tmod {a b : Int} (ha : I64 a) : I64 (a.tmod b) := by
  have h1 := Int.natAbs_tmod a b
  have h2 := Nat.mod_le a.natAbs b.natAbs
  have h3 : a ≤ 0 → a.tmod b ≤ 0 := fun h => by
    have h4 := Int.tmod_nonneg b (show 0 ≤ -a by omega)
    rw [Int.neg_tmod] at h4; omega
  unfold I64 at *; omega
theorem I64.fdiv {a : Int} (n : Nat) (ha : I64 a) : I64 (a.fdiv (2 ^ n)) := by
  have hp : (1 : Int) ≤ 2 ^ n := Int.pow_pos (by omega)
  generalize (2 : Int) ^ n = c at hp
  rw [Int.fdiv_eq_ediv_of_nonneg _ (by omega)]
  unfold I64 at *
  refine ⟨Int.le_ediv_of_mul_le (by omega) ?_, ?_⟩
  · have : -9223372036854775808 * c ≤ -9223372036854775808 * 1 := Int.mul_le_mul_of_nonpos_left (by omega) hp
    omega
  · have h3 : a / c < 9223372036854775808 := Int.ediv_lt_of_lt_mul (by omega) (by
      have : 9223372036854775808 * 1 ≤ 9223372036854775808 * c := Int.mul_le_mul_of_nonneg_left hp (by omega)
      omega)
    omega
theorem I64.two {s : List UInt8} {a b v : Int} (ha : I64 a) (hb : I64 b) (h : twoF s a b = .ok v) : I64 v := by
  have key : OkI (twoF s a b) := by
    unfold twoF
    repeat' (refine OkI.ite ?_ ?_)
    all_goals (first | exact trivial | exact I64.wrap _ | exact I64.flag _ | exact I64.bits _ _ _ | exact ha.tmod | exact ha.fdiv _)
  rw [h] at key; exact key
theorem I64.num {s : List UInt8} {v : Int} (h : numF s = .ok v) : I64 v := by
  unfold numF at h
  split at h
  · cases h; unfold I64; omega
  · split at h
    · cases h; unfold decimalF; split <;> exact I64.wrap _
    · split at h
      · cases h; unfold constF; repeat' split
        all_goals exact I64.wrap _
      · cases h
theorem I64.get {s : List UInt8} {l : List V} {v : Int} (h : getF s l = .ok v) : I64 v := by
  unfold getF at h
  split at h
  · cases h; unfold I64; omega
  · exact I64.num h

/-- What a name is given. -/
def giveF (s name : List UInt8) (v : Int) (l : List V) : Except Int Int :=
  if s == [61] then .ok v else match getF name l with
    | .error e => .error e
    | .ok g => twoF (s.take (s.length - 1)) g v
theorem I64.give {s name : List UInt8} {v u : Int} {l : List V} (hv : I64 v) (h : giveF s name v l = .ok u) : I64 u := by
  unfold giveF at h
  split at h
  · cases h; exact hv
  · split at h
    · cases h
    · rename_i g hg; exact I64.two (I64.get hg) hv h
def evalF : Nd → List V → Except Int (Int × List V)
  | .leaf t, l => if t.name == [] then .ok (t.n, l) else match getF t.name l with
    | .ok n => .ok (n, l)
    | .error e => .error e
  | .gives t a x, l => match evalF x l with
    | .error e => .error e
    | .ok r => match giveF t.sign a.name r.1 r.2 with
      | .error e => .error e
      | .ok v => match setF a.name v r.2 with
        | .error e => .error e
        | .ok l' => .ok (v, l')
  | .one t x, l => match evalF x l with
    | .error e => .error e
    | .ok r => .ok (oneF t.sign r.1, r.2)
  | .cond _ x y z, l => match evalF x l with
    | .error e => .error e
    | .ok r => if r.1 == 0 then evalF z r.2 else evalF y r.2
  | .two t x y, l => match evalF x l with
    | .error e => .error e
    | .ok r =>
      if t.sign == [38, 38] && r.1 == 0 then .ok (0, r.2) else
      if t.sign == [124, 124] && r.1 != 0 then .ok (1, r.2) else
      match evalF y r.2 with
      | .error e => .error e
      | .ok q => if t.sign == [38, 38] || t.sign == [124, 124] then .ok (flagI (q.1 != 0), q.2) else
        match twoF t.sign r.1 q.1 with
        | .error e => .error e
        | .ok v => .ok (v, q.2)

/-- What a node that was read is like. -/
def NdOk : Nd → Prop
  | .leaf t => t.sign = [] ∧ I64 t.n
  | .gives t a x => t.name = [] ∧ t.sign.length ≤ 9000 ∧ isGives t.sign = true ∧ NdOk x
  | .one t x => t.name = [] ∧ t.sign.length ≤ 9000 ∧ t.sign ≠ [] ∧ isGives t.sign = false ∧ NdOk x
  | .two t x y => t.name = [] ∧ t.sign.length ≤ 9000 ∧ t.sign ≠ [] ∧ isGives t.sign = false ∧ t.sign ≠ [63] ∧ NdOk x ∧ NdOk y
  | .cond t x y z => t.name = [] ∧ t.sign = [63] ∧ NdOk x ∧ NdOk y ∧ NdOk z

/-- Variables that may be. -/
def VOk (l : List V) : Prop := l.length ≤ 64 ∧ ∀ v ∈ l, v.value.length ≤ 9223372036854775807
theorem putV_len (name val : List UInt8) : ∀ l : List V, (putV name val l).length = if (findV name l).isNone then l.length + 1 else l.length
  | [] => rfl
  | v :: l => by
    rw [putV, findV, List.find?_cons]
    by_cases h : (v.name == name) = true
    · rw [if_pos h, h]; rfl
    · rw [if_neg h]
      simp only [Bool.not_eq_true] at h
      rw [h]
      have ih := putV_len name val l
      unfold findV at ih
      simp only [List.length_cons, ih]
      split <;> rfl
theorem putV_mem {name val : List UInt8} {w : V} : ∀ {l : List V}, w ∈ putV name val l → w ∈ l ∨ w.value = val
  | [], h => by simp [putV] at h; right; rw [h]
  | v :: l, h => by
    rw [putV] at h
    split at h
    · rcases List.mem_cons.1 h with rfl | h
      · exact .inr rfl
      · exact .inl (List.mem_cons_of_mem _ h)
    · rcases List.mem_cons.1 h with rfl | h
      · exact .inl (List.mem_cons_self ..)
      · rcases putV_mem h with h | h
        · exact .inl (List.mem_cons_of_mem _ h)
        · exact .inr h
theorem textF_len (n : Int) : (textF n).length ≤ 65 := by
  unfold textF
  have := baseF_len 10 n.natAbs
  split <;> simp <;> omega
theorem VOk.set {name : List UInt8} {n : Int} {l l' : List V} (h : VOk l) (hs : setF name n l = .ok l') : VOk l' := by
  unfold setF at hs
  split at hs
  · cases hs
  · rename_i hc
    cases hs
    refine ⟨?_, fun v hv => ?_⟩
    · rw [putV_len]
      split
      · rename_i h2; simp only [h2, Bool.true_and, decide_eq_true_eq] at hc; omega
      · exact h.1
    · rcases putV_mem hv with h2 | h2
      · exact h.2 v h2
      · rw [h2]; have := textF_len n; omega
theorem eval_inv : ∀ (x : Nd) (l : List V) (r : Int × List V), NdOk x → VOk l → evalF x l = .ok r → I64 r.1 ∧ VOk r.2
  | .leaf t, l, r, hx, hl, h => by
    rw [evalF] at h
    split at h
    · cases h; exact ⟨hx.2, hl⟩
    · split at h
      · rename_i n hn; cases h; exact ⟨I64.get hn, hl⟩
      · cases h
  | .gives t a x, l, r, hx, hl, h => by
    rw [evalF] at h
    split at h
    · cases h
    · rename_i r1 h1
      obtain ⟨i1, i2⟩ := eval_inv x l r1 hx.2.2.2 hl h1
      split at h
      · cases h
      · rename_i v hv
        have iv : I64 v := i1.give hv
        split at h
        · cases h
        · rename_i l' hl'; cases h; exact ⟨iv, i2.set hl'⟩
  | .one t x, l, r, hx, hl, h => by
    rw [evalF] at h
    split at h
    · cases h
    · rename_i r1 h1
      obtain ⟨i1, i2⟩ := eval_inv x l r1 hx.2.2.2.2 hl h1
      cases h; exact ⟨i1.one, i2⟩
  | .cond t x y z, l, r, hx, hl, h => by
    rw [evalF] at h
    split at h
    · cases h
    · rename_i r1 h1
      obtain ⟨i1, i2⟩ := eval_inv x l r1 hx.2.2.1 hl h1
      split at h
      · exact eval_inv z _ r hx.2.2.2.2 i2 h
      · exact eval_inv y _ r hx.2.2.2.1 i2 h
  | .two t x y, l, r, hx, hl, h => by
    rw [evalF] at h
    split at h
    · cases h
    · rename_i r1 h1
      obtain ⟨i1, i2⟩ := eval_inv x l r1 hx.2.2.2.2.2.1 hl h1
      split at h
      · cases h; exact ⟨by show I64 0; unfold I64; omega, i2⟩
      · split at h
        · cases h; exact ⟨by show I64 1; unfold I64; omega, i2⟩
        · split at h
          · cases h
          · rename_i q hq
            obtain ⟨j1, j2⟩ := eval_inv y _ q hx.2.2.2.2.2.2 i2 hq
            split at h
            · cases h; exact ⟨I64.flag _, j2⟩
            · split at h
              · cases h
              · rename_i v hv; cases h; exact ⟨I64.two i1 j1 hv, j2⟩

/-! The walk. -/
def EvP (σ₀ : St) (jm : Nat) (R : Except Int (Int × List V)) (o : Out) (s' : St) : Prop := match R with
  | .ok r => o = .ret (.int .i64 r.1) ∧ MSt σ₀ jm r.2 s'
  | .error e => o = .panic (faultD e) ∧ ∃ l', MSt σ₀ jm l' s'
/-- That a node is reckoned so. -/
def Ev (σ₀ : St) (jm : Nat) (x : Nd) : Prop := ∀ (σ : St) (l : List V), MSt σ₀ jm l σ → VOk l → Ok Try.prog 21 [.ref jm 0, x.d] σ (EvP σ₀ jm (evalF x l))
theorem Ev.call {σ₀ σ : St} {jm : Nat} {x : Nd} {l : List V} {K : Out → St → Prop} (h : Ev σ₀ jm x) (hM : MSt σ₀ jm l σ) (hv : VOk l)
    (hk : ∀ s', (∀ r, evalF x l = .ok r → MSt σ₀ jm r.2 s' → K (.ret (.int .i64 r.1)) s') ∧ (∀ e l', evalF x l = .error e → MSt σ₀ jm l' s' → K (.panic (faultD e)) s')) :
    goodFn Try.prog 21 = true ∧ Ok Try.prog 21 [.ref jm 0, x.d] σ K := by
  refine ⟨gd21, (h σ l hM hv).mono fun o s' hp => ?_⟩
  have hk := hk s'
  cases hr : evalF x l with
  | ok r => rw [hr] at hp; obtain ⟨rfl, h2⟩ := hp; exact hk.1 r hr h2
  | error e => rw [hr] at hp; obtain ⟨rfl, l', h2⟩ := hp; exact hk.2 e l' hr h2
theorem get_call {σ₀ σ : St} {jm : Nat} {name : List UInt8} {l : List V} {K : Out → St → Prop} (hM : MSt σ₀ jm l σ) (hv : VOk l) (hk : ∀ m, σ.next ≤ m → K (outI (getF name l)) ⟨σ.obj, m⟩) :
    goodFn Try.prog 37 = true ∧ Ok Try.prog 37 [.ref jm 0, .str name] σ K := by
  obtain ⟨x, h4, h5, h6, h7⟩ := hM.x
  exact ⟨gd37, (get_ok (name := name) h4 h5 h6 (by have := hv.1; omega) hv.2).mono fun o s' ⟨m, h1, h2, h3⟩ => by subst h2; subst h3; exact hk m h1⟩
theorem set_call {σ₀ σ : St} {jm : Nat} {name : List UInt8} {n : Int} {l : List V} {K : Out → St → Prop} (hM : MSt σ₀ jm l σ) (hv : VOk l) (hn : I64 n)
    (hk : ∀ s', (∀ l', setF name n l = .ok l' → MSt σ₀ jm l' s' → K (.ret (.tuple [])) s') ∧ (∀ e, setF name n l = .error e → MSt σ₀ jm l s' → K (.panic (faultD e)) s')) :
    goodFn Try.prog 39 = true ∧ Ok Try.prog 39 [.ref jm 0, .str name, .int .i64 n] σ K := by
  refine ⟨gd39, (set_ok (name := name) hM hv.1 hn).mono fun o s' hp => ?_⟩
  have hk := hk s'
  cases hr : setF name n l with
  | ok l' => rw [hr] at hp; obtain ⟨rfl, h2⟩ := hp; exact hk.1 l' hr h2
  | error e => rw [hr] at hp; obtain ⟨rfl, h2⟩ := hp; exact hk.2 e hr h2
theorem so_nd (x : Nd) : scalO (some x.d) = some x.d := by cases x <;> rfl
theorem ix_2 (sz : Nat) (x y z : D) (xs : List D) (r : Room) (k : IntKind) : idxAddrS sz (.slc sz (x :: y :: z :: xs) r) (.int k 2) = boxO (dcells z) := by
  simp only [idxAddrS, and_self, if_true, show (0 : Int) ≤ 2 by omega, show (2 : Int).toNat = 2 from rfl, List.getElem?_cons_succ, List.getElem?_cons_zero, Option.bind_some]; cases dcells z <;> rfl

theorem ev_leaf {σ₀ : St} {jm : Nat} (t : Tok) (hx : NdOk (.leaf t)) : Ev σ₀ jm (.leaf t) := by
  intro σ l hM hv
  simp only [Nd.d, ndD]
  apply en21
  have e1 : (t.sign == []) = true := by rw [hx.1]; rfl
  by_cases h : (t.name == []) = true
  · simp -dsimp (maxSteps := 2000000) (disch := first | omega | (simp; done) | (simp; omega)) only [SA, SB, SC, SD, SE, SF, SG, Nat.reduceLT, Nat.reduceAdd, Nat.reduceSub, Nat.reduceMul, Nat.reduceLeDiff, Nat.reduceEqDiff, Nat.reduceBEq, Int.reduceToNat, Int.reduceLE, Int.reduceLT, Int.reduceEq, Int.reduceNeg, reduceCtorEq, ↓reduceIte, ic21, List.replicate_succ, List.replicate_zero]
    (repeat' (first | simp -dsimp (maxSteps := 2000000) (disch := first | omega | (simp; done) | (simp; omega)) only [SA, SB, SC, SD, SE, SF, SG, Nat.reduceLT, Nat.reduceAdd, Nat.reduceSub, Nat.reduceMul, Nat.reduceLeDiff, Nat.reduceEqDiff, Nat.reduceBEq, Int.reduceToNat, Int.reduceLE, Int.reduceLT, Int.reduceEq, Int.reduceNeg, reduceCtorEq, ↓reduceIte, e1, h] | refine Cut.go ?_ | refine Both.intro ?_ ?_ | (refine Br.intro ?_ ?_ <;> intro hb <;> have hb' := hb <;> (try simp only [SH] at hb') <;> (try simp -dsimp (maxSteps := 2000000) (disch := first | omega | (simp; done) | (simp; omega)) only [SA, SB, SC, SD, SE, SF, SG, Nat.reduceLT, Nat.reduceAdd, Nat.reduceSub, Nat.reduceMul, Nat.reduceLeDiff, Nat.reduceEqDiff, Nat.reduceBEq, Int.reduceToNat, Int.reduceLE, Int.reduceLT, Int.reduceEq, Int.reduceNeg, reduceCtorEq, ↓reduceIte, hb, e1, h]))))
    simp only [EvP, evalF, if_pos h]
    exact ⟨by trivial, hM⟩
  · simp only [Bool.not_eq_true] at h
    simp -dsimp (maxSteps := 2000000) (disch := first | omega | (simp; done) | (simp; omega)) only [SA, SB, SC, SD, SE, SF, SG, Nat.reduceLT, Nat.reduceAdd, Nat.reduceSub, Nat.reduceMul, Nat.reduceLeDiff, Nat.reduceEqDiff, Nat.reduceBEq, Int.reduceToNat, Int.reduceLE, Int.reduceLT, Int.reduceEq, Int.reduceNeg, reduceCtorEq, ↓reduceIte, ic21, List.replicate_succ, List.replicate_zero]
    (repeat' (first | simp -dsimp (maxSteps := 2000000) (disch := first | omega | (simp; done) | (simp; omega)) only [SA, SB, SC, SD, SE, SF, SG, Nat.reduceLT, Nat.reduceAdd, Nat.reduceSub, Nat.reduceMul, Nat.reduceLeDiff, Nat.reduceEqDiff, Nat.reduceBEq, Int.reduceToNat, Int.reduceLE, Int.reduceLT, Int.reduceEq, Int.reduceNeg, reduceCtorEq, ↓reduceIte, e1, h] | refine Cut.go ?_ | refine Both.intro ?_ ?_ | (refine Br.intro ?_ ?_ <;> intro hb <;> have hb' := hb <;> (try simp only [SH] at hb') <;> (try simp -dsimp (maxSteps := 2000000) (disch := first | omega | (simp; done) | (simp; omega)) only [SA, SB, SC, SD, SE, SF, SG, Nat.reduceLT, Nat.reduceAdd, Nat.reduceSub, Nat.reduceMul, Nat.reduceLeDiff, Nat.reduceEqDiff, Nat.reduceBEq, Int.reduceToNat, Int.reduceLE, Int.reduceLT, Int.reduceEq, Int.reduceNeg, reduceCtorEq, ↓reduceIte, hb, e1, h]))))
    refine get_call hM hv fun m hm => ?_
    cases hg : getF t.name l with
    | ok n =>
      (repeat' (first | simp -dsimp (maxSteps := 2000000) (disch := first | omega | (simp; done) | (simp; omega)) only [SA, SB, SC, SD, SE, SF, SG, Nat.reduceLT, Nat.reduceAdd, Nat.reduceSub, Nat.reduceMul, Nat.reduceLeDiff, Nat.reduceEqDiff, Nat.reduceBEq, Int.reduceToNat, Int.reduceLE, Int.reduceLT, Int.reduceEq, Int.reduceNeg, reduceCtorEq, ↓reduceIte, outI] | refine Cut.go ?_ | refine Both.intro ?_ ?_ | (refine Br.intro ?_ ?_ <;> intro hb <;> have hb' := hb <;> (try simp only [SH] at hb') <;> (try simp -dsimp (maxSteps := 2000000) (disch := first | omega | (simp; done) | (simp; omega)) only [SA, SB, SC, SD, SE, SF, SG, Nat.reduceLT, Nat.reduceAdd, Nat.reduceSub, Nat.reduceMul, Nat.reduceLeDiff, Nat.reduceEqDiff, Nat.reduceBEq, Int.reduceToNat, Int.reduceLE, Int.reduceLT, Int.reduceEq, Int.reduceNeg, reduceCtorEq, ↓reduceIte, hb, outI]))))
      simp only [EvP, evalF, h, hg]
      exact ⟨by trivial, hM.same m hm⟩
    | error e =>
      (repeat' (first | simp -dsimp (maxSteps := 2000000) (disch := first | omega | (simp; done) | (simp; omega)) only [SA, SB, SC, SD, SE, SF, SG, Nat.reduceLT, Nat.reduceAdd, Nat.reduceSub, Nat.reduceMul, Nat.reduceLeDiff, Nat.reduceEqDiff, Nat.reduceBEq, Int.reduceToNat, Int.reduceLE, Int.reduceLT, Int.reduceEq, Int.reduceNeg, reduceCtorEq, ↓reduceIte, outI] | refine Cut.go ?_ | refine Both.intro ?_ ?_ | (refine Br.intro ?_ ?_ <;> intro hb <;> have hb' := hb <;> (try simp only [SH] at hb') <;> (try simp -dsimp (maxSteps := 2000000) (disch := first | omega | (simp; done) | (simp; omega)) only [SA, SB, SC, SD, SE, SF, SG, Nat.reduceLT, Nat.reduceAdd, Nat.reduceSub, Nat.reduceMul, Nat.reduceLeDiff, Nat.reduceEqDiff, Nat.reduceBEq, Int.reduceToNat, Int.reduceLE, Int.reduceLT, Int.reduceEq, Int.reduceNeg, reduceCtorEq, ↓reduceIte, hb, outI]))))
      simp only [EvP, evalF, h, hg]
      exact ⟨by trivial, l, hM.same m hm⟩
theorem ev_one {σ₀ : St} {jm : Nat} (t : Tok) (x : Nd) (hx : NdOk (.one t x)) (ih : Ev σ₀ jm x) : Ev σ₀ jm (.one t x) := by
  intro σ l hM hv
  simp only [Nd.d, ndD]
  apply en21
  have e1 : (t.name == []) = true := by rw [hx.1]; rfl
  have e2 : (t.sign == []) = false := by simpa using hx.2.2.1
  have e3 := hx.2.2.2.1
  have e4 := hx.2.1
  have e5 : (((1 : Nat) : Int) == 1) = true := rfl
  simp -dsimp (maxSteps := 2000000) (disch := first | omega | (simp; done) | (simp; omega)) only [SA, SB, SC, SD, SE, SF, SG, Nat.reduceLT, Nat.reduceAdd, Nat.reduceSub, Nat.reduceMul, Nat.reduceLeDiff, Nat.reduceEqDiff, Nat.reduceBEq, Int.reduceToNat, Int.reduceLE, Int.reduceLT, Int.reduceEq, Int.reduceNeg, reduceCtorEq, ↓reduceIte, ic21, List.replicate_succ, List.replicate_zero]
  (repeat' (first | simp -dsimp (maxSteps := 2000000) (disch := first | omega | (simp; done) | (simp; omega)) only [SA, SB, SC, SD, SE, SF, SG, Nat.reduceLT, Nat.reduceAdd, Nat.reduceSub, Nat.reduceMul, Nat.reduceLeDiff, Nat.reduceEqDiff, Nat.reduceBEq, Int.reduceToNat, Int.reduceLE, Int.reduceLT, Int.reduceEq, Int.reduceNeg, reduceCtorEq, ↓reduceIte, e1, e2, e3, e5, ix_0, dc_nd, so_nd] | refine Cut.go ?_ | refine Both.intro ?_ ?_ | refine gives_call (t := t) e4 ?_ | (refine Br.intro ?_ ?_ <;> intro hb <;> have hb' := hb <;> (try simp only [SH] at hb') <;> (try simp -dsimp (maxSteps := 2000000) (disch := first | omega | (simp; done) | (simp; omega)) only [SA, SB, SC, SD, SE, SF, SG, Nat.reduceLT, Nat.reduceAdd, Nat.reduceSub, Nat.reduceMul, Nat.reduceLeDiff, Nat.reduceEqDiff, Nat.reduceBEq, Int.reduceToNat, Int.reduceLE, Int.reduceLT, Int.reduceEq, Int.reduceNeg, reduceCtorEq, ↓reduceIte, hb, e1, e2, e3, e5, ix_0, dc_nd, so_nd]))))
  refine ih.call hM hv fun s' => ⟨fun r hr hM' => ?_, fun e l' hr hM' => ?_⟩
  · have em : (IntKind.i64.signed) = true := rfl
    (repeat' (first | simp -dsimp (maxSteps := 2000000) (disch := first | omega | (simp; done) | (simp; omega)) only [SA, SB, SC, SD, SE, SF, SG, Nat.reduceLT, Nat.reduceAdd, Nat.reduceSub, Nat.reduceMul, Nat.reduceLeDiff, Nat.reduceEqDiff, Nat.reduceBEq, Int.reduceToNat, Int.reduceLE, Int.reduceLT, Int.reduceEq, Int.reduceNeg, reduceCtorEq, ↓reduceIte, em] | refine Cut.go ?_ | refine Both.intro ?_ ?_ | refine flag_call ?_ | (refine Br.intro ?_ ?_ <;> intro hb <;> have hb' := hb <;> (try simp only [SH] at hb') <;> (try simp -dsimp (maxSteps := 2000000) (disch := first | omega | (simp; done) | (simp; omega)) only [SA, SB, SC, SD, SE, SF, SG, Nat.reduceLT, Nat.reduceAdd, Nat.reduceSub, Nat.reduceMul, Nat.reduceLeDiff, Nat.reduceEqDiff, Nat.reduceBEq, Int.reduceToNat, Int.reduceLE, Int.reduceLT, Int.reduceEq, Int.reduceNeg, reduceCtorEq, ↓reduceIte, hb, em]))))
    all_goals simp only [EvP, evalF, hr]
    all_goals refine ⟨?_, hM'⟩
    all_goals simp_all [oneF, flagI]
  · (repeat' (first | simp -dsimp (maxSteps := 2000000) (disch := first | omega | (simp; done) | (simp; omega)) only [SA, SB, SC, SD, SE, SF, SG, Nat.reduceLT, Nat.reduceAdd, Nat.reduceSub, Nat.reduceMul, Nat.reduceLeDiff, Nat.reduceEqDiff, Nat.reduceBEq, Int.reduceToNat, Int.reduceLE, Int.reduceLT, Int.reduceEq, Int.reduceNeg, reduceCtorEq, ↓reduceIte] | refine Cut.go ?_ | refine Both.intro ?_ ?_ | (refine Br.intro ?_ ?_ <;> intro hb <;> have hb' := hb <;> (try simp only [SH] at hb') <;> (try simp -dsimp (maxSteps := 2000000) (disch := first | omega | (simp; done) | (simp; omega)) only [SA, SB, SC, SD, SE, SF, SG, Nat.reduceLT, Nat.reduceAdd, Nat.reduceSub, Nat.reduceMul, Nat.reduceLeDiff, Nat.reduceEqDiff, Nat.reduceBEq, Int.reduceToNat, Int.reduceLE, Int.reduceLT, Int.reduceEq, Int.reduceNeg, reduceCtorEq, ↓reduceIte, hb]))))
    simp only [EvP, evalF, hr]
    exact ⟨by trivial, l', hM'⟩
theorem ev_cond {σ₀ : St} {jm : Nat} (t : Tok) (x y z : Nd) (hx : NdOk (.cond t x y z)) (ih1 : Ev σ₀ jm x) (ih2 : Ev σ₀ jm y) (ih3 : Ev σ₀ jm z) : Ev σ₀ jm (.cond t x y z) := by
  intro σ l hM hv
  simp only [Nd.d, ndD]
  apply en21
  have e1 : (t.name == []) = true := by rw [hx.1]; rfl
  have e2 : (t.sign == []) = false := by rw [hx.2.1]; rfl
  have e3 : isGives t.sign = false := by rw [hx.2.1]; rfl
  have e4 : t.sign.length ≤ 9000 := by rw [hx.2.1]; decide
  have e5 : (((1 + 1 + 1 : Nat) : Int) == 1) = false := rfl
  have e6 : (((3 : Nat) : Int) == 1) = false := rfl
  have e7 : (t.sign == [63]) = true := by rw [hx.2.1]; rfl
  simp -dsimp (maxSteps := 2000000) (disch := first | omega | (simp; done) | (simp; omega)) only [SA, SB, SC, SD, SE, SF, SG, Nat.reduceLT, Nat.reduceAdd, Nat.reduceSub, Nat.reduceMul, Nat.reduceLeDiff, Nat.reduceEqDiff, Nat.reduceBEq, Int.reduceToNat, Int.reduceLE, Int.reduceLT, Int.reduceEq, Int.reduceNeg, reduceCtorEq, ↓reduceIte, ic21, List.replicate_succ, List.replicate_zero]
  (repeat' (first | simp -dsimp (maxSteps := 2000000) (disch := first | omega | (simp; done) | (simp; omega)) only [SA, SB, SC, SD, SE, SF, SG, Nat.reduceLT, Nat.reduceAdd, Nat.reduceSub, Nat.reduceMul, Nat.reduceLeDiff, Nat.reduceEqDiff, Nat.reduceBEq, Int.reduceToNat, Int.reduceLE, Int.reduceLT, Int.reduceEq, Int.reduceNeg, reduceCtorEq, ↓reduceIte, e1, e2, e3, e5, e6, e7, ix_0, ix_1, ix_2, dc_nd, so_nd] | refine Cut.go ?_ | refine Both.intro ?_ ?_ | refine gives_call (t := t) e4 ?_ | (refine Br.intro ?_ ?_ <;> intro hb <;> have hb' := hb <;> (try simp only [SH] at hb') <;> (try simp -dsimp (maxSteps := 2000000) (disch := first | omega | (simp; done) | (simp; omega)) only [SA, SB, SC, SD, SE, SF, SG, Nat.reduceLT, Nat.reduceAdd, Nat.reduceSub, Nat.reduceMul, Nat.reduceLeDiff, Nat.reduceEqDiff, Nat.reduceBEq, Int.reduceToNat, Int.reduceLE, Int.reduceLT, Int.reduceEq, Int.reduceNeg, reduceCtorEq, ↓reduceIte, hb, e1, e2, e3, e5, e6, e7, ix_0, ix_1, ix_2, dc_nd, so_nd]))))
  refine ih1.call hM hv fun s' => ⟨fun r hr hM' => ?_, fun e l' hr hM' => ?_⟩
  · obtain ⟨i1, i2⟩ := eval_inv x l r hx.2.2.1 hv hr
    (repeat' (first | simp -dsimp (maxSteps := 2000000) (disch := first | omega | (simp; done) | (simp; omega)) only [SA, SB, SC, SD, SE, SF, SG, Nat.reduceLT, Nat.reduceAdd, Nat.reduceSub, Nat.reduceMul, Nat.reduceLeDiff, Nat.reduceEqDiff, Nat.reduceBEq, Int.reduceToNat, Int.reduceLE, Int.reduceLT, Int.reduceEq, Int.reduceNeg, reduceCtorEq, ↓reduceIte, ix_0, ix_1, ix_2, dc_nd, so_nd] | refine Cut.go ?_ | refine Both.intro ?_ ?_ | (refine Br.intro ?_ ?_ <;> intro hb <;> have hb' := hb <;> (try simp only [SH] at hb') <;> (try simp -dsimp (maxSteps := 2000000) (disch := first | omega | (simp; done) | (simp; omega)) only [SA, SB, SC, SD, SE, SF, SG, Nat.reduceLT, Nat.reduceAdd, Nat.reduceSub, Nat.reduceMul, Nat.reduceLeDiff, Nat.reduceEqDiff, Nat.reduceBEq, Int.reduceToNat, Int.reduceLE, Int.reduceLT, Int.reduceEq, Int.reduceNeg, reduceCtorEq, ↓reduceIte, hb, ix_0, ix_1, ix_2, dc_nd, so_nd]))))
    · have h0 : (r.1 == 0) = false := by simpa using hb'
      refine (ih2.call hM' i2 fun s2 => ⟨fun q hq hM2 => ?_, fun e l2 hq hM2 => ?_⟩)
      · (repeat' (first | simp -dsimp (maxSteps := 2000000) (disch := first | omega | (simp; done) | (simp; omega)) only [SA, SB, SC, SD, SE, SF, SG, Nat.reduceLT, Nat.reduceAdd, Nat.reduceSub, Nat.reduceMul, Nat.reduceLeDiff, Nat.reduceEqDiff, Nat.reduceBEq, Int.reduceToNat, Int.reduceLE, Int.reduceLT, Int.reduceEq, Int.reduceNeg, reduceCtorEq, ↓reduceIte] | refine Cut.go ?_ | refine Both.intro ?_ ?_ | (refine Br.intro ?_ ?_ <;> intro hb <;> have hb' := hb <;> (try simp only [SH] at hb') <;> (try simp -dsimp (maxSteps := 2000000) (disch := first | omega | (simp; done) | (simp; omega)) only [SA, SB, SC, SD, SE, SF, SG, Nat.reduceLT, Nat.reduceAdd, Nat.reduceSub, Nat.reduceMul, Nat.reduceLeDiff, Nat.reduceEqDiff, Nat.reduceBEq, Int.reduceToNat, Int.reduceLE, Int.reduceLT, Int.reduceEq, Int.reduceNeg, reduceCtorEq, ↓reduceIte, hb]))))
        simp only [EvP, evalF, hr, h0, hq, Bool.false_eq_true, if_false]
        exact ⟨by trivial, hM2⟩
      · (repeat' (first | simp -dsimp (maxSteps := 2000000) (disch := first | omega | (simp; done) | (simp; omega)) only [SA, SB, SC, SD, SE, SF, SG, Nat.reduceLT, Nat.reduceAdd, Nat.reduceSub, Nat.reduceMul, Nat.reduceLeDiff, Nat.reduceEqDiff, Nat.reduceBEq, Int.reduceToNat, Int.reduceLE, Int.reduceLT, Int.reduceEq, Int.reduceNeg, reduceCtorEq, ↓reduceIte] | refine Cut.go ?_ | refine Both.intro ?_ ?_ | (refine Br.intro ?_ ?_ <;> intro hb <;> have hb' := hb <;> (try simp only [SH] at hb') <;> (try simp -dsimp (maxSteps := 2000000) (disch := first | omega | (simp; done) | (simp; omega)) only [SA, SB, SC, SD, SE, SF, SG, Nat.reduceLT, Nat.reduceAdd, Nat.reduceSub, Nat.reduceMul, Nat.reduceLeDiff, Nat.reduceEqDiff, Nat.reduceBEq, Int.reduceToNat, Int.reduceLE, Int.reduceLT, Int.reduceEq, Int.reduceNeg, reduceCtorEq, ↓reduceIte, hb]))))
        simp only [EvP, evalF, hr, h0, hq, Bool.false_eq_true, if_false]
        exact ⟨by trivial, l2, hM2⟩
    · have h0 : (r.1 == 0) = true := by simpa using hb'
      refine (ih3.call hM' i2 fun s2 => ⟨fun q hq hM2 => ?_, fun e l2 hq hM2 => ?_⟩)
      · (repeat' (first | simp -dsimp (maxSteps := 2000000) (disch := first | omega | (simp; done) | (simp; omega)) only [SA, SB, SC, SD, SE, SF, SG, Nat.reduceLT, Nat.reduceAdd, Nat.reduceSub, Nat.reduceMul, Nat.reduceLeDiff, Nat.reduceEqDiff, Nat.reduceBEq, Int.reduceToNat, Int.reduceLE, Int.reduceLT, Int.reduceEq, Int.reduceNeg, reduceCtorEq, ↓reduceIte] | refine Cut.go ?_ | refine Both.intro ?_ ?_ | (refine Br.intro ?_ ?_ <;> intro hb <;> have hb' := hb <;> (try simp only [SH] at hb') <;> (try simp -dsimp (maxSteps := 2000000) (disch := first | omega | (simp; done) | (simp; omega)) only [SA, SB, SC, SD, SE, SF, SG, Nat.reduceLT, Nat.reduceAdd, Nat.reduceSub, Nat.reduceMul, Nat.reduceLeDiff, Nat.reduceEqDiff, Nat.reduceBEq, Int.reduceToNat, Int.reduceLE, Int.reduceLT, Int.reduceEq, Int.reduceNeg, reduceCtorEq, ↓reduceIte, hb]))))
        simp only [EvP, evalF, hr, h0, hq, if_true]
        exact ⟨by trivial, hM2⟩
      · (repeat' (first | simp -dsimp (maxSteps := 2000000) (disch := first | omega | (simp; done) | (simp; omega)) only [SA, SB, SC, SD, SE, SF, SG, Nat.reduceLT, Nat.reduceAdd, Nat.reduceSub, Nat.reduceMul, Nat.reduceLeDiff, Nat.reduceEqDiff, Nat.reduceBEq, Int.reduceToNat, Int.reduceLE, Int.reduceLT, Int.reduceEq, Int.reduceNeg, reduceCtorEq, ↓reduceIte] | refine Cut.go ?_ | refine Both.intro ?_ ?_ | (refine Br.intro ?_ ?_ <;> intro hb <;> have hb' := hb <;> (try simp only [SH] at hb') <;> (try simp -dsimp (maxSteps := 2000000) (disch := first | omega | (simp; done) | (simp; omega)) only [SA, SB, SC, SD, SE, SF, SG, Nat.reduceLT, Nat.reduceAdd, Nat.reduceSub, Nat.reduceMul, Nat.reduceLeDiff, Nat.reduceEqDiff, Nat.reduceBEq, Int.reduceToNat, Int.reduceLE, Int.reduceLT, Int.reduceEq, Int.reduceNeg, reduceCtorEq, ↓reduceIte, hb]))))
        simp only [EvP, evalF, hr, h0, hq, if_true]
        exact ⟨by trivial, l2, hM2⟩
  · (repeat' (first | simp -dsimp (maxSteps := 2000000) (disch := first | omega | (simp; done) | (simp; omega)) only [SA, SB, SC, SD, SE, SF, SG, Nat.reduceLT, Nat.reduceAdd, Nat.reduceSub, Nat.reduceMul, Nat.reduceLeDiff, Nat.reduceEqDiff, Nat.reduceBEq, Int.reduceToNat, Int.reduceLE, Int.reduceLT, Int.reduceEq, Int.reduceNeg, reduceCtorEq, ↓reduceIte] | refine Cut.go ?_ | refine Both.intro ?_ ?_ | (refine Br.intro ?_ ?_ <;> intro hb <;> have hb' := hb <;> (try simp only [SH] at hb') <;> (try simp -dsimp (maxSteps := 2000000) (disch := first | omega | (simp; done) | (simp; omega)) only [SA, SB, SC, SD, SE, SF, SG, Nat.reduceLT, Nat.reduceAdd, Nat.reduceSub, Nat.reduceMul, Nat.reduceLeDiff, Nat.reduceEqDiff, Nat.reduceBEq, Int.reduceToNat, Int.reduceLE, Int.reduceLT, Int.reduceEq, Int.reduceNeg, reduceCtorEq, ↓reduceIte, hb]))))
    simp only [EvP, evalF, hr]
    exact ⟨by trivial, l', hM'⟩
end Go.Proofs.Ytkjgadanaknleaa
