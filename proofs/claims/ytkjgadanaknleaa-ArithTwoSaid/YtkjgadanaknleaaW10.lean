/-
  THE WALKS, PART 10: a variable is given a number.
-/
import Derived.Test.YtkjgadanaknleaaW9
namespace Go.Proofs.Ytkjgadanaknleaa
open Go Go.Id
set_option linter.unusedSimpArgs false
set_option linter.unusedVariables false
set_option maxRecDepth 100000
set_option maxHeartbeats 4000000

/-- The machine in a store: its own cell, and the variables. -/
structure MSt (σ₀ : St) (jm : Nat) (l : List V) (s : St) : Prop where
  le : σ₀.next ≤ jm
  low : ∀ i, i < σ₀.next → s.obj i = σ₀.obj i
  nxt : σ₀.next ≤ s.next
  x : ∃ x, s.obj jm = some (.cells [x]) ∧ scalO (some x) = some x ∧ Vs s x l ∧ ∀ j t len, x = .rslc j 0 2 len (.opened t) → σ₀.next ≤ j ∧ σ₀.next ≤ t
theorem MSt.same {σ₀ : St} {jm : Nat} {l : List V} {s : St} (h : MSt σ₀ jm l s) (m : Nat) (hm : s.next ≤ m) : MSt σ₀ jm l ⟨s.obj, m⟩ := by
  obtain ⟨h1, h2, h3, x, h4, h5, h6, h7⟩ := h
  refine ⟨h1, h2, by show σ₀.next ≤ m; omega, x, h4, h5, ?_, h7⟩
  cases h6 with
  | vnil => exact .vnil
  | vnone => exact .vnone
  | vsome j t l hl hj ht => exact .vsome j t l hl hj ht
/-- With what is new, nothing of it is lost. -/
theorem MSt.more {σ₀ : St} {jm : Nat} {l : List V} {s s' : St} (h : MSt σ₀ jm l s) (hf : s.Fresh) (hn : σ₀.next ≤ s'.next) (ho : ∀ i, i < s.next → s'.obj i = s.obj i) : MSt σ₀ jm l s' := by
  obtain ⟨h1, h2, h3, x, h4, h5, h6, h7⟩ := h
  have lt : ∀ {i o}, s.obj i = some o → i < s.next := fun {i o} hi => Nat.lt_of_not_le fun hle => by rw [hf _ hle] at hi; cases hi
  refine ⟨h1, fun i hi => by rw [ho i (by omega), h2 i hi], hn, x, by rw [ho _ (lt h4), h4], h5, ?_, h7⟩
  cases h6 with
  | vnil => exact .vnil
  | vnone => exact .vnone
  | vsome j t l hl hj ht => exact .vsome j t l hl (by rw [ho _ (lt hj), hj]) (by rw [ho _ (lt ht), ht])
/-- A name is given a text. -/
def putV (name val : List UInt8) : List V → List V
  | [] => [⟨name, val⟩]
  | v :: l => if v.name == name then ⟨v.name, val⟩ :: l else v :: putV name val l
def setF (name : List UInt8) (n : Int) (l : List V) : Except Int (List V) :=
  if (findV name l).isNone && decide (64 ≤ l.length) then .error 2 else .ok (putV name (textF n) l)
theorem putV_at (name val : List UInt8) : ∀ (l : List V) (i : Nat), (idxV name l i = -1 → putV name val l = l ++ [⟨name, val⟩]) ∧ ∀ k : Nat, idxV name l i = ((i + k : Nat) : Int) → putV name val l = l.set k ⟨(l.getD k default).name, val⟩
  | [], i => ⟨fun _ => rfl, fun k h => by simp only [idxV] at h; omega⟩
  | v :: l, i => by
    have h4 : idxV name l ((i : Int) + 1) = idxV name l ((i + 1 : Nat) : Int) := by simp
    rw [idxV, putV]
    by_cases h : (v.name == name) = true
    · rw [if_pos h, if_pos h]
      refine ⟨fun h2 => by omega, fun k h2 => ?_⟩
      have : k = 0 := by omega
      subst this; rfl
    · rw [if_neg h, if_neg h, h4]
      have ih := putV_at name val l (i + 1)
      refine ⟨fun h2 => by rw [ih.1 h2]; rfl, fun k h2 => ?_⟩
      rcases idxV_at name l (i + 1) with ⟨h5, _⟩ | ⟨k', h5, h6, _⟩
      · omega
      · have : k = k' + 1 := by omega
        subst this
        rw [ih.2 k' h6]; rfl
theorem Vs.append {s : St} {x : D} {l : List V} (h : Vs s x l) (hl : l.length ≤ 100) (name : List UInt8) : ∃ s1 : St, iappendR 2 32 x (.slc 2 [.agg [.str name, .str []]] .exact) s =
    some (.rslc s.next 0 2 (l.length + 1) (.opened (s.next + 1)), (s1.alloc (.cells (flatV (l ++ [⟨name, []⟩])))).alloc .tok) ∧ s1.next = s.next ∧ ∀ i, (∀ len t, x ≠ .rslc i 0 2 len (.opened t)) → (∀ len j, x ≠ .rslc j 0 2 len (.opened i)) → s1.obj i = s.obj i := by
  cases h with
  | vnil => exact ⟨s, rfl, rfl, fun _ _ _ => rfl⟩
  | vnone => exact ⟨s, rfl, rfl, fun _ _ _ => rfl⟩
  | vsome j t l hne hj ht =>
    refine ⟨(s.put j none).put t none, ?_, rfl, fun i h1 h2 => ?_⟩
    · have e1 : (l.length + 1) * 32 ≤ 140737488355328 ∧ l.length + 1 ≤ maxLen := by
        have : maxLen = 2 ^ 63 - 1 := rfl
        omega
      have e2 : iold 2 (.rslc j 0 2 l.length (.opened t)) s = some (l.length, flatV l, (s.put j none).put t none) := by
        simp only [iold, hj, ht, if_true]
        rw [if_pos ⟨trivial, by rw [flatV_len]; omega⟩]
      have e3 : flatV (l ++ [⟨name, []⟩]) = flatV l ++ [.str name, .str []] := by rw [flatV_app]; rfl
      simp only [iappendR, elems, if_true, List.length_cons, List.length_nil, Nat.zero_add, e2, e3]
      rw [if_neg (by omega)]
      simp only [flat, dcells, List.all_cons, List.all_nil, scal, Bool.and_self, if_true, List.append_nil]
      rw [if_pos e1]; rfl
    · rw [put_obj, if_neg (fun h => h2 l.length j (by rw [h])), put_obj, if_neg (fun h => h1 l.length t (by rw [h]))]
/-- What is behind an append: the variables are one more. -/
theorem MSt.appended {σ₀ : St} {jm : Nat} {l : List V} {s : St} (h : MSt σ₀ jm l s) (hf : s.Fresh) (hl : l.length ≤ 100) (name : List UInt8) :
    ∃ x, s.obj jm = some (.cells [x]) ∧ scalO (some x) = some x ∧ ∃ s2 : St, iappendR 2 32 x (.slc 2 [.agg [.str name, .str []]] .exact) s = some (.rslc s.next 0 2 (l.length + 1) (.opened (s.next + 1)), s2) ∧
      s2.obj jm = some (.cells [x]) ∧ MSt σ₀ jm (l ++ [⟨name, []⟩]) (s2.put jm (some (.cells [.rslc s.next 0 2 (l.length + 1) (.opened (s.next + 1))]))) := by
  obtain ⟨h1, h2, h3, x, h4, h5, h6, h7⟩ := h
  have lt : ∀ {i o}, s.obj i = some o → i < s.next := fun {i o} hi => Nat.lt_of_not_le fun hle => by rw [hf _ hle] at hi; cases hi
  have hjm := lt h4
  obtain ⟨s1, a1, a2, a3⟩ := h6.append hl name
  have hno : ∀ i, (i < σ₀.next ∨ i = jm) → s1.obj i = s.obj i := by
    intro i hi
    refine a3 i (fun len t e => ?_) (fun len j e => ?_)
    · rcases hi with hi | rfl
      · have := (h7 _ _ _ e).1; omega
      · subst e
        cases h6 with
        | vsome j t l hne hj ht =>
          rw [h4] at hj
          simp only [Option.some.injEq, Ob.cells.injEq] at hj
          have := congrArg List.length hj
          rw [flatV_len] at this
          simp at this; omega
    · rcases hi with hi | rfl
      · have := (h7 _ _ _ e).2; omega
      · subst e
        cases h6 with
        | vsome j t l hne hj ht => rw [h4] at ht; cases ht
  refine ⟨x, h4, h5, _, a1, ?_, h1, fun i hi => ?_, ?_, _, by rw [put_obj, if_pos rfl], rfl, ?_, ?_⟩
  · rw [alloc_obj, if_neg (by rw [alloc_next, a2]; omega), alloc_obj, if_neg (by rw [a2]; omega), hno _ (.inr rfl), h4]
  · rw [put_obj, if_neg (by omega), alloc_obj, if_neg (by rw [alloc_next, a2]; omega), alloc_obj, if_neg (by rw [a2]; omega), hno _ (.inl hi), h2 i hi]
  · simp only [put_next, alloc_next, a2]; omega
  · have e : l.length + 1 = (l ++ [(⟨name, []⟩ : V)]).length := by simp
    rw [e]
    refine .vsome _ _ _ (by simp) ?_ ?_
    · rw [put_obj, if_neg (by omega), alloc_obj, if_neg (by rw [alloc_next, a2]; omega), alloc_obj, if_pos (by rw [a2])]
    · rw [put_obj, if_neg (by omega), alloc_obj, if_pos (by rw [alloc_next, a2])]
  · intro j t len e
    cases e
    omega
/-- A variable's text is written. -/
theorem MSt.wrote {σ₀ : St} {jm : Nat} {l : List V} {s : St} (h : MSt σ₀ jm l s) {k : Nat} (hk : k < l.length) (val : List UInt8) :
    ∃ x j, s.obj jm = some (.cells [x]) ∧ scalO (some x) = some x ∧ idxAddrS 2 x (.int .i64 k) = some (.ref j (2 * k)) ∧ istore 1 (.ref j (2 * k + 1)) (.str val) s = some (s.put j (some (.cells (flatV (l.set k ⟨(l.getD k default).name, val⟩))))) ∧
      MSt σ₀ jm (l.set k ⟨(l.getD k default).name, val⟩) (s.put j (some (.cells (flatV (l.set k ⟨(l.getD k default).name, val⟩))))) := by
  obtain ⟨h1, h2, h3, x, h4, h5, h6, h7⟩ := h
  obtain ⟨j, ha, hj⟩ := h6.at hk
  refine ⟨x, j, h4, h5, ha, ?_, h1, fun i hi => ?_, h3, x, ?_, h5, ?_, h7⟩
  · rw [st_ref, hj, dc_str, stO_some _ _ _ _ _ (by simp [flatV_len]; omega)]
    simp only [setAt, flatV_set l k val hk]
  · cases h6 with
    | vnil => simp at hk
    | vnone => simp at hk
    | vsome j' t l hne hj' ht =>
      have := (h7 _ _ _ rfl).1
      simp only [idxAddrS] at ha
      rw [if_pos ⟨trivial, by omega, by omega⟩] at ha
      simp at ha
      rw [put_obj, if_neg (by omega), h2 i hi]
  · rw [put_obj, if_neg, h4]
    intro e
    subst e
    rw [h4] at hj
    simp only [Option.some.injEq, Ob.cells.injEq] at hj
    have := congrArg List.length hj
    rw [flatV_len] at this
    simp at this; omega
  · cases h6 with
    | vnil => simp at hk
    | vnone => simp at hk
    | vsome j' t l hne hj' ht =>
      simp only [idxAddrS] at ha
      rw [if_pos ⟨trivial, by omega, by omega⟩] at ha
      simp at ha
      have e : l.length = (l.set k ⟨(l.getD k default).name, val⟩).length := by simp
      rw [e]
      refine .vsome _ _ _ (fun h => hne (by simpa using congrArg List.length h)) (by rw [put_obj, if_pos ha.1]) ?_
      rw [put_obj, if_neg, ht]
      intro e
      rw [e, hj] at ht; cases ht
theorem set_ok {σ₀ σ : St} {jm : Nat} {l : List V} {name : List UInt8} {n : Int} (hM : MSt σ₀ jm l σ) (hl : l.length ≤ 64) (hn : -9223372036854775808 ≤ n ∧ n ≤ 9223372036854775807) :
    Ok Try.prog 39 [.ref jm 0, .str name, .int .i64 n] σ (fun o s' => match setF name n l with
      | .ok l' => o = .ret (.tuple []) ∧ MSt σ₀ jm l' s'
      | .error e => o = .panic (faultD e) ∧ MSt σ₀ jm l s') := by
  refine Ok.fresh fun hf => ?_
  have hM1 : MSt σ₀ jm l (σ.alloc (.cells [.str name])) := hM.more hf (by have := hM.nxt; rw [alloc_next]; omega) fun i hi => by rw [alloc_obj, if_neg (by omega)]
  have hf1 : (σ.alloc (.cells [.str name])).Fresh := fun i hi => by rw [alloc_next] at hi; rw [alloc_obj, if_neg (by omega), hf _ (by omega)]
  obtain ⟨x, h4, h5, h6, h7⟩ := hM1.x
  apply en39
  simp -dsimp (maxSteps := 2000000) (disch := first | omega | (simp; done) | (simp; omega)) only [SA, SB, SC, SD, SE, SF, SG, Nat.reduceLT, Nat.reduceAdd, Nat.reduceSub, Nat.reduceMul, Nat.reduceLeDiff, Nat.reduceEqDiff, Nat.reduceBEq, Int.reduceToNat, Int.reduceLE, Int.reduceLT, Int.reduceEq, Int.reduceNeg, reduceCtorEq, ↓reduceIte, ic39, List.replicate_succ, List.replicate_zero]
  have hk1 : (σ.alloc (.cells [.str name])).obj σ.next = some (.cells [.str name]) := by rw [alloc_obj, if_pos rfl]
  generalize hs1 : σ.alloc (.cells [.str name]) = s1 at hM1 hf1 h4 h5 h6 h7 hk1 ⊢
  (repeat' (first | simp -dsimp (maxSteps := 2000000) (disch := first | omega | (simp; done) | (simp; omega)) only [SA, SB, SC, SD, SE, SF, SG, Nat.reduceLT, Nat.reduceAdd, Nat.reduceSub, Nat.reduceMul, Nat.reduceLeDiff, Nat.reduceEqDiff, Nat.reduceBEq, Int.reduceToNat, Int.reduceLE, Int.reduceLT, Int.reduceEq, Int.reduceNeg, reduceCtorEq, ↓reduceIte, h4, h5] | refine Cut.go ?_ | refine Both.intro ?_ ?_ | (refine Br.intro ?_ ?_ <;> intro hb <;> have hb' := hb <;> (try simp only [SH] at hb') <;> (try simp -dsimp (maxSteps := 2000000) (disch := first | omega | (simp; done) | (simp; omega)) only [SA, SB, SC, SD, SE, SF, SG, Nat.reduceLT, Nat.reduceAdd, Nat.reduceSub, Nat.reduceMul, Nat.reduceLeDiff, Nat.reduceEqDiff, Nat.reduceBEq, Int.reduceToNat, Int.reduceLE, Int.reduceLT, Int.reduceEq, Int.reduceNeg, reduceCtorEq, ↓reduceIte, hb, h4, h5]))))
  refine ⟨gd58, (indexFunc_ok (name := name) h6 (by omega) gd61 fun v m => set1_ok v _ name _ (by exact hk1)).mono ?_⟩
  rintro o s' ⟨m, h1, rfl, rfl⟩
  have hM2 := hM1.same m h1
  have hf2 : (⟨s1.obj, m⟩ : St).Fresh := fun i hi => hf1 i (by have : m ≤ i := hi; omega)
  have hk2 : (⟨s1.obj, m⟩ : St).obj σ.next = some (.cells [.str name]) := hk1
  clear hs1 hM1 hf1 h4 h5 h6 h7 hk1
  generalize (⟨s1.obj, m⟩ : St) = s2 at hM2 hf2 hk2 ⊢
  rcases idxV_at name l 0 with ⟨e1, e2⟩ | ⟨k, hk, e1, e2, e3⟩
  · have e1' : idxV name l 0 = -1 := e1
    rw [e1']
    obtain ⟨x, h4, h5, s3, h6, h7, h8⟩ := hM2.appended hf2 (by omega) name
    obtain ⟨x', g4, g5, g6, g7⟩ := hM2.x
    obtain rfl : x = x' := by rw [h4] at g4; simpa using g4
    have hlen := g6.len
    (repeat' (first | simp -dsimp (maxSteps := 2000000) (disch := first | omega | (simp; done) | (simp; omega)) only [SA, SB, SC, SD, SE, SF, SG, Nat.reduceLT, Nat.reduceAdd, Nat.reduceSub, Nat.reduceMul, Nat.reduceLeDiff, Nat.reduceEqDiff, Nat.reduceBEq, Int.reduceToNat, Int.reduceLE, Int.reduceLT, Int.reduceEq, Int.reduceNeg, reduceCtorEq, ↓reduceIte, h4, h5, hlen, hk2, h6, h7] | refine Cut.go ?_ | refine Both.intro ?_ ?_ | (refine Br.intro ?_ ?_ <;> intro hb <;> have hb' := hb <;> (try simp only [SH] at hb') <;> (try simp -dsimp (maxSteps := 2000000) (disch := first | omega | (simp; done) | (simp; omega)) only [SA, SB, SC, SD, SE, SF, SG, Nat.reduceLT, Nat.reduceAdd, Nat.reduceSub, Nat.reduceMul, Nat.reduceLeDiff, Nat.reduceEqDiff, Nat.reduceBEq, Int.reduceToNat, Int.reduceLE, Int.reduceLT, Int.reduceEq, Int.reduceNeg, reduceCtorEq, ↓reduceIte, hb, h4, h5, hlen, hk2, h6, h7]))))
    · have : 64 ≤ l.length := by omega
      simp only [setF, e2]
      rw [if_pos (by simpa using this)]
      exact ⟨rfl, hM2⟩
    · have hno : ¬ 64 ≤ l.length := by omega
      have hset : setF name n l = .ok (putV name (textF n) l) := by simp only [setF, e2]; rw [if_neg (by simp [hno])]
      have hput := (putV_at name (textF n) l 0).1 e1'
      have h9 : (s3.put jm (some (.cells [.rslc s2.next 0 2 (l.length + 1) (.opened (s2.next + 1))]))).obj jm = some (.cells [.rslc s2.next 0 2 (l.length + 1) (.opened (s2.next + 1))]) := by rw [put_obj, if_pos rfl]
      generalize s3.put jm _ = s4 at h8 h9 ⊢
      refine text_call hn fun m' hm' => ?_
      obtain ⟨x2, j, a1, a2, a3, a4, a5⟩ := (h8.same m' hm').wrote (k := l.length) (by simp) (textF n)
      have a1' : s4.obj jm = some (.cells [x2]) := a1
      obtain rfl : .rslc s2.next 0 2 (l.length + 1) (.opened (s2.next + 1)) = x2 := by rw [h9] at a1'; simpa using a1'
      (repeat' (first | simp -dsimp (maxSteps := 2000000) (disch := first | omega | (simp; done) | (simp; omega)) only [SA, SB, SC, SD, SE, SF, SG, Nat.reduceLT, Nat.reduceAdd, Nat.reduceSub, Nat.reduceMul, Nat.reduceLeDiff, Nat.reduceEqDiff, Nat.reduceBEq, Int.reduceToNat, Int.reduceLE, Int.reduceLT, Int.reduceEq, Int.reduceNeg, reduceCtorEq, ↓reduceIte, h9, a3, a4] | refine Cut.go ?_ | refine Both.intro ?_ ?_ | (refine Br.intro ?_ ?_ <;> intro hb <;> have hb' := hb <;> (try simp only [SH] at hb') <;> (try simp -dsimp (maxSteps := 2000000) (disch := first | omega | (simp; done) | (simp; omega)) only [SA, SB, SC, SD, SE, SF, SG, Nat.reduceLT, Nat.reduceAdd, Nat.reduceSub, Nat.reduceMul, Nat.reduceLeDiff, Nat.reduceEqDiff, Nat.reduceBEq, Int.reduceToNat, Int.reduceLE, Int.reduceLT, Int.reduceEq, Int.reduceNeg, reduceCtorEq, ↓reduceIte, hb, h9, a3, a4]))))
      rw [hset, hput]
      have e5 : l ++ [⟨name, textF n⟩] = (l ++ [(⟨name, []⟩ : V)]).set l.length ⟨((l ++ [(⟨name, []⟩ : V)]).getD l.length default).name, textF n⟩ := by simp
      rw [e5]; exact a5
  · have e1' : idxV name l 0 = (k : Int) := by rw [show (0 : Int) = ((0 : Nat) : Int) from rfl, e1]; simp
    rw [e1']
    have e4 : decide ((k : Int) < 0) = false := by simp
    have hset : setF name n l = .ok (putV name (textF n) l) := by simp only [setF, e2]; rw [if_neg (by simp)]
    have hput := (putV_at name (textF n) l 0).2 k (by simpa using e1)
    obtain ⟨x, h4, h5, h6, h7⟩ := hM2.x
    (repeat' (first | simp -dsimp (maxSteps := 2000000) (disch := first | omega | (simp; done) | (simp; omega)) only [SA, SB, SC, SD, SE, SF, SG, Nat.reduceLT, Nat.reduceAdd, Nat.reduceSub, Nat.reduceMul, Nat.reduceLeDiff, Nat.reduceEqDiff, Nat.reduceBEq, Int.reduceToNat, Int.reduceLE, Int.reduceLT, Int.reduceEq, Int.reduceNeg, reduceCtorEq, ↓reduceIte, h4, h5, e4] | refine Cut.go ?_ | refine Both.intro ?_ ?_ | (refine Br.intro ?_ ?_ <;> intro hb <;> have hb' := hb <;> (try simp only [SH] at hb') <;> (try simp -dsimp (maxSteps := 2000000) (disch := first | omega | (simp; done) | (simp; omega)) only [SA, SB, SC, SD, SE, SF, SG, Nat.reduceLT, Nat.reduceAdd, Nat.reduceSub, Nat.reduceMul, Nat.reduceLeDiff, Nat.reduceEqDiff, Nat.reduceBEq, Int.reduceToNat, Int.reduceLE, Int.reduceLT, Int.reduceEq, Int.reduceNeg, reduceCtorEq, ↓reduceIte, hb, h4, h5, e4]))))
    refine text_call hn fun m' hm' => ?_
    obtain ⟨x2, j, a1, a2, a3, a4, a5⟩ := (hM2.same m' hm').wrote hk (textF n)
    have a1' : s2.obj jm = some (.cells [x2]) := a1
    obtain rfl : x = x2 := by rw [h4] at a1'; simpa using a1'
    (repeat' (first | simp -dsimp (maxSteps := 2000000) (disch := first | omega | (simp; done) | (simp; omega)) only [SA, SB, SC, SD, SE, SF, SG, Nat.reduceLT, Nat.reduceAdd, Nat.reduceSub, Nat.reduceMul, Nat.reduceLeDiff, Nat.reduceEqDiff, Nat.reduceBEq, Int.reduceToNat, Int.reduceLE, Int.reduceLT, Int.reduceEq, Int.reduceNeg, reduceCtorEq, ↓reduceIte, h4, h5, a3, a4] | refine Cut.go ?_ | refine Both.intro ?_ ?_ | (refine Br.intro ?_ ?_ <;> intro hb <;> have hb' := hb <;> (try simp only [SH] at hb') <;> (try simp -dsimp (maxSteps := 2000000) (disch := first | omega | (simp; done) | (simp; omega)) only [SA, SB, SC, SD, SE, SF, SG, Nat.reduceLT, Nat.reduceAdd, Nat.reduceSub, Nat.reduceMul, Nat.reduceLeDiff, Nat.reduceEqDiff, Nat.reduceBEq, Int.reduceToNat, Int.reduceLE, Int.reduceLT, Int.reduceEq, Int.reduceNeg, reduceCtorEq, ↓reduceIte, hb, h4, h5, a3, a4]))))
    rw [hset, hput]; exact a5
end Go.Proofs.Ytkjgadanaknleaa
