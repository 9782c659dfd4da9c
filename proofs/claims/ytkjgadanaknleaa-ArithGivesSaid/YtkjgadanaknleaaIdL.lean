/-
  THE IDEAL LAYER, PART L: a region whose order is open.
  'Movable' operations only look; they are taken as early as may be. The others ('barriers') come one behind the other.
  What a movable load saw must still be so behind each barrier that need not wait for it.
-/
import Derived.Test.YtkjgadanaknleaaIdK
namespace Go.Id
open Go.RowKit
set_option linter.unusedVariables false
set_option linter.unusedSimpArgs false

/-! What is before what. -/
def bef (ops : Array Oper) (i j : Nat) : Bool := ((Region.before ops).getD i 0).testBit j

theorem push_spec (f : Array Nat → Oper → Nat) : ∀ (l : List Oper) (acc : Array Nat) (i : Nat) (o : Oper), l[i]? = some o →
    ∃ acc' : Array Nat, (l.foldl (fun acc o => acc.push (f acc o)) acc)[acc.size + i]? = some (f acc' o) ∧ acc'.size = acc.size + i ∧
      (∀ k, k < acc'.size → acc'[k]? = (l.foldl (fun acc o => acc.push (f acc o)) acc)[k]?)
  | [], acc, i, o, h => by simp at h
  | x :: l, acc, i, o, h => by
    have keep : ∀ (l : List Oper) (acc : Array Nat) (k : Nat), k < acc.size → (l.foldl (fun acc o => acc.push (f acc o)) acc)[k]? = acc[k]? := by
      intro l
      induction l with
      | nil => intro acc k _; rfl
      | cons y l ih =>
        intro acc k hk
        simp only [List.foldl_cons]
        rw [ih _ k (by simp; omega), Array.getElem?_push, if_neg (by omega)]
    cases i with
    | zero =>
      simp only [List.getElem?_cons_zero, Option.some.injEq] at h
      subst h
      refine ⟨acc, ?_, by simp, fun k hk => ?_⟩
      · simp only [List.foldl_cons, Nat.add_zero]
        rw [keep _ _ _ (by simp), Array.getElem?_push, if_pos rfl]
      · simp only [List.foldl_cons]
        rw [keep _ _ _ (by simp; omega), Array.getElem?_push, if_neg (by omega)]
    | succ i =>
      obtain ⟨acc', h1, h2, h3⟩ := push_spec f l (acc.push (f acc x)) i o (by simpa using h)
      simp only [Array.size_push] at h1 h2
      refine ⟨acc', ?_, by omega, fun k hk => ?_⟩
      · simp only [List.foldl_cons]
        rw [show acc.size + (i + 1) = acc.size + 1 + i by omega]
        exact h1
      · simp only [List.foldl_cons]
        exact h3 k hk

theorem before_spec (ops : Array Oper) {i j : Nat} (h : bef ops i j = true) :
    ∃ o e, ops[i]? = some o ∧ e ∈ o.after ∧ Region.binds .any e = true ∧ (e.on = j ∨ e.on < i ∧ bef ops e.on j = true) := by
  unfold bef at h
  cases ho : ops[i]? with
  | none =>
    exfalso
    have hsz : ∀ (l : List Oper) (acc : Array Nat), (l.foldl (fun acc o => acc.push (o.after.foldl (fun s e => if Region.binds .any e then s ||| 2 ^ e.on ||| acc.getD e.on 0 else s) 0)) acc).size = acc.size + l.length := by
      intro l
      induction l with
      | nil => intro acc; rfl
      | cons y l ih => intro acc; simp only [List.foldl_cons, ih, Array.size_push, List.length_cons]; omega
    have : (Region.before ops).size = ops.size := by
      unfold Region.before
      rw [← Array.foldl_toList, hsz]
      simp
    rw [Array.getD_eq_getD_getElem?, Array.getElem?_eq_none (by rw [this]; exact Array.getElem?_eq_none_iff.1 ho)] at h
    simp at h
  | some o =>
    obtain ⟨acc', h1, h2, h3⟩ := push_spec (fun acc o => o.after.foldl (fun s e => if Region.binds .any e then s ||| 2 ^ e.on ||| acc.getD e.on 0 else s) 0) ops.toList #[] i o (by simpa using ho)
    have hb : Region.before ops = ops.toList.foldl (fun acc o => acc.push (o.after.foldl (fun s e => if Region.binds .any e then s ||| 2 ^ e.on ||| acc.getD e.on 0 else s) 0)) #[] := by
      unfold Region.before
      rw [← Array.foldl_toList]
    rw [← hb] at h1 h3
    simp only [List.size_toArray, List.length_nil, Nat.zero_add] at h1 h2
    rw [Array.getD_eq_getD_getElem?, h1] at h
    simp only [Option.getD_some] at h
    have key : ∀ (l : List Edge) (s : Nat), (l.foldl (fun s e => if Region.binds .any e then s ||| 2 ^ e.on ||| acc'.getD e.on 0 else s) s).testBit j = true →
        s.testBit j = true ∨ ∃ e ∈ l, Region.binds .any e = true ∧ (e.on = j ∨ (acc'.getD e.on 0).testBit j = true) := by
      intro l
      induction l with
      | nil => intro s hs; exact .inl hs
      | cons e l ih =>
        intro s hs
        simp only [List.foldl_cons] at hs
        rcases ih _ hs with hs | ⟨e', he', h'⟩
        · split at hs
          · rename_i hbd
            simp only [Nat.testBit_or, Bool.or_eq_true] at hs
            rcases hs with (hs | hs) | hs
            · exact .inl hs
            · refine .inr ⟨e, by simp, hbd, .inl ?_⟩
              rw [Nat.testBit_two_pow] at hs
              simpa using hs
            · exact .inr ⟨e, by simp, hbd, .inr hs⟩
          · exact .inl hs
        · exact .inr ⟨e', by simp [he'], h'⟩
    rw [← Array.foldl_toList] at h
    rcases key _ _ h with hz | ⟨e, he, hbd, hor⟩
    · simp at hz
    · refine ⟨o, e, rfl, by simpa using he, hbd, ?_⟩
      rcases hor with hor | hor
      · exact .inl hor
      · right
        have hlt : e.on < acc'.size := by
          rcases Nat.lt_or_ge e.on acc'.size with hh | hh
          · exact hh
          · rw [Array.getD_eq_getD_getElem?, Array.getElem?_eq_none hh] at hor; simp at hor
        refine ⟨by omega, ?_⟩
        unfold bef
        rw [Array.getD_eq_getD_getElem?] at hor ⊢
        rw [← h3 _ hlt]
        exact hor

/-- What an operation reads. -/
def Opd.reads : Opd → List Nat
  | .t n => [n]
  | .c _ => []
def oreads : Option Opd → List Nat
  | none => []
  | some x => x.reads

def IOp.reads : IOp → List Nat
  | .mov x | .box x | .boxV x | .load _ x | .nilCheck x | .un _ x | .toInt _ x | .toStr x | .mkIface _ x | .fieldAddr _ x | .field _ _ x | .extract _ x | .lenStr x | .lenSlc x | .assert _ _ x | .bytesStr x => x.reads
  | .pick c a b => c.reads ++ (a.reads ++ b.reads)
  | .alloc _ => []
  | .build _ ps => ps.flatMap fun p => p.2.2.reads
  | .buildSlice _ ps => ps.flatMap Opd.reads
  | .store _ a x | .bin _ a x | .eq _ _ a x | .idxAddrS _ a x | .idxAddrA _ _ a x | .idxStr a x | .idxArr _ _ _ a x | .append _ _ a x | .appendR _ _ a x => a.reads ++ x.reads
  | .mkFunc _ f c => f.flatMap Opd.reads ++ c.flatMap Opd.reads
  | .sliceArr _ _ x l h => x.reads ++ (oreads l ++ oreads h)
  | .sliceStr x l h => x.reads ++ (oreads l ++ oreads h)
  | .sliceSlc _ x l h m => x.reads ++ (oreads l ++ (oreads h ++ oreads m))

def IXop.reads : IXop → List Nat
  | .v o => o.reads
  | .call f args | .defer f args => f.reads ++ args.flatMap Opd.reads
  | .panic x => x.reads
  | .recover => []

def IOper.reads (o : IOper) : List Nat := o.op.reads ++ (match o.guard with | some (g, _) => [g] | none => [])

/-- Does it only look? -/
def IOp.looks : IOp → Bool
  | .alloc _ | .box _ | .store _ _ _ | .append _ _ _ _ | .appendR _ _ _ _ | .bytesStr _ => false
  | _ => true
def IXop.looks : IXop → Bool
  | .v o => o.looks
  | _ => false

theorem Opd.ev_congr {x : Opd} {e e' : List D} (h : ∀ n ∈ x.reads, e.getD n .junk = e'.getD n .junk) : x.ev e = x.ev e' := by
  cases x with
  | t n => exact h n (by simp [Opd.reads])
  | c d => rfl
theorem evO_congr {x : Option Opd} {e e' : List D} (h : ∀ n ∈ oreads x, e.getD n .junk = e'.getD n .junk) : evO e x = evO e' x := by
  cases x with
  | none => rfl
  | some x => simp only [evO, Opd.ev_congr (x := x) h]
theorem evs_congr {xs : List Opd} {e e' : List D} (h : ∀ n ∈ xs.flatMap Opd.reads, e.getD n .junk = e'.getD n .junk) : xs.map (·.ev e) = xs.map (·.ev e') :=
  List.map_congr_left fun x hx => Opd.ev_congr fun n hn => h n (List.mem_flatMap.2 ⟨x, hx, hn⟩)

theorem iop_congr {o : IOp} {e e' : List D} {σ : St} (h : ∀ n ∈ o.reads, e.getD n .junk = e'.getD n .junk) : iop o e σ = iop o e' σ := by
  cases o <;> simp only [IOp.reads, List.mem_append] at h <;> simp only [iop] <;> first
    | rw [Opd.ev_congr h]
    | (rename_i c a b; rw [Opd.ev_congr (x := c) (fun n hn => h n (.inl hn)), Opd.ev_congr (x := a) (fun n hn => h n (.inr (.inl hn))), Opd.ev_congr (x := b) (fun n hn => h n (.inr (.inr hn)))])
    | (rename_i x l hh; rw [Opd.ev_congr (x := x) (fun n hn => h n (.inl hn)), evO_congr (x := l) (fun n hn => h n (.inr (.inl hn))), evO_congr (x := hh) (fun n hn => h n (.inr (.inr hn)))])
    | (rename_i x l hh m; rw [Opd.ev_congr (x := x) (fun n hn => h n (.inl hn)), evO_congr (x := l) (fun n hn => h n (.inr (.inl hn))), evO_congr (x := hh) (fun n hn => h n (.inr (.inr (.inl hn)))), evO_congr (x := m) (fun n hn => h n (.inr (.inr (.inr hn))))])
    | (rename_i f c; rw [evs_congr (xs := f) (fun n hn => h n (.inl hn)), evs_congr (xs := c) (fun n hn => h n (.inr hn))])
    | (rename_i ps; rw [show (ps.map fun p => (p.1, p.2.1, p.2.2.ev e)) = (ps.map fun p => (p.1, p.2.1, p.2.2.ev e')) from List.map_congr_left fun p hp => by rw [Opd.ev_congr (x := p.2.2) (fun n hn => h n (List.mem_flatMap.2 ⟨p, hp, hn⟩))]])
    | (rename_i sz ps; rw [evs_congr (xs := ps) h])
    | (rename_i a x; rw [Opd.ev_congr (x := a) (fun n hn => h n (.inl hn)), Opd.ev_congr (x := x) (fun n hn => h n (.inr hn))])
    | rfl

/-- What only looks leaves the store as it is. -/
theorem looks_store {o : IOp} (ho : o.looks = true) {e : List D} {σ σ' : St} {d : D} (h : iop o e σ = some (d, σ')) : σ' = σ := by
  cases o <;> simp only [IOp.looks, Bool.false_eq_true] at ho <;> simp only [iop] at h <;> (repeat' (split at h)) <;> (try (cases h; done)) <;>
    (simp only [Option.some.injEq, Prod.mk.injEq] at h; exact h.2.symm)

/-- And, but for a load, it asks nothing of the store. -/
theorem looks_any {o : IOp} (ho : o.looks = true) (hl : ∀ n x, o ≠ .load n x) {e : List D} {σ σ' : St} {d : D} (h : iop o e σ = some (d, σ)) : iop o e σ' = some (d, σ') := by
  cases o <;> simp only [IOp.looks, Bool.false_eq_true] at ho <;> (try (exact absurd rfl (hl _ _))) <;> simp only [iop] at h ⊢ <;> (repeat' (split at h)) <;> (try (cases h; done)) <;> simp_all

end Go.Id
