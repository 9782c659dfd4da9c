/-
  THE IDEAL LAYER, PART M: a region whose order is open, taken by a plan.
-/
import Derived.Test.YtkjgadanaknleaaIdL
namespace Go.Id
open Go.RowKit
set_option linter.unusedVariables false
set_option linter.unusedSimpArgs false

def Env.junks (e : Env) (ts : List Nat) : Env := { e with tmps := e.tmps.mapIdx fun i d => if ts.contains i then .junk else d }

theorem junks_getD (e : Env) (ts : List Nat) (n : Nat) : (e.junks ts).tmps.getD n .junk = if ts.contains n then .junk else e.tmps.getD n .junk := by
  simp only [Env.junks, List.getD_eq_getElem?_getD, List.getElem?_mapIdx]
  cases h : e.tmps[n]? with
  | none => simp
  | some d => simp

/-- An environment that knows less. -/
structure Less (e₀ e : Env) : Prop where
  len : e₀.tmps.length = e.tmps.length
  get : ∀ n, e₀.tmps.getD n .junk = .junk ∨ e₀.tmps.getD n .junk = e.tmps.getD n .junk
  defers : e₀.defers = e.defers

theorem Less.refl (e : Env) : Less e e := ⟨rfl, fun _ => .inr rfl, rfl⟩

theorem EnvR.less {μ : Mu} {e₀ e : Env} {a : Act} (h : Less e₀ e) (x : EnvR μ e a) : EnvR μ e₀ a := by
  refine ⟨⟨h.len.trans x.tmps.len, fun n => ?_⟩, by rw [h.defers]; exact x.defers⟩
  rcases h.get n with hj | hj <;> rw [hj]
  · exact VR.junk _
  · exact x.tmps.get n

theorem put_getD (e : Env) (dst : Option Nat) (d : D) (n : Nat) : (e.put dst d).tmps.getD n .junk = if dst = some n ∧ n < e.tmps.length then d else e.tmps.getD n .junk := by
  cases dst with
  | none => simp [Env.put]
  | some t =>
    simp only [Env.put, List.getD_eq_getElem?_getD, List.getElem?_set]
    by_cases h : t = n
    · subst h
      by_cases hl : t < e.tmps.length
      · simp [hl]
      · simp [hl]
    · simp [h]

theorem put_len (e : Env) (dst : Option Nat) (d : D) : (e.put dst d).tmps.length = e.tmps.length := by
  cases dst <;> simp [Env.put]
theorem put_defers (e : Env) (dst : Option Nat) (d : D) : (e.put dst d).defers = e.defers := by
  cases dst <;> rfl

def dstv (o : IOper) (e : Env) : D :=
  match o.dst with
  | some t => e.tmps.getD t .junk
  | none => .junk

/-- What a looking operation gives. -/
def pval (o : IOper) (e : Env) (σ : St) : Option D :=
  match o.guard with
  | none => match o.op with
    | .v io => match iop io e.tmps σ with
      | some (d, _) => some d
      | none => none
    | _ => none
  | some (g, want) => match gval (e.tmps.getD g .junk) want with
    | some b => if b then (match o.op with
      | .v io => match iop io e.tmps σ with
        | some (d, _) => some d
        | none => none
      | _ => none) else some (.tuple [])
    | none => none

/-- A load that was taken early sees still what it saw. -/
def Still (o : IOper) (e : Env) (σ : St) : Prop :=
  match o.op with
  | .v (.load n x) => match o.guard with
    | none => iload n (x.ev e.tmps) σ = some (dstv o e)
    | some (g, want) => match gval (e.tmps.getD g .junk) want with
      | some b => b = true → iload n (x.ev e.tmps) σ = some (dstv o e)
      | none => True
  | _ => True

def Stills (ios : List IOper) : List Nat → Env → St → Prop
  | [], _, _ => True
  | j :: r, e, σ => (match ios[j]? with | some o => Still o e σ | none => True) ∧ Stills ios r e σ

def iwpPlan (P : Program) (ios : List IOper) (alld : List Nat) (next : Env → St → Prop) (Q : IExit → Env → St → Prop) : List (Nat × Option (List Nat)) → Env → St → Prop
  | [], e, σ => next e σ
  | (i, none) :: π, e, σ => match ios[i]? with
    | some o => iwpG P o (iwpPlan P ios alld next Q π) (fun _ _ _ => False) e σ
    | none => False
  | (i, some must) :: π, e, σ => match ios[i]? with
    | some o => iwpG P o (fun e' σ' => Stills ios must e' σ' ∧ iwpPlan P ios alld next Q π e' σ') (fun x e' σ' => Q x (e'.junks alld) σ') e σ
    | none => False

def dstIn (o : IOper) (l : List Nat) : Bool :=
  match o.dst with
  | some t => l.contains t
  | none => false

def shares (o q : IOper) : Bool := dstIn q o.reads || dstIn o q.reads || (match o.dst, q.dst with | some a, some b => a == b | _, _ => false)

def isLoad (o : IOper) : Bool := match o.op with | .v (.load _ _) => true | _ => false

def isBarrier (o : IOper) : Bool := match o.op with | .v _ | .call _ _ | .panic _ => true | _ => false

/-- The plan is sound: see the head of this text and of the one before. -/
def sufOk (ops : Array Oper) (ios : List IOper) (alld : List Nat) : List Nat → List Nat → List (Nat × Option (List Nat)) → Bool
  | _, _, [] => true
  | done, held, (i, b) :: rest =>
    (match ops[i]?, ios[i]? with
    | some ro, some o =>
      ro.after.all (fun e => !Region.binds .any e || done.contains e.on) &&
      (match o.dst with | some t => alld.contains t | none => true) &&
      (match b with
        | none => o.op.looks && o.dst.isSome && !dstIn o o.reads && rest.all (fun q => match ios[q.1]? with
            | some oq => (match q.2 with
              | none => !dstIn oq o.reads && o.dst != oq.dst && (!dstIn o oq.reads || bef ops q.1 i)
              | some _ => !shares o oq || bef ops q.1 i)
            | none => false)
        | some must => isBarrier o && rest.all (fun q => bef ops q.1 i) && held.all (fun j => bef ops i j || must.contains j || (match ios[j]? with | some oj => !isLoad oj | none => false)))
    | _, _ => false) &&
    rest.all (fun q => q.1 != i) &&
    sufOk ops ios alld (i :: done) (match b with | none => i :: held | some _ => held) rest

section
variable {P : Program} {pol : TypeId → Bool} {ops : Array Oper} {ios : List IOper} {alld : List Nat}

/-- What 'sufOk' says of one place of the plan. -/
theorem sufOk_at : ∀ (A : List (Nat × Option (List Nat))) (i : Nat) (b : Option (List Nat)) (B : List (Nat × Option (List Nat))) (done held : List Nat), sufOk ops ios alld done held (A ++ (i, b) :: B) = true →
    sufOk ops ios alld ((A.map (·.1)).reverse ++ done) ((A.filterMap fun q => match q.2 with | none => some q.1 | some _ => none).reverse ++ held) ((i, b) :: B) = true ∧ ∀ q ∈ A, q.1 ≠ i
  | [], i, b, B, done, held, h => ⟨by simpa using h, by simp⟩
  | (k, c) :: A, i, b, B, done, held, h => by
    simp only [List.cons_append, sufOk, Bool.and_eq_true] at h
    obtain ⟨⟨h1, h2⟩, h3⟩ := h
    obtain ⟨g1, g2⟩ := sufOk_at A i b B _ _ h3
    refine ⟨?_, fun q hq => ?_⟩
    · cases c <;> simpa using g1
    · rcases List.mem_cons.1 hq with rfl | hq
      · have := List.all_eq_true.1 h2 (i, b) (by simp)
        simp only [bne_iff_ne, ne_eq] at this
        exact fun hh => this hh.symm
      · exact g2 q hq

theorem iwpG_looks {o : IOper} (hl : o.op.looks = true) {next : Env → St → Prop} {Q : IExit → Env → St → Prop} {e : Env} {σ : St} (h : iwpG P o next Q e σ) :
    ∃ d, pval o e σ = some d ∧ next (e.put o.dst d) σ := by
  obtain ⟨dst, op, guard⟩ := o
  cases op <;> simp [IXop.looks] at hl
  rename_i io
  have run : iwpX P (.v io) dst next Q e σ → ∃ d, (match iop io e.tmps σ with | some (d, _) => some d | none => none) = some d ∧ next (e.put dst d) σ := by
    intro hx
    simp only [iwpX] at hx
    split at hx <;> (try (exact hx.elim))
    rename_i d σ' hi
    obtain rfl := looks_store hl hi
    exact ⟨d, by rw [hi], hx⟩
  simp only [iwpG] at h
  unfold pval
  split at h
  · exact run h
  · split at h <;> (try (exact h.elim))
    rename_i g want x b hb
    simp only [hb]
    cases b with
    | false =>
      simp only [Bool.false_eq_true, if_false]
      exact ⟨_, rfl, h.2 rfl⟩
    | true =>
      simp only [if_true]
      exact run (h.1 rfl)

theorem pval_congr {o : IOper} (hl : o.op.looks = true) {e e' : Env} {σ : St} (h : ∀ n ∈ o.reads, e.tmps.getD n .junk = e'.tmps.getD n .junk) : pval o e σ = pval o e' σ := by
  obtain ⟨dst, op, guard⟩ := o
  cases op <;> simp [IXop.looks] at hl
  rename_i io
  simp only [IOper.reads, IXop.reads, List.mem_append] at h
  have h1 : iop io e.tmps σ = iop io e'.tmps σ := iop_congr fun n hn => h n (.inl hn)
  unfold pval
  simp only [h1]
  cases guard with
  | none => rfl
  | some gw =>
    obtain ⟨g, want⟩ := gw
    simp only [h g (.inr (by simp))]

/-- Behind a barrier. -/
theorem pval_still {o : IOper} (hl : o.op.looks = true) {e : Env} {σ σ' : St} (h : pval o e σ = some (dstv o e)) (hs : isLoad o = true → Still o e σ') : pval o e σ' = some (dstv o e) := by
  obtain ⟨dst, op, guard⟩ := o
  cases op <;> simp [IXop.looks] at hl
  rename_i io
  by_cases hld : ∃ n x, io = .load n x
  · obtain ⟨n, x, rfl⟩ := hld
    have hst := hs rfl
    simp only [Still] at hst
    unfold pval at h ⊢
    cases guard with
    | none => simp only [iop] at hst ⊢; rw [hst]
    | some gw =>
      obtain ⟨g, want⟩ := gw
      simp only at h hst ⊢
      split at h <;> (try (cases h; done))
      rename_i b hb
      simp only [hb] at hst ⊢
      cases b with
      | false => simpa using h
      | true =>
        simp only [if_true, iop]
        rw [hst rfl]
  · have hne : ∀ n x, io ≠ .load n x := fun n x hh => hld ⟨n, x, hh⟩
    have key : ∀ d, (match iop io e.tmps σ with | some (d, _) => some d | none => none) = some d → (match iop io e.tmps σ' with | some (d, _) => some d | none => none) = some d := by
      intro d hd
      split at hd <;> (try (cases hd; done))
      rename_i d' σ₁ hi
      simp only [Option.some.injEq] at hd
      subst hd
      obtain rfl := looks_store hl hi
      rw [looks_any hl hne hi]
    unfold pval at h ⊢
    cases guard with
    | none => exact key _ h
    | some gw =>
      obtain ⟨g, want⟩ := gw
      simp only at h ⊢
      cases hb : gval (e.tmps.getD g .junk) want <;> simp only [hb] at h ⊢ <;> (try (cases h; done))
      rename_i b
      cases b with
      | false => simpa using h
      | true =>
        simp only [if_true] at h ⊢
        exact key _ h

theorem iwpX_congr {x : IXop} (hb : (match x with | .v _ | .call _ _ | .panic _ => true | _ => false) = true) {dst : Option Nat} {next : Env → St → Prop} {Q : IExit → Env → St → Prop} {e e' : Env} {σ : St}
    (h : ∀ n ∈ x.reads, e.tmps.getD n .junk = e'.tmps.getD n .junk) (hi : iwpX P x dst next Q e σ) :
    iwpX P x dst (fun e₁ σ₁ => ∃ d, e₁ = e'.put dst d ∧ next (e.put dst d) σ₁) (fun y e₁ σ₁ => e₁ = e' ∧ Q y e σ₁) e' σ := by
  cases x <;> simp at hb
  · rename_i io
    simp only [iwpX, ← iop_congr (o := io) h] at hi ⊢
    split at hi <;> (try (exact hi.elim))
    exact ⟨_, rfl, hi⟩
  · rename_i f args
    simp only [IXop.reads, List.mem_append] at h
    simp only [iwpX, ← Opd.ev_congr (x := f) (fun n hn => h n (.inl hn)), ← evs_congr (xs := args) (fun n hn => h n (.inr hn))] at hi ⊢
    split at hi <;> (try (exact hi.elim))
    refine ⟨hi.1, hi.2.mono fun out σ₁ hh => ?_⟩
    cases out with
    | ret d => exact ⟨_, rfl, hh⟩
    | panic d => exact ⟨trivial, hh⟩
  · rename_i px
    simp only [iwpX, ← Opd.ev_congr (x := px) h] at hi ⊢
    split at hi <;> (try (exact hi.elim))
    exact ⟨trivial, hi⟩

theorem Stills.get : ∀ {must : List Nat} {e : Env} {σ : St}, Stills ios must e σ → ∀ {j : Nat} {o : IOper}, j ∈ must → ios[j]? = some o → Still o e σ
  | [], _, _, _, _, _, hj, _ => by cases hj
  | k :: r, e, σ, h, j, o, hj, ho => by
    obtain ⟨h1, h2⟩ := h
    rcases List.mem_cons.1 hj with rfl | hj
    · rw [ho] at h1; exact h1
    · exact Stills.get h2 hj ho

/-- The state of a run in the middle of the region: 'C' is what the plan has taken; of it what is not 'listed' the run has still to do. -/
structure Mid (ops : Array Oper) (ios : List IOper) (C : List (Nat × Option (List Nat))) (listed : Array Bool) (μ : Mu) (e : Env) (a : Act) (σ : St) : Prop where
  size : listed.size = ops.size
  inC : ∀ j, listed.getD j false = true → ∃ b, (j, b) ∈ C
  down : ∀ j k, listed.getD j false = true → bef ops j k = true → listed.getD k false = true
  bars : ∀ j must, (j, some must) ∈ C → listed.getD j false = true
  vals : ∀ j, (j, none) ∈ C → listed.getD j false = false → ∃ o, ios[j]? = some o ∧ o.op.looks = true ∧ pval o e σ = some (dstv o e) ∧ (∀ t, o.dst = some t → t < e.tmps.length)
  env : ∃ pd : List Nat, (∀ t, t ∈ pd → ∃ j o, (j, none) ∈ C ∧ listed.getD j false = false ∧ ios[j]? = some o ∧ o.dst = some t) ∧
    (∀ j o t, (j, none) ∈ C → listed.getD j false = false → ios[j]? = some o → o.dst = some t → t ∈ pd) ∧ EnvR μ (e.junks pd) a

end
/-! The equations, made here once for all texts behind. -/
example := @Env.junks.eq_1
example := @dstv.eq_1
example := @Still.eq_1
example := @Stills.eq_1

end Go.Id
