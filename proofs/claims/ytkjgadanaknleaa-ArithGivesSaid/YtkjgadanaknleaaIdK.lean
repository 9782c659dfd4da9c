/-
  THE IDEAL LAYER, PART K: calls, one operation with its ways out, a region in the order of the text.
-/
import Derived.Test.YtkjgadanaknleaaIdJ
namespace Go.Id
open Go.RowKit
set_option linter.unusedVariables false
set_option linter.unusedSimpArgs false

/-- How a call ends. -/
inductive Out where
  | ret (d : D)
  | panic (d : D)

def PRel (μ : Mu) : Out → Ending → Prop
  | .ret d, .returned v => VR μ d v
  | .panic d, .panicked chain => ∃ v, VR μ d v ∧ chain = [{ v, recovered := false }]
  | _, _ => False

/-- THE CONTRACT OF A FUNCTION, BY CONTENTS. -/
def Ok (P : Program) (f : FuncId) (args : List D) (σ : St) (Post : Out → St → Prop) : Prop :=
  ∀ (μ : Mu) (w : World) (vs : List Value), Sim μ σ w → CRt μ args vs →
    Calls P f ⟨vs⟩ w fun e w' => ∃ μ' σ' out, μ.le μ' ∧ Sim μ' σ' w' ∧ PRel μ' out e ∧ Post out σ'

theorem Ok.mono {P : Program} {f : FuncId} {args : List D} {σ : St} {Post Post' : Out → St → Prop} (h : Ok P f args σ Post) (hp : ∀ o s, Post o s → Post' o s) : Ok P f args σ Post' :=
  fun μ w vs hs ha => (h μ w vs hs ha).mono fun e w' ⟨μ', σ', out, h1, h2, h3, h4⟩ => ⟨μ', σ', out, h1, h2, h3, hp _ _ h4⟩

@[congr] theorem Ok.congr {P : Program} {f f' : FuncId} {args args' : List D} {σ σ' : St} {Post : Out → St → Prop} (h1 : f = f') (h2 : args = args') (h3 : σ = σ') : Ok P f args σ Post = Ok P f' args' σ' Post := by
  subst h1; subst h2; subst h3; rfl

structure Env where
  tmps : List D
  defers : List (FuncId × List D)

def Env.put (e : Env) (dst : Option Nat) (d : D) : Env :=
  match dst with
  | some t => { e with tmps := e.tmps.set t d }
  | none => e

def DR (μ : Mu) : List (FuncId × List D) → List Deferred → Prop
  | [], ds => ds = []
  | (f, as) :: r, ds => ∃ d ds', ds = d :: ds' ∧ (∃ cap xs, d = { target := .fn (.func f) ⟨cap⟩, args := ⟨xs⟩ } ∧ CRt μ as (xs ++ cap)) ∧ DR μ r ds'

theorem DR.mono {μ ν : Mu} (h : μ.le ν) : ∀ {l : List (FuncId × List D)} {ds : List Deferred}, DR μ l ds → DR ν l ds
  | [], _, x => x
  | (f, as) :: r, ds, x => by
    obtain ⟨d, ds', h1, ⟨cap, xs, h2, h3⟩, h4⟩ := x
    exact ⟨d, ds', h1, ⟨cap, xs, h2, CRt.mono h _ _ h3⟩, h4.mono h⟩

structure EnvR (μ : Mu) (e : Env) (a : Act) : Prop where
  tmps : ER μ e.tmps a
  defers : DR μ e.defers a.defers

theorem EnvR.mono {μ ν : Mu} (h : μ.le ν) {e : Env} {a : Act} (x : EnvR μ e a) : EnvR ν e a := ⟨x.tmps.mono h, x.defers.mono h⟩

theorem EnvR.put {μ : Mu} {e : Env} {a : Act} (x : EnvR μ e a) (dst : Option Nat) {d : D} {v : Value} (hv : VR μ d v) : EnvR μ (e.put dst d) (a.put dst v) := by
  cases dst with
  | none => exact x
  | some t =>
    refine ⟨⟨?_, fun n => ?_⟩, x.defers⟩
    · simp only [Env.put, Act.put, List.length_set, Array.size_setIfInBounds]; exact x.tmps.len
    · have hl := x.tmps.len
      have hg := x.tmps.get n
      simp only [Env.put, Act.put, List.getD_eq_getElem?_getD, Array.getD_eq_getD_getElem?] at hg ⊢
      rw [List.getElem?_set, Array.getElem?_setIfInBounds]
      by_cases hn : t = n
      · subst hn
        by_cases hlt : t < e.tmps.length
        · rw [if_pos rfl, if_pos rfl, if_pos hlt, if_pos (by omega)]; exact hv
        · rw [if_pos rfl, if_pos rfl, if_neg hlt, if_neg (by omega)]; exact VR.junk _
      · rw [if_neg hn, if_neg hn]; exact hg

inductive IExit where
  | normal
  | exit (id : Nat)
  | ret
  | panic (d : D)

def ExitR (μ : Mu) : IExit → Exit → Prop
  | .normal, .normal => True
  | .exit i, .exit j => i = j
  | .ret, .ret => True
  | .panic d, .panic chain => ∃ v, VR μ d v ∧ chain = [{ v, recovered := false }]
  | _, _ => False

/-- What is asked behind a piece of code, for the model. -/
def lift (μ₀ : Mu) (Q : IExit → Env → St → Prop) : Exit → Act → World → Prop :=
  fun ex a w => ∃ μ ie e σ, μ₀.le μ ∧ ExitR μ ie ex ∧ EnvR μ e a ∧ Sim μ σ w ∧ Q ie e σ

theorem lift.mono {μ ν : Mu} (h : μ.le ν) {Q Q' : IExit → Env → St → Prop} (hq : ∀ x e s, Q x e s → Q' x e s) (ex : Exit) (a : Act) (w : World) (x : lift ν Q ex a w) : lift μ Q' ex a w := by
  obtain ⟨κ, ie, e, σ, h1, h2, h3, h4, h5⟩ := x
  exact ⟨κ, ie, e, σ, h.trans h1, h2, h3, h4, hq _ _ _ h5⟩

def calleeOf (f : D) (args : List D) : Option (FuncId × List D) :=
  match f with
  | .func (.func g) first captured => some (g, first ++ args ++ captured)
  | _ => none

def goodFn (P : Program) (f : FuncId) : Bool :=
  match P.funcs[f]? with
  | some fn => fn.body.isSome && fn.name != "runtime.NumGoroutine"
  | none => false

/-- One operation, with its ways out. -/
def iwpX (P : Program) (o : IXop) (dst : Option Nat) (next : Env → St → Prop) (Q : IExit → Env → St → Prop) (e : Env) (σ : St) : Prop :=
  match o with
  | .v o => match iop o e.tmps σ with
    | some (d, σ') => next (e.put dst d) σ'
    | none => False
  | .call f args => match calleeOf (f.ev e.tmps) (args.map (·.ev e.tmps)) with
    | some (g, as) => goodFn P g = true ∧ Ok P g as σ fun out σ' => match out with
      | .ret d => next (e.put dst d) σ'
      | .panic d => Q (.panic d) e σ'
    | none => False
  | .panic x => match x.ev e.tmps with
    | .iface t d => Q (.panic (.iface t d)) e σ
    | _ => False
  | .defer f args => match calleeOf (f.ev e.tmps) (args.map (·.ev e.tmps)) with
    | some (g, as) => next (Env.put { e with defers := (g, as) :: e.defers } dst .junk) σ
    | none => False
  | .recover => False

def rx (P : Program) (pol : TypeId → Bool) (o : Oper) : Option IXop :=
  match o.op with
  | .call { callee := .value f, args, .. } => do some (.call (← ropd f) (← args.toList.mapM ropd))
  | .call { callee := .builtin .recover, .. } => some .recover
  | .panic x => do some (.panic (← ropd x))
  | .defer { callee := .value f, args, .. } => do some (.defer (← ropd f) (← args.toList.mapM ropd))
  | _ => (rop P pol o).map .v

def rguard (ops : Array Oper) (o : Oper) : Option (Option (Nat × Bool)) :=
  match o.guard with
  | none => some none
  | some (j, b) => match (ops[j]?).bind (·.dst) with
    | some t => some (some (t, b))
    | none => none

def rxAt (P : Program) (pol : TypeId → Bool) (ops : Array Oper) (i : Nat) : Option IOper := do
  let o ← ops[i]?
  some { dst := o.dst, op := ← rx P pol o, guard := ← rguard ops o }

section
variable {P : Program} {μ : Mu} {σ : St} {w : World}

theorem resolve_callee {a : Act} {e : List D} (he : ER μ e a) {f : Operand} {args : Array Operand} {of : Opd} {os : List Opd} (h1 : ropd f = some of) (h2 : args.toList.mapM ropd = some os) {g : FuncId} {as : List D}
    (hc : calleeOf (of.ev e) (os.map (·.ev e)) = some (g, as)) :
    ∃ cap xs, (∀ ts ty, (resolve a.eval { callee := .value f, args, argTypes := ts } ty).run P w = .ok { target := .fn (.func g) ⟨cap⟩, args := ⟨xs⟩ } w) ∧ CRt μ as (xs ++ cap) := by
  have hv := ropd_sound he h1
  have ha := CRt.of_ops he args.toList os h2
  unfold calleeOf at hc
  split at hc <;> (try (cases hc; done))
  rename_i g' first captured hf
  simp only [Option.some.injEq, Prod.mk.injEq] at hc
  obtain ⟨rfl, rfl⟩ := hc
  rw [hf] at hv
  obtain ⟨fs, cs, hval, c1, c2⟩ := hv.func
  refine ⟨cs, fs ++ args.toList.map a.eval, fun ts ty => ?_, (c1.append ha).append c2⟩
  simp only [resolve, hval, Deferred.ofValue, Sem.run_pure]
  congr 2
  apply Array.ext'
  simp

theorem iwpX_sound {pol : TypeId → Bool} {o : Oper} {x : IXop} (hr : rx P pol o = some x) {e : Env} {a : Act} (he : EnvR μ e a) (hs : Sim μ σ w) {next : Env → St → Prop} {Q : IExit → Env → St → Prop}
    (h : iwpX P x o.dst next Q e σ) {N : Act → World → Prop} {Q' : Exit → Act → World → Prop}
    (hn : ∀ μ' e' a' σ' w', μ.le μ' → EnvR μ' e' a' → Sim μ' σ' w' → next e' σ' → N a' w')
    (hq : ∀ μ' d v σ' w', μ.le μ' → VR μ' d v → EnvR μ' e a → Sim μ' σ' w' → Q (.panic d) e σ' → Q' (.panic [{ v, recovered := false }]) a w') :
    o.wp P a w N Q' := by
  unfold Oper.wp
  unfold rx at hr
  split at hr
  · -- a call
    rename_i f args ts hop
    simp only [Option.bind_eq_bind, Option.bind_eq_some_iff, Option.some.injEq] at hr
    obtain ⟨of, h1, os, h2, rfl⟩ := hr
    simp only [iwpX] at h
    split at h <;> (try (exact h.elim))
    rename_i g as hc
    obtain ⟨hg, hok⟩ := h
    obtain ⟨cap, xs, hres, hcr⟩ := resolve_callee (P := P) (w := w) he.tmps h1 h2 hc
    have hrun : (execOp a.eval o).run P w = .ok (.enter g ⟨xs ++ cap⟩) w := by
      unfold goodFn at hg
      split at hg <;> (try (cases hg; done))
      rename_i fn hfn
      simp only [Bool.and_eq_true, bne_iff_ne, ne_eq] at hg
      simp only [execOp, hop, Sem.run_bind, hres, Result.andThen_ok, invoke, callFunc, run_program, hfn]
      have hb : fn.body.isNone = false := by cases hbo : fn.body <;> simp_all
      simp [hg.2, hb]
    rw [hrun, Oper.upon_enter]
    refine (hok μ w _ hs hcr).mono fun en w' hen => ?_
    obtain ⟨μ', σ', out, k1, k2, k3, k4⟩ := hen
    cases out with
    | ret d =>
      cases en <;> simp only [PRel] at k3 <;> (try (exact k3.elim))
      exact hn μ' _ _ σ' w' k1 ((he.mono k1).put o.dst k3) k2 k4
    | panic d =>
      cases en <;> simp only [PRel] at k3 <;> (try (exact k3.elim))
      obtain ⟨v, k5, rfl⟩ := k3
      exact hq μ' d v σ' w' k1 k5 (he.mono k1) k2 k4
  · simp only [Option.some.injEq] at hr
    subst hr
    exact h.elim
  · -- a panic
    rename_i px hop
    simp only [Option.bind_eq_bind, Option.bind_eq_some_iff, Option.some.injEq] at hr
    obtain ⟨ox, h1, rfl⟩ := hr
    simp only [iwpX] at h
    split at h <;> (try (exact h.elim))
    rename_i t d hx
    have hv := ropd_sound he.tmps h1
    rw [hx] at hv
    have hv' := hv
    obtain ⟨u, hu, _⟩ := hv.iface
    have hrun : (execOp a.eval o).run P w = .halt (.panic (a.eval px)) w := by
      simp [execOp, hop, Instr.panic, hu]
    rw [hrun, Oper.upon_panic]
    exact hq μ _ _ σ w (Mu.le.refl μ) hv' he hs h
  · -- a deferred call
    rename_i f args ts hop
    simp only [Option.bind_eq_bind, Option.bind_eq_some_iff, Option.some.injEq] at hr
    obtain ⟨of, h1, os, h2, rfl⟩ := hr
    simp only [iwpX] at h
    split at h <;> (try (exact h.elim))
    rename_i g as hc
    obtain ⟨cap, xs, hres, hcr⟩ := resolve_callee (P := P) (w := w) he.tmps h1 h2 hc
    have hrun : (execOp a.eval o).run P w = .ok (.defer { target := .fn (.func g) ⟨cap⟩, args := ⟨xs⟩ }) w := by
      simp [execOp, hop, hres]
    rw [hrun, Oper.upon_defer]
    refine hn μ _ _ σ w (Mu.le.refl μ) ?_ hs h
    refine EnvR.put (e := { e with defers := (g, as) :: e.defers }) (a := { a with defers := { target := .fn (.func g) ⟨cap⟩, args := ⟨xs⟩ } :: a.defers }) ⟨⟨he.tmps.len, he.tmps.get⟩, ?_⟩ o.dst (VR.junk _)
    exact ⟨_, _, rfl, ⟨cap, xs, rfl, hcr⟩, he.defers⟩
  · -- a value
    simp only [Option.map_eq_some_iff] at hr
    obtain ⟨io, h1, rfl⟩ := hr
    simp only [iwpX] at h
    split at h <;> (try (exact h.elim))
    rename_i d σ' hi
    obtain ⟨μ', v, w', k1, k2, k3, k4⟩ := rop_sound h1 he.tmps hs hi
    rcases k4 with k4 | ⟨k4, rfl⟩
    · rw [k4, Oper.upon_value]
      exact hn μ' _ _ σ' w' k1 ((he.mono k1).put o.dst k3) k2 h
    · rw [k4, Oper.upon_skip]
      exact hn μ' _ _ σ' w' k1 ((he.mono k1).put o.dst k3) k2 h

/-- Things that nobody needs any more may be forgotten. -/
def Drops (σ σ' : St) : Prop := σ.next ≤ σ'.next ∧ ∀ j, σ'.obj j = none ∨ σ'.obj j = σ.obj j
theorem Drops.refl (σ : St) : Drops σ σ := ⟨Nat.le_refl _, fun _ => .inr rfl⟩
theorem Sim.drops {μ : Mu} {σ σ' : St} {w : World} (h : Sim μ σ w) (d : Drops σ σ') : Sim μ σ' w where
  imm := h.imm
  obj := fun j cs hj => by
    rcases d.2 j with hn | he
    · rw [hn] at hj; cases hj
    · exact h.obj j cs (he ▸ hj)
  tok := fun j hj => by
    rcases d.2 j with hn | he
    · rw [hn] at hj; cases hj
    · exact h.tok j (he ▸ hj)
  blk := h.blk
  nxt := fun j hj => by
    obtain ⟨h1, h2, h3⟩ := h.nxt j (Nat.le_trans d.1 hj)
    refine ⟨?_, h2, h3⟩
    rcases d.2 j with hn | he
    · exact hn
    · rw [he]; exact h1
  bel := h.bel

/-- Nothing stands behind the next number. -/
def St.Fresh (σ : St) : Prop := ∀ j, σ.next ≤ j → σ.obj j = none
theorem Ok.drop {P : Program} {f : FuncId} {args : List D} {σ : St} {Post : Out → St → Prop} (h : Ok P f args σ (fun o s => ∃ s', Drops s s' ∧ Post o s')) : Ok P f args σ Post :=
  fun μ w vs hs ha => (h μ w vs hs ha).mono fun e w' ⟨μ', σ', out, h1, h2, h3, s', h4, h5⟩ => ⟨μ', s', out, h1, h2.drops h4, h3, h5⟩
theorem Ok.fresh {P : Program} {f : FuncId} {args : List D} {σ : St} {Post : Out → St → Prop} (h : σ.Fresh → Ok P f args σ Post) : Ok P f args σ Post :=
  fun μ w vs hs ha => h (fun j hj => (hs.nxt j hj).1) μ w vs hs ha
/-- What a contract says holds, and the store behind has nothing behind its next number. -/
theorem Ok.fresh' {P : Program} {f : FuncId} {args : List D} {σ : St} {Post : Out → St → Prop} (h : Ok P f args σ Post) : Ok P f args σ (fun o s => s.Fresh ∧ Post o s) :=
  fun μ w vs hs ha => (h μ w vs hs ha).mono fun e w' ⟨μ', σ', out, h1, h2, h3, h4⟩ => ⟨μ', σ', out, h1, h2, h3, fun j hj => (h2.nxt j hj).1, h4⟩

/-- A branch that is looked into only when its test is known. -/
inductive Tg (A B : Prop) : Type
  | mk
def Br (b : Bool) (A B : Prop) (_t : Tg A B := .mk) : Prop := (b = true → A) ∧ (b = false → B)
@[congr] theorem Br.congr {b b' : Bool} {A B : Prop} (h : b = b') : Br b A B = Br b' A B := by subst h; rfl
theorem Br.tt {A B : Prop} : Br true A B = A := by simp [Br]
theorem Br.ff {A B : Prop} : Br false A B = B := by simp [Br]

/-- What a guard's slot says: an operation that was not wanted left the empty tuple there. -/
def gval (d : D) (want : Bool) : Option Bool := match d with | .bool b => some (b == want) | .tuple [] => some false | _ => none
def iwpG (P : Program) (o : IOper) (next : Env → St → Prop) (Q : IExit → Env → St → Prop) (e : Env) (σ : St) : Prop :=
  match o.guard with
  | none => iwpX P o.op o.dst next Q e σ
  | some (g, want) => match gval (e.tmps.getD g .junk) want with
    | some b => Br b (iwpX P o.op o.dst next Q e σ) (next (e.put o.dst (.tuple [])) σ)
    | none => False

def iwpOps (P : Program) : List IOper → (Env → St → Prop) → (IExit → Env → St → Prop) → Env → St → Prop
  | [], next, _, e, σ => next e σ
  | o :: os, next, Q, e, σ => iwpG P o (iwpOps P os next Q) Q e σ

theorem yielded_of {ops : Array Oper} {e : List D} {a : Act} (he : ER μ e a) {j t : Nat} (hj : (ops[j]?).bind (·.dst) = some t) {b : Bool} (hb : e.getD t .junk = .bool b) : yielded ops a.tmps j = some b := by
  have hv := he.get t
  rw [hb] at hv
  have := hv.bool
  unfold yielded
  rw [hj]
  simp only [Option.bind_some]
  rw [Array.getD_eq_getD_getElem?] at this
  cases hx : a.tmps[t]? with
  | none => rw [hx] at this; simp [undef] at this
  | some x => rw [hx] at this; simp at this; subst this; rfl

theorem wanted_of {ops : Array Oper} {o : Oper} {g : Option (Nat × Bool)} (hg : rguard ops o = some g) {e : List D} {a : Act} (he : ER μ e a) :
    match g with
    | none => Region.wanted o (yielded ops a.tmps) = true
    | some (t, want) => ∀ b, gval (e.getD t .junk) want = some b → Region.wanted o (yielded ops a.tmps) = b := by
  unfold rguard at hg
  unfold Region.wanted
  split at hg
  · rename_i hgu
    simp only [Option.some.injEq] at hg
    subst hg
    simp [hgu]
  · rename_i j b hgu
    split at hg <;> (try (cases hg; done))
    rename_i t ht
    simp only [Option.some.injEq] at hg
    subst hg
    intro b' hb'
    simp only [hgu]
    unfold gval at hb'
    split at hb' <;> simp only [Option.some.injEq, reduceCtorEq] at hb'
    · rename_i c hc
      subst hb'
      rw [yielded_of he ht hc]
      rfl
    · rename_i hc
      subst hb'
      have hv := he.get t
      rw [hc] at hv
      obtain ⟨ws, hw, hws⟩ := hv.tuple
      simp only [CRt] at hws
      subst hws
      have hy : yielded ops a.tmps j = none := by
        unfold yielded
        rw [ht]
        simp only [Option.bind_some]
        rw [Array.getD_eq_getD_getElem?] at hw
        cases hx : a.tmps[t]? with
        | none => rfl
        | some x => rw [hx] at hw; simp at hw; subst hw; rfl
      rw [hy]
      rfl

theorem VR.undef {μ : Mu} : VR μ (.tuple []) Go.undef := VR.mk_tuple (vs := []) (by simp only [CRt])

theorem iwpOps_sound {pol : TypeId → Bool} {ops : Array Oper} {next : Env → St → Prop} {Q : IExit → Env → St → Prop} {Q' : Exit → Act → World → Prop} :
    ∀ (l : List Nat) (ios : List IOper), l.mapM (rxAt P pol ops) = some ios → ∀ (μ : Mu) (e : Env) (a : Act) (σ : St) (w : World), EnvR μ e a → Sim μ σ w → iwpOps P ios next Q e σ →
    (∀ μ' e' a' σ' w', μ.le μ' → EnvR μ' e' a' → Sim μ' σ' w' → next e' σ' → Q' .normal a' w') →
    (∀ μ' d v e' a' σ' w', μ.le μ' → VR μ' d v → EnvR μ' e' a' → Sim μ' σ' w' → Q (.panic d) e' σ' → Q' (.panic [{ v, recovered := false }]) a' w') →
    wpOps P ops Q' l a w
  | [], ios, h, μ, e, a, σ, w, he, hs, hi, hn, hq => by
    simp at h; subst h
    exact hn μ e a σ w (Mu.le.refl μ) he hs hi
  | i :: l, ios, h, μ, e, a, σ, w, he, hs, hi, hn, hq => by
    simp only [List.mapM_cons, Option.bind_eq_bind, Option.bind_eq_some_iff, Option.pure_def, Option.some.injEq] at h
    obtain ⟨io, h1, ios', h2, rfl⟩ := h
    simp only [rxAt, Option.bind_eq_bind, Option.bind_eq_some_iff, Option.some.injEq] at h1
    obtain ⟨o, ho, x, hx, g, hg, rfl⟩ := h1
    have hw := wanted_of hg he.tmps
    simp only [iwpOps, iwpG] at hi
    simp only [wpOps, ho]
    have run : iwpX P x o.dst (iwpOps P ios' next Q) Q e σ → o.wp P a w (wpOps P ops Q' l) Q' := fun hh =>
      iwpX_sound hx he hs hh
        (fun μ' e' a' σ' w' k1 k2 k3 k4 => iwpOps_sound l ios' h2 μ' e' a' σ' w' k2 k3 k4 (fun _ _ _ _ _ q1 => hn _ _ _ _ _ (k1.trans q1)) (fun _ _ _ _ _ _ _ q1 => hq _ _ _ _ _ _ _ (k1.trans q1)))
        (fun μ' d v σ' w' k1 k2 k3 k4 k5 => hq μ' d v e a σ' w' k1 k2 k3 k4 k5)
    cases g with
    | none =>
      simp only at hw hi
      rw [hw, if_pos rfl]
      exact .inl (run hi)
    | some gw =>
      obtain ⟨t, want⟩ := gw
      simp only at hw hi
      split at hi <;> (try (exact hi.elim))
      rename_i b hb
      rw [hw b hb]
      cases b with
      | false =>
        simp only [Bool.false_eq_true, if_false]
        exact iwpOps_sound l ios' h2 μ _ _ σ w (he.put o.dst VR.undef) hs (hi.2 rfl) hn hq
      | true =>
        simp only [if_true]
        exact .inl (run (hi.1 rfl))

end
/-! The equations, made here once for all texts behind. -/
example := @Env.put.eq_1
example := @calleeOf.eq_1

end Go.Id
