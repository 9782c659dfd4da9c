/-
  THE IDEAL LAYER, PART K: calls, one operation with its ways out, a region in the order of the text.
-/
import Derived.Test.YthiidchbaicfgaaGreatDoorIdJ
namespace Go.Id
open Go.RowKit
set_option linter.unusedVariables false
set_option linter.unusedSimpArgs false

/-- How a call ends. -/
inductive Out where
  | ret (d : D)
  | panic (d : D)

def PRel (μ : Mu) : Out → Ending → Prop
  | .ret d, .returned v => VR μ d v
  | .panic d, .panicked chain => ∃ v, VR μ d v ∧ chain = [{ v, recovered := false }]
  | _, _ => False

/-- THE CONTRACT OF A FUNCTION, BY CONTENTS. -/
def Ok (P : Program) (f : FuncId) (args : List D) (σ : St) (Post : Out → St → Prop) : Prop :=
  ∀ (μ : Mu) (w : World) (vs : List Value), Sim μ σ w → CRt μ args vs →
    Calls P f ⟨vs⟩ w fun e w' => ∃ μ' σ' out, μ.le μ' ∧ Sim μ' σ' w' ∧ PRel μ' out e ∧ Post out σ'

theorem Ok.mono {P : Program} {f : FuncId} {args : List D} {σ : St} {Post Post' : Out → St → Prop} (h : Ok P f args σ Post) (hp : ∀ o s, Post o s → Post' o s) : Ok P f args σ Post' :=
  fun μ w vs hs ha => (h μ w vs hs ha).mono fun e w' ⟨μ', σ', out, h1, h2, h3, h4⟩ => ⟨μ', σ', out, h1, h2, h3, hp _ _ h4⟩

@[congr] theorem Ok.congr {P : Program} {f f' : FuncId} {args args' : List D} {σ σ' : St} {Post : Out → St → Prop} (h1 : f = f') (h2 : args = args') (h3 : σ = σ') : Ok P f args σ Post = Ok P f' args' σ' Post := by
  subst h1; subst h2; subst h3; rfl

structure Env where
  tmps : List D
  defers : List (FuncId × List D)

def Env.put (e : Env) (dst : Option Nat) (d : D) : Env :=
  match dst with
  | some t => { e with tmps := e.tmps.set t d }
  | none => e

def DR (μ : Mu) : List (FuncId × List D) → List Deferred → Prop
  | [], ds => ds = []
  | (f, as) :: r, ds => ∃ d ds', ds = d :: ds' ∧ (∃ cap xs, d = { target := .fn (.func f) ⟨cap⟩, args := ⟨xs⟩ } ∧ CRt μ as (xs ++ cap)) ∧ DR μ r ds'

theorem DR.mono {μ ν : Mu} (h : μ.le ν) : ∀ {l : List (FuncId × List D)} {ds : List Deferred}, DR μ l ds → DR ν l ds
  | [], _, x => x
  | (f, as) :: r, ds, x => by
    obtain ⟨d, ds', h1, ⟨cap, xs, h2, h3⟩, h4⟩ := x
    exact ⟨d, ds', h1, ⟨cap, xs, h2, CRt.mono h _ _ h3⟩, h4.mono h⟩

structure EnvR (μ : Mu) (e : Env) (a : Act) : Prop where
  tmps : ER μ e.tmps a
  defers : DR μ e.defers a.defers

theorem EnvR.mono {μ ν : Mu} (h : μ.le ν) {e : Env} {a : Act} (x : EnvR μ e a) : EnvR ν e a := ⟨x.tmps.mono h, x.defers.mono h⟩

theorem EnvR.put {μ : Mu} {e : Env} {a : Act} (x : EnvR μ e a) (dst : Option Nat) {d : D} {v : Value} (hv : VR μ d v) : EnvR μ (e.put dst d) (a.put dst v) := by
  cases dst with
  | none => exact x
  | some t =>
    refine ⟨⟨?_, fun n => ?_⟩, x.defers⟩
    · simp only [Env.put, Act.put, List.length_set, Array.size_setIfInBounds]; exact x.tmps.len
    · have hl := x.tmps.len
      have hg := x.tmps.get n
      simp only [Env.put, Act.put, List.getD_eq_getElem?_getD, Array.getD_eq_getD_getElem?] at hg ⊢
      rw [List.getElem?_set, Array.getElem?_setIfInBounds]
      by_cases hn : t = n
      · subst hn
        by_cases hlt : t < e.tmps.length
        · rw [if_pos rfl, if_pos rfl, if_pos hlt, if_pos (by omega)]; exact hv
        · rw [if_pos rfl, if_pos rfl, if_neg hlt, if_neg (by omega)]; exact VR.junk _
      · rw [if_neg hn, if_neg hn]; exact hg

inductive IExit where
  | normal
  | exit (id : Nat)
  | ret
  | panic (d : D)

def ExitR (μ : Mu) : IExit → Exit → Prop
  | .normal, .normal => True
  | .exit i, .exit j => i = j
  | .ret, .ret => True
  | .panic d, .panic chain => ∃ v, VR μ d v ∧ chain = [{ v, recovered := false }]
  | _, _ => False

/-- What is asked behind a piece of code, for the model. -/
def lift (μ₀ : Mu) (Q : IExit → Env → St → Prop) : Exit → Act → World → Prop :=
  fun ex a w => ∃ μ ie e σ, μ₀.le μ ∧ ExitR μ ie ex ∧ EnvR μ e a ∧ Sim μ σ w ∧ Q ie e σ

theorem lift.mono {μ ν : Mu} (h : μ.le ν) {Q Q' : IExit → Env → St → Prop} (hq : ∀ x e s, Q x e s → Q' x e s) (ex : Exit) (a : Act) (w : World) (x : lift ν Q ex a w) : lift μ Q' ex a w := by
  obtain ⟨κ, ie, e, σ, h1, h2, h3, h4, h5⟩ := x
  exact ⟨κ, ie, e, σ, h.trans h1, h2, h3, h4, hq _ _ _ h5⟩

def calleeOf (f : D) (args : List D) : Option (FuncId × List D) :=
  match f with
  | .func (.func g) first captured => some (g, first ++ args ++ captured)
  | _ => none

def goodFn (P : Program) (f : FuncId) : Bool :=
  match P.funcs[f]? with
  | some fn => fn.body.isSome && fn.name != "runtime.NumGoroutine"
  | none => false

/-- A call of a function that has no body here: the model's own entry answers at once. -/
def ExtOk (P : Program) (g : FuncId) (args : List D) (σ : St) (Post : D → St → Prop) : Prop :=
  ∀ (μ : Mu) (w : World) (vs : List Value), Sim μ σ w → CRt μ args vs →
    ∃ v w' μ' σ' d, (callFunc g ⟨vs⟩).run P w = .ok (.value v) w' ∧ μ.le μ' ∧ Sim μ' σ' w' ∧ VR μ' d v ∧ Post d σ'
theorem ExtOk.mono {P : Program} {g : FuncId} {args : List D} {σ : St} {Post Post' : D → St → Prop} (h : ExtOk P g args σ Post) (hp : ∀ d s, Post d s → Post' d s) : ExtOk P g args σ Post' :=
  fun μ w vs hs ha => let ⟨v, w', μ', σ', d, h1, h2, h3, h4, h5⟩ := h μ w vs hs ha; ⟨v, w', μ', σ', d, h1, h2, h3, h4, hp _ _ h5⟩
def bodyless (P : Program) (g : FuncId) : Bool :=
  match P.funcs[g]? with
  | some fn => fn.body.isNone
  | none => false
/-- One operation, with its ways out. -/
def iwpX (P : Program) (o : IXop) (dst : Option Nat) (next : Env → St → Prop) (Q : IExit → Env → St → Prop) (e : Env) (σ : St) : Prop :=
  match o with
  | .v o => match iop o e.tmps σ with
    | some (d, σ') => next (e.put dst d) σ'
    | none => False
  | .call f args => match calleeOf (f.ev e.tmps) (args.map (·.ev e.tmps)) with
    | some (g, as) => goodFn P g = true ∧ Ok P g as σ fun out σ' => match out with
      | .ret d => next (e.put dst d) σ'
      | .panic d => Q (.panic d) e σ'
    | none => False
  | .panic x => match x.ev e.tmps with
    | .iface t d => Q (.panic (.iface t d)) e σ
    | _ => False
  | .defer f args => match calleeOf (f.ev e.tmps) (args.map (·.ev e.tmps)) with
    | some (g, as) => next (Env.put { e with defers := (g, as) :: e.defers } dst .junk) σ
    | none => False
  | .recover => False
  | .ext g args => ExtOk P g (args.map (·.ev e.tmps)) σ fun d σ' => next (e.put dst d) σ'
  | .inv x name args => match x.ev e.tmps with
    | .iface t d => match methD P t name with
      | some g => goodFn P g = true ∧ Ok P g (d :: args.map (·.ev e.tmps)) σ fun out σ' => match out with
        | .ret d => next (e.put dst d) σ'
        | .panic d => Q (.panic d) e σ'
      | none => False
    | _ => False

def rx (P : Program) (pol : TypeId → Bool) (o : Oper) : Option IXop :=
  match o.op with
  | .call { callee := .value f, args, .. } => do
    let of ← ropd f
    let os ← args.toList.mapM ropd
    some (match of with
      | .c (.func (.func g) [] []) => if bodyless P g then .ext g os else .call of os
      | _ => .call of os)
  | .call { callee := .invoke x name, args, .. } => do some (.inv (← ropd x) name (← args.toList.mapM ropd))
  | .call { callee := .builtin .recover, .. } => some .recover
  | .panic x => do some (.panic (← ropd x))
  | .defer { callee := .value f, args, .. } => do some (.defer (← ropd f) (← args.toList.mapM ropd))
  | _ => (rop P pol o).map .v

def rguard (ops : Array Oper) (o : Oper) : Option (Option (Nat × Bool)) :=
  match o.guard with
  | none => some none
  | some (j, b) => match (ops[j]?).bind (·.dst) with
    | some t => some (some (t, b))
    | none => none

def rxAt (P : Program) (pol : TypeId → Bool) (ops : Array Oper) (i : Nat) : Option IOper := do
  let o ← ops[i]?
  some { dst := o.dst, op := ← rx P pol o, guard := ← rguard ops o }

section
variable {P : Program} {μ : Mu} {σ : St} {w : World}

theorem resolve_callee {a : Act} {e : List D} (he : ER μ e a) {f : Operand} {args : Array Operand} {of : Opd} {os : List Opd} (h1 : ropd f = some of) (h2 : args.toList.mapM ropd = some os) {g : FuncId} {as : List D}
    (hc : calleeOf (of.ev e) (os.map (·.ev e)) = some (g, as)) :
    ∃ cap xs, (∀ ts ty, (resolve a.eval { callee := .value f, args, argTypes := ts } ty).run P w = .ok { target := .fn (.func g) ⟨cap⟩, args := ⟨xs⟩ } w) ∧ CRt μ as (xs ++ cap) := by
  have hv := ropd_sound he h1
  have ha := CRt.of_ops he args.toList os h2
  unfold calleeOf at hc
  split at hc <;> (try (cases hc; done))
  rename_i g' first captured hf
  simp only [Option.some.injEq, Prod.mk.injEq] at hc
  obtain ⟨rfl, rfl⟩ := hc
  rw [hf] at hv
  obtain ⟨fs, cs, hval, c1, c2⟩ := hv.func
  refine ⟨cs, fs ++ args.toList.map a.eval, fun ts ty => ?_, (c1.append ha).append c2⟩
  simp only [resolve, hval, Deferred.ofValue, Sem.run_pure]
  congr 2
  apply Array.ext'
  simp

theorem run_method_of {t : TypeId} {name : String} {g : FuncId} (hm : methD P t name = some g) (n : Nat) (u : Value) (w : World) : (method (n + 1) t u name).run P w = .ok (g, u) w := by
  unfold methD at hm
  split at hm <;> (try (cases hm; done))
  rename_i i hi
  split at hm <;> (try (cases hm; done))
  rename_i m hf
  split at hm <;> (try (cases hm; done))
  rename_i hp
  have hp2 : m.path.toList = [] := by simpa [Array.isEmpty] using hp
  split at hm <;> (try (cases hm; done))
  · rename_i g' el hfn hu
    simp only [Option.some.injEq] at hm; subst hm
    simp [method, typeInfo, hi, hf, hp2, follow, hfn, receiverAt, underlying, hu, Place.get, Sem.run]
  · rename_i g' ds hnp hfn hu
    simp only [Option.some.injEq] at hm; subst hm
    cases ds <;> first | exact (hnp _ rfl).elim | simp [method, typeInfo, hi, hf, hp2, follow, hfn, receiverAt, underlying, hu, Place.get, Sem.run]
theorem iwpX_sound {pol : TypeId → Bool} {o : Oper} {x : IXop} (hr : rx P pol o = some x) {e : Env} {a : Act} (he : EnvR μ e a) (hs : Sim μ σ w) {next : Env → St → Prop} {Q : IExit → Env → St → Prop}
    (h : iwpX P x o.dst next Q e σ) {N : Act → World → Prop} {Q' : Exit → Act → World → Prop}
    (hn : ∀ μ' e' a' σ' w', μ.le μ' → EnvR μ' e' a' → Sim μ' σ' w' → next e' σ' → N a' w')
    (hq : ∀ μ' d v σ' w', μ.le μ' → VR μ' d v → EnvR μ' e a → Sim μ' σ' w' → Q (.panic d) e σ' → Q' (.panic [{ v, recovered := false }]) a w') :
    o.wp P a w N Q' := by
  unfold Oper.wp
  unfold rx at hr
  split at hr
  · -- a call
    rename_i f args ts hop
    simp only [Option.bind_eq_bind, Option.bind_eq_some_iff, Option.some.injEq] at hr
    obtain ⟨of, h1, os, h2, hr⟩ := hr
    -- one of the model's own entries
    have entry : ∀ g, of = .c (.func (.func g) [] []) → iwpX P (.ext g os) o.dst next Q e σ → o.upon P a N Q' ((execOp a.eval o).run P w) := by
      rintro g rfl h
      simp only [iwpX] at h
      obtain ⟨cap, xs, hres, hcr⟩ := resolve_callee (P := P) (w := w) he.tmps h1 h2 (g := g) (as := os.map (·.ev e.tmps)) (by simp [calleeOf, Opd.ev])
      obtain ⟨v, w', μ', σ', d, k1, k2, k3, k4, k5⟩ := h μ w _ hs hcr
      have hrun : (execOp a.eval o).run P w = .ok (.value v) w' := by
        simp only [execOp, hop, Sem.run_bind, hres, Result.andThen_ok, invoke]
        simpa using k1
      rw [hrun, Oper.upon_value]
      exact hn μ' _ _ σ' w' k2 ((he.mono k2).put o.dst k4) k3 k5
    have plain : iwpX P (.call of os) o.dst next Q e σ → o.upon P a N Q' ((execOp a.eval o).run P w) := by
      intro h
      simp only [iwpX] at h
      split at h <;> (try (exact h.elim))
      rename_i g as hc
      obtain ⟨hg, hok⟩ := h
      obtain ⟨cap, xs, hres, hcr⟩ := resolve_callee (P := P) (w := w) he.tmps h1 h2 hc
      have hrun : (execOp a.eval o).run P w = .ok (.enter g ⟨xs ++ cap⟩) w := by
        unfold goodFn at hg
        split at hg <;> (try (cases hg; done))
        rename_i fn hfn
        simp only [Bool.and_eq_true, bne_iff_ne, ne_eq] at hg
        simp only [execOp, hop, Sem.run_bind, hres, Result.andThen_ok, invoke, callFunc, run_program, hfn]
        have hb : fn.body.isNone = false := by cases hbo : fn.body <;> simp_all
        simp [hg.2, hb]
      rw [hrun, Oper.upon_enter]
      refine (hok μ w _ hs hcr).mono fun en w' hen => ?_
      obtain ⟨μ', σ', out, k1, k2, k3, k4⟩ := hen
      cases out with
      | ret d =>
        cases en <;> simp only [PRel] at k3 <;> (try (exact k3.elim))
        exact hn μ' _ _ σ' w' k1 ((he.mono k1).put o.dst k3) k2 k4
      | panic d =>
        cases en <;> simp only [PRel] at k3 <;> (try (exact k3.elim))
        obtain ⟨v, k5, rfl⟩ := k3
        exact hq μ' d v σ' w' k1 k5 (he.mono k1) k2 k4
    split at hr
    · rename_i g
      split at hr
      · subst hr; exact entry g rfl h
      · subst hr; exact plain h
    · subst hr; exact plain h
  · -- a method of an interface's value
    rename_i px name args ts hop
    simp only [Option.bind_eq_bind, Option.bind_eq_some_iff, Option.some.injEq] at hr
    obtain ⟨ox, h1, os, h2, rfl⟩ := hr
    simp only [iwpX] at h
    split at h <;> (try (exact h.elim))
    rename_i t d hx
    split at h <;> (try (exact h.elim))
    rename_i g hm
    obtain ⟨hg, hok⟩ := h
    have hv := ropd_sound he.tmps h1
    rw [hx] at hv
    obtain ⟨u, hu, hvu⟩ := hv.iface
    have ha := CRt.of_ops he.tmps args.toList os h2
    have hcr : CRt μ (d :: os.map (·.ev e.tmps)) (u :: args.toList.map a.eval) := by
      simp only [CRt]; exact ⟨_, _, rfl, hvu.1, hvu.2, ha⟩
    have hrun : (execOp a.eval o).run P w = .ok (.enter g ⟨u :: args.toList.map a.eval⟩) w := by
      unfold goodFn at hg
      split at hg <;> (try (cases hg; done))
      rename_i fn hfn
      simp only [Bool.and_eq_true, bne_iff_ne, ne_eq] at hg
      have hb : fn.body.isNone = false := by cases hbo : fn.body <;> simp_all
      have hme : ∀ n, (method (n + 1) t u name).run P w = .ok (g, u) w := fun n => run_method_of hm n u w
      have hd : P.types.size + Made.depth = (P.types.size + (Made.depth - 1)) + 1 := by have : Made.depth ≠ 0 := by decide
                                                                                        omega
      have hargs : (#[Value.iface t u] ++ args.map a.eval).extract 1 (#[Value.iface t u] ++ args.map a.eval).size = args.map a.eval := by
        apply Array.ext'; simp [List.take_of_length_le]
      have hfin : (#[u] ++ args.map a.eval : Array Value) = ⟨u :: args.toList.map a.eval⟩ := by
        apply Array.ext'; simp
      have h0 : (#[Value.iface t u] ++ args.map a.eval)[0]? = some (Value.iface t u) := by rw [Array.getElem?_append]; rfl
      simp only [execOp, hop, Sem.run_bind, resolve, hu, Sem.run_pure, Result.andThen_ok, invoke]
      rw [h0]
      simp only [hargs, callMethod, Sem.run_bind, run_program, Result.andThen_ok, hd, hme, callFunc, hfn]
      simp [hg.2, hb, hfin]
    rw [hrun, Oper.upon_enter]
    refine (hok μ w _ hs hcr).mono fun en w' hen => ?_
    obtain ⟨μ', σ', out, k1, k2, k3, k4⟩ := hen
    cases out with
    | ret d =>
      cases en <;> simp only [PRel] at k3 <;> (try (exact k3.elim))
      exact hn μ' _ _ σ' w' k1 ((he.mono k1).put o.dst k3) k2 k4
    | panic d =>
      cases en <;> simp only [PRel] at k3 <;> (try (exact k3.elim))
      obtain ⟨v, k5, rfl⟩ := k3
      exact hq μ' d v σ' w' k1 k5 (he.mono k1) k2 k4
  · simp only [Option.some.injEq] at hr
    subst hr
    exact h.elim
  · -- a panic
    rename_i px hop
    simp only [Option.bind_eq_bind, Option.bind_eq_some_iff, Option.some.injEq] at hr
    obtain ⟨ox, h1, rfl⟩ := hr
    simp only [iwpX] at h
    split at h <;> (try (exact h.elim))
    rename_i t d hx
    have hv := ropd_sound he.tmps h1
    rw [hx] at hv
    have hv' := hv
    obtain ⟨u, hu, _⟩ := hv.iface
    have hrun : (execOp a.eval o).run P w = .halt (.panic (a.eval px)) w := by
      simp [execOp, hop, Instr.panic, hu]
    rw [hrun, Oper.upon_panic]
    exact hq μ _ _ σ w (Mu.le.refl μ) hv' he hs h
  · -- a deferred call
    rename_i f args ts hop
    simp only [Option.bind_eq_bind, Option.bind_eq_some_iff, Option.some.injEq] at hr
    obtain ⟨of, h1, os, h2, rfl⟩ := hr
    simp only [iwpX] at h
    split at h <;> (try (exact h.elim))
    rename_i g as hc
    obtain ⟨cap, xs, hres, hcr⟩ := resolve_callee (P := P) (w := w) he.tmps h1 h2 hc
    have hrun : (execOp a.eval o).run P w = .ok (.defer { target := .fn (.func g) ⟨cap⟩, args := ⟨xs⟩ }) w := by
      simp [execOp, hop, hres]
    rw [hrun, Oper.upon_defer]
    refine hn μ _ _ σ w (Mu.le.refl μ) ?_ hs h
    refine EnvR.put (e := { e with defers := (g, as) :: e.defers }) (a := { a with defers := { target := .fn (.func g) ⟨cap⟩, args := ⟨xs⟩ } :: a.defers }) ⟨⟨he.tmps.len, he.tmps.get⟩, ?_⟩ o.dst (VR.junk _)
    exact ⟨_, _, rfl, ⟨cap, xs, rfl, hcr⟩, he.defers⟩
  · -- a value
    simp only [Option.map_eq_some_iff] at hr
    obtain ⟨io, h1, rfl⟩ := hr
    simp only [iwpX] at h
    split at h <;> (try (exact h.elim))
    rename_i d σ' hi
    obtain ⟨μ', v, w', k1, k2, k3, k4⟩ := rop_sound h1 he.tmps hs hi
    rcases k4 with k4 | ⟨k4, rfl⟩
    · rw [k4, Oper.upon_value]
      exact hn μ' _ _ σ' w' k1 ((he.mono k1).put o.dst k3) k2 h
    · rw [k4, Oper.upon_skip]
      exact hn μ' _ _ σ' w' k1 ((he.mono k1).put o.dst k3) k2 h

/-- Things that nobody needs any more may be forgotten. -/
def Drops (σ σ' : St) : Prop := σ.next ≤ σ'.next ∧ ∀ j, σ'.obj j = none ∨ σ'.obj j = σ.obj j
theorem Drops.refl (σ : St) : Drops σ σ := ⟨Nat.le_refl _, fun _ => .inr rfl⟩
theorem Sim.drops {μ : Mu} {σ σ' : St} {w : World} (h : Sim μ σ w) (d : Drops σ σ') : Sim μ σ' w where
  imm := h.imm
  obj := fun j cs hj => by
    rcases d.2 j with hn | he
    · rw [hn] at hj; cases hj
    · exact h.obj j cs (he ▸ hj)
  tok := fun j hj => by
    rcases d.2 j with hn | he
    · rw [hn] at hj; cases hj
    · exact h.tok j (he ▸ hj)
  blk := h.blk
  nxt := fun j hj => by
    obtain ⟨h1, h2, h3⟩ := h.nxt j (Nat.le_trans d.1 hj)
    refine ⟨?_, h2, h3⟩
    rcases d.2 j with hn | he
    · exact hn
    · rw [he]; exact h1
  bel := h.bel
  ty := h.tyOf (Mu.le.refl μ) (fun f j T n hf => by
    rcases d.2 f with hn | he
    · rw [hn] at hf; cases hf
    · rw [← he]; exact hf) (rows_same fun _ _ => rfl)

/-- Nothing stands behind the next number. -/
def St.Fresh (σ : St) : Prop := ∀ j, σ.next ≤ j → σ.obj j = none
theorem Ok.drop {P : Program} {f : FuncId} {args : List D} {σ : St} {Post : Out → St → Prop} (h : Ok P f args σ (fun o s => ∃ s', Drops s s' ∧ Post o s')) : Ok P f args σ Post :=
  fun μ w vs hs ha => (h μ w vs hs ha).mono fun e w' ⟨μ', σ', out, h1, h2, h3, s', h4, h5⟩ => ⟨μ', s', out, h1, h2.drops h4, h3, h5⟩
theorem Ok.fresh {P : Program} {f : FuncId} {args : List D} {σ : St} {Post : Out → St → Prop} (h : σ.Fresh → Ok P f args σ Post) : Ok P f args σ Post :=
  fun μ w vs hs ha => h (fun j hj => (hs.nxt j hj).1) μ w vs hs ha
/-- What a contract says holds, and the store behind has nothing behind its next number. -/
theorem Ok.fresh' {P : Program} {f : FuncId} {args : List D} {σ : St} {Post : Out → St → Prop} (h : Ok P f args σ Post) : Ok P f args σ (fun o s => s.Fresh ∧ Post o s) :=
  fun μ w vs hs ha => (h μ w vs hs ha).mono fun e w' ⟨μ', σ', out, h1, h2, h3, h4⟩ => ⟨μ', σ', out, h1, h2, h3, fun j hj => (h2.nxt j hj).1, h4⟩

/-- A branch that is looked into only when its test is known. -/
inductive Tg (A B : Prop) : Type
  | mk
def Br (b : Bool) (A B : Prop) (_t : Tg A B := .mk) : Prop := (b = true → A) ∧ (b = false → B)
@[congr] theorem Br.congr {b b' : Bool} {A B : Prop} (h : b = b') : Br b A B = Br b' A B := by subst h; rfl
theorem Br.tt {A B : Prop} : Br true A B = A := by simp [Br]
theorem Br.ff {A B : Prop} : Br false A B = B := by simp [Br]

/-- What a guard's slot says: an operation that was not wanted left the empty tuple there. -/
def gval (d : D) (want : Bool) : Option Bool := match d with | .bool b => some (b == want) | .tuple [] => some false | _ => none
def iwpG (P : Program) (o : IOper) (next : Env → St → Prop) (Q : IExit → Env → St → Prop) (e : Env) (σ : St) : Prop :=
  match o.guard with
  | none => iwpX P o.op o.dst next Q e σ
  | some (g, want) => match gval (e.tmps.getD g .junk) want with
    | some b => Br b (iwpX P o.op o.dst next Q e σ) (next (e.put o.dst (.tuple [])) σ)
    | none => False

def iwpOps (P : Program) : List IOper → (Env → St → Prop) → (IExit → Env → St → Prop) → Env → St → Prop
  | [], next, _, e, σ => next e σ
  | o :: os, next, Q, e, σ => iwpG P o (iwpOps P os next Q) Q e σ

theorem yielded_of {ops : Array Oper} {e : List D} {a : Act} (he : ER μ e a) {j t : Nat} (hj : (ops[j]?).bind (·.dst) = some t) {b : Bool} (hb : e.getD t .junk = .bool b) : yielded ops a.tmps j = some b := by
  have hv := he.get t
  rw [hb] at hv
  have := hv.bool
  unfold yielded
  rw [hj]
  simp only [Option.bind_some]
  rw [Array.getD_eq_getD_getElem?] at this
  cases hx : a.tmps[t]? with
  | none => rw [hx] at this; simp [undef] at this
  | some x => rw [hx] at this; simp at this; subst this; rfl

theorem wanted_of {ops : Array Oper} {o : Oper} {g : Option (Nat × Bool)} (hg : rguard ops o = some g) {e : List D} {a : Act} (he : ER μ e a) :
    match g with
    | none => Region.wanted o (yielded ops a.tmps) = true
    | some (t, want) => ∀ b, gval (e.getD t .junk) want = some b → Region.wanted o (yielded ops a.tmps) = b := by
  unfold rguard at hg
  unfold Region.wanted
  split at hg
  · rename_i hgu
    simp only [Option.some.injEq] at hg
    subst hg
    simp [hgu]
  · rename_i j b hgu
    split at hg <;> (try (cases hg; done))
    rename_i t ht
    simp only [Option.some.injEq] at hg
    subst hg
    intro b' hb'
    simp only [hgu]
    unfold gval at hb'
    split at hb' <;> simp only [Option.some.injEq, reduceCtorEq] at hb'
    · rename_i c hc
      subst hb'
      rw [yielded_of he ht hc]
      rfl
    · rename_i hc
      subst hb'
      have hv := he.get t
      rw [hc] at hv
      obtain ⟨ws, hw, hws⟩ := hv.tuple
      simp only [CRt] at hws
      subst hws
      have hy : yielded ops a.tmps j = none := by
        unfold yielded
        rw [ht]
        simp only [Option.bind_some]
        rw [Array.getD_eq_getD_getElem?] at hw
        cases hx : a.tmps[t]? with
        | none => rfl
        | some x => rw [hx] at hw; simp at hw; subst hw; rfl
      rw [hy]
      rfl

theorem VR.undef {μ : Mu} : VR μ (.tuple []) Go.undef := VR.mk_tuple (vs := []) (by simp only [CRt])

theorem iwpOps_sound {pol : TypeId → Bool} {ops : Array Oper} {next : Env → St → Prop} {Q : IExit → Env → St → Prop} {Q' : Exit → Act → World → Prop} :
    ∀ (l : List Nat) (ios : List IOper), l.mapM (rxAt P pol ops) = some ios → ∀ (μ : Mu) (e : Env) (a : Act) (σ : St) (w : World), EnvR μ e a → Sim μ σ w → iwpOps P ios next Q e σ →
    (∀ μ' e' a' σ' w', μ.le μ' → EnvR μ' e' a' → Sim μ' σ' w' → next e' σ' → Q' .normal a' w') →
    (∀ μ' d v e' a' σ' w', μ.le μ' → VR μ' d v → EnvR μ' e' a' → Sim μ' σ' w' → Q (.panic d) e' σ' → Q' (.panic [{ v, recovered := false }]) a' w') →
    wpOps P ops Q' l a w
  | [], ios, h, μ, e, a, σ, w, he, hs, hi, hn, hq => by
    simp at h; subst h
    exact hn μ e a σ w (Mu.le.refl μ) he hs hi
  | i :: l, ios, h, μ, e, a, σ, w, he, hs, hi, hn, hq => by
    simp only [List.mapM_cons, Option.bind_eq_bind, Option.bind_eq_some_iff, Option.pure_def, Option.some.injEq] at h
    obtain ⟨io, h1, ios', h2, rfl⟩ := h
    simp only [rxAt, Option.bind_eq_bind, Option.bind_eq_some_iff, Option.some.injEq] at h1
    obtain ⟨o, ho, x, hx, g, hg, rfl⟩ := h1
    have hw := wanted_of hg he.tmps
    simp only [iwpOps, iwpG] at hi
    simp only [wpOps, ho]
    have run : iwpX P x o.dst (iwpOps P ios' next Q) Q e σ → o.wp P a w (wpOps P ops Q' l) Q' := fun hh =>
      iwpX_sound hx he hs hh
        (fun μ' e' a' σ' w' k1 k2 k3 k4 => iwpOps_sound l ios' h2 μ' e' a' σ' w' k2 k3 k4 (fun _ _ _ _ _ q1 => hn _ _ _ _ _ (k1.trans q1)) (fun _ _ _ _ _ _ _ q1 => hq _ _ _ _ _ _ _ (k1.trans q1)))
        (fun μ' d v σ' w' k1 k2 k3 k4 k5 => hq μ' d v e a σ' w' k1 k2 k3 k4 k5)
    cases g with
    | none =>
      simp only at hw hi
      rw [hw, if_pos rfl]
      exact .inl (run hi)
    | some gw =>
      obtain ⟨t, want⟩ := gw
      simp only at hw hi
      split at hi <;> (try (exact hi.elim))
      rename_i b hb
      rw [hw b hb]
      cases b with
      | false =>
        simp only [Bool.false_eq_true, if_false]
        exact iwpOps_sound l ios' h2 μ _ _ σ w (he.put o.dst VR.undef) hs (hi.2 rfl) hn hq
      | true =>
        simp only [if_true]
        exact .inl (run (hi.1 rfl))

end
/-! The equations, made here once for all texts behind. -/
example := @Env.put.eq_1
example := @calleeOf.eq_1

end Go.Id

/-
  THE IDEAL LAYER, PART L: a region whose order is open.
  'Movable' operations only look; they are taken as early as may be. The others ('barriers') come one behind the other.
  What a movable load saw must still be so behind each barrier that need not wait for it.
-/
namespace Go.Id
open Go.RowKit
set_option linter.unusedVariables false
set_option linter.unusedSimpArgs false

/-! What is before what. -/
def bef (ops : Array Oper) (i j : Nat) : Bool := ((Region.before ops).getD i 0).testBit j

theorem push_spec (f : Array Nat → Oper → Nat) : ∀ (l : List Oper) (acc : Array Nat) (i : Nat) (o : Oper), l[i]? = some o →
    ∃ acc' : Array Nat, (l.foldl (fun acc o => acc.push (f acc o)) acc)[acc.size + i]? = some (f acc' o) ∧ acc'.size = acc.size + i ∧
      (∀ k, k < acc'.size → acc'[k]? = (l.foldl (fun acc o => acc.push (f acc o)) acc)[k]?)
  | [], acc, i, o, h => by simp at h
  | x :: l, acc, i, o, h => by
    have keep : ∀ (l : List Oper) (acc : Array Nat) (k : Nat), k < acc.size → (l.foldl (fun acc o => acc.push (f acc o)) acc)[k]? = acc[k]? := by
      intro l
      induction l with
      | nil => intro acc k _; rfl
      | cons y l ih =>
        intro acc k hk
        simp only [List.foldl_cons]
        rw [ih _ k (by simp; omega), Array.getElem?_push, if_neg (by omega)]
    cases i with
    | zero =>
      simp only [List.getElem?_cons_zero, Option.some.injEq] at h
      subst h
      refine ⟨acc, ?_, by simp, fun k hk => ?_⟩
      · simp only [List.foldl_cons, Nat.add_zero]
        rw [keep _ _ _ (by simp), Array.getElem?_push, if_pos rfl]
      · simp only [List.foldl_cons]
        rw [keep _ _ _ (by simp; omega), Array.getElem?_push, if_neg (by omega)]
    | succ i =>
      obtain ⟨acc', h1, h2, h3⟩ := push_spec f l (acc.push (f acc x)) i o (by simpa using h)
      simp only [Array.size_push] at h1 h2
      refine ⟨acc', ?_, by omega, fun k hk => ?_⟩
      · simp only [List.foldl_cons]
        rw [show acc.size + (i + 1) = acc.size + 1 + i by omega]
        exact h1
      · simp only [List.foldl_cons]
        exact h3 k hk

theorem before_spec (ops : Array Oper) {i j : Nat} (h : bef ops i j = true) :
    ∃ o e, ops[i]? = some o ∧ e ∈ o.after ∧ Region.binds .any e = true ∧ (e.on = j ∨ e.on < i ∧ bef ops e.on j = true) := by
  unfold bef at h
  cases ho : ops[i]? with
  | none =>
    exfalso
    have hsz : ∀ (l : List Oper) (acc : Array Nat), (l.foldl (fun acc o => acc.push (o.after.foldl (fun s e => if Region.binds .any e then s ||| 2 ^ e.on ||| acc.getD e.on 0 else s) 0)) acc).size = acc.size + l.length := by
      intro l
      induction l with
      | nil => intro acc; rfl
      | cons y l ih => intro acc; simp only [List.foldl_cons, ih, Array.size_push, List.length_cons]; omega
    have : (Region.before ops).size = ops.size := by
      unfold Region.before
      rw [← Array.foldl_toList, hsz]
      simp
    rw [Array.getD_eq_getD_getElem?, Array.getElem?_eq_none (by rw [this]; exact Array.getElem?_eq_none_iff.1 ho)] at h
    simp at h
  | some o =>
    obtain ⟨acc', h1, h2, h3⟩ := push_spec (fun acc o => o.after.foldl (fun s e => if Region.binds .any e then s ||| 2 ^ e.on ||| acc.getD e.on 0 else s) 0) ops.toList #[] i o (by simpa using ho)
    have hb : Region.before ops = ops.toList.foldl (fun acc o => acc.push (o.after.foldl (fun s e => if Region.binds .any e then s ||| 2 ^ e.on ||| acc.getD e.on 0 else s) 0)) #[] := by
      unfold Region.before
      rw [← Array.foldl_toList]
    rw [← hb] at h1 h3
    simp only [List.size_toArray, List.length_nil, Nat.zero_add] at h1 h2
    rw [Array.getD_eq_getD_getElem?, h1] at h
    simp only [Option.getD_some] at h
    have key : ∀ (l : List Edge) (s : Nat), (l.foldl (fun s e => if Region.binds .any e then s ||| 2 ^ e.on ||| acc'.getD e.on 0 else s) s).testBit j = true →
        s.testBit j = true ∨ ∃ e ∈ l, Region.binds .any e = true ∧ (e.on = j ∨ (acc'.getD e.on 0).testBit j = true) := by
      intro l
      induction l with
      | nil => intro s hs; exact .inl hs
      | cons e l ih =>
        intro s hs
        simp only [List.foldl_cons] at hs
        rcases ih _ hs with hs | ⟨e', he', h'⟩
        · split at hs
          · rename_i hbd
            simp only [Nat.testBit_or, Bool.or_eq_true] at hs
            rcases hs with (hs | hs) | hs
            · exact .inl hs
            · refine .inr ⟨e, by simp, hbd, .inl ?_⟩
              rw [Nat.testBit_two_pow] at hs
              simpa using hs
            · exact .inr ⟨e, by simp, hbd, .inr hs⟩
          · exact .inl hs
        · exact .inr ⟨e', by simp [he'], h'⟩
    rw [← Array.foldl_toList] at h
    rcases key _ _ h with hz | ⟨e, he, hbd, hor⟩
    · simp at hz
    · refine ⟨o, e, rfl, by simpa using he, hbd, ?_⟩
      rcases hor with hor | hor
      · exact .inl hor
      · right
        have hlt : e.on < acc'.size := by
          rcases Nat.lt_or_ge e.on acc'.size with hh | hh
          · exact hh
          · rw [Array.getD_eq_getD_getElem?, Array.getElem?_eq_none hh] at hor; simp at hor
        refine ⟨by omega, ?_⟩
        unfold bef
        rw [Array.getD_eq_getD_getElem?] at hor ⊢
        rw [← h3 _ hlt]
        exact hor

/-- What an operation reads. -/
def Opd.reads : Opd → List Nat
  | .t n => [n]
  | .c _ => []
def oreads : Option Opd → List Nat
  | none => []
  | some x => x.reads

def IOp.reads : IOp → List Nat
  | .mov x | .box x | .boxV x | .load _ x | .nilCheck x | .un _ x | .toInt _ x | .toStr x | .mkIface _ x | .fieldAddr _ x | .field _ _ x | .extract _ x | .lenStr x | .lenSlc x | .assert _ _ x | .bytesStr x | .toUns x | .ofUns _ x | .sliceData x | .boxT _ x | .nilMeth _ x => x.reads
  | .pick c a b => c.reads ++ (a.reads ++ b.reads)
  | .alloc _ => []
  | .allocT _ _ => []
  | .build _ ps => ps.flatMap fun p => p.2.2.reads
  | .buildSlice _ ps => ps.flatMap Opd.reads
  | .store _ a x | .bin _ a x | .eq _ _ a x | .idxAddrS _ a x | .idxAddrA _ _ a x | .idxStr a x | .idxArr _ _ _ a x | .mm _ a x | .appendT _ _ _ a x | .unsStr _ a x | .append _ _ a x | .appendR _ _ a x => a.reads ++ x.reads
  | .mkFunc _ f c => f.flatMap Opd.reads ++ c.flatMap Opd.reads
  | .sliceArr _ _ x l h => x.reads ++ (oreads l ++ oreads h)
  | .sliceStr x l h => x.reads ++ (oreads l ++ oreads h)
  | .sliceSlc _ x l h m => x.reads ++ (oreads l ++ (oreads h ++ oreads m))

def IXop.reads : IXop → List Nat
  | .v o => o.reads
  | .call f args | .defer f args => f.reads ++ args.flatMap Opd.reads
  | .panic x => x.reads
  | .recover => []
  | .ext _ args => args.flatMap Opd.reads
  | .inv x _ args => x.reads ++ args.flatMap Opd.reads

def IOper.reads (o : IOper) : List Nat := o.op.reads ++ (match o.guard with | some (g, _) => [g] | none => [])

/-- Does it only look? -/
def IOp.looks : IOp → Bool
  | .alloc _ | .box _ | .store _ _ _ | .append _ _ _ _ | .appendR _ _ _ _ | .bytesStr _ | .allocT _ _ | .boxT _ _ | .appendT _ _ _ _ _ | .toUns _ | .ofUns _ _ | .unsStr _ _ _ => false
  | _ => true
def IXop.looks : IXop → Bool
  | .v o => o.looks
  | _ => false

theorem Opd.ev_congr {x : Opd} {e e' : List D} (h : ∀ n ∈ x.reads, e.getD n .junk = e'.getD n .junk) : x.ev e = x.ev e' := by
  cases x with
  | t n => exact h n (by simp [Opd.reads])
  | c d => rfl
theorem evO_congr {x : Option Opd} {e e' : List D} (h : ∀ n ∈ oreads x, e.getD n .junk = e'.getD n .junk) : evO e x = evO e' x := by
  cases x with
  | none => rfl
  | some x => simp only [evO, Opd.ev_congr (x := x) h]
theorem evs_congr {xs : List Opd} {e e' : List D} (h : ∀ n ∈ xs.flatMap Opd.reads, e.getD n .junk = e'.getD n .junk) : xs.map (·.ev e) = xs.map (·.ev e') :=
  List.map_congr_left fun x hx => Opd.ev_congr fun n hn => h n (List.mem_flatMap.2 ⟨x, hx, hn⟩)

theorem iop_congr {o : IOp} {e e' : List D} {σ : St} (h : ∀ n ∈ o.reads, e.getD n .junk = e'.getD n .junk) : iop o e σ = iop o e' σ := by
  cases o <;> simp only [IOp.reads, List.mem_append] at h <;> simp only [iop] <;> first
    | rw [Opd.ev_congr h]
    | (rename_i c a b; rw [Opd.ev_congr (x := c) (fun n hn => h n (.inl hn)), Opd.ev_congr (x := a) (fun n hn => h n (.inr (.inl hn))), Opd.ev_congr (x := b) (fun n hn => h n (.inr (.inr hn)))])
    | (rename_i x l hh; rw [Opd.ev_congr (x := x) (fun n hn => h n (.inl hn)), evO_congr (x := l) (fun n hn => h n (.inr (.inl hn))), evO_congr (x := hh) (fun n hn => h n (.inr (.inr hn)))])
    | (rename_i x l hh m; rw [Opd.ev_congr (x := x) (fun n hn => h n (.inl hn)), evO_congr (x := l) (fun n hn => h n (.inr (.inl hn))), evO_congr (x := hh) (fun n hn => h n (.inr (.inr (.inl hn)))), evO_congr (x := m) (fun n hn => h n (.inr (.inr (.inr hn))))])
    | (rename_i f c; rw [evs_congr (xs := f) (fun n hn => h n (.inl hn)), evs_congr (xs := c) (fun n hn => h n (.inr hn))])
    | (rename_i ps; rw [show (ps.map fun p => (p.1, p.2.1, p.2.2.ev e)) = (ps.map fun p => (p.1, p.2.1, p.2.2.ev e')) from List.map_congr_left fun p hp => by rw [Opd.ev_congr (x := p.2.2) (fun n hn => h n (List.mem_flatMap.2 ⟨p, hp, hn⟩))]])
    | (rename_i sz ps; rw [evs_congr (xs := ps) h])
    | (rename_i a x; rw [Opd.ev_congr (x := a) (fun n hn => h n (.inl hn)), Opd.ev_congr (x := x) (fun n hn => h n (.inr hn))])
    | rfl

/-- What only looks leaves the store as it is. -/
theorem looks_store {o : IOp} (ho : o.looks = true) {e : List D} {σ σ' : St} {d : D} (h : iop o e σ = some (d, σ')) : σ' = σ := by
  cases o <;> simp only [IOp.looks, Bool.false_eq_true] at ho <;> simp only [iop] at h <;> (repeat' (split at h)) <;> (try (cases h; done)) <;>
    (simp only [Option.some.injEq, Prod.mk.injEq] at h; exact h.2.symm)

/-- And, but for a load, it asks nothing of the store. -/
theorem looks_any {o : IOp} (ho : o.looks = true) (hl : ∀ n x, o ≠ .load n x) {e : List D} {σ σ' : St} {d : D} (h : iop o e σ = some (d, σ)) : iop o e σ' = some (d, σ') := by
  cases o <;> simp only [IOp.looks, Bool.false_eq_true] at ho <;> (try (exact absurd rfl (hl _ _))) <;> simp only [iop] at h ⊢ <;> (repeat' (split at h)) <;> (try (cases h; done)) <;> simp_all

end Go.Id

/-
  THE IDEAL LAYER, PART M: a region whose order is open, taken by a plan.
-/
namespace Go.Id
open Go.RowKit
set_option linter.unusedVariables false
set_option linter.unusedSimpArgs false

def Env.junks (e : Env) (ts : List Nat) : Env := { e with tmps := e.tmps.mapIdx fun i d => if ts.contains i then .junk else d }

theorem junks_getD (e : Env) (ts : List Nat) (n : Nat) : (e.junks ts).tmps.getD n .junk = if ts.contains n then .junk else e.tmps.getD n .junk := by
  simp only [Env.junks, List.getD_eq_getElem?_getD, List.getElem?_mapIdx]
  cases h : e.tmps[n]? with
  | none => simp
  | some d => simp

/-- An environment that knows less. -/
structure Less (e₀ e : Env) : Prop where
  len : e₀.tmps.length = e.tmps.length
  get : ∀ n, e₀.tmps.getD n .junk = .junk ∨ e₀.tmps.getD n .junk = e.tmps.getD n .junk
  defers : e₀.defers = e.defers

theorem Less.refl (e : Env) : Less e e := ⟨rfl, fun _ => .inr rfl, rfl⟩

theorem EnvR.less {μ : Mu} {e₀ e : Env} {a : Act} (h : Less e₀ e) (x : EnvR μ e a) : EnvR μ e₀ a := by
  refine ⟨⟨h.len.trans x.tmps.len, fun n => ?_⟩, by rw [h.defers]; exact x.defers⟩
  rcases h.get n with hj | hj <;> rw [hj]
  · exact VR.junk _
  · exact x.tmps.get n

theorem put_getD (e : Env) (dst : Option Nat) (d : D) (n : Nat) : (e.put dst d).tmps.getD n .junk = if dst = some n ∧ n < e.tmps.length then d else e.tmps.getD n .junk := by
  cases dst with
  | none => simp [Env.put]
  | some t =>
    simp only [Env.put, List.getD_eq_getElem?_getD, List.getElem?_set]
    by_cases h : t = n
    · subst h
      by_cases hl : t < e.tmps.length
      · simp [hl]
      · simp [hl]
    · simp [h]

theorem put_len (e : Env) (dst : Option Nat) (d : D) : (e.put dst d).tmps.length = e.tmps.length := by
  cases dst <;> simp [Env.put]
theorem put_defers (e : Env) (dst : Option Nat) (d : D) : (e.put dst d).defers = e.defers := by
  cases dst <;> rfl

def dstv (o : IOper) (e : Env) : D :=
  match o.dst with
  | some t => e.tmps.getD t .junk
  | none => .junk

/-- What a looking operation gives. -/
def pval (o : IOper) (e : Env) (σ : St) : Option D :=
  match o.guard with
  | none => match o.op with
    | .v io => match iop io e.tmps σ with
      | some (d, _) => some d
      | none => none
    | _ => none
  | some (g, want) => match gval (e.tmps.getD g .junk) want with
    | some b => if b then (match o.op with
      | .v io => match iop io e.tmps σ with
        | some (d, _) => some d
        | none => none
      | _ => none) else some (.tuple [])
    | none => none

/-- A load that was taken early sees still what it saw. -/
def Still (o : IOper) (e : Env) (σ : St) : Prop :=
  match o.op with
  | .v (.load n x) => match o.guard with
    | none => iload n (x.ev e.tmps) σ = some (dstv o e)
    | some (g, want) => match gval (e.tmps.getD g .junk) want with
      | some b => b = true → iload n (x.ev e.tmps) σ = some (dstv o e)
      | none => True
  | _ => True

def Stills (ios : List IOper) : List Nat → Env → St → Prop
  | [], _, _ => True
  | j :: r, e, σ => (match ios[j]? with | some o => Still o e σ | none => True) ∧ Stills ios r e σ

def iwpPlan (P : Program) (ios : List IOper) (alld : List Nat) (next : Env → St → Prop) (Q : IExit → Env → St → Prop) : List (Nat × Option (List Nat)) → Env → St → Prop
  | [], e, σ => next e σ
  | (i, none) :: π, e, σ => match ios[i]? with
    | some o => iwpG P o (iwpPlan P ios alld next Q π) (fun _ _ _ => False) e σ
    | none => False
  | (i, some must) :: π, e, σ => match ios[i]? with
    | some o => iwpG P o (fun e' σ' => Stills ios must e' σ' ∧ iwpPlan P ios alld next Q π e' σ') (fun x e' σ' => Q x (e'.junks alld) σ') e σ
    | none => False

def dstIn (o : IOper) (l : List Nat) : Bool :=
  match o.dst with
  | some t => l.contains t
  | none => false

def shares (o q : IOper) : Bool := dstIn q o.reads || dstIn o q.reads || (match o.dst, q.dst with | some a, some b => a == b | _, _ => false)

def isLoad (o : IOper) : Bool := match o.op with | .v (.load _ _) => true | _ => false

def isBarrier (o : IOper) : Bool := match o.op with | .v _ | .call _ _ | .panic _ | .ext _ _ | .inv _ _ _ => true | _ => false

/-- The plan is sound: see the head of this text and of the one before. -/
def sufOk (ops : Array Oper) (ios : List IOper) (alld : List Nat) : List Nat → List Nat → List (Nat × Option (List Nat)) → Bool
  | _, _, [] => true
  | done, held, (i, b) :: rest =>
    (match ops[i]?, ios[i]? with
    | some ro, some o =>
      ro.after.all (fun e => !Region.binds .any e || done.contains e.on) &&
      (match o.dst with | some t => alld.contains t | none => true) &&
      (match b with
        | none => o.op.looks && o.dst.isSome && !dstIn o o.reads && rest.all (fun q => match ios[q.1]? with
            | some oq => (match q.2 with
              | none => !dstIn oq o.reads && o.dst != oq.dst && (!dstIn o oq.reads || bef ops q.1 i)
              | some _ => !shares o oq || bef ops q.1 i)
            | none => false)
        | some must => isBarrier o && rest.all (fun q => bef ops q.1 i) && held.all (fun j => bef ops i j || must.contains j || (match ios[j]? with | some oj => !isLoad oj | none => false)))
    | _, _ => false) &&
    rest.all (fun q => q.1 != i) &&
    sufOk ops ios alld (i :: done) (match b with | none => i :: held | some _ => held) rest

section
variable {P : Program} {pol : TypeId → Bool} {ops : Array Oper} {ios : List IOper} {alld : List Nat}

/-- What 'sufOk' says of one place of the plan. -/
theorem sufOk_at : ∀ (A : List (Nat × Option (List Nat))) (i : Nat) (b : Option (List Nat)) (B : List (Nat × Option (List Nat))) (done held : List Nat), sufOk ops ios alld done held (A ++ (i, b) :: B) = true →
    sufOk ops ios alld ((A.map (·.1)).reverse ++ done) ((A.filterMap fun q => match q.2 with | none => some q.1 | some _ => none).reverse ++ held) ((i, b) :: B) = true ∧ ∀ q ∈ A, q.1 ≠ i
  | [], i, b, B, done, held, h => ⟨by simpa using h, by simp⟩
  | (k, c) :: A, i, b, B, done, held, h => by
    simp only [List.cons_append, sufOk, Bool.and_eq_true] at h
    obtain ⟨⟨h1, h2⟩, h3⟩ := h
    obtain ⟨g1, g2⟩ := sufOk_at A i b B _ _ h3
    refine ⟨?_, fun q hq => ?_⟩
    · cases c <;> simpa using g1
    · rcases List.mem_cons.1 hq with rfl | hq
      · have := List.all_eq_true.1 h2 (i, b) (by simp)
        simp only [bne_iff_ne, ne_eq] at this
        exact fun hh => this hh.symm
      · exact g2 q hq

theorem iwpG_looks {o : IOper} (hl : o.op.looks = true) {next : Env → St → Prop} {Q : IExit → Env → St → Prop} {e : Env} {σ : St} (h : iwpG P o next Q e σ) :
    ∃ d, pval o e σ = some d ∧ next (e.put o.dst d) σ := by
  obtain ⟨dst, op, guard⟩ := o
  cases op <;> simp [IXop.looks] at hl
  rename_i io
  have run : iwpX P (.v io) dst next Q e σ → ∃ d, (match iop io e.tmps σ with | some (d, _) => some d | none => none) = some d ∧ next (e.put dst d) σ := by
    intro hx
    simp only [iwpX] at hx
    split at hx <;> (try (exact hx.elim))
    rename_i d σ' hi
    obtain rfl := looks_store hl hi
    exact ⟨d, by first | rfl | rw [hi], hx⟩
  simp only [iwpG] at h
  unfold pval
  split at h
  · exact run h
  · split at h <;> (try (exact h.elim))
    rename_i g want x b hb
    simp only [hb]
    cases b with
    | false =>
      simp only [Bool.false_eq_true, if_false]
      exact ⟨_, rfl, h.2 rfl⟩
    | true =>
      simp only [if_true]
      exact run (h.1 rfl)

theorem pval_congr {o : IOper} (hl : o.op.looks = true) {e e' : Env} {σ : St} (h : ∀ n ∈ o.reads, e.tmps.getD n .junk = e'.tmps.getD n .junk) : pval o e σ = pval o e' σ := by
  obtain ⟨dst, op, guard⟩ := o
  cases op <;> simp [IXop.looks] at hl
  rename_i io
  simp only [IOper.reads, IXop.reads, List.mem_append] at h
  have h1 : iop io e.tmps σ = iop io e'.tmps σ := iop_congr fun n hn => h n (.inl hn)
  unfold pval
  simp only [h1]
  cases guard with
  | none => rfl
  | some gw =>
    obtain ⟨g, want⟩ := gw
    simp only [h g (.inr (by simp))]

/-- Behind a barrier. -/
theorem pval_still {o : IOper} (hl : o.op.looks = true) {e : Env} {σ σ' : St} (h : pval o e σ = some (dstv o e)) (hs : isLoad o = true → Still o e σ') : pval o e σ' = some (dstv o e) := by
  obtain ⟨dst, op, guard⟩ := o
  cases op <;> simp [IXop.looks] at hl
  rename_i io
  by_cases hld : ∃ n x, io = .load n x
  · obtain ⟨n, x, rfl⟩ := hld
    have hst := hs rfl
    simp only [Still] at hst
    unfold pval at h ⊢
    cases guard with
    | none => simp only [iop] at hst ⊢; rw [hst]
    | some gw =>
      obtain ⟨g, want⟩ := gw
      simp only at h hst ⊢
      split at h <;> (try (cases h; done))
      rename_i b hb
      simp only [hb] at hst ⊢
      cases b with
      | false => simpa using h
      | true =>
        simp only [if_true, iop]
        rw [hst rfl]
  · have hne : ∀ n x, io ≠ .load n x := fun n x hh => hld ⟨n, x, hh⟩
    have key : ∀ d, (match iop io e.tmps σ with | some (d, _) => some d | none => none) = some d → (match iop io e.tmps σ' with | some (d, _) => some d | none => none) = some d := by
      intro d hd
      split at hd <;> (try (cases hd; done))
      rename_i d' σ₁ hi
      simp only [Option.some.injEq] at hd
      subst hd
      obtain rfl := looks_store hl hi
      rw [looks_any hl hne hi]
    unfold pval at h ⊢
    cases guard with
    | none => exact key _ h
    | some gw =>
      obtain ⟨g, want⟩ := gw
      simp only at h ⊢
      cases hb : gval (e.tmps.getD g .junk) want <;> simp only [hb] at h ⊢ <;> (try (cases h; done))
      rename_i b
      cases b with
      | false => simpa using h
      | true =>
        simp only [if_true] at h ⊢
        exact key _ h

theorem iwpX_congr {x : IXop} (hb : (match x with | .v _ | .call _ _ | .panic _ | .ext _ _ | .inv _ _ _ => true | _ => false) = true) {dst : Option Nat} {next : Env → St → Prop} {Q : IExit → Env → St → Prop} {e e' : Env} {σ : St}
    (h : ∀ n ∈ x.reads, e.tmps.getD n .junk = e'.tmps.getD n .junk) (hi : iwpX P x dst next Q e σ) :
    iwpX P x dst (fun e₁ σ₁ => ∃ d, e₁ = e'.put dst d ∧ next (e.put dst d) σ₁) (fun y e₁ σ₁ => e₁ = e' ∧ Q y e σ₁) e' σ := by
  cases x <;> simp at hb
  · rename_i io
    simp only [iwpX, ← iop_congr (o := io) h] at hi ⊢
    split at hi <;> (try (exact hi.elim))
    exact ⟨_, rfl, hi⟩
  · rename_i f args
    simp only [IXop.reads, List.mem_append] at h
    simp only [iwpX, ← Opd.ev_congr (x := f) (fun n hn => h n (.inl hn)), ← evs_congr (xs := args) (fun n hn => h n (.inr hn))] at hi ⊢
    split at hi <;> (try (exact hi.elim))
    refine ⟨hi.1, hi.2.mono fun out σ₁ hh => ?_⟩
    cases out with
    | ret d => exact ⟨_, rfl, hh⟩
    | panic d => exact ⟨trivial, hh⟩
  · rename_i px
    simp only [iwpX, ← Opd.ev_congr (x := px) h] at hi ⊢
    split at hi <;> (try (exact hi.elim))
    exact ⟨trivial, hi⟩
  · rename_i g args
    simp only [IXop.reads] at h
    simp only [iwpX, ← evs_congr (xs := args) h] at hi ⊢
    exact hi.mono fun d s hh => ⟨_, rfl, hh⟩
  · rename_i y name args
    simp only [IXop.reads, List.mem_append] at h
    simp only [iwpX, ← Opd.ev_congr (x := y) (fun n hn => h n (.inl hn)), ← evs_congr (xs := args) (fun n hn => h n (.inr hn))] at hi ⊢
    split at hi <;> (try (exact hi.elim))
    split at hi <;> (try (exact hi.elim))
    refine ⟨hi.1, hi.2.mono fun out σ₁ hh => ?_⟩
    cases out with
    | ret d => exact ⟨_, rfl, hh⟩
    | panic d => exact ⟨trivial, hh⟩

theorem Stills.get : ∀ {must : List Nat} {e : Env} {σ : St}, Stills ios must e σ → ∀ {j : Nat} {o : IOper}, j ∈ must → ios[j]? = some o → Still o e σ
  | [], _, _, _, _, _, hj, _ => by cases hj
  | k :: r, e, σ, h, j, o, hj, ho => by
    obtain ⟨h1, h2⟩ := h
    rcases List.mem_cons.1 hj with rfl | hj
    · rw [ho] at h1; exact h1
    · exact Stills.get h2 hj ho

/-- The state of a run in the middle of the region: 'C' is what the plan has taken; of it what is not 'listed' the run has still to do. -/
structure Mid (ops : Array Oper) (ios : List IOper) (C : List (Nat × Option (List Nat))) (listed : Array Bool) (μ : Mu) (e : Env) (a : Act) (σ : St) : Prop where
  size : listed.size = ops.size
  inC : ∀ j, listed.getD j false = true → ∃ b, (j, b) ∈ C
  down : ∀ j k, listed.getD j false = true → bef ops j k = true → listed.getD k false = true
  bars : ∀ j must, (j, some must) ∈ C → listed.getD j false = true
  vals : ∀ j, (j, none) ∈ C → listed.getD j false = false → ∃ o, ios[j]? = some o ∧ o.op.looks = true ∧ pval o e σ = some (dstv o e) ∧ (∀ t, o.dst = some t → t < e.tmps.length)
  env : ∃ pd : List Nat, (∀ t, t ∈ pd → ∃ j o, (j, none) ∈ C ∧ listed.getD j false = false ∧ ios[j]? = some o ∧ o.dst = some t) ∧
    (∀ j o t, (j, none) ∈ C → listed.getD j false = false → ios[j]? = some o → o.dst = some t → t ∈ pd) ∧ EnvR μ (e.junks pd) a

end
/-! The equations, made here once for all texts behind. -/
example := @Env.junks.eq_1
example := @dstv.eq_1
example := @Still.eq_1
example := @Stills.eq_1

end Go.Id
