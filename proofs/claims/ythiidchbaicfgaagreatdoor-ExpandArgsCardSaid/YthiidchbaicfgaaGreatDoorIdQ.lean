/-
  THE IDEAL LAYER, PART P: functions and their deferred calls.
-/
import Derived.Test.YthiidchbaicfgaaGreatDoorIdO
namespace Go.Id
open Go.RowKit
set_option linter.unusedVariables false
set_option linter.unusedSimpArgs false

inductive IRes where
  | tmp (t : Nat)
  | cell (a : Nat) (n : Option Nat)

def rres (P : Program) : ResultVar → Option IRes
  | .tmp t => some (.tmp t)
  | .cell a t => (aggN P t).map (.cell a)

def iresults (e : List D) (σ : St) : List IRes → Option (List D)
  | [] => some []
  | .tmp t :: r => match iresults e σ r with
    | some ds => some (e.getD t .junk :: ds)
    | none => none
  | .cell a n :: r => match iload n (e.getD a .junk) σ, iresults e σ r with
    | some d, some ds => some (d :: ds)
    | _, _ => none

def resD : List D → D
  | [d] => d
  | ds => .tuple ds

/-- What a frame is at when its deferred calls are made. -/
inductive Mode where
  | returning
  | panicking (d : D)

def ModeR (μ : Mu) : Mode → FrameMode → Prop
  | .returning, .returning => True
  | .panicking d, .panicking chain => ∃ v, VR μ d v ∧ chain = [{ v, recovered := false }]
  | _, _ => False

theorem ModeR.mono {μ ν : Mu} (h : μ.le ν) {m : Mode} {u : FrameMode} (x : ModeR μ m u) : ModeR ν m u := by
  cases m <;> cases u <;> simp only [ModeR] at x ⊢
  obtain ⟨v, h1, h2⟩ := x
  exact ⟨v, h1.mono h, h2⟩

/-- A deferred function's contract: it returns; the frame's mode behind it is m'. -/
def OkD (P : Program) (f : FuncId) (args : List D) (m : Mode) (σ : St) (R : Mode → St → Prop) : Prop :=
  ∀ (μ : Mu) (w : World) (vs : List Value) (u : FrameMode), Sim μ σ w → CRt μ args vs → ModeR μ m u →
    CallsD P f ⟨vs⟩ u w fun e u' w' => ∃ μ' σ' m', μ.le μ' ∧ Sim μ' σ' w' ∧ (∃ v, e = .returned v) ∧ ModeR μ' m' (settle u') ∧ R m' σ'

theorem OkD.mono {P : Program} {f : FuncId} {args : List D} {m : Mode} {σ : St} {R R' : Mode → St → Prop} (h : OkD P f args m σ R) (hr : ∀ m s, R m s → R' m s) : OkD P f args m σ R' :=
  fun μ w vs u hs ha hm => (h μ w vs u hs ha hm).mono fun e u' w' ⟨μ', σ', m', h1, h2, h3, h4, h5⟩ => ⟨μ', σ', m', h1, h2, h3, h4, hr _ _ h5⟩

@[congr] theorem OkD.congr {P : Program} {f f' : FuncId} {args args' : List D} {m m' : Mode} {σ σ' : St} {R : Mode → St → Prop} (h1 : f = f') (h2 : args = args') (h3 : m = m') (h4 : σ = σ') : OkD P f args m σ R = OkD P f' args' m' σ' R := by
  subst h1; subst h2; subst h3; subst h4; rfl

/-- A frame leaves: its deferred calls, then its results. -/
def ILeaves (P : Program) (ires : List IRes) (tmps : List D) (Post : Out → St → Prop) : List (FuncId × List D) → Mode → St → Prop
  | [], .returning, σ => match iresults tmps σ ires with
    | some ds => Post (.ret (resD ds)) σ
    | none => False
  | [], .panicking d, σ => Post (.panic d) σ
  | (f, as) :: ds, m, σ => goodFn P f = true ∧ OkD P f as m σ (ILeaves P ires tmps Post ds)

def bodyQ (P : Program) (ires : List IRes) (Post : Out → St → Prop) : IExit → Env → St → Prop
  | .normal, e, σ => ILeaves P ires e.tmps Post e.defers .returning σ
  | .ret, e, σ => ILeaves P ires e.tmps Post e.defers .returning σ
  | .panic d, e, σ => ILeaves P ires e.tmps Post e.defers (.panicking d) σ
  | .exit _, _, _ => False

/-- What 'recover()' tells. -/
def modeD : Mode → D
  | .panicking d => d
  | .returning => .nili

def resVal (tmps : Array Value) : ResultVar → Sem Value
  | .tmp t => pure (tmps.getD t undef)
  | .cell a t => do loadVar t (← asAddr (tmps.getD a undef))

section
variable {P : Program}

theorem iresults_sound {μ : Mu} {σ : St} {w : World} (hs : Sim μ σ w) {e : List D} {tmps : Array Value} (he : ∀ n, VR μ (e.getD n .junk) (tmps.getD n undef)) : ∀ (rs : List ResultVar) (ir : List IRes), rs.mapM (rres P) = some ir →
    ∀ ds, iresults e σ ir = some ds → ∃ vs, (rs.mapM (resVal tmps) : Sem (List Value)).run P w = .ok vs w ∧ CRt μ ds vs
  | [], ir, h, ds, hd => by
    simp at h; subst h
    simp only [iresults, Option.some.injEq] at hd; subst hd
    exact ⟨[], by simp, by simp [CRt]⟩
  | r :: rs, ir, h, ds, hd => by
    simp only [List.mapM_cons, Option.bind_eq_bind, Option.bind_eq_some_iff, Option.pure_def, Option.some.injEq] at h
    obtain ⟨i, h1, ir', h2, rfl⟩ := h
    cases r with
    | tmp t =>
      simp only [rres, Option.some.injEq] at h1
      subst h1
      simp only [iresults] at hd
      split at hd <;> (try (cases hd; done))
      rename_i ds' hds
      simp only [Option.some.injEq] at hd; subst hd
      obtain ⟨vs, g1, g2⟩ := iresults_sound hs he rs ir' h2 ds' hds
      have hv := he t
      refine ⟨tmps.getD t undef :: vs, ?_, ?_⟩
      · simp only [List.mapM_cons, resVal, Sem.run_bind, Sem.run_pure, Result.andThen_ok, g1]
      · simp only [CRt]; exact ⟨_, _, rfl, hv.1, hv.2, g2⟩
    | cell a t =>
      simp only [rres, Option.map_eq_some_iff] at h1
      obtain ⟨n, hn, rfl⟩ := h1
      simp only [iresults] at hd
      split at hd <;> (try (cases hd; done))
      rename_i d ds' hdl hds
      simp only [Option.some.injEq] at hd; subst hd
      obtain ⟨vs, g1, g2⟩ := iresults_sound hs he rs ir' h2 ds' hds
      obtain ⟨u, k1, k2⟩ := iload_sound hs hn (he a) hdl
      have hptr : ∃ x, tmps.getD a undef = .pointer (some x) := by
        have hv := he a
        cases hx : e.getD a .junk <;> rw [hx] at hdl hv <;> simp only [iload] at hdl <;> (try (cases hdl; done))
        · obtain ⟨b, o, h, _⟩ := hv.box; exact ⟨_, h⟩
        · obtain ⟨b, o, _, h⟩ := hv.ref; exact ⟨_, h⟩
      obtain ⟨x, hx⟩ := hptr
      refine ⟨u :: vs, ?_, ?_⟩
      · rw [hx] at k1
        simp only [Instr.loadAt, Instr.sureAddr, Sem.run_bind, Sem.run_pure, Result.andThen_ok] at k1
        simp only [List.mapM_cons, resVal, hx, Sem.run_bind, Result.andThen_ok]
        simp only [asAddr, Sem.run_pure, Result.andThen_ok, k1, g1]
      · simp only [CRt]; exact ⟨_, _, rfl, k2.1, k2.2, g2⟩

theorem results_sound {μ : Mu} {σ : St} {w : World} (hs : Sim μ σ w) {e : List D} {tmps : Array Value} (he : ∀ n, VR μ (e.getD n .junk) (tmps.getD n undef)) {fn : Func} {ir : List IRes} (h : fn.results.toList.mapM (rres P) = some ir)
    {ds : List D} (hd : iresults e σ ir = some ds) : ∃ v, (results fn tmps).run P w = .ok v w ∧ VR μ (resD ds) v := by
  obtain ⟨vs, h1, h2⟩ := iresults_sound hs he _ _ h ds hd
  have hrun : (results fn tmps).run P w = .ok (if h : vs.toArray.size = 1 then vs.toArray[0] else .tuple vs.toArray) w := by
    have : results fn tmps = (do let vs ← fn.results.mapM (resVal tmps); pure (if h : vs.size = 1 then vs[0] else .tuple vs)) := rfl
    rw [this, Sem.run_bind, Array.mapM_eq_mapM_toList, Sem.run_map, h1]
    simp only [Result.andThen_ok, Sem.run_pure]
  refine ⟨_, hrun, ?_⟩
  have hl := h2.length
  cases ds with
  | nil =>
    have : vs = [] := List.eq_nil_of_length_eq_zero (by simpa using hl)
    subst this
    exact VR.mk_tuple h2
  | cons d ds =>
    cases ds with
    | nil =>
      simp only [CRt] at h2
      obtain ⟨v, ws, rfl, g1, g2, rfl⟩ := h2
      exact ⟨g1, g2⟩
    | cons d2 ds =>
      simp only [List.length_cons] at hl
      rw [dif_neg (by simp; omega)]
      exact VR.mk_tuple h2

theorem settle_mode {μ : Mu} {m : Mode} {u : FrameMode} (h : ModeR μ m u) : settle u = u ∧ u ≠ .run := by
  cases m <;> cases u <;> simp only [ModeR] at h <;> (try (exact ⟨rfl, by simp⟩))
  obtain ⟨v, _, rfl⟩ := h
  exact ⟨rfl, by simp⟩

theorem ileaves_sound {ires : List IRes} {tmps : List D} {vt : Array Value} {fn : Func} (hfr : fn.results.toList.mapM (rres P) = some ires) {Post : Out → St → Prop} {R : Ending → World → Prop} :
    ∀ (ds : List (FuncId × List D)) (dv : List Deferred) (m : Mode) (u : FrameMode) (μ : Mu) (σ : St) (w : World), DR μ ds dv → ModeR μ m u → Sim μ σ w → (∀ n, VR μ (tmps.getD n .junk) (vt.getD n undef)) → ILeaves P ires tmps Post ds m σ →
    (∀ (μ' : Mu) (σ' : St) (w' : World) (out : Out) (e : Ending), μ.le μ' → Sim μ' σ' w' → PRel μ' out e → Post out σ' → R e w') → Leaves P fn vt R dv u w
  | [], dv, m, u, μ, σ, w, hd, hm, hs, ht, hi, hR => by
    simp only [DR] at hd
    subst hd
    cases m with
    | returning =>
      cases u <;> simp only [ModeR] at hm <;> (try (exact hm.elim))
      simp only [ILeaves] at hi
      split at hi <;> (try (exact hi.elim))
      rename_i ds hds
      obtain ⟨v, h1, h2⟩ := results_sound hs ht hfr hds
      exact ⟨v, h1, hR μ σ w (.ret _) _ (Mu.le.refl μ) hs h2 hi⟩
    | panicking d =>
      cases u <;> simp only [ModeR] at hm <;> (try (exact hm.elim))
      exact hR μ σ w (.panic d) _ (Mu.le.refl μ) hs hm hi
  | (f, as) :: ds, dv, m, u, μ, σ, w, hd, hm, hs, ht, hi, hR => by
    obtain ⟨d, dv', rfl, ⟨cap, xs, rfl, hcr⟩, hrest⟩ := hd
    obtain ⟨hg, hok⟩ := hi
    have hinv : (invoke (.fn (.func f) ⟨cap⟩) ⟨xs⟩).run P w = .ok (.enter f ⟨xs ++ cap⟩) w := by
      unfold goodFn at hg
      split at hg <;> (try (cases hg; done))
      rename_i fn' hfn
      simp only [Bool.and_eq_true, bne_iff_ne, ne_eq] at hg
      simp only [invoke, callFunc, Sem.run_bind, run_program, Result.andThen_ok, hfn]
      have hb : fn'.body.isNone = false := by cases hbo : fn'.body <;> simp_all
      simp [hg.2, hb]
    refine leaves_cons (settle_mode hm).2 hinv ?_
    refine (hok μ w _ u hs hcr hm).mono fun e u' w' hh => ?_
    obtain ⟨μ', σ', m', k1, k2, ⟨v, rfl⟩, k4, k5⟩ := hh
    exact ileaves_sound hfr ds dv' m' (settle u') μ' σ' w' (hrest.mono k1) k4 k2 (fun n => (ht n).mono k1) k5 (fun μ'' σ'' w'' out e g1 => hR μ'' σ'' w'' out e (k1.trans g1))

theorem enterEnv {μ : Mu} {args : List D} {vs : List Value} (h : CRt μ args vs) (n : Nat) :
    EnvR μ { tmps := args ++ List.replicate (n - args.length) .junk, defers := [] } { tmps := ⟨vs⟩ ++ Array.replicate (n - (⟨vs⟩ : Array Value).size) undef, defers := [] } := by
  have hl := h.length
  refine ⟨⟨by simp [hl], fun k => ?_⟩, rfl⟩
  simp only [List.getD_eq_getElem?_getD, Array.getD_eq_getD_getElem?]
  rw [List.getElem?_append]
  split
  · rename_i hk
    obtain ⟨v, h1, h2⟩ := h.get (i := k) (d := args[k]) (by simp [hk])
    rw [Array.getElem?_append_left (by simp; omega)]
    simp only [List.getElem?_toArray, h1, List.getElem?_eq_getElem hk, Option.getD_some]
    exact h2
  · rw [List.getElem?_replicate]
    split <;> exact VR.junk _

/-- A FUNCTION'S CONTRACT FROM ITS BODY. -/
theorem Ok_of_iwp (hmix : P.follows .mixedOrders = true) {pol : TypeId → Bool} {f : FuncId} {fn : Func} {c : Code} {ic : ICode} {ires : List IRes} (hf : P.funcs[f]? = some fn) (hb : fn.body = some c) (hc : rcode P pol c = some ic)
    (hr : fn.results.toList.mapM (rres P) = some ires) {args : List D} {σ : St} {Post : Out → St → Prop}
    (h : iwp P ic (bodyQ P ires Post) { tmps := args ++ List.replicate (fn.ntmps - args.length) .junk, defers := [] } σ) : Ok P f args σ Post := by
  intro μ w vs hs hcr
  refine calls_of_wp_defers hf hb (wp_mono (iwp_sound hmix c ic hc _ _ σ h μ _ w hs (enterEnv hcr fn.ntmps)) fun ex a w' hh => ?_)
  obtain ⟨μ', ie, e, σ', k1, k2, k3, k4, k5⟩ := hh
  have hR : ∀ (μ'' : Mu) (σ'' : St) (w'' : World) (out : Out) (en : Ending), μ'.le μ'' → Sim μ'' σ'' w'' → PRel μ'' out en → Post out σ'' → ∃ ν τ o, μ.le ν ∧ Sim ν τ w'' ∧ PRel ν o en ∧ Post o τ :=
    fun μ'' σ'' w'' out en g1 g2 g3 g4 => ⟨μ'', σ'', out, k1.trans g1, g2, g3, g4⟩
  cases ie with
  | normal =>
    cases ex <;> simp only [ExitR] at k2 <;> (try (exact k2.elim))
    exact ileaves_sound hr e.defers a.defers .returning .returning μ' σ' w' k3.defers trivial k4 k3.tmps.get k5 hR
  | ret =>
    cases ex <;> simp only [ExitR] at k2 <;> (try (exact k2.elim))
    exact ileaves_sound hr e.defers a.defers .returning .returning μ' σ' w' k3.defers trivial k4 k3.tmps.get k5 hR
  | panic d =>
    cases ex <;> simp only [ExitR] at k2 <;> (try (exact k2.elim))
    exact ileaves_sound hr e.defers a.defers (.panicking d) (.panicking _) μ' σ' w' k3.defers k2 k4 k3.tmps.get k5 hR
  | exit i => exact k5.elim

/-- The end of a deferred function that defers nothing and does not panic. -/
def bodyQD (P : Program) (ires : List IRes) (Post : St → Prop) : IExit → Env → St → Prop
  | .normal, e, σ => e.defers = [] ∧ (iresults e.tmps σ ires).isSome = true ∧ Post σ
  | .ret, e, σ => e.defers = [] ∧ (iresults e.tmps σ ires).isSome = true ∧ Post σ
  | _, _, _ => False

/-- A deferred function that doesn't ask for the panic. -/
theorem OkD_of_iwp (hmix : P.follows .mixedOrders = true) {pol : TypeId → Bool} {f : FuncId} {fn : Func} {c : Code} {ic : ICode} {ires : List IRes} (hf : P.funcs[f]? = some fn) (hb : fn.body = some c) (hc : rcode P pol c = some ic)
    (hr : fn.results.toList.mapM (rres P) = some ires) {args : List D} {m : Mode} {σ : St} {R : Mode → St → Prop}
    (h : iwp P ic (bodyQD P ires (R m)) { tmps := args ++ List.replicate (fn.ntmps - args.length) .junk, defers := [] } σ) : OkD P f args m σ R := by
  intro μ w vs u hs hcr hm
  refine (callsD_of_wp (u := u) (R := fun e w' => ∃ μ' σ', μ.le μ' ∧ Sim μ' σ' w' ∧ (∃ v, e = .returned v) ∧ R m σ') hf hb (wp_mono (iwp_sound hmix c ic hc _ _ σ h μ _ w hs (enterEnv hcr fn.ntmps)) fun ex a w' hh => ?_)).mono fun e u' w' hh => ?_
  · obtain ⟨μ', ie, e, σ', k1, k2, k3, k4, k5⟩ := hh
    have key : e.defers = [] ∧ (iresults e.tmps σ' ires).isSome = true ∧ R m σ' → bodyPost P fn (fun e w' => ∃ μ' σ', μ.le μ' ∧ Sim μ' σ' w' ∧ (∃ v, e = .returned v) ∧ R m σ') .ret a w' := by
      rintro ⟨g1, g2, g3⟩
      have hd := k3.defers
      rw [g1] at hd
      obtain ⟨ds, hds⟩ := Option.isSome_iff_exists.1 g2
      obtain ⟨v, h1, _⟩ := results_sound k4 k3.tmps.get hr hds
      exact ⟨hd, v, h1, μ', σ', k1, k4, ⟨v, rfl⟩, g3⟩
    cases ie with
    | normal => cases ex <;> simp only [ExitR] at k2 <;> (try (exact k2.elim)); exact key k5
    | ret => cases ex <;> simp only [ExitR] at k2 <;> (try (exact k2.elim)); exact key k5
    | panic d => exact k5.elim
    | exit i => exact k5.elim
  · obtain ⟨rfl, μ', σ', k1, k2, k3, k4⟩ := hh
    exact ⟨μ', σ', m, k1, k2, k3, by rw [(settle_mode hm).1]; exact hm.mono k1, k4⟩

/-- A deferred function whose first operation is 'recover()'. -/
theorem OkD_recover (hmix : P.follows .mixedOrders = true) {pol : TypeId → Bool} {f : FuncId} {fn : Func} {id : Nat} {o : Oper} {t : Nat} {c : Code} {ic : ICode} {ires : List IRes} (hf : P.funcs[f]? = some fn)
    (hb : fn.body = some (.seq (.region id #[o] false) c)) (hop : (match o.op with | .call { callee := .builtin .recover, args, .. } => args.isEmpty | _ => false) = true) (hdst : o.dst = some t) (hgu : o.guard = none)
    (hc : rcode P pol c = some ic)
    (hr : fn.results.toList.mapM (rres P) = some ires) {args : List D} {m : Mode} {σ : St} {R : Mode → St → Prop}
    (h : iwp P ic (bodyQD P ires (R .returning)) (Env.put { tmps := args ++ List.replicate (fn.ntmps - args.length) .junk, defers := [] } (some t) (modeD m)) σ) : OkD P f args m σ R := by
  intro μ w vs u hs hcr hm
  refine callsD_of_wpS hf hb fun c₀ cs hmode => ?_
  have he := enterEnv hcr fn.ntmps
  have hrun : ∀ a : Act, (execOp a.eval o).run P w = .ok .recover w := by
    intro a
    split at hop <;> (try (cases hop; done))
    rename_i as ts hopp
    simp [execOp, hopp, resolve, invoke, builtin]
  have hwant : ∀ tm : Array Value, Region.wanted o (yielded #[o] tm) = true := by
    intro tm; simp [Region.wanted, hgu]
  -- the rest
  have rest : ∀ (a : Act) (cs' : List Frame) (u' : FrameMode), cs' = { c₀ with mode := u' } :: cs → settle u' = .returning → EnvR μ (Env.put { tmps := args ++ List.replicate (fn.ntmps - args.length) .junk, defers := [] } (some t) (modeD m)) a →
      c.wpS P (bodyPostS P fn c₀ cs (fun e u' w' => ∃ μ' σ' m', μ.le μ' ∧ Sim μ' σ' w' ∧ (∃ v, e = .returned v) ∧ ModeR μ' m' (settle u') ∧ R m' σ')) a cs' w := by
    intro a cs' u' hcs hset hea
    refine wpS_of_wp (wp_mono (iwp_sound hmix c ic hc _ _ σ h μ a w hs hea) fun ex a' w' hh => ?_)
    obtain ⟨μ', ie, e, σ', k1, k2, k3, k4, k5⟩ := hh
    have key : e.defers = [] ∧ (iresults e.tmps σ' ires).isSome = true ∧ R .returning σ' →
        bodyPostS P fn c₀ cs (fun e u' w' => ∃ μ' σ' m', μ.le μ' ∧ Sim μ' σ' w' ∧ (∃ v, e = .returned v) ∧ ModeR μ' m' (settle u') ∧ R m' σ') .ret a' cs' w' := by
      rintro ⟨g1, g2, g3⟩
      have hd := k3.defers
      rw [g1] at hd
      obtain ⟨ds, hds⟩ := Option.isSome_iff_exists.1 g2
      obtain ⟨v, h1, _⟩ := results_sound k4 k3.tmps.get hr hds
      exact ⟨hd, u', hcs, v, h1, μ', σ', .returning, k1, k4, ⟨v, rfl⟩, by rw [hset]; trivial, g3⟩
    cases ie with
    | normal => cases ex <;> simp only [ExitR] at k2 <;> (try (exact k2.elim)); exact key k5
    | ret => cases ex <;> simp only [ExitR] at k2 <;> (try (exact k2.elim)); exact key k5
    | panic d => exact k5.elim
    | exit i => exact k5.elim
  refine wpS_seq (wpS_region ?_)
  have hl : List.range (#[o] : Array Oper).size = [0] := rfl
  rw [hl]
  simp only [wpOpsS]
  rw [show (#[o] : Array Oper)[0]? = some o from rfl]
  simp only [hwant, if_true, hrun]
  cases m with
  | returning =>
    cases u <;> simp only [ModeR] at hm <;> (try (exact hm.elim))
    have hrec : recoverD (c₀ :: cs) = none := by simp [recoverD, hmode]
    simp only [hrec, Exit.thenS, hdst]
    refine rest _ _ .returning (by rw [← hmode]) rfl ?_
    exact he.put (some t) ⟨rfl, by simp [CR, vcells, modeD]⟩
  | panicking d =>
    cases u <;> simp only [ModeR] at hm <;> (try (exact hm.elim))
    obtain ⟨v, hv, rfl⟩ := hm
    have hrec : recoverD (c₀ :: cs) = some (v, { c₀ with mode := .panicking [{ v, recovered := true }] } :: cs) := by simp [recoverD, hmode]
    simp only [hrec, Exit.thenS, hdst]
    refine rest _ _ (.panicking [{ v, recovered := true }]) rfl (by simp [settle]) ?_
    exact he.put (some t) hv

end
/-! The equations, made here once for all texts behind. -/
example := @iresults.eq_1
example := @resD.eq_1

end Go.Id

/-
  THE IDEAL LAYER, PART Q: how a body is stepped through: what 'simp' may look into, and what not.
-/
namespace Go.Id
open Go.RowKit
set_option linter.unusedVariables false
set_option linter.unusedSimpArgs false

section
variable {P : Program}

@[congr] theorem iwp.congr {c c' : ICode} {Q : IExit → Env → St → Prop} {e e' : Env} {σ σ' : St} (h1 : c = c') (h2 : e = e') (h3 : σ = σ') : iwp P c Q e σ = iwp P c' Q e' σ' := by subst h1; subst h2; subst h3; rfl
@[congr] theorem iwpOps.congr {os os' : List IOper} {next : Env → St → Prop} {Q : IExit → Env → St → Prop} {e e' : Env} {σ σ' : St} (h1 : os = os') (h2 : e = e') (h3 : σ = σ') : iwpOps P os next Q e σ = iwpOps P os' next Q e' σ' := by subst h1; subst h2; subst h3; rfl
@[congr] theorem iwpG.congr {o o' : IOper} {next : Env → St → Prop} {Q : IExit → Env → St → Prop} {e e' : Env} {σ σ' : St} (h1 : o = o') (h2 : e = e') (h3 : σ = σ') : iwpG P o next Q e σ = iwpG P o' next Q e' σ' := by subst h1; subst h2; subst h3; rfl
@[congr] theorem iwpX.congr {o o' : IXop} {dst dst' : Option Nat} {next : Env → St → Prop} {Q : IExit → Env → St → Prop} {e e' : Env} {σ σ' : St} (h1 : o = o') (h0 : dst = dst') (h2 : e = e') (h3 : σ = σ') : iwpX P o dst next Q e σ = iwpX P o' dst' next Q e' σ' := by subst h1; subst h0; subst h2; subst h3; rfl
@[congr] theorem thenI.congr {K : Env → St → Prop} {Q : IExit → Env → St → Prop} {x x' : IExit} {e e' : Env} {σ σ' : St} (h1 : x = x') (h2 : e = e') (h3 : σ = σ') : thenI K Q x e σ = thenI K Q x' e' σ' := by subst h1; subst h2; subst h3; rfl
@[congr] theorem inBlockI.congr {id : Nat} {Q : IExit → Env → St → Prop} {x x' : IExit} {e e' : Env} {σ σ' : St} (h1 : x = x') (h2 : e = e') (h3 : σ = σ') : inBlockI id Q x e σ = inBlockI id Q x' e' σ' := by subst h1; subst h2; subst h3; rfl
@[congr] theorem Cut.congr {K : Env → St → Prop} {e e' : Env} {σ σ' : St} (h2 : e = e') (h3 : σ = σ') : Cut K e σ = Cut K e' σ' := by subst h2; subst h3; rfl
@[congr] theorem bodyQ.congr {ires : List IRes} {Post : Out → St → Prop} {x x' : IExit} {e e' : Env} {σ σ' : St} (h1 : x = x') (h2 : e = e') (h3 : σ = σ') : bodyQ P ires Post x e σ = bodyQ P ires Post x' e' σ' := by subst h1; subst h2; subst h3; rfl
@[congr] theorem bodyQD.congr {ires : List IRes} {Post : St → Prop} {x x' : IExit} {e e' : Env} {σ σ' : St} (h1 : x = x') (h2 : e = e') (h3 : σ = σ') : bodyQD P ires Post x e σ = bodyQD P ires Post x' e' σ' := by subst h1; subst h2; subst h3; rfl
@[congr] theorem ILeaves.congr {ires : List IRes} {t t' : List D} {Post : Out → St → Prop} {ds ds' : List (FuncId × List D)} {m m' : Mode} {σ σ' : St} (h0 : t = t') (h1 : ds = ds') (h2 : m = m') (h3 : σ = σ') : ILeaves P ires t Post ds m σ = ILeaves P ires t' Post ds' m' σ' := by subst h0; subst h1; subst h2; subst h3; rfl
@[congr] theorem iwpPlan.congr {ios : List IOper} {alld : List Nat} {next : Env → St → Prop} {Q : IExit → Env → St → Prop} {pl pl' : List (Nat × Option (List Nat))} {e e' : Env} {σ σ' : St} (h1 : pl = pl') (h2 : e = e') (h3 : σ = σ') :
    iwpPlan P ios alld next Q pl e σ = iwpPlan P ios alld next Q pl' e' σ' := by subst h1; subst h2; subst h3; rfl

/-! The steps, each with all that it is given to. -/
variable {next : Env → St → Prop} {Q : IExit → Env → St → Prop} {e : Env} {σ : St}

theorem ist_region (ios : List IOper) : iwp P (.region ios) Q e σ = iwpOps P ios (Q .normal) Q e σ := rfl
theorem ist_seq (a b : ICode) : iwp P (.seq a b) Q e σ = iwp P a (thenI (Cut (iwp P b Q)) Q) e σ := rfl
theorem ist_block (id : Nat) (c : ICode) : iwp P (.block id c) Q e σ = iwp P c (inBlockI id Q) e σ := rfl
theorem ist_skip : iwp P .skip Q e σ = Q .normal e σ := rfl
theorem ist_exit (id : Nat) : iwp P (.exit id) Q e σ = Q (.exit id) e σ := rfl
theorem ist_ret : iwp P .ret Q e σ = Q .ret e σ := rfl
theorem ist_ops_nil : iwpOps P [] next Q e σ = next e σ := rfl
theorem ist_ops (o : IOper) (os : List IOper) : iwpOps P (o :: os) next Q e σ = iwpG P o (iwpOps P os next Q) Q e σ := rfl


def bindO (x : Option (D × St)) (K : D → St → Prop) : Prop := match x with | some (d, σ) => K d σ | none => False
def callO (x : Option (FuncId × List D)) (K : FuncId → List D → Prop) : Prop := match x with | some (f, as) => K f as | none => False
def boolO (x : D) (K : Bool → Prop) : Prop := match x with | .bool b => K b | _ => False
def ifaceO (x : D) (K : D → Prop) : Prop := match x with | .iface t d => K (.iface t d) | _ => False
def listO (x : Option (List D)) (K : List D → Prop) : Prop := match x with | some ds => K ds | none => False
@[congr] theorem bindO.congr {x x' : Option (D × St)} {K : D → St → Prop} (h : x = x') : bindO x K = bindO x' K := by subst h; rfl
@[congr] theorem callO.congr {x x' : Option (FuncId × List D)} {K : FuncId → List D → Prop} (h : x = x') : callO x K = callO x' K := by subst h; rfl
@[congr] theorem boolO.congr {x x' : D} {K : Bool → Prop} (h : x = x') : boolO x K = boolO x' K := by subst h; rfl
@[congr] theorem ifaceO.congr {x x' : D} {K : D → Prop} (h : x = x') : ifaceO x K = ifaceO x' K := by subst h; rfl
@[congr] theorem listO.congr {x x' : Option (List D)} {K : List D → Prop} (h : x = x') : listO x K = listO x' K := by subst h; rfl
def gvalO (x : Option Bool) (K : Bool → Prop) : Prop := match x with | some b => K b | none => False
@[congr] theorem gvalO.congr {x x' : Option Bool} {K : Bool → Prop} (h : x = x') : gvalO x K = gvalO x' K := by subst h; rfl
theorem gvalO_some (b : Bool) (K : Bool → Prop) : gvalO (some b) K = K b := rfl
theorem bindO_some (d : D) (K : D → St → Prop) : bindO (some (d, σ)) K = K d σ := rfl
theorem callO_some (f : FuncId) (as : List D) (K : FuncId → List D → Prop) : callO (some (f, as)) K = K f as := rfl
theorem boolO_bool (b : Bool) (K : Bool → Prop) : boolO (.bool b) K = K b := rfl
theorem ifaceO_iface (t : TypeId) (d : D) (K : D → Prop) : ifaceO (.iface t d) K = K (.iface t d) := rfl
theorem listO_some (ds : List D) (K : List D → Prop) : listO (some ds) K = K ds := rfl

theorem ist_v (o : IOp) (dst : Option Nat) : iwpX P (.v o) dst next Q e σ = bindO (iop o e.tmps σ) (fun d σ' => next (e.put dst d) σ') := rfl
theorem ist_call (f : Opd) (args : List Opd) (dst : Option Nat) : iwpX P (.call f args) dst next Q e σ = callO (calleeOf (f.ev e.tmps) (args.map (·.ev e.tmps))) (fun g as => goodFn P g = true ∧ Ok P g as σ fun out σ' => match out with
      | .ret d => next (e.put dst d) σ'
      | .panic d => Q (.panic d) e σ') := rfl
theorem ist_ext (g : FuncId) (args : List Opd) (dst : Option Nat) : iwpX P (.ext g args) dst next Q e σ = ExtOk P g (args.map (·.ev e.tmps)) σ (fun d σ' => next (e.put dst d) σ') := rfl
def ifO (x : D) (K : TypeId → D → Prop) : Prop := match x with | .iface t d => K t d | _ => False
theorem ifO_if (t : TypeId) (d : D) (K : TypeId → D → Prop) : ifO (.iface t d) K = K t d := rfl
@[congr] theorem ifO.congr {x x' : D} {K : TypeId → D → Prop} (h : x = x') : ifO x K = ifO x' K := by subst h; rfl
def fnO (x : Option FuncId) (K : FuncId → Prop) : Prop := match x with | some g => K g | none => False
theorem fnO_some (g : FuncId) (K : FuncId → Prop) : fnO (some g) K = K g := rfl
@[congr] theorem fnO.congr {x x' : Option FuncId} {K : FuncId → Prop} (h : x = x') : fnO x K = fnO x' K := by subst h; rfl
theorem ist_inv (x : Opd) (name : String) (args : List Opd) (dst : Option Nat) : iwpX P (.inv x name args) dst next Q e σ = ifO (x.ev e.tmps) (fun t d => fnO (methD P t name) fun g => goodFn P g = true ∧ Ok P g (d :: args.map (·.ev e.tmps)) σ fun out σ' => match out with
    | .ret d => next (e.put dst d) σ'
    | .panic d => Q (.panic d) e σ') := rfl
@[congr] theorem ExtOk.congr {g g' : FuncId} {args args' : List D} {σ σ' : St} {Post : D → St → Prop} (h1 : g = g') (h2 : args = args') (h3 : σ = σ') : ExtOk P g args σ Post = ExtOk P g' args' σ' Post := by subst h1; subst h2; subst h3; rfl
theorem ist_panic (x : Opd) (dst : Option Nat) : iwpX P (.panic x) dst next Q e σ = ifaceO (x.ev e.tmps) (fun d => Q (.panic d) e σ) := rfl
theorem ist_defer (f : Opd) (args : List Opd) (dst : Option Nat) : iwpX P (.defer f args) dst next Q e σ = callO (calleeOf (f.ev e.tmps) (args.map (·.ev e.tmps))) (fun g as => next (Env.put { e with defers := (g, as) :: e.defers } dst .junk) σ) := rfl
theorem ist_g (dst : Option Nat) (o : IXop) : iwpG P ⟨dst, o, none⟩ next Q e σ = iwpX P o dst next Q e σ := rfl
theorem ist_gg (dst : Option Nat) (o : IXop) (g : Nat) (want : Bool) : iwpG P ⟨dst, o, some (g, want)⟩ next Q e σ = gvalO (gval (e.tmps.getD g .junk) want) (fun b => Br b (iwpX P o dst next Q e σ) (next (e.put dst (.tuple [])) σ)) := rfl
theorem gv_true (b : Bool) : gval (.bool b) true = some b := by cases b <;> rfl
theorem gv_false (b : Bool) : gval (.bool b) false = some (!b) := by cases b <;> rfl
theorem gv_undef (want : Bool) : gval (.tuple []) want = some false := rfl
theorem ist_cond (c : Opd) (a b : ICode) : iwp P (.cond c a b) Q e σ = boolO (c.ev e.tmps) (fun t => Br t (iwp P a Q e σ) (iwp P b Q e σ)) := rfl
theorem ist_then (K : Env → St → Prop) : thenI K Q .normal e σ = K e σ := rfl
theorem ist_then_ret (K : Env → St → Prop) : thenI K Q .ret e σ = Q .ret e σ := rfl
theorem ist_then_exit (K : Env → St → Prop) (i : Nat) : thenI K Q (.exit i) e σ = Q (.exit i) e σ := rfl
theorem ist_then_panic (K : Env → St → Prop) (d : D) : thenI K Q (.panic d) e σ = Q (.panic d) e σ := rfl
theorem ist_in_normal (id : Nat) : inBlockI id Q .normal e σ = Q .normal e σ := rfl
theorem ist_in_ret (id : Nat) : inBlockI id Q .ret e σ = Q .ret e σ := rfl
theorem ist_in_panic (id : Nat) (d : D) : inBlockI id Q (.panic d) e σ = Q (.panic d) e σ := rfl
theorem ist_in_exit (id : Nat) : inBlockI id Q (.exit id) e σ = Q .normal e σ := by simp only [inBlockI, if_true]
theorem ist_in_other (id i : Nat) (h : (i == id) = false) : inBlockI id Q (.exit i) e σ = Q (.exit i) e σ := by
  simp only [inBlockI]; rw [if_neg (by simpa using h)]
theorem ist_body_ret (ires : List IRes) (Post : Out → St → Prop) : bodyQ P ires Post .ret e σ = ILeaves P ires e.tmps Post e.defers .returning σ := rfl
theorem ist_body_normal (ires : List IRes) (Post : Out → St → Prop) : bodyQ P ires Post .normal e σ = ILeaves P ires e.tmps Post e.defers .returning σ := rfl
theorem ist_body_panic (ires : List IRes) (Post : Out → St → Prop) (d : D) : bodyQ P ires Post (.panic d) e σ = ILeaves P ires e.tmps Post e.defers (.panicking d) σ := rfl
theorem ist_leave (ires : List IRes) (t : List D) (Post : Out → St → Prop) : ILeaves P ires t Post [] .returning σ = listO (iresults t σ ires) (fun ds => Post (.ret (resD ds)) σ) := rfl
theorem ist_leave_panic (ires : List IRes) (t : List D) (Post : Out → St → Prop) (d : D) : ILeaves P ires t Post [] (.panicking d) σ = Post (.panic d) σ := rfl
theorem ist_leave_defer (ires : List IRes) (t : List D) (Post : Out → St → Prop) (f : FuncId) (as : List D) (ds : List (FuncId × List D)) (m : Mode) :
    ILeaves P ires t Post ((f, as) :: ds) m σ = (goodFn P f = true ∧ OkD P f as m σ (ILeaves P ires t Post ds)) := rfl
theorem ist_body_dret (ires : List IRes) (Post : St → Prop) : bodyQD P ires Post .ret e σ = (e.defers = [] ∧ (iresults e.tmps σ ires).isSome = true ∧ Post σ) := rfl
theorem ist_body_dnormal (ires : List IRes) (Post : St → Prop) : bodyQD P ires Post .normal e σ = (e.defers = [] ∧ (iresults e.tmps σ ires).isSome = true ∧ Post σ) := rfl
theorem ist_dregion (ios : List IOper) (alld : List Nat) (pl : List (Nat × Option (List Nat))) :
    iwp P (.dregion ios alld pl) Q e σ = ((alld.all fun t => decide (t < e.tmps.length)) = true ∧ iwpPlan P ios alld (Q .normal) Q pl e σ) := rfl

/-- Two ways that a region may go. -/
inductive Tg2 (A B : Prop) : Type | mk
@[irreducible] def Both (A B : Prop) (_t : Tg2 A B := .mk) : Prop := A ∧ B
@[congr] theorem Both.congr {A B : Prop} : Both A B = Both A B := rfl
theorem Both.intro {A B : Prop} (h1 : A) (h2 : B) : Both A B := by unfold Both; exact ⟨h1, h2⟩
theorem ist_both (x y : ICode) : iwp P (.both x y) Q e σ = Both (iwp P x Q e σ) (iwp P y Q e σ) := by unfold Both; rfl

def operO (x : Option IOper) (K : IOper → Prop) : Prop := match x with | some o => K o | none => False
@[congr] theorem operO.congr {x x' : Option IOper} {K : IOper → Prop} (h : x = x') : operO x K = operO x' K := by subst h; rfl
theorem operO_some (o : IOper) (K : IOper → Prop) : operO (some o) K = K o := rfl
theorem ist_plan_nil (ios : List IOper) (alld : List Nat) : iwpPlan P ios alld next Q [] e σ = next e σ := rfl
theorem ist_plan_m (ios : List IOper) (alld : List Nat) (i : Nat) (pl : List (Nat × Option (List Nat))) : iwpPlan P ios alld next Q ((i, none) :: pl) e σ = operO ios[i]? (fun o => iwpG P o (iwpPlan P ios alld next Q pl) (fun _ _ _ => False) e σ) := rfl
theorem ist_plan_b (ios : List IOper) (alld : List Nat) (i : Nat) (must : List Nat) (pl : List (Nat × Option (List Nat))) :
    iwpPlan P ios alld next Q ((i, some must) :: pl) e σ = operO ios[i]? (fun o => iwpG P o (fun e' σ' => Stills ios must e' σ' ∧ iwpPlan P ios alld next Q pl e' σ') (fun x e' σ' => Q x (e'.junks alld) σ') e σ) := rfl

theorem Br.not {b : Bool} {A B : Prop} : Br (!b) A B = Br b B A := by cases b <;> simp [Br, and_comm]
theorem Br.intro {b : Bool} {A B : Prop} (h1 : b = true → A) (h2 : b = false → B) : Br b A B := ⟨h1, h2⟩
theorem beq_tt (b : Bool) : (b == true) = b := by cases b <;> rfl
theorem beq_ff (b : Bool) : (b == false) = !b := by cases b <;> rfl

/-! What each operation comes to, each by itself. -/
def optO {α : Type} (x : Option α) (f : α → Option (D × St)) : Option (D × St) := match x with | some a => f a | none => none
@[congr] theorem optO.congr {α : Type} {x x' : Option α} {f : α → Option (D × St)} (h : x = x') : optO x f = optO x' f := by subst h; rfl
theorem optO_some {α : Type} (a : α) (f : α → Option (D × St)) : optO (some a) f = f a := rfl
section
variable {e : List D} {σ : St}
theorem ev_t (n : Nat) : (Opd.t n).ev e = e.getD n .junk := rfl
theorem ev_c (d : D) : (Opd.c d).ev e = d := rfl
theorem evO_none : evO e none = none := rfl
theorem evO_some (x : Opd) : evO e (some x) = some (x.ev e) := rfl
theorem io_mov (x : Opd) : iop (.mov x) e σ = some (x.ev e, σ) := rfl
def ipick (c a b : D) : Option D := match c with | .bool t => some (if t then a else b) | _ => none
theorem io_pick (c a b : Opd) : iop (.pick c a b) e σ = optO (ipick (c.ev e) (a.ev e) (b.ev e)) (fun d => some (d, σ)) := by
  simp only [iop, ipick]; cases c.ev e <;> rfl
theorem ipick_tt (a b : D) : ipick (.bool true) a b = some a := rfl
theorem ipick_ff (a b : D) : ipick (.bool false) a b = some b := rfl
theorem ipick_or (a b : Bool) : ipick (.bool a) (.bool true) (.bool b) = some (.bool (a || b)) := by cases a <;> rfl
theorem ipick_and (a b : Bool) : ipick (.bool a) (.bool b) (.bool false) = some (.bool (a && b)) := by cases a <;> rfl
theorem io_alloc (z : List D) : iop (.alloc z) e σ = some (.ref σ.next 0, σ.alloc (.cells z)) := rfl
theorem io_box (x : Opd) : iop (.box x) e σ = optO (dcells (x.ev e)) (fun cs => some (.ref σ.next 0, σ.alloc (.cells cs))) := by simp only [iop]; cases dcells (x.ev e) <;> rfl
theorem io_boxV (x : Opd) : iop (.boxV x) e σ = optO (dcells (x.ev e)) (fun cs => some (.box cs 0, σ)) := by simp only [iop]; cases dcells (x.ev e) <;> rfl
theorem io_build (z : List D) (ps : List (Nat × Nat × Opd)) : iop (.build z ps) e σ = optO (ibuild z (ps.map fun p => (p.1, p.2.1, p.2.2.ev e))) (fun cs => some (.agg cs, σ)) := by
  simp only [iop]; cases ibuild z (ps.map fun p => (p.1, p.2.1, p.2.2.ev e)) <;> rfl
def bsO (b : Bool) (d : D) (σ : St) : Option (D × St) := if b then some (d, σ) else none
theorem bsO_tt (d : D) (σ : St) : bsO true d σ = some (d, σ) := rfl
theorem io_buildSlice (sz : Nat) (ps : List Opd) : iop (.buildSlice sz ps) e σ = bsO (allOf sz (ps.map (·.ev e))) (.slc sz (ps.map (·.ev e)) .exact) σ := rfl
theorem io_load (n : Option Nat) (x : Opd) : iop (.load n x) e σ = optO (iload n (x.ev e) σ) (fun d => some (d, σ)) := by simp only [iop]; cases iload n (x.ev e) σ <;> rfl
theorem io_store (sz : Nat) (a x : Opd) : iop (.store sz a x) e σ = optO (istore sz (a.ev e) (x.ev e) σ) (fun s => some (.junk, s)) := by simp only [iop]; cases istore sz (a.ev e) (x.ev e) σ <;> rfl
def inil (x : D) : Option D := match x with | .box c o => some (.box c o) | .ref j o => some (.ref j o) | .func (.func f) a b => some (.func (.func f) a b) | _ => none
theorem io_nilCheck (x : Opd) : iop (.nilCheck x) e σ = optO (inil (x.ev e)) (fun d => some (d, σ)) := by
  simp only [iop, inil]; cases x.ev e <;> (try rfl)
  rename_i f a b; cases f <;> rfl
theorem inil_box (c : List D) (o : Nat) : inil (.box c o) = some (.box c o) := rfl
theorem inil_ref (j o : Nat) : inil (.ref j o) = some (.ref j o) := rfl
theorem inil_func (f : FuncId) (a b : List D) : inil (.func (.func f) a b) = some (.func (.func f) a b) := rfl
theorem io_bin (op : BinOp) (x y : Opd) : iop (.bin op x y) e σ = optO (ibin op (x.ev e) (y.ev e)) (fun d => some (d, σ)) := by simp only [iop]; cases ibin op (x.ev e) (y.ev e) <;> rfl
theorem io_eqp (k : EqK) (x y : Opd) : iop (.eq false k x y) e σ = optO (ieq k (x.ev e) (y.ev e)) (fun b => some (.bool b, σ)) := by simp only [iop]; cases ieq k (x.ev e) (y.ev e) <;> rfl
theorem io_eqn (k : EqK) (x y : Opd) : iop (.eq true k x y) e σ = optO (ieq k (x.ev e) (y.ev e)) (fun b => some (.bool (!b), σ)) := by simp only [iop]; cases ieq k (x.ev e) (y.ev e) <;> rfl
theorem io_un (op : UnOp) (x : Opd) : iop (.un op x) e σ = optO (iun op (x.ev e)) (fun d => some (d, σ)) := by simp only [iop]; cases iun op (x.ev e) <;> rfl
def itoInt (k : IntKind) (x : D) : Option D := match x with | .int _ n => some (.int k (k.wrap n)) | _ => none
theorem io_toInt (k : IntKind) (x : Opd) : iop (.toInt k x) e σ = optO (itoInt k (x.ev e)) (fun d => some (d, σ)) := by simp only [iop, itoInt]; cases x.ev e <;> rfl
theorem itoInt_int (k k' : IntKind) (n : Int) : itoInt k (.int k' n) = some (.int k (k.wrap n)) := rfl
def itoStr (x : D) : Option D := match x with | .str s => some (.str s) | _ => none
theorem io_toStr (x : Opd) : iop (.toStr x) e σ = optO (itoStr (x.ev e)) (fun d => some (d, σ)) := by simp only [iop, itoStr]; cases x.ev e <;> rfl
theorem itoStr_str (s : List UInt8) : itoStr (.str s) = some (.str s) := rfl
theorem io_mkIface (t : TypeId) (x : Opd) : iop (.mkIface t x) e σ = some (.iface t (x.ev e), σ) := rfl
theorem io_mkFunc (f : Fn) (a b : List Opd) : iop (.mkFunc f a b) e σ = some (.func f (a.map (·.ev e)) (b.map (·.ev e)), σ) := rfl
def isl (x : D) (lo hi : Option D) : Option D := match x with | .str s => isliceStr s lo hi | _ => none
theorem io_sliceStr (x : Opd) (lo hi : Option Opd) : iop (.sliceStr x lo hi) e σ = optO (isl (x.ev e) (evO e lo) (evO e hi)) (fun d => some (d, σ)) := by
  simp only [iop, isl]; cases x.ev e <;> (try rfl)
  rename_i s; simp only []; cases isliceStr s (evO e lo) (evO e hi) <;> rfl
theorem isl_lo (s : List UInt8) (k : IntKind) (i : Int) (h : 0 ≤ i ∧ i ≤ s.length) : isl (.str s) (some (.int k i)) none = some (.str (s.drop i.toNat)) := by
  have h1 : (s.drop i.toNat).take (s.length - i.toNat) = s.drop i.toNat := List.take_of_length_le (by simp)
  simp only [isl, isliceStr, ibound, if_pos h, h1]
theorem isl_hi (s : List UInt8) (k : IntKind) (i : Int) (h : 0 ≤ i ∧ i ≤ s.length) : isl (.str s) none (some (.int k i)) = some (.str (s.take i.toNat)) := by
  simp [isl, isliceStr, ibound, h]
theorem isl_lohi (s : List UInt8) (k k' : IntKind) (i j : Int) (h : 0 ≤ i ∧ i ≤ j ∧ j ≤ s.length) : isl (.str s) (some (.int k i)) (some (.int k' j)) = some (.str ((s.drop i.toNat).take (j.toNat - i.toNat))) := by
  have h1 : 0 ≤ j ∧ j ≤ s.length := by omega
  have h2 : 0 ≤ i ∧ i ≤ (j.toNat : Int) := by omega
  simp only [isl, isliceStr, ibound, if_pos h1, if_pos h2]
theorem io_sliceSlc (sz : Nat) (x : Opd) (lo hi mx : Option Opd) : iop (.sliceSlc sz x lo hi mx) e σ = optO (isliceSlc sz (x.ev e) (evO e lo) (evO e hi) (evO e mx)) (fun d => some (d, σ)) := by
  simp only [iop]; cases isliceSlc sz (x.ev e) (evO e lo) (evO e hi) (evO e mx) <;> rfl
def ifad (off : Nat) (x : D) : Option D := match x with | .box c o => some (.box c (o + off)) | .ref j o => some (.ref j (o + off)) | _ => none
theorem io_fieldAddr (off : Nat) (x : Opd) : iop (.fieldAddr off x) e σ = optO (ifad off (x.ev e)) (fun d => some (d, σ)) := by simp only [iop, ifad]; cases x.ev e <;> rfl
theorem ifad_box (c : List D) (o off : Nat) : ifad off (.box c o) = some (.box c (o + off)) := rfl
theorem ifad_ref (j o off : Nat) : ifad off (.ref j o) = some (.ref j (o + off)) := rfl
def ifld (off : Nat) (n : Option Nat) (x : D) : Option D := match x with | .agg cs => cellsAt cs off n | _ => none
theorem io_field (off : Nat) (n : Option Nat) (x : Opd) : iop (.field off n x) e σ = optO (ifld off n (x.ev e)) (fun d => some (d, σ)) := by
  simp only [iop, ifld]; cases x.ev e <;> (try rfl)
  rename_i cs; simp only []; cases cellsAt cs off n <;> rfl
theorem ifld_agg (off : Nat) (n : Option Nat) (cs : List D) : ifld off n (.agg cs) = cellsAt cs off n := rfl
theorem io_idxAddrS (sz : Nat) (x i : Opd) : iop (.idxAddrS sz x i) e σ = optO (idxAddrS sz (x.ev e) (i.ev e)) (fun d => some (d, σ)) := by simp only [iop]; cases idxAddrS sz (x.ev e) (i.ev e) <;> rfl
theorem io_idxAddrA (n sz : Nat) (x i : Opd) : iop (.idxAddrA n sz x i) e σ = optO (idxAddrA n sz (x.ev e) (i.ev e)) (fun d => some (d, σ)) := by simp only [iop]; cases idxAddrA n sz (x.ev e) (i.ev e) <;> rfl
theorem io_idxStr (x i : Opd) : iop (.idxStr x i) e σ = optO (idxStr (x.ev e) (i.ev e)) (fun d => some (d, σ)) := by simp only [iop]; cases idxStr (x.ev e) (i.ev e) <;> rfl
theorem idxStr_at (s : List UInt8) (k : IntKind) (i : Int) (h : 0 ≤ i ∧ i < s.length) : idxStr (.str s) (.int k i) = some (.int .u8 (s.getD i.toNat 0).toNat) := by
  have h1 : i.toNat < s.length := by omega
  simp [idxStr, h.1, h1]
def iext (i : Nat) (x : D) : Option D := match x with | .tuple ds => ds[i]? | _ => none
theorem io_extract (i : Nat) (x : Opd) : iop (.extract i x) e σ = optO (iext i (x.ev e)) (fun d => some (d, σ)) := by
  simp only [iop, iext]; cases x.ev e <;> (try rfl)
  rename_i ds; simp only []; cases ds[i]? <;> rfl
theorem iext_tuple (i : Nat) (ds : List D) : iext i (.tuple ds) = ds[i]? := rfl
def ils (x : D) : Option D := match x with | .str s => some (.int .i64 s.length) | _ => none
theorem io_lenStr (x : Opd) : iop (.lenStr x) e σ = optO (ils (x.ev e)) (fun d => some (d, σ)) := by simp only [iop, ils]; cases x.ev e <;> rfl
theorem ils_str (s : List UInt8) : ils (.str s) = some (.int .i64 s.length) := rfl
theorem io_lenSlc (x : Opd) : iop (.lenSlc x) e σ = optO (ilen (x.ev e)) (fun d => some (d, σ)) := by simp only [iop]; cases ilen (x.ev e) <;> rfl
theorem ilen_nils : ilen .nils = some (.int .i64 0) := rfl
theorem ilen_slc (s : Nat) (es : List D) (r : Room) : ilen (.slc s es r) = some (.int .i64 es.length) := rfl
theorem ilen_rslc (j o s n : Nat) (r : Room) : ilen (.rslc j o s n r) = some (.int .i64 n) := rfl
theorem io_append (sz bytes : Nat) (s x : Opd) : iop (.append sz bytes s x) e σ = iappend sz bytes (s.ev e) (x.ev e) σ := rfl
theorem io_appendR (sz bytes : Nat) (s x : Opd) : iop (.appendR sz bytes s x) e σ = iappendR sz bytes (s.ev e) (x.ev e) σ := rfl
theorem io_sliceArr (n sz : Nat) (x : Opd) (lo hi : Option Opd) : iop (.sliceArr n sz x lo hi) e σ = optO (isliceArr n sz (x.ev e) (evO e lo) (evO e hi)) (fun d => some (d, σ)) := by
  simp only [iop]; cases isliceArr n sz (x.ev e) (evO e lo) (evO e hi) <;> rfl
theorem io_allocT (z : List D) (T : TypeId) : iop (.allocT z T) e σ = some (.ref σ.next 0, (σ.alloc (.cells z)).alloc (.ty σ.next T (some z.length))) := rfl
theorem io_appendT (sz bytes : Nat) (el : TypeId) (s x : Opd) : iop (.appendT sz bytes el s x) e σ = iappendT sz bytes el (s.ev e) (x.ev e) σ := rfl
theorem io_boxT (T : TypeId) (x : Opd) : iop (.boxT T x) e σ = optO (dcells (x.ev e)) (fun cs => some (.ref σ.next 0, (σ.alloc (.cells cs)).alloc (.ty σ.next T (some cs.length)))) := by simp only [iop]; cases dcells (x.ev e) <;> rfl
theorem io_nilMeth (tbl : List (Nat × String)) (x : Opd) : iop (.nilMeth tbl x) e σ = optO (inilM tbl (x.ev e)) (fun d => some (d, σ)) := by simp only [iop]; cases inilM tbl (x.ev e) <;> rfl
theorem inilM_box (tbl : List (Nat × String)) (c : List D) (o : Nat) : inilM tbl (.box c o) = some (.box c o) := rfl
theorem inilM_ref (tbl : List (Nat × String)) (j o : Nat) : inilM tbl (.ref j o) = some (.ref j o) := rfl
theorem inilM_func (tbl : List (Nat × String)) (f : FuncId) (a b : List D) : inilM tbl (.func (.func f) a b) = some (.func (.func f) a b) := rfl
theorem io_sliceData (x : Opd) : iop (.sliceData x) e σ = optO (isliceData (x.ev e)) (fun d => some (d, σ)) := by simp only [iop]; cases isliceData (x.ev e) <;> rfl
theorem io_unsStr (tbl : List Nat) (x n : Opd) : iop (.unsStr tbl x n) e σ = iunsStr tbl (x.ev e) (n.ev e) σ := rfl
theorem io_toUns (x : Opd) : iop (.toUns x) e σ = optO (itoUns (x.ev e) σ) (fun d => some (d, σ)) := by simp only [iop]; cases itoUns (x.ev e) σ <;> rfl
theorem io_ofUns (tbl : List (Nat × Nat × Nat)) (x : Opd) : iop (.ofUns tbl x) e σ = optO (iofUns tbl (x.ev e) σ) (fun d => some (d, σ)) := by simp only [iop]; cases iofUns tbl (x.ev e) σ <;> rfl
theorem io_mm (mx : Bool) (x y : Opd) : iop (.mm mx x y) e σ = optO (imm2 mx (x.ev e) (y.ev e)) (fun d => some (d, σ)) := by simp only [iop]; cases imm2 mx (x.ev e) (y.ev e) <;> rfl
theorem mm_min (k : IntKind) (a b : Int) : imm2 false (.int k a) (.int k b) = some (.int k (if b < a then b else a)) := by simp [imm2]
theorem mm_max (k : IntKind) (a b : Int) : imm2 true (.int k a) (.int k b) = some (.int k (if b > a then b else a)) := by simp [imm2]
theorem io_bytesStr (x : Opd) : iop (.bytesStr x) e σ = optO (ibytesStr (x.ev e) σ) (fun d => some (d, σ)) := by simp only [iop]; cases ibytesStr (x.ev e) σ <;> rfl
theorem io_assert (t : TypeId) (z : D) (x : Opd) : iop (.assert t z x) e σ = optO (iassert t z (x.ev e)) (fun d => some (d, σ)) := by simp only [iop]; cases iassert t z (x.ev e) <;> rfl
end

theorem bi_add (k : IntKind) (a b : Int) : ibin .add (.int k a) (.int k b) = some (.int k (k.wrap (a + b))) := by simp [ibin, isShift, ibinInt]
theorem bi_sub (k : IntKind) (a b : Int) : ibin .sub (.int k a) (.int k b) = some (.int k (k.wrap (a - b))) := by simp [ibin, isShift, ibinInt]
theorem bi_mul (k : IntKind) (a b : Int) : ibin .mul (.int k a) (.int k b) = some (.int k (k.wrap (a * b))) := by simp [ibin, isShift, ibinInt]
theorem bi_quo (k : IntKind) (a b : Int) (h : b ≠ 0) : ibin .quo (.int k a) (.int k b) = some (.int k (k.wrap (a.tdiv b))) := by simp [ibin, isShift, ibinInt, h]
theorem bi_rem (k : IntKind) (a b : Int) (h : b ≠ 0) : ibin .rem (.int k a) (.int k b) = some (.int k (a.tmod b)) := by simp [ibin, isShift, ibinInt, h]
theorem bi_and (k : IntKind) (a b : Int) : ibin .and (.int k a) (.int k b) = some (.int k (ibits .and k a b)) := by simp [ibin, isShift, ibinInt]
theorem bi_or (k : IntKind) (a b : Int) : ibin .or (.int k a) (.int k b) = some (.int k (ibits .or k a b)) := by simp [ibin, isShift, ibinInt]
theorem bi_xor (k : IntKind) (a b : Int) : ibin .xor (.int k a) (.int k b) = some (.int k (ibits .xor k a b)) := by simp [ibin, isShift, ibinInt]
theorem bi_andNot (k : IntKind) (a b : Int) : ibin .andNot (.int k a) (.int k b) = some (.int k (ibits .andNot k a b)) := by simp [ibin, isShift, ibinInt]
theorem bi_eql (k : IntKind) (a b : Int) : ibin .eql (.int k a) (.int k b) = some (.bool (a == b)) := by simp [ibin, isShift, ibinInt]
theorem bi_neq (k : IntKind) (a b : Int) : ibin .neq (.int k a) (.int k b) = some (.bool (a != b)) := by simp [ibin, isShift, ibinInt]
theorem bi_lss (k : IntKind) (a b : Int) : ibin .lss (.int k a) (.int k b) = some (.bool (decide (a < b))) := by simp [ibin, isShift, ibinInt]
theorem bi_leq (k : IntKind) (a b : Int) : ibin .leq (.int k a) (.int k b) = some (.bool (decide (a ≤ b))) := by simp [ibin, isShift, ibinInt]
theorem bi_gtr (k : IntKind) (a b : Int) : ibin .gtr (.int k a) (.int k b) = some (.bool (decide (a > b))) := by simp [ibin, isShift, ibinInt]
theorem bi_geq (k : IntKind) (a b : Int) : ibin .geq (.int k a) (.int k b) = some (.bool (decide (a ≥ b))) := by simp [ibin, isShift, ibinInt]
theorem bi_shl (k k' : IntKind) (a b : Int) (h : 0 ≤ b) : ibin .shl (.int k a) (.int k' b) = some (.int k (k.wrap (a * 2 ^ min b.toNat k.bits))) := by
  simp [ibin, isShift, ishift, show ¬ b < 0 by omega]
theorem bi_shr (k k' : IntKind) (a b : Int) (h : 0 ≤ b) : ibin .shr (.int k a) (.int k' b) = some (.int k (a.fdiv (2 ^ min b.toNat k.bits))) := by
  simp [ibin, isShift, ishift, show ¬ b < 0 by omega]
theorem bs_add (a b : List UInt8) (h : a.length + b.length ≤ 9223372036854775807) : ibin .add (.str a) (.str b) = some (.str (a ++ b)) := by simp [ibin, ibinStr, h]
theorem bs_eql (a b : List UInt8) : ibin .eql (.str a) (.str b) = some (.bool (a == b)) := rfl
theorem bs_neq (a b : List UInt8) : ibin .neq (.str a) (.str b) = some (.bool (!(a == b))) := rfl
theorem iu_neg (k : IntKind) (n : Int) : iun .neg (.int k n) = some (.int k (k.wrap (0 - n))) := rfl
theorem iu_xor (k : IntKind) (n : Int) : iun .xor (.int k n) = some (.int k (ibits .xor k (if k.signed then -1 else k.max) n)) := rfl
theorem iu_not (b : Bool) : iun .not (.bool b) = some (.bool (!b)) := rfl

theorem eq_bool (a b : Bool) : ieq .bool (.bool a) (.bool b) = some (a == b) := rfl
theorem eq_p00 : ieq .ptr .nilp .nilp = some true := rfl
theorem eq_pb (c : List D) (o : Nat) : ieq .ptr (.box c o) .nilp = some false := rfl
theorem eq_pr (j o : Nat) : ieq .ptr (.ref j o) .nilp = some false := rfl
theorem eq_pb' (c : List D) (o : Nat) : ieq .ptr .nilp (.box c o) = some false := rfl
theorem eq_pr' (j o : Nat) : ieq .ptr .nilp (.ref j o) = some false := rfl
theorem eq_i00 : ieq .iface .nili .nili = some true := rfl
theorem eq_i1 (t : TypeId) (d : D) : ieq .iface (.iface t d) .nili = some false := rfl
theorem eq_i1' (t : TypeId) (d : D) : ieq .iface .nili (.iface t d) = some false := rfl
theorem eq_s00 : ieq .slice .nils .nils = some true := rfl
theorem eq_s1 (z : Nat) (es : List D) (r : Room) : ieq .slice (.slc z es r) .nils = some false := rfl
theorem eq_s2 (j o z n : Nat) (r : Room) : ieq .slice (.rslc j o z n r) .nils = some false := rfl
theorem eq_f00 : ieq .func .nilf .nilf = some true := rfl
theorem eq_f1 (f : Fn) (a b : List D) : ieq .func (.func f a b) .nilf = some false := rfl
theorem eq_m00 : ieq .map .nilm .nilm = some true := rfl

theorem ld_box (n : Option Nat) (c : List D) (off : Nat) : iload n (.box c off) σ = cellsAt c off n := rfl
def ldO (x : Option Ob) (off : Nat) (n : Option Nat) : Option D := match x with | some (.cells cs) => cellsAt cs off n | _ => none
theorem ld_ref (n : Option Nat) (j off : Nat) : iload n (.ref j off) σ = ldO (σ.obj j) off n := rfl
theorem ldO_some (cs : List D) (off : Nat) (n : Option Nat) : ldO (some (.cells cs)) off n = cellsAt cs off n := rfl
def stO (x : Option Ob) (y : Option (List D)) (sz j off : Nat) (σ : St) : Option St := match x with
  | some (.cells cs) => match y with
    | some ds => if ds.length = sz ∧ off + ds.length ≤ cs.length then some (σ.put j (some (.cells (setAt cs off ds)))) else none
    | none => none
  | _ => none
theorem st_ref (sz j off : Nat) (x : D) : istore sz (.ref j off) x σ = stO (σ.obj j) (dcells x) sz j off σ := rfl
theorem stO_some (cs ds : List D) (sz j off : Nat) (h : ds.length = sz ∧ off + ds.length ≤ cs.length) : stO (some (.cells cs)) (some ds) sz j off σ = some (σ.put j (some (.cells (setAt cs off ds)))) := by simp only [stO, if_pos h]
theorem put_obj (j i : Nat) (x : Option Ob) : (σ.put j x).obj i = if i = j then x else σ.obj i := rfl
theorem alloc_obj (i : Nat) (o : Ob) : (σ.alloc o).obj i = if i = σ.next then some o else σ.obj i := rfl
theorem put_next (j : Nat) (x : Option Ob) : (σ.put j x).next = σ.next := rfl
theorem alloc_next (o : Ob) : (σ.alloc o).next = σ.next + 1 := rfl
def scalO (x : Option D) : Option D := match x with | some d => if scal d = true then some d else none | none => none
theorem ca_none (c : List D) (off : Nat) : cellsAt c off none = scalO (c[off]?) := by simp only [cellsAt, scalO]; cases c[off]? <;> rfl
theorem scalO_some (d : D) (h : scal d = true) : scalO (some d) = some d := by simp only [scalO, if_pos h]
theorem so_bool (b : Bool) : scalO (some (.bool b)) = some (.bool b) := rfl
theorem so_int (k : IntKind) (b : Int) : scalO (some (.int k b)) = some (.int k b) := rfl
theorem so_str (b : List UInt8) : scalO (some (.str b)) = some (.str b) := rfl
theorem so_nilp  : scalO (some (.nilp )) = some (.nilp ) := rfl
theorem so_box (c : List D) (o : Nat) : scalO (some (.box c o)) = some (.box c o) := rfl
theorem so_ref (j o : Nat) : scalO (some (.ref j o)) = some (.ref j o) := rfl
theorem so_nils  : scalO (some (.nils )) = some (.nils ) := rfl
theorem so_slc (z : Nat) (es : List D) (r : Room) : scalO (some (.slc z es r)) = some (.slc z es r) := rfl
theorem so_rslc (j o z n : Nat) (r : Room) : scalO (some (.rslc j o z n r)) = some (.rslc j o z n r) := rfl
theorem so_nili  : scalO (some (.nili )) = some (.nili ) := rfl
theorem so_iface (t : TypeId) (d : D) : scalO (some (.iface t d)) = some (.iface t d) := rfl
theorem so_nilf  : scalO (some (.nilf )) = some (.nilf ) := rfl
theorem so_func (f : Fn) (a b : List D) : scalO (some (.func f a b)) = some (.func f a b) := rfl
theorem so_nilm  : scalO (some (.nilm )) = some (.nilm ) := rfl
theorem setAt_nil (cs : List D) (o : Nat) : setAt cs o [] = cs := rfl
theorem setAt_cons (cs : List D) (o : Nat) (d : D) (ds : List D) : setAt cs o (d :: ds) = setAt (cs.set o d) (o + 1) ds := rfl
theorem ca_some (c : List D) (off n : Nat) (h : off + n ≤ c.length) : cellsAt c off (some n) = some (.agg ((c.drop off).take n)) := by simp [cellsAt, h]
@[simp] theorem sc_bool (b : Bool) : scal (.bool b) = true := rfl
@[simp] theorem sc_int (k : IntKind) (b : Int) : scal (.int k b) = true := rfl
@[simp] theorem sc_str (b : List UInt8) : scal (.str b) = true := rfl
@[simp] theorem sc_nilp : scal .nilp = true := rfl
@[simp] theorem sc_box (c : List D) (o : Nat) : scal (.box c o) = true := rfl
@[simp] theorem sc_ref (j o : Nat) : scal (.ref j o) = true := rfl
@[simp] theorem sc_nils : scal .nils = true := rfl
@[simp] theorem sc_slc (z : Nat) (es : List D) (r : Room) : scal (.slc z es r) = true := rfl
@[simp] theorem sc_rslc (j o z n : Nat) (r : Room) : scal (.rslc j o z n r) = true := rfl
@[simp] theorem sc_nili : scal .nili = true := rfl
@[simp] theorem sc_iface (t : TypeId) (d : D) : scal (.iface t d) = true := rfl
@[simp] theorem sc_nilf : scal .nilf = true := rfl
@[simp] theorem sc_func (f : Fn) (a b : List D) : scal (.func f a b) = true := rfl
@[simp] theorem sc_nilm : scal .nilm = true := rfl
theorem dc_bool (b : Bool) : dcells (.bool b) = some [.bool b] := rfl
theorem dc_int (k : IntKind) (b : Int) : dcells (.int k b) = some [.int k b] := rfl
theorem dc_str (b : List UInt8) : dcells (.str b) = some [.str b] := rfl
theorem dc_nilp : dcells .nilp = some [.nilp] := rfl
theorem dc_box (c : List D) (o : Nat) : dcells (.box c o) = some [.box c o] := rfl
theorem dc_ref (j o : Nat) : dcells (.ref j o) = some [.ref j o] := rfl
theorem dc_nils : dcells .nils = some [.nils] := rfl
theorem dc_slc (z : Nat) (es : List D) (r : Room) : dcells (.slc z es r) = some [.slc z es r] := rfl
theorem dc_rslc (j o z n : Nat) (r : Room) : dcells (.rslc j o z n r) = some [.rslc j o z n r] := rfl
theorem dc_nili : dcells .nili = some [.nili] := rfl
theorem dc_iface (t : TypeId) (d : D) : dcells (.iface t d) = some [.iface t d] := rfl
theorem dc_nilf : dcells .nilf = some [.nilf] := rfl
theorem dc_func (f : Fn) (a b : List D) : dcells (.func f a b) = some [.func f a b] := rfl
theorem dc_nilm : dcells .nilm = some [.nilm] := rfl
theorem ib_nil (cs : List D) : ibuild cs [] = some cs := rfl
def ibO (cs : List D) (off size : Nat) (x : Option (List D)) (r : List (Nat × Nat × D)) : Option (List D) := match x with
  | some ds => if ds.length = size ∧ off + ds.length ≤ cs.length then ibuild (setAt cs off ds) r else none
  | none => none
theorem ib_cons (cs : List D) (off size : Nat) (d : D) (r : List (Nat × Nat × D)) : ibuild cs ((off, size, d) :: r) = ibO cs off size (dcells d) r := rfl
theorem ibO_some (cs ds : List D) (off size : Nat) (r : List (Nat × Nat × D)) (h : ds.length = size ∧ off + ds.length ≤ cs.length) : ibO cs off size (some ds) r = ibuild (setAt cs off ds) r := by simp only [ibO, if_pos h]
def allO (sz : Nat) (x : Option (List D)) : Bool := match x with | some cs => cs.length == sz | none => false
theorem all_cons (sz : Nat) (d : D) (ds : List D) : allOf sz (d :: ds) = (allO sz (dcells d) && allOf sz ds) := rfl
theorem allO_some (sz : Nat) (cs : List D) : allO sz (some cs) = (cs.length == sz) := rfl
theorem dc_agg (cs : List D) (h : cs.all scal = true) : dcells (.agg cs) = some cs := by simp only [dcells, if_pos h]
theorem all_nil (sz : Nat) : allOf sz [] = true := rfl
theorem ia_yes (t : TypeId) (z d : D) : iassert t z (.iface t d) = some (.tuple [d, .bool true]) := by simp [iassert]
theorem ia_no (t u : TypeId) (z d : D) (h : Nat.beq u t = false) : iassert t z (.iface u d) = some (.tuple [z, .bool false]) := by
  have : u ≠ t := fun e => by subst e; simp at h
  simp [iassert, this]
theorem ia_nil (t : TypeId) (z : D) : iassert t z .nili = some (.tuple [z, .bool false]) := rfl
theorem ep_some (t : Nat) (d : D) (l : List D) (ds : List (FuncId × List D)) : Env.put ⟨l, ds⟩ (some t) d = ⟨l.set t d, ds⟩ := rfl
theorem ep_none (e : Env) (d : D) : Env.put e none d = e := rfl
theorem co_func (g : FuncId) (a b xs : List D) : calleeOf (.func (.func g) a b) xs = some (g, a ++ xs ++ b) := rfl
theorem ir_nil (e : List D) : iresults e σ [] = some [] := rfl
def consO (x : Option D) (r : Option (List D)) : Option (List D) := match x, r with | some d, some ds => some (d :: ds) | _, _ => none
theorem consO_some (d : D) (ds : List D) : consO (some d) (some ds) = some (d :: ds) := rfl
theorem ir_tmp (e : List D) (t : Nat) (r : List IRes) : iresults e σ (.tmp t :: r) = consO (some (e.getD t .junk)) (iresults e σ r) := by first | (simp only [iresults, consO]; done) | (simp only [iresults, consO]; cases iresults e σ r <;> rfl)
theorem ir_cell (e : List D) (a : Nat) (n : Option Nat) (r : List IRes) : iresults e σ (.cell a n :: r) = consO (iload n (e.getD a .junk) σ) (iresults e σ r) := by
  first | (simp only [iresults, consO]; done) | (simp only [iresults, consO]; cases iload n (e.getD a .junk) σ <;> cases iresults e σ r <;> rfl)
theorem rd_one (d : D) : resD [d] = d := rfl
theorem rd_zero : resD [] = .tuple [] := rfl
theorem rd_two (a b : D) (r : List D) : resD (a :: b :: r) = .tuple (a :: b :: r) := rfl

end
end Go.Id
