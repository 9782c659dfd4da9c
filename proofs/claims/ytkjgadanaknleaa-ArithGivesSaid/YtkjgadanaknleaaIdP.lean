/-
  THE IDEAL LAYER, PART P: functions and their deferred calls.
-/
import Derived.Test.YtkjgadanaknleaaIdO
namespace Go.Id
open Go.RowKit
set_option linter.unusedVariables false
set_option linter.unusedSimpArgs false

inductive IRes where
  | tmp (t : Nat)
  | cell (a : Nat) (n : Option Nat)

def rres (P : Program) : ResultVar → Option IRes
  | .tmp t => some (.tmp t)
  | .cell a t => (aggN P t).map (.cell a)

def iresults (e : List D) (σ : St) : List IRes → Option (List D)
  | [] => some []
  | .tmp t :: r => match iresults e σ r with
    | some ds => some (e.getD t .junk :: ds)
    | none => none
  | .cell a n :: r => match iload n (e.getD a .junk) σ, iresults e σ r with
    | some d, some ds => some (d :: ds)
    | _, _ => none

def resD : List D → D
  | [d] => d
  | ds => .tuple ds

/-- What a frame is at when its deferred calls are made. -/
inductive Mode where
  | returning
  | panicking (d : D)

def ModeR (μ : Mu) : Mode → FrameMode → Prop
  | .returning, .returning => True
  | .panicking d, .panicking chain => ∃ v, VR μ d v ∧ chain = [{ v, recovered := false }]
  | _, _ => False

theorem ModeR.mono {μ ν : Mu} (h : μ.le ν) {m : Mode} {u : FrameMode} (x : ModeR μ m u) : ModeR ν m u := by
  cases m <;> cases u <;> simp only [ModeR] at x ⊢
  obtain ⟨v, h1, h2⟩ := x
  exact ⟨v, h1.mono h, h2⟩

/-- A deferred function's contract: it returns; the frame's mode behind it is m'. -/
def OkD (P : Program) (f : FuncId) (args : List D) (m : Mode) (σ : St) (R : Mode → St → Prop) : Prop :=
  ∀ (μ : Mu) (w : World) (vs : List Value) (u : FrameMode), Sim μ σ w → CRt μ args vs → ModeR μ m u →
    CallsD P f ⟨vs⟩ u w fun e u' w' => ∃ μ' σ' m', μ.le μ' ∧ Sim μ' σ' w' ∧ (∃ v, e = .returned v) ∧ ModeR μ' m' (settle u') ∧ R m' σ'

theorem OkD.mono {P : Program} {f : FuncId} {args : List D} {m : Mode} {σ : St} {R R' : Mode → St → Prop} (h : OkD P f args m σ R) (hr : ∀ m s, R m s → R' m s) : OkD P f args m σ R' :=
  fun μ w vs u hs ha hm => (h μ w vs u hs ha hm).mono fun e u' w' ⟨μ', σ', m', h1, h2, h3, h4, h5⟩ => ⟨μ', σ', m', h1, h2, h3, h4, hr _ _ h5⟩

@[congr] theorem OkD.congr {P : Program} {f f' : FuncId} {args args' : List D} {m m' : Mode} {σ σ' : St} {R : Mode → St → Prop} (h1 : f = f') (h2 : args = args') (h3 : m = m') (h4 : σ = σ') : OkD P f args m σ R = OkD P f' args' m' σ' R := by
  subst h1; subst h2; subst h3; subst h4; rfl

/-- A frame leaves: its deferred calls, then its results. -/
def ILeaves (P : Program) (ires : List IRes) (tmps : List D) (Post : Out → St → Prop) : List (FuncId × List D) → Mode → St → Prop
  | [], .returning, σ => match iresults tmps σ ires with
    | some ds => Post (.ret (resD ds)) σ
    | none => False
  | [], .panicking d, σ => Post (.panic d) σ
  | (f, as) :: ds, m, σ => goodFn P f = true ∧ OkD P f as m σ (ILeaves P ires tmps Post ds)

def bodyQ (P : Program) (ires : List IRes) (Post : Out → St → Prop) : IExit → Env → St → Prop
  | .normal, e, σ => ILeaves P ires e.tmps Post e.defers .returning σ
  | .ret, e, σ => ILeaves P ires e.tmps Post e.defers .returning σ
  | .panic d, e, σ => ILeaves P ires e.tmps Post e.defers (.panicking d) σ
  | .exit _, _, _ => False

/-- What 'recover()' tells. -/
def modeD : Mode → D
  | .panicking d => d
  | .returning => .nili

def resVal (tmps : Array Value) : ResultVar → Sem Value
  | .tmp t => pure (tmps.getD t undef)
  | .cell a t => do loadVar t (← asAddr (tmps.getD a undef))

section
variable {P : Program}

theorem iresults_sound {μ : Mu} {σ : St} {w : World} (hs : Sim μ σ w) {e : List D} {tmps : Array Value} (he : ∀ n, VR μ (e.getD n .junk) (tmps.getD n undef)) : ∀ (rs : List ResultVar) (ir : List IRes), rs.mapM (rres P) = some ir →
    ∀ ds, iresults e σ ir = some ds → ∃ vs, (rs.mapM (resVal tmps) : Sem (List Value)).run P w = .ok vs w ∧ CRt μ ds vs
  | [], ir, h, ds, hd => by
    simp at h; subst h
    simp only [iresults, Option.some.injEq] at hd; subst hd
    exact ⟨[], by simp, by simp [CRt]⟩
  | r :: rs, ir, h, ds, hd => by
    simp only [List.mapM_cons, Option.bind_eq_bind, Option.bind_eq_some_iff, Option.pure_def, Option.some.injEq] at h
    obtain ⟨i, h1, ir', h2, rfl⟩ := h
    cases r with
    | tmp t =>
      simp only [rres, Option.some.injEq] at h1
      subst h1
      simp only [iresults] at hd
      split at hd <;> (try (cases hd; done))
      rename_i ds' hds
      simp only [Option.some.injEq] at hd; subst hd
      obtain ⟨vs, g1, g2⟩ := iresults_sound hs he rs ir' h2 ds' hds
      have hv := he t
      refine ⟨tmps.getD t undef :: vs, ?_, ?_⟩
      · simp only [List.mapM_cons, resVal, Sem.run_bind, Sem.run_pure, Result.andThen_ok, g1]
      · simp only [CRt]; exact ⟨_, _, rfl, hv.1, hv.2, g2⟩
    | cell a t =>
      simp only [rres, Option.map_eq_some_iff] at h1
      obtain ⟨n, hn, rfl⟩ := h1
      simp only [iresults] at hd
      split at hd <;> (try (cases hd; done))
      rename_i d ds' hdl hds
      simp only [Option.some.injEq] at hd; subst hd
      obtain ⟨vs, g1, g2⟩ := iresults_sound hs he rs ir' h2 ds' hds
      obtain ⟨u, k1, k2⟩ := iload_sound hs hn (he a) hdl
      have hptr : ∃ x, tmps.getD a undef = .pointer (some x) := by
        have hv := he a
        cases hx : e.getD a .junk <;> rw [hx] at hdl hv <;> simp only [iload] at hdl <;> (try (cases hdl; done))
        · obtain ⟨b, o, h, _⟩ := hv.box; exact ⟨_, h⟩
        · obtain ⟨b, o, _, h⟩ := hv.ref; exact ⟨_, h⟩
      obtain ⟨x, hx⟩ := hptr
      refine ⟨u :: vs, ?_, ?_⟩
      · rw [hx] at k1
        simp only [Instr.loadAt, Instr.sureAddr, Sem.run_bind, Sem.run_pure, Result.andThen_ok] at k1
        simp only [List.mapM_cons, resVal, hx, Sem.run_bind, Result.andThen_ok]
        simp only [asAddr, Sem.run_pure, Result.andThen_ok, k1, g1]
      · simp only [CRt]; exact ⟨_, _, rfl, k2.1, k2.2, g2⟩

theorem results_sound {μ : Mu} {σ : St} {w : World} (hs : Sim μ σ w) {e : List D} {tmps : Array Value} (he : ∀ n, VR μ (e.getD n .junk) (tmps.getD n undef)) {fn : Func} {ir : List IRes} (h : fn.results.toList.mapM (rres P) = some ir)
    {ds : List D} (hd : iresults e σ ir = some ds) : ∃ v, (results fn tmps).run P w = .ok v w ∧ VR μ (resD ds) v := by
  obtain ⟨vs, h1, h2⟩ := iresults_sound hs he _ _ h ds hd
  have hrun : (results fn tmps).run P w = .ok (if h : vs.toArray.size = 1 then vs.toArray[0] else .tuple vs.toArray) w := by
    have : results fn tmps = (do let vs ← fn.results.mapM (resVal tmps); pure (if h : vs.size = 1 then vs[0] else .tuple vs)) := rfl
    rw [this, Sem.run_bind, Array.mapM_eq_mapM_toList, Sem.run_map, h1]
    simp only [Result.andThen_ok, Sem.run_pure]
  refine ⟨_, hrun, ?_⟩
  have hl := h2.length
  cases ds with
  | nil =>
    have : vs = [] := List.eq_nil_of_length_eq_zero (by simpa using hl)
    subst this
    exact VR.mk_tuple h2
  | cons d ds =>
    cases ds with
    | nil =>
      simp only [CRt] at h2
      obtain ⟨v, ws, rfl, g1, g2, rfl⟩ := h2
      exact ⟨g1, g2⟩
    | cons d2 ds =>
      simp only [List.length_cons] at hl
      rw [dif_neg (by simp; omega)]
      exact VR.mk_tuple h2

theorem settle_mode {μ : Mu} {m : Mode} {u : FrameMode} (h : ModeR μ m u) : settle u = u ∧ u ≠ .run := by
  cases m <;> cases u <;> simp only [ModeR] at h <;> (try (exact ⟨rfl, by simp⟩))
  obtain ⟨v, _, rfl⟩ := h
  exact ⟨rfl, by simp⟩

theorem ileaves_sound {ires : List IRes} {tmps : List D} {vt : Array Value} {fn : Func} (hfr : fn.results.toList.mapM (rres P) = some ires) {Post : Out → St → Prop} {R : Ending → World → Prop} :
    ∀ (ds : List (FuncId × List D)) (dv : List Deferred) (m : Mode) (u : FrameMode) (μ : Mu) (σ : St) (w : World), DR μ ds dv → ModeR μ m u → Sim μ σ w → (∀ n, VR μ (tmps.getD n .junk) (vt.getD n undef)) → ILeaves P ires tmps Post ds m σ →
    (∀ (μ' : Mu) (σ' : St) (w' : World) (out : Out) (e : Ending), μ.le μ' → Sim μ' σ' w' → PRel μ' out e → Post out σ' → R e w') → Leaves P fn vt R dv u w
  | [], dv, m, u, μ, σ, w, hd, hm, hs, ht, hi, hR => by
    simp only [DR] at hd
    subst hd
    cases m with
    | returning =>
      cases u <;> simp only [ModeR] at hm <;> (try (exact hm.elim))
      simp only [ILeaves] at hi
      split at hi <;> (try (exact hi.elim))
      rename_i ds hds
      obtain ⟨v, h1, h2⟩ := results_sound hs ht hfr hds
      exact ⟨v, h1, hR μ σ w (.ret _) _ (Mu.le.refl μ) hs h2 hi⟩
    | panicking d =>
      cases u <;> simp only [ModeR] at hm <;> (try (exact hm.elim))
      exact hR μ σ w (.panic d) _ (Mu.le.refl μ) hs hm hi
  | (f, as) :: ds, dv, m, u, μ, σ, w, hd, hm, hs, ht, hi, hR => by
    obtain ⟨d, dv', rfl, ⟨cap, xs, rfl, hcr⟩, hrest⟩ := hd
    obtain ⟨hg, hok⟩ := hi
    have hinv : (invoke (.fn (.func f) ⟨cap⟩) ⟨xs⟩).run P w = .ok (.enter f ⟨xs ++ cap⟩) w := by
      unfold goodFn at hg
      split at hg <;> (try (cases hg; done))
      rename_i fn' hfn
      simp only [Bool.and_eq_true, bne_iff_ne, ne_eq] at hg
      simp only [invoke, callFunc, Sem.run_bind, run_program, Result.andThen_ok, hfn]
      have hb : fn'.body.isNone = false := by cases hbo : fn'.body <;> simp_all
      simp [hg.2, hb]
    refine leaves_cons (settle_mode hm).2 hinv ?_
    refine (hok μ w _ u hs hcr hm).mono fun e u' w' hh => ?_
    obtain ⟨μ', σ', m', k1, k2, ⟨v, rfl⟩, k4, k5⟩ := hh
    exact ileaves_sound hfr ds dv' m' (settle u') μ' σ' w' (hrest.mono k1) k4 k2 (fun n => (ht n).mono k1) k5 (fun μ'' σ'' w'' out e g1 => hR μ'' σ'' w'' out e (k1.trans g1))

theorem enterEnv {μ : Mu} {args : List D} {vs : List Value} (h : CRt μ args vs) (n : Nat) :
    EnvR μ { tmps := args ++ List.replicate (n - args.length) .junk, defers := [] } { tmps := ⟨vs⟩ ++ Array.replicate (n - (⟨vs⟩ : Array Value).size) undef, defers := [] } := by
  have hl := h.length
  refine ⟨⟨by simp [hl], fun k => ?_⟩, rfl⟩
  simp only [List.getD_eq_getElem?_getD, Array.getD_eq_getD_getElem?]
  rw [List.getElem?_append]
  split
  · rename_i hk
    obtain ⟨v, h1, h2⟩ := h.get (i := k) (d := args[k]) (by simp [hk])
    rw [Array.getElem?_append_left (by simp; omega)]
    simp only [List.getElem?_toArray, h1, List.getElem?_eq_getElem hk, Option.getD_some]
    exact h2
  · rw [List.getElem?_replicate]
    split <;> exact VR.junk _

/-- A FUNCTION'S CONTRACT FROM ITS BODY. -/
theorem Ok_of_iwp (hmix : P.follows .mixedOrders = true) {pol : TypeId → Bool} {f : FuncId} {fn : Func} {c : Code} {ic : ICode} {ires : List IRes} (hf : P.funcs[f]? = some fn) (hb : fn.body = some c) (hc : rcode P pol c = some ic)
    (hr : fn.results.toList.mapM (rres P) = some ires) {args : List D} {σ : St} {Post : Out → St → Prop}
    (h : iwp P ic (bodyQ P ires Post) { tmps := args ++ List.replicate (fn.ntmps - args.length) .junk, defers := [] } σ) : Ok P f args σ Post := by
  intro μ w vs hs hcr
  refine calls_of_wp_defers hf hb (wp_mono (iwp_sound hmix c ic hc _ _ σ h μ _ w hs (enterEnv hcr fn.ntmps)) fun ex a w' hh => ?_)
  obtain ⟨μ', ie, e, σ', k1, k2, k3, k4, k5⟩ := hh
  have hR : ∀ (μ'' : Mu) (σ'' : St) (w'' : World) (out : Out) (en : Ending), μ'.le μ'' → Sim μ'' σ'' w'' → PRel μ'' out en → Post out σ'' → ∃ ν τ o, μ.le ν ∧ Sim ν τ w'' ∧ PRel ν o en ∧ Post o τ :=
    fun μ'' σ'' w'' out en g1 g2 g3 g4 => ⟨μ'', σ'', out, k1.trans g1, g2, g3, g4⟩
  cases ie with
  | normal =>
    cases ex <;> simp only [ExitR] at k2 <;> (try (exact k2.elim))
    exact ileaves_sound hr e.defers a.defers .returning .returning μ' σ' w' k3.defers trivial k4 k3.tmps.get k5 hR
  | ret =>
    cases ex <;> simp only [ExitR] at k2 <;> (try (exact k2.elim))
    exact ileaves_sound hr e.defers a.defers .returning .returning μ' σ' w' k3.defers trivial k4 k3.tmps.get k5 hR
  | panic d =>
    cases ex <;> simp only [ExitR] at k2 <;> (try (exact k2.elim))
    exact ileaves_sound hr e.defers a.defers (.panicking d) (.panicking _) μ' σ' w' k3.defers k2 k4 k3.tmps.get k5 hR
  | exit i => exact k5.elim

/-- The end of a deferred function that defers nothing and does not panic. -/
def bodyQD (P : Program) (ires : List IRes) (Post : St → Prop) : IExit → Env → St → Prop
  | .normal, e, σ => e.defers = [] ∧ (iresults e.tmps σ ires).isSome = true ∧ Post σ
  | .ret, e, σ => e.defers = [] ∧ (iresults e.tmps σ ires).isSome = true ∧ Post σ
  | _, _, _ => False

/-- A deferred function that doesn't ask for the panic. -/
theorem OkD_of_iwp (hmix : P.follows .mixedOrders = true) {pol : TypeId → Bool} {f : FuncId} {fn : Func} {c : Code} {ic : ICode} {ires : List IRes} (hf : P.funcs[f]? = some fn) (hb : fn.body = some c) (hc : rcode P pol c = some ic)
    (hr : fn.results.toList.mapM (rres P) = some ires) {args : List D} {m : Mode} {σ : St} {R : Mode → St → Prop}
    (h : iwp P ic (bodyQD P ires (R m)) { tmps := args ++ List.replicate (fn.ntmps - args.length) .junk, defers := [] } σ) : OkD P f args m σ R := by
  intro μ w vs u hs hcr hm
  refine (callsD_of_wp (u := u) (R := fun e w' => ∃ μ' σ', μ.le μ' ∧ Sim μ' σ' w' ∧ (∃ v, e = .returned v) ∧ R m σ') hf hb (wp_mono (iwp_sound hmix c ic hc _ _ σ h μ _ w hs (enterEnv hcr fn.ntmps)) fun ex a w' hh => ?_)).mono fun e u' w' hh => ?_
  · obtain ⟨μ', ie, e, σ', k1, k2, k3, k4, k5⟩ := hh
    have key : e.defers = [] ∧ (iresults e.tmps σ' ires).isSome = true ∧ R m σ' → bodyPost P fn (fun e w' => ∃ μ' σ', μ.le μ' ∧ Sim μ' σ' w' ∧ (∃ v, e = .returned v) ∧ R m σ') .ret a w' := by
      rintro ⟨g1, g2, g3⟩
      have hd := k3.defers
      rw [g1] at hd
      obtain ⟨ds, hds⟩ := Option.isSome_iff_exists.1 g2
      obtain ⟨v, h1, _⟩ := results_sound k4 k3.tmps.get hr hds
      exact ⟨hd, v, h1, μ', σ', k1, k4, ⟨v, rfl⟩, g3⟩
    cases ie with
    | normal => cases ex <;> simp only [ExitR] at k2 <;> (try (exact k2.elim)); exact key k5
    | ret => cases ex <;> simp only [ExitR] at k2 <;> (try (exact k2.elim)); exact key k5
    | panic d => exact k5.elim
    | exit i => exact k5.elim
  · obtain ⟨rfl, μ', σ', k1, k2, k3, k4⟩ := hh
    exact ⟨μ', σ', m, k1, k2, k3, by rw [(settle_mode hm).1]; exact hm.mono k1, k4⟩

/-- A deferred function whose first operation is 'recover()'. -/
theorem OkD_recover (hmix : P.follows .mixedOrders = true) {pol : TypeId → Bool} {f : FuncId} {fn : Func} {id : Nat} {o : Oper} {t : Nat} {c : Code} {ic : ICode} {ires : List IRes} (hf : P.funcs[f]? = some fn)
    (hb : fn.body = some (.seq (.region id #[o] false) c)) (hop : (match o.op with | .call { callee := .builtin .recover, args, .. } => args.isEmpty | _ => false) = true) (hdst : o.dst = some t) (hgu : o.guard = none)
    (hc : rcode P pol c = some ic)
    (hr : fn.results.toList.mapM (rres P) = some ires) {args : List D} {m : Mode} {σ : St} {R : Mode → St → Prop}
    (h : iwp P ic (bodyQD P ires (R .returning)) (Env.put { tmps := args ++ List.replicate (fn.ntmps - args.length) .junk, defers := [] } (some t) (modeD m)) σ) : OkD P f args m σ R := by
  intro μ w vs u hs hcr hm
  refine callsD_of_wpS hf hb fun c₀ cs hmode => ?_
  have he := enterEnv hcr fn.ntmps
  have hrun : ∀ a : Act, (execOp a.eval o).run P w = .ok .recover w := by
    intro a
    split at hop <;> (try (cases hop; done))
    rename_i as ts hopp
    simp [execOp, hopp, resolve, invoke, builtin]
  have hwant : ∀ tm : Array Value, Region.wanted o (yielded #[o] tm) = true := by
    intro tm; simp [Region.wanted, hgu]
  -- the rest
  have rest : ∀ (a : Act) (cs' : List Frame) (u' : FrameMode), cs' = { c₀ with mode := u' } :: cs → settle u' = .returning → EnvR μ (Env.put { tmps := args ++ List.replicate (fn.ntmps - args.length) .junk, defers := [] } (some t) (modeD m)) a →
      c.wpS P (bodyPostS P fn c₀ cs (fun e u' w' => ∃ μ' σ' m', μ.le μ' ∧ Sim μ' σ' w' ∧ (∃ v, e = .returned v) ∧ ModeR μ' m' (settle u') ∧ R m' σ')) a cs' w := by
    intro a cs' u' hcs hset hea
    refine wpS_of_wp (wp_mono (iwp_sound hmix c ic hc _ _ σ h μ a w hs hea) fun ex a' w' hh => ?_)
    obtain ⟨μ', ie, e, σ', k1, k2, k3, k4, k5⟩ := hh
    have key : e.defers = [] ∧ (iresults e.tmps σ' ires).isSome = true ∧ R .returning σ' →
        bodyPostS P fn c₀ cs (fun e u' w' => ∃ μ' σ' m', μ.le μ' ∧ Sim μ' σ' w' ∧ (∃ v, e = .returned v) ∧ ModeR μ' m' (settle u') ∧ R m' σ') .ret a' cs' w' := by
      rintro ⟨g1, g2, g3⟩
      have hd := k3.defers
      rw [g1] at hd
      obtain ⟨ds, hds⟩ := Option.isSome_iff_exists.1 g2
      obtain ⟨v, h1, _⟩ := results_sound k4 k3.tmps.get hr hds
      exact ⟨hd, u', hcs, v, h1, μ', σ', .returning, k1, k4, ⟨v, rfl⟩, by rw [hset]; trivial, g3⟩
    cases ie with
    | normal => cases ex <;> simp only [ExitR] at k2 <;> (try (exact k2.elim)); exact key k5
    | ret => cases ex <;> simp only [ExitR] at k2 <;> (try (exact k2.elim)); exact key k5
    | panic d => exact k5.elim
    | exit i => exact k5.elim
  refine wpS_seq (wpS_region ?_)
  have hl : List.range (#[o] : Array Oper).size = [0] := rfl
  rw [hl]
  simp only [wpOpsS]
  rw [show (#[o] : Array Oper)[0]? = some o from rfl]
  simp only [hwant, if_true, hrun]
  cases m with
  | returning =>
    cases u <;> simp only [ModeR] at hm <;> (try (exact hm.elim))
    have hrec : recoverD (c₀ :: cs) = none := by simp [recoverD, hmode]
    simp only [hrec, Exit.thenS, hdst]
    refine rest _ _ .returning (by rw [← hmode]) rfl ?_
    exact he.put (some t) ⟨rfl, by simp [CR, vcells, modeD]⟩
  | panicking d =>
    cases u <;> simp only [ModeR] at hm <;> (try (exact hm.elim))
    obtain ⟨v, hv, rfl⟩ := hm
    have hrec : recoverD (c₀ :: cs) = some (v, { c₀ with mode := .panicking [{ v, recovered := true }] } :: cs) := by simp [recoverD, hmode]
    simp only [hrec, Exit.thenS, hdst]
    refine rest _ _ (.panicking [{ v, recovered := true }]) rfl (by simp [settle]) ?_
    exact he.put (some t) hv

end
/-! The equations, made here once for all texts behind. -/
example := @iresults.eq_1
example := @resD.eq_1

end Go.Id
