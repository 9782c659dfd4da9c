/-
  THE IDEAL LAYER, PART O: code, loops, functions, deferred calls.
-/
import Derived.Test.YtkjgadanaknleaaIdN
namespace Go.Id
open Go.RowKit
set_option linter.unusedVariables false
set_option linter.unusedSimpArgs false

inductive ICode where
  | skip
  | region (ios : List IOper)
  | dregion (ios : List IOper) (alld : List Nat) (plan : List (Nat × Option (List Nat)))
  | seq (a b : ICode)
  | cond (c : Opd) (thn els : ICode)
  | block (id : Nat) (c : ICode)
  | loop (c : ICode)
  | exit (id : Nat)
  | ret

/-! The plan of a region whose order is open. -/
def movableB (ops : Array Oper) (ios : List IOper) (i : Nat) (o : IOper) : Bool :=
  o.op.looks && o.dst.isSome && !dstIn o o.reads && (List.range ops.size).all fun q => q == i || match ios[q]? with
    | some oq => o.dst != oq.dst && (!dstIn o oq.reads || bef ops q i) && (!dstIn oq o.reads || bef ops i q || bef ops q i)
    | none => false

def mkPlanGo (ops : Array Oper) (ios : List IOper) (mov : List Bool) : Nat → List Nat → List Nat → List (Nat × Option (List Nat)) → List (Nat × Option (List Nat))
  | 0, _, _, acc => acc.reverse
  | fuel + 1, todo, held, acc =>
    let ready := todo.filter fun i => match ops[i]? with
      | some o => o.after.all fun e => !Region.binds .any e || !todo.contains e.on
      | none => false
    match ready.find? fun i => mov.getD i false with
    | some i => mkPlanGo ops ios mov fuel (todo.filter (· != i)) ((match ios[i]? with | some o => if isLoad o then [i] else [] | none => []) ++ held) ((i, none) :: acc)
    | none => match ready with
      | i :: _ => mkPlanGo ops ios mov fuel (todo.filter (· != i)) held ((i, some (held.filter fun j => !bef ops i j)) :: acc)
      | [] => acc.reverse

def mkPlan (ops : Array Oper) (ios : List IOper) : List (Nat × Option (List Nat)) :=
  mkPlanGo ops ios ((List.range ops.size).map fun i => match ios[i]? with | some o => movableB ops ios i o | none => false) ops.size (List.range ops.size) [] []

def planOk (ops : Array Oper) (ios : List IOper) (alld : List Nat) (pl : List (Nat × Option (List Nat))) : Bool :=
  sufOk ops ios alld [] [] pl && (List.range ops.size).all fun i => pl.any fun q => q.1 == i

def rcode (P : Program) (pol : TypeId → Bool) : Code → Option ICode
  | .skip => some .skip
  | .region _ ops draw => do
    let ios ← (List.range ops.size).mapM (rxAt P pol ops)
    if draw then
      let alld := ios.filterMap (·.dst)
      let pl := mkPlan ops ios
      if planOk ops ios alld pl then some (.dregion ios alld pl) else none
    else some (.region ios)
  | .seq a b => do some (.seq (← rcode P pol a) (← rcode P pol b))
  | .cond c a b => do some (.cond (← ropd c) (← rcode P pol a) (← rcode P pol b))
  | .block id c => do some (.block id (← rcode P pol c))
  | .loop c => do some (.loop (← rcode P pol c))
  | .exit id => some (.exit id)
  | .ret => some .ret
  | _ => none

def thenI (K : Env → St → Prop) (Q : IExit → Env → St → Prop) : IExit → Env → St → Prop
  | .normal, e, σ => K e σ
  | x, e, σ => Q x e σ

/-- A place where less may be known from here on. -/
def Cut (K : Env → St → Prop) (e : Env) (σ : St) : Prop := ∃ e₀ σ₀, Less e₀ e ∧ Drops σ σ₀ ∧ K e₀ σ₀
theorem Cut.go {K : Env → St → Prop} {e : Env} {σ : St} (h : K e σ) : Cut K e σ := ⟨e, σ, Less.refl e, Drops.refl σ, h⟩
theorem Cut.to {K : Env → St → Prop} {e : Env} {σ : St} (e₀ : Env) (hl : Less e₀ e) (h : K e₀ σ) : Cut K e σ := ⟨e₀, σ, hl, Drops.refl σ, h⟩

def inBlockI (id : Nat) (Q : IExit → Env → St → Prop) : IExit → Env → St → Prop
  | .exit id', e, σ => if id' = id then Q .normal e σ else Q (.exit id') e σ
  | x, e, σ => Q x e σ

def iwp (P : Program) : ICode → (IExit → Env → St → Prop) → Env → St → Prop
  | .skip, Q, e, σ => Q .normal e σ
  | .region ios, Q, e, σ => iwpOps P ios (Q .normal) Q e σ
  | .dregion ios alld pl, Q, e, σ => (alld.all fun t => decide (t < e.tmps.length)) = true ∧ iwpPlan P ios alld (Q .normal) Q pl e σ
  | .seq a b, Q, e, σ => iwp P a (thenI (Cut (iwp P b Q)) Q) e σ
  | .cond c a b, Q, e, σ => match c.ev e.tmps with
    | .bool t => Br t (iwp P a Q e σ) (iwp P b Q e σ)
    | _ => False
  | .block id c, Q, e, σ => iwp P c (inBlockI id Q) e σ
  | .loop c, Q, e, σ => ∃ I : Nat → Env → St → Prop, (∃ n, Cut (I n) e σ) ∧ ∀ n e σ, I n e σ → iwp P c (thenI (fun e' σ' => ∃ m, m < n ∧ Cut (I m) e' σ') Q) e σ
  | .exit id, Q, e, σ => Q (.exit id) e σ
  | .ret, Q, e, σ => Q .ret e σ

section
variable {P : Program}

theorem wp_loop_n {c : Code} {Q : Exit → Act → World → Prop} (I : Nat → Act → World → Prop)
    (round : ∀ n a w, I n a w → c.wp P (Exit.then (fun a' w' => ∃ m, m < n ∧ I m a' w') Q) a w) {n : Nat} {a : Act} {w : World} (h₀ : I n a w) : (Code.loop c).wp P Q a w := by
  intro b k cs
  have key : ∀ n a w, I n a w → ∃ e a' w', Q e a' w' ∧ Arrives P (lone (b.at a (.code c :: .inLoop c :: k)) cs w) b k cs e a' w' := by
    intro n
    induction n using Nat.strongRecOn with
    | _ n ih =>
      intro a w hI
      obtain ⟨e, a₁, w₁, hq, harr⟩ := round n a w hI b (.inLoop c :: k) cs
      cases e with
      | normal =>
        obtain ⟨m, hlt, hI₁⟩ := hq
        obtain ⟨e₂, a₂, w₂, hq₂, harr₂⟩ := ih m hlt a₁ w₁ hI₁
        exact ⟨e₂, a₂, w₂, hq₂, .of_steps (Steps.trans harr (.one step_inLoop)) harr₂⟩
      | exit id => exact ⟨_, a₁, w₁, hq, .pass (x := .inLoop c) rfl (fun _ _ => .inl (by simp)) harr⟩
      | goto l => exact ⟨_, a₁, w₁, hq, .pass (x := .inLoop c) rfl (fun _ _ => .inl (by simp)) harr⟩
      | ret => exact ⟨_, a₁, w₁, hq, .pass (x := .inLoop c) rfl (fun _ _ => .inl (by simp)) harr⟩
      | panic ch => exact ⟨_, a₁, w₁, hq, .pass (x := .inLoop c) rfl (fun _ _ => .inl (by simp)) harr⟩
      | outgrown => exact ⟨_, a₁, w₁, hq, .pass (x := .inLoop c) rfl (fun _ _ => .inl (by simp)) harr⟩
  obtain ⟨e, a', w', hq, harr⟩ := key _ a w h₀
  exact ⟨e, a', w', hq, .of_steps (.one step_loop) harr⟩

theorem iwp_sound (hmix : P.follows .mixedOrders = true) {pol : TypeId → Bool} : ∀ (c : Code) (ic : ICode), rcode P pol c = some ic → ∀ (Q : IExit → Env → St → Prop) (e : Env) (σ : St), iwp P ic Q e σ →
    ∀ (μ : Mu) (a : Act) (w : World), Sim μ σ w → EnvR μ e a → c.wp P (lift μ Q) a w := by
  intro c
  induction c with
  | skip =>
    intro ic hr Q e σ hi μ a w hs he
    simp only [rcode, Option.some.injEq] at hr
    subst hr
    exact wp_skip ⟨μ, .normal, e, σ, Mu.le.refl μ, trivial, he, hs, hi⟩
  | region id ops draw =>
    intro ic hr Q e σ hi μ a w hs he
    simp only [rcode, Option.bind_eq_bind, Option.bind_eq_some_iff] at hr
    obtain ⟨ios, h1, hr⟩ := hr
    have hn : ∀ (μ' : Mu) (e' : Env) (a' : Act) (σ' : St) (w' : World), μ.le μ' → EnvR μ' e' a' → Sim μ' σ' w' → Q .normal e' σ' → lift μ Q .normal a' w' :=
      fun μ' e' a' σ' w' k1 k2 k3 k4 => ⟨μ', .normal, e', σ', k1, trivial, k2, k3, k4⟩
    have hq : ∀ (μ' : Mu) (d : D) (v : Value) (e' : Env) (a' : Act) (σ' : St) (w' : World), μ.le μ' → VR μ' d v → EnvR μ' e' a' → Sim μ' σ' w' → Q (.panic d) e' σ' → lift μ Q (.panic [{ v, recovered := false }]) a' w' :=
      fun μ' d v e' a' σ' w' k1 k2 k3 k4 k5 => ⟨μ', .panic d, e', σ', k1, ⟨v, k2, rfl⟩, k3, k4, k5⟩
    cases draw with
    | false =>
      simp only [Bool.false_eq_true, if_false, Option.some.injEq] at hr
      subst hr
      exact wp_region (iwpOps_sound _ _ h1 μ e a σ w he hs hi hn hq)
    | true =>
      simp only [if_true] at hr
      split at hr <;> (try (cases hr; done))
      rename_i hpl
      simp only [Option.some.injEq] at hr
      subst hr
      obtain ⟨hl, hi⟩ := hi
      simp only [planOk, Bool.and_eq_true] at hpl
      have hs' := hs.drawn (w.drawn + 1)
      refine wp_region_any hmix (plan_run h1 hpl.1 (fun i hi' => ?_) ops.size (Array.replicate ops.size false) [] (mkPlan ops ios) e a σ _ μ (by simp) (fun t ht => by simpa using List.all_eq_true.1 hl t ht)
        ⟨by simp, fun j hj => ?_, fun j k hj => ?_, fun j must hj => ?_, fun j hj => ?_, [], ?_, ?_, ?_⟩ hs' hi (by simpa using List.countP_le_length (l := List.range ops.size)) hn hq)
      · have := List.all_eq_true.1 hpl.2 i (by simp [hi'])
        simp only [List.any_eq_true, beq_iff_eq] at this
        obtain ⟨⟨j, b⟩, h3, rfl⟩ := this
        exact ⟨b, h3⟩
      · simp [Array.getD_eq_getD_getElem?, Array.getElem?_replicate] at hj
        split at hj <;> simp at hj
      · simp [Array.getD_eq_getD_getElem?, Array.getElem?_replicate] at hj
        split at hj <;> simp at hj
      · cases hj
      · cases hj
      · intro t ht; cases ht
      · intro j o t hj; cases hj
      · exact EnvR.less (e := e) ⟨by simp [Env.junks], fun n => .inr (by rw [junks_getD]; simp), rfl⟩ he
  | seq x y ihx ihy =>
    intro ic hr Q e σ hi μ a w hs he
    simp only [rcode, Option.bind_eq_bind, Option.bind_eq_some_iff, Option.some.injEq] at hr
    obtain ⟨ix, h1, iy, h2, rfl⟩ := hr
    refine wp_seq (wp_mono (ihx ix h1 _ e σ hi μ a w hs he) fun ex a' w' hh => ?_)
    obtain ⟨μ', ie, e', σ', k1, k2, k3, k4, k5⟩ := hh
    cases ie with
    | normal =>
      cases ex <;> simp only [ExitR] at k2 <;> (try (exact k2.elim))
      obtain ⟨e₀, σ₀, g1, gd, g2⟩ := k5
      exact wp_mono (ihy iy h2 Q e₀ σ₀ g2 μ' a' w' (k4.drops gd) (k3.less g1)) (lift.mono k1 fun _ _ _ h => h)
    | exit i => cases ex <;> simp only [ExitR] at k2 <;> (try (exact k2.elim)); exact ⟨μ', .exit i, e', σ', k1, k2, k3, k4, k5⟩
    | ret => cases ex <;> simp only [ExitR] at k2 <;> (try (exact k2.elim)); exact ⟨μ', .ret, e', σ', k1, trivial, k3, k4, k5⟩
    | panic d => cases ex <;> simp only [ExitR] at k2 <;> (try (exact k2.elim)); exact ⟨μ', .panic d, e', σ', k1, k2, k3, k4, k5⟩
  | cond c x y ihx ihy =>
    intro ic hr Q e σ hi μ a w hs he
    simp only [rcode, Option.bind_eq_bind, Option.bind_eq_some_iff, Option.some.injEq] at hr
    obtain ⟨oc, h0, ix, h1, iy, h2, rfl⟩ := hr
    simp only [iwp] at hi
    split at hi <;> (try (exact hi.elim))
    rename_i t ht
    have hv := ropd_sound he.tmps h0
    rw [ht] at hv
    exact wp_cond_split hv.bool (fun h => ihx ix h1 Q e σ (hi.1 h) μ a w hs he) (fun h => ihy iy h2 Q e σ (hi.2 h) μ a w hs he)
  | block id c ih =>
    intro ic hr Q e σ hi μ a w hs he
    simp only [rcode, Option.bind_eq_bind, Option.bind_eq_some_iff, Option.some.injEq] at hr
    obtain ⟨ix, h1, rfl⟩ := hr
    refine wp_block (wp_mono (ih ix h1 _ e σ hi μ a w hs he) fun ex a' w' hh => ?_)
    obtain ⟨μ', ie, e', σ', k1, k2, k3, k4, k5⟩ := hh
    cases ie with
    | normal => cases ex <;> simp only [ExitR] at k2 <;> (try (exact k2.elim)); exact ⟨μ', .normal, e', σ', k1, trivial, k3, k4, k5⟩
    | exit i =>
      cases ex <;> simp only [ExitR] at k2 <;> (try (exact k2.elim))
      subst k2
      simp only [Exit.inBlock]
      simp only [inBlockI] at k5
      split
      · rename_i hid
        rw [if_pos hid] at k5
        exact ⟨μ', .normal, e', σ', k1, trivial, k3, k4, k5⟩
      · rename_i hid
        rw [if_neg hid] at k5
        exact ⟨μ', .exit i, e', σ', k1, rfl, k3, k4, k5⟩
    | ret => cases ex <;> simp only [ExitR] at k2 <;> (try (exact k2.elim)); exact ⟨μ', .ret, e', σ', k1, trivial, k3, k4, k5⟩
    | panic d => cases ex <;> simp only [ExitR] at k2 <;> (try (exact k2.elim)); exact ⟨μ', .panic d, e', σ', k1, k2, k3, k4, k5⟩
  | loop c ih =>
    intro ic hr Q e σ hi μ a w hs he
    simp only [rcode, Option.bind_eq_bind, Option.bind_eq_some_iff, Option.some.injEq] at hr
    obtain ⟨ix, h1, rfl⟩ := hr
    obtain ⟨I, ⟨n, e₀, σ₀, g1, gd, g2⟩, hround⟩ := hi
    refine wp_loop_n (fun n a w => ∃ μ' e σ, μ.le μ' ∧ EnvR μ' e a ∧ Sim μ' σ w ∧ I n e σ) (fun n a w hh => ?_) (n := n) ⟨μ, e₀, σ₀, Mu.le.refl μ, he.less g1, hs.drops gd, g2⟩
    obtain ⟨μ₁, e₁, σ₁, k1, k2, k3, k4⟩ := hh
    refine wp_mono (ih ix h1 _ e₁ σ₁ (hround n e₁ σ₁ k4) μ₁ a w k3 k2) fun ex a' w' hh => ?_
    obtain ⟨μ', ie, e', σ', q1, q2, q3, q4, q5⟩ := hh
    cases ie with
    | normal =>
      cases ex <;> simp only [ExitR] at q2 <;> (try (exact q2.elim))
      obtain ⟨m, hm, e₂, σ₂, r1, rd, r2⟩ := q5
      exact ⟨m, hm, μ', e₂, σ₂, k1.trans q1, q3.less r1, q4.drops rd, r2⟩
    | exit i => cases ex <;> simp only [ExitR] at q2 <;> (try (exact q2.elim)); exact ⟨μ', .exit i, e', σ', k1.trans q1, q2, q3, q4, q5⟩
    | ret => cases ex <;> simp only [ExitR] at q2 <;> (try (exact q2.elim)); exact ⟨μ', .ret, e', σ', k1.trans q1, trivial, q3, q4, q5⟩
    | panic d => cases ex <;> simp only [ExitR] at q2 <;> (try (exact q2.elim)); exact ⟨μ', .panic d, e', σ', k1.trans q1, q2, q3, q4, q5⟩
  | exit id =>
    intro ic hr Q e σ hi μ a w hs he
    simp only [rcode, Option.some.injEq] at hr
    subst hr
    exact wp_exit ⟨μ, .exit id, e, σ, Mu.le.refl μ, rfl, he, hs, hi⟩
  | ret =>
    intro ic hr Q e σ hi μ a w hs he
    simp only [rcode, Option.some.injEq] at hr
    subst hr
    exact wp_ret ⟨μ, .ret, e, σ, Mu.le.refl μ, trivial, he, hs, hi⟩
  | rangeFunc f ps asg b _ _ => intro ic hr; simp [rcode] at hr
  | scope b _ => intro ic hr; simp [rcode] at hr
  | label l => intro ic hr; simp [rcode] at hr
  | goto l => intro ic hr; simp [rcode] at hr
  | refuse s => intro ic hr; simp [rcode] at hr

end
end Go.Id
