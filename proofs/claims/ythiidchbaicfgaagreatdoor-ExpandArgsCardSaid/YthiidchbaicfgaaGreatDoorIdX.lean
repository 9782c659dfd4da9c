/-
  THE IDEAL LAYER, PART X: a run reckoned by the kernel; and a call begun anew in an empty store.
-/
import Derived.Test.YthiidchbaicfgaaGreatDoorIdW
namespace Go.Id
open Go.RowKit
set_option linter.unusedVariables false
set_option linter.unusedSimpArgs false

/-! Data that are the same. -/
mutual
def beqD : D → D → Bool
  | .junk, y => match y with | .junk => true | _ => false
  | .bool a, y => match y with | .bool b => a == b | _ => false
  | .int k a, y => match y with | .int k' b => decide (k = k') && a == b | _ => false
  | .str a, y => match y with | .str b => a == b | _ => false
  | .nilp, y => match y with | .nilp => true | _ => false
  | .box c o, y => match y with | .box c' o' => o == o' && beqL c c' | _ => false
  | .ref j o, y => match y with | .ref j' o' => j == j' && o == o' | _ => false
  | .nils, y => match y with | .nils => true | _ => false
  | .slc sz es r, y => match y with | .slc sz' es' r' => sz == sz' && decide (r = r') && beqL es es' | _ => false
  | .rslc j o sz n r, y => match y with | .rslc j' o' sz' n' r' => j == j' && o == o' && sz == sz' && n == n' && decide (r = r') | _ => false
  | .agg cs, y => match y with | .agg cs' => beqL cs cs' | _ => false
  | .tuple cs, y => match y with | .tuple cs' => beqL cs cs' | _ => false
  | .nili, y => match y with | .nili => true | _ => false
  | .iface t d, y => match y with | .iface t' d' => Nat.beq t t' && beqD d d' | _ => false
  | .nilf, y => match y with | .nilf => true | _ => false
  | .func _ _ _, _ => false
  | .nilm, y => match y with | .nilm => true | _ => false
  | .map j, y => match y with | .map j' => j == j' | _ => false
  | .opq _, _ => false
def beqL : List D → List D → Bool
  | [], y => match y with | [] => true | _ => false
  | d :: ds, y => match y with | d' :: ds' => beqD d d' && beqL ds ds' | _ => false
end
mutual
theorem beqD_eq : ∀ (x y : D), beqD x y = true → x = y
  | .junk, y, h => by cases y <;> simp [beqD] at h <;> rfl
  | .bool a, y, h => by cases y <;> simp [beqD] at h; rw [h]
  | .int k a, y, h => by cases y <;> simp [beqD] at h; rw [h.1, h.2]
  | .str a, y, h => by cases y <;> simp [beqD] at h; rw [h]
  | .nilp, y, h => by cases y <;> simp [beqD] at h <;> rfl
  | .box c o, y, h => by
    cases y <;> simp [beqD] at h
    rw [h.1, beqL_eq _ _ h.2]
  | .ref j o, y, h => by cases y <;> simp [beqD] at h; rw [h.1, h.2]
  | .nils, y, h => by cases y <;> simp [beqD] at h <;> rfl
  | .slc sz es r, y, h => by
    cases y <;> simp [beqD] at h
    rw [h.1.1, h.1.2, beqL_eq _ _ h.2]
  | .rslc j o sz n r, y, h => by cases y <;> simp [beqD] at h; obtain ⟨⟨⟨⟨h1, h2⟩, h3⟩, h4⟩, h5⟩ := h; rw [h1, h2, h3, h4, h5]
  | .agg cs, y, h => by cases y <;> simp [beqD] at h; rw [beqL_eq _ _ h]
  | .tuple cs, y, h => by cases y <;> simp [beqD] at h; rw [beqL_eq _ _ h]
  | .nili, y, h => by cases y <;> simp [beqD] at h <;> rfl
  | .iface t d, y, h => by
    cases y <;> simp [beqD] at h
    rw [h.1, beqD_eq _ _ h.2]
  | .nilf, y, h => by cases y <;> simp [beqD] at h <;> rfl
  | .func _ _ _, y, h => by simp [beqD] at h
  | .nilm, y, h => by cases y <;> simp [beqD] at h <;> rfl
  | .map j, y, h => by cases y <;> simp [beqD] at h; rw [h]
  | .opq _, y, h => by simp [beqD] at h
theorem beqL_eq : ∀ (x y : List D), beqL x y = true → x = y
  | [], y, h => by cases y <;> simp [beqL] at h; rfl
  | d :: ds, y, h => by
    cases y <;> simp [beqL] at h
    rw [beqD_eq _ _ h.1, beqL_eq _ _ h.2]
end

/-! One operation, a region, code, a function: by steps. -/
abbrev Call := FuncId → List D → St → Option (Out × St)
abbrev Ext := FuncId → List D → St → Option (D × St)
def runX (P : Program) (X : Ext) (C : Call) (o : IXop) (dst : Option Nat) (e : Env) (σ : St) : Option (IExit × Env × St) :=
  match o with
  | .v o => match iop o e.tmps σ with
    | some (d, σ') => some (.normal, e.put dst d, σ')
    | none => none
  | .call f args => match calleeOf (f.ev e.tmps) (args.map (·.ev e.tmps)) with
    | some (g, ys) => if goodFn P g then match C g ys σ with
      | some (.ret d, σ') => some (.normal, e.put dst d, σ')
      | some (.panic d, σ') => some (.panic d, e, σ')
      | none => none
      else none
    | none => none
  | .panic x => match x.ev e.tmps with
    | .iface t d => some (.panic (.iface t d), e, σ)
    | _ => none
  | .defer f args => match calleeOf (f.ev e.tmps) (args.map (·.ev e.tmps)) with
    | some (g, ys) => some (.normal, Env.put { e with defers := (g, ys) :: e.defers } dst .junk, σ)
    | none => none
  | .recover => none
  | .ext g args => match X g (args.map (·.ev e.tmps)) σ with
    | some (d, σ') => some (.normal, e.put dst d, σ')
    | none => none
  | .inv x name args => match x.ev e.tmps with
    | .iface t d => match methD P t name with
      | some g => if goodFn P g then match C g (d :: args.map (·.ev e.tmps)) σ with
        | some (.ret d, σ') => some (.normal, e.put dst d, σ')
        | some (.panic d, σ') => some (.panic d, e, σ')
        | none => none
        else none
      | none => none
    | _ => none
def runG (P : Program) (X : Ext) (C : Call) (o : IOper) (e : Env) (σ : St) : Option (IExit × Env × St) :=
  match o.guard with
  | none => runX P X C o.op o.dst e σ
  | some (g, want) => match gval (e.tmps.getD g .junk) want with
    | some b => if b then runX P X C o.op o.dst e σ else some (.normal, e.put o.dst (.tuple []), σ)
    | none => none
def runOps (P : Program) (X : Ext) (C : Call) : List IOper → Env → St → Option (IExit × Env × St)
  | [], e, σ => some (.normal, e, σ)
  | o :: os, e, σ => match runG P X C o e σ with
    | some (.normal, e', σ') => runOps P X C os e' σ'
    | r => r
def sawB (o : IOper) (x : Option D) (e : Env) : Bool := match x with | some d => beqD d (dstv o e) | none => false
def stillB (o : IOper) (e : Env) (σ : St) : Bool :=
  match o.op with
  | .v (.load n x) => match o.guard with
    | none => sawB o (iload n (x.ev e.tmps) σ) e
    | some (g, want) => match gval (e.tmps.getD g .junk) want with
      | some b => if b then sawB o (iload n (x.ev e.tmps) σ) e else true
      | none => true
  | _ => true
def stillsB (ios : List IOper) : List Nat → Env → St → Bool
  | [], _, _ => true
  | j :: r, e, σ => (match ios[j]? with | some o => stillB o e σ | none => true) && stillsB ios r e σ
def runPlan (P : Program) (X : Ext) (C : Call) (ios : List IOper) (alld : List Nat) : List (Nat × Option (List Nat)) → Env → St → Option (IExit × Env × St)
  | [], e, σ => some (.normal, e, σ)
  | (i, must) :: π, e, σ => match ios[i]? with
    | some o => match runG P X C o e σ with
      | some (.normal, e', σ') => if (match must with | none => true | some l => stillsB ios l e' σ') then runPlan P X C ios alld π e' σ' else none
      | some (x, e', σ') => match must with
        | none => none
        | some _ => some (x, e'.junks alld, σ')
      | none => none
    | none => none
def runC (P : Program) (X : Ext) (C : Call) : Nat → ICode → Env → St → Option (IExit × Env × St)
  | 0, _, _, _ => none
  | n + 1, c, e, σ => match c with
    | .skip => some (.normal, e, σ)
    | .region ios => runOps P X C ios e σ
    | .dregion ios alld pl => if (alld.all fun t => decide (t < e.tmps.length)) then runPlan P X C ios alld pl e σ else none
    | .both _ _ => none
    | .seq a b => match runC P X C n a e σ with
      | some (.normal, e', σ') => runC P X C n b e' σ'
      | r => r
    | .cond c a b => match c.ev e.tmps with
      | .bool t => if t then runC P X C n a e σ else runC P X C n b e σ
      | _ => none
    | .block id c => match runC P X C n c e σ with
      | some (.exit id', e', σ') => if id' = id then some (.normal, e', σ') else some (.exit id', e', σ')
      | r => r
    | .loop c => match runC P X C n c e σ with
      | some (.normal, e', σ') => runC P X C n (.loop c) e' σ'
      | r => r
    | .exit id => some (.exit id, e, σ)
    | .ret => some (.ret, e, σ)
def runEnd (ires : List IRes) (x : IExit) (e : Env) (σ : St) : Option (Out × St) :=
  match e.defers with
  | _ :: _ => none
  | [] => match x with
    | .panic d => some (.panic d, σ)
    | .exit _ => none
    | .normal | .ret => match iresults e.tmps σ ires with
      | some ds => some (.ret (resD ds), σ)
      | none => none
def runF (P : Program) (pol : TypeId → Bool) (X : Ext) (Nt : Call) (L : Nat) : Nat → Call
  | 0, _, _, _ => none
  | n + 1, f, args, σ => match Nt f args σ with
   | some r => some r
   | none => match P.funcs[f]? with
    | none => none
    | some fn => match fn.body with
      | none => none
      | some c => match rcode P pol c with
        | none => none
        | some ic => match fn.results.toList.mapM (rres P) with
          | none => none
          | some ires => match runC P X (runF P pol X Nt L n) L ic ⟨args ++ List.replicate (fn.ntmps - args.length) .junk, []⟩ σ with
            | some (x, e, σ') => runEnd ires x e σ'
            | none => none

/-! What a run shows. -/
section
variable {P : Program} {X : Ext} {C : Call}
def Sound (P : Program) (C : Call) : Prop := ∀ f ys σ o σ', C f ys σ = some (o, σ') → Ok P f ys σ (fun o' s' => o' = o ∧ s' = σ')
def SoundX (P : Program) (X : Ext) : Prop := ∀ g ys σ d σ', X g ys σ = some (d, σ') → ExtOk P g ys σ (fun d' s' => d' = d ∧ s' = σ')
theorem runX_sound (hX : SoundX P X) (hC : Sound P C) {o : IXop} {dst : Option Nat} {e e' : Env} {σ σ' : St} {x : IExit} {next : Env → St → Prop} {Q : IExit → Env → St → Prop}
    (h : runX P X C o dst e σ = some (x, e', σ')) (hk : thenI next Q x e' σ') : iwpX P o dst next Q e σ := by
  cases o with
  | v o =>
    simp only [runX] at h
    simp only [iwpX]
    split at h
    · rename_i d τ hi
      cases h
      rw [hi]; exact hk
    · cases h
  | call f args =>
    simp only [runX] at h
    simp only [iwpX]
    split at h
    · rename_i g ys hc
      rw [hc]
      simp only []
      split at h
      · rename_i hg
        refine ⟨hg, ?_⟩
        split at h
        · rename_i d τ hcall
          cases h
          exact (hC _ _ _ _ _ hcall).mono fun o s ⟨h1, h2⟩ => by subst h1; subst h2; exact hk
        · rename_i d τ hcall
          cases h
          exact (hC _ _ _ _ _ hcall).mono fun o s ⟨h1, h2⟩ => by subst h1; subst h2; exact hk
        · cases h
      · cases h
    · cases h
  | panic y =>
    simp only [runX] at h
    simp only [iwpX]
    split at h
    · rename_i t d hy
      cases h
      rw [hy]; exact hk
    · cases h
  | defer f args =>
    simp only [runX] at h
    simp only [iwpX]
    split at h
    · rename_i g ys hc
      cases h
      rw [hc]; exact hk
    · cases h
  | recover => simp [runX] at h
  | ext g args =>
    simp only [runX] at h
    simp only [iwpX]
    split at h
    · rename_i d τ hx
      cases h
      exact (hX _ _ _ _ _ hx).mono fun d' s ⟨h1, h2⟩ => by subst h1; subst h2; exact hk
    · cases h
  | inv y name args =>
    simp only [runX] at h
    simp only [iwpX]
    split at h
    · rename_i t d hy
      rw [hy]
      simp only []
      split at h
      · rename_i g hm
        rw [hm]
        simp only []
        split at h
        · rename_i hg
          refine ⟨hg, ?_⟩
          split at h
          · rename_i d τ hcall
            cases h
            exact (hC _ _ _ _ _ hcall).mono fun o s ⟨h1, h2⟩ => by subst h1; subst h2; exact hk
          · rename_i d τ hcall
            cases h
            exact (hC _ _ _ _ _ hcall).mono fun o s ⟨h1, h2⟩ => by subst h1; subst h2; exact hk
          · cases h
        · cases h
      · cases h
    · cases h
theorem runG_sound (hX : SoundX P X) (hC : Sound P C) {o : IOper} {e e' : Env} {σ σ' : St} {x : IExit} {next : Env → St → Prop} {Q : IExit → Env → St → Prop}
    (h : runG P X C o e σ = some (x, e', σ')) (hk : thenI next Q x e' σ') : iwpG P o next Q e σ := by
  unfold runG at h
  unfold iwpG
  cases hg : o.guard with
  | none =>
    rw [hg] at h
    exact runX_sound hX hC h hk
  | some gw =>
    obtain ⟨g, want⟩ := gw
    rw [hg] at h
    simp only [] at h ⊢
    cases hv : gval (e.tmps.getD g .junk) want with
    | none => rw [hv] at h; cases h
    | some b =>
      rw [hv] at h
      simp only [] at h ⊢
      cases b with
      | true => rw [Br.tt]; exact runX_sound hX hC h hk
      | false => rw [Br.ff]; cases h; exact hk
theorem runOps_sound (hX : SoundX P X) (hC : Sound P C) {next : Env → St → Prop} {Q : IExit → Env → St → Prop} : ∀ {os : List IOper} {e e' : Env} {σ σ' : St} {x : IExit},
    runOps P X C os e σ = some (x, e', σ') → thenI next Q x e' σ' → iwpOps P os next Q e σ
  | [], e, e', σ, σ', x, h, hk => by simp only [runOps, Option.some.injEq, Prod.mk.injEq] at h; obtain ⟨rfl, rfl, rfl⟩ := h; exact hk
  | o :: os, e, e', σ, σ', x, h, hk => by
    simp only [runOps] at h
    simp only [iwpOps]
    split at h
    · rename_i e1 σ1 hg
      exact runG_sound hX hC hg (runOps_sound hX hC h hk)
    · rename_i hn
      refine runG_sound hX hC h ?_
      cases x with
      | normal => exact absurd h (hn e' σ')
      | _ => exact hk
theorem sawB_sound {o : IOper} {x : Option D} {e : Env} (h : sawB o x e = true) : x = some (dstv o e) := by
  unfold sawB at h
  split at h
  · rw [beqD_eq _ _ h]
  · cases h
theorem stillB_sound {o : IOper} {e : Env} {σ : St} (h : stillB o e σ = true) : Still o e σ := by
  unfold stillB at h
  unfold Still
  split at h
  · rename_i n y hop
    rw [hop]
    simp only []
    split at h
    · rename_i hg
      rw [hg]; exact sawB_sound h
    · rename_i g want hg
      rw [hg]
      simp only []
      split at h
      · rename_i b hb
        rw [hb]
        intro hbt
        subst hbt
        exact sawB_sound (by simpa using h)
      · rename_i hb
        rw [hb]; trivial
  · rename_i hop
    split
    · rename_i n y hy; exact absurd hy (hop n y)
    · trivial
theorem stillsB_sound {ios : List IOper} : ∀ {l : List Nat} {e : Env} {σ : St}, stillsB ios l e σ = true → Stills ios l e σ
  | [], _, _, _ => trivial
  | j :: r, e, σ, h => by
    simp only [stillsB, Bool.and_eq_true] at h
    refine ⟨?_, stillsB_sound h.2⟩
    have h1 := h.1
    cases hj : ios[j]? with
    | some o => rw [hj] at h1; exact stillB_sound h1
    | none => trivial
theorem runPlan_sound (hX : SoundX P X) (hC : Sound P C) {ios : List IOper} {alld : List Nat} {next : Env → St → Prop} {Q : IExit → Env → St → Prop} : ∀ {pl : List (Nat × Option (List Nat))} {e e' : Env} {σ σ' : St} {x : IExit},
    runPlan P X C ios alld pl e σ = some (x, e', σ') → thenI next Q x e' σ' → iwpPlan P ios alld next Q pl e σ
  | [], e, e', σ, σ', x, h, hk => by simp only [runPlan, Option.some.injEq, Prod.mk.injEq] at h; obtain ⟨rfl, rfl, rfl⟩ := h; exact hk
  | (i, none) :: π, e, e', σ, σ', x, h, hk => by
    simp only [runPlan] at h
    simp only [iwpPlan]
    cases ho : ios[i]? with
    | none => rw [ho] at h; cases h
    | some o =>
      rw [ho] at h
      simp only [] at h ⊢
      cases hg : runG P X C o e σ with
      | none => rw [hg] at h; cases h
      | some r =>
        obtain ⟨x1, e1, σ1⟩ := r
        rw [hg] at h
        cases x1 <;> simp only [if_true, reduceCtorEq] at h
        exact runG_sound hX hC hg (runPlan_sound hX hC h hk)
  | (i, some l) :: π, e, e', σ, σ', x, h, hk => by
    simp only [runPlan] at h
    simp only [iwpPlan]
    cases ho : ios[i]? with
    | none => rw [ho] at h; cases h
    | some o =>
      rw [ho] at h
      simp only [] at h ⊢
      cases hg : runG P X C o e σ with
      | none => rw [hg] at h; cases h
      | some r =>
        obtain ⟨x1, e1, σ1⟩ := r
        rw [hg] at h
        cases x1 with
        | normal =>
          simp only [] at h
          split at h
          · rename_i hm
            exact runG_sound hX hC hg ⟨stillsB_sound hm, runPlan_sound hX hC h hk⟩
          · cases h
        | exit id => simp only [] at h; cases h; exact runG_sound hX hC hg hk
        | ret => simp only [] at h; cases h; exact runG_sound hX hC hg hk
        | panic d => simp only [] at h; cases h; exact runG_sound hX hC hg hk
theorem runC_sound (hX : SoundX P X) (hC : Sound P C) : ∀ (n : Nat) (c : ICode) {Q : IExit → Env → St → Prop} {e e' : Env} {σ σ' : St} {x : IExit},
    runC P X C n c e σ = some (x, e', σ') → Q x e' σ' → iwp P c Q e σ := by
  intro n
  induction n using Nat.strongRecOn with
  | _ n ih =>
    intro c Q e e' σ σ' x h hk
    cases n with
    | zero => simp [runC] at h
    | succ n =>
      have hn : n < n + 1 := Nat.lt_succ_self n
      cases c with
      | skip => simp only [runC, Option.some.injEq, Prod.mk.injEq] at h; obtain ⟨rfl, rfl, rfl⟩ := h; exact hk
      | region ios =>
        simp only [runC] at h
        simp only [iwp]
        exact runOps_sound hX hC h (by cases x <;> exact hk)
      | dregion ios alld pl =>
        simp only [runC] at h
        simp only [iwp]
        split at h
        · rename_i hl
          exact ⟨hl, runPlan_sound hX hC h (by cases x <;> exact hk)⟩
        · cases h
      | both a b => simp [runC] at h
      | seq a b =>
        simp only [runC] at h
        simp only [iwp]
        split at h
        · rename_i e1 σ1 h1
          exact ih n hn a h1 (Cut.go (ih n hn b h hk))
        · rename_i hnn
          refine ih n hn a h ?_
          cases x with
          | normal => exact absurd h (hnn e' σ')
          | _ => exact hk
      | cond c a b =>
        simp only [runC] at h
        simp only [iwp]
        split at h
        · rename_i t ht
          rw [ht]
          simp only []
          cases t with
          | true => rw [Br.tt]; exact ih n hn a (by simpa using h) hk
          | false => rw [Br.ff]; exact ih n hn b (by simpa using h) hk
        · cases h
      | block id c =>
        simp only [runC] at h
        simp only [iwp]
        split at h
        · rename_i id' e1 σ1 h1
          refine ih n hn c h1 ?_
          split at h
          · rename_i he
            cases h
            simp only [inBlockI, he, if_true]; exact hk
          · rename_i he
            cases h
            simp only [inBlockI, he, if_false]; exact hk
        · rename_i hnn
          refine ih n hn c h ?_
          cases x with
          | exit id' => exact absurd h (hnn id' e' σ')
          | _ => exact hk
      | loop c =>
        simp only [iwp]
        refine ⟨fun k e σ => k ≤ n + 1 ∧ ∃ x e' σ', runC P X C k (.loop c) e σ = some (x, e', σ') ∧ Q x e' σ', ⟨n + 1, Cut.go ⟨Nat.le_refl _, x, e', σ', h, hk⟩⟩, ?_⟩
        rintro k e σ ⟨hk1, x, e', σ', h, hk⟩
        cases k with
        | zero => simp [runC] at h
        | succ k =>
          simp only [runC] at h
          split at h
          · rename_i e1 σ1 h1
            exact ih k (by omega) c h1 ⟨k, Nat.lt_succ_self k, Cut.go ⟨by omega, x, e', σ', h, hk⟩⟩
          · rename_i hnn
            refine ih k (by omega) c h ?_
            cases x with
            | normal => exact absurd h (hnn e' σ')
            | _ => exact hk
      | exit id => simp only [runC, Option.some.injEq, Prod.mk.injEq] at h; obtain ⟨rfl, rfl, rfl⟩ := h; exact hk
      | ret => simp only [runC, Option.some.injEq, Prod.mk.injEq] at h; obtain ⟨rfl, rfl, rfl⟩ := h; exact hk
theorem runEnd_sound {ires : List IRes} {x : IExit} {e : Env} {σ σ' : St} {o : Out} (h : runEnd ires x e σ = some (o, σ')) : bodyQ P ires (fun o' s' => o' = o ∧ s' = σ') x e σ := by
  unfold runEnd at h
  split at h
  · cases h
  · rename_i hd
    split at h
    · cases h
      simp only [bodyQ, hd, ILeaves, and_self]
    · cases h
    all_goals
      split at h
      · rename_i ds hds
        cases h
        simp only [bodyQ, hd, ILeaves, hds, and_self]
      · cases h
theorem runF_sound (hmix : P.follows .mixedOrders = true) (hX : SoundX P X) {Nt : Call} (hN : Sound P Nt) {pol : TypeId → Bool} {L : Nat} : ∀ n, Sound P (runF P pol X Nt L n)
  | 0 => fun f ys σ o σ' h => by simp [runF] at h
  | n + 1 => fun f ys σ o σ' h => by
    simp only [runF] at h
    split at h
    · rename_i r hr
      cases h
      exact hN _ _ _ _ _ hr
    split at h
    · cases h
    · rename_i fn hf
      split at h
      · cases h
      · rename_i c hb
        split at h
        · cases h
        · rename_i ic hc
          split at h
          · cases h
          · rename_i ires hr
            split at h
            · rename_i x e τ hrun
              exact Ok_of_iwp hmix hf hb hc hr (runC_sound hX (runF_sound hmix hX hN n) L ic hrun (runEnd_sound h))
            · cases h
end

/-! A call begun anew. -/
mutual
def plainD : D → Bool
  | .junk | .bool _ | .int _ _ | .str _ | .nilp | .nils | .nili | .nilf | .nilm => true
  | .agg cs | .tuple cs => plainL cs
  | .box _ _ | .ref _ _ | .slc _ _ _ | .rslc _ _ _ _ _ | .iface _ _ | .func _ _ _ | .map _ | .opq _ => false
def plainL : List D → Bool
  | [] => true
  | d :: ds => plainD d && plainL ds
end
mutual
theorem CR.plain {μ ν : Mu} : ∀ (d : D) (vs : List Value), plainD d = true → CR μ d vs → CR ν d vs
  | .junk, _, _, e => by simp only [CR]
  | .bool _, _, _, e => by simpa only [CR] using e
  | .int _ _, _, _, e => by simpa only [CR] using e
  | .str _, _, _, e => by simpa only [CR] using e
  | .nilp, _, _, e => by simpa only [CR] using e
  | .nils, _, _, e => by simpa only [CR] using e
  | .nili, _, _, e => by simpa only [CR] using e
  | .nilf, _, _, e => by simpa only [CR] using e
  | .nilm, _, _, e => by simpa only [CR] using e
  | .agg cs, vs, h, e => by
    simp only [CR] at e ⊢
    exact CRl.plain cs vs (by simpa [plainD] using h) e
  | .tuple cs, vs, h, e => by
    simp only [CR] at e ⊢
    obtain ⟨ws, h1, h2⟩ := e
    exact ⟨ws, h1, CRt.plain cs ws (by simpa [plainD] using h) h2⟩
  | .box _ _, _, h, _ => by simp [plainD] at h
  | .ref _ _, _, h, _ => by simp [plainD] at h
  | .slc _ _ _, _, h, _ => by simp [plainD] at h
  | .rslc _ _ _ _ _, _, h, _ => by simp [plainD] at h
  | .iface _ _, _, h, _ => by simp [plainD] at h
  | .func _ _ _, _, h, _ => by simp [plainD] at h
  | .map _, _, h, _ => by simp [plainD] at h
theorem CRl.plain {μ ν : Mu} : ∀ (ds : List D) (vs : List Value), plainL ds = true → CRl μ ds vs → CRl ν ds vs
  | [], _, _, e => by simpa only [CRl] using e
  | d :: ds, vs, h, e => by
    simp only [CRl] at e ⊢
    simp only [plainL, Bool.and_eq_true] at h
    obtain ⟨v, ws, h1, h2, h3⟩ := e
    exact ⟨v, ws, h1, CR.plain d _ h.1 h2, CRl.plain ds ws h.2 h3⟩
theorem CRt.plain {μ ν : Mu} : ∀ (ds : List D) (vs : List Value), plainL ds = true → CRt μ ds vs → CRt ν ds vs
  | [], _, _, e => by simpa only [CRt] using e
  | d :: ds, vs, h, e => by
    simp only [CRt] at e ⊢
    simp only [plainL, Bool.and_eq_true] at h
    obtain ⟨v, ws, h1, h0, h2, h3⟩ := e
    exact ⟨v, ws, h1, h0, CR.plain d _ h.1 h2, CRt.plain ds ws h.2 h3⟩
end
theorem Sim.later {μ : Mu} {σ : St} {w w' : World} (h : Sim μ σ w) (hb : Below w.heap.size w w') : Sim μ σ w' := by
  have hc : ∀ b o, b < w.heap.size → w'.cell? ⟨b, o, none⟩ = w.cell? ⟨b, o, none⟩ := fun b o hlt => by
    simp only [World.cell?, hb.block b hlt]
  have hf : ∀ b o, b < w.heap.size → w'.frozen? ⟨b, o, none⟩ = w.frozen? ⟨b, o, none⟩ := fun b o hlt => by
    simp only [World.frozen?, hb.block b hlt]
  refine ⟨fun b o v e => ?_, fun j cs e => ?_, fun t e => ?_, fun b o hle => h.blk b o (Nat.le_trans hb.size hle), h.nxt, h.bel.trans (hb.mono h.low), h.tyOf (Mu.le.refl μ) (fun _ _ _ _ e => e) (rows_same fun b hlt => hb.block b hlt)⟩
  · have hlt : b < w.heap.size := Nat.lt_of_not_le fun hle => by rw [h.blk b o hle] at e; cases e
    rw [hc b o hlt]; exact h.imm b o v e
  · obtain ⟨b, o, h1, h2, h3, h4⟩ := h.obj j cs e
    refine ⟨b, o, h1, h2, Nat.lt_of_lt_of_le h3 hb.size, fun i d hd => ?_⟩
    rw [hc _ _ h3, hf _ _ h3]; exact h4 i d hd
  · obtain ⟨b, o, k, h1, h2, h3, h4⟩ := h.tok t e
    refine ⟨b, o, k, h1, h2, Nat.lt_of_lt_of_le h3 hb.size, fun i hi => ?_⟩
    rw [hc _ _ h3, hf _ _ h3]; exact h4 i hi
def plainO : Out → Bool
  | .ret d | .panic d => plainD d
theorem PRel.plain {μ ν : Mu} {o : Out} {e : Ending} (h : plainO o = true) (x : PRel μ o e) : PRel ν o e := by
  cases o <;> cases e <;> simp only [PRel] at x ⊢ <;> simp only [plainO] at h
  · exact ⟨x.1, CR.plain _ _ h x.2⟩
  · obtain ⟨v, h1, h2⟩ := x
    exact ⟨v, ⟨h1.1, CR.plain _ _ h h1.2⟩, h2⟩
/-- What a call of plain data does in an empty store, it does in any, and the store is as it was. -/
theorem Ok.restart {P : Program} {f : FuncId} {args : List D} {o : Out} {σ : St} (ha : plainL args = true) (ho : plainO o = true) (h : Ok P f args st0 (fun o' _ => o' = o)) : Ok P f args σ (fun o' s' => o' = o ∧ s' = σ) := by
  intro μ w vs hs hc
  refine (h (mu0 w) w vs (sim0 w) (CRt.plain _ _ ha hc)).mono fun e w' ⟨μ', σ', o', h1, h2, h3, h4⟩ => ?_
  subst h4
  have hb := h2.bel
  rw [h1.w0] at hb
  exact ⟨μ, σ, o', Mu.le.refl _, hs.later hb, h3.plain ho, rfl, rfl⟩
/-- What a run tells. -/
def tells (P : Program) (pol : TypeId → Bool) (X : Ext) (Nt : Call) (L n : Nat) (f : FuncId) (args : List D) (d : D) : Bool :=
  match runF P pol X Nt L n f args st0 with
  | some (.ret x, _) => beqD x d
  | _ => false
theorem Ok.ran {P : Program} (hmix : P.follows .mixedOrders = true) {pol : TypeId → Bool} {X : Ext} (hX : SoundX P X) {Nt : Call} (hN : Sound P Nt) (L n : Nat) {f : FuncId} {args : List D} {d : D} {σ : St} (ha : plainL args = true) (hd : plainD d = true) (h : tells P pol X Nt L n f args d = true) :
    Ok P f args σ (fun o s' => o = .ret d ∧ s' = σ) := by
  unfold tells at h
  split at h
  · rename_i x τ hr
    rw [beqD_eq _ _ h] at hr
    exact Ok.restart ha hd ((runF_sound hmix hX hN n _ _ _ _ _ hr).mono fun o s hh => hh.1)
  · cases h
end Go.Id
