/-
  THE IDEAL LAYER, PART N: every order of such a region comes to what the plan says.
-/
import Derived.Test.YthiidchbaicfgaaGreatDoorIdM
namespace Go.Id
open Go.RowKit
set_option linter.unusedVariables false
set_option linter.unusedSimpArgs false

section
variable {P : Program} {pol : TypeId → Bool} {ops : Array Oper} {ios : List IOper} {alld : List Nat}

theorem mapM_get {α β : Type} (f : α → Option β) : ∀ (l : List α) (r : List β), l.mapM f = some r → ∀ (i : Nat) (x : α), l[i]? = some x → ∃ y, f x = some y ∧ r[i]? = some y
  | [], r, h, i, x, hx => by simp at hx
  | a :: l, r, h, i, x, hx => by
    simp only [List.mapM_cons, Option.bind_eq_bind, Option.bind_eq_some_iff, Option.pure_def, Option.some.injEq] at h
    obtain ⟨y, h1, r', h2, rfl⟩ := h
    cases i with
    | zero => simp at hx; subst hx; exact ⟨y, h1, rfl⟩
    | succ i => simpa using mapM_get f l r' h2 i x (by simpa using hx)

theorem ios_at (h : (List.range ops.size).mapM (rxAt P pol ops) = some ios) {i : Nat} {o : IOper} (ho : ios[i]? = some o) (hi : i < ops.size) : rxAt P pol ops i = some o := by
  obtain ⟨y, h1, h2⟩ := mapM_get _ _ _ h i i (by simp [hi])
  rw [ho] at h2
  simp only [Option.some.injEq] at h2
  subst h2
  exact h1

/-- One operation of a region that is taken in any order. -/
theorem iwpG_step {i : Nat} {io : IOper} (h1 : rxAt P pol ops i = some io) {next : Env → St → Prop} {Q : IExit → Env → St → Prop} {Q' : Exit → Act → World → Prop} {K : Act → World → Prop} {μ : Mu} {e : Env} {a : Act} {σ : St} {w : World}
    (he : EnvR μ e a) (hs : Sim μ σ w) (hi : iwpG P io next Q e σ)
    (hn : ∀ (μ' : Mu) (e' : Env) (a' : Act) (σ' : St) (w' : World), μ.le μ' → EnvR μ' e' a' → Sim μ' σ' w' → next e' σ' → K a' w')
    (hq : ∀ (μ' : Mu) (d : D) (v : Value) (σ' : St) (w' : World), μ.le μ' → VR μ' d v → EnvR μ' e a → Sim μ' σ' w' → Q (.panic d) e σ' → Q' (.panic [{ v, recovered := false }]) a w') :
    wpOp P ops Q' i K a w := by
  simp only [rxAt, Option.bind_eq_bind, Option.bind_eq_some_iff, Option.some.injEq] at h1
  obtain ⟨o, ho, x, hx, g, hg, rfl⟩ := h1
  have hw := wanted_of hg he.tmps
  simp only [iwpG] at hi
  simp only [wpOp, ho]
  cases g with
  | none =>
    simp only at hw hi
    rw [hw, if_pos rfl]
    exact .inl (iwpX_sound hx he hs hi hn hq)
  | some gw =>
    obtain ⟨t, want⟩ := gw
    simp only at hw hi
    split at hi <;> (try (exact hi.elim))
    rename_i b hb
    rw [hw b hb]
    cases b with
    | false =>
      simp only [Bool.false_eq_true, if_false]
      exact hn μ _ _ σ w (Mu.le.refl μ) (he.put o.dst VR.undef) hs (hi.2 rfl)
    | true =>
      simp only [if_true]
      exact .inl (iwpX_sound hx he hs (hi.1 rfl) hn hq)

theorem iwpG_of_pval {o : IOper} (hl : o.op.looks = true) {e : Env} {σ : St} {d : D} (h : pval o e σ = some d) :
    iwpG P o (fun e' σ' => e' = e.put o.dst d ∧ σ' = σ) (fun _ _ _ => False) e σ := by
  obtain ⟨dst, op, guard⟩ := o
  cases op <;> simp [IXop.looks] at hl
  rename_i io
  have run : (match iop io e.tmps σ with | some (d, _) => some d | none => none) = some d → iwpX P (.v io) dst (fun e' σ' => e' = e.put dst d ∧ σ' = σ) (fun _ _ _ => False) e σ := by
    intro hx
    split at hx <;> (try (cases hx; done))
    rename_i d' σ' hi
    simp only [Option.some.injEq] at hx
    subst hx
    obtain rfl := looks_store hl hi
    simp only [iwpX, hi]
    trivial
  unfold pval at h
  simp only [iwpG]
  cases guard with
  | none => exact run h
  | some gw =>
    obtain ⟨g, want⟩ := gw
    simp only at h ⊢
    cases hb : gval (e.tmps.getD g .junk) want <;> simp only [hb] at h ⊢ <;> (try (cases h; done))
    rename_i b
    cases b with
    | false =>
      simp only [Bool.false_eq_true, if_false, Option.some.injEq] at h
      subst h
      rw [Br.ff]
      trivial
    | true =>
      simp only [if_true] at h
      rw [Br.tt]
      exact run h

theorem iwpG_congr {o : IOper} (hb : isBarrier o = true) {next : Env → St → Prop} {Q : IExit → Env → St → Prop} {e e' : Env} {σ : St}
    (h : ∀ n ∈ o.reads, e.tmps.getD n .junk = e'.tmps.getD n .junk) (hi : iwpG P o next Q e σ) :
    iwpG P o (fun e₁ σ₁ => ∃ d, e₁ = e'.put o.dst d ∧ next (e.put o.dst d) σ₁) (fun y e₁ σ₁ => e₁ = e' ∧ Q y e σ₁) e' σ := by
  obtain ⟨dst, op, guard⟩ := o
  simp only [IOper.reads, List.mem_append] at h
  have run : iwpX P op dst next Q e σ → iwpX P op dst (fun e₁ σ₁ => ∃ d, e₁ = e'.put dst d ∧ next (e.put dst d) σ₁) (fun y e₁ σ₁ => e₁ = e' ∧ Q y e σ₁) e' σ :=
    iwpX_congr (by cases op <;> simp_all [isBarrier]) (fun n hn => h n (.inl hn))
  simp only [iwpG] at hi ⊢
  cases guard with
  | none => exact run hi
  | some gw =>
    obtain ⟨g, want⟩ := gw
    simp only [← h g (.inr (by simp))] at hi ⊢
    cases hb : gval (e.tmps.getD g .junk) want <;> simp only [hb] at hi ⊢ <;> (try (exact hi.elim))
    exact ⟨fun hh => run (hi.1 hh), fun hh => ⟨_, rfl, hi.2 hh⟩⟩

theorem countP_lt {α : Type} (p q : α → Bool) : ∀ (l : List α), (∀ x ∈ l, q x = true → p x = true) → (∃ x ∈ l, p x = true ∧ q x = false) → l.countP q < l.countP p
  | [], _, h => by obtain ⟨x, hx, _⟩ := h; cases hx
  | a :: l, h1, h2 => by
    have hle : l.countP q ≤ l.countP p := by
      clear h2
      induction l with
      | nil => simp
      | cons b l ih =>
        have := ih (fun x hx => h1 x (by simp at hx ⊢; rcases hx with h | h <;> simp [h]))
        have hb := h1 b (by simp)
        simp only [List.countP_cons]
        cases hq : q b
        · simp; omega
        · simp [hb hq]; omega
    simp only [List.countP_cons]
    obtain ⟨x, hx, hp, hq⟩ := h2
    rcases List.mem_cons.1 hx with rfl | hx
    · simp [hp, hq]; omega
    · have := countP_lt p q l (fun y hy => h1 y (by simp [hy])) ⟨x, hx, hp, hq⟩
      have ha := h1 a (by simp)
      cases hqa : q a
      · simp; omega
      · simp [ha hqa]; omega

variable {Pl : List (Nat × Option (List Nat))}

theorem Mid.preds {C : List (Nat × Option (List Nat))} {listed : Array Bool} {μ : Mu} {e : Env} {a : Act} {σ : St} (hm : Mid ops ios C listed μ e a σ) {i : Nat} (hi : i ∈ Region.ready .any ops listed) {k : Nat} (hk : bef ops i k = true) :
    listed.getD k false = true := by
  obtain ⟨o, ed, ho, he, hb, hor⟩ := before_spec ops hk
  rw [mem_ready] at hi
  obtain ⟨_, o', ho', hall⟩ := hi
  rw [ho] at ho'
  simp only [Option.some.injEq] at ho'
  subst ho'
  have h1 := hall ed he hb
  rcases hor with rfl | ⟨_, hor⟩
  · exact h1
  · exact hm.down _ _ h1 hor

/-- Places of the plan are each there once. -/
theorem plan_once (hok : sufOk ops ios alld [] [] Pl = true) {C π : List (Nat × Option (List Nat))} (hp : Pl = C ++ π) {i : Nat} {b c : Option (List Nat)} (h1 : (i, b) ∈ C) (h2 : (i, c) ∈ π) : False := by
  obtain ⟨A, B, rfl⟩ := List.append_of_mem h2
  have := (sufOk_at (C ++ A) i c B [] [] (by rw [List.append_assoc, ← hp]; exact hok)).2 (i, b) (by simp [h1])
  exact this rfl

theorem advance (hok : sufOk ops ios alld [] [] Pl = true) {listed : Array Bool} {μ : Mu} {a : Act} {σ : St} {next : Env → St → Prop} {Q : IExit → Env → St → Prop} :
    ∀ (π C : List (Nat × Option (List Nat))) (e : Env), Pl = C ++ π → (∀ t ∈ alld, t < e.tmps.length) → Mid ops ios C listed μ e a σ → iwpPlan P ios alld next Q π e σ →
    ∃ C' π' e', Pl = C' ++ π' ∧ (∀ t ∈ alld, t < e'.tmps.length) ∧ Mid ops ios C' listed μ e' a σ ∧ iwpPlan P ios alld next Q π' e' σ ∧ (π' = [] ∨ ∃ l must r, π' = (l, some must) :: r)
  | [], C, e, hp, hl, hm, hi => ⟨C, [], e, hp, hl, hm, hi, .inl rfl⟩
  | (i, some must) :: π, C, e, hp, hl, hm, hi => ⟨C, _, e, hp, hl, hm, hi, .inr ⟨i, must, π, rfl⟩⟩
  | (i, none) :: π, C, e, hp, hl, hm, hi => by
    have hat := (sufOk_at C i none π [] [] (by rw [← hp]; exact hok))
    have hsuf := hat.1
    simp only [sufOk] at hsuf
    simp only [iwpPlan] at hi
    split at hi <;> (try (exact hi.elim))
    rename_i o ho
    cases hro : ops[i]? with
    | none => simp [hro] at hsuf
    | some ro =>
    simp only [hro, ho, Bool.and_eq_true] at hsuf
    obtain ⟨⟨⟨⟨_, hall⟩, ⟨⟨⟨hlook, hdst⟩, hself⟩, _⟩⟩, _⟩, _⟩ := hsuf
    cases hd : o.dst with
    | none => simp [hd] at hdst
    | some t =>
    have ht : t < e.tmps.length := hl t (by simpa [hd] using hall)
    have hself' : t ∉ o.reads := by simpa [dstIn, hd] using hself
    obtain ⟨d, hd1, hd2⟩ := iwpG_looks hlook hi
    have hnl : listed.getD i false = false := by
      cases hx : listed.getD i false
      · rfl
      · obtain ⟨b, hb⟩ := hm.inC i hx
        exact (plan_once (c := none) hok hp hb (by simp)).elim
    have hpi : pval o (e.put o.dst d) σ = some (dstv o (e.put o.dst d)) := by
      rw [pval_congr hlook (e' := e)]
      · rw [hd1]
        simp only [dstv, hd]
        rw [put_getD]
        simp [ht]
      · intro n hn
        rw [put_getD, if_neg]
        rintro ⟨h1, _⟩
        rw [hd] at h1
        simp only [Option.some.injEq] at h1
        subst h1
        exact hself' hn
    refine advance hok π (C ++ [(i, none)]) (e.put o.dst d) (by simp [hp]) (fun t ht => by rw [put_len]; exact hl t ht) ⟨hm.size, fun j hj => ?_, hm.down, fun j must hj => ?_, fun j hj hjl => ?_, ?_⟩ hd2
    · obtain ⟨b, hb⟩ := hm.inC j hj
      exact ⟨b, by simp [hb]⟩
    · rcases List.mem_append.1 hj with hj | hj
      · exact hm.bars j must hj
      · simp at hj
    · rcases List.mem_append.1 hj with hj | hj
      · obtain ⟨oj, h1, h2, h3, h4⟩ := hm.vals j hj hjl
        refine ⟨oj, h1, h2, ?_, fun t ht => by rw [put_len]; exact h4 t ht⟩
        -- what the new one writes, the old one neither reads nor writes
        obtain ⟨A, B, rfl⟩ := List.append_of_mem hj
        have hsj := (sufOk_at A j none (B ++ (i, none) :: π) [] [] (by rw [← List.cons_append, ← List.append_assoc, ← hp]; exact hok)).1
        simp only [sufOk] at hsj
        cases hrj : ops[j]? with
        | none => simp [hrj] at hsj
        | some rj =>
        simp only [hrj, h1, Bool.and_eq_true] at hsj
        obtain ⟨⟨⟨_, ⟨_, hrest⟩⟩, _⟩, _⟩ := hsj
        have hq := List.all_eq_true.1 hrest (i, none) (by simp)
        simp only [ho, Bool.and_eq_true, bne_iff_ne, ne_eq] at hq
        obtain ⟨⟨hq1, hq2⟩, _⟩ := hq
        have hq1' : t ∉ oj.reads := by simpa [dstIn, hd] using hq1
        rw [pval_congr h2 (e' := e), h3]
        · congr 1
          simp only [dstv]
          cases hdj : oj.dst with
          | none => rfl
          | some tj =>
            simp only
            rw [put_getD, if_neg]
            rintro ⟨h5, _⟩
            exact hq2 (by rw [hdj, h5])
        · intro n hn
          rw [put_getD, if_neg]
          rintro ⟨h5, _⟩
          rw [hd] at h5
          simp only [Option.some.injEq] at h5
          subst h5
          exact hq1' hn
      · simp only [List.mem_singleton, Prod.mk.injEq] at hj
        obtain ⟨rfl, _⟩ := hj
        exact ⟨o, ho, hlook, hpi, fun t' ht' => by rw [hd] at ht'; simp only [Option.some.injEq] at ht'; subst ht'; rw [put_len]; exact ht⟩
    · obtain ⟨pd, h1, h2, h3⟩ := hm.env
      refine ⟨t :: pd, fun t' ht' => ?_, fun j oj t' hj hjl hoj htj => ?_, EnvR.less ⟨?_, fun n => ?_, ?_⟩ h3⟩
      · rcases List.mem_cons.1 ht' with rfl | ht'
        · exact ⟨i, o, by simp, hnl, ho, hd⟩
        · obtain ⟨j, oj, k1, k2, k3, k4⟩ := h1 t' ht'
          exact ⟨j, oj, by simp [k1], k2, k3, k4⟩
      · rcases List.mem_append.1 hj with hj | hj
        · exact List.mem_cons_of_mem _ (h2 j oj t' hj hjl hoj htj)
        · simp only [List.mem_singleton, Prod.mk.injEq] at hj
          obtain ⟨rfl, _⟩ := hj
          rw [ho] at hoj
          simp only [Option.some.injEq] at hoj
          subst hoj
          rw [hd] at htj
          simp only [Option.some.injEq] at htj
          subst htj
          simp
      · simp [Env.junks, put_len]
      · rw [junks_getD, junks_getD, put_getD]
        by_cases hn : n = t
        · subst hn; left; simp
        · by_cases hnp : pd.contains n = true
          · left
            rw [if_pos]
            simp only [List.contains_eq_mem, decide_eq_true_eq] at hnp ⊢
            exact List.mem_cons_of_mem _ hnp
          · right
            rw [if_neg, if_neg hnp, if_neg]
            · rw [hd]; rintro ⟨h5, _⟩; simp only [Option.some.injEq] at h5; exact hn h5.symm
            · simp only [List.contains_eq_mem, decide_eq_true_eq] at hnp ⊢
              intro h5
              rcases List.mem_cons.1 h5 with h5 | h5
              · exact hn h5
              · exact hnp h5
      · simp [Env.junks, put_defers]


theorem ready_empty (hok : sufOk ops ios alld [] [] Pl = true) {listed : Array Bool} (hsz : listed.size = ops.size) (hr : Region.ready .any ops listed = []) :
    ∀ (k : Nat), ∀ q ∈ Pl.take k, listed.getD q.1 false = true := by
  intro k
  induction k with
  | zero => intro q hq; simp at hq
  | succ k ih =>
    intro q hq
    by_cases hk : k < Pl.length
    · rw [List.take_succ_eq_append_getElem hk] at hq
      rcases List.mem_append.1 hq with hq | hq
      · exact ih q hq
      · simp only [List.mem_singleton] at hq
        obtain ⟨i, b⟩ := q
        have hp : Pl = Pl.take k ++ (i, b) :: Pl.drop (k + 1) := by
          rw [hq, ← List.drop_eq_getElem_cons hk, List.take_append_drop]
        cases hx : listed.getD i false
        · exfalso
          have hs := (sufOk_at (Pl.take k) i b (Pl.drop (k + 1)) [] [] (by rw [← hp]; exact hok)).1
          simp only [sufOk] at hs
          cases hro : ops[i]? with
          | none => simp [hro] at hs
          | some ro =>
          cases ho : ios[i]? with
          | none => simp [hro, ho] at hs
          | some o =>
          simp only [hro, ho, Bool.and_eq_true] at hs
          obtain ⟨⟨⟨⟨hed, _⟩, _⟩, _⟩, _⟩ := hs
          have hlt : i < ops.size := (Array.getElem?_eq_some_iff.1 hro).1
          have : i ∈ Region.ready .any ops listed := by
            rw [mem_ready]
            refine ⟨?_, ro, hro, fun e he hb => ?_⟩
            · rw [Array.getD_eq_getD_getElem?, Array.getElem?_eq_getElem (by omega)] at hx ⊢
              exact hx
            · have := Array.all_eq_true_iff_forall_mem.1 hed e he
              simp only [hb, Bool.not_true, Bool.false_or, List.append_nil, List.contains_eq_mem, List.mem_reverse, List.mem_map, decide_eq_true_eq] at this
              obtain ⟨q, hq1, hq2⟩ := this
              rw [← hq2]
              exact ih q hq1
          rw [hr] at this
          cases this
        · rfl
    · rw [List.take_of_length_le (by omega)] at hq
      exact ih q (by rw [List.take_of_length_le (by omega)]; exact hq)

theorem plan_run (hios : (List.range ops.size).mapM (rxAt P pol ops) = some ios) (hok : sufOk ops ios alld [] [] Pl = true) (hcov : ∀ i, i < ops.size → ∃ b, (i, b) ∈ Pl)
    {next : Env → St → Prop} {Q : IExit → Env → St → Prop} {Q' : Exit → Act → World → Prop} :
    ∀ (fuel : Nat) (listed : Array Bool) (C π : List (Nat × Option (List Nat))) (e : Env) (a : Act) (σ : St) (w : World) (μ : Mu), Pl = C ++ π → (∀ t ∈ alld, t < e.tmps.length) →
    Mid ops ios C listed μ e a σ → Sim μ σ w → iwpPlan P ios alld next Q π e σ → (List.range ops.size).countP (fun j => !listed.getD j false) ≤ fuel →
    (∀ (μ' : Mu) (e' : Env) (a' : Act) (σ' : St) (w' : World), μ.le μ' → EnvR μ' e' a' → Sim μ' σ' w' → next e' σ' → Q' .normal a' w') →
    (∀ (μ' : Mu) (d : D) (v : Value) (e' : Env) (a' : Act) (σ' : St) (w' : World), μ.le μ' → VR μ' d v → EnvR μ' e' a' → Sim μ' σ' w' → Q (.panic d) e' σ' → Q' (.panic [{ v, recovered := false }]) a' w') →
    wpAny P .any ops Q' fuel listed a w := by
  intro fuel
  induction fuel with
  | zero =>
    intro listed C π e a σ w μ hp hl hm hs hi hcnt hn hq
    obtain ⟨C, π, e, hp, hl, hm, hi, hhead⟩ := advance hok π C e hp hl hm hi
    have hall : ∀ j, j < ops.size → listed.getD j false = true := by
      intro j hj
      have h0 : (List.range ops.size).countP (fun j => !listed.getD j false) = 0 := by omega
      rw [List.countP_eq_zero] at h0
      have := h0 j (by simp [hj])
      simpa using this
    have hready : Region.ready .any ops listed = [] := by
      rw [List.eq_nil_iff_forall_not_mem]
      intro j hj
      rw [mem_ready] at hj
      obtain ⟨h1, o, ho, _⟩ := hj
      have hlt : j < ops.size := (Array.getElem?_eq_some_iff.1 ho).1
      have := hall j hlt
      rw [Array.getD_eq_getD_getElem?, Array.getElem?_eq_getElem (by rw [hm.size]; exact hlt)] at h1 this
      simp at h1 this
      rw [h1] at this
      cases this
    refine ⟨hready, ?_⟩
    have hpi : π = [] := by
      rcases hhead with h | ⟨l, must, r, rfl⟩
      · exact h
      · exfalso
        have hs' := (sufOk_at C l (some must) r [] [] (by rw [← hp]; exact hok)).1
        simp only [sufOk] at hs'
        cases hro : ops[l]? with
        | none => simp [hro] at hs'
        | some ro =>
        have hlt : l < ops.size := (Array.getElem?_eq_some_iff.1 hro).1
        obtain ⟨b, hb⟩ := hm.inC l (hall l hlt)
        exact plan_once (c := some must) hok hp hb (by simp)
    subst hpi
    obtain ⟨pd, h1, _, h3⟩ := hm.env
    refine hn μ e a σ w (Mu.le.refl μ) (EnvR.less (e := e.junks pd) ⟨by simp [Env.junks], fun n => ?_, rfl⟩ h3) hs hi
    right
    rw [junks_getD, if_neg]
    intro hc
    obtain ⟨j, o, k1, k2, k3, _⟩ := h1 n (by simpa using hc)
    obtain ⟨o', g1, g2, g3, g4⟩ := hm.vals j k1 k2
    obtain ⟨A, B, hAB⟩ := List.append_of_mem k1
    have hs' := (sufOk_at A j none (B ++ []) [] [] (by rw [← List.cons_append, ← List.append_assoc, ← hAB, ← hp]; exact hok)).1
    simp only [sufOk] at hs'
    cases hro : ops[j]? with
    | none => simp [hro] at hs'
    | some ro =>
    have hlt : j < ops.size := (Array.getElem?_eq_some_iff.1 hro).1
    rw [hall j hlt] at k2
    cases k2
  | succ fuel ih =>
    intro listed C π e a σ w μ hp hl hm hs hi hcnt hn hq
    obtain ⟨C, π, e, hp, hl, hm, hi, hhead⟩ := advance hok π C e hp hl hm hi
    refine ⟨fun hready => ?_, fun i hi' => ?_⟩
    · -- nothing is left
      have hallP : ∀ q ∈ Pl, listed.getD q.1 false = true := fun q hq => ready_empty hok hm.size hready Pl.length q (by rw [List.take_length]; exact hq)
      have hpi : π = [] := by
        rcases hhead with h | ⟨l, must, r, rfl⟩
        · exact h
        · exfalso
          have := hallP (l, some must) (by rw [hp]; simp)
          obtain ⟨b, hb⟩ := hm.inC l this
          exact plan_once (c := some must) hok hp hb (by simp)
      subst hpi
      obtain ⟨pd, h1, _, h3⟩ := hm.env
      refine hn μ e a σ w (Mu.le.refl μ) (EnvR.less (e := e.junks pd) ⟨by simp [Env.junks], fun n => ?_, rfl⟩ h3) hs hi
      right
      rw [junks_getD, if_neg]
      intro hc
      obtain ⟨j, o, k1, k2, _⟩ := h1 n (by simpa using hc)
      have := hallP (j, none) (by rw [hp]; simp [k1])
      rw [this] at k2
      cases k2
    · -- the run takes one
      have hi0 := hi'
      rw [mem_ready] at hi'
      obtain ⟨hnl, ro, hro, _⟩ := hi'
      have hlt : i < ops.size := (Array.getElem?_eq_some_iff.1 hro).1
      have hnl' : listed.getD i false = false := by
        rw [Array.getD_eq_getD_getElem?, Array.getElem?_eq_getElem (by rw [hm.size]; exact hlt)] at hnl ⊢
        exact hnl
      have hpreds := fun k hk => hm.preds hi0 (k := k) hk
      have hset : ∀ j, (listed.setIfInBounds i true).getD j false = if j = i then true else listed.getD j false := by
        intro j
        by_cases hji : j = i
        · subst hji
          rw [if_pos rfl, Array.getD_eq_getD_getElem?, Array.getElem?_setIfInBounds, if_pos rfl, if_pos (by rw [hm.size]; exact hlt)]
          rfl
        · rw [if_neg hji, getD_set_ne false (fun h => hji h.symm)]
      have hcnt' : (List.range ops.size).countP (fun j => !(listed.setIfInBounds i true).getD j false) ≤ fuel := by
        have := countP_lt (fun j => !listed.getD j false) (fun j => !(listed.setIfInBounds i true).getD j false) (List.range ops.size) (fun j _ hj => by
          rw [hset] at hj
          split at hj
          · cases hj
          · exact hj) ⟨i, by simp [hlt], by simp only [hnl', Bool.not_false], by rw [hset]; simp⟩
        omega
      obtain ⟨pd, h1, h2, h3⟩ := hm.env
      have hdown : ∀ j k, (listed.setIfInBounds i true).getD j false = true → bef ops j k = true → (listed.setIfInBounds i true).getD k false = true := by
        intro j k hj hk
        rw [hset] at hj ⊢
        by_cases hki : k = i
        · rw [if_pos hki]
        · rw [if_neg hki]
          split at hj
          · rename_i hji; subst hji; exact hpreds k hk
          · exact hm.down j k hj hk
      obtain ⟨b, hbP⟩ := hcov i hlt
      rw [hp] at hbP
      rcases List.mem_append.1 hbP with hiC | hiπ
      · -- one that the plan has taken already
        cases b with
        | some must => rw [hm.bars i must hiC] at hnl'; cases hnl'
        | none =>
          obtain ⟨o, ho, hlook, hpv, htl⟩ := hm.vals i hiC hnl'
          have hrx := ios_at hios ho hlt
          -- what it reads, all has been done
          obtain ⟨A, B, hAB⟩ := List.append_of_mem hiC
          have hreads : ∀ n ∈ o.reads, n ∉ pd := by
            intro n hn hnp
            obtain ⟨k, ok, k1, k2, k3, k4⟩ := h1 n hnp
            by_cases hki : k = i
            · subst hki
              rw [ho] at k3
              simp only [Option.some.injEq] at k3
              subst k3
              have hs' := (sufOk_at A k none (B ++ π) [] [] (by rw [← List.cons_append, ← List.append_assoc, ← hAB, ← hp]; exact hok)).1
              simp only [sufOk, hro, ho, Bool.and_eq_true] at hs'
              obtain ⟨⟨⟨_, ⟨⟨_, hself⟩, _⟩⟩, _⟩, _⟩ := hs'
              simp [dstIn, k4, hn] at hself
            · -- it stands before or behind i in the plan
              rw [hAB] at k1
              rcases List.mem_append.1 k1 with k1 | k1
              · obtain ⟨A1, A2, rfl⟩ := List.append_of_mem k1
                have hs' := (sufOk_at A1 k none (A2 ++ (i, none) :: B ++ π) [] [] (by rw [hp, hAB] at hok; simpa using hok)).1
                simp only [sufOk] at hs'
                cases hrk : ops[k]? with
                | none => simp [hrk] at hs'
                | some rk =>
                simp only [hrk, k3, Bool.and_eq_true] at hs'
                obtain ⟨⟨⟨_, ⟨_, hrest⟩⟩, _⟩, _⟩ := hs'
                have hq' := List.all_eq_true.1 hrest (i, none) (by simp)
                simp only [ho, Bool.and_eq_true] at hq'
                obtain ⟨_, hq'⟩ := hq'
                simp only [dstIn, k4, List.contains_eq_mem, hn, decide_true, Bool.not_true, Bool.false_or] at hq'
                have := hpreds k hq'
                rw [this] at k2
                cases k2
              · rcases List.mem_cons.1 k1 with k1 | k1
                · simp only [Prod.mk.injEq] at k1; exact hki k1.1
                · have hs' := (sufOk_at A i none (B ++ π) [] [] (by rw [← List.cons_append, ← List.append_assoc, ← hAB, ← hp]; exact hok)).1
                  simp only [sufOk, hro, ho, Bool.and_eq_true] at hs'
                  obtain ⟨⟨⟨_, ⟨_, hrest⟩⟩, _⟩, _⟩ := hs'
                  have hq' := List.all_eq_true.1 hrest (k, none) (by simp [k1])
                  simp only [k3, Bool.and_eq_true] at hq'
                  obtain ⟨⟨hq', _⟩, _⟩ := hq'
                  simp [dstIn, k4, hn] at hq'
          have hpv' : pval o (e.junks pd) σ = some (dstv o e) := by
            rw [pval_congr hlook (e' := e)]
            · exact hpv
            · intro n hn
              rw [junks_getD, if_neg]
              simpa using hreads n hn
          refine iwpG_step hrx h3 hs (iwpG_of_pval hlook hpv') (fun μ' e' a' σ' w' g1 g2 g3 g4 => ?_) (fun _ _ _ _ _ _ _ _ _ hf => hf.elim)
          obtain ⟨rfl, rfl⟩ := g4
          refine ih (listed.setIfInBounds i true) C π e a' σ' w' μ' hp hl ⟨by simp [hm.size], fun j hj => ?_, hdown, fun j must hj => ?_, fun j hj hjl => ?_, ?_⟩ g3 hi hcnt' (fun μ'' e' a' σ' w' q1 => hn μ'' e' a' σ' w' (g1.trans q1)) (fun μ'' d v e' a' σ' w' q1 => hq μ'' d v e' a' σ' w' (g1.trans q1))
          · rw [hset] at hj
            split at hj
            · rename_i hji; subst hji; exact ⟨none, hiC⟩
            · exact hm.inC j hj
          · rw [hset]
            split
            · rfl
            · exact hm.bars j must hj
          · rw [hset] at hjl
            split at hjl
            · cases hjl
            · exact hm.vals j hj hjl
          · refine ⟨pd.filter (fun t => o.dst != some t), fun t ht => ?_, fun j oj t hj hjl hoj htj => ?_, EnvR.less ⟨?_, fun n => ?_, ?_⟩ g2⟩
            · simp only [List.mem_filter, bne_iff_ne, ne_eq] at ht
              obtain ⟨j, oj, k1, k2, k3, k4⟩ := h1 t ht.1
              refine ⟨j, oj, k1, ?_, k3, k4⟩
              rw [hset, if_neg]
              · exact k2
              · intro hji
                subst hji
                rw [ho] at k3
                simp only [Option.some.injEq] at k3
                subst k3
                exact ht.2 k4
            · rw [hset] at hjl
              split at hjl
              · cases hjl
              · rename_i hji
                have hmem := h2 j oj t hj hjl hoj htj
                simp only [List.mem_filter, hmem, true_and, bne_iff_ne, ne_eq]
                intro hot
                -- two that write the same
                rw [hAB] at hj
                rcases List.mem_append.1 hj with hj | hj
                · obtain ⟨A1, A2, rfl⟩ := List.append_of_mem hj
                  have hs' := (sufOk_at A1 j none (A2 ++ (i, none) :: B ++ π) [] [] (by rw [hp, hAB] at hok; simpa using hok)).1
                  simp only [sufOk] at hs'
                  cases hrk : ops[j]? with
                  | none => simp [hrk] at hs'
                  | some rk =>
                  simp only [hrk, hoj, Bool.and_eq_true] at hs'
                  obtain ⟨⟨⟨_, ⟨_, hrest⟩⟩, _⟩, _⟩ := hs'
                  have hq' := List.all_eq_true.1 hrest (i, none) (by simp)
                  simp only [ho, Bool.and_eq_true, bne_iff_ne, ne_eq] at hq'
                  exact hq'.1.2 (by rw [htj, hot])
                · rcases List.mem_cons.1 hj with hj | hj
                  · simp only [Prod.mk.injEq] at hj; exact hji hj.1
                  · have hs' := (sufOk_at A i none (B ++ π) [] [] (by rw [← List.cons_append, ← List.append_assoc, ← hAB, ← hp]; exact hok)).1
                    simp only [sufOk, hro, ho, Bool.and_eq_true] at hs'
                    obtain ⟨⟨⟨_, ⟨_, hrest⟩⟩, _⟩, _⟩ := hs'
                    have hq' := List.all_eq_true.1 hrest (j, none) (by simp [hj])
                    simp only [hoj, Bool.and_eq_true, bne_iff_ne, ne_eq] at hq'
                    exact hq'.1.2 (by rw [htj, hot])
            · simp [Env.junks, put_len]
            · rw [junks_getD, put_getD, junks_getD]
              by_cases hnp : n ∈ pd
              · by_cases hno : o.dst = some n
                · right
                  have hnl2 : n < e.tmps.length := htl n hno
                  rw [if_neg (by simp [hno]), if_pos ⟨hno, by simpa [Env.junks] using hnl2⟩]
                  simp [dstv, hno]
                · left
                  rw [if_pos]
                  simp only [List.contains_eq_mem, List.mem_filter, hnp, bne_iff_ne, ne_eq, true_and, decide_eq_true_eq]
                  exact hno
              · right
                have c1 : (pd.filter (fun t => o.dst != some t)).contains n = false := by simp [hnp]
                have c2 : pd.contains n = false := by simp [hnp]
                simp only [c1, c2, Bool.false_eq_true, if_false]
                by_cases hno : o.dst = some n ∧ n < (e.junks pd).tmps.length
                · rw [if_pos hno]; simp [dstv, hno.1]
                · rw [if_neg hno]
            · simp [Env.junks, put_defers]
      · -- a barrier: it is the next one
        rcases hhead with rfl | ⟨l, must, r, rfl⟩
        · cases hiπ
        · have hs' := (sufOk_at C l (some must) r [] [] (by rw [← hp]; exact hok))
          have hs1 := hs'.1
          simp only [sufOk] at hs1
          cases hrl : ops[l]? with
          | none => simp [hrl] at hs1
          | some rl =>
          cases hol : ios[l]? with
          | none => simp [hrl, hol] at hs1
          | some o =>
          simp only [hrl, hol, Bool.and_eq_true] at hs1
          obtain ⟨⟨⟨⟨_, hall⟩, ⟨⟨hbar, hafter⟩, hheld⟩⟩, _⟩, _⟩ := hs1
          have hil : i = l := by
            rcases List.mem_cons.1 hiπ with h | h
            · simp only [Prod.mk.injEq] at h; exact h.1
            · exfalso
              have hb' := List.all_eq_true.1 hafter (i, b) h
              have hl' := hpreds l hb'
              obtain ⟨c, hc⟩ := hm.inC l hl'
              exact plan_once (c := some must) hok hp hc (by simp)
          subst hil
          have hrx := ios_at hios hol hlt
          -- what shares anything with it has been done
          have hsh : ∀ (k : Nat) (ok : IOper), (k, none) ∈ C → listed.getD k false = false → ios[k]? = some ok → shares ok o = false := by
            intro k ok hk hkl hok'
            obtain ⟨A, B, hAB⟩ := List.append_of_mem hk
            have hsk := (sufOk_at A k none (B ++ (i, some must) :: r) [] [] (by rw [hp, hAB] at hok; simpa using hok)).1
            simp only [sufOk] at hsk
            cases hrk : ops[k]? with
            | none => simp [hrk] at hsk
            | some rk =>
            simp only [hrk, hok', Bool.and_eq_true] at hsk
            obtain ⟨⟨⟨_, ⟨_, hrest⟩⟩, _⟩, _⟩ := hsk
            have hq' := List.all_eq_true.1 hrest (i, some must) (by simp)
            simp only [hol, Bool.or_eq_true, Bool.not_eq_true'] at hq'
            rcases hq' with hq' | hq'
            · exact hq'
            · rw [hpreds k hq'] at hkl
              cases hkl
          have hreads : ∀ n ∈ o.reads, e.tmps.getD n .junk = (e.junks pd).tmps.getD n .junk := by
            intro n hn
            rw [junks_getD, if_neg]
            intro hc
            obtain ⟨k, ok, k1, k2, k3, k4⟩ := h1 n (by simpa using hc)
            have := hsh k ok k1 k2 k3
            simp [shares, dstIn, k4, hn] at this
          have hpdall : ∀ t ∈ pd, t ∈ alld := by
            intro t ht
            obtain ⟨k, ok, k1, k2, k3, k4⟩ := h1 t ht
            obtain ⟨A, B, hAB⟩ := List.append_of_mem k1
            have hsk := (sufOk_at A k none (B ++ (i, some must) :: r) [] [] (by rw [hp, hAB] at hok; simpa using hok)).1
            simp only [sufOk] at hsk
            cases hrk : ops[k]? with
            | none => simp [hrk] at hsk
            | some rk =>
            simp only [hrk, k3, Bool.and_eq_true] at hsk
            obtain ⟨⟨⟨⟨_, hk5⟩, _⟩, _⟩, _⟩ := hsk
            simpa [k4] using hk5
          simp only [iwpPlan, hol] at hi
          refine iwpG_step hrx h3 hs (iwpG_congr hbar hreads hi) (fun μ' e' a' σ' w' g1 g2 g3 g4 => ?_) (fun μ' d v σ' w' g1 g2 g3 g4 g5 => ?_)
          · obtain ⟨d, rfl, hst, hrest⟩ := g4
            have hnotin : ∀ (k : Nat) (ok : IOper), (k, none) ∈ C → listed.getD k false = false → ios[k]? = some ok → (∀ n ∈ ok.reads, o.dst ≠ some n) ∧ (∀ t, ok.dst = some t → o.dst ≠ some t) := by
              intro k ok k1 k2 k3
              have := hsh k ok k1 k2 k3
              simp only [shares, Bool.or_eq_false_iff] at this
              refine ⟨fun n hn hh => ?_, fun t ht hh => ?_⟩
              · simp [dstIn, hh, hn] at this
              · simp [ht, hh] at this
            refine ih (listed.setIfInBounds i true) (C ++ [(i, some must)]) r (e.put o.dst d) a' σ' w' μ' (by simp [hp]) (fun t ht => by rw [put_len]; exact hl t ht)
              ⟨by simp [hm.size], fun j hj => ?_, hdown, fun j mj hj => ?_, fun j hj hjl => ?_, ?_⟩ g3 hrest hcnt' (fun μ'' e' a' σ' w' q1 => hn μ'' e' a' σ' w' (g1.trans q1)) (fun μ'' d v e' a' σ' w' q1 => hq μ'' d v e' a' σ' w' (g1.trans q1))
            · rw [hset] at hj
              split at hj
              · rename_i hji; subst hji; exact ⟨some must, by simp⟩
              · obtain ⟨c, hc⟩ := hm.inC j hj
                exact ⟨c, by simp [hc]⟩
            · rw [hset]
              split
              · rfl
              · rename_i hji
                rcases List.mem_append.1 hj with hj | hj
                · exact hm.bars j mj hj
                · simp only [List.mem_singleton, Prod.mk.injEq] at hj; exact absurd hj.1 hji
            · rw [hset] at hjl
              split at hjl
              · cases hjl
              · have hjC : (j, none) ∈ C := by
                  rcases List.mem_append.1 hj with hj | hj
                  · exact hj
                  · simp at hj
                obtain ⟨oj, k1, k2, k3, k4⟩ := hm.vals j hjC hjl
                obtain ⟨n1, n2⟩ := hnotin j oj hjC hjl k1
                refine ⟨oj, k1, k2, ?_, fun t ht => by rw [put_len]; exact k4 t ht⟩
                have hdv : dstv oj (e.put o.dst d) = dstv oj e := by
                  simp only [dstv]
                  cases hdj : oj.dst with
                  | none => rfl
                  | some tj =>
                    simp only
                    rw [put_getD, if_neg]
                    rintro ⟨h5, _⟩
                    exact n2 tj hdj h5
                have hpe : pval oj (e.put o.dst d) σ = some (dstv oj (e.put o.dst d)) := by
                  rw [pval_congr k2 (e' := e), k3, hdv]
                  intro n hn
                  rw [put_getD, if_neg]
                  rintro ⟨h5, _⟩
                  exact n1 n hn h5
                refine pval_still k2 hpe (fun hld => ?_)
                have hh := List.all_eq_true.1 hheld j (by
                  simp only [List.append_nil, List.mem_reverse, List.mem_filterMap]
                  exact ⟨(j, none), hjC, rfl⟩)
                simp only [k1, hld, Bool.not_true, Bool.or_false, Bool.or_eq_true, List.contains_eq_mem, decide_eq_true_eq] at hh
                rcases hh with hh | hh
                · rw [hpreds j hh] at hjl
                  cases hjl
                · exact hst.get hh k1
            · refine ⟨pd, fun t ht => ?_, fun j oj t hj hjl hoj htj => ?_, EnvR.less ⟨?_, fun n => ?_, ?_⟩ g2⟩
              · obtain ⟨j, oj, k1, k2, k3, k4⟩ := h1 t ht
                refine ⟨j, oj, by simp [k1], ?_, k3, k4⟩
                rw [hset, if_neg]
                · exact k2
                · intro hji; subst hji; exact plan_once (c := some must) hok hp k1 (by simp)
              · rw [hset] at hjl
                split at hjl
                · cases hjl
                · rcases List.mem_append.1 hj with hj | hj
                  · exact h2 j oj t hj hjl hoj htj
                  · simp at hj
              · simp [Env.junks, put_len]
              · rw [junks_getD, put_getD, put_getD, junks_getD]
                by_cases hnp : pd.contains n = true
                · left; rw [if_pos hnp]
                · right
                  rw [if_neg hnp, if_neg hnp]
                  simp [Env.junks]
              · simp [Env.junks, put_defers]
          · obtain ⟨_, g5⟩ := g5
            refine hq μ' d v (e.junks alld) a σ' w' g1 g2 (EnvR.less (e := e.junks pd) ⟨by simp [Env.junks], fun n => ?_, rfl⟩ g3) g4 g5
            rw [junks_getD, junks_getD]
            by_cases hna : alld.contains n = true
            · left; rw [if_pos hna]
            · right
              rw [if_neg hna, if_neg]
              intro hc
              exact hna (by simpa using hpdall n (by simpa using hc))

end
end Go.Id

/-
  THE IDEAL LAYER, PART V: two operations of which neither waits for the other: every run takes one of them first.
-/
namespace Go.Id
open Go.RowKit
set_option linter.unusedVariables false
set_option linter.unusedSimpArgs false

/-- An operation that is no call: it comes to one end. -/
def plainOp : Op → Bool
  | .move _ | .assign _ | .alloc _ | .box _ _ | .build _ _ | .buildSlice _ _ _ | .load _ _ | .store _ _ _ | .binOp _ _ _ _ _ | .unOp _ _ _ | .convert _ _ _ | .fieldAddr _ _ _ | .field _ _ _
  | .indexAddr _ _ _ | .index _ _ _ | .slice _ _ _ _ _ | .makeInterface _ _ | .makeFunc _ _ _ | .extract _ _ => true
  | _ => false

theorem plain_ends {P : Program} {o : Oper} (h : plainOp o.op = true) (ρ : Operand → Value) (w : World) :
    (∃ v w', (execOp ρ o).run P w = .ok (.value v) w') ∨ (∃ w', (execOp ρ o).run P w = .ok .skip w') ∨ ∃ x w', (execOp ρ o).run P w = .halt x w' := by
  have hv : ∀ s : Sem Value, (∃ v w', (do pure (Next.value (← s)) : Sem Next).run P w = .ok (.value v) w') ∨ (∃ w', (do pure (Next.value (← s)) : Sem Next).run P w = .ok .skip w') ∨ ∃ x w', (do pure (Next.value (← s)) : Sem Next).run P w = .halt x w' := by
    intro s
    rw [Sem.run_bind]
    cases hr : s.run P w with
    | ok x w' => exact .inl ⟨x, w', by simp [Result.andThen]⟩
    | halt x w' => exact .inr (.inr ⟨x, w', by simp [Result.andThen]⟩)
  have hu : ∀ s : Sem Unit, (∃ v w', (do s; pure Next.skip : Sem Next).run P w = .ok (.value v) w') ∨ (∃ w', (do s; pure Next.skip : Sem Next).run P w = .ok .skip w') ∨ ∃ x w', (do s; pure Next.skip : Sem Next).run P w = .halt x w' := by
    intro s
    rw [Sem.run_bind]
    cases hr : s.run P w with
    | ok x w' => exact .inr (.inl ⟨w', by simp [Result.andThen]⟩)
    | halt x w' => exact .inr (.inr ⟨x, w', by simp [Result.andThen]⟩)
  obtain ⟨dst, op, type, pos, after, guard⟩ := o
  cases op <;> simp only [plainOp, Bool.false_eq_true] at h <;> (first | exact hv _ | exact hu _ | exact .inl ⟨_, _, rfl⟩)

section
variable {P : Program} {ops : Array Oper} {Q : Exit → Act → World → Prop}

theorem plain_and {o : Oper} (h : plainOp o.op = true) {a : Act} {w : World} {K K' : Act → World → Prop} (h1 : o.wp P a w K Q) (h2 : o.wp P a w K' Q) : o.wp P a w (fun a w => K a w ∧ K' a w) Q := by
  unfold Oper.wp at *
  rcases plain_ends (P := P) h a.eval w with ⟨v, w', hr⟩ | ⟨w', hr⟩ | ⟨x, w', hr⟩
  · rw [hr] at h1 h2 ⊢; exact ⟨h1, h2⟩
  · rw [hr] at h1 h2 ⊢; exact ⟨h1, h2⟩
  · rw [hr] at h1 h2 ⊢; cases x <;> exact h1

/-- An edge more. -/
def withEdge (ops : Array Oper) (i j : Nat) : Array Oper := ops.modify i fun o => { o with after := o.after.push ⟨j, .data⟩ }

theorem withEdge_size (i j : Nat) : (withEdge ops i j).size = ops.size := by simp [withEdge]

theorem withEdge_ne {i j k : Nat} (h : i ≠ k) : (withEdge ops i j)[k]? = ops[k]? := by
  simp [withEdge, Array.getElem?_modify, h]

theorem withEdge_at {i j : Nat} {o : Oper} (h : ops[i]? = some o) : (withEdge ops i j)[i]? = some { o with after := o.after.push ⟨j, .data⟩ } := by
  simp [withEdge, Array.getElem?_modify, h]

theorem wpOp_edge {i j k : Nat} {K : Act → World → Prop} {a : Act} {w : World} : wpOp P (withEdge ops i j) Q k K a w = wpOp P ops Q k K a w := by
  have hy : ∀ (t : Array Value) (n : Nat), yielded (withEdge ops i j) t n = yielded ops t n := by
    intro t n
    unfold yielded
    have : ((withEdge ops i j)[n]?).bind (·.dst) = (ops[n]?).bind (·.dst) := by
      by_cases h : i = n
      · subst h
        cases hn : ops[i]? with
        | none => simp [withEdge, Array.getElem?_modify, hn]
        | some o => rw [withEdge_at hn]; rfl
      · rw [withEdge_ne h]
    rw [this]
  have hy' : ∀ t, yielded (withEdge ops i j) t = yielded ops t := fun t => funext (hy t)
  unfold wpOp
  by_cases h : i = k
  · subst h
    cases hn : ops[i]? with
    | none => simp [withEdge, Array.getElem?_modify, hn]
    | some o => simp only [withEdge_at hn, hy']; rfl
  · simp only [withEdge_ne h, hy']

theorem ready_edge {i j k : Nat} {listed : Array Bool} : k ∈ Region.ready .any (withEdge ops i j) listed ↔ k ∈ Region.ready .any ops listed ∧ (k = i → listed.getD j false = true) := by
  rw [mem_ready, mem_ready]
  by_cases h : i = k
  · subst h
    cases hn : ops[i]? with
    | none => simp [withEdge, Array.getElem?_modify, hn]
    | some o =>
      rw [withEdge_at hn]
      constructor
      · rintro ⟨h1, o', ho', h3⟩
        cases ho'
        exact ⟨⟨h1, o, rfl, fun e he hb => h3 e (Array.mem_push_of_mem _ he) hb⟩, fun _ => h3 ⟨j, .data⟩ (Array.mem_push_self) rfl⟩
      · rintro ⟨⟨h1, o', ho', h3⟩, h4⟩
        cases ho'
        refine ⟨h1, _, rfl, fun e he hb => ?_⟩
        rcases Array.mem_push.1 he with he | he
        · exact h3 e he hb
        · subst he; exact h4 rfl
  · rw [withEdge_ne h]
    exact ⟨fun h' => ⟨h', fun hh => absurd hh.symm h⟩, fun h' => h'.1⟩

theorem getD_set (listed : Array Bool) (i j : Nat) (h : listed.getD j false = true) : (listed.setIfInBounds i true).getD j false = true := by
  rw [Array.getD_eq_getD_getElem?] at h ⊢
  rw [Array.getElem?_setIfInBounds]
  split
  · split
    · rfl
    · rename_i h1 h2; subst h1; rw [Array.getElem?_eq_none (by omega)] at h; simp at h
  · exact h

/-- Once what it points to is done the edge plays no part. -/
theorem wpAny_edge {i j : Nat} : ∀ (fuel : Nat) (listed : Array Bool) (a : Act) (w : World), listed.getD j false = true → wpAny P .any (withEdge ops i j) Q fuel listed a w → wpAny P .any ops Q fuel listed a w := by
  intro fuel
  induction fuel with
  | zero =>
    rintro listed a w hj ⟨h1, h2⟩
    refine ⟨?_, h2⟩
    rw [List.eq_nil_iff_forall_not_mem] at h1 ⊢
    exact fun k hk => h1 k (ready_edge.2 ⟨hk, fun _ => hj⟩)
  | succ fuel ih =>
    rintro listed a w hj ⟨h1, h2⟩
    refine ⟨fun h => h1 ?_, fun k hk => ?_⟩
    · rw [List.eq_nil_iff_forall_not_mem] at h ⊢
      exact fun k hk => h k (ready_edge.1 hk).1
    · have := h2 k (ready_edge.2 ⟨hk, fun _ => hj⟩)
      rw [wpOp_edge] at this
      exact wpOp_mono (fun a w => ih _ a w (getD_set _ _ _ hj)) this

theorem wpOp_and {i : Nat} (h : ∀ o, ops[i]? = some o → plainOp o.op = true) {a : Act} {w : World} {K K' : Act → World → Prop} (h1 : wpOp P ops Q i K a w) (h2 : wpOp P ops Q i K' a w) : wpOp P ops Q i (fun a w => K a w ∧ K' a w) a w := by
  unfold wpOp at *
  split
  · rename_i hn; rw [hn] at h1 h2; exact ⟨h1, h2⟩
  · rename_i o ho
    simp only [ho] at h1 h2
    split
    · rename_i hw
      simp only [hw, if_true] at h1 h2
      rcases h1 with h1 | h1
      · rcases h2 with h2 | h2
        · exact .inl (plain_and (h o ho) h1 h2)
        · exact .inr h2
      · exact .inr h1
    · rename_i hw
      simp only [hw, if_false] at h1 h2
      exact ⟨h1, h2⟩

/-- Every other operation is plain, or waits for one of both. -/
def splitOk (ops : Array Oper) (a c : Nat) : Bool :=
  a != c && decide (a < ops.size) && decide (c < ops.size) && (List.range ops.size).all fun i => i == a || i == c || match ops[i]? with
    | some o => plainOp o.op || o.after.any fun e => Region.binds .any e && (e.on == a || e.on == c)
    | none => false

theorem wpAny_split {a c : Nat} (hok : splitOk ops a c = true) : ∀ (fuel : Nat) (listed : Array Bool) (x : Act) (w : World), listed.size = ops.size → listed.getD a false = false → listed.getD c false = false →
    wpAny P .any (withEdge ops c a) Q fuel listed x w → wpAny P .any (withEdge ops a c) Q fuel listed x w → wpAny P .any ops Q fuel listed x w := by
  simp only [splitOk, Bool.and_eq_true, bne_iff_ne, ne_eq, decide_eq_true_eq] at hok
  obtain ⟨⟨⟨hac, hal⟩, hcl⟩, hpl⟩ := hok
  intro fuel
  induction fuel with
  | zero =>
    rintro listed x w hsz ha hc ⟨h1, h2⟩ ⟨h3, h4⟩
    refine ⟨?_, h2⟩
    rw [List.eq_nil_iff_forall_not_mem] at h1 h3 ⊢
    intro k hk
    by_cases h : k = c
    · exact h3 k (ready_edge.2 ⟨hk, fun hh => absurd (h.symm.trans hh).symm hac⟩)
    · exact h1 k (ready_edge.2 ⟨hk, fun hh => absurd hh h⟩)
  | succ fuel ih =>
    rintro listed x w hsz ha hc ⟨h1, h2⟩ ⟨h3, h4⟩
    have hset : ∀ i, i < ops.size → (listed.setIfInBounds i true).getD i false = true := by
      intro i hi
      rw [Array.getD_eq_getD_getElem?, Array.getElem?_setIfInBounds, if_pos rfl, if_pos (by omega)]
      rfl
    refine ⟨fun h => h1 ?_, fun k hk => ?_⟩
    · rw [List.eq_nil_iff_forall_not_mem] at h ⊢
      exact fun k hk => h k (ready_edge.1 hk).1
    · by_cases hka : k = a
      · subst hka
        have := h2 k (ready_edge.2 ⟨hk, fun hh => absurd hh hac⟩)
        rw [wpOp_edge] at this
        exact wpOp_mono (fun x w => wpAny_edge _ _ x w (hset k hal)) this
      · by_cases hkc : k = c
        · subst hkc
          have := h4 k (ready_edge.2 ⟨hk, fun hh => absurd hh hka⟩)
          rw [wpOp_edge] at this
          exact wpOp_mono (fun x w => wpAny_edge _ _ x w (hset k hcl)) this
        · have g1 := h2 k (ready_edge.2 ⟨hk, fun hh => absurd hh hkc⟩)
          have g2 := h4 k (ready_edge.2 ⟨hk, fun hh => absurd hh hka⟩)
          rw [wpOp_edge] at g1 g2
          have hk' := mem_ready.1 hk
          obtain ⟨hnl, o, ho, hall⟩ := hk'
          refine wpOp_mono (fun x w hh => ih _ x w (by simp [hsz]) ?_ ?_ hh.1 hh.2) (wpOp_and (fun o' ho' => ?_) g1 g2)
          · rw [getD_set_ne false (fun h => hka h)]; exact ha
          · rw [getD_set_ne false (fun h => hkc h)]; exact hc
          · have hlt : k < ops.size := (Array.getElem?_eq_some_iff.1 ho).1
            have := List.all_eq_true.1 hpl k (by simp [hlt])
            rw [ho] at ho'
            cases ho'
            simp only [ho, Bool.or_eq_true, beq_iff_eq, hka, hkc, false_or] at this
            rcases this with h | h
            · exact h
            · obtain ⟨e, he, hb⟩ := Array.any_eq_true'.1 h
              simp only [Bool.and_eq_true, Bool.or_eq_true, beq_iff_eq] at hb
              have hd := hall e he hb.1
              rcases hb.2 with hh | hh <;> rw [hh] at hd
              · rw [ha] at hd; cases hd
              · rw [hc] at hd; cases hd
end
end Go.Id

/-
  THE IDEAL LAYER, PART O: code, loops, functions, deferred calls.
-/
namespace Go.Id
open Go.RowKit
set_option linter.unusedVariables false
set_option linter.unusedSimpArgs false

inductive ICode where
  | skip
  | region (ios : List IOper)
  | dregion (ios : List IOper) (alld : List Nat) (plan : List (Nat × Option (List Nat)))
  | both (x y : ICode)
  | seq (a b : ICode)
  | cond (c : Opd) (thn els : ICode)
  | block (id : Nat) (c : ICode)
  | loop (c : ICode)
  | exit (id : Nat)
  | ret

/-! The plan of a region whose order is open. -/
def movableB (ops : Array Oper) (ios : List IOper) (i : Nat) (o : IOper) : Bool :=
  o.op.looks && o.dst.isSome && !dstIn o o.reads && (List.range ops.size).all fun q => q == i || match ios[q]? with
    | some oq => o.dst != oq.dst && (!dstIn o oq.reads || bef ops q i) && (!dstIn oq o.reads || bef ops i q || bef ops q i)
    | none => false

def mkPlanGo (ops : Array Oper) (ios : List IOper) (mov : List Bool) : Nat → List Nat → List Nat → List (Nat × Option (List Nat)) → List (Nat × Option (List Nat))
  | 0, _, _, acc => acc.reverse
  | fuel + 1, todo, held, acc =>
    let ready := todo.filter fun i => match ops[i]? with
      | some o => o.after.all fun e => !Region.binds .any e || !todo.contains e.on
      | none => false
    match ready.find? fun i => mov.getD i false with
    | some i => mkPlanGo ops ios mov fuel (todo.filter (· != i)) ((match ios[i]? with | some o => if isLoad o then [i] else [] | none => []) ++ held) ((i, none) :: acc)
    | none => match ready with
      | i :: _ => mkPlanGo ops ios mov fuel (todo.filter (· != i)) held ((i, some (held.filter fun j => !bef ops i j)) :: acc)
      | [] => acc.reverse

def mkPlan (ops : Array Oper) (ios : List IOper) : List (Nat × Option (List Nat)) :=
  mkPlanGo ops ios ((List.range ops.size).map fun i => match ios[i]? with | some o => movableB ops ios i o | none => false) ops.size (List.range ops.size) [] []

def planOk (ops : Array Oper) (ios : List IOper) (alld : List Nat) (pl : List (Nat × Option (List Nat))) : Bool :=
  sufOk ops ios alld [] [] pl && (List.range ops.size).all fun i => pl.any fun q => q.1 == i

/-- Two operations that both do something, and of which neither waits for the other. -/
def openPair (ops : Array Oper) (ios : List IOper) : Option (Nat × Nat) :=
  ((List.range ops.size).flatMap fun i => (List.range i).map fun j => (j, i)).find? fun p => match ios[p.1]?, ios[p.2]? with
    | some x, some y => !x.op.looks && !y.op.looks && !bef ops p.1 p.2 && !bef ops p.2 p.1
    | _, _ => false

/-- The code of a region whose order is open. -/
def rplan (P : Program) (pol : TypeId → Bool) : Nat → Array Oper → Option ICode
  | fuel, ops => match (List.range ops.size).mapM (rxAt P pol ops) with
    | none => none
    | some ios =>
      if planOk ops ios (ios.filterMap (·.dst)) (mkPlan ops ios) then some (.dregion ios (ios.filterMap (·.dst)) (mkPlan ops ios)) else match fuel with
        | 0 => none
        | fuel + 1 => match openPair ops ios with
          | none => none
          | some (a, c) => if splitOk ops a c then match rplan P pol fuel (withEdge ops c a), rplan P pol fuel (withEdge ops a c) with
              | some x, some y => some (.both x y)
              | _, _ => none
            else none

def rcode (P : Program) (pol : TypeId → Bool) : Code → Option ICode
  | .skip => some .skip
  | .region _ ops draw => do
    if draw then rplan P pol 3 ops
    else
      let ios ← (List.range ops.size).mapM (rxAt P pol ops)
      some (.region ios)
  | .seq a b => do some (.seq (← rcode P pol a) (← rcode P pol b))
  | .cond c a b => do some (.cond (← ropd c) (← rcode P pol a) (← rcode P pol b))
  | .block id c => do some (.block id (← rcode P pol c))
  | .loop c => do some (.loop (← rcode P pol c))
  | .exit id => some (.exit id)
  | .ret => some .ret
  | .refuse _ => some (.region [⟨none, .recover, none⟩])
  | _ => none

def thenI (K : Env → St → Prop) (Q : IExit → Env → St → Prop) : IExit → Env → St → Prop
  | .normal, e, σ => K e σ
  | x, e, σ => Q x e σ

/-- A place where less may be known from here on. -/
def Cut (K : Env → St → Prop) (e : Env) (σ : St) : Prop := ∃ e₀ σ₀, Less e₀ e ∧ Drops σ σ₀ ∧ K e₀ σ₀
theorem Cut.go {K : Env → St → Prop} {e : Env} {σ : St} (h : K e σ) : Cut K e σ := ⟨e, σ, Less.refl e, Drops.refl σ, h⟩
theorem Cut.to {K : Env → St → Prop} {e : Env} {σ : St} (e₀ : Env) (hl : Less e₀ e) (h : K e₀ σ) : Cut K e σ := ⟨e₀, σ, hl, Drops.refl σ, h⟩

def inBlockI (id : Nat) (Q : IExit → Env → St → Prop) : IExit → Env → St → Prop
  | .exit id', e, σ => if id' = id then Q .normal e σ else Q (.exit id') e σ
  | x, e, σ => Q x e σ

def iwp (P : Program) : ICode → (IExit → Env → St → Prop) → Env → St → Prop
  | .skip, Q, e, σ => Q .normal e σ
  | .region ios, Q, e, σ => iwpOps P ios (Q .normal) Q e σ
  | .dregion ios alld pl, Q, e, σ => (alld.all fun t => decide (t < e.tmps.length)) = true ∧ iwpPlan P ios alld (Q .normal) Q pl e σ
  | .both x y, Q, e, σ => iwp P x Q e σ ∧ iwp P y Q e σ
  | .seq a b, Q, e, σ => iwp P a (thenI (Cut (iwp P b Q)) Q) e σ
  | .cond c a b, Q, e, σ => match c.ev e.tmps with
    | .bool t => Br t (iwp P a Q e σ) (iwp P b Q e σ)
    | _ => False
  | .block id c, Q, e, σ => iwp P c (inBlockI id Q) e σ
  | .loop c, Q, e, σ => ∃ I : Nat → Env → St → Prop, (∃ n, Cut (I n) e σ) ∧ ∀ n e σ, I n e σ → iwp P c (thenI (fun e' σ' => ∃ m, m < n ∧ Cut (I m) e' σ') Q) e σ
  | .exit id, Q, e, σ => Q (.exit id) e σ
  | .ret, Q, e, σ => Q .ret e σ

section
variable {P : Program}

theorem wp_loop_n {c : Code} {Q : Exit → Act → World → Prop} (I : Nat → Act → World → Prop)
    (round : ∀ n a w, I n a w → c.wp P (Exit.then (fun a' w' => ∃ m, m < n ∧ I m a' w') Q) a w) {n : Nat} {a : Act} {w : World} (h₀ : I n a w) : (Code.loop c).wp P Q a w := by
  intro b k cs
  have key : ∀ n a w, I n a w → ∃ e a' w', Q e a' w' ∧ Arrives P (lone (b.at a (.code c :: .inLoop c :: k)) cs w) b k cs e a' w' := by
    intro n
    induction n using Nat.strongRecOn with
    | _ n ih =>
      intro a w hI
      obtain ⟨e, a₁, w₁, hq, harr⟩ := round n a w hI b (.inLoop c :: k) cs
      cases e with
      | normal =>
        obtain ⟨m, hlt, hI₁⟩ := hq
        obtain ⟨e₂, a₂, w₂, hq₂, harr₂⟩ := ih m hlt a₁ w₁ hI₁
        exact ⟨e₂, a₂, w₂, hq₂, .of_steps (Steps.trans harr (.one step_inLoop)) harr₂⟩
      | exit id => exact ⟨_, a₁, w₁, hq, .pass (x := .inLoop c) rfl (fun _ _ => .inl (by simp)) harr⟩
      | goto l => exact ⟨_, a₁, w₁, hq, .pass (x := .inLoop c) rfl (fun _ _ => .inl (by simp)) harr⟩
      | ret => exact ⟨_, a₁, w₁, hq, .pass (x := .inLoop c) rfl (fun _ _ => .inl (by simp)) harr⟩
      | panic ch => exact ⟨_, a₁, w₁, hq, .pass (x := .inLoop c) rfl (fun _ _ => .inl (by simp)) harr⟩
      | outgrown => exact ⟨_, a₁, w₁, hq, .pass (x := .inLoop c) rfl (fun _ _ => .inl (by simp)) harr⟩
  obtain ⟨e, a', w', hq, harr⟩ := key _ a w h₀
  exact ⟨e, a', w', hq, .of_steps (.one step_loop) harr⟩

theorem rplan_one {pol : TypeId → Bool} (fuel : Nat) (ops : Array Oper) (ic : ICode) (hr : rplan P pol fuel ops = some ic)
    (ih : ∀ {n : Nat}, fuel = n + 1 → ∀ (ops : Array Oper) (ic : ICode), rplan P pol n ops = some ic → ∀ (Q : IExit → Env → St → Prop) (e : Env) (σ : St), iwp P ic Q e σ →
      ∀ (μ : Mu) (a : Act) (w : World), Sim μ σ w → EnvR μ e a → wpAny P .any ops (lift μ Q) ops.size (Array.replicate ops.size false) a w)
    (Q : IExit → Env → St → Prop) (e : Env) (σ : St) (hi : iwp P ic Q e σ) (μ : Mu) (a : Act) (w : World) (hs : Sim μ σ w) (he : EnvR μ e a) : wpAny P .any ops (lift μ Q) ops.size (Array.replicate ops.size false) a w := by
  unfold rplan at hr
  split at hr
  · cases hr
  rename_i ios h1
  split at hr
  · rename_i hpl
    simp only [Option.some.injEq] at hr
    subst hr
    obtain ⟨hl, hi⟩ := hi
    simp only [planOk, Bool.and_eq_true] at hpl
    refine plan_run h1 hpl.1 (fun i hi' => ?_) ops.size (Array.replicate ops.size false) [] (mkPlan ops ios) e a σ _ μ (by simp) (fun t ht => by simpa using List.all_eq_true.1 hl t ht)
      ⟨by simp, fun j hj => ?_, fun j k hj => ?_, fun j must hj => ?_, fun j hj => ?_, [], ?_, ?_, ?_⟩ hs hi (by simpa using List.countP_le_length (l := List.range ops.size))
      (fun μ' e' a' σ' w' k1 k2 k3 k4 => ⟨μ', .normal, e', σ', k1, trivial, k2, k3, k4⟩) (fun μ' d v e' a' σ' w' k1 k2 k3 k4 k5 => ⟨μ', .panic d, e', σ', k1, ⟨v, k2, rfl⟩, k3, k4, k5⟩)
    · have := List.all_eq_true.1 hpl.2 i (by simp [hi'])
      simp only [List.any_eq_true, beq_iff_eq] at this
      obtain ⟨⟨j, b⟩, h3, rfl⟩ := this
      exact ⟨b, h3⟩
    · simp [Array.getD_eq_getD_getElem?, Array.getElem?_replicate] at hj
      split at hj <;> simp at hj
    · simp [Array.getD_eq_getD_getElem?, Array.getElem?_replicate] at hj
      split at hj <;> simp at hj
    · cases hj
    · cases hj
    · intro t ht; cases ht
    · intro j o t hj; cases hj
    · exact EnvR.less (e := e) ⟨by simp [Env.junks], fun n => .inr (by rw [junks_getD]; simp), rfl⟩ he
  · split at hr
    · cases hr
    rename_i n
    split at hr
    · cases hr
    rename_i pa pc hp
    split at hr
    · rename_i hsp
      split at hr
      · rename_i x y hx hy
        simp only [Option.some.injEq] at hr
        subst hr
        have g1 := ih rfl _ _ hx Q e σ hi.1 μ a w hs he
        have g2 := ih rfl _ _ hy Q e σ hi.2 μ a w hs he
        simp only [withEdge_size] at g1 g2
        refine wpAny_split hsp _ _ a w (by simp) ?_ ?_ g1 g2
        · simp [Array.getD_eq_getD_getElem?, Array.getElem?_replicate]; split <;> simp
        · simp [Array.getD_eq_getD_getElem?, Array.getElem?_replicate]; split <;> simp
      · cases hr
    · cases hr

theorem rplan_sound {pol : TypeId → Bool} : ∀ (fuel : Nat) (ops : Array Oper) (ic : ICode), rplan P pol fuel ops = some ic → ∀ (Q : IExit → Env → St → Prop) (e : Env) (σ : St), iwp P ic Q e σ →
    ∀ (μ : Mu) (a : Act) (w : World), Sim μ σ w → EnvR μ e a → wpAny P .any ops (lift μ Q) ops.size (Array.replicate ops.size false) a w := by
  intro fuel
  induction fuel with
  | zero => exact fun ops ic hr => rplan_one 0 ops ic hr (fun h => by cases h)
  | succ fuel ih => exact fun ops ic hr => rplan_one (fuel + 1) ops ic hr (fun h => by cases h; exact ih)

theorem iwp_sound (hmix : P.follows .mixedOrders = true) {pol : TypeId → Bool} : ∀ (c : Code) (ic : ICode), rcode P pol c = some ic → ∀ (Q : IExit → Env → St → Prop) (e : Env) (σ : St), iwp P ic Q e σ →
    ∀ (μ : Mu) (a : Act) (w : World), Sim μ σ w → EnvR μ e a → c.wp P (lift μ Q) a w := by
  intro c
  induction c with
  | skip =>
    intro ic hr Q e σ hi μ a w hs he
    simp only [rcode, Option.some.injEq] at hr
    subst hr
    exact wp_skip ⟨μ, .normal, e, σ, Mu.le.refl μ, trivial, he, hs, hi⟩
  | region id ops draw =>
    intro ic hr Q e σ hi μ a w hs he
    cases draw with
    | false =>
      simp only [rcode, Bool.false_eq_true, if_false, Option.bind_eq_bind, Option.bind_eq_some_iff, Option.some.injEq] at hr
      obtain ⟨ios, h1, rfl⟩ := hr
      exact wp_region (iwpOps_sound _ _ h1 μ e a σ w he hs hi (fun μ' e' a' σ' w' k1 k2 k3 k4 => ⟨μ', .normal, e', σ', k1, trivial, k2, k3, k4⟩)
        (fun μ' d v e' a' σ' w' k1 k2 k3 k4 k5 => ⟨μ', .panic d, e', σ', k1, ⟨v, k2, rfl⟩, k3, k4, k5⟩))
    | true =>
      simp only [rcode, if_true] at hr
      exact wp_region_any hmix (rplan_sound 3 ops ic hr Q e σ hi μ a _ (hs.drawn (w.drawn + 1)) he)
  | seq x y ihx ihy =>
    intro ic hr Q e σ hi μ a w hs he
    simp only [rcode, Option.bind_eq_bind, Option.bind_eq_some_iff, Option.some.injEq] at hr
    obtain ⟨ix, h1, iy, h2, rfl⟩ := hr
    refine wp_seq (wp_mono (ihx ix h1 _ e σ hi μ a w hs he) fun ex a' w' hh => ?_)
    obtain ⟨μ', ie, e', σ', k1, k2, k3, k4, k5⟩ := hh
    cases ie with
    | normal =>
      cases ex <;> simp only [ExitR] at k2 <;> (try (exact k2.elim))
      obtain ⟨e₀, σ₀, g1, gd, g2⟩ := k5
      exact wp_mono (ihy iy h2 Q e₀ σ₀ g2 μ' a' w' (k4.drops gd) (k3.less g1)) (lift.mono k1 fun _ _ _ h => h)
    | exit i => cases ex <;> simp only [ExitR] at k2 <;> (try (exact k2.elim)); exact ⟨μ', .exit i, e', σ', k1, k2, k3, k4, k5⟩
    | ret => cases ex <;> simp only [ExitR] at k2 <;> (try (exact k2.elim)); exact ⟨μ', .ret, e', σ', k1, trivial, k3, k4, k5⟩
    | panic d => cases ex <;> simp only [ExitR] at k2 <;> (try (exact k2.elim)); exact ⟨μ', .panic d, e', σ', k1, k2, k3, k4, k5⟩
  | cond c x y ihx ihy =>
    intro ic hr Q e σ hi μ a w hs he
    simp only [rcode, Option.bind_eq_bind, Option.bind_eq_some_iff, Option.some.injEq] at hr
    obtain ⟨oc, h0, ix, h1, iy, h2, rfl⟩ := hr
    simp only [iwp] at hi
    split at hi <;> (try (exact hi.elim))
    rename_i t ht
    have hv := ropd_sound he.tmps h0
    rw [ht] at hv
    exact wp_cond_split hv.bool (fun h => ihx ix h1 Q e σ (hi.1 h) μ a w hs he) (fun h => ihy iy h2 Q e σ (hi.2 h) μ a w hs he)
  | block id c ih =>
    intro ic hr Q e σ hi μ a w hs he
    simp only [rcode, Option.bind_eq_bind, Option.bind_eq_some_iff, Option.some.injEq] at hr
    obtain ⟨ix, h1, rfl⟩ := hr
    refine wp_block (wp_mono (ih ix h1 _ e σ hi μ a w hs he) fun ex a' w' hh => ?_)
    obtain ⟨μ', ie, e', σ', k1, k2, k3, k4, k5⟩ := hh
    cases ie with
    | normal => cases ex <;> simp only [ExitR] at k2 <;> (try (exact k2.elim)); exact ⟨μ', .normal, e', σ', k1, trivial, k3, k4, k5⟩
    | exit i =>
      cases ex <;> simp only [ExitR] at k2 <;> (try (exact k2.elim))
      subst k2
      simp only [Exit.inBlock]
      simp only [inBlockI] at k5
      split
      · rename_i hid
        rw [if_pos hid] at k5
        exact ⟨μ', .normal, e', σ', k1, trivial, k3, k4, k5⟩
      · rename_i hid
        rw [if_neg hid] at k5
        exact ⟨μ', .exit i, e', σ', k1, rfl, k3, k4, k5⟩
    | ret => cases ex <;> simp only [ExitR] at k2 <;> (try (exact k2.elim)); exact ⟨μ', .ret, e', σ', k1, trivial, k3, k4, k5⟩
    | panic d => cases ex <;> simp only [ExitR] at k2 <;> (try (exact k2.elim)); exact ⟨μ', .panic d, e', σ', k1, k2, k3, k4, k5⟩
  | loop c ih =>
    intro ic hr Q e σ hi μ a w hs he
    simp only [rcode, Option.bind_eq_bind, Option.bind_eq_some_iff, Option.some.injEq] at hr
    obtain ⟨ix, h1, rfl⟩ := hr
    obtain ⟨I, ⟨n, e₀, σ₀, g1, gd, g2⟩, hround⟩ := hi
    refine wp_loop_n (fun n a w => ∃ μ' e σ, μ.le μ' ∧ EnvR μ' e a ∧ Sim μ' σ w ∧ I n e σ) (fun n a w hh => ?_) (n := n) ⟨μ, e₀, σ₀, Mu.le.refl μ, he.less g1, hs.drops gd, g2⟩
    obtain ⟨μ₁, e₁, σ₁, k1, k2, k3, k4⟩ := hh
    refine wp_mono (ih ix h1 _ e₁ σ₁ (hround n e₁ σ₁ k4) μ₁ a w k3 k2) fun ex a' w' hh => ?_
    obtain ⟨μ', ie, e', σ', q1, q2, q3, q4, q5⟩ := hh
    cases ie with
    | normal =>
      cases ex <;> simp only [ExitR] at q2 <;> (try (exact q2.elim))
      obtain ⟨m, hm, e₂, σ₂, r1, rd, r2⟩ := q5
      exact ⟨m, hm, μ', e₂, σ₂, k1.trans q1, q3.less r1, q4.drops rd, r2⟩
    | exit i => cases ex <;> simp only [ExitR] at q2 <;> (try (exact q2.elim)); exact ⟨μ', .exit i, e', σ', k1.trans q1, q2, q3, q4, q5⟩
    | ret => cases ex <;> simp only [ExitR] at q2 <;> (try (exact q2.elim)); exact ⟨μ', .ret, e', σ', k1.trans q1, trivial, q3, q4, q5⟩
    | panic d => cases ex <;> simp only [ExitR] at q2 <;> (try (exact q2.elim)); exact ⟨μ', .panic d, e', σ', k1.trans q1, q2, q3, q4, q5⟩
  | exit id =>
    intro ic hr Q e σ hi μ a w hs he
    simp only [rcode, Option.some.injEq] at hr
    subst hr
    exact wp_exit ⟨μ, .exit id, e, σ, Mu.le.refl μ, rfl, he, hs, hi⟩
  | ret =>
    intro ic hr Q e σ hi μ a w hs he
    simp only [rcode, Option.some.injEq] at hr
    subst hr
    exact wp_ret ⟨μ, .ret, e, σ, Mu.le.refl μ, trivial, he, hs, hi⟩
  | rangeFunc f ps asg b _ _ => intro ic hr; simp [rcode] at hr
  | scope b _ => intro ic hr; simp [rcode] at hr
  | label l => intro ic hr; simp [rcode] at hr
  | goto l => intro ic hr; simp [rcode] at hr
  | refuse s =>
    intro ic hr Q e σ hi μ a w hs he
    simp only [rcode, Option.some.injEq] at hr
    subst hr
    simp only [iwp, iwpOps, iwpG, iwpX] at hi

end
end Go.Id
