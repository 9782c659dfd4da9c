/-
  THE IDEAL LAYER, PART N: every order of such a region comes to what the plan says.
-/
import Derived.Test.YtkjgadanaknleaaIdM
namespace Go.Id
open Go.RowKit
set_option linter.unusedVariables false
set_option linter.unusedSimpArgs false

section
variable {P : Program} {pol : TypeId → Bool} {ops : Array Oper} {ios : List IOper} {alld : List Nat}

theorem mapM_get {α β : Type} (f : α → Option β) : ∀ (l : List α) (r : List β), l.mapM f = some r → ∀ (i : Nat) (x : α), l[i]? = some x → ∃ y, f x = some y ∧ r[i]? = some y
  | [], r, h, i, x, hx => by simp at hx
  | a :: l, r, h, i, x, hx => by
    simp only [List.mapM_cons, Option.bind_eq_bind, Option.bind_eq_some_iff, Option.pure_def, Option.some.injEq] at h
    obtain ⟨y, h1, r', h2, rfl⟩ := h
    cases i with
    | zero => simp at hx; subst hx; exact ⟨y, h1, rfl⟩
    | succ i => simpa using mapM_get f l r' h2 i x (by simpa using hx)

theorem ios_at (h : (List.range ops.size).mapM (rxAt P pol ops) = some ios) {i : Nat} {o : IOper} (ho : ios[i]? = some o) (hi : i < ops.size) : rxAt P pol ops i = some o := by
  obtain ⟨y, h1, h2⟩ := mapM_get _ _ _ h i i (by simp [hi])
  rw [ho] at h2
  simp only [Option.some.injEq] at h2
  subst h2
  exact h1

/-- One operation of a region that is taken in any order. -/
theorem iwpG_step {i : Nat} {io : IOper} (h1 : rxAt P pol ops i = some io) {next : Env → St → Prop} {Q : IExit → Env → St → Prop} {Q' : Exit → Act → World → Prop} {K : Act → World → Prop} {μ : Mu} {e : Env} {a : Act} {σ : St} {w : World}
    (he : EnvR μ e a) (hs : Sim μ σ w) (hi : iwpG P io next Q e σ)
    (hn : ∀ (μ' : Mu) (e' : Env) (a' : Act) (σ' : St) (w' : World), μ.le μ' → EnvR μ' e' a' → Sim μ' σ' w' → next e' σ' → K a' w')
    (hq : ∀ (μ' : Mu) (d : D) (v : Value) (σ' : St) (w' : World), μ.le μ' → VR μ' d v → EnvR μ' e a → Sim μ' σ' w' → Q (.panic d) e σ' → Q' (.panic [{ v, recovered := false }]) a w') :
    wpOp P ops Q' i K a w := by
  simp only [rxAt, Option.bind_eq_bind, Option.bind_eq_some_iff, Option.some.injEq] at h1
  obtain ⟨o, ho, x, hx, g, hg, rfl⟩ := h1
  have hw := wanted_of hg he.tmps
  simp only [iwpG] at hi
  simp only [wpOp, ho]
  cases g with
  | none =>
    simp only at hw hi
    rw [hw, if_pos rfl]
    exact .inl (iwpX_sound hx he hs hi hn hq)
  | some gw =>
    obtain ⟨t, want⟩ := gw
    simp only at hw hi
    split at hi <;> (try (exact hi.elim))
    rename_i b hb
    rw [hw b hb]
    cases b with
    | false =>
      simp only [Bool.false_eq_true, if_false]
      exact hn μ _ _ σ w (Mu.le.refl μ) (he.put o.dst VR.undef) hs (hi.2 rfl)
    | true =>
      simp only [if_true]
      exact .inl (iwpX_sound hx he hs (hi.1 rfl) hn hq)

theorem iwpG_of_pval {o : IOper} (hl : o.op.looks = true) {e : Env} {σ : St} {d : D} (h : pval o e σ = some d) :
    iwpG P o (fun e' σ' => e' = e.put o.dst d ∧ σ' = σ) (fun _ _ _ => False) e σ := by
  obtain ⟨dst, op, guard⟩ := o
  cases op <;> simp [IXop.looks] at hl
  rename_i io
  have run : (match iop io e.tmps σ with | some (d, _) => some d | none => none) = some d → iwpX P (.v io) dst (fun e' σ' => e' = e.put dst d ∧ σ' = σ) (fun _ _ _ => False) e σ := by
    intro hx
    split at hx <;> (try (cases hx; done))
    rename_i d' σ' hi
    simp only [Option.some.injEq] at hx
    subst hx
    obtain rfl := looks_store hl hi
    simp only [iwpX, hi]
    trivial
  unfold pval at h
  simp only [iwpG]
  cases guard with
  | none => exact run h
  | some gw =>
    obtain ⟨g, want⟩ := gw
    simp only at h ⊢
    cases hb : gval (e.tmps.getD g .junk) want <;> simp only [hb] at h ⊢ <;> (try (cases h; done))
    rename_i b
    cases b with
    | false =>
      simp only [Bool.false_eq_true, if_false, Option.some.injEq] at h
      subst h
      rw [Br.ff]
      trivial
    | true =>
      simp only [if_true] at h
      rw [Br.tt]
      exact run h

theorem iwpG_congr {o : IOper} (hb : isBarrier o = true) {next : Env → St → Prop} {Q : IExit → Env → St → Prop} {e e' : Env} {σ : St}
    (h : ∀ n ∈ o.reads, e.tmps.getD n .junk = e'.tmps.getD n .junk) (hi : iwpG P o next Q e σ) :
    iwpG P o (fun e₁ σ₁ => ∃ d, e₁ = e'.put o.dst d ∧ next (e.put o.dst d) σ₁) (fun y e₁ σ₁ => e₁ = e' ∧ Q y e σ₁) e' σ := by
  obtain ⟨dst, op, guard⟩ := o
  simp only [IOper.reads, List.mem_append] at h
  have run : iwpX P op dst next Q e σ → iwpX P op dst (fun e₁ σ₁ => ∃ d, e₁ = e'.put dst d ∧ next (e.put dst d) σ₁) (fun y e₁ σ₁ => e₁ = e' ∧ Q y e σ₁) e' σ :=
    iwpX_congr (by cases op <;> simp_all [isBarrier]) (fun n hn => h n (.inl hn))
  simp only [iwpG] at hi ⊢
  cases guard with
  | none => exact run hi
  | some gw =>
    obtain ⟨g, want⟩ := gw
    simp only [← h g (.inr (by simp))] at hi ⊢
    cases hb : gval (e.tmps.getD g .junk) want <;> simp only [hb] at hi ⊢ <;> (try (exact hi.elim))
    exact ⟨fun hh => run (hi.1 hh), fun hh => ⟨_, rfl, hi.2 hh⟩⟩

theorem countP_lt {α : Type} (p q : α → Bool) : ∀ (l : List α), (∀ x ∈ l, q x = true → p x = true) → (∃ x ∈ l, p x = true ∧ q x = false) → l.countP q < l.countP p
  | [], _, h => by obtain ⟨x, hx, _⟩ := h; cases hx
  | a :: l, h1, h2 => by
    have hle : l.countP q ≤ l.countP p := by
      clear h2
      induction l with
      | nil => simp
      | cons b l ih =>
        have := ih (fun x hx => h1 x (by simp at hx ⊢; rcases hx with h | h <;> simp [h]))
        have hb := h1 b (by simp)
        simp only [List.countP_cons]
        cases hq : q b
        · simp; omega
        · simp [hb hq]; omega
    simp only [List.countP_cons]
    obtain ⟨x, hx, hp, hq⟩ := h2
    rcases List.mem_cons.1 hx with rfl | hx
    · simp [hp, hq]; omega
    · have := countP_lt p q l (fun y hy => h1 y (by simp [hy])) ⟨x, hx, hp, hq⟩
      have ha := h1 a (by simp)
      cases hqa : q a
      · simp; omega
      · simp [ha hqa]; omega

variable {Pl : List (Nat × Option (List Nat))}

theorem Mid.preds {C : List (Nat × Option (List Nat))} {listed : Array Bool} {μ : Mu} {e : Env} {a : Act} {σ : St} (hm : Mid ops ios C listed μ e a σ) {i : Nat} (hi : i ∈ Region.ready .any ops listed) {k : Nat} (hk : bef ops i k = true) :
    listed.getD k false = true := by
  obtain ⟨o, ed, ho, he, hb, hor⟩ := before_spec ops hk
  rw [mem_ready] at hi
  obtain ⟨_, o', ho', hall⟩ := hi
  rw [ho] at ho'
  simp only [Option.some.injEq] at ho'
  subst ho'
  have h1 := hall ed he hb
  rcases hor with rfl | ⟨_, hor⟩
  · exact h1
  · exact hm.down _ _ h1 hor

/-- Places of the plan are each there once. -/
theorem plan_once (hok : sufOk ops ios alld [] [] Pl = true) {C π : List (Nat × Option (List Nat))} (hp : Pl = C ++ π) {i : Nat} {b c : Option (List Nat)} (h1 : (i, b) ∈ C) (h2 : (i, c) ∈ π) : False := by
  obtain ⟨A, B, rfl⟩ := List.append_of_mem h2
  have := (sufOk_at (C ++ A) i c B [] [] (by rw [List.append_assoc, ← hp]; exact hok)).2 (i, b) (by simp [h1])
  exact this rfl

theorem advance (hok : sufOk ops ios alld [] [] Pl = true) {listed : Array Bool} {μ : Mu} {a : Act} {σ : St} {next : Env → St → Prop} {Q : IExit → Env → St → Prop} :
    ∀ (π C : List (Nat × Option (List Nat))) (e : Env), Pl = C ++ π → (∀ t ∈ alld, t < e.tmps.length) → Mid ops ios C listed μ e a σ → iwpPlan P ios alld next Q π e σ →
    ∃ C' π' e', Pl = C' ++ π' ∧ (∀ t ∈ alld, t < e'.tmps.length) ∧ Mid ops ios C' listed μ e' a σ ∧ iwpPlan P ios alld next Q π' e' σ ∧ (π' = [] ∨ ∃ l must r, π' = (l, some must) :: r)
  | [], C, e, hp, hl, hm, hi => ⟨C, [], e, hp, hl, hm, hi, .inl rfl⟩
  | (i, some must) :: π, C, e, hp, hl, hm, hi => ⟨C, _, e, hp, hl, hm, hi, .inr ⟨i, must, π, rfl⟩⟩
  | (i, none) :: π, C, e, hp, hl, hm, hi => by
    have hat := (sufOk_at C i none π [] [] (by rw [← hp]; exact hok))
    have hsuf := hat.1
    simp only [sufOk] at hsuf
    simp only [iwpPlan] at hi
    split at hi <;> (try (exact hi.elim))
    rename_i o ho
    cases hro : ops[i]? with
    | none => simp [hro] at hsuf
    | some ro =>
    simp only [hro, ho, Bool.and_eq_true] at hsuf
    obtain ⟨⟨⟨⟨_, hall⟩, ⟨⟨⟨hlook, hdst⟩, hself⟩, _⟩⟩, _⟩, _⟩ := hsuf
    cases hd : o.dst with
    | none => simp [hd] at hdst
    | some t =>
    have ht : t < e.tmps.length := hl t (by simpa [hd] using hall)
    have hself' : t ∉ o.reads := by simpa [dstIn, hd] using hself
    obtain ⟨d, hd1, hd2⟩ := iwpG_looks hlook hi
    have hnl : listed.getD i false = false := by
      cases hx : listed.getD i false
      · rfl
      · obtain ⟨b, hb⟩ := hm.inC i hx
        exact (plan_once (c := none) hok hp hb (by simp)).elim
    have hpi : pval o (e.put o.dst d) σ = some (dstv o (e.put o.dst d)) := by
      rw [pval_congr hlook (e' := e)]
      · rw [hd1]
        simp only [dstv, hd]
        rw [put_getD]
        simp [ht]
      · intro n hn
        rw [put_getD, if_neg]
        rintro ⟨h1, _⟩
        rw [hd] at h1
        simp only [Option.some.injEq] at h1
        subst h1
        exact hself' hn
    refine advance hok π (C ++ [(i, none)]) (e.put o.dst d) (by simp [hp]) (fun t ht => by rw [put_len]; exact hl t ht) ⟨hm.size, fun j hj => ?_, hm.down, fun j must hj => ?_, fun j hj hjl => ?_, ?_⟩ hd2
    · obtain ⟨b, hb⟩ := hm.inC j hj
      exact ⟨b, by simp [hb]⟩
    · rcases List.mem_append.1 hj with hj | hj
      · exact hm.bars j must hj
      · simp at hj
    · rcases List.mem_append.1 hj with hj | hj
      · obtain ⟨oj, h1, h2, h3, h4⟩ := hm.vals j hj hjl
        refine ⟨oj, h1, h2, ?_, fun t ht => by rw [put_len]; exact h4 t ht⟩
        -- what the new one writes, the old one neither reads nor writes
        obtain ⟨A, B, rfl⟩ := List.append_of_mem hj
        have hsj := (sufOk_at A j none (B ++ (i, none) :: π) [] [] (by rw [← List.cons_append, ← List.append_assoc, ← hp]; exact hok)).1
        simp only [sufOk] at hsj
        cases hrj : ops[j]? with
        | none => simp [hrj] at hsj
        | some rj =>
        simp only [hrj, h1, Bool.and_eq_true] at hsj
        obtain ⟨⟨⟨_, ⟨_, hrest⟩⟩, _⟩, _⟩ := hsj
        have hq := List.all_eq_true.1 hrest (i, none) (by simp)
        simp only [ho, Bool.and_eq_true, bne_iff_ne, ne_eq] at hq
        obtain ⟨⟨hq1, hq2⟩, _⟩ := hq
        have hq1' : t ∉ oj.reads := by simpa [dstIn, hd] using hq1
        rw [pval_congr h2 (e' := e), h3]
        · congr 1
          simp only [dstv]
          cases hdj : oj.dst with
          | none => rfl
          | some tj =>
            simp only
            rw [put_getD, if_neg]
            rintro ⟨h5, _⟩
            exact hq2 (by rw [hdj, h5])
        · intro n hn
          rw [put_getD, if_neg]
          rintro ⟨h5, _⟩
          rw [hd] at h5
          simp only [Option.some.injEq] at h5
          subst h5
          exact hq1' hn
      · simp only [List.mem_singleton, Prod.mk.injEq] at hj
        obtain ⟨rfl, _⟩ := hj
        exact ⟨o, ho, hlook, hpi, fun t' ht' => by rw [hd] at ht'; simp only [Option.some.injEq] at ht'; subst ht'; rw [put_len]; exact ht⟩
    · obtain ⟨pd, h1, h2, h3⟩ := hm.env
      refine ⟨t :: pd, fun t' ht' => ?_, fun j oj t' hj hjl hoj htj => ?_, EnvR.less ⟨?_, fun n => ?_, ?_⟩ h3⟩
      · rcases List.mem_cons.1 ht' with rfl | ht'
        · exact ⟨i, o, by simp, hnl, ho, hd⟩
        · obtain ⟨j, oj, k1, k2, k3, k4⟩ := h1 t' ht'
          exact ⟨j, oj, by simp [k1], k2, k3, k4⟩
      · rcases List.mem_append.1 hj with hj | hj
        · exact List.mem_cons_of_mem _ (h2 j oj t' hj hjl hoj htj)
        · simp only [List.mem_singleton, Prod.mk.injEq] at hj
          obtain ⟨rfl, _⟩ := hj
          rw [ho] at hoj
          simp only [Option.some.injEq] at hoj
          subst hoj
          rw [hd] at htj
          simp only [Option.some.injEq] at htj
          subst htj
          simp
      · simp [Env.junks, put_len]
      · rw [junks_getD, junks_getD, put_getD]
        by_cases hn : n = t
        · subst hn; left; simp
        · by_cases hnp : pd.contains n = true
          · left
            rw [if_pos]
            simp only [List.contains_eq_mem, decide_eq_true_eq] at hnp ⊢
            exact List.mem_cons_of_mem _ hnp
          · right
            rw [if_neg, if_neg hnp, if_neg]
            · rw [hd]; rintro ⟨h5, _⟩; simp only [Option.some.injEq] at h5; exact hn h5.symm
            · simp only [List.contains_eq_mem, decide_eq_true_eq] at hnp ⊢
              intro h5
              rcases List.mem_cons.1 h5 with h5 | h5
              · exact hn h5
              · exact hnp h5
      · simp [Env.junks, put_defers]


theorem ready_empty (hok : sufOk ops ios alld [] [] Pl = true) {listed : Array Bool} (hsz : listed.size = ops.size) (hr : Region.ready .any ops listed = []) :
    ∀ (k : Nat), ∀ q ∈ Pl.take k, listed.getD q.1 false = true := by
  intro k
  induction k with
  | zero => intro q hq; simp at hq
  | succ k ih =>
    intro q hq
    by_cases hk : k < Pl.length
    · rw [List.take_succ_eq_append_getElem hk] at hq
      rcases List.mem_append.1 hq with hq | hq
      · exact ih q hq
      · simp only [List.mem_singleton] at hq
        obtain ⟨i, b⟩ := q
        have hp : Pl = Pl.take k ++ (i, b) :: Pl.drop (k + 1) := by
          rw [hq, ← List.drop_eq_getElem_cons hk, List.take_append_drop]
        cases hx : listed.getD i false
        · exfalso
          have hs := (sufOk_at (Pl.take k) i b (Pl.drop (k + 1)) [] [] (by rw [← hp]; exact hok)).1
          simp only [sufOk] at hs
          cases hro : ops[i]? with
          | none => simp [hro] at hs
          | some ro =>
          cases ho : ios[i]? with
          | none => simp [hro, ho] at hs
          | some o =>
          simp only [hro, ho, Bool.and_eq_true] at hs
          obtain ⟨⟨⟨⟨hed, _⟩, _⟩, _⟩, _⟩ := hs
          have hlt : i < ops.size := (Array.getElem?_eq_some_iff.1 hro).1
          have : i ∈ Region.ready .any ops listed := by
            rw [mem_ready]
            refine ⟨?_, ro, hro, fun e he hb => ?_⟩
            · rw [Array.getD_eq_getD_getElem?, Array.getElem?_eq_getElem (by omega)] at hx ⊢
              exact hx
            · have := Array.all_eq_true_iff_forall_mem.1 hed e he
              simp only [hb, Bool.not_true, Bool.false_or, List.append_nil, List.contains_eq_mem, List.mem_reverse, List.mem_map, decide_eq_true_eq] at this
              obtain ⟨q, hq1, hq2⟩ := this
              rw [← hq2]
              exact ih q hq1
          rw [hr] at this
          cases this
        · rfl
    · rw [List.take_of_length_le (by omega)] at hq
      exact ih q (by rw [List.take_of_length_le (by omega)]; exact hq)

theorem plan_run (hios : (List.range ops.size).mapM (rxAt P pol ops) = some ios) (hok : sufOk ops ios alld [] [] Pl = true) (hcov : ∀ i, i < ops.size → ∃ b, (i, b) ∈ Pl)
    {next : Env → St → Prop} {Q : IExit → Env → St → Prop} {Q' : Exit → Act → World → Prop} :
    ∀ (fuel : Nat) (listed : Array Bool) (C π : List (Nat × Option (List Nat))) (e : Env) (a : Act) (σ : St) (w : World) (μ : Mu), Pl = C ++ π → (∀ t ∈ alld, t < e.tmps.length) →
    Mid ops ios C listed μ e a σ → Sim μ σ w → iwpPlan P ios alld next Q π e σ → (List.range ops.size).countP (fun j => !listed.getD j false) ≤ fuel →
    (∀ (μ' : Mu) (e' : Env) (a' : Act) (σ' : St) (w' : World), μ.le μ' → EnvR μ' e' a' → Sim μ' σ' w' → next e' σ' → Q' .normal a' w') →
    (∀ (μ' : Mu) (d : D) (v : Value) (e' : Env) (a' : Act) (σ' : St) (w' : World), μ.le μ' → VR μ' d v → EnvR μ' e' a' → Sim μ' σ' w' → Q (.panic d) e' σ' → Q' (.panic [{ v, recovered := false }]) a' w') →
    wpAny P .any ops Q' fuel listed a w := by
  intro fuel
  induction fuel with
  | zero =>
    intro listed C π e a σ w μ hp hl hm hs hi hcnt hn hq
    obtain ⟨C, π, e, hp, hl, hm, hi, hhead⟩ := advance hok π C e hp hl hm hi
    have hall : ∀ j, j < ops.size → listed.getD j false = true := by
      intro j hj
      have h0 : (List.range ops.size).countP (fun j => !listed.getD j false) = 0 := by omega
      rw [List.countP_eq_zero] at h0
      have := h0 j (by simp [hj])
      simpa using this
    have hready : Region.ready .any ops listed = [] := by
      rw [List.eq_nil_iff_forall_not_mem]
      intro j hj
      rw [mem_ready] at hj
      obtain ⟨h1, o, ho, _⟩ := hj
      have hlt : j < ops.size := (Array.getElem?_eq_some_iff.1 ho).1
      have := hall j hlt
      rw [Array.getD_eq_getD_getElem?, Array.getElem?_eq_getElem (by rw [hm.size]; exact hlt)] at h1 this
      simp at h1 this
      rw [h1] at this
      cases this
    refine ⟨hready, ?_⟩
    have hpi : π = [] := by
      rcases hhead with h | ⟨l, must, r, rfl⟩
      · exact h
      · exfalso
        have hs' := (sufOk_at C l (some must) r [] [] (by rw [← hp]; exact hok)).1
        simp only [sufOk] at hs'
        cases hro : ops[l]? with
        | none => simp [hro] at hs'
        | some ro =>
        have hlt : l < ops.size := (Array.getElem?_eq_some_iff.1 hro).1
        obtain ⟨b, hb⟩ := hm.inC l (hall l hlt)
        exact plan_once (c := some must) hok hp hb (by simp)
    subst hpi
    obtain ⟨pd, h1, _, h3⟩ := hm.env
    refine hn μ e a σ w (Mu.le.refl μ) (EnvR.less (e := e.junks pd) ⟨by simp [Env.junks], fun n => ?_, rfl⟩ h3) hs hi
    right
    rw [junks_getD, if_neg]
    intro hc
    obtain ⟨j, o, k1, k2, k3, _⟩ := h1 n (by simpa using hc)
    obtain ⟨o', g1, g2, g3, g4⟩ := hm.vals j k1 k2
    obtain ⟨A, B, hAB⟩ := List.append_of_mem k1
    have hs' := (sufOk_at A j none (B ++ []) [] [] (by rw [← List.cons_append, ← List.append_assoc, ← hAB, ← hp]; exact hok)).1
    simp only [sufOk] at hs'
    cases hro : ops[j]? with
    | none => simp [hro] at hs'
    | some ro =>
    have hlt : j < ops.size := (Array.getElem?_eq_some_iff.1 hro).1
    rw [hall j hlt] at k2
    cases k2
  | succ fuel ih =>
    intro listed C π e a σ w μ hp hl hm hs hi hcnt hn hq
    obtain ⟨C, π, e, hp, hl, hm, hi, hhead⟩ := advance hok π C e hp hl hm hi
    refine ⟨fun hready => ?_, fun i hi' => ?_⟩
    · -- nothing is left
      have hallP : ∀ q ∈ Pl, listed.getD q.1 false = true := fun q hq => ready_empty hok hm.size hready Pl.length q (by rw [List.take_length]; exact hq)
      have hpi : π = [] := by
        rcases hhead with h | ⟨l, must, r, rfl⟩
        · exact h
        · exfalso
          have := hallP (l, some must) (by rw [hp]; simp)
          obtain ⟨b, hb⟩ := hm.inC l this
          exact plan_once (c := some must) hok hp hb (by simp)
      subst hpi
      obtain ⟨pd, h1, _, h3⟩ := hm.env
      refine hn μ e a σ w (Mu.le.refl μ) (EnvR.less (e := e.junks pd) ⟨by simp [Env.junks], fun n => ?_, rfl⟩ h3) hs hi
      right
      rw [junks_getD, if_neg]
      intro hc
      obtain ⟨j, o, k1, k2, _⟩ := h1 n (by simpa using hc)
      have := hallP (j, none) (by rw [hp]; simp [k1])
      rw [this] at k2
      cases k2
    · -- the run takes one
      have hi0 := hi'
      rw [mem_ready] at hi'
      obtain ⟨hnl, ro, hro, _⟩ := hi'
      have hlt : i < ops.size := (Array.getElem?_eq_some_iff.1 hro).1
      have hnl' : listed.getD i false = false := by
        rw [Array.getD_eq_getD_getElem?, Array.getElem?_eq_getElem (by rw [hm.size]; exact hlt)] at hnl ⊢
        exact hnl
      have hpreds := fun k hk => hm.preds hi0 (k := k) hk
      have hset : ∀ j, (listed.setIfInBounds i true).getD j false = if j = i then true else listed.getD j false := by
        intro j
        by_cases hji : j = i
        · subst hji
          rw [if_pos rfl, Array.getD_eq_getD_getElem?, Array.getElem?_setIfInBounds, if_pos rfl, if_pos (by rw [hm.size]; exact hlt)]
          rfl
        · rw [if_neg hji, getD_set_ne false (fun h => hji h.symm)]
      have hcnt' : (List.range ops.size).countP (fun j => !(listed.setIfInBounds i true).getD j false) ≤ fuel := by
        have := countP_lt (fun j => !listed.getD j false) (fun j => !(listed.setIfInBounds i true).getD j false) (List.range ops.size) (fun j _ hj => by
          rw [hset] at hj
          split at hj
          · cases hj
          · exact hj) ⟨i, by simp [hlt], by simp only [hnl', Bool.not_false], by rw [hset]; simp⟩
        omega
      obtain ⟨pd, h1, h2, h3⟩ := hm.env
      have hdown : ∀ j k, (listed.setIfInBounds i true).getD j false = true → bef ops j k = true → (listed.setIfInBounds i true).getD k false = true := by
        intro j k hj hk
        rw [hset] at hj ⊢
        by_cases hki : k = i
        · rw [if_pos hki]
        · rw [if_neg hki]
          split at hj
          · rename_i hji; subst hji; exact hpreds k hk
          · exact hm.down j k hj hk
      obtain ⟨b, hbP⟩ := hcov i hlt
      rw [hp] at hbP
      rcases List.mem_append.1 hbP with hiC | hiπ
      · -- one that the plan has taken already
        cases b with
        | some must => rw [hm.bars i must hiC] at hnl'; cases hnl'
        | none =>
          obtain ⟨o, ho, hlook, hpv, htl⟩ := hm.vals i hiC hnl'
          have hrx := ios_at hios ho hlt
          -- what it reads, all has been done
          obtain ⟨A, B, hAB⟩ := List.append_of_mem hiC
          have hreads : ∀ n ∈ o.reads, n ∉ pd := by
            intro n hn hnp
            obtain ⟨k, ok, k1, k2, k3, k4⟩ := h1 n hnp
            by_cases hki : k = i
            · subst hki
              rw [ho] at k3
              simp only [Option.some.injEq] at k3
              subst k3
              have hs' := (sufOk_at A k none (B ++ π) [] [] (by rw [← List.cons_append, ← List.append_assoc, ← hAB, ← hp]; exact hok)).1
              simp only [sufOk, hro, ho, Bool.and_eq_true] at hs'
              obtain ⟨⟨⟨_, ⟨⟨_, hself⟩, _⟩⟩, _⟩, _⟩ := hs'
              simp [dstIn, k4, hn] at hself
            · -- it stands before or behind i in the plan
              rw [hAB] at k1
              rcases List.mem_append.1 k1 with k1 | k1
              · obtain ⟨A1, A2, rfl⟩ := List.append_of_mem k1
                have hs' := (sufOk_at A1 k none (A2 ++ (i, none) :: B ++ π) [] [] (by rw [hp, hAB] at hok; simpa using hok)).1
                simp only [sufOk] at hs'
                cases hrk : ops[k]? with
                | none => simp [hrk] at hs'
                | some rk =>
                simp only [hrk, k3, Bool.and_eq_true] at hs'
                obtain ⟨⟨⟨_, ⟨_, hrest⟩⟩, _⟩, _⟩ := hs'
                have hq' := List.all_eq_true.1 hrest (i, none) (by simp)
                simp only [ho, Bool.and_eq_true] at hq'
                obtain ⟨_, hq'⟩ := hq'
                simp only [dstIn, k4, List.contains_eq_mem, hn, decide_true, Bool.not_true, Bool.false_or] at hq'
                have := hpreds k hq'
                rw [this] at k2
                cases k2
              · rcases List.mem_cons.1 k1 with k1 | k1
                · simp only [Prod.mk.injEq] at k1; exact hki k1.1
                · have hs' := (sufOk_at A i none (B ++ π) [] [] (by rw [← List.cons_append, ← List.append_assoc, ← hAB, ← hp]; exact hok)).1
                  simp only [sufOk, hro, ho, Bool.and_eq_true] at hs'
                  obtain ⟨⟨⟨_, ⟨_, hrest⟩⟩, _⟩, _⟩ := hs'
                  have hq' := List.all_eq_true.1 hrest (k, none) (by simp [k1])
                  simp only [k3, Bool.and_eq_true] at hq'
                  obtain ⟨⟨hq', _⟩, _⟩ := hq'
                  simp [dstIn, k4, hn] at hq'
          have hpv' : pval o (e.junks pd) σ = some (dstv o e) := by
            rw [pval_congr hlook (e' := e)]
            · exact hpv
            · intro n hn
              rw [junks_getD, if_neg]
              simpa using hreads n hn
          refine iwpG_step hrx h3 hs (iwpG_of_pval hlook hpv') (fun μ' e' a' σ' w' g1 g2 g3 g4 => ?_) (fun _ _ _ _ _ _ _ _ _ hf => hf.elim)
          obtain ⟨rfl, rfl⟩ := g4
          refine ih (listed.setIfInBounds i true) C π e a' σ' w' μ' hp hl ⟨by simp [hm.size], fun j hj => ?_, hdown, fun j must hj => ?_, fun j hj hjl => ?_, ?_⟩ g3 hi hcnt' (fun μ'' e' a' σ' w' q1 => hn μ'' e' a' σ' w' (g1.trans q1)) (fun μ'' d v e' a' σ' w' q1 => hq μ'' d v e' a' σ' w' (g1.trans q1))
          · rw [hset] at hj
            split at hj
            · rename_i hji; subst hji; exact ⟨none, hiC⟩
            · exact hm.inC j hj
          · rw [hset]
            split
            · rfl
            · exact hm.bars j must hj
          · rw [hset] at hjl
            split at hjl
            · cases hjl
            · exact hm.vals j hj hjl
          · refine ⟨pd.filter (fun t => o.dst != some t), fun t ht => ?_, fun j oj t hj hjl hoj htj => ?_, EnvR.less ⟨?_, fun n => ?_, ?_⟩ g2⟩
            · simp only [List.mem_filter, bne_iff_ne, ne_eq] at ht
              obtain ⟨j, oj, k1, k2, k3, k4⟩ := h1 t ht.1
              refine ⟨j, oj, k1, ?_, k3, k4⟩
              rw [hset, if_neg]
              · exact k2
              · intro hji
                subst hji
                rw [ho] at k3
                simp only [Option.some.injEq] at k3
                subst k3
                exact ht.2 k4
            · rw [hset] at hjl
              split at hjl
              · cases hjl
              · rename_i hji
                have hmem := h2 j oj t hj hjl hoj htj
                simp only [List.mem_filter, hmem, true_and, bne_iff_ne, ne_eq]
                intro hot
                -- two that write the same
                rw [hAB] at hj
                rcases List.mem_append.1 hj with hj | hj
                · obtain ⟨A1, A2, rfl⟩ := List.append_of_mem hj
                  have hs' := (sufOk_at A1 j none (A2 ++ (i, none) :: B ++ π) [] [] (by rw [hp, hAB] at hok; simpa using hok)).1
                  simp only [sufOk] at hs'
                  cases hrk : ops[j]? with
                  | none => simp [hrk] at hs'
                  | some rk =>
                  simp only [hrk, hoj, Bool.and_eq_true] at hs'
                  obtain ⟨⟨⟨_, ⟨_, hrest⟩⟩, _⟩, _⟩ := hs'
                  have hq' := List.all_eq_true.1 hrest (i, none) (by simp)
                  simp only [ho, Bool.and_eq_true, bne_iff_ne, ne_eq] at hq'
                  exact hq'.1.2 (by rw [htj, hot])
                · rcases List.mem_cons.1 hj with hj | hj
                  · simp only [Prod.mk.injEq] at hj; exact hji hj.1
                  · have hs' := (sufOk_at A i none (B ++ π) [] [] (by rw [← List.cons_append, ← List.append_assoc, ← hAB, ← hp]; exact hok)).1
                    simp only [sufOk, hro, ho, Bool.and_eq_true] at hs'
                    obtain ⟨⟨⟨_, ⟨_, hrest⟩⟩, _⟩, _⟩ := hs'
                    have hq' := List.all_eq_true.1 hrest (j, none) (by simp [hj])
                    simp only [hoj, Bool.and_eq_true, bne_iff_ne, ne_eq] at hq'
                    exact hq'.1.2 (by rw [htj, hot])
            · simp [Env.junks, put_len]
            · rw [junks_getD, put_getD, junks_getD]
              by_cases hnp : n ∈ pd
              · by_cases hno : o.dst = some n
                · right
                  have hnl2 : n < e.tmps.length := htl n hno
                  rw [if_neg (by simp [hno]), if_pos ⟨hno, by simpa [Env.junks] using hnl2⟩]
                  simp [dstv, hno]
                · left
                  rw [if_pos]
                  simp only [List.contains_eq_mem, List.mem_filter, hnp, bne_iff_ne, ne_eq, true_and, decide_eq_true_eq]
                  exact hno
              · right
                have c1 : (pd.filter (fun t => o.dst != some t)).contains n = false := by simp [hnp]
                have c2 : pd.contains n = false := by simp [hnp]
                simp only [c1, c2, Bool.false_eq_true, if_false]
                by_cases hno : o.dst = some n ∧ n < (e.junks pd).tmps.length
                · rw [if_pos hno]; simp [dstv, hno.1]
                · rw [if_neg hno]
            · simp [Env.junks, put_defers]
      · -- a barrier: it is the next one
        rcases hhead with rfl | ⟨l, must, r, rfl⟩
        · cases hiπ
        · have hs' := (sufOk_at C l (some must) r [] [] (by rw [← hp]; exact hok))
          have hs1 := hs'.1
          simp only [sufOk] at hs1
          cases hrl : ops[l]? with
          | none => simp [hrl] at hs1
          | some rl =>
          cases hol : ios[l]? with
          | none => simp [hrl, hol] at hs1
          | some o =>
          simp only [hrl, hol, Bool.and_eq_true] at hs1
          obtain ⟨⟨⟨⟨_, hall⟩, ⟨⟨hbar, hafter⟩, hheld⟩⟩, _⟩, _⟩ := hs1
          have hil : i = l := by
            rcases List.mem_cons.1 hiπ with h | h
            · simp only [Prod.mk.injEq] at h; exact h.1
            · exfalso
              have hb' := List.all_eq_true.1 hafter (i, b) h
              have hl' := hpreds l hb'
              obtain ⟨c, hc⟩ := hm.inC l hl'
              exact plan_once (c := some must) hok hp hc (by simp)
          subst hil
          have hrx := ios_at hios hol hlt
          -- what shares anything with it has been done
          have hsh : ∀ (k : Nat) (ok : IOper), (k, none) ∈ C → listed.getD k false = false → ios[k]? = some ok → shares ok o = false := by
            intro k ok hk hkl hok'
            obtain ⟨A, B, hAB⟩ := List.append_of_mem hk
            have hsk := (sufOk_at A k none (B ++ (i, some must) :: r) [] [] (by rw [hp, hAB] at hok; simpa using hok)).1
            simp only [sufOk] at hsk
            cases hrk : ops[k]? with
            | none => simp [hrk] at hsk
            | some rk =>
            simp only [hrk, hok', Bool.and_eq_true] at hsk
            obtain ⟨⟨⟨_, ⟨_, hrest⟩⟩, _⟩, _⟩ := hsk
            have hq' := List.all_eq_true.1 hrest (i, some must) (by simp)
            simp only [hol, Bool.or_eq_true, Bool.not_eq_true'] at hq'
            rcases hq' with hq' | hq'
            · exact hq'
            · rw [hpreds k hq'] at hkl
              cases hkl
          have hreads : ∀ n ∈ o.reads, e.tmps.getD n .junk = (e.junks pd).tmps.getD n .junk := by
            intro n hn
            rw [junks_getD, if_neg]
            intro hc
            obtain ⟨k, ok, k1, k2, k3, k4⟩ := h1 n (by simpa using hc)
            have := hsh k ok k1 k2 k3
            simp [shares, dstIn, k4, hn] at this
          have hpdall : ∀ t ∈ pd, t ∈ alld := by
            intro t ht
            obtain ⟨k, ok, k1, k2, k3, k4⟩ := h1 t ht
            obtain ⟨A, B, hAB⟩ := List.append_of_mem k1
            have hsk := (sufOk_at A k none (B ++ (i, some must) :: r) [] [] (by rw [hp, hAB] at hok; simpa using hok)).1
            simp only [sufOk] at hsk
            cases hrk : ops[k]? with
            | none => simp [hrk] at hsk
            | some rk =>
            simp only [hrk, k3, Bool.and_eq_true] at hsk
            obtain ⟨⟨⟨⟨_, hk5⟩, _⟩, _⟩, _⟩ := hsk
            simpa [k4] using hk5
          simp only [iwpPlan, hol] at hi
          refine iwpG_step hrx h3 hs (iwpG_congr hbar hreads hi) (fun μ' e' a' σ' w' g1 g2 g3 g4 => ?_) (fun μ' d v σ' w' g1 g2 g3 g4 g5 => ?_)
          · obtain ⟨d, rfl, hst, hrest⟩ := g4
            have hnotin : ∀ (k : Nat) (ok : IOper), (k, none) ∈ C → listed.getD k false = false → ios[k]? = some ok → (∀ n ∈ ok.reads, o.dst ≠ some n) ∧ (∀ t, ok.dst = some t → o.dst ≠ some t) := by
              intro k ok k1 k2 k3
              have := hsh k ok k1 k2 k3
              simp only [shares, Bool.or_eq_false_iff] at this
              refine ⟨fun n hn hh => ?_, fun t ht hh => ?_⟩
              · simp [dstIn, hh, hn] at this
              · simp [ht, hh] at this
            refine ih (listed.setIfInBounds i true) (C ++ [(i, some must)]) r (e.put o.dst d) a' σ' w' μ' (by simp [hp]) (fun t ht => by rw [put_len]; exact hl t ht)
              ⟨by simp [hm.size], fun j hj => ?_, hdown, fun j mj hj => ?_, fun j hj hjl => ?_, ?_⟩ g3 hrest hcnt' (fun μ'' e' a' σ' w' q1 => hn μ'' e' a' σ' w' (g1.trans q1)) (fun μ'' d v e' a' σ' w' q1 => hq μ'' d v e' a' σ' w' (g1.trans q1))
            · rw [hset] at hj
              split at hj
              · rename_i hji; subst hji; exact ⟨some must, by simp⟩
              · obtain ⟨c, hc⟩ := hm.inC j hj
                exact ⟨c, by simp [hc]⟩
            · rw [hset]
              split
              · rfl
              · rename_i hji
                rcases List.mem_append.1 hj with hj | hj
                · exact hm.bars j mj hj
                · simp only [List.mem_singleton, Prod.mk.injEq] at hj; exact absurd hj.1 hji
            · rw [hset] at hjl
              split at hjl
              · cases hjl
              · have hjC : (j, none) ∈ C := by
                  rcases List.mem_append.1 hj with hj | hj
                  · exact hj
                  · simp at hj
                obtain ⟨oj, k1, k2, k3, k4⟩ := hm.vals j hjC hjl
                obtain ⟨n1, n2⟩ := hnotin j oj hjC hjl k1
                refine ⟨oj, k1, k2, ?_, fun t ht => by rw [put_len]; exact k4 t ht⟩
                have hdv : dstv oj (e.put o.dst d) = dstv oj e := by
                  simp only [dstv]
                  cases hdj : oj.dst with
                  | none => rfl
                  | some tj =>
                    simp only
                    rw [put_getD, if_neg]
                    rintro ⟨h5, _⟩
                    exact n2 tj hdj h5
                have hpe : pval oj (e.put o.dst d) σ = some (dstv oj (e.put o.dst d)) := by
                  rw [pval_congr k2 (e' := e), k3, hdv]
                  intro n hn
                  rw [put_getD, if_neg]
                  rintro ⟨h5, _⟩
                  exact n1 n hn h5
                refine pval_still k2 hpe (fun hld => ?_)
                have hh := List.all_eq_true.1 hheld j (by
                  simp only [List.append_nil, List.mem_reverse, List.mem_filterMap]
                  exact ⟨(j, none), hjC, rfl⟩)
                simp only [k1, hld, Bool.not_true, Bool.or_false, Bool.or_eq_true, List.contains_eq_mem, decide_eq_true_eq] at hh
                rcases hh with hh | hh
                · rw [hpreds j hh] at hjl
                  cases hjl
                · exact hst.get hh k1
            · refine ⟨pd, fun t ht => ?_, fun j oj t hj hjl hoj htj => ?_, EnvR.less ⟨?_, fun n => ?_, ?_⟩ g2⟩
              · obtain ⟨j, oj, k1, k2, k3, k4⟩ := h1 t ht
                refine ⟨j, oj, by simp [k1], ?_, k3, k4⟩
                rw [hset, if_neg]
                · exact k2
                · intro hji; subst hji; exact plan_once (c := some must) hok hp k1 (by simp)
              · rw [hset] at hjl
                split at hjl
                · cases hjl
                · rcases List.mem_append.1 hj with hj | hj
                  · exact h2 j oj t hj hjl hoj htj
                  · simp at hj
              · simp [Env.junks, put_len]
              · rw [junks_getD, put_getD, put_getD, junks_getD]
                by_cases hnp : pd.contains n = true
                · left; rw [if_pos hnp]
                · right
                  rw [if_neg hnp, if_neg hnp]
                  simp [Env.junks]
              · simp [Env.junks, put_defers]
          · obtain ⟨_, g5⟩ := g5
            refine hq μ' d v (e.junks alld) a σ' w' g1 g2 (EnvR.less (e := e.junks pd) ⟨by simp [Env.junks], fun n => ?_, rfl⟩ g3) g4 g5
            rw [junks_getD, junks_getD]
            by_cases hna : alld.contains n = true
            · left; rw [if_pos hna]
            · right
              rw [if_neg hna, if_neg]
              intro hc
              exact hna (by simpa using hpdall n (by simpa using hc))

end
end Go.Id
