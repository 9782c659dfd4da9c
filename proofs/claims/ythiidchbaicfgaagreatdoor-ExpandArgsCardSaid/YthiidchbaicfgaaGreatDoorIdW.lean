/-
  THE IDEAL LAYER, PART R: loops, with what is known of each slot; calls.
-/
import Derived.Test.YthiidchbaicfgaaGreatDoorIdQ
import Derived.IntWalk
import Derived.WalkKit
import Derived.ProofKit
import Derived.OpenShut
import Derived.Carry
namespace Go.Id
open Go.RowKit
set_option linter.unusedVariables false
set_option linter.unusedSimpArgs false

def lessL : List D → List D → Prop
  | [], [] => True
  | a :: l, b :: m => (a = .junk ∨ a = b) ∧ lessL l m
  | _, _ => False
theorem ll_nil : lessL [] [] = True := rfl
theorem ll_junk (b : D) (l m : List D) : lessL (.junk :: l) (b :: m) = lessL l m := by simp [lessL]
theorem ll_same (b : D) (l m : List D) : lessL (b :: l) (b :: m) = lessL l m := by simp [lessL]
theorem ll_of (a b : D) (l m : List D) (h : a = b) : lessL (a :: l) (b :: m) = lessL l m := by subst h; simp [lessL]

theorem lessL.len : ∀ {l m : List D}, lessL l m → l.length = m.length
  | [], [], _ => rfl
  | _ :: l, _ :: m, h => by simp [lessL.len h.2]
  | [], _ :: _, h => h.elim
  | _ :: _, [], h => h.elim
theorem lessL.get : ∀ {l m : List D}, lessL l m → ∀ n, l.getD n .junk = m.getD n .junk ∨ l.getD n .junk = .junk
  | [], [], _, n => .inl rfl
  | a :: l, b :: m, h, 0 => by
    rcases h.1 with h | h
    · exact .inr (by simpa using h)
    · exact .inl (by simpa using h)
  | a :: l, b :: m, h, n + 1 => by simpa using lessL.get h.2 n
  | [], _ :: _, h, _ => h.elim
  | _ :: _, [], h, _ => h.elim
theorem lessL.less {l m : List D} {ds : List (FuncId × List D)} (h : lessL l m) : Less ⟨l, ds⟩ ⟨m, ds⟩ :=
  ⟨h.len, fun n => (h.get n).symm, rfl⟩

theorem Cut.list {K : Env → St → Prop} {l m : List D} {ds : List (FuncId × List D)} {σ : St} (l₀ : List D) (h : lessL l₀ m) (hk : K ⟨l₀, ds⟩ σ) : Cut K ⟨m, ds⟩ σ := ⟨⟨l₀, ds⟩, σ, h.less, Drops.refl σ, hk⟩

/-- What is asked behind a round of a loop: a smaller round may follow. -/
def Round {α : Type} (v : α → List D) (g : α → St) (m : α → Nat) (Inv : α → Prop) (ds : List (FuncId × List D)) (n : Nat) (e' : Env) (σ' : St) : Prop :=
  ∃ m', m' < n ∧ Cut (fun e s => ∃ a, m' = m a ∧ Inv a ∧ e = ⟨v a, ds⟩ ∧ s = g a) e' σ'
@[congr] theorem Round.congr {α : Type} {v : α → List D} {g : α → St} {m : α → Nat} {Inv : α → Prop} {ds : List (FuncId × List D)} {n : Nat} {e e' : Env} {σ σ' : St} (h2 : e = e') (h3 : σ = σ') : Round v g m Inv ds n e σ = Round v g m Inv ds n e' σ' := by subst h2; subst h3; rfl
theorem Round.go {α : Type} {v : α → List D} {g : α → St} {m : α → Nat} {Inv : α → Prop} {ds : List (FuncId × List D)} {n : Nat} {l : List D} {σ : St} (b : α) (hm : m b < n) (hi : Inv b) (hl : lessL (v b) l) (hσ : Drops σ (g b)) : Round v g m Inv ds n ⟨l, ds⟩ σ :=
  ⟨m b, hm, ⟨v b, ds⟩, g b, hl.less, hσ, b, rfl, hi, rfl, rfl⟩

/-- A loop: 'v' says what the slots hold in a round, 'm' falls. -/
theorem loop_go {P : Program} {α : Type} (v : α → List D) (g : α → St) (m : α → Nat) (Inv : α → Prop) (a₀ : α) {c : ICode} {Q : IExit → Env → St → Prop} {l : List D} {ds : List (FuncId × List D)} {σ : St}
    (h0 : Inv a₀) (hl : lessL (v a₀) l) (hσ : Drops σ (g a₀))
    (hstep : ∀ a, Inv a → iwp P c (thenI (Round v g m Inv ds (m a)) Q) ⟨v a, ds⟩ (g a)) : iwp P (.loop c) Q ⟨l, ds⟩ σ := by
  refine ⟨fun n e s => ∃ a, n = m a ∧ Inv a ∧ e = ⟨v a, ds⟩ ∧ s = g a, ⟨m a₀, ⟨⟨v a₀, ds⟩, g a₀, hl.less, hσ, a₀, rfl, h0, rfl, rfl⟩⟩, ?_⟩
  rintro n e s ⟨a, rfl, hi, rfl, rfl⟩
  exact hstep a hi

theorem wr64 (n : Int) (h : -9223372036854775808 ≤ n ∧ n ≤ 9223372036854775807) : IntKind.i64.wrap n = n := by rw [IntKind.wrap_i64]; omega

theorem wru64 (n : Int) (h : 0 ≤ n ∧ n ≤ 18446744073709551615) : IntKind.u64.wrap n = n := by
  have : IntKind.u64.wrap n = n % 18446744073709551616 := by simp [IntKind.wrap, IntKind.bits, IntKind.signed]
  rw [this]; omega
theorem wru8 (n : Int) (h : 0 ≤ n ∧ n ≤ 255) : IntKind.u8.wrap n = n := by
  have : IntKind.u8.wrap n = n % 256 := by simp [IntKind.wrap, IntKind.bits, IntKind.signed]
  rw [this]; omega

theorem sts_nil (ios : List IOper) (e : Env) (σ : St) : Stills ios [] e σ = True := rfl
def stillO (x : Option IOper) (e : Env) (σ : St) : Prop := match x with | some o => Still o e σ | none => True
theorem sts_cons (ios : List IOper) (j : Nat) (r : List Nat) (e : Env) (σ : St) : Stills ios (j :: r) e σ = (stillO ios[j]? e σ ∧ Stills ios r e σ) := rfl
theorem stillO_load (t : Nat) (n : Option Nat) (x : Opd) (e : Env) (σ : St) : stillO (some ⟨some t, .v (.load n x), none⟩) e σ = (iload n (x.ev e.tmps) σ = some (e.tmps.getD t .junk)) := rfl

def boxO (x : Option (List D)) : Option D := match x with | some cs => some (.box cs 0) | none => none
theorem boxO_some (cs : List D) : boxO (some cs) = some (.box cs 0) := rfl
theorem ix_map {α : Type} [Inhabited α] (f : α → D) (l : List α) (sz : Nat) (r : Room) (k : IntKind) (i : Int) (h : 0 ≤ i ∧ i < l.length) :
    idxAddrS sz (.slc sz (l.map f) r) (.int k i) = boxO (dcells (f (l.getD i.toNat default))) := by
  have h1 : i.toNat < l.length := by omega
  simp only [idxAddrS, h.1, and_self, if_true, List.getElem?_map, List.getElem?_eq_getElem h1, Option.map_some, Option.bind_some, List.getD_eq_getElem?_getD, Option.getD_some]
  cases dcells (f l[i.toNat]) <;> rfl

/-- How a run of signs goes on. -/
theorem tw_step {p : UInt8 → Bool} {s : List UInt8} {k : Nat} (h : k < s.length) : ((s.drop k).takeWhile p).length = if p (s.getD k 0) then ((s.drop (k + 1)).takeWhile p).length + 1 else 0 := by
  rw [List.drop_eq_getElem_cons h, List.takeWhile_cons]
  have : s.getD k 0 = s[k] := by simp [h]
  rw [this]
  split <;> simp
theorem tw_end {p : UInt8 → Bool} {s : List UInt8} {k : Nat} (h : s.length ≤ k) : ((s.drop k).takeWhile p).length = 0 := by
  rw [List.drop_eq_nil_of_le h]; rfl
theorem tw_le (p : UInt8 → Bool) (s : List UInt8) : (s.takeWhile p).length ≤ s.length := (List.takeWhile_sublist p).length_le

section
variable {P : Program}
theorem iwpX_mono {o : IXop} {dst : Option Nat} {next next' : Env → St → Prop} {Q Q' : IExit → Env → St → Prop} {e : Env} {σ : St} (hn : ∀ e σ, next e σ → next' e σ) (hq : ∀ x e σ, Q x e σ → Q' x e σ) (h : iwpX P o dst next Q e σ) : iwpX P o dst next' Q' e σ := by
  cases o <;> simp only [iwpX] at h ⊢
  · split at h <;> first | exact h.elim | exact hn _ _ h
  · split at h <;> (try exact h.elim)
    refine ⟨h.1, h.2.mono fun out s hh => ?_⟩
    cases out
    · exact hn _ _ hh
    · exact hq _ _ _ hh
  · split at h <;> first | exact h.elim | exact hq _ _ _ h
  · split at h <;> first | exact h.elim | exact hn _ _ h
  · exact h.mono fun d s hh => hn _ _ hh
  · split at h <;> (try exact h.elim)
    split at h <;> (try exact h.elim)
    refine ⟨h.1, h.2.mono fun out s hh => ?_⟩
    cases out
    · exact hn _ _ hh
    · exact hq _ _ _ hh
theorem iwpG_mono {o : IOper} {next next' : Env → St → Prop} {Q Q' : IExit → Env → St → Prop} {e : Env} {σ : St} (hn : ∀ e σ, next e σ → next' e σ) (hq : ∀ x e σ, Q x e σ → Q' x e σ) (h : iwpG P o next Q e σ) : iwpG P o next' Q' e σ := by
  simp only [iwpG] at h ⊢
  split at h
  · exact iwpX_mono hn hq h
  · split at h <;> (try exact h.elim)
    exact ⟨fun hb => iwpX_mono hn hq (h.1 hb), fun hb => hn _ _ (h.2 hb)⟩
theorem iwpOps_mono : ∀ {os : List IOper} {next next' : Env → St → Prop} {Q Q' : IExit → Env → St → Prop} {e : Env} {σ : St}, (∀ e σ, next e σ → next' e σ) → (∀ x e σ, Q x e σ → Q' x e σ) → iwpOps P os next Q e σ → iwpOps P os next' Q' e σ
  | [], _, _, _, _, _, _, hn, _, h => hn _ _ h
  | o :: os, _, _, _, _, _, _, hn, hq, h => iwpG_mono (o := o) (fun _ _ h => iwpOps_mono hn hq h) hq h
theorem iwpPlan_mono {ios : List IOper} {alld : List Nat} : ∀ {pl : List (Nat × Option (List Nat))} {next next' : Env → St → Prop} {Q Q' : IExit → Env → St → Prop} {e : Env} {σ : St}, (∀ e σ, next e σ → next' e σ) → (∀ x e σ, Q x e σ → Q' x e σ) → iwpPlan P ios alld next Q pl e σ → iwpPlan P ios alld next' Q' pl e σ
  | [], _, _, _, _, _, _, hn, _, h => hn _ _ h
  | (i, none) :: pl, _, _, _, _, _, _, hn, hq, h => by
    simp only [iwpPlan] at h ⊢
    split at h <;> (try exact h.elim)
    exact iwpG_mono (fun _ _ h => iwpPlan_mono hn hq h) (fun _ _ _ h => h) h
  | (i, some must) :: pl, _, _, _, _, _, _, hn, hq, h => by
    simp only [iwpPlan] at h ⊢
    split at h <;> (try exact h.elim)
    exact iwpG_mono (fun _ _ h => ⟨h.1, iwpPlan_mono hn hq h.2⟩) (fun _ _ _ h => hq _ _ _ h) h
theorem Cut.mono {K K' : Env → St → Prop} (hk : ∀ e σ, K e σ → K' e σ) {e : Env} {σ : St} (h : Cut K e σ) : Cut K' e σ := by
  obtain ⟨e₀, σ₀, h1, h2, h3⟩ := h
  exact ⟨e₀, σ₀, h1, h2, hk _ _ h3⟩
theorem thenI_mono {K K' : Env → St → Prop} {Q Q' : IExit → Env → St → Prop} (hk : ∀ e σ, K e σ → K' e σ) (hq : ∀ x e σ, Q x e σ → Q' x e σ) (x : IExit) (e : Env) (σ : St) (h : thenI K Q x e σ) : thenI K' Q' x e σ := by
  cases x <;> simp only [thenI] at h ⊢ <;> first | exact hk _ _ h | exact hq _ _ _ h
theorem iwp_mono : ∀ (c : ICode) {Q Q' : IExit → Env → St → Prop} {e : Env} {σ : St}, (∀ x e σ, Q x e σ → Q' x e σ) → iwp P c Q e σ → iwp P c Q' e σ
  | .skip, _, _, _, _, hq, h => hq _ _ _ h
  | .region ios, _, _, _, _, hq, h => iwpOps_mono (fun _ _ h => hq _ _ _ h) hq h
  | .dregion ios alld pl, _, _, _, _, hq, h => ⟨h.1, iwpPlan_mono (fun _ _ h => hq _ _ _ h) hq h.2⟩
  | .both x y, _, _, _, _, hq, h => ⟨iwp_mono x hq h.1, iwp_mono y hq h.2⟩
  | .seq a b, _, _, _, _, hq, h => iwp_mono a (thenI_mono (fun _ _ h => h.mono fun _ _ h => iwp_mono b hq h) hq) h
  | .cond c a b, _, _, _, _, hq, h => by
    simp only [iwp] at h ⊢
    split at h <;> (try exact h.elim)
    exact ⟨fun hb => iwp_mono a hq (h.1 hb), fun hb => iwp_mono b hq (h.2 hb)⟩
  | .block id c, _, _, _, _, hq, h => by
    simp only [iwp] at h ⊢
    refine iwp_mono c (fun x e σ h => ?_) h
    cases x <;> simp only [inBlockI] at h ⊢ <;> (try exact hq _ _ _ h)
    split at h
    · rename_i hh; rw [if_pos hh]; exact hq _ _ _ h
    · rename_i hh; rw [if_neg hh]; exact hq _ _ _ h
  | .loop c, _, _, _, _, hq, h => by
    obtain ⟨I, h1, h2⟩ := h
    exact ⟨I, h1, fun n e σ hi => iwp_mono c (thenI_mono (fun _ _ h => h) hq) (h2 n e σ hi)⟩
  | .exit id, _, _, _, _, hq, h => hq _ _ _ h
  | .ret, _, _, _, _, hq, h => hq _ _ _ h

/-- A place between two pieces of code where all ways come to the same. -/
@[irreducible] def Midway (v : List D) (ds : List (FuncId × List D)) (s : St) (e : Env) (σ : St) : Prop := Cut (fun e' σ' => e' = ⟨v, ds⟩ ∧ σ' = s) e σ
@[congr] theorem Midway.congr {v : List D} {ds : List (FuncId × List D)} {s : St} {e e' : Env} {σ σ' : St} (h2 : e = e') (h3 : σ = σ') : Midway v ds s e σ = Midway v ds s e' σ' := by subst h2; subst h3; rfl
theorem Midway.go {v l : List D} {ds : List (FuncId × List D)} {s σ : St} (h : lessL v l) (hd : Drops σ s) : Midway v ds s ⟨l, ds⟩ σ := by
  unfold Midway
  exact ⟨⟨v, ds⟩, s, h.less, hd, rfl, rfl⟩
/-- What is known between two pieces of code may be said once for all ways there. -/
theorem seq_mid (v : List D) (s : St) {A B : ICode} {Q : IExit → Env → St → Prop} {l : List D} {ds : List (FuncId × List D)} {σ : St} (h1 : iwp P A (thenI (Midway v ds s) Q) ⟨l, ds⟩ σ) (h2 : iwp P B Q ⟨v, ds⟩ s) : iwp P (.seq A B) Q ⟨l, ds⟩ σ := by
  refine iwp_mono A (thenI_mono (fun e σ h => ?_) fun _ _ _ h => h) h1
  unfold Midway at h
  exact h.mono fun e σ ⟨he, hs⟩ => by subst he; subst hs; exact h2
end

/-- A call of a function that gives one value, and changes nothing. -/
theorem pass {P : Program} {f : FuncId} {xs : List D} {σ : St} {d : D} {K : Out → St → Prop} (hg : goodFn P f = true) (h : Ok P f xs σ (fun o s => s = σ ∧ o = .ret d)) (hk : K (.ret d) σ) : goodFn P f = true ∧ Ok P f xs σ K :=
  ⟨hg, h.mono fun o s ⟨h1, h2⟩ => by subst h1; subst h2; exact hk⟩

end Go.Id

/-
  THE IDEAL LAYER, PART S: what was written is written no more: it is told by its contents from then on.
-/
namespace Go.Id
open Go.RowKit
set_option linter.unusedVariables false
set_option linter.unusedSimpArgs false

theorem Sim.freeze {μ : Mu} {σ : St} {w : World} (h : Sim μ σ w) {j : Nat} {cs : List D} (hj : σ.obj j = some (.cells cs)) :
    ∃ μ' : Mu, μ.le μ' ∧ Sim μ' (σ.put j none) w ∧ ∃ b o, μ.loc j = some (b, o) ∧ ∀ i d, cs[i]? = some d → ∃ v, μ'.own b (o + i) = .imm v ∧ CR μ' d [v] := by
  obtain ⟨b, o, h1, h2, h3, h4⟩ := h.obj j cs hj
  have hin : ∀ o', o ≤ o' → o' < o + cs.length → μ.own b o' = .obj j ∧ ∃ v, w.cell? ⟨b, o', none⟩ = some v := by
    intro o' g1 g2
    obtain ⟨k1, k2, v, k3, k4⟩ := h4 (o' - o) cs[o' - o] (by rw [List.getElem?_eq_getElem])
    rw [show o + (o' - o) = o' by omega] at k1 k3
    exact ⟨k1, v, k3⟩
  let μ' : Mu := { μ with own := fun b' o' => if b' = b ∧ o ≤ o' ∧ o' < o + cs.length then (match w.cell? ⟨b, o', none⟩ with | some v => .imm v | none => .none) else μ.own b' o' }
  have hown : ∀ b' o', μ'.own b' o' = if b' = b ∧ o ≤ o' ∧ o' < o + cs.length then (match w.cell? ⟨b, o', none⟩ with | some v => .imm v | none => .none) else μ.own b' o' := fun _ _ => rfl
  have hkeep : ∀ b' o', μ.own b' o' ≠ .obj j → μ'.own b' o' = μ.own b' o' := by
    intro b' o' hne
    rw [hown, if_neg]
    rintro ⟨rfl, g1, g2⟩
    exact hne (hin o' g1 g2).1
  have hle : μ.le μ' := by
    refine ⟨fun b' o' v e => ?_, fun _ _ h => h, fun _ _ h => h, rfl⟩
    rw [hkeep _ _ (by rw [e]; simp), e]
  refine ⟨μ', hle, ⟨fun b' o' v e => ?_, fun i cs' e => ?_, fun t e => ?_, fun b' o' hb => ?_, fun i hi => ?_, h.bel, h.tyOf hle (put_ty (by simp)) (rows_same fun _ _ => rfl)⟩, b, o, h1, fun i d hi => ?_⟩
  · rw [hown] at e
    split at e
    · rename_i hc
      obtain ⟨rfl, g1, g2⟩ := hc
      obtain ⟨_, u, g3⟩ := hin o' g1 g2
      rw [g3] at e ⊢
      simp only [Own.imm.injEq] at e
      rw [e]
    · exact h.imm _ _ _ e
  · by_cases hij : i = j
    · subst hij; simp [St.put] at e
    · simp [St.put, hij] at e
      obtain ⟨b', o', m1, m2, m3, m4⟩ := h.obj i cs' e
      refine ⟨b', o', m1, m2, m3, fun k d hk => ?_⟩
      obtain ⟨g1, g2, v, g3, g4⟩ := m4 k d hk
      exact ⟨by rw [hkeep _ _ (by rw [g1]; simpa using hij), g1], g2, v, g3, g4.mono hle⟩
  · have ht : t ≠ j := by intro ht; subst ht; simp [St.put] at e
    simp [St.put, ht] at e
    obtain ⟨b', e', k, m1, m2, m3, m4⟩ := h.tok t e
    refine ⟨b', e', k, m1, m2, m3, fun i hi => ?_⟩
    obtain ⟨g1, g2, v, g3⟩ := m4 i hi
    exact ⟨by rw [hkeep _ _ (by rw [g1]; simp), g1], g2, v, g3⟩
  · rw [hkeep _ _ (by rw [h.blk b' o' hb]; simp)]; exact h.blk b' o' hb
  · have := h.nxt i hi
    refine ⟨?_, this.2⟩
    simp only [St.put]; split
    · rfl
    · exact this.1
  · obtain ⟨k1, k2, v, k3, k4⟩ := h4 i d hi
    have hlt := (List.getElem?_eq_some_iff.1 hi).1
    refine ⟨v, ?_, k4.mono hle⟩
    rw [hown, if_pos ⟨rfl, by omega, by omega⟩, k3]

theorem CRat.of {μ : Mu} : ∀ {cs : List D} {b o : Nat}, (∀ i d, cs[i]? = some d → ∃ v, μ.own b (o + i) = .imm v ∧ CR μ d [v]) → CRat μ cs b o
  | [], _, _, _ => by simp only [CRat]
  | d :: ds, b, o, h => by
    simp only [CRat]
    refine ⟨by simpa using h 0 d rfl, CRat.of fun i x hi => ?_⟩
    have := h (i + 1) x (by simpa using hi)
    rwa [show o + (i + 1) = o + 1 + i by omega] at this
/-- Scalars that nobody writes any more. -/
theorem imm_row {μ : Mu} : ∀ {cs : List D} {b o : Nat}, (∀ i d, cs[i]? = some d → ∃ v, μ.own b (o + i) = .imm v ∧ CR μ d [v]) → cs.all scal = true → ∃ vs, vs.length = cs.length ∧ vs.all Value.oneCell' = true ∧ ImmAt μ b o vs ∧ CRl μ cs vs
  | [], _, _, _, _ => ⟨[], rfl, rfl, fun i v e => by simp at e, by simp only [CRl]⟩
  | d :: ds, b, o, h, hs => by
    simp only [List.all_cons, Bool.and_eq_true] at hs
    obtain ⟨v, h1, h2⟩ := h 0 d rfl
    obtain ⟨ws, g1, g2, g3, g4⟩ := imm_row (cs := ds) (b := b) (o := o + 1) (fun i x hi => by
      have := h (i + 1) x (by simpa using hi)
      rwa [show o + (i + 1) = o + 1 + i by omega] at this) hs.2
    refine ⟨v :: ws, by simp [g1], by simp [(scal_cell hs.1 h2).1, g2], fun i u e => ?_, ?_⟩
    · cases i with
      | zero => simp at e; subst e; exact h1
      | succ i =>
        have := g3 i u (by simpa using e)
        rwa [show o + 1 + i = o + (i + 1) by omega] at this
    · simp only [CRl]; exact ⟨v, ws, rfl, h2, g4⟩
theorem chunks_length (sz : Nat) : ∀ (n : Nat) (cs : List D), (chunks sz n cs).length = n
  | 0, _ => rfl
  | n + 1, cs => by rw [chunks, List.length_cons, chunks_length sz n]
theorem CRes.of {μ : Mu} {sz : Nat} : ∀ {n : Nat} {cs : List D} {b o : Nat}, n * sz ≤ cs.length → (∀ i d, cs[i]? = some d → ∃ v, μ.own b (o + i) = .imm v ∧ CR μ d [v]) → cs.all scal = true → CRes μ sz (chunks sz n cs) b o
  | 0, _, _, _, _, _, _ => by simp only [chunks, CRes]
  | n + 1, cs, b, o, hn, h, hs => by
    rw [Nat.succ_mul] at hn
    simp only [chunks, CRes]
    have hs1 : (cs.take sz).all scal = true := by
      rw [List.all_eq_true] at hs ⊢
      exact fun x hx => hs x (List.mem_of_mem_take hx)
    have hs2 : (cs.drop sz).all scal = true := by
      rw [List.all_eq_true] at hs ⊢
      exact fun x hx => hs x (List.mem_of_mem_drop hx)
    refine ⟨?_, CRes.of (by rw [List.length_drop]; omega) (fun i d hi => ?_) hs2⟩
    · obtain ⟨vs, g1, g2, g3, g4⟩ := imm_row (cs := cs.take sz) (b := b) (o := o) (fun i d hi => by
        rw [List.getElem?_take] at hi
        split at hi
        · exact h i d hi
        · cases hi) hs1
      refine ⟨vs, by rw [g1, List.length_take]; omega, g2, g3, ?_⟩
      split
      · rename_i h1
        subst h1
        cases cs with
        | nil => simp at hn
        | cons d ds =>
          simp only [List.take_succ_cons, List.take_zero, CRl] at g4
          obtain ⟨v, ws, rfl, k1, rfl⟩ := g4
          exact k1
      · simp only [CR]; exact g4
    · rw [List.getElem?_drop] at hi
      have := h _ d hi
      rwa [show o + (sz + i) = o + sz + i by omega] at this

/-- A datum whose variable 'j' is written no more. -/
inductive Frz (j : Nat) (cs : List D) : D → D → Prop
  | refl (d : D) : Frz j cs d d
  | slc (off sz len : Nat) (r : Room) (h : off + len * sz ≤ cs.length) (hs : cs.all scal = true) : Frz j cs (.rslc j off sz len r) (.slc sz (chunks sz len (cs.drop off)) r)
  | box (off : Nat) : Frz j cs (.ref j off) (.box cs off)
inductive Frzs (j : Nat) (cs : List D) : List D → List D → Prop
  | nil : Frzs j cs [] []
  | cons {d d' : D} {l l' : List D} (h : Frz j cs d d') (hs : Frzs j cs l l') : Frzs j cs (d :: l) (d' :: l')
inductive FrzO (j : Nat) (cs : List D) : Out → Out → Prop
  | one {d d' : D} (h : Frz j cs d d') : FrzO j cs (.ret d) (.ret d')
  | many {l l' : List D} (h : Frzs j cs l l') : FrzO j cs (.ret (.tuple l)) (.ret (.tuple l'))

theorem Frz.sound {μ μ' : Mu} (hle : μ.le μ') {j : Nat} {cs : List D} {b o : Nat} (hl : μ.loc j = some (b, o)) (hi : ∀ i d, cs[i]? = some d → ∃ v, μ'.own b (o + i) = .imm v ∧ CR μ' d [v]) {d d' : D} (h : Frz j cs d d') {v : Value} (hv : VR μ d v) : VR μ' d' v := by
  cases h with
  | refl => exact hv.mono hle
  | slc off sz len r h hs =>
    obtain ⟨h0, hc⟩ := hv
    simp only [CR] at hc
    obtain ⟨b', o', cap, g1, g2, g3⟩ := hc
    rw [hl] at g1
    simp only [Option.some.injEq, Prod.mk.injEq] at g1
    obtain ⟨rfl, rfl⟩ := g1
    refine ⟨by cases v <;> first | exact h0 | rfl, ?_⟩
    simp only [CR]
    refine ⟨b, o + off, cap, ?_, CRes.of (by rw [List.length_drop]; omega) (fun i d hi' => ?_) ?_, ?_⟩
    · rw [chunks_length]; exact g2
    · rw [List.getElem?_drop] at hi'
      have := hi _ d hi'
      rwa [show o + (off + i) = o + off + i by omega] at this
    · rw [List.all_eq_true] at hs ⊢
      exact fun x hx => hs x (List.mem_of_mem_drop hx)
    · rw [chunks_length]; exact g3.mono hle
  | box off =>
    obtain ⟨h0, hc⟩ := hv
    simp only [CR] at hc
    obtain ⟨b', o', g1, g2⟩ := hc
    rw [hl] at g1
    simp only [Option.some.injEq, Prod.mk.injEq] at g1
    obtain ⟨rfl, rfl⟩ := g1
    refine ⟨by cases v <;> first | exact h0 | rfl, ?_⟩
    simp only [CR]
    exact ⟨b, o, g2, CRat.of hi⟩
theorem Frzs.sound {μ μ' : Mu} (hle : μ.le μ') {j : Nat} {cs : List D} {b o : Nat} (hl : μ.loc j = some (b, o)) (hi : ∀ i d, cs[i]? = some d → ∃ v, μ'.own b (o + i) = .imm v ∧ CR μ' d [v]) : ∀ {l l' : List D}, Frzs j cs l l' → ∀ {vs : List Value}, CRt μ l vs → CRt μ' l' vs
  | _, _, .nil, vs, h => by simpa only [CRt] using h
  | _, _, .cons h hs, vs, hv => by
    simp only [CRt] at hv ⊢
    obtain ⟨v, ws, rfl, h1, h2, h3⟩ := hv
    have := Frz.sound hle hl hi h ⟨h1, h2⟩
    exact ⟨v, ws, rfl, this.1, this.2, Frzs.sound hle hl hi hs h3⟩
theorem FrzO.sound {μ μ' : Mu} (hle : μ.le μ') {j : Nat} {cs : List D} {b o : Nat} (hl : μ.loc j = some (b, o)) (hi : ∀ i d, cs[i]? = some d → ∃ v, μ'.own b (o + i) = .imm v ∧ CR μ' d [v]) {x x' : Out} (h : FrzO j cs x x') {e : Ending} (hv : PRel μ x e) : PRel μ' x' e := by
  cases h with
  | one h => cases e <;> simp only [PRel] at hv ⊢; exact Frz.sound hle hl hi h hv
  | many h =>
    cases e <;> simp only [PRel] at hv ⊢
    obtain ⟨h0, hc⟩ := hv
    simp only [CR] at hc
    obtain ⟨ws, h1, h2⟩ := hc
    refine ⟨by rename_i v; cases v <;> first | exact h0 | rfl, ?_⟩
    simp only [CR]
    exact ⟨ws, h1, Frzs.sound hle hl hi h h2⟩
/-- WHAT IS RETURNED MAY BE TOLD BY ITS CONTENTS, IF NOBODY WRITES IT ANY MORE. -/
theorem Ok.freeze {P : Program} {f : FuncId} {args : List D} {σ : St} {Post : Out → St → Prop} (h : Ok P f args σ (fun o s => Post o s ∨ ∃ j cs o', s.obj j = some (.cells cs) ∧ FrzO j cs o o' ∧ Post o' (s.put j none))) : Ok P f args σ Post :=
  fun μ w vs hs ha => (h μ w vs hs ha).mono fun e w' ⟨μ', σ', out, h1, h2, h3, h4⟩ => by
    rcases h4 with h4 | ⟨j, cs, o', g1, g2, g3⟩
    · exact ⟨μ', σ', out, h1, h2, h3, h4⟩
    · obtain ⟨μ'', k1, k2, b, o, k3, k4⟩ := h2.freeze g1
      exact ⟨μ'', _, o', h1.trans k1, k2, g2.sound k1 k3 k4 h3, g3⟩
end Go.Id

/-
  THE IDEAL LAYER, PART T: from a law's contract to what a row says of it: the arguments by their contents, the result, and that the arguments read as they did.
-/
namespace Go.Id
open Go.RowKit Go.WideShapes Go.ChangeShapes Go.ChangeAt
set_option linter.unusedVariables false
set_option linter.unusedSimpArgs false

/-- At a call's start nothing is written any more: all that there is, is by its contents. -/
def mu0 (W : World) : Mu := { own := fun b o => match W.cell? ⟨b, o, none⟩ with | some v => .imm v | none => .none, loc := fun _ => none, tl := fun _ => none, w0 := W }
def st0 : St := { obj := fun _ => none, next := 0 }
theorem mu0_imm {W : World} {b o : Nat} {v : Value} (h : W.cell? ⟨b, o, none⟩ = some v) : (mu0 W).own b o = .imm v := by simp only [mu0, h]
theorem sim0 (W : World) : Sim (mu0 W) st0 W := by
  refine ⟨fun b o v e => ?_, fun j cs e => ?_, fun t e => ?_, fun b o hb => ?_, fun j _ => ⟨rfl, rfl, rfl⟩, Below.refl _ _, fun f j T n e => by simp [st0] at e⟩
  · simp only [mu0] at e
    split at e
    · rename_i u hu; rw [hu]; simpa using e
    · cases e
  · simp [st0] at e
  · simp [st0] at e
  · have : W.cell? ⟨b, o, none⟩ = none := by
      simp only [World.cell?]
      rw [Array.getElem?_eq_none (by simpa using hb)]
    simp only [mu0, this]
theorem vr_true {μ : Mu} {v : Value} (h : VR μ (.bool true) v) : v = .bool true := by
  obtain ⟨h0, h5⟩ := h
  simp only [CR] at h5
  cases v with
  | bool b =>
    have h6 : [Value.bool b] = [Value.bool true] := h5
    simp at h6; rw [h6]
  | agg cs => exact absurd (show false = true from h0) (by decide)
  | _ => exfalso; revert h5; intro h6; cases h6
/-- A law's contract, as what its call does. -/
theorem law_calls {P : Program} {f : FuncId} {ds : List D} {vs : List Value} {W : World} (hc : CRt (mu0 W) ds vs) (h : Ok P f ds st0 (fun o _ => o = .ret (.bool true))) :
    Calls P f ⟨vs⟩ W fun e W' => e = .returned (.bool true) ∧ Below W.heap.size W W' := by
  refine (h (mu0 W) W vs (sim0 W) hc).mono fun e W' ⟨μ', σ', o, h1, h2, h3, h4⟩ => ?_
  subst h4
  have hb := h2.bel
  rw [h1.w0] at hb
  refine ⟨?_, hb⟩
  match e, h3 with
  | .returned v, h3 =>
    rw [vr_true h3]

theorem add_none (b o i : Nat) : (⟨b, o, none⟩ : Addr).add i = ⟨b, o + i, none⟩ := by
  unfold Addr.add; split <;> simp_all
section
variable {H : Type} {enc : TypeId × Value → H} {P : Program}
theorem trodAll_below (hl : laidOutB P = true) {W W' : World} (hb : Below W.heap.size W W') : ∀ {ts : List TypeId} {vs : List Value} {ds : List (DataW H)} {ps : List MemPlace}, (ts.all fun t => P.readableRec t && decide (t < P.types.size)) = true →
    DataW.TrodAll enc P W 0 (fun _ => true) true ts vs ds ps → (∀ x ∈ ps, x.block < W.heap.size) → DataW.TrodAll enc P W' 0 (fun b => decide (b < W.heap.size)) true ts vs ds ps
  | [], [], [], ps, _, h, _ => h
  | t :: ts, v :: vs, d :: ds, ps, hr, h, hlt => by
    obtain ⟨p, q, h1, h2, rfl⟩ := h
    simp only [List.all_cons, Bool.and_eq_true, decide_eq_true_eq] at hr
    exact ⟨p, q, Below.trod hl hr.1.1 hr.1.2 h1 hb fun x hx => hlt x (List.mem_append_left _ hx), trodAll_below hl hb (by simpa using hr.2) h2 fun x hx => hlt x (List.mem_append_right _ hx), rfl⟩
  | [], [], _ :: _, _, _, h, _ => h.elim
  | [], _ :: _, _, _, _, h, _ => h.elim
  | _ :: _, [], _, _, _, h, _ => h.elim
  | _ :: _, _ :: _, [], _, _, h, _ => h.elim
theorem kept_below {W W' : World} (h : Below W.heap.size W W') : W.keptBut W' (fun _ => False) := by
  refine ⟨h.os, h.output, fun i hi => ?_⟩
  rw [h.block i hi]
  cases W.heap[i]? with
  | none => rfl
  | some o => cases o <;> first | exact ⟨rfl, rfl, rfl, fun _ _ => rfl⟩ | exact .inr ⟨rfl, rfl⟩ | rfl
/-- What a row asks behind a law's call. -/
theorem post_law {fn : Func} {s : ChangeSpec} {apart fresh : Bool} {W W' : World} {args : Array Value} {ds gs : List (DataW H)} {before : List MemPlace} {tb : TypeId} (hl : laidOutB P = true)
    (hr : (fn.params.toList.all fun t => P.readableRec t && decide (t < P.types.size)) = true) (hW : DataW.Whole enc P fn.params.toList s.vars apart W args.toList ds gs before) (hb : Below W.heap.size W W') (hv : s.vars = [])
    (ht : fn.resultTypes = #[tb]) (hbool : P.underlying tb = some .bool) (hs : (s.fn H (ds ++ gs)).results = [.lit (.bool true)]) (ha : (s.fn H (ds ++ gs)).args = ds) (hsv : (s.fn H (ds ++ gs)).vars = []) :
    s.post enc P fn apart fresh false false W args (.bool true) W' := by
  have hlt : ∀ p ∈ before, p.block < W.heap.size := fun p hp => hW.lt p hp
  have hW' := hW
  obtain ⟨p, q, h1, h2, h3, h4, h5⟩ := hW
  rw [hv] at h2
  obtain ⟨rfl, rfl⟩ := trodVars_none h2
  refine ⟨ds, [], before, [], p, [], hW', ?_, ?_, ?_, World.keptBut_mono (fun _ h => h.elim) (kept_below hb), fun h => by cases h⟩
  · rw [hs, ht]
    exact trodAll_cons_mk (shut_bool hbool _) trodAll_mk0
  · rw [ha]
    exact trodAll_below hl hb hr h1 fun x hx => hlt x (by rw [h3]; simpa using hx)
  · rw [hv, hsv]; rfl
end

/-! Arguments by their contents. -/
theorem VR0_int (μ : Mu) (k : IntKind) (n : Int) : okAgg (.int k n) (.int k n) = true ∧ CR μ (.int k n) (vcells (.int k n)) := ⟨rfl, by simp only [CR]; rfl⟩
theorem VR0_str (μ : Mu) (s : ByteArray) : okAgg (.str s.data.toList) (.string s) = true ∧ CR μ (.str s.data.toList) (vcells (.string s)) := ⟨rfl, by simp only [CR]; simp [vcells]⟩
theorem CRt_cons {μ : Mu} {d : D} {ds : List D} {v : Value} {vs : List Value} (h : okAgg d v = true ∧ CR μ d (vcells v)) (hs : CRt μ ds vs) : CRt μ (d :: ds) (v :: vs) := by
  simp only [CRt]; exact ⟨v, vs, rfl, h.1, h.2, hs⟩
theorem CRt_nil (μ : Mu) : CRt μ [] [] := by simp only [CRt]
/-- A slice of structs of two strings. -/
theorem open_pairs {H : Type} {enc : TypeId × Value → H} {P : Program} {W : World} {t e s : TypeId} {fs : Array Field} {v : Value} {d : DataW H} {ps : List MemPlace} {base : Nat} (ht : P.underlying t = some (.slice e)) (he : P.underlying e = some (.struct fs))
    (hf : fs.toList.map (fun f => (f.type, f.offset)) = [(s, 0), (s, 1)]) (hs : P.underlying s = some .string) (hc : P.cellsOf e = 2) (hcs : P.cellsOf s = 1)
    (hval : Value.okWide P W .any base t v) (h : DataW.Trod enc P W 0 (fun _ => true) true t v d ps) :
    ∃ (x : D) (l : List (List UInt8 × List UInt8)), (okAgg x v = true ∧ CR (mu0 W) x (vcells v)) ∧ ((x = .nils ∧ l = []) ∨ x = .slc 2 (l.map fun p => .agg [.str p.1, .str p.2]) .closed) ∧ ∀ p ∈ l, p.1.length ≤ maxLen ∧ p.2.length ≤ maxLen := by
  obtain ⟨fuel, h⟩ := h
  obtain ⟨a, len, cap, rfl⟩ := okWide_slice ht hval
  rcases DataW.trod_slice ht h with ⟨h0, _⟩ | ⟨a, len', cap', elems, rest, n, hfu, hv, hx, _, hl, hm, hlen, hel, hsp, hns⟩
  · have h0' : a = none ∧ len = 0 ∧ cap = 0 := by simpa [Value.cells] using h0
    obtain ⟨rfl, rfl, rfl⟩ := h0'
    exact ⟨.nils, [], ⟨rfl, by simp only [CR]; rfl⟩, .inl ⟨rfl, rfl⟩, by simp⟩
  · have hv' : ‹Option Addr› = some a ∧ len = len' ∧ cap = cap' := by simpa [Value.cells] using hv
    obtain ⟨rfl, rfl, rfl⟩ := hv'
    have hspot : a.spot = none := by
      simp only [Value.okWide, ht, Cell.okWide, Cell.ok] at hval
      exact hval.2.2.2.1
    obtain ⟨b, o, sp⟩ := a
    simp only at hspot
    subst hspot
    -- each element
    have each : ∀ i, i < len → ∃ p : List UInt8 × List UInt8, W.cell? ⟨b, o + i * 2, none⟩ = some (.string ⟨p.1.toArray⟩) ∧ W.cell? ⟨b, o + i * 2 + 1, none⟩ = some (.string ⟨p.2.toArray⟩) ∧ p.1.length ≤ maxLen ∧ p.2.length ≤ maxLen := by
      intro i hi
      have h1 := hel i hi
      rw [List.getElem?_eq_getElem (by omega), hc, Option.bind_eq_some_iff] at h1
      obtain ⟨cs, h2, h3⟩ := h1
      obtain ⟨xs, m, _, _, h5, h6, h7⟩ := DataW.trod_struct he h3
      have hfl : fs.size = 2 := by
        have := congrArg List.length hf; simpa using this
      have f0 : ∃ f, fs[0]? = some f ∧ f.type = s ∧ f.offset = 0 := by
        have := congrArg (fun l => l[0]?) hf
        simp only [List.getElem?_map, Array.getElem?_toList, List.getElem?_cons_zero, Option.map_eq_some_iff, Prod.mk.injEq] at this
        obtain ⟨f, g1, g2, g3⟩ := this
        exact ⟨f, g1, g2, g3⟩
      have f1 : ∃ f, fs[1]? = some f ∧ f.type = s ∧ f.offset = 1 := by
        have := congrArg (fun l => l[1]?) hf
        simp only [List.getElem?_map, Array.getElem?_toList, List.getElem?_cons_succ, List.getElem?_cons_zero, Option.map_eq_some_iff, Prod.mk.injEq] at this
        obtain ⟨f, g1, g2, g3⟩ := this
        exact ⟨f, g1, g2, g3⟩
      obtain ⟨fa, ga, gb, gc⟩ := f0
      obtain ⟨fb, ha, hb, hc'⟩ := f1
      have k0 := h7 0 fa ga
      have k1 := h7 1 fb ha
      rw [List.getElem?_eq_getElem (by omega), gb, gc, hcs] at k0
      rw [List.getElem?_eq_getElem (by omega), hb, hc', hcs] at k1
      obtain ⟨s0, m0, _, m1⟩ := DataW.trod_string hs k0
      obtain ⟨s1, n0, _, n1⟩ := DataW.trod_string hs k1
      rw [hc] at h5
      obtain ⟨c0, c1, rfl⟩ : ∃ c0 c1, cs = [c0, c1] := by
        match cs, h5 with
        | [c0, c1], _ => exact ⟨c0, c1, rfl⟩
      simp at m0 n0
      subst m0; subst n0
      simp only [World.cells?] at h2
      rw [if_pos (by omega)] at h2
      simp only [List.range_succ, List.range_zero, List.nil_append, List.cons_append, List.mapM_cons, List.mapM_nil, Option.bind_eq_bind, Option.bind_eq_some_iff, Option.pure_def, Option.some.injEq] at h2
      obtain ⟨u0, q0, l1, ⟨u1, q1, l2, rfl, rfl⟩, hu⟩ := h2
      simp only [List.cons.injEq, and_true] at hu
      obtain ⟨rfl, rfl⟩ := hu
      refine ⟨(s0.data.toList, s1.data.toList), ?_, ?_, by simpa using m1, by simpa using n1⟩
      · simpa [add_none] using q0
      · simpa [add_none] using q1
    -- all of them
    have all : ∀ (k i : Nat), i + k ≤ len → ∃ l : List (List UInt8 × List UInt8), l.length = k ∧ CRes (mu0 W) 2 (l.map fun p => .agg [.str p.1, .str p.2]) b (o + i * 2) ∧ ∀ p ∈ l, p.1.length ≤ maxLen ∧ p.2.length ≤ maxLen := by
      intro k
      induction k with
      | zero => intro i _; exact ⟨[], rfl, by simp only [List.map_nil, CRes], by simp⟩
      | succ k ih =>
        intro i hi
        obtain ⟨p, g1, g2, g3, g4⟩ := each i (by omega)
        obtain ⟨l, k1, k2, k3⟩ := ih (i + 1) (by omega)
        refine ⟨p :: l, by simp [k1], ?_, fun q hq => ?_⟩
        · simp only [List.map_cons, CRes]
          refine ⟨⟨[.string ⟨p.1.toArray⟩, .string ⟨p.2.toArray⟩], rfl, rfl, fun j v e => ?_, ?_⟩, ?_⟩
          · match j, e with
            | 0, e => simp at e; subst e; exact mu0_imm g1
            | 1, e => simp at e; subst e; exact mu0_imm g2
          · simp [CR, CRl]
          · have : o + i * 2 + 2 = o + (i + 1) * 2 := by omega
            rw [this]; exact k2
        · rcases List.mem_cons.1 hq with rfl | hq
          · exact ⟨g3, g4⟩
          · exact k3 q hq
    obtain ⟨l, k1, k2, k3⟩ := all len 0 (by omega)
    refine ⟨.slc 2 (l.map fun p => .agg [.str p.1, .str p.2]) .closed, l, ⟨rfl, ?_⟩, .inr rfl, k3⟩
    simp only [CR]
    refine ⟨b, o, cap, ?_, by simpa using k2, ?_⟩
    · simp [vcells, k1]
    · simp only [RoomR, List.length_map, k1]; omega
end Go.Id

/-
  THE IDEAL LAYER, PART W: the same for a struct that is returned.
-/
namespace Go.Id
open Go.RowKit
set_option linter.unusedVariables false
set_option linter.unusedSimpArgs false

theorem Frz.cr {μ μ' : Mu} (hle : μ.le μ') {j : Nat} {cs : List D} {b o : Nat} (hl : μ.loc j = some (b, o)) (hi : ∀ i d, cs[i]? = some d → ∃ v, μ'.own b (o + i) = .imm v ∧ CR μ' d [v]) {d d' : D} (h : Frz j cs d d') {v : Value} (hv : CR μ d [v]) : CR μ' d' [v] := by
  cases h with
  | refl => exact hv.mono hle
  | slc off sz len r h hs =>
    simp only [CR] at hv ⊢
    obtain ⟨b', o', cap, g1, g2, g3⟩ := hv
    rw [hl] at g1
    simp only [Option.some.injEq, Prod.mk.injEq] at g1
    obtain ⟨rfl, rfl⟩ := g1
    refine ⟨b, o + off, cap, ?_, CRes.of (by rw [List.length_drop]; omega) (fun i d hi' => ?_) ?_, ?_⟩
    · rw [chunks_length]; exact g2
    · rw [List.getElem?_drop] at hi'
      have := hi _ d hi'
      rwa [show o + (off + i) = o + off + i by omega] at this
    · rw [List.all_eq_true] at hs ⊢
      exact fun x hx => hs x (List.mem_of_mem_drop hx)
    · rw [chunks_length]; exact g3.mono hle
  | box off =>
    simp only [CR] at hv ⊢
    obtain ⟨b', o', g1, g2⟩ := hv
    rw [hl] at g1
    simp only [Option.some.injEq, Prod.mk.injEq] at g1
    obtain ⟨rfl, rfl⟩ := g1
    exact ⟨b, o, g2, CRat.of hi⟩
theorem Frzs.soundL {μ μ' : Mu} (hle : μ.le μ') {j : Nat} {cs : List D} {b o : Nat} (hl : μ.loc j = some (b, o)) (hi : ∀ i d, cs[i]? = some d → ∃ v, μ'.own b (o + i) = .imm v ∧ CR μ' d [v]) : ∀ {l l' : List D}, Frzs j cs l l' → ∀ {vs : List Value}, CRl μ l vs → CRl μ' l' vs
  | _, _, .nil, vs, h => by simpa only [CRl] using h
  | _, _, .cons h hs, vs, hv => by
    simp only [CRl] at hv ⊢
    obtain ⟨v, ws, rfl, h1, h2⟩ := hv
    exact ⟨v, ws, rfl, Frz.cr hle hl hi h h1, Frzs.soundL hle hl hi hs h2⟩
theorem okAgg_agg (l l' : List D) (v : Value) : okAgg (.agg l) v = okAgg (.agg l') v := by cases v <;> rfl
/-- A struct that is returned: what it points to may be told by its contents, if nobody writes it any more. -/
theorem Ok.freezeA {P : Program} {f : FuncId} {args : List D} {σ : St} {Post : Out → St → Prop} (h : Ok P f args σ (fun o s => Post o s ∨ ∃ j cs l l', s.obj j = some (.cells cs) ∧ o = .ret (.agg l) ∧ Frzs j cs l l' ∧ Post (.ret (.agg l')) (s.put j none))) : Ok P f args σ Post :=
  fun μ w vs hs ha => (h μ w vs hs ha).mono fun e w' ⟨μ', σ', out, h1, h2, h3, h4⟩ => by
    rcases h4 with h4 | ⟨j, cs, l, l', g1, rfl, g2, g3⟩
    · exact ⟨μ', σ', out, h1, h2, h3, h4⟩
    · obtain ⟨μ'', k1, k2, b, o, k3, k4⟩ := h2.freeze g1
      refine ⟨μ'', _, _, h1.trans k1, k2, ?_, g3⟩
      cases e <;> simp only [PRel] at h3 ⊢
      obtain ⟨h0, hc⟩ := h3
      simp only [CR] at hc
      refine ⟨(okAgg_agg _ _ _).trans h0, ?_⟩
      simp only [CR]
      exact Frzs.soundL k1 k3 k4 g2 hc
end Go.Id

/-
  THE IDEAL LAYER, PART U: the steps, bound up as a few rules for 'simp'.
-/
namespace Go.Id
set_option linter.unusedVariables false
theorem SA : type_of% (And.intro @ist_region (And.intro @ist_seq (And.intro @ist_block (And.intro @ist_skip (And.intro @ist_exit (And.intro @ist_ret (And.intro @ist_ops_nil (And.intro @ist_ops (And.intro @ist_v (And.intro @ist_call (And.intro @ist_panic (And.intro @ist_defer (And.intro @ist_g (And.intro @ist_gg (And.intro @ist_cond (And.intro @ist_then (And.intro @ist_then_ret (And.intro @ist_then_exit (And.intro @ist_then_panic (And.intro @ist_in_normal (And.intro @ist_in_ret (And.intro @ist_in_panic (And.intro @ist_in_exit (And.intro @ist_body_ret (And.intro @ist_body_normal (And.intro @ist_body_panic (And.intro @ist_leave (And.intro @ist_leave_panic (And.intro @ist_body_dret (And.intro @ist_body_dnormal (And.intro @ist_dregion (And.intro @ist_both (And.intro @operO_some (And.intro @ist_plan_nil (And.intro @ist_plan_m (And.intro @ist_plan_b (And.intro @bindO_some (And.intro @callO_some (And.intro @boolO_bool (And.intro @gvalO_some (And.intro @gv_true (And.intro @gv_false (And.intro @gv_undef (And.intro @ifaceO_iface (And.intro @listO_some (@List.set_cons_zero.{0})))))))))))))))))))))))))))))))))))))))))))))) :=
  And.intro @ist_region (And.intro @ist_seq (And.intro @ist_block (And.intro @ist_skip (And.intro @ist_exit (And.intro @ist_ret (And.intro @ist_ops_nil (And.intro @ist_ops (And.intro @ist_v (And.intro @ist_call (And.intro @ist_panic (And.intro @ist_defer (And.intro @ist_g (And.intro @ist_gg (And.intro @ist_cond (And.intro @ist_then (And.intro @ist_then_ret (And.intro @ist_then_exit (And.intro @ist_then_panic (And.intro @ist_in_normal (And.intro @ist_in_ret (And.intro @ist_in_panic (And.intro @ist_in_exit (And.intro @ist_body_ret (And.intro @ist_body_normal (And.intro @ist_body_panic (And.intro @ist_leave (And.intro @ist_leave_panic (And.intro @ist_body_dret (And.intro @ist_body_dnormal (And.intro @ist_dregion (And.intro @ist_both (And.intro @operO_some (And.intro @ist_plan_nil (And.intro @ist_plan_m (And.intro @ist_plan_b (And.intro @bindO_some (And.intro @callO_some (And.intro @boolO_bool (And.intro @gvalO_some (And.intro @gv_true (And.intro @gv_false (And.intro @gv_undef (And.intro @ifaceO_iface (And.intro @listO_some (@List.set_cons_zero.{0})))))))))))))))))))))))))))))))))))))))))))))
theorem SB : type_of% (And.intro @List.set_cons_succ.{0} (And.intro @List.getD_cons_zero.{0} (And.intro @List.getD_cons_succ.{0} (And.intro @List.map_cons.{0, 0} (And.intro @List.map_nil.{0, 0} (And.intro @optO_some (And.intro @ev_t (And.intro @ev_c (And.intro @evO_none (And.intro @evO_some (And.intro @io_mov (And.intro @io_pick (And.intro @ipick_tt (And.intro @ipick_ff (And.intro @ipick_or (And.intro @ipick_and (And.intro @io_alloc (And.intro @io_box (And.intro @io_boxV (And.intro @io_build (And.intro @io_buildSlice (And.intro @bsO_tt (And.intro @io_load (And.intro @io_store (And.intro @io_nilCheck (And.intro @inil_box (And.intro @inil_ref (And.intro @inil_func (And.intro @io_bin (And.intro @io_eqp (And.intro @io_eqn (And.intro @io_un (And.intro @io_toInt (And.intro @itoInt_int (And.intro @io_toStr (And.intro @itoStr_str (And.intro @io_mkIface (And.intro @io_mkFunc (And.intro @io_sliceStr (And.intro @io_sliceSlc (And.intro @io_fieldAddr (And.intro @ifad_box (And.intro @ifad_ref (And.intro @io_field (@ifld_agg))))))))))))))))))))))))))))))))))))))))))))) :=
  And.intro @List.set_cons_succ.{0} (And.intro @List.getD_cons_zero.{0} (And.intro @List.getD_cons_succ.{0} (And.intro @List.map_cons.{0, 0} (And.intro @List.map_nil.{0, 0} (And.intro @optO_some (And.intro @ev_t (And.intro @ev_c (And.intro @evO_none (And.intro @evO_some (And.intro @io_mov (And.intro @io_pick (And.intro @ipick_tt (And.intro @ipick_ff (And.intro @ipick_or (And.intro @ipick_and (And.intro @io_alloc (And.intro @io_box (And.intro @io_boxV (And.intro @io_build (And.intro @io_buildSlice (And.intro @bsO_tt (And.intro @io_load (And.intro @io_store (And.intro @io_nilCheck (And.intro @inil_box (And.intro @inil_ref (And.intro @inil_func (And.intro @io_bin (And.intro @io_eqp (And.intro @io_eqn (And.intro @io_un (And.intro @io_toInt (And.intro @itoInt_int (And.intro @io_toStr (And.intro @itoStr_str (And.intro @io_mkIface (And.intro @io_mkFunc (And.intro @io_sliceStr (And.intro @io_sliceSlc (And.intro @io_fieldAddr (And.intro @ifad_box (And.intro @ifad_ref (And.intro @io_field (@ifld_agg))))))))))))))))))))))))))))))))))))))))))))
theorem SC : type_of% (And.intro @io_idxAddrS (And.intro @io_idxAddrA (And.intro @io_idxStr (And.intro @io_extract (And.intro @iext_tuple (And.intro @io_lenStr (And.intro @ils_str (And.intro @io_lenSlc (And.intro @ilen_nils (And.intro @ilen_slc (And.intro @ilen_rslc (And.intro @io_append (And.intro @io_appendR (And.intro @io_sliceArr (And.intro @io_bytesStr (And.intro @io_assert (And.intro @bi_add (And.intro @bi_sub (And.intro @bi_mul (And.intro @bi_quo (And.intro @bi_rem (And.intro @bi_and (And.intro @bi_or (And.intro @bi_xor (And.intro @bi_andNot (And.intro @bi_eql (And.intro @bi_neq (And.intro @bi_lss (And.intro @bi_leq (And.intro @bi_gtr (And.intro @bi_geq (And.intro @bi_shl (And.intro @bi_shr (And.intro @bs_add (And.intro @bs_eql (And.intro @bs_neq (And.intro @iu_neg (And.intro @iu_xor (And.intro @iu_not (And.intro @eq_bool (And.intro @eq_p00 (And.intro @eq_pb (And.intro @eq_pr (And.intro @eq_pb' (@eq_pr'))))))))))))))))))))))))))))))))))))))))))))) :=
  And.intro @io_idxAddrS (And.intro @io_idxAddrA (And.intro @io_idxStr (And.intro @io_extract (And.intro @iext_tuple (And.intro @io_lenStr (And.intro @ils_str (And.intro @io_lenSlc (And.intro @ilen_nils (And.intro @ilen_slc (And.intro @ilen_rslc (And.intro @io_append (And.intro @io_appendR (And.intro @io_sliceArr (And.intro @io_bytesStr (And.intro @io_assert (And.intro @bi_add (And.intro @bi_sub (And.intro @bi_mul (And.intro @bi_quo (And.intro @bi_rem (And.intro @bi_and (And.intro @bi_or (And.intro @bi_xor (And.intro @bi_andNot (And.intro @bi_eql (And.intro @bi_neq (And.intro @bi_lss (And.intro @bi_leq (And.intro @bi_gtr (And.intro @bi_geq (And.intro @bi_shl (And.intro @bi_shr (And.intro @bs_add (And.intro @bs_eql (And.intro @bs_neq (And.intro @iu_neg (And.intro @iu_xor (And.intro @iu_not (And.intro @eq_bool (And.intro @eq_p00 (And.intro @eq_pb (And.intro @eq_pr (And.intro @eq_pb' (@eq_pr'))))))))))))))))))))))))))))))))))))))))))))
theorem SD : type_of% (And.intro @eq_i00 (And.intro @eq_i1 (And.intro @eq_i1' (And.intro @eq_s00 (And.intro @eq_s1 (And.intro @eq_s2 (And.intro @eq_f00 (And.intro @eq_f1 (And.intro @eq_m00 (And.intro @sts_nil (And.intro @sts_cons (And.intro @stillO_load (And.intro @Bool.and_self (And.intro @wr64 (And.intro @wru64 (And.intro @wru8 (And.intro @ist_in_other (And.intro @ix_map (And.intro @boxO_some (And.intro @List.length_map.{0, 0} (And.intro @Int.toNat_natCast (And.intro @ld_box (And.intro @ld_ref (And.intro @ldO_some (And.intro @st_ref (And.intro @stO_some (And.intro @put_obj (And.intro @alloc_obj (And.intro @put_next (And.intro @alloc_next (And.intro @so_bool (And.intro @so_int (And.intro @so_str (And.intro @so_nilp (And.intro @so_box (And.intro @so_ref (And.intro @so_nils (And.intro @so_slc (And.intro @so_rslc (And.intro @so_nili (And.intro @so_iface (And.intro @so_nilf (And.intro @so_func (And.intro @so_nilm (@ibO_some))))))))))))))))))))))))))))))))))))))))))))) :=
  And.intro @eq_i00 (And.intro @eq_i1 (And.intro @eq_i1' (And.intro @eq_s00 (And.intro @eq_s1 (And.intro @eq_s2 (And.intro @eq_f00 (And.intro @eq_f1 (And.intro @eq_m00 (And.intro @sts_nil (And.intro @sts_cons (And.intro @stillO_load (And.intro @Bool.and_self (And.intro @wr64 (And.intro @wru64 (And.intro @wru8 (And.intro @ist_in_other (And.intro @ix_map (And.intro @boxO_some (And.intro @List.length_map.{0, 0} (And.intro @Int.toNat_natCast (And.intro @ld_box (And.intro @ld_ref (And.intro @ldO_some (And.intro @st_ref (And.intro @stO_some (And.intro @put_obj (And.intro @alloc_obj (And.intro @put_next (And.intro @alloc_next (And.intro @so_bool (And.intro @so_int (And.intro @so_str (And.intro @so_nilp (And.intro @so_box (And.intro @so_ref (And.intro @so_nils (And.intro @so_slc (And.intro @so_rslc (And.intro @so_nili (And.intro @so_iface (And.intro @so_nilf (And.intro @so_func (And.intro @so_nilm (@ibO_some))))))))))))))))))))))))))))))))))))))))))))
theorem SE : type_of% (And.intro @allO_some (And.intro @isl_lo (And.intro @isl_hi (And.intro @isl_lohi (And.intro @idxStr_at (And.intro @setAt_nil (And.intro @setAt_cons (And.intro @ca_none (And.intro @ca_some (And.intro @sc_bool (And.intro @sc_int (And.intro @sc_str (And.intro @sc_nilp (And.intro @sc_box (And.intro @sc_ref (And.intro @sc_nils (And.intro @sc_slc (And.intro @sc_rslc (And.intro @sc_nili (And.intro @sc_iface (And.intro @sc_nilf (And.intro @sc_func (And.intro @sc_nilm (And.intro @dc_agg (And.intro @dc_bool (And.intro @dc_int (And.intro @dc_str (And.intro @dc_nilp (And.intro @dc_box (And.intro @dc_ref (And.intro @dc_nils (And.intro @dc_slc (And.intro @dc_rslc (And.intro @dc_nili (And.intro @dc_iface (And.intro @dc_nilf (And.intro @dc_func (And.intro @dc_nilm (And.intro @ib_nil (And.intro @ib_cons (And.intro @all_nil (And.intro @all_cons (And.intro @ia_yes (And.intro @ia_no (@ia_nil))))))))))))))))))))))))))))))))))))))))))))) :=
  And.intro @allO_some (And.intro @isl_lo (And.intro @isl_hi (And.intro @isl_lohi (And.intro @idxStr_at (And.intro @setAt_nil (And.intro @setAt_cons (And.intro @ca_none (And.intro @ca_some (And.intro @sc_bool (And.intro @sc_int (And.intro @sc_str (And.intro @sc_nilp (And.intro @sc_box (And.intro @sc_ref (And.intro @sc_nils (And.intro @sc_slc (And.intro @sc_rslc (And.intro @sc_nili (And.intro @sc_iface (And.intro @sc_nilf (And.intro @sc_func (And.intro @sc_nilm (And.intro @dc_agg (And.intro @dc_bool (And.intro @dc_int (And.intro @dc_str (And.intro @dc_nilp (And.intro @dc_box (And.intro @dc_ref (And.intro @dc_nils (And.intro @dc_slc (And.intro @dc_rslc (And.intro @dc_nili (And.intro @dc_iface (And.intro @dc_nilf (And.intro @dc_func (And.intro @dc_nilm (And.intro @ib_nil (And.intro @ib_cons (And.intro @all_nil (And.intro @all_cons (And.intro @ia_yes (And.intro @ia_no (@ia_nil))))))))))))))))))))))))))))))))))))))))))))
theorem SF : type_of% (And.intro @ep_some (And.intro @ep_none (And.intro @co_func (And.intro @ir_nil (And.intro @consO_some (And.intro @ir_tmp (And.intro @ir_cell (And.intro @rd_one (And.intro @rd_zero (And.intro @rd_two (And.intro @List.all_cons.{0} (And.intro @List.all_nil.{0} (And.intro @Bool.and_true (And.intro @Bool.true_and (And.intro @Bool.and_false (And.intro @Bool.false_and (And.intro @Bool.not_true (And.intro @Bool.not_false (And.intro @List.getElem?_cons_zero.{0} (And.intro @List.getElem?_cons_succ.{0} (And.intro @List.length_cons.{0} (And.intro @List.length_nil.{0} (And.intro @List.take_succ_cons.{0} (And.intro @List.take_zero.{0} (And.intro @List.drop_succ_cons.{0} (And.intro @List.drop_zero.{0} (And.intro @List.cons_append.{0} (And.intro @List.nil_append.{0} (And.intro @List.append_nil.{0} (And.intro @and_self (And.intro @and_true (And.intro @true_and (And.intro @beq_self_eq_true.{0} (And.intro @Br.tt (And.intro @Br.ff (And.intro @beq_tt (And.intro @beq_ff (And.intro @Br.not (And.intro @Nat.add_zero (And.intro @Nat.zero_add (And.intro @Option.map_some.{0, 0} (And.intro @Option.bind_some.{0, 0} (And.intro @Bool.false_eq_true (And.intro @not_true_eq_false (@not_false_eq_true))))))))))))))))))))))))))))))))))))))))))))) :=
  And.intro @ep_some (And.intro @ep_none (And.intro @co_func (And.intro @ir_nil (And.intro @consO_some (And.intro @ir_tmp (And.intro @ir_cell (And.intro @rd_one (And.intro @rd_zero (And.intro @rd_two (And.intro @List.all_cons.{0} (And.intro @List.all_nil.{0} (And.intro @Bool.and_true (And.intro @Bool.true_and (And.intro @Bool.and_false (And.intro @Bool.false_and (And.intro @Bool.not_true (And.intro @Bool.not_false (And.intro @List.getElem?_cons_zero.{0} (And.intro @List.getElem?_cons_succ.{0} (And.intro @List.length_cons.{0} (And.intro @List.length_nil.{0} (And.intro @List.take_succ_cons.{0} (And.intro @List.take_zero.{0} (And.intro @List.drop_succ_cons.{0} (And.intro @List.drop_zero.{0} (And.intro @List.cons_append.{0} (And.intro @List.nil_append.{0} (And.intro @List.append_nil.{0} (And.intro @and_self (And.intro @and_true (And.intro @true_and (And.intro @beq_self_eq_true.{0} (And.intro @Br.tt (And.intro @Br.ff (And.intro @beq_tt (And.intro @beq_ff (And.intro @Br.not (And.intro @Nat.add_zero (And.intro @Nat.zero_add (And.intro @Option.map_some.{0, 0} (And.intro @Option.bind_some.{0, 0} (And.intro @Bool.false_eq_true (And.intro @not_true_eq_false (@not_false_eq_true))))))))))))))))))))))))))))))))))))))))))))
theorem SG : type_of% (And.intro @Bool.false_or (And.intro @Bool.true_or (And.intro @ne_eq.{1} (And.intro @decide_true (@decide_false))))) :=
  And.intro @Bool.false_or (And.intro @Bool.true_or (And.intro @ne_eq.{1} (And.intro @decide_true (@decide_false))))
theorem SH : type_of% (And.intro @decide_eq_true_eq (And.intro @decide_eq_false_iff_not (And.intro @beq_iff_eq.{0} (And.intro @beq_eq_false_iff_ne.{0} (And.intro @bne_iff_ne.{0} (And.intro @ne_eq.{1} (And.intro @Bool.and_eq_true (And.intro @Bool.or_eq_true (And.intro @Bool.not_eq_true (And.intro @Bool.not_eq_false (And.intro @Bool.and_eq_false_imp (And.intro @Bool.or_eq_false_iff (And.intro @Bool.not_eq_eq_eq_not (And.intro @Bool.not_true (And.intro @Bool.not_false (@bne_eq_false_iff_eq.{0})))))))))))))))) :=
  And.intro @decide_eq_true_eq (And.intro @decide_eq_false_iff_not (And.intro @beq_iff_eq.{0} (And.intro @beq_eq_false_iff_ne.{0} (And.intro @bne_iff_ne.{0} (And.intro @ne_eq.{1} (And.intro @Bool.and_eq_true (And.intro @Bool.or_eq_true (And.intro @Bool.not_eq_true (And.intro @Bool.not_eq_false (And.intro @Bool.and_eq_false_imp (And.intro @Bool.or_eq_false_iff (And.intro @Bool.not_eq_eq_eq_not (And.intro @Bool.not_true (And.intro @Bool.not_false (@bne_eq_false_iff_eq.{0})))))))))))))))
theorem SI : type_of% (And.intro @ist_ext (And.intro @ist_inv (And.intro @ifO_if (And.intro @fnO_some (And.intro @io_mm (And.intro @mm_min (And.intro @mm_max (And.intro @io_allocT (And.intro @io_boxT (And.intro @io_appendT (And.intro @io_sliceData (And.intro @io_unsStr (And.intro @io_toUns (And.intro @io_ofUns (And.intro @io_nilMeth (And.intro @inilM_box (And.intro @inilM_ref (@inilM_func)))))))))))))))))) :=
  And.intro @ist_ext (And.intro @ist_inv (And.intro @ifO_if (And.intro @fnO_some (And.intro @io_mm (And.intro @mm_min (And.intro @mm_max (And.intro @io_allocT (And.intro @io_boxT (And.intro @io_appendT (And.intro @io_sliceData (And.intro @io_unsStr (And.intro @io_toUns (And.intro @io_ofUns (And.intro @io_nilMeth (And.intro @inilM_box (And.intro @inilM_ref (@inilM_func)))))))))))))))))
end Go.Id
