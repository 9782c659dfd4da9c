/-
  THE IDEAL LAYER, PART R: loops, with what is known of each slot; calls.
-/
import Derived.Test.YtkjgadanaknleaaIdQ
import Derived.IntWalk
namespace Go.Id
open Go.RowKit
set_option linter.unusedVariables false
set_option linter.unusedSimpArgs false

def lessL : List D → List D → Prop
  | [], [] => True
  | a :: l, b :: m => (a = .junk ∨ a = b) ∧ lessL l m
  | _, _ => False
theorem ll_nil : lessL [] [] = True := rfl
theorem ll_junk (b : D) (l m : List D) : lessL (.junk :: l) (b :: m) = lessL l m := by simp [lessL]
theorem ll_same (b : D) (l m : List D) : lessL (b :: l) (b :: m) = lessL l m := by simp [lessL]
theorem ll_of (a b : D) (l m : List D) (h : a = b) : lessL (a :: l) (b :: m) = lessL l m := by subst h; simp [lessL]

theorem lessL.len : ∀ {l m : List D}, lessL l m → l.length = m.length
  | [], [], _ => rfl
  | _ :: l, _ :: m, h => by simp [lessL.len h.2]
  | [], _ :: _, h => h.elim
  | _ :: _, [], h => h.elim
theorem lessL.get : ∀ {l m : List D}, lessL l m → ∀ n, l.getD n .junk = m.getD n .junk ∨ l.getD n .junk = .junk
  | [], [], _, n => .inl rfl
  | a :: l, b :: m, h, 0 => by
    rcases h.1 with h | h
    · exact .inr (by simpa using h)
    · exact .inl (by simpa using h)
  | a :: l, b :: m, h, n + 1 => by simpa using lessL.get h.2 n
  | [], _ :: _, h, _ => h.elim
  | _ :: _, [], h, _ => h.elim
theorem lessL.less {l m : List D} {ds : List (FuncId × List D)} (h : lessL l m) : Less ⟨l, ds⟩ ⟨m, ds⟩ :=
  ⟨h.len, fun n => (h.get n).symm, rfl⟩

theorem Cut.list {K : Env → St → Prop} {l m : List D} {ds : List (FuncId × List D)} {σ : St} (l₀ : List D) (h : lessL l₀ m) (hk : K ⟨l₀, ds⟩ σ) : Cut K ⟨m, ds⟩ σ := ⟨⟨l₀, ds⟩, σ, h.less, Drops.refl σ, hk⟩

/-- What is asked behind a round of a loop: a smaller round may follow. -/
def Round {α : Type} (v : α → List D) (g : α → St) (m : α → Nat) (Inv : α → Prop) (ds : List (FuncId × List D)) (n : Nat) (e' : Env) (σ' : St) : Prop :=
  ∃ m', m' < n ∧ Cut (fun e s => ∃ a, m' = m a ∧ Inv a ∧ e = ⟨v a, ds⟩ ∧ s = g a) e' σ'
@[congr] theorem Round.congr {α : Type} {v : α → List D} {g : α → St} {m : α → Nat} {Inv : α → Prop} {ds : List (FuncId × List D)} {n : Nat} {e e' : Env} {σ σ' : St} (h2 : e = e') (h3 : σ = σ') : Round v g m Inv ds n e σ = Round v g m Inv ds n e' σ' := by subst h2; subst h3; rfl
theorem Round.go {α : Type} {v : α → List D} {g : α → St} {m : α → Nat} {Inv : α → Prop} {ds : List (FuncId × List D)} {n : Nat} {l : List D} {σ : St} (b : α) (hm : m b < n) (hi : Inv b) (hl : lessL (v b) l) (hσ : Drops σ (g b)) : Round v g m Inv ds n ⟨l, ds⟩ σ :=
  ⟨m b, hm, ⟨v b, ds⟩, g b, hl.less, hσ, b, rfl, hi, rfl, rfl⟩

/-- A loop: 'v' says what the slots hold in a round, 'm' falls. -/
theorem loop_go {P : Program} {α : Type} (v : α → List D) (g : α → St) (m : α → Nat) (Inv : α → Prop) (a₀ : α) {c : ICode} {Q : IExit → Env → St → Prop} {l : List D} {ds : List (FuncId × List D)} {σ : St}
    (h0 : Inv a₀) (hl : lessL (v a₀) l) (hσ : Drops σ (g a₀))
    (hstep : ∀ a, Inv a → iwp P c (thenI (Round v g m Inv ds (m a)) Q) ⟨v a, ds⟩ (g a)) : iwp P (.loop c) Q ⟨l, ds⟩ σ := by
  refine ⟨fun n e s => ∃ a, n = m a ∧ Inv a ∧ e = ⟨v a, ds⟩ ∧ s = g a, ⟨m a₀, ⟨⟨v a₀, ds⟩, g a₀, hl.less, hσ, a₀, rfl, h0, rfl, rfl⟩⟩, ?_⟩
  rintro n e s ⟨a, rfl, hi, rfl, rfl⟩
  exact hstep a hi

theorem wr64 (n : Int) (h : -9223372036854775808 ≤ n ∧ n ≤ 9223372036854775807) : IntKind.i64.wrap n = n := by rw [IntKind.wrap_i64]; omega

theorem wru64 (n : Int) (h : 0 ≤ n ∧ n ≤ 18446744073709551615) : IntKind.u64.wrap n = n := by
  have : IntKind.u64.wrap n = n % 18446744073709551616 := by simp [IntKind.wrap, IntKind.bits, IntKind.signed]
  rw [this]; omega
theorem wru8 (n : Int) (h : 0 ≤ n ∧ n ≤ 255) : IntKind.u8.wrap n = n := by
  have : IntKind.u8.wrap n = n % 256 := by simp [IntKind.wrap, IntKind.bits, IntKind.signed]
  rw [this]; omega

theorem sts_nil (ios : List IOper) (e : Env) (σ : St) : Stills ios [] e σ = True := rfl
def stillO (x : Option IOper) (e : Env) (σ : St) : Prop := match x with | some o => Still o e σ | none => True
theorem sts_cons (ios : List IOper) (j : Nat) (r : List Nat) (e : Env) (σ : St) : Stills ios (j :: r) e σ = (stillO ios[j]? e σ ∧ Stills ios r e σ) := rfl
theorem stillO_load (t : Nat) (n : Option Nat) (x : Opd) (e : Env) (σ : St) : stillO (some ⟨some t, .v (.load n x), none⟩) e σ = (iload n (x.ev e.tmps) σ = some (e.tmps.getD t .junk)) := rfl

def boxO (x : Option (List D)) : Option D := match x with | some cs => some (.box cs 0) | none => none
theorem boxO_some (cs : List D) : boxO (some cs) = some (.box cs 0) := rfl
theorem ix_map {α : Type} [Inhabited α] (f : α → D) (l : List α) (sz : Nat) (r : Room) (k : IntKind) (i : Int) (h : 0 ≤ i ∧ i < l.length) :
    idxAddrS sz (.slc sz (l.map f) r) (.int k i) = boxO (dcells (f (l.getD i.toNat default))) := by
  have h1 : i.toNat < l.length := by omega
  simp only [idxAddrS, h.1, and_self, if_true, List.getElem?_map, List.getElem?_eq_getElem h1, Option.map_some, Option.bind_some, List.getD_eq_getElem?_getD, Option.getD_some]
  cases dcells (f l[i.toNat]) <;> rfl

/-- How a run of signs goes on. -/
theorem tw_step {p : UInt8 → Bool} {s : List UInt8} {k : Nat} (h : k < s.length) : ((s.drop k).takeWhile p).length = if p (s.getD k 0) then ((s.drop (k + 1)).takeWhile p).length + 1 else 0 := by
  rw [List.drop_eq_getElem_cons h, List.takeWhile_cons]
  have : s.getD k 0 = s[k] := by simp [h]
  rw [this]
  split <;> simp
theorem tw_end {p : UInt8 → Bool} {s : List UInt8} {k : Nat} (h : s.length ≤ k) : ((s.drop k).takeWhile p).length = 0 := by
  rw [List.drop_eq_nil_of_le h]; rfl
theorem tw_le (p : UInt8 → Bool) (s : List UInt8) : (s.takeWhile p).length ≤ s.length := (List.takeWhile_sublist p).length_le

section
variable {P : Program}
theorem iwpX_mono {o : IXop} {dst : Option Nat} {next next' : Env → St → Prop} {Q Q' : IExit → Env → St → Prop} {e : Env} {σ : St} (hn : ∀ e σ, next e σ → next' e σ) (hq : ∀ x e σ, Q x e σ → Q' x e σ) (h : iwpX P o dst next Q e σ) : iwpX P o dst next' Q' e σ := by
  cases o <;> simp only [iwpX] at h ⊢
  · split at h <;> first | exact h.elim | exact hn _ _ h
  · split at h <;> (try exact h.elim)
    refine ⟨h.1, h.2.mono fun out s hh => ?_⟩
    cases out
    · exact hn _ _ hh
    · exact hq _ _ _ hh
  · split at h <;> first | exact h.elim | exact hq _ _ _ h
  · split at h <;> first | exact h.elim | exact hn _ _ h
theorem iwpG_mono {o : IOper} {next next' : Env → St → Prop} {Q Q' : IExit → Env → St → Prop} {e : Env} {σ : St} (hn : ∀ e σ, next e σ → next' e σ) (hq : ∀ x e σ, Q x e σ → Q' x e σ) (h : iwpG P o next Q e σ) : iwpG P o next' Q' e σ := by
  simp only [iwpG] at h ⊢
  split at h
  · exact iwpX_mono hn hq h
  · split at h <;> (try exact h.elim)
    exact ⟨fun hb => iwpX_mono hn hq (h.1 hb), fun hb => hn _ _ (h.2 hb)⟩
theorem iwpOps_mono : ∀ {os : List IOper} {next next' : Env → St → Prop} {Q Q' : IExit → Env → St → Prop} {e : Env} {σ : St}, (∀ e σ, next e σ → next' e σ) → (∀ x e σ, Q x e σ → Q' x e σ) → iwpOps P os next Q e σ → iwpOps P os next' Q' e σ
  | [], _, _, _, _, _, _, hn, _, h => hn _ _ h
  | o :: os, _, _, _, _, _, _, hn, hq, h => iwpG_mono (o := o) (fun _ _ h => iwpOps_mono hn hq h) hq h
theorem iwpPlan_mono {ios : List IOper} {alld : List Nat} : ∀ {pl : List (Nat × Option (List Nat))} {next next' : Env → St → Prop} {Q Q' : IExit → Env → St → Prop} {e : Env} {σ : St}, (∀ e σ, next e σ → next' e σ) → (∀ x e σ, Q x e σ → Q' x e σ) → iwpPlan P ios alld next Q pl e σ → iwpPlan P ios alld next' Q' pl e σ
  | [], _, _, _, _, _, _, hn, _, h => hn _ _ h
  | (i, none) :: pl, _, _, _, _, _, _, hn, hq, h => by
    simp only [iwpPlan] at h ⊢
    split at h <;> (try exact h.elim)
    exact iwpG_mono (fun _ _ h => iwpPlan_mono hn hq h) (fun _ _ _ h => h) h
  | (i, some must) :: pl, _, _, _, _, _, _, hn, hq, h => by
    simp only [iwpPlan] at h ⊢
    split at h <;> (try exact h.elim)
    exact iwpG_mono (fun _ _ h => ⟨h.1, iwpPlan_mono hn hq h.2⟩) (fun _ _ _ h => hq _ _ _ h) h
theorem Cut.mono {K K' : Env → St → Prop} (hk : ∀ e σ, K e σ → K' e σ) {e : Env} {σ : St} (h : Cut K e σ) : Cut K' e σ := by
  obtain ⟨e₀, σ₀, h1, h2, h3⟩ := h
  exact ⟨e₀, σ₀, h1, h2, hk _ _ h3⟩
theorem thenI_mono {K K' : Env → St → Prop} {Q Q' : IExit → Env → St → Prop} (hk : ∀ e σ, K e σ → K' e σ) (hq : ∀ x e σ, Q x e σ → Q' x e σ) (x : IExit) (e : Env) (σ : St) (h : thenI K Q x e σ) : thenI K' Q' x e σ := by
  cases x <;> simp only [thenI] at h ⊢ <;> first | exact hk _ _ h | exact hq _ _ _ h
theorem iwp_mono : ∀ (c : ICode) {Q Q' : IExit → Env → St → Prop} {e : Env} {σ : St}, (∀ x e σ, Q x e σ → Q' x e σ) → iwp P c Q e σ → iwp P c Q' e σ
  | .skip, _, _, _, _, hq, h => hq _ _ _ h
  | .region ios, _, _, _, _, hq, h => iwpOps_mono (fun _ _ h => hq _ _ _ h) hq h
  | .dregion ios alld pl, _, _, _, _, hq, h => ⟨h.1, iwpPlan_mono (fun _ _ h => hq _ _ _ h) hq h.2⟩
  | .seq a b, _, _, _, _, hq, h => iwp_mono a (thenI_mono (fun _ _ h => h.mono fun _ _ h => iwp_mono b hq h) hq) h
  | .cond c a b, _, _, _, _, hq, h => by
    simp only [iwp] at h ⊢
    split at h <;> (try exact h.elim)
    exact ⟨fun hb => iwp_mono a hq (h.1 hb), fun hb => iwp_mono b hq (h.2 hb)⟩
  | .block id c, _, _, _, _, hq, h => by
    simp only [iwp] at h ⊢
    refine iwp_mono c (fun x e σ h => ?_) h
    cases x <;> simp only [inBlockI] at h ⊢ <;> (try exact hq _ _ _ h)
    split at h
    · rename_i hh; rw [if_pos hh]; exact hq _ _ _ h
    · rename_i hh; rw [if_neg hh]; exact hq _ _ _ h
  | .loop c, _, _, _, _, hq, h => by
    obtain ⟨I, h1, h2⟩ := h
    exact ⟨I, h1, fun n e σ hi => iwp_mono c (thenI_mono (fun _ _ h => h) hq) (h2 n e σ hi)⟩
  | .exit id, _, _, _, _, hq, h => hq _ _ _ h
  | .ret, _, _, _, _, hq, h => hq _ _ _ h

/-- A place between two pieces of code where all ways come to the same. -/
@[irreducible] def Midway (v : List D) (ds : List (FuncId × List D)) (s : St) (e : Env) (σ : St) : Prop := Cut (fun e' σ' => e' = ⟨v, ds⟩ ∧ σ' = s) e σ
@[congr] theorem Midway.congr {v : List D} {ds : List (FuncId × List D)} {s : St} {e e' : Env} {σ σ' : St} (h2 : e = e') (h3 : σ = σ') : Midway v ds s e σ = Midway v ds s e' σ' := by subst h2; subst h3; rfl
theorem Midway.go {v l : List D} {ds : List (FuncId × List D)} {s σ : St} (h : lessL v l) (hd : Drops σ s) : Midway v ds s ⟨l, ds⟩ σ := by
  unfold Midway
  exact ⟨⟨v, ds⟩, s, h.less, hd, rfl, rfl⟩
/-- What is known between two pieces of code may be said once for all ways there. -/
theorem seq_mid (v : List D) (s : St) {A B : ICode} {Q : IExit → Env → St → Prop} {l : List D} {ds : List (FuncId × List D)} {σ : St} (h1 : iwp P A (thenI (Midway v ds s) Q) ⟨l, ds⟩ σ) (h2 : iwp P B Q ⟨v, ds⟩ s) : iwp P (.seq A B) Q ⟨l, ds⟩ σ := by
  refine iwp_mono A (thenI_mono (fun e σ h => ?_) fun _ _ _ h => h) h1
  unfold Midway at h
  exact h.mono fun e σ ⟨he, hs⟩ => by subst he; subst hs; exact h2
end

/-- A call of a function that gives one value, and changes nothing. -/
theorem pass {P : Program} {f : FuncId} {xs : List D} {σ : St} {d : D} {K : Out → St → Prop} (hg : goodFn P f = true) (h : Ok P f xs σ (fun o s => s = σ ∧ o = .ret d)) (hk : K (.ret d) σ) : goodFn P f = true ∧ Ok P f xs σ K :=
  ⟨hg, h.mono fun o s ⟨h1, h2⟩ => by subst h1; subst h2; exact hk⟩

end Go.Id
