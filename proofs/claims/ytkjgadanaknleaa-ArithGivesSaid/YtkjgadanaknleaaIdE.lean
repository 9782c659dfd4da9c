/-
  THE IDEAL LAYER, PART E: each operation of the model, run, against the ideal one.
-/
import Derived.Test.YtkjgadanaknleaaIdD
namespace Go.Id
open Go.RowKit
set_option linter.unusedVariables false
set_option linter.unusedSimpArgs false

/-- The computation ends with what the datum says, in a world that fits. -/
def Does (P : Program) (μ : Mu) (s : Sem Value) (w : World) (d : D) (σ : St) : Prop :=
  ∃ μ' v w', μ.le μ' ∧ Sim μ' σ w' ∧ VR μ' d v ∧ s.run P w = .ok v w'

/-- How a type lies in cells: none: one cell; else an aggregate of so many. -/
def aggN (P : Program) (t : TypeId) : Option (Option Nat) :=
  match P.underlying t with
  | some (.struct _) | some (.array _ _) => (P.info? t).map fun i => some i.size
  | some _ => some none
  | none => none

section
variable {P : Program} {μ : Mu} {σ : St} {w : World}

theorem Does.of (hs : Sim μ σ w) {s : Sem Value} {d : D} {v : Value} (hv : VR μ d v) (hr : s.run P w = .ok v w) : Does P μ s w d σ :=
  ⟨μ, v, w, Mu.le.refl μ, hs, hv, hr⟩

theorem run_isAgg_of {t : TypeId} {n : Option Nat} (h : aggN P t = some n) (w : World) : (isAgg t).run P w = .ok n.isSome w := by
  unfold aggN at h
  cases hu : P.underlying t with
  | none => simp [hu] at h
  | some d =>
    simp only [isAgg, Sem.run_bind, run_underlying hu, Result.andThen_ok]
    cases d <;> simp [hu] at h <;> first
      | (subst h; rfl)
      | (obtain ⟨i, _, rfl⟩ := h; rfl)

theorem run_sizeOf_of {t : TypeId} {n : Nat} (h : aggN P t = some (some n)) (w : World) : (sizeOf t).run P w = .ok n w := by
  unfold aggN at h
  cases hu : P.underlying t with
  | none => simp [hu] at h
  | some d =>
    cases d <;> simp [hu] at h <;> (obtain ⟨i, hi, rfl⟩ := h; simp [sizeOf, typeInfo, hi])

theorem run_sizeOf' {t : TypeId} {i : TypeInfo} (h : P.info? t = some i) (w : World) : (sizeOf t).run P w = .ok i.size w := by
  simp [sizeOf, typeInfo, h]

/-- Cells of the datum 'x' as places in the world. -/
theorem iload_sound (hs : Sim μ σ w) {t : TypeId} {n : Option Nat} (ht : aggN P t = some n) {x d : D} {v : Value} (hv : VR μ x v) (h : iload n x σ = some d) :
    ∃ u, (Instr.loadAt t v).run P w = .ok u w ∧ VR μ d u := by
  have key : ∀ (cs : List D) (b o off : Nat), cellsAt cs off n = some d → (∀ i x, cs[i]? = some x → ∃ v, w.cell? ⟨b, o + i, none⟩ = some v ∧ CR μ x [v]) →
      v = .pointer (some ⟨b, o + off, none⟩) → ∃ u, (Instr.loadAt t v).run P w = .ok u w ∧ VR μ d u := by
    intro cs b o off hc hf hv
    subst hv
    have := cellsAt_sound hc (fun i => w.cell? ⟨b, o + i, none⟩) hf
    cases n with
    | none =>
      obtain ⟨u, hu, hr⟩ := this
      refine ⟨u, ?_, hr⟩
      simp [Instr.loadAt, Instr.sureAddr, loadVar, run_isAgg_of ht, hu]
    | some n =>
      obtain ⟨vs, hl, hu, hr⟩ := this
      refine ⟨.agg ⟨vs⟩, ?_, hr⟩
      have hload := run_loadCells_list (P := P) w ⟨b, o + off, none⟩ vs (fun j v hj => by
        rw [addr_add, Nat.add_assoc]; exact hu j v hj)
      simp [Instr.loadAt, Instr.sureAddr, loadVar, run_isAgg_of ht, run_sizeOf_of ht, ← hl, hload]
  cases x <;> simp [iload] at h
  case box c off =>
    obtain ⟨b, o, rfl, hc⟩ := hv.box
    exact key c b o off h (fun i x hx => by
      obtain ⟨v, h1, h2⟩ := hc.get hx
      exact ⟨v, hs.imm _ _ _ h1, h2⟩) rfl
  case ref j off =>
    obtain ⟨b, o, hl, rfl⟩ := hv.ref
    split at h
    · rename_i cs hj
      obtain ⟨b', o', h1, _, _, h4⟩ := hs.obj j cs hj
      rw [hl] at h1
      simp only [Option.some.injEq, Prod.mk.injEq] at h1
      obtain ⟨rfl, rfl⟩ := h1
      exact key cs b o off h (fun i x hx => by
        obtain ⟨_, _, v, h1, h2⟩ := h4 i x hx
        exact ⟨v, h1, h2⟩) rfl
    · cases h

theorem istore_sound (hs : Sim μ σ w) {t : TypeId} {i : TypeInfo} (hi : P.info? t = some i) {a x : D} {va vx : Value} (ha : VR μ a va) (hx : VR μ x vx) {σ' : St}
    (h : istore i.size a x σ = some σ') : ∃ w', (Instr.storeAt t va vx).run P w = .ok () w' ∧ Sim μ σ' w' := by
  cases a <;> simp [istore] at h
  case ref j off =>
    obtain ⟨b, o, hl, rfl⟩ := ha.ref
    split at h
    · rename_i cs hj
      split at h
      · rename_i ds hd
        split at h
        · rename_i hc
          simp only [Option.some.injEq] at h
          subst h
          obtain ⟨g1, g2, g3, _⟩ := dcells_sound hx hd
          obtain ⟨s1, s2, s3⟩ := hs.storeL ds (vcells vx) cs off hj hl hc.2 g1
          refine ⟨_, ?_, s1⟩
          have hst := run_storeCells_cells (P := P) b (o + off) (vcells vx) 0 w (by simpa using s2) (by simpa using s3) (by simpa [List.all_eq_true] using g2)
          have hsz : vx.cells.size = i.size := by
            rw [← Array.length_toList, vcells_eq, g3, hc.1]
          simp only [Nat.add_zero] at hst
          simp [Instr.storeAt, Instr.sureAddr, storeVar, run_sizeOf' hi, hsz, vcells_eq, hst]
        · cases h
      · cases h
    · cases h

theorem alloc_sound (hs : Sim μ σ w) {t : TypeId} {i : TypeInfo} (hi : P.info? t = some i) {z : Value} (hz : i.zero = some z) :
    Does P μ (Instr.alloc t true (.tuple #[])) w (.ref σ.next 0) (σ.alloc (.cells ((vcells z).map ofS))) := by
  obtain ⟨μ', h1, h2, h3⟩ := hs.pushObj z.cells t ((vcells z).map ofS) (by rw [vcells_eq]; exact CRl.map_ofS _)
  refine ⟨μ', _, _, h1, h2, VR.mk_ref (off := 0) h3, ?_⟩
  simp [Instr.alloc, zeroValue, typeInfo, hi, hz, newVar, newRow]

theorem box_sound (hs : Sim μ σ w) (t : TypeId) {x : D} {v : Value} (hv : VR μ x v) {cs : List D} (hc : dcells x = some cs) :
    Does P μ (Instr.box t v) w (.ref σ.next 0) (σ.alloc (.cells cs)) := by
  obtain ⟨g1, _, _, _⟩ := dcells_sound hv hc
  obtain ⟨μ', h1, h2, h3⟩ := hs.pushObj v.cells t cs (by rw [vcells_eq]; exact g1)
  refine ⟨μ', _, _, h1, h2, VR.mk_ref (off := 0) h3, ?_⟩
  simp [Instr.box, newVar, newRow]

theorem boxV_sound (hs : Sim μ σ w) (t : TypeId) {x : D} {v : Value} (hv : VR μ x v) {cs : List D} (hc : dcells x = some cs) :
    Does P μ (Instr.box t v) w (.box cs 0) σ := by
  obtain ⟨g1, _, _, _⟩ := dcells_sound hv hc
  obtain ⟨μ', h1, h2, h3⟩ := hs.pushImm v.cells t (0, 0)
  have : CRat μ' cs w.heap.size 0 := CRat.of_l (CRl.mono h1 _ _ g1) (by rw [vcells_eq] at h3; exact h3)
  refine ⟨μ', _, _, h1, h2, VR.mk_box (off := 0) this, ?_⟩
  simp [Instr.box, newVar, newRow]

/-! Build: a composite literal. -/
theorem setInRow (off : Nat) : ∀ (vs : List Value) (j : Nat) (a : Array Value), off + j + vs.length ≤ a.size →
    ((vs.zipIdx j).foldl (fun cs (c, j) => cs.setIfInBounds (off + j) c) a).size = a.size ∧
    ∀ n, ((vs.zipIdx j).foldl (fun cs (c, j) => cs.setIfInBounds (off + j) c) a)[n]? = if off + j ≤ n ∧ n < off + j + vs.length then vs[n - (off + j)]? else a[n]?
  | [], j, a, h => by simp; intro n _ _; omega
  | v :: vs, j, a, h => by
    simp only [List.length_cons] at h
    simp only [List.zipIdx_cons, List.foldl_cons, List.length_cons]
    obtain ⟨h1, h2⟩ := setInRow off vs (j + 1) (a.setIfInBounds (off + j) v) (by simp; omega)
    refine ⟨by rw [h1]; simp, fun n => ?_⟩
    rw [h2, Array.getElem?_setIfInBounds]
    by_cases c1 : n = off + j
    · subst c1
      have g1 : ¬ (off + (j + 1) ≤ off + j ∧ off + j < off + (j + 1) + vs.length) := by omega
      have g2 : off + j ≤ off + j ∧ off + j < off + j + (vs.length + 1) := by omega
      have g3 : off + j < a.size := by omega
      rw [if_neg g1, if_pos g2]
      simp [g3]
    · have g0 : ¬ (off + j = n) := fun hh => c1 hh.symm
      rw [if_neg g0]
      by_cases c2 : off + (j + 1) ≤ n ∧ n < off + (j + 1) + vs.length
      · have g2 : off + j ≤ n ∧ n < off + j + (vs.length + 1) := by omega
        rw [if_pos c2, if_pos g2, show n - (off + j) = (n - (off + (j + 1))) + 1 by omega]
        simp
      · have g2 : ¬ (off + j ≤ n ∧ n < off + j + (vs.length + 1)) := by omega
        rw [if_neg c2, if_neg g2]

theorem setAt_get : ∀ (ds cs : List D) (off : Nat), off + ds.length ≤ cs.length → ∀ n, (setAt cs off ds)[n]? = if off ≤ n ∧ n < off + ds.length then ds[n - off]? else cs[n]?
  | [], cs, off, h, n => by simp [setAt]; intro _ _; omega
  | d :: ds, cs, off, h, n => by
    simp only [List.length_cons] at h
    simp only [setAt, List.length_cons]
    rw [setAt_get ds (cs.set off d) (off + 1) (by simp; omega), List.getElem?_set]
    by_cases c1 : n = off
    · subst c1
      have g1 : ¬ (n + 1 ≤ n ∧ n < n + 1 + ds.length) := by omega
      have g2 : n ≤ n ∧ n < n + (ds.length + 1) := by omega
      have g3 : n < cs.length := by omega
      rw [if_neg g1, if_pos g2]
      simp [g3]
    · have g0 : ¬ (off = n) := fun hh => c1 hh.symm
      rw [if_neg g0]
      by_cases c2 : off + 1 ≤ n ∧ n < off + 1 + ds.length
      · have g2 : off ≤ n ∧ n < off + (ds.length + 1) := by omega
        rw [if_pos c2, if_pos g2, show n - off = (n - (off + 1)) + 1 by omega]
        simp
      · have g2 : ¬ (off ≤ n ∧ n < off + (ds.length + 1)) := by omega
        rw [if_neg c2, if_neg g2]

theorem CRl.of_get {μ : Mu} : ∀ {ds : List D} {vs : List Value}, vs.length = ds.length → (∀ (i : Nat) (d : D) (v : Value), ds[i]? = some d → vs[i]? = some v → CR μ d [v]) → CRl μ ds vs
  | [], vs, h, _ => by simp only [CRl]; exact List.eq_nil_of_length_eq_zero (by simpa using h)
  | d :: ds, [], h, _ => by simp at h
  | d :: ds, v :: vs, h, g => by
    simp only [CRl]
    exact ⟨v, vs, rfl, g 0 d v rfl rfl, CRl.of_get (by simpa using h) (fun i x u hx hu => g (i + 1) x u (by simpa using hx) (by simpa using hu))⟩

theorem CRl.at {μ : Mu} {ds : List D} {vs : List Value} (h : CRl μ ds vs) {i : Nat} {d : D} {v : Value} (hd : ds[i]? = some d) (hv : vs[i]? = some v) : CR μ d [v] := by
  obtain ⟨u, hu, hr⟩ := h.get hd
  rw [hv] at hu
  simp only [Option.some.injEq] at hu
  rwa [hu]

theorem CRl.append {μ : Mu} : ∀ {ds es : List D} {vs ws : List Value}, CRl μ ds vs → CRl μ es ws → CRl μ (ds ++ es) (vs ++ ws)
  | [], es, vs, ws, h, h' => by simp only [CRl] at h; subst h; simpa using h'
  | d :: ds, es, vs, ws, h, h' => by
    simp only [CRl] at h
    obtain ⟨v, us, rfl, h2, h3⟩ := h
    simp only [List.cons_append, CRl]
    exact ⟨v, us ++ ws, rfl, h2, CRl.append h3 h'⟩
theorem CRl.take {μ : Mu} : ∀ {ds : List D} {vs : List Value} (n : Nat), CRl μ ds vs → CRl μ (ds.take n) (vs.take n)
  | _, _, 0, _ => by simp [CRl]
  | [], _, n + 1, h => by simp only [CRl] at h; subst h; simp [CRl]
  | d :: ds, vs, n + 1, h => by
    simp only [CRl] at h
    obtain ⟨v, us, rfl, h2, h3⟩ := h
    simp only [List.take_succ_cons, CRl]
    exact ⟨v, us.take n, rfl, h2, h3.take n⟩
theorem CRl.drop {μ : Mu} : ∀ {ds : List D} {vs : List Value} (n : Nat), CRl μ ds vs → CRl μ (ds.drop n) (vs.drop n)
  | _, _, 0, h => by simpa using h
  | [], _, n + 1, h => by simp only [CRl] at h; subst h; simp [CRl]
  | d :: ds, vs, n + 1, h => by
    simp only [CRl] at h
    obtain ⟨v, us, rfl, h2, h3⟩ := h
    simpa using h3.drop n

/-- The places of a literal's parts. -/
def placed (place : Nat → Option (Nat × Nat)) : List (Nat × Operand) → Option (List (Nat × Nat × Opd))
  | [] => some []
  | (i, x) :: rest => match place i, ropd x, placed place rest with
    | some (off, size), some o, some r => some ((off, size, o) :: r)
    | _, _, _ => none

theorem fill_sound {e : List D} {a : Act} (he : ER μ e a) (place : Nat → Option (Nat × Nat)) : ∀ (parts : List (Nat × Operand)) (ps : List (Nat × Nat × Opd)) (zero cs : List D) (arr : Array Value),
    placed place parts = some ps → CRl μ zero arr.toList → ibuild zero (ps.map fun p => (p.1, p.2.1, p.2.2.ev e)) = some cs →
    ∃ arr', Instr.fill place arr (parts.map fun p => (p.1, a.eval p.2)) = some arr' ∧ CRl μ cs arr'.toList
  | [], ps, zero, cs, arr, hp, hz, hb => by
    simp only [placed, Option.some.injEq] at hp
    subst hp
    simp only [List.map_nil, ibuild, Option.some.injEq] at hb
    subst hb
    exact ⟨arr, rfl, hz⟩
  | (i, x) :: rest, ps, zero, cs, arr, hp, hz, hb => by
    simp only [placed] at hp
    split at hp
    · rename_i off size o r h1 h2 h3
      simp only [Option.some.injEq] at hp
      subst hp
      simp only [List.map_cons, ibuild] at hb
      split at hb
      · rename_i ds hd
        split at hb
        · rename_i hc
          obtain ⟨g1, g2, g3, _⟩ := dcells_sound (ropd_sound he h2) hd
          have hl := hz.length
          simp only [Array.length_toList] at hl
          have hsz : (a.eval x).cells.size = ds.length := by rw [← Array.length_toList, vcells_eq, g3]
          obtain ⟨q1, q2⟩ := setInRow off (a.eval x).cells.toList 0 arr (by rw [vcells_eq, g3]; omega)
          simp only [Nat.add_zero, vcells_eq, g3] at q1 q2
          obtain ⟨arr', k1, k2⟩ := fill_sound he place rest r (setAt zero off ds) cs _ h3 (by
            refine CRl.of_get ?_ ?_
            · rw [Array.length_toList, q1, length_setAt]; exact hl
            · intro i d v hd' hv
              rw [Array.getElem?_toList, q2] at hv
              rw [setAt_get _ _ _ hc.2] at hd'
              split at hv
              · rename_i hcc
                rw [if_pos hcc] at hd'
                exact g1.at hd' hv
              · rename_i hcc
                rw [if_neg hcc] at hd'
                exact hz.at hd' (by rw [Array.getElem?_toList]; exact hv)) hb
          refine ⟨arr', ?_, k2⟩
          simp only [List.map_cons, Instr.fill, h1]
          rw [if_neg (by rw [hsz]; simp; omega)]
          rw [← k1]
          congr 1
          rw [← Array.foldl_toList, Array.toList_zipIdx, vcells_eq]
        · cases hb
      · cases hb
    · cases hp

theorem run_mapM_sizes (fs : List Field) (ss : List Nat) (h : fs.mapM (fun f => (P.info? f.type).map (·.size)) = some ss) (w : World) (acc : Array (Nat × Nat)) :
    (fs.foldlM (fun (ys : Array (Nat × Nat)) (f : Field) => do pure (ys.push (← (do pure (f.offset, ← sizeOf f.type) : Sem (Nat × Nat))))) acc).run P w = .ok (acc ++ ((fs.zip ss).map fun (p : Field × Nat) => (p.1.offset, p.2)).toArray) w := by
  induction fs generalizing ss acc with
  | nil => simp
  | cons f fs ih =>
    simp only [List.mapM_cons, Option.bind_eq_bind, Option.bind_eq_some_iff, Option.map_eq_some_iff] at h
    obtain ⟨n, ⟨i, hi, rfl⟩, ss', h2, h3⟩ := h
    simp only [Option.pure_def, Option.some.injEq] at h3
    subst h3
    simp only [List.foldlM_cons, Sem.run_bind, run_sizeOf' hi, Result.andThen_ok, Sem.run_pure]
    rw [ih ss' h2]
    congr 1
    apply Array.ext'
    simp

end
end Go.Id
