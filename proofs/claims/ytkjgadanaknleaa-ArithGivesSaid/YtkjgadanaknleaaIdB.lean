/-
  THE IDEAL LAYER, PART B: what the steps of a world do to the relation.
-/
import Derived.Test.YtkjgadanaknleaaIdA
import Derived.Laws.IdiomCopy
import Derived.Laws.AppendOwn
namespace Go.Id
open Go.RowKit
set_option linter.unusedVariables false
set_option linter.unusedSimpArgs false

def St.alloc (σ : St) (o : Ob) : St := { obj := fun j => if j = σ.next then some o else σ.obj j, next := σ.next + 1 }
def St.put (σ : St) (j : Nat) (o : Option Ob) : St := { σ with obj := fun i => if i = j then o else σ.obj i }

theorem cell_push (w : World) (arr : Array Value) (T : TypeId) (fr : Nat × Nat) (b o : Nat) :
    ({ w with heap := w.heap.push (.cells arr T fr) } : World).cell? ⟨b, o, none⟩ = if b = w.heap.size then arr[o]? else w.cell? ⟨b, o, none⟩ := by
  simp only [World.cell?, Array.getElem?_push]
  by_cases h : b = w.heap.size
  · simp [h]
  · simp [h]
theorem frozen_push (w : World) (arr : Array Value) (T : TypeId) (fr : Nat × Nat) (b o : Nat) :
    ({ w with heap := w.heap.push (.cells arr T fr) } : World).frozen? ⟨b, o, none⟩ = if b = w.heap.size then decide (fr.1 ≤ o) && decide (o < fr.2) else w.frozen? ⟨b, o, none⟩ := by
  simp only [World.frozen?, Array.getElem?_push]
  by_cases h : b = w.heap.size
  · simp [h]
  · simp [h]

theorem below_push {B : Nat} {a w : World} (h : Below B a w) (hB : B ≤ w.heap.size) (o : Obj) : Below B a { w with heap := w.heap.push o } :=
  Below.alloc h hB o

theorem Sim.low {μ : Mu} {σ : St} {w : World} (h : Sim μ σ w) : μ.w0.heap.size ≤ w.heap.size := h.bel.size

/-- A draw turns nothing. -/
theorem Sim.drawn {μ : Mu} {σ : St} {w : World} (h : Sim μ σ w) (n : Nat) : Sim μ σ { w with drawn := n } :=
  ⟨h.imm, h.obj, h.tok, h.blk, h.nxt, ⟨h.bel.os, h.bel.tape, h.bel.output, h.bel.size, h.bel.block⟩⟩

/-- The places of a new block, given to nobody but as 'f' says. -/
def Mu.withBlock (μ : Mu) (b : Nat) (f : Nat → Own) : Mu := { μ with own := fun b' o => if b' = b then f o else μ.own b' o }

theorem Mu.le_withBlock {μ : Mu} {b : Nat} {f : Nat → Own} (h : ∀ o, μ.own b o = .none) : μ.le (μ.withBlock b f) := by
  refine ⟨fun b' o v e => ?_, fun _ _ h => h, fun _ _ h => h, rfl⟩
  simp only [Mu.withBlock]
  by_cases hb : b' = b
  · subst hb; rw [h] at e; cases e
  · simpa [hb] using e

def Mu.withLoc (μ : Mu) (j : Nat) (p : Nat × Nat) : Mu := { μ with loc := fun i => if i = j then some p else μ.loc i }
def Mu.withTl (μ : Mu) (j : Nat) (p : Nat × Nat × Nat) : Mu := { μ with tl := fun i => if i = j then some p else μ.tl i }

theorem Mu.le_withLoc {μ : Mu} {j : Nat} {p : Nat × Nat} (h : μ.loc j = none) : μ.le (μ.withLoc j p) := by
  refine ⟨fun _ _ _ e => e, fun i q e => ?_, fun _ _ h => h, rfl⟩
  simp only [Mu.withLoc]
  by_cases hb : i = j
  · subst hb; rw [h] at e; cases e
  · simpa [hb] using e
theorem Mu.le_withTl {μ : Mu} {j : Nat} {p : Nat × Nat × Nat} (h : μ.tl j = none) : μ.le (μ.withTl j p) := by
  refine ⟨fun _ _ _ e => e, fun _ _ h => h, fun i q e => ?_, rfl⟩
  simp only [Mu.withTl]
  by_cases hb : i = j
  · subst hb; rw [h] at e; cases e
  · simpa [hb] using e

def immOf (arr : Array Value) (o : Nat) : Own := match arr[o]? with | some v => .imm v | none => .none

/-- A new block that nobody will write. -/
theorem Sim.pushImm {μ : Mu} {σ : St} {w : World} (h : Sim μ σ w) (arr : Array Value) (T : TypeId) (fr : Nat × Nat) :
    ∃ μ' : Mu, μ.le μ' ∧ Sim μ' σ { w with heap := w.heap.push (.cells arr T fr) } ∧ ImmAt μ' w.heap.size 0 arr.toList := by
  have hle : μ.le (μ.withBlock w.heap.size (immOf arr)) := Mu.le_withBlock fun o => h.blk _ _ (Nat.le_refl _)
  refine ⟨_, hle, ⟨fun b o v e => ?_, fun j cs e => ?_, fun t e => ?_, fun b o hb => ?_, h.nxt, below_push h.bel h.low _⟩, fun i v e => ?_⟩
  · rw [cell_push]
    simp only [Mu.withBlock] at e
    by_cases hb : b = w.heap.size
    · simp only [hb, if_true, immOf] at e ⊢
      cases hx : arr[o]? with
      | none => simp [hx] at e
      | some u => simp [hx] at e; rw [e]
    · simp only [hb, if_false] at e ⊢
      exact h.imm _ _ _ e
  · obtain ⟨b, o, h1, h2, h3, h4⟩ := h.obj j cs e
    refine ⟨b, o, h1, h2, by simp; omega, fun i d hi => ?_⟩
    obtain ⟨g1, g2, v, g3, g4⟩ := h4 i d hi
    have hb : b ≠ w.heap.size := by omega
    exact ⟨by simpa [Mu.withBlock, hb] using g1, by rw [frozen_push]; simpa [hb] using g2, v, by rw [cell_push]; simpa [hb] using g3, g4.mono hle⟩
  · obtain ⟨b, e', k, h1, h2, h3, h4⟩ := h.tok t e
    refine ⟨b, e', k, h1, h2, by simp; omega, fun i hi => ?_⟩
    obtain ⟨g1, g2, v, g3⟩ := h4 i hi
    have hb : b ≠ w.heap.size := by omega
    exact ⟨by simpa [Mu.withBlock, hb] using g1, by rw [frozen_push]; simpa [hb] using g2, v, by rw [cell_push]; simpa [hb] using g3⟩
  · simp only [Array.size_push] at hb
    have hb' : b ≠ w.heap.size := by omega
    simpa [Mu.withBlock, hb'] using h.blk b o (by omega)
  · simp only [Mu.withBlock, if_true, Nat.zero_add, immOf]
    rw [Array.getElem?_toList] at e
    rw [e]

theorem CRl.get {μ : Mu} : ∀ {ds : List D} {vs : List Value}, CRl μ ds vs → ∀ {i : Nat} {d : D}, ds[i]? = some d → ∃ v, vs[i]? = some v ∧ CR μ d [v]
  | [], _, _, _, _, e => by simp at e
  | d :: ds, vs, h, i, x, e => by
    simp only [CRl] at h
    obtain ⟨v, ws, rfl, h2, h3⟩ := h
    cases i with
    | zero => simp at e; subst e; exact ⟨v, rfl, h2⟩
    | succ i => simpa using CRl.get h3 (i := i) (by simpa using e)

theorem CRl.length {μ : Mu} : ∀ {ds : List D} {vs : List Value}, CRl μ ds vs → vs.length = ds.length
  | [], _, h => by simp only [CRl] at h; simp [h]
  | d :: ds, vs, h => by
    simp only [CRl] at h
    obtain ⟨v, ws, rfl, h2, h3⟩ := h
    simp [CRl.length h3]

/-- A new variable. -/
theorem Sim.pushObj {μ : Mu} {σ : St} {w : World} (h : Sim μ σ w) (arr : Array Value) (T : TypeId) (cs : List D) (hc : CRl μ cs arr.toList) :
    ∃ μ' : Mu, μ.le μ' ∧ Sim μ' (σ.alloc (.cells cs)) { w with heap := w.heap.push (.cells arr T) } ∧ μ'.loc σ.next = some (w.heap.size, 0) := by
  have hn := h.nxt σ.next (Nat.le_refl _)
  have hle1 : μ.le (μ.withBlock w.heap.size fun o => if o < arr.size then .obj σ.next else .none) := Mu.le_withBlock fun o => h.blk _ _ (Nat.le_refl _)
  have hle : μ.le ((μ.withBlock w.heap.size fun o => if o < arr.size then .obj σ.next else .none).withLoc σ.next (w.heap.size, 0)) :=
    hle1.trans (Mu.le_withLoc hn.2.1)
  refine ⟨_, hle, ⟨fun b o v e => ?_, fun j cs' e => ?_, fun t e => ?_, fun b o hb => ?_, fun j hj => ?_, below_push h.bel h.low _⟩, by simp [Mu.withLoc]⟩
  · rw [cell_push]
    simp only [Mu.withBlock, Mu.withLoc] at e
    by_cases hb : b = w.heap.size
    · simp only [hb, if_true] at e
      split at e <;> cases e
    · simp only [hb, if_false] at e ⊢
      exact h.imm _ _ _ e
  · by_cases hj : j = σ.next
    · subst hj
      simp [St.alloc] at e
      subst e
      refine ⟨w.heap.size, 0, by simp [Mu.withLoc], h.low, by simp, fun i d hi => ?_⟩
      obtain ⟨v, hv, hr⟩ := hc.get hi
      have hlt : i < arr.size := by
        have := (List.getElem?_eq_some_iff.1 hv).1
        simpa using this
      refine ⟨by simp [Mu.withBlock, Mu.withLoc, hlt], by rw [frozen_push]; simp, v, ?_, hr.mono hle⟩
      rw [cell_push]
      simpa using hv
    · simp [St.alloc, hj] at e
      obtain ⟨b, o, h1, h2, h3, h4⟩ := h.obj j cs' e
      refine ⟨b, o, by simp [Mu.withBlock, Mu.withLoc, hj, h1], h2, by simp; omega, fun i d hi => ?_⟩
      obtain ⟨g1, g2, v, g3, g4⟩ := h4 i d hi
      have hb : b ≠ w.heap.size := by omega
      exact ⟨by simpa [Mu.withBlock, Mu.withLoc, hb] using g1, by rw [frozen_push]; simpa [hb] using g2, v, by rw [cell_push]; simpa [hb] using g3, g4.mono hle⟩
  · have ht : t ≠ σ.next := by
      intro ht; subst ht; simp [St.alloc] at e
    simp [St.alloc, ht] at e
    obtain ⟨b, e', k, h1, h2, h3, h4⟩ := h.tok t e
    refine ⟨b, e', k, h1, h2, by simp; omega, fun i hi => ?_⟩
    obtain ⟨g1, g2, v, g3⟩ := h4 i hi
    have hb : b ≠ w.heap.size := by omega
    exact ⟨by simpa [Mu.withBlock, Mu.withLoc, hb] using g1, by rw [frozen_push]; simpa [hb] using g2, v, by rw [cell_push]; simpa [hb] using g3⟩
  · simp only [Array.size_push] at hb
    have hb' : b ≠ w.heap.size := by omega
    simpa [Mu.withBlock, Mu.withLoc, hb'] using h.blk b o (by omega)
  · simp only [St.alloc] at hj ⊢
    have hj' : j ≠ σ.next := by omega
    have := h.nxt j (by omega)
    simpa [hj', Mu.withLoc, Mu.withBlock] using this

/-- A new row: what it holds nobody will write, and behind it there is room that one slice may take. -/
theorem Sim.pushRow {μ : Mu} {σ : St} {w : World} (h : Sim μ σ w) (arr rest : Array Value) (T : TypeId) :
    ∃ μ' : Mu, μ.le μ' ∧ Sim μ' (σ.alloc .tok) { w with heap := w.heap.push (.cells (arr ++ rest) T) } ∧ ImmAt μ' w.heap.size 0 arr.toList ∧
      μ'.tl σ.next = some (w.heap.size, arr.size, rest.size) := by
  have hn := h.nxt σ.next (Nat.le_refl _)
  have hle1 : μ.le (μ.withBlock w.heap.size fun o => if o < arr.size then immOf arr o else if o < arr.size + rest.size then .spare σ.next else .none) :=
    Mu.le_withBlock fun o => h.blk _ _ (Nat.le_refl _)
  have hle : μ.le ((μ.withBlock w.heap.size fun o => if o < arr.size then immOf arr o else if o < arr.size + rest.size then .spare σ.next else .none).withTl σ.next (w.heap.size, arr.size, rest.size)) :=
    hle1.trans (Mu.le_withTl hn.2.2)
  refine ⟨_, hle, ⟨fun b o v e => ?_, fun j cs' e => ?_, fun t e => ?_, fun b o hb => ?_, fun j hj => ?_, below_push h.bel h.low _⟩, fun i v e => ?_, by simp [Mu.withTl]⟩
  · rw [cell_push]
    simp only [Mu.withBlock, Mu.withTl] at e
    by_cases hb : b = w.heap.size
    · simp only [hb, if_true] at e ⊢
      split at e
      · rename_i ho
        simp only [immOf] at e
        rw [Array.getElem?_append_left ho]
        cases hx : arr[o]? with
        | none => simp [hx] at e
        | some u => simp [hx] at e; rw [e]
      · split at e <;> cases e
    · simp only [hb, if_false] at e ⊢
      exact h.imm _ _ _ e
  · have hj : j ≠ σ.next := by
      intro ht; subst ht; simp [St.alloc] at e
    simp [St.alloc, hj] at e
    obtain ⟨b, o, h1, h2, h3, h4⟩ := h.obj j cs' e
    refine ⟨b, o, h1, h2, by simp; omega, fun i d hi => ?_⟩
    obtain ⟨g1, g2, v, g3, g4⟩ := h4 i d hi
    have hb : b ≠ w.heap.size := by omega
    exact ⟨by simpa [Mu.withBlock, Mu.withTl, hb] using g1, by rw [frozen_push]; simpa [hb] using g2, v, by rw [cell_push]; simpa [hb] using g3, g4.mono hle⟩
  · by_cases ht : t = σ.next
    · subst ht
      refine ⟨w.heap.size, arr.size, rest.size, by simp [Mu.withTl], h.low, by simp, fun i hi => ?_⟩
      refine ⟨by simp [Mu.withBlock, Mu.withTl, hi]; intro hh; omega, by rw [frozen_push]; simp, rest[i], ?_⟩
      rw [cell_push]
      simp [hi]
    · simp [St.alloc, ht] at e
      obtain ⟨b, e', k, h1, h2, h3, h4⟩ := h.tok t e
      refine ⟨b, e', k, by simp [Mu.withBlock, Mu.withTl, ht, h1], h2, by simp; omega, fun i hi => ?_⟩
      obtain ⟨g1, g2, v, g3⟩ := h4 i hi
      have hb : b ≠ w.heap.size := by omega
      exact ⟨by simpa [Mu.withBlock, Mu.withTl, hb] using g1, by rw [frozen_push]; simpa [hb] using g2, v, by rw [cell_push]; simpa [hb] using g3⟩
  · simp only [Array.size_push] at hb
    have hb' : b ≠ w.heap.size := by omega
    simpa [Mu.withBlock, Mu.withTl, hb'] using h.blk b o (by omega)
  · simp only [St.alloc] at hj ⊢
    have hj' : j ≠ σ.next := by omega
    have := h.nxt j (by omega)
    simpa [hj', Mu.withTl, Mu.withBlock] using this
  · rw [Array.getElem?_toList] at e
    have hlt : i < arr.size := (Array.getElem?_eq_some_iff.1 e).1
    simp only [Mu.withBlock, Mu.withTl, if_true, Nat.zero_add, hlt, immOf, e]


theorem below_setCell {B : Nat} {a w : World} (h : Below B a w) {p : Addr} (hp : B ≤ p.block) (u : Value) : Below B a (w.setCell p u) := h.setCell hp u

theorem Sim.store1 {μ : Mu} {σ : St} {w : World} (h : Sim μ σ w) {j : Nat} {cs : List D} (hj : σ.obj j = some (.cells cs)) {b o : Nat} (hl : μ.loc j = some (b, o))
    {off : Nat} (hoff : off < cs.length) {d : D} {v : Value} (hd : CR μ d [v]) :
    Sim μ (σ.put j (some (.cells (cs.set off d)))) (w.setCell ⟨b, o + off, none⟩ v) ∧ (∃ u, w.cell? ⟨b, o + off, none⟩ = some u) ∧ w.frozen? ⟨b, o + off, none⟩ = false := by
  obtain ⟨b', o', h1, h2, h3, h4⟩ := h.obj j cs hj
  rw [hl] at h1
  simp only [Option.some.injEq, Prod.mk.injEq] at h1
  obtain ⟨rfl, rfl⟩ := h1
  obtain ⟨k1, k2, u, k3, k4⟩ := h4 off cs[off] (by simp [hoff])
  have hother : ∀ b' o' , μ.own b' o' ≠ .obj j → (w.setCell ⟨b, o + off, none⟩ v).cell? ⟨b', o', none⟩ = w.cell? ⟨b', o', none⟩ := by
    intro b' o' hne
    apply World.cell?_setCell_other
    intro he
    simp only [Addr.mk.injEq, and_true] at he
    obtain ⟨rfl, rfl⟩ := he
    exact hne k1
  refine ⟨⟨fun b' o' v' e => ?_, fun j' cs' e => ?_, fun t e => ?_, fun b' o' hb => ?_, fun i hi => ?_, below_setCell h.bel h2 v⟩, ⟨u, k3⟩, k2⟩
  · rw [hother _ _ (by rw [e]; simp)]
    exact h.imm _ _ _ e
  · by_cases hjj : j' = j
    · subst hjj
      simp [St.put] at e
      subst e
      refine ⟨b, o, hl, h2, by simpa [World.setCell] using h3, fun i x hi => ?_⟩
      rw [World.frozen?_setCell]
      by_cases hio : i = off
      · subst hio
        rw [List.getElem?_set_self hoff] at hi
        simp only [Option.some.injEq] at hi
        subst hi
        exact ⟨k1, k2, v, World.cell?_setCell_same _ _ _ k3, hd⟩
      · rw [List.getElem?_set_ne (fun hh => hio hh.symm)] at hi
        obtain ⟨g1, g2, v', g3, g4⟩ := h4 i x hi
        refine ⟨g1, g2, v', ?_, g4⟩
        rw [World.cell?_setCell_other]
        · exact g3
        · simp; omega
    · simp [St.put, hjj] at e
      obtain ⟨b', o', m1, m2, m3, m4⟩ := h.obj j' cs' e
      refine ⟨b', o', m1, m2, by simpa [World.setCell] using m3, fun i x hi => ?_⟩
      obtain ⟨g1, g2, v', g3, g4⟩ := m4 i x hi
      exact ⟨g1, by rw [World.frozen?_setCell]; exact g2, v', by rw [hother _ _ (by rw [g1]; simpa using hjj)]; exact g3, g4⟩
  · have ht : t ≠ j := by intro ht; subst ht; simp [St.put] at e
    simp [St.put, ht] at e
    obtain ⟨b', e', k, m1, m2, m3, m4⟩ := h.tok t e
    refine ⟨b', e', k, m1, m2, by simpa [World.setCell] using m3, fun i hi => ?_⟩
    obtain ⟨g1, g2, v', g3⟩ := m4 i hi
    exact ⟨g1, by rw [World.frozen?_setCell]; exact g2, v', by rw [hother _ _ (by rw [g1]; simp)]; exact g3⟩
  · simp only [World.setCell, Array.size_modify] at hb
    exact h.blk b' o' hb
  · have := h.nxt i hi
    have hij : i ≠ j := by intro hij; subst hij; rw [hj] at this; simp at this
    simpa [St.put, hij] using this

/-- Cells of an ideal variable, one behind the other. -/
def setAt : List D → Nat → List D → List D
  | cs, _, [] => cs
  | cs, off, d :: ds => setAt (cs.set off d) (off + 1) ds

theorem length_setAt : ∀ (ds cs : List D) (off : Nat), (setAt cs off ds).length = cs.length
  | [], _, _ => rfl
  | d :: ds, cs, off => by simp [setAt, length_setAt ds]

theorem St.put_put (σ : St) (j : Nat) (x y : Option Ob) : (σ.put j x).put j y = σ.put j y := by
  simp only [St.put, St.mk.injEq, and_true]
  funext i
  split <;> rfl

theorem St.put_self (σ : St) (j : Nat) (o : Option Ob) (h : σ.obj j = o) : σ.put j o = σ := by
  cases σ
  simp only [St.put, St.mk.injEq, and_true]
  funext i
  split
  · rename_i hi; subst hi; exact h.symm
  · rfl

theorem Sim.storeL {μ : Mu} : ∀ (ds : List D) (vs : List Value) (cs : List D) (off : Nat) {σ : St} {w : World}, Sim μ σ w → ∀ {j : Nat}, σ.obj j = some (.cells cs) →
    ∀ {b o : Nat}, μ.loc j = some (b, o) → off + ds.length ≤ cs.length → CRl μ ds vs →
    Sim μ (σ.put j (some (.cells (setAt cs off ds)))) (w.setCells b (o + off) vs) ∧
      (∀ i, i < vs.length → (w.cell? ⟨b, o + off + i, none⟩).isSome = true) ∧ (∀ i, i < vs.length → w.frozen? ⟨b, o + off + i, none⟩ = false)
  | [], vs, cs, off, σ, w, h, j, hj, b, o, hl, hlen, hr => by
    simp only [CRl] at hr
    subst hr
    refine ⟨?_, by simp, by simp⟩
    simp only [setAt, World.setCells]
    rwa [St.put_self _ _ _ hj]
  | d :: ds, vs, cs, off, σ, w, h, j, hj, b, o, hl, hlen, hr => by
    simp only [CRl] at hr
    obtain ⟨v, ws, rfl, h2, h3⟩ := hr
    simp only [List.length_cons] at hlen
    obtain ⟨s1, ⟨u, s2⟩, s3⟩ := h.store1 hj hl (off := off) (by omega) h2
    obtain ⟨r1, r2, r3⟩ := Sim.storeL ds ws (cs.set off d) (off + 1) s1 (j := j) (by simp [St.put]) hl (by simp; omega) h3
    rw [St.put_put] at r1
    refine ⟨by simpa only [setAt, World.setCells, Nat.add_assoc] using r1, fun i hi => ?_, fun i hi => ?_⟩
    · cases i with
      | zero => simp [s2]
      | succ i =>
        have := r2 i (by simpa using hi)
        rw [World.cell?_setCell_other _ _ _ _ (by simp; omega)] at this
        rwa [show o + off + (i + 1) = o + (off + 1) + i by omega]
    · cases i with
      | zero => simpa using s3
      | succ i =>
        have := r3 i (by simpa using hi)
        rw [World.frozen?_setCell] at this
        rwa [show o + off + (i + 1) = o + (off + 1) + i by omega]

theorem setCells_size (b : Nat) : ∀ (vs : List Value) (o : Nat) (w : World), (w.setCells b o vs).heap.size = w.heap.size
  | [], _, _ => rfl
  | v :: vs, o, w => by simp [World.setCells, setCells_size b vs, World.setCell]

theorem below_setCells {B b : Nat} {a : World} (hb : B ≤ b) : ∀ (vs : List Value) (o : Nat) (w : World), Below B a w → Below B a (w.setCells b o vs)
  | [], _, _, h => h
  | v :: vs, o, w, h => by
    simp only [World.setCells]
    exact below_setCells hb vs _ _ (h.setCell (p := ⟨b, o, none⟩) hb v)

/-- An append takes the room behind its slice. -/
theorem Sim.take {μ : Mu} {σ : St} {w : World} (h : Sim μ σ w) {t : Nat} (ht : σ.obj t = some .tok) {b e k : Nat} (hl : μ.tl t = some (b, e, k)) (vs : List Value) (hk : vs.length ≤ k) :
    (∃ μ' : Mu, μ.le μ' ∧ Sim μ' ((σ.put t none).alloc .tok) (w.setCells b e vs) ∧ ImmAt μ' b e vs ∧ μ'.tl σ.next = some (b, e + vs.length, k - vs.length)) ∧
      (∀ i, i < vs.length → (w.cell? ⟨b, e + i, none⟩).isSome = true) ∧ (∀ i, i < vs.length → w.frozen? ⟨b, e + i, none⟩ = false) := by
  obtain ⟨b', e', k', h1, h2, h3, h4⟩ := h.tok t ht
  rw [hl] at h1
  simp only [Option.some.injEq, Prod.mk.injEq] at h1
  obtain ⟨rfl, rfl, rfl⟩ := h1
  have hn := h.nxt σ.next (Nat.le_refl _)
  have htn : t ≠ σ.next := by intro hh; subst hh; rw [ht] at hn; simp at hn
  have hle1 : μ.le { μ with own := fun b' o => if b' = b ∧ e ≤ o ∧ o < e + k then (match vs[o - e]? with | some v => .imm v | none => .spare σ.next) else μ.own b' o } := by
    refine ⟨fun b' o v he => ?_, fun _ _ h => h, fun _ _ h => h, rfl⟩
    by_cases hc : b' = b ∧ e ≤ o ∧ o < e + k
    · obtain ⟨rfl, hc1, hc2⟩ := hc
      have := (h4 (o - e) (by omega)).1
      rw [show e + (o - e) = o by omega] at this
      rw [this] at he; cases he
    · simpa only [hc, if_false] using he
  have hsome : ∀ i, i < vs.length → (w.cell? ⟨b, e + i, none⟩).isSome = true := fun i hi => by
    obtain ⟨_, _, v, g3⟩ := h4 i (by omega)
    simp [g3]
  have hfr : ∀ i, i < vs.length → w.frozen? ⟨b, e + i, none⟩ = false := fun i hi => (h4 i (by omega)).2.1
  have hle : μ.le (({ μ with own := fun b' o => if b' = b ∧ e ≤ o ∧ o < e + k then (match vs[o - e]? with | some v => .imm v | none => .spare σ.next) else μ.own b' o } : Mu).withTl σ.next (b, e + vs.length, k - vs.length)) :=
    hle1.trans (Mu.le_withTl hn.2.2)
  have hout : ∀ b' o', (∀ i, i < k → ¬ (b' = b ∧ o' = e + i)) → (w.setCells b e vs).cell? ⟨b', o', none⟩ = w.cell? ⟨b', o', none⟩ := by
    intro b' o' hne
    apply World.cell?_setCells_out
    intro hb' _
    simp only at hb' ⊢
    by_cases hlt : o' < e
    · exact .inl hlt
    · refine .inr ?_
      have := hne (o' - e)
      by_cases hk' : o' - e < k
      · exact absurd ⟨hb', by omega⟩ (this hk')
      · omega
  refine ⟨⟨_, hle, ⟨fun b' o' v' he => ?_, fun j cs he => ?_, fun t' he => ?_, fun b' o' hb => ?_, fun i hi => ?_, below_setCells h2 vs e w h.bel⟩, fun i v he => ?_, by simp [Mu.withTl]⟩, hsome, hfr⟩
  · simp only [Mu.withTl] at he
    by_cases hc : b' = b ∧ e ≤ o' ∧ o' < e + k
    · simp only [hc, and_self, if_true] at he
      obtain ⟨rfl, hc1, hc2⟩ := hc
      cases hx : vs[o' - e]? with
      | none => simp [hx] at he
      | some u =>
        simp [hx] at he
        subst he
        obtain ⟨hlt, hx'⟩ := List.getElem?_eq_some_iff.1 hx
        have := World.cell?_setCells_in b' vs e w hsome (o' - e) hlt
        rw [show e + (o' - e) = o' by omega, hx'] at this
        exact this
    · simp only [hc, if_false] at he
      rw [hout]
      · exact h.imm _ _ _ he
      · intro i hi hh
        exact hc ⟨hh.1, by omega, by omega⟩
  · have hjn : j ≠ σ.next := by intro hh; subst hh; simp [St.alloc, St.put] at he
    simp only [St.alloc, St.put, hjn, if_false] at he
    have hjt : j ≠ t := by intro hh; subst hh; simp [St.put] at he
    simp [St.put, hjt] at he
    obtain ⟨b', o', m1, m2, m3, m4⟩ := h.obj j cs he
    refine ⟨b', o', m1, m2, by rw [setCells_size]; exact m3, fun i d hi => ?_⟩
    obtain ⟨g1, g2, v, g3, g4⟩ := m4 i d hi
    have hnot : ∀ n, n < k → ¬ (b' = b ∧ o' + i = e + n) := by
      intro n hn ⟨hb1, hb2⟩
      have := (h4 n hn).1
      rw [← hb1, ← hb2, g1] at this
      cases this
    refine ⟨?_, by rw [World.frozen?_setCells]; exact g2, v, by rw [hout _ _ hnot]; exact g3, g4.mono hle⟩
    simp only [Mu.withTl]
    rw [if_neg]
    · exact g1
    · rintro ⟨hb1, hb2, hb3⟩
      exact hnot (o' + i - e) (by omega) ⟨hb1, by omega⟩
  · by_cases htn' : t' = σ.next
    · subst htn'
      refine ⟨b, e + vs.length, k - vs.length, by simp [Mu.withTl], h2, by rw [setCells_size]; exact h3, fun i hi => ?_⟩
      obtain ⟨g1, g2, v, g3⟩ := h4 (vs.length + i) (by omega)
      refine ⟨?_, by rw [World.frozen?_setCells, Nat.add_assoc]; exact g2, v, ?_⟩
      · have hc : b = b ∧ e ≤ e + vs.length + i ∧ e + vs.length + i < e + k := ⟨rfl, by omega, by omega⟩
        simp only [Mu.withTl, hc, and_self, if_true]
        rw [List.getElem?_eq_none (by omega)]
      · rw [World.cell?_setCells_out, Nat.add_assoc]
        · exact g3
        · intro _ _
          simp only
          omega
    · simp only [St.alloc, St.put, htn', if_false] at he
      have htt : t' ≠ t := by intro hh; subst hh; simp [St.put] at he
      simp [St.put, htt] at he
      obtain ⟨b', e', k', m1, m2, m3, m4⟩ := h.tok t' he
      refine ⟨b', e', k', by simp [Mu.withTl, htn', m1], m2, by rw [setCells_size]; exact m3, fun i hi => ?_⟩
      obtain ⟨g1, g2, v, g3⟩ := m4 i hi
      have hnot : ∀ n, n < k → ¬ (b' = b ∧ e' + i = e + n) := by
        intro n hn ⟨hb1, hb2⟩
        have := (h4 n hn).1
        rw [← hb1, ← hb2, g1] at this
        simp only [Own.spare.injEq] at this
        exact htt this
      refine ⟨?_, by rw [World.frozen?_setCells]; exact g2, v, by rw [hout _ _ hnot]; exact g3⟩
      simp only [Mu.withTl]
      rw [if_neg]
      · exact g1
      · rintro ⟨hb1, hb2, hb3⟩
        exact hnot (e' + i - e) (by omega) ⟨hb1, by omega⟩
  · rw [setCells_size] at hb
    simp only [Mu.withTl]
    rw [if_neg]
    · exact h.blk b' o' hb
    · rintro ⟨hb1, _, _⟩
      omega
  · simp only [St.alloc, St.put] at hi ⊢
    have hin : i ≠ σ.next := by omega
    have := h.nxt i (by omega)
    have hit : i ≠ t := by intro hh; subst hh; rw [ht] at this; simp at this
    simp only [hin, hit, if_false, Mu.withTl]
    exact this
  · obtain ⟨hlt, hx⟩ := List.getElem?_eq_some_iff.1 he
    have hc : b = b ∧ e ≤ e + i ∧ e + i < e + k := ⟨rfl, by omega, by omega⟩
    simp only [Mu.withTl, hc, and_self, if_true]
    rw [show e + i - e = i by omega, he]


/-- A new row that may be written, and behind it room that only its slice may take. -/
theorem Sim.pushRowR {μ : Mu} {σ : St} {w : World} (h : Sim μ σ w) (arr rest : Array Value) (T : TypeId) (cs : List D) (hc : CRl μ cs arr.toList) :
    ∃ μ' : Mu, μ.le μ' ∧ Sim μ' ((σ.alloc (.cells cs)).alloc .tok) { w with heap := w.heap.push (.cells (arr ++ rest) T) } ∧ μ'.loc σ.next = some (w.heap.size, 0) ∧
      μ'.tl (σ.next + 1) = some (w.heap.size, arr.size, rest.size) := by
  have hn := h.nxt σ.next (Nat.le_refl _)
  have hn1 := h.nxt (σ.next + 1) (Nat.le_succ _)
  have hle1 : μ.le (μ.withBlock w.heap.size fun o => if o < arr.size then .obj σ.next else if o < arr.size + rest.size then .spare (σ.next + 1) else .none) :=
    Mu.le_withBlock fun o => h.blk _ _ (Nat.le_refl _)
  have hle2 := hle1.trans (Mu.le_withLoc (j := σ.next) (p := (w.heap.size, 0)) hn.2.1)
  have hle := hle2.trans (Mu.le_withTl (j := σ.next + 1) (p := (w.heap.size, arr.size, rest.size)) hn1.2.2)
  refine ⟨_, hle, ⟨fun b o v e => ?_, fun j cs' e => ?_, fun t e => ?_, fun b o hb => ?_, fun j hj => ?_, below_push h.bel h.low _⟩, by simp [Mu.withLoc, Mu.withTl], by simp [Mu.withTl]⟩
  · rw [cell_push]
    simp only [Mu.withBlock, Mu.withTl, Mu.withLoc] at e
    by_cases hb : b = w.heap.size
    · simp only [hb, if_true] at e
      split at e
      · cases e
      · split at e <;> cases e
    · simp only [hb, if_false] at e ⊢
      exact h.imm _ _ _ e
  · have hj1 : j ≠ σ.next + 1 := by
      intro ht; subst ht; simp [St.alloc] at e
    by_cases hj : j = σ.next
    · subst hj
      simp [St.alloc] at e
      subst e
      refine ⟨w.heap.size, 0, by simp [Mu.withLoc, Mu.withTl], h.low, by simp, fun i d hi => ?_⟩
      obtain ⟨v, hv, hr⟩ := hc.get hi
      have hlt : i < arr.size := by
        have := (List.getElem?_eq_some_iff.1 hv).1
        simpa using this
      refine ⟨by simp [Mu.withBlock, Mu.withLoc, Mu.withTl, hlt], by rw [frozen_push]; simp, v, ?_, hr.mono hle⟩
      rw [cell_push]
      simp only [if_true, Nat.zero_add]
      rw [Array.getElem?_append_left hlt]
      simpa using hv
    · simp [St.alloc, hj, hj1] at e
      obtain ⟨b, o, h1, h2, h3, h4⟩ := h.obj j cs' e
      refine ⟨b, o, by simp [Mu.withBlock, Mu.withLoc, Mu.withTl, hj, h1], h2, by simp; omega, fun i d hi => ?_⟩
      obtain ⟨g1, g2, v, g3, g4⟩ := h4 i d hi
      have hb : b ≠ w.heap.size := by omega
      exact ⟨by simpa [Mu.withBlock, Mu.withLoc, Mu.withTl, hb] using g1, by rw [frozen_push]; simpa [hb] using g2, v, by rw [cell_push]; simpa [hb] using g3, g4.mono hle⟩
  · by_cases ht : t = σ.next + 1
    · subst ht
      refine ⟨w.heap.size, arr.size, rest.size, by simp [Mu.withTl], h.low, by simp, fun i hi => ?_⟩
      refine ⟨by simp [Mu.withBlock, Mu.withTl, Mu.withLoc, hi], by rw [frozen_push]; simp, rest[i], ?_⟩
      rw [cell_push]
      simp [hi]
    · have ht0 : t ≠ σ.next := by
        intro hh; subst hh; simp [St.alloc] at e
      simp [St.alloc, ht, ht0] at e
      obtain ⟨b, e', k, h1, h2, h3, h4⟩ := h.tok t e
      refine ⟨b, e', k, by simp [Mu.withBlock, Mu.withTl, Mu.withLoc, ht, h1], h2, by simp; omega, fun i hi => ?_⟩
      obtain ⟨g1, g2, v, g3⟩ := h4 i hi
      have hb : b ≠ w.heap.size := by omega
      exact ⟨by simpa [Mu.withBlock, Mu.withTl, Mu.withLoc, hb] using g1, by rw [frozen_push]; simpa [hb] using g2, v, by rw [cell_push]; simpa [hb] using g3⟩
  · simp only [Array.size_push] at hb
    have hb' : b ≠ w.heap.size := by omega
    simpa [Mu.withBlock, Mu.withTl, Mu.withLoc, hb'] using h.blk b o (by omega)
  · simp only [St.alloc] at hj ⊢
    have hj' : j ≠ σ.next := by omega
    have hj1 : j ≠ σ.next + 1 := by omega
    have := h.nxt j (by omega)
    simpa [hj', hj1, Mu.withTl, Mu.withBlock, Mu.withLoc] using this

/-- What is forgotten. -/
theorem Sim.kill {μ : Mu} {σ : St} {w : World} (h : Sim μ σ w) (j : Nat) (hj : j < σ.next) : Sim μ (σ.put j none) w := by
  refine ⟨h.imm, fun i cs hi => ?_, fun t ht => ?_, h.blk, fun i hi => ?_, h.bel⟩
  · by_cases hij : i = j
    · subst hij; simp [St.put] at hi
    · exact h.obj i cs (by simpa [St.put, hij] using hi)
  · by_cases hij : t = j
    · subst hij; simp [St.put] at ht
    · exact h.tok t (by simpa [St.put, hij] using ht)
  · have := h.nxt i hi
    have hij : i ≠ j := by simp only [St.put] at hi; omega
    simpa [St.put, hij] using this

/-- An append takes the room behind a variable's row. -/
theorem Sim.takeR {μ : Mu} {σ : St} {w : World} (h : Sim μ σ w) {t j : Nat} (ht : σ.obj t = some .tok) {cs : List D} (hj : σ.obj j = some (.cells cs)) {b o e k : Nat} (hlj : μ.loc j = some (b, o)) (hl : μ.tl t = some (b, e, k)) (he : e = o + cs.length)
    (ds : List D) (vs : List Value) (hds : CRl μ ds vs) (hk : vs.length ≤ k) :
    (∃ μ' : Mu, μ.le μ' ∧ Sim μ' ((((σ.put j none).put t none).alloc (.cells (cs ++ ds))).alloc .tok) (w.setCells b e vs) ∧ μ'.loc σ.next = some (b, o) ∧ μ'.tl (σ.next + 1) = some (b, e + vs.length, k - vs.length)) ∧
      (∀ i, i < vs.length → (w.cell? ⟨b, e + i, none⟩).isSome = true) ∧ (∀ i, i < vs.length → w.frozen? ⟨b, e + i, none⟩ = false) := by
  obtain ⟨b', e', k', h1, h2, h3, h4⟩ := h.tok t ht
  rw [hl] at h1
  simp only [Option.some.injEq, Prod.mk.injEq] at h1
  obtain ⟨rfl, rfl, rfl⟩ := h1
  obtain ⟨b', o', m1, m2, m3, m4⟩ := h.obj j cs hj
  rw [hlj] at m1
  simp only [Option.some.injEq, Prod.mk.injEq] at m1
  obtain ⟨rfl, rfl⟩ := m1
  have hn := h.nxt σ.next (Nat.le_refl _)
  have hn1 := h.nxt (σ.next + 1) (Nat.le_succ _)
  have htn : t < σ.next := by
    rcases Nat.lt_or_ge t σ.next with hh | hh
    · exact hh
    · rw [(h.nxt t hh).1] at ht; cases ht
  have hjn : j < σ.next := by
    rcases Nat.lt_or_ge j σ.next with hh | hh
    · exact hh
    · rw [(h.nxt j hh).1] at hj; cases hj
  have hlen := hds.length
  -- who holds what now
  have hle1 : μ.le { μ with own := fun b' x => if b' = b ∧ o ≤ x ∧ x < e + vs.length then .obj σ.next else if b' = b ∧ e + vs.length ≤ x ∧ x < e + k then .spare (σ.next + 1) else μ.own b' x } := by
    refine ⟨fun b' x v hx => ?_, fun _ _ h => h, fun _ _ h => h, rfl⟩
    have hno : ∀ y, o ≤ y → y < e + k → ∀ v, μ.own b y ≠ .imm v := by
      intro y hy1 hy2 v hv
      by_cases hye : y < e
      · have := (m4 (y - o) (cs[y - o]'(by omega)) (List.getElem?_eq_getElem (by omega))).1
        rw [show o + (y - o) = y by omega, hv] at this
        cases this
      · have := (h4 (y - e) (by omega)).1
        rw [show e + (y - e) = y by omega, hv] at this
        cases this
    by_cases hc : b' = b ∧ o ≤ x ∧ x < e + vs.length
    · obtain ⟨rfl, c1, c2⟩ := hc
      exact absurd hx (hno x c1 (by omega) v)
    · by_cases hc' : b' = b ∧ e + vs.length ≤ x ∧ x < e + k
      · obtain ⟨rfl, c1, c2⟩ := hc'
        exact absurd hx (hno x (by omega) c2 v)
      · simpa only [hc, hc', if_false] using hx
  have hle2 := hle1.trans (Mu.le_withLoc (j := σ.next) (p := (b, o)) hn.2.1)
  have hle := hle2.trans (Mu.le_withTl (j := σ.next + 1) (p := (b, e + vs.length, k - vs.length)) hn1.2.2)
  have hsome : ∀ i, i < vs.length → (w.cell? ⟨b, e + i, none⟩).isSome = true := fun i hi => by
    obtain ⟨_, _, v, g3⟩ := h4 i (by omega)
    simp [g3]
  have hfr : ∀ i, i < vs.length → w.frozen? ⟨b, e + i, none⟩ = false := fun i hi => (h4 i (by omega)).2.1
  have hout : ∀ b' o', ¬ (b' = b ∧ e ≤ o' ∧ o' < e + vs.length) → (w.setCells b e vs).cell? ⟨b', o', none⟩ = w.cell? ⟨b', o', none⟩ := by
    intro b' o' hne
    apply World.cell?_setCells_out
    intro hb' _
    simp only at hb' ⊢
    by_cases hlt : o' < e
    · exact .inl hlt
    · exact .inr (Nat.le_of_not_lt fun hh => hne ⟨hb', by omega, hh⟩)
  -- a place that is neither the variable's nor its room
  have hfar : ∀ b' x, (∀ i, i < cs.length → ¬ (b' = b ∧ x = o + i)) → (∀ i, i < k → ¬ (b' = b ∧ x = e + i)) → ¬ (b' = b ∧ o ≤ x ∧ x < e + k) := by
    rintro b' x f1 f2 ⟨hb, c1, c2⟩
    by_cases hx : x < e
    · exact f1 (x - o) (by omega) ⟨hb, by omega⟩
    · exact f2 (x - e) (by omega) ⟨hb, by omega⟩
  refine ⟨⟨_, hle, ⟨fun b' o' v' hx => ?_, fun j' cs' hx => ?_, fun t' hx => ?_, fun b' o' hb => ?_, fun i hi => ?_, below_setCells h2 vs e w h.bel⟩, by simp [Mu.withLoc, Mu.withTl], by simp [Mu.withTl]⟩, hsome, hfr⟩
  · simp only [Mu.withTl, Mu.withLoc] at hx
    by_cases hc : b' = b ∧ o ≤ o' ∧ o' < e + vs.length
    · rw [if_pos hc] at hx; cases hx
    · by_cases hc' : b' = b ∧ e + vs.length ≤ o' ∧ o' < e + k
      · rw [if_neg hc, if_pos hc'] at hx; cases hx
      · rw [if_neg hc, if_neg hc'] at hx
        rw [hout]
        · exact h.imm _ _ _ hx
        · rintro ⟨c1, c2, c3⟩
          exact hc ⟨c1, by omega, c3⟩
  · have hj1 : j' ≠ σ.next + 1 := by intro hh; subst hh; simp [St.alloc, St.put] at hx
    by_cases hjn' : j' = σ.next
    · subst hjn'
      simp [St.alloc, St.put] at hx
      subst hx
      refine ⟨b, o, by simp [Mu.withLoc, Mu.withTl], h2, by rw [setCells_size]; exact h3, fun i d hi => ?_⟩
      rw [List.getElem?_append] at hi
      split at hi
      · rename_i hic
        obtain ⟨g1, g2, v, g3, g4⟩ := m4 i d hi
        refine ⟨by (simp only [Mu.withTl, Mu.withLoc]; exact if_pos ⟨by first | rfl | trivial, by omega, by omega⟩), by rw [World.frozen?_setCells]; exact g2, v, ?_, g4.mono hle⟩
        rw [hout]
        · exact g3
        · rintro ⟨_, c2, _⟩; omega
      · rename_i hic
        obtain ⟨v, hv, hr⟩ := hds.get hi
        have hlt := (List.getElem?_eq_some_iff.1 hv).1
        have hx : o + i = e + (i - cs.length) := by omega
        refine ⟨by (simp only [Mu.withTl, Mu.withLoc]; exact if_pos ⟨by first | rfl | trivial, by omega, by omega⟩), ?_, v, ?_, hr.mono hle⟩
        · rw [World.frozen?_setCells, hx]; exact hfr _ hlt
        · have := World.cell?_setCells_in b vs e w hsome (i - cs.length) hlt
          rw [hx, this, ← hv, List.getElem?_eq_getElem hlt]
    · simp only [St.alloc, St.put, hjn', hj1, if_false] at hx
      have hjj : j' ≠ j := by intro hh; subst hh; simp at hx
      have hjt : j' ≠ t := by intro hh; subst hh; simp at hx
      simp [hjj, hjt] at hx
      obtain ⟨b', o', q1, q2, q3, q4⟩ := h.obj j' cs' hx
      refine ⟨b', o', by simp [Mu.withLoc, Mu.withTl, hjn', q1], q2, by rw [setCells_size]; exact q3, fun i d hi => ?_⟩
      obtain ⟨g1, g2, v, g3, g4⟩ := q4 i d hi
      have hfarx := hfar b' (o' + i) (fun i' hi' ⟨c1, c2⟩ => by
          have := (m4 i' (cs[i']'hi') (List.getElem?_eq_getElem hi')).1
          rw [← c1, ← c2, g1] at this
          simp only [Own.obj.injEq] at this
          exact hjj this) (fun i' hi' ⟨c1, c2⟩ => by
          have := (h4 i' hi').1
          rw [← c1, ← c2, g1] at this
          cases this)
      refine ⟨?_, by rw [World.frozen?_setCells]; exact g2, v, ?_, g4.mono hle⟩
      · simp only [Mu.withTl, Mu.withLoc]
        rw [if_neg, if_neg]
        · exact g1
        · rintro ⟨c1, c2, c3⟩; exact hfarx ⟨c1, by omega, c3⟩
        · rintro ⟨c1, c2, c3⟩; exact hfarx ⟨c1, c2, by omega⟩
      · rw [hout]
        · exact g3
        · rintro ⟨c1, c2, c3⟩; exact hfarx ⟨c1, by omega, by omega⟩
  · have ht0 : t' ≠ σ.next := by intro hh; subst hh; simp [St.alloc, St.put] at hx
    by_cases htn' : t' = σ.next + 1
    · subst htn'
      refine ⟨b, e + vs.length, k - vs.length, by simp [Mu.withTl], h2, by rw [setCells_size]; exact h3, fun i hi => ?_⟩
      obtain ⟨g1, g2, v, g3⟩ := h4 (vs.length + i) (by omega)
      refine ⟨?_, by rw [World.frozen?_setCells, Nat.add_assoc]; exact g2, v, ?_⟩
      · simp only [Mu.withTl, Mu.withLoc]
        split
        · rename_i hh; exact absurd hh.2.2 (by omega)
        · split
          · rfl
          · rename_i hh; exact absurd ⟨by first | rfl | trivial, by omega, by omega⟩ hh
      · rw [hout, Nat.add_assoc]
        · exact g3
        · rintro ⟨_, _, c3⟩; omega
    · simp only [St.alloc, St.put, htn', ht0, if_false] at hx
      have hjj : t' ≠ j := by intro hh; subst hh; simp at hx
      have hjt : t' ≠ t := by intro hh; subst hh; simp at hx
      simp [hjj, hjt] at hx
      obtain ⟨b', e', k', q1, q2, q3, q4⟩ := h.tok t' hx
      refine ⟨b', e', k', by simp [Mu.withTl, Mu.withLoc, htn', q1], q2, by rw [setCells_size]; exact q3, fun i hi => ?_⟩
      obtain ⟨g1, g2, v, g3⟩ := q4 i hi
      have hfarx := hfar b' (e' + i) (fun i' hi' ⟨c1, c2⟩ => by
          have := (m4 i' (cs[i']'hi') (List.getElem?_eq_getElem hi')).1
          rw [← c1, ← c2, g1] at this
          cases this) (fun i' hi' ⟨c1, c2⟩ => by
          have := (h4 i' hi').1
          rw [← c1, ← c2, g1] at this
          simp only [Own.spare.injEq] at this
          exact hjt this)
      refine ⟨?_, by rw [World.frozen?_setCells]; exact g2, v, ?_⟩
      · simp only [Mu.withTl, Mu.withLoc]
        rw [if_neg, if_neg]
        · exact g1
        · rintro ⟨c1, c2, c3⟩; exact hfarx ⟨c1, by omega, c3⟩
        · rintro ⟨c1, c2, c3⟩; exact hfarx ⟨c1, c2, by omega⟩
      · rw [hout]
        · exact g3
        · rintro ⟨c1, c2, c3⟩; exact hfarx ⟨c1, by omega, by omega⟩
  · rw [setCells_size] at hb
    simp only [Mu.withTl, Mu.withLoc]
    rw [if_neg, if_neg]
    · exact h.blk b' o' hb
    · rintro ⟨c1, _⟩; omega
    · rintro ⟨c1, _⟩; omega
  · simp only [St.alloc, St.put] at hi ⊢
    have := h.nxt i (by omega)
    have c1 : i ≠ σ.next := by omega
    have c2 : i ≠ σ.next + 1 := by omega
    have c3 : i ≠ t := by omega
    have c4 : i ≠ j := by omega
    simp only [c1, c2, c3, c4, if_false, Mu.withTl, Mu.withLoc]
    exact this

/-! The equations, made here once for all texts behind. -/
example := @setAt.eq_1

end Go.Id
