/-
  THE IDEAL LAYER, PART A: data by value, their relation to the model's values, and the relation of an ideal store to a world.
-/
import Derived.Calls
import Derived.Defers
import Derived.Recover
import Derived.Orders
import Derived.Below
import Derived.Laws.IdiomCopy
import Derived.Laws.AppendOwn
import Derived.Lib.Strings
import Derived.Laws.Strings
import Derived.Lib.Builder
import Derived.Lib.UnsafeStr
namespace Go.Id
open Go.RowKit
set_option linter.unusedVariables false

/-- What lies behind a slice's end: nothing (an append copies); something that may not be written; room that only this slice may take. -/
inductive Room where
  | exact
  | closed
  | opened (t : Nat)
  deriving DecidableEq, Inhabited

/-- A value by its contents. -/
inductive D where
  | junk
  | bool (b : Bool)
  | int (k : IntKind) (n : Int)
  | str (s : List UInt8)
  | nilp
  | box (c : List D) (off : Nat)
  | ref (j off : Nat)
  | nils
  | slc (sz : Nat) (es : List D) (r : Room)
  | rslc (j off sz len : Nat) (r : Room)
  | agg (cs : List D)
  | tuple (vs : List D)
  | nili
  | iface (t : TypeId) (v : D)
  | nilf
  | func (fn : Fn) (first captured : List D)
  | nilm
  | map (j : Nat)
  | opq (v : Value)
  deriving Inhabited

/-- Who holds a cell. -/
inductive Own where
  | none
  | imm (v : Value)
  | obj (j : Nat)
  | spare (t : Nat)
  deriving Inhabited

/-- Where the ideal things lie. -/
structure Mu where
  own : Nat → Nat → Own
  loc : Nat → Option (Nat × Nat)
  tl : Nat → Option (Nat × Nat × Nat)
  w0 : World

structure Mu.le (μ ν : Mu) : Prop where
  imm : ∀ b o v, μ.own b o = .imm v → ν.own b o = .imm v
  loc : ∀ j p, μ.loc j = some p → ν.loc j = some p
  tl : ∀ j p, μ.tl j = some p → ν.tl j = some p
  w0 : ν.w0 = μ.w0

theorem Mu.le.refl (μ : Mu) : μ.le μ := ⟨fun _ _ _ h => h, fun _ _ h => h, fun _ _ h => h, rfl⟩
theorem Mu.le.trans {μ ν κ : Mu} (h : μ.le ν) (h' : ν.le κ) : μ.le κ :=
  ⟨fun b o v e => h'.imm _ _ _ (h.imm _ _ _ e), fun j p e => h'.loc _ _ (h.loc _ _ e), fun j p e => h'.tl _ _ (h.tl _ _ e), h'.w0.trans h.w0⟩

def vcells (v : Value) : List Value := match v with | .agg cs => cs.toList | v => [v]
theorem vcells_eq (v : Value) : v.cells.toList = vcells v := by cases v <;> rfl

/-- The value is an aggregate just where the datum is one. -/
def okAgg : D → Value → Bool
  | .junk, _ => true
  | .agg _, .agg _ => true
  | .agg _, _ => false
  | _, .agg _ => false
  | _, _ => true

def ImmAt (μ : Mu) (b o : Nat) (vs : List Value) : Prop := ∀ i v, vs[i]? = some v → μ.own b (o + i) = .imm v

/-- What the room says of the slice's capacity; 'e': where the slice ends. -/
def RoomR (μ : Mu) (r : Room) (b e n cap sz : Nat) : Prop :=
  match r with
  | .exact => cap = n
  | .closed => n ≤ cap
  | .opened t => ∃ k, cap = n + k ∧ (k ≠ 0 → μ.tl t = some (b, e, k * sz)) ∧ cap ≤ maxLen

mutual
/-- The cells 'vs' are the datum's. -/
def CR (μ : Mu) : D → List Value → Prop
  | .junk, _ => True
  | .bool b, vs => vs = [.bool b]
  | .int k n, vs => vs = [.int k n]
  | .str s, vs => vs = [.string ⟨s.toArray⟩]
  | .nilp, vs => vs = [.pointer none]
  | .box c off, vs => ∃ b o, vs = [.pointer (some ⟨b, o + off, none⟩)] ∧ CRat μ c b o
  | .ref j off, vs => ∃ b o, μ.loc j = some (b, o) ∧ vs = [.pointer (some ⟨b, o + off, none⟩)]
  | .nils, vs => vs = [.slice none 0 0]
  | .slc sz es r, vs => ∃ b o cap, vs = [.slice (some ⟨b, o, none⟩) es.length cap] ∧ CRes μ sz es b o ∧ RoomR μ r b (o + es.length * sz) es.length cap sz
  | .rslc j off sz len r, vs => ∃ b o cap, μ.loc j = some (b, o) ∧ vs = [.slice (some ⟨b, o + off, none⟩) len cap] ∧ RoomR μ r b (o + off + len * sz) len cap sz
  | .agg cs, vs => CRl μ cs vs
  | .tuple ds, vs => ∃ ws, vs = [.tuple ⟨ws⟩] ∧ CRt μ ds ws
  | .nili, vs => vs = [.nilIface]
  | .iface t d, vs => ∃ w, vs = [.iface t w] ∧ okAgg d w = true ∧ CR μ d (vcells w)
  | .nilf, vs => vs = [.nilFunc]
  | .func fn first captured, vs => ∃ fs cs, vs = [.func fn ⟨fs⟩ ⟨cs⟩] ∧ CRt μ first fs ∧ CRt μ captured cs
  | .nilm, vs => vs = [.map none]
  | .map j, vs => ∃ b o, μ.loc j = some (b, o) ∧ vs = [.map (some b)]
  | .opq v, vs => vs = [v] ∧ v.oneCell' = true
/-- The cells of a variable in memory that nobody writes any more. -/
def CRat (μ : Mu) : List D → Nat → Nat → Prop
  | [], _, _ => True
  | d :: ds, b, o => (∃ v, μ.own b o = .imm v ∧ CR μ d [v]) ∧ CRat μ ds b (o + 1)
/-- A row of elements of 'sz' cells each in such memory. -/
def CRes (μ : Mu) (sz : Nat) : List D → Nat → Nat → Prop
  | [], _, _ => True
  | e :: es, b, o => (∃ vs, vs.length = sz ∧ vs.all Value.oneCell' = true ∧ ImmAt μ b o vs ∧ CR μ e vs) ∧ CRes μ sz es b (o + sz)
def CRl (μ : Mu) : List D → List Value → Prop
  | [], vs => vs = []
  | d :: ds, vs => ∃ v ws, vs = v :: ws ∧ CR μ d [v] ∧ CRl μ ds ws
def CRt (μ : Mu) : List D → List Value → Prop
  | [], vs => vs = []
  | d :: ds, vs => ∃ v ws, vs = v :: ws ∧ okAgg d v = true ∧ CR μ d (vcells v) ∧ CRt μ ds ws
end

/-- A value is what the datum says. -/
def VR (μ : Mu) (d : D) (v : Value) : Prop := okAgg d v = true ∧ CR μ d (vcells v)

theorem ImmAt.mono {μ ν : Mu} (h : μ.le ν) {b o : Nat} {vs : List Value} (hi : ImmAt μ b o vs) : ImmAt ν b o vs :=
  fun i v e => h.imm _ _ _ (hi i v e)

theorem RoomR.mono {μ ν : Mu} (h : μ.le ν) {r : Room} {b e n cap sz : Nat} (hr : RoomR μ r b e n cap sz) : RoomR ν r b e n cap sz := by
  cases r with
  | exact => exact hr
  | closed => exact hr
  | opened t => obtain ⟨k, h1, h2, h3⟩ := hr; exact ⟨k, h1, fun hk => h.tl _ _ (h2 hk), h3⟩

mutual
theorem CR.mono {μ ν : Mu} (h : μ.le ν) : ∀ (d : D) (vs : List Value), CR μ d vs → CR ν d vs
  | .junk, _, _ => trivial
  | .bool _, _, e => by simpa only [CR] using e
  | .int _ _, _, e => by simpa only [CR] using e
  | .str _, _, e => by simpa only [CR] using e
  | .nilp, _, e => by simpa only [CR] using e
  | .box c off, vs, e => by
    simp only [CR] at e ⊢
    obtain ⟨b, o, h1, h2⟩ := e
    exact ⟨b, o, h1, CRat.mono h c b o h2⟩
  | .ref j off, vs, e => by
    simp only [CR] at e ⊢
    obtain ⟨b, o, h1, h2⟩ := e
    exact ⟨b, o, h.loc _ _ h1, h2⟩
  | .nils, _, e => by simpa only [CR] using e
  | .slc sz es r, vs, e => by
    simp only [CR] at e ⊢
    obtain ⟨b, o, cap, h1, h2, h3⟩ := e
    exact ⟨b, o, cap, h1, CRes.mono h sz es b o h2, h3.mono h⟩
  | .rslc j off sz len r, vs, e => by
    simp only [CR] at e ⊢
    obtain ⟨b, o, cap, h1, h2, h3⟩ := e
    exact ⟨b, o, cap, h.loc _ _ h1, h2, h3.mono h⟩
  | .agg cs, vs, e => by
    simp only [CR] at e ⊢
    exact CRl.mono h cs vs e
  | .tuple ds, vs, e => by
    simp only [CR] at e ⊢
    obtain ⟨ws, h1, h2⟩ := e
    exact ⟨ws, h1, CRt.mono h ds ws h2⟩
  | .nili, _, e => by simpa only [CR] using e
  | .iface t d, vs, e => by
    simp only [CR] at e ⊢
    obtain ⟨w, h1, h2, h3⟩ := e
    exact ⟨w, h1, h2, CR.mono h d _ h3⟩
  | .nilf, _, e => by simpa only [CR] using e
  | .func fn first captured, vs, e => by
    simp only [CR] at e ⊢
    obtain ⟨fs, cs, h1, h2, h3⟩ := e
    exact ⟨fs, cs, h1, CRt.mono h first fs h2, CRt.mono h captured cs h3⟩
  | .nilm, _, e => by simpa only [CR] using e
  | .opq _, _, e => by simpa only [CR] using e
  | .map j, vs, e => by
    simp only [CR] at e ⊢
    obtain ⟨b, o, h1, h2⟩ := e
    exact ⟨b, o, h.loc _ _ h1, h2⟩
theorem CRat.mono {μ ν : Mu} (h : μ.le ν) : ∀ (ds : List D) (b o : Nat), CRat μ ds b o → CRat ν ds b o
  | [], _, _, _ => by simp only [CRat]
  | d :: ds, b, o, e => by
    simp only [CRat] at e ⊢
    obtain ⟨⟨v, h1, h2⟩, h3⟩ := e
    exact ⟨⟨v, h.imm _ _ _ h1, CR.mono h d _ h2⟩, CRat.mono h ds b (o + 1) h3⟩
theorem CRes.mono {μ ν : Mu} (h : μ.le ν) (sz : Nat) : ∀ (es : List D) (b o : Nat), CRes μ sz es b o → CRes ν sz es b o
  | [], _, _, _ => by simp only [CRes]
  | e :: es, b, o, x => by
    simp only [CRes] at x ⊢
    obtain ⟨⟨vs, h0, hc, h1, h2⟩, h3⟩ := x
    exact ⟨⟨vs, h0, hc, h1.mono h, CR.mono h e vs h2⟩, CRes.mono h sz es b (o + sz) h3⟩
theorem CRl.mono {μ ν : Mu} (h : μ.le ν) : ∀ (ds : List D) (vs : List Value), CRl μ ds vs → CRl ν ds vs
  | [], _, e => by simpa only [CRl] using e
  | d :: ds, vs, e => by
    simp only [CRl] at e ⊢
    obtain ⟨v, ws, h1, h2, h3⟩ := e
    exact ⟨v, ws, h1, CR.mono h d _ h2, CRl.mono h ds ws h3⟩
theorem CRt.mono {μ ν : Mu} (h : μ.le ν) : ∀ (ds : List D) (vs : List Value), CRt μ ds vs → CRt ν ds vs
  | [], _, e => by simpa only [CRt] using e
  | d :: ds, vs, e => by
    simp only [CRt] at e ⊢
    obtain ⟨v, ws, h1, h0, h2, h3⟩ := e
    exact ⟨v, ws, h1, h0, CR.mono h d _ h2, CRt.mono h ds ws h3⟩
end

theorem VR.mono {μ ν : Mu} (h : μ.le ν) {d : D} {v : Value} (e : VR μ d v) : VR ν d v := ⟨e.1, CR.mono h _ _ e.2⟩

/-- Things of the ideal store. -/
inductive Ob where
  | cells (cs : List D)
  | tok
  | ty (j : Nat) (T : TypeId) (n : Option Nat)

structure St where
  obj : Nat → Option Ob
  next : Nat

structure Sim (μ : Mu) (σ : St) (w : World) : Prop where
  imm : ∀ b o v, μ.own b o = .imm v → w.cell? ⟨b, o, none⟩ = some v
  obj : ∀ j cs, σ.obj j = some (.cells cs) → ∃ b o, μ.loc j = some (b, o) ∧ μ.w0.heap.size ≤ b ∧ b < w.heap.size ∧
    ∀ i d, cs[i]? = some d → μ.own b (o + i) = .obj j ∧ w.frozen? ⟨b, o + i, none⟩ = false ∧ ∃ v, w.cell? ⟨b, o + i, none⟩ = some v ∧ CR μ d [v]
  tok : ∀ t, σ.obj t = some .tok → ∃ b e k, μ.tl t = some (b, e, k) ∧ μ.w0.heap.size ≤ b ∧ b < w.heap.size ∧
    ∀ i, i < k → μ.own b (e + i) = .spare t ∧ w.frozen? ⟨b, e + i, none⟩ = false ∧ ∃ v, w.cell? ⟨b, e + i, none⟩ = some v
  blk : ∀ b o, w.heap.size ≤ b → μ.own b o = .none
  nxt : ∀ j, σ.next ≤ j → σ.obj j = none ∧ μ.loc j = none ∧ μ.tl j = none
  bel : Below μ.w0.heap.size μ.w0 w
  ty : ∀ f j T n, σ.obj f = some (.ty j T n) → ∃ (b : Nat) (cur : Array Value), μ.loc j = some (b, 0) ∧ w.heap[b]? = some (Obj.cells cur T (0, 0)) ∧ ∀ k, n = some k → cur.size = k

end Go.Id

/-
  THE IDEAL LAYER, PART B: what the steps of a world do to the relation.
-/
namespace Go.Id
open Go.RowKit
set_option linter.unusedVariables false
set_option linter.unusedSimpArgs false

def St.alloc (σ : St) (o : Ob) : St := { obj := fun j => if j = σ.next then some o else σ.obj j, next := σ.next + 1 }
def St.put (σ : St) (j : Nat) (o : Option Ob) : St := { σ with obj := fun i => if i = j then o else σ.obj i }

theorem cell_push (w : World) (arr : Array Value) (T : TypeId) (fr : Nat × Nat) (b o : Nat) :
    ({ w with heap := w.heap.push (.cells arr T fr) } : World).cell? ⟨b, o, none⟩ = if b = w.heap.size then arr[o]? else w.cell? ⟨b, o, none⟩ := by
  simp only [World.cell?, Array.getElem?_push]
  by_cases h : b = w.heap.size
  · simp [h]
  · simp [h]
theorem frozen_push (w : World) (arr : Array Value) (T : TypeId) (fr : Nat × Nat) (b o : Nat) :
    ({ w with heap := w.heap.push (.cells arr T fr) } : World).frozen? ⟨b, o, none⟩ = if b = w.heap.size then decide (fr.1 ≤ o) && decide (o < fr.2) else w.frozen? ⟨b, o, none⟩ := by
  simp only [World.frozen?, Array.getElem?_push]
  by_cases h : b = w.heap.size
  · simp [h]
  · simp [h]

theorem below_push {B : Nat} {a w : World} (h : Below B a w) (hB : B ≤ w.heap.size) (o : Obj) : Below B a { w with heap := w.heap.push o } :=
  Below.alloc h hB o

/-- Rows of which nothing is frozen stay such rows. -/
def RowsStay (w w' : World) : Prop := ∀ (b : Nat) (cur : Array Value) (T : TypeId), w.heap[b]? = some (Obj.cells cur T (0, 0)) → ∃ cur' : Array Value, w'.heap[b]? = some (Obj.cells cur' T (0, 0)) ∧ cur'.size = cur.size
/-- What is known of shapes stays. -/
theorem Sim.tyOf {μ μ' : Mu} {σ σ' : St} {w w' : World} (h : Sim μ σ w) (hle : μ.le μ') (ho : ∀ f j T n, σ'.obj f = some (.ty j T n) → σ.obj f = some (.ty j T n))
    (hs : RowsStay w w') : ∀ f j T n, σ'.obj f = some (.ty j T n) → ∃ (b : Nat) (cur : Array Value), μ'.loc j = some (b, 0) ∧ w'.heap[b]? = some (Obj.cells cur T (0, 0)) ∧ ∀ k, n = some k → cur.size = k := by
  intro f j T n hf
  obtain ⟨b, cur, h1, h2, h3⟩ := h.ty f j T n (ho f j T n hf)
  obtain ⟨cur', h4, h5⟩ := hs b cur T h2
  exact ⟨b, cur', hle.loc _ _ h1, h4, fun k hk => by rw [h5]; exact h3 k hk⟩
theorem rows_same {w w' : World} (h : ∀ b, b < w.heap.size → w'.heap[b]? = w.heap[b]?) : RowsStay w w' := fun b cur T hb => by
  have hlt : b < w.heap.size := Nat.lt_of_not_le fun hle => by rw [Array.getElem?_eq_none hle] at hb; cases hb
  exact ⟨cur, by rw [h b hlt, hb], rfl⟩
theorem rows_push (w : World) (x : Obj) : RowsStay w { w with heap := w.heap.push x } := rows_same fun b hb => by
  simp only [Array.getElem?_push]
  rw [if_neg (by omega)]
theorem rows_setCell (w : World) (a : Addr) (v : Value) : RowsStay w (w.setCell a v) := fun b cur T hb => by
  simp only [World.setCell, Array.getElem?_modify, hb]
  by_cases hab : a.block = b
  · rw [if_pos hab]
    refine ⟨_, rfl, ?_⟩
    by_cases hs : a.spot.isSome = true
    · rw [if_pos hs]
    · rw [if_neg hs, Array.size_setIfInBounds]
  · rw [if_neg hab]
    exact ⟨cur, rfl, rfl⟩
theorem rows_setCells (b' : Nat) : ∀ (vs : List Value) (o : Nat) (w : World), RowsStay w (w.setCells b' o vs)
  | [], _, w => fun b cur T hb => ⟨cur, hb, rfl⟩
  | v :: vs, o, w => fun b cur T hb => by
    obtain ⟨c1, h1, h2⟩ := rows_setCell w ⟨b', o, none⟩ v b cur T hb
    obtain ⟨c2, h3, h4⟩ := rows_setCells b' vs (o + 1) (w.setCell ⟨b', o, none⟩ v) b c1 T h1
    exact ⟨c2, h3, h4.trans h2⟩
theorem alloc_ty {σ : St} {o : Ob} (ho : ∀ j T n, o ≠ .ty j T n) : ∀ f j T n, (σ.alloc o).obj f = some (.ty j T n) → σ.obj f = some (.ty j T n) := by
  intro f j T n h
  simp only [St.alloc] at h
  split at h
  · simp only [Option.some.injEq] at h; exact absurd h (ho _ _ _)
  · exact h
theorem put_ty {σ : St} {k : Nat} {o : Option Ob} (ho : ∀ j T n, o ≠ some (.ty j T n)) : ∀ f j T n, (σ.put k o).obj f = some (.ty j T n) → σ.obj f = some (.ty j T n) := by
  intro f j T n h
  simp only [St.put] at h
  split at h
  · exact absurd h (ho _ _ _)
  · exact h
theorem Sim.low {μ : Mu} {σ : St} {w : World} (h : Sim μ σ w) : μ.w0.heap.size ≤ w.heap.size := h.bel.size

/-- A draw turns nothing. -/
theorem Sim.drawn {μ : Mu} {σ : St} {w : World} (h : Sim μ σ w) (n : Nat) : Sim μ σ { w with drawn := n } :=
  ⟨h.imm, h.obj, h.tok, h.blk, h.nxt, ⟨h.bel.os, h.bel.tape, h.bel.output, h.bel.size, h.bel.block⟩, h.ty⟩

/-- The places of a new block, given to nobody but as 'f' says. -/
def Mu.withBlock (μ : Mu) (b : Nat) (f : Nat → Own) : Mu := { μ with own := fun b' o => if b' = b then f o else μ.own b' o }

theorem Mu.le_withBlock {μ : Mu} {b : Nat} {f : Nat → Own} (h : ∀ o, μ.own b o = .none) : μ.le (μ.withBlock b f) := by
  refine ⟨fun b' o v e => ?_, fun _ _ h => h, fun _ _ h => h, rfl⟩
  simp only [Mu.withBlock]
  by_cases hb : b' = b
  · subst hb; rw [h] at e; cases e
  · simpa [hb] using e

def Mu.withLoc (μ : Mu) (j : Nat) (p : Nat × Nat) : Mu := { μ with loc := fun i => if i = j then some p else μ.loc i }
def Mu.withTl (μ : Mu) (j : Nat) (p : Nat × Nat × Nat) : Mu := { μ with tl := fun i => if i = j then some p else μ.tl i }

theorem Mu.le_withLoc {μ : Mu} {j : Nat} {p : Nat × Nat} (h : μ.loc j = none) : μ.le (μ.withLoc j p) := by
  refine ⟨fun _ _ _ e => e, fun i q e => ?_, fun _ _ h => h, rfl⟩
  simp only [Mu.withLoc]
  by_cases hb : i = j
  · subst hb; rw [h] at e; cases e
  · simpa [hb] using e
theorem Mu.le_withTl {μ : Mu} {j : Nat} {p : Nat × Nat × Nat} (h : μ.tl j = none) : μ.le (μ.withTl j p) := by
  refine ⟨fun _ _ _ e => e, fun _ _ h => h, fun i q e => ?_, rfl⟩
  simp only [Mu.withTl]
  by_cases hb : i = j
  · subst hb; rw [h] at e; cases e
  · simpa [hb] using e

def immOf (arr : Array Value) (o : Nat) : Own := match arr[o]? with | some v => .imm v | none => .none

/-- What is known of a block's shape may be laid down. -/
theorem Sim.know {μ : Mu} {σ : St} {w : World} (h : Sim μ σ w) {j : Nat} {T : TypeId} {n : Option Nat} (hk : ∃ (b : Nat) (cur : Array Value), μ.loc j = some (b, 0) ∧ w.heap[b]? = some (Obj.cells cur T (0, 0)) ∧ ∀ k, n = some k → cur.size = k) :
    Sim μ (σ.alloc (.ty j T n)) w := by
  refine ⟨h.imm, fun i cs e => ?_, fun t e => ?_, h.blk, fun i hi => ?_, h.bel, fun f j' T' n' e => ?_⟩
  · simp only [St.alloc] at e
    split at e
    · simp at e
    · exact h.obj i cs e
  · simp only [St.alloc] at e
    split at e
    · simp at e
    · exact h.tok t e
  · simp only [St.alloc] at hi ⊢
    have := h.nxt i (by omega)
    rw [if_neg (by omega)]
    exact this
  · simp only [St.alloc] at e
    split at e
    · simp only [Option.some.injEq, Ob.ty.injEq] at e
      obtain ⟨rfl, rfl, rfl⟩ := e
      exact hk
    · exact h.ty f j' T' n' e

/-- A new block that nobody will write. -/
theorem Sim.pushImm {μ : Mu} {σ : St} {w : World} (h : Sim μ σ w) (arr : Array Value) (T : TypeId) (fr : Nat × Nat) :
    ∃ μ' : Mu, μ.le μ' ∧ Sim μ' σ { w with heap := w.heap.push (.cells arr T fr) } ∧ ImmAt μ' w.heap.size 0 arr.toList := by
  have hle : μ.le (μ.withBlock w.heap.size (immOf arr)) := Mu.le_withBlock fun o => h.blk _ _ (Nat.le_refl _)
  refine ⟨_, hle, ⟨fun b o v e => ?_, fun j cs e => ?_, fun t e => ?_, fun b o hb => ?_, h.nxt, below_push h.bel h.low _, h.tyOf hle (fun _ _ _ _ e => e) (rows_push w _)⟩, fun i v e => ?_⟩
  · rw [cell_push]
    simp only [Mu.withBlock] at e
    by_cases hb : b = w.heap.size
    · simp only [hb, if_true, immOf] at e ⊢
      cases hx : arr[o]? with
      | none => simp [hx] at e
      | some u => simp [hx] at e; rw [e]
    · simp only [hb, if_false] at e ⊢
      exact h.imm _ _ _ e
  · obtain ⟨b, o, h1, h2, h3, h4⟩ := h.obj j cs e
    refine ⟨b, o, h1, h2, by simp; omega, fun i d hi => ?_⟩
    obtain ⟨g1, g2, v, g3, g4⟩ := h4 i d hi
    have hb : b ≠ w.heap.size := by omega
    exact ⟨by simpa [Mu.withBlock, hb] using g1, by rw [frozen_push]; simpa [hb] using g2, v, by rw [cell_push]; simpa [hb] using g3, g4.mono hle⟩
  · obtain ⟨b, e', k, h1, h2, h3, h4⟩ := h.tok t e
    refine ⟨b, e', k, h1, h2, by simp; omega, fun i hi => ?_⟩
    obtain ⟨g1, g2, v, g3⟩ := h4 i hi
    have hb : b ≠ w.heap.size := by omega
    exact ⟨by simpa [Mu.withBlock, hb] using g1, by rw [frozen_push]; simpa [hb] using g2, v, by rw [cell_push]; simpa [hb] using g3⟩
  · simp only [Array.size_push] at hb
    have hb' : b ≠ w.heap.size := by omega
    simpa [Mu.withBlock, hb'] using h.blk b o (by omega)
  · simp only [Mu.withBlock, if_true, Nat.zero_add, immOf]
    rw [Array.getElem?_toList] at e
    rw [e]

theorem CRl.get {μ : Mu} : ∀ {ds : List D} {vs : List Value}, CRl μ ds vs → ∀ {i : Nat} {d : D}, ds[i]? = some d → ∃ v, vs[i]? = some v ∧ CR μ d [v]
  | [], _, _, _, _, e => by simp at e
  | d :: ds, vs, h, i, x, e => by
    simp only [CRl] at h
    obtain ⟨v, ws, rfl, h2, h3⟩ := h
    cases i with
    | zero => simp at e; subst e; exact ⟨v, rfl, h2⟩
    | succ i => simpa using CRl.get h3 (i := i) (by simpa using e)

theorem CRl.length {μ : Mu} : ∀ {ds : List D} {vs : List Value}, CRl μ ds vs → vs.length = ds.length
  | [], _, h => by simp only [CRl] at h; simp [h]
  | d :: ds, vs, h => by
    simp only [CRl] at h
    obtain ⟨v, ws, rfl, h2, h3⟩ := h
    simp [CRl.length h3]

/-- A new variable. -/
theorem Sim.pushObj {μ : Mu} {σ : St} {w : World} (h : Sim μ σ w) (arr : Array Value) (T : TypeId) (cs : List D) (hc : CRl μ cs arr.toList) :
    ∃ μ' : Mu, μ.le μ' ∧ Sim μ' (σ.alloc (.cells cs)) { w with heap := w.heap.push (.cells arr T) } ∧ μ'.loc σ.next = some (w.heap.size, 0) := by
  have hn := h.nxt σ.next (Nat.le_refl _)
  have hle1 : μ.le (μ.withBlock w.heap.size fun o => if o < arr.size then .obj σ.next else .none) := Mu.le_withBlock fun o => h.blk _ _ (Nat.le_refl _)
  have hle : μ.le ((μ.withBlock w.heap.size fun o => if o < arr.size then .obj σ.next else .none).withLoc σ.next (w.heap.size, 0)) :=
    hle1.trans (Mu.le_withLoc hn.2.1)
  refine ⟨_, hle, ⟨fun b o v e => ?_, fun j cs' e => ?_, fun t e => ?_, fun b o hb => ?_, fun j hj => ?_, below_push h.bel h.low _, h.tyOf hle (alloc_ty (by simp)) (rows_push w _)⟩, by simp [Mu.withLoc]⟩
  · rw [cell_push]
    simp only [Mu.withBlock, Mu.withLoc] at e
    by_cases hb : b = w.heap.size
    · simp only [hb, if_true] at e
      split at e <;> cases e
    · simp only [hb, if_false] at e ⊢
      exact h.imm _ _ _ e
  · by_cases hj : j = σ.next
    · subst hj
      simp [St.alloc] at e
      subst e
      refine ⟨w.heap.size, 0, by simp [Mu.withLoc], h.low, by simp, fun i d hi => ?_⟩
      obtain ⟨v, hv, hr⟩ := hc.get hi
      have hlt : i < arr.size := by
        have := (List.getElem?_eq_some_iff.1 hv).1
        simpa using this
      refine ⟨by simp [Mu.withBlock, Mu.withLoc, hlt], by rw [frozen_push]; simp, v, ?_, hr.mono hle⟩
      rw [cell_push]
      simpa using hv
    · simp [St.alloc, hj] at e
      obtain ⟨b, o, h1, h2, h3, h4⟩ := h.obj j cs' e
      refine ⟨b, o, by simp [Mu.withBlock, Mu.withLoc, hj, h1], h2, by simp; omega, fun i d hi => ?_⟩
      obtain ⟨g1, g2, v, g3, g4⟩ := h4 i d hi
      have hb : b ≠ w.heap.size := by omega
      exact ⟨by simpa [Mu.withBlock, Mu.withLoc, hb] using g1, by rw [frozen_push]; simpa [hb] using g2, v, by rw [cell_push]; simpa [hb] using g3, g4.mono hle⟩
  · have ht : t ≠ σ.next := by
      intro ht; subst ht; simp [St.alloc] at e
    simp [St.alloc, ht] at e
    obtain ⟨b, e', k, h1, h2, h3, h4⟩ := h.tok t e
    refine ⟨b, e', k, h1, h2, by simp; omega, fun i hi => ?_⟩
    obtain ⟨g1, g2, v, g3⟩ := h4 i hi
    have hb : b ≠ w.heap.size := by omega
    exact ⟨by simpa [Mu.withBlock, Mu.withLoc, hb] using g1, by rw [frozen_push]; simpa [hb] using g2, v, by rw [cell_push]; simpa [hb] using g3⟩
  · simp only [Array.size_push] at hb
    have hb' : b ≠ w.heap.size := by omega
    simpa [Mu.withBlock, Mu.withLoc, hb'] using h.blk b o (by omega)
  · simp only [St.alloc] at hj ⊢
    have hj' : j ≠ σ.next := by omega
    have := h.nxt j (by omega)
    simpa [hj', Mu.withLoc, Mu.withBlock] using this

/-- A new row: what it holds nobody will write, and behind it there is room that one slice may take. -/
theorem Sim.pushRow {μ : Mu} {σ : St} {w : World} (h : Sim μ σ w) (arr rest : Array Value) (T : TypeId) :
    ∃ μ' : Mu, μ.le μ' ∧ Sim μ' (σ.alloc .tok) { w with heap := w.heap.push (.cells (arr ++ rest) T) } ∧ ImmAt μ' w.heap.size 0 arr.toList ∧
      μ'.tl σ.next = some (w.heap.size, arr.size, rest.size) := by
  have hn := h.nxt σ.next (Nat.le_refl _)
  have hle1 : μ.le (μ.withBlock w.heap.size fun o => if o < arr.size then immOf arr o else if o < arr.size + rest.size then .spare σ.next else .none) :=
    Mu.le_withBlock fun o => h.blk _ _ (Nat.le_refl _)
  have hle : μ.le ((μ.withBlock w.heap.size fun o => if o < arr.size then immOf arr o else if o < arr.size + rest.size then .spare σ.next else .none).withTl σ.next (w.heap.size, arr.size, rest.size)) :=
    hle1.trans (Mu.le_withTl hn.2.2)
  refine ⟨_, hle, ⟨fun b o v e => ?_, fun j cs' e => ?_, fun t e => ?_, fun b o hb => ?_, fun j hj => ?_, below_push h.bel h.low _, h.tyOf hle (alloc_ty (by simp)) (rows_push w _)⟩, fun i v e => ?_, by simp [Mu.withTl]⟩
  · rw [cell_push]
    simp only [Mu.withBlock, Mu.withTl] at e
    by_cases hb : b = w.heap.size
    · simp only [hb, if_true] at e ⊢
      split at e
      · rename_i ho
        simp only [immOf] at e
        rw [Array.getElem?_append_left ho]
        cases hx : arr[o]? with
        | none => simp [hx] at e
        | some u => simp [hx] at e; rw [e]
      · split at e <;> cases e
    · simp only [hb, if_false] at e ⊢
      exact h.imm _ _ _ e
  · have hj : j ≠ σ.next := by
      intro ht; subst ht; simp [St.alloc] at e
    simp [St.alloc, hj] at e
    obtain ⟨b, o, h1, h2, h3, h4⟩ := h.obj j cs' e
    refine ⟨b, o, h1, h2, by simp; omega, fun i d hi => ?_⟩
    obtain ⟨g1, g2, v, g3, g4⟩ := h4 i d hi
    have hb : b ≠ w.heap.size := by omega
    exact ⟨by simpa [Mu.withBlock, Mu.withTl, hb] using g1, by rw [frozen_push]; simpa [hb] using g2, v, by rw [cell_push]; simpa [hb] using g3, g4.mono hle⟩
  · by_cases ht : t = σ.next
    · subst ht
      refine ⟨w.heap.size, arr.size, rest.size, by simp [Mu.withTl], h.low, by simp, fun i hi => ?_⟩
      refine ⟨by simp [Mu.withBlock, Mu.withTl, hi]; intro hh; omega, by rw [frozen_push]; simp, rest[i], ?_⟩
      rw [cell_push]
      simp [hi]
    · simp [St.alloc, ht] at e
      obtain ⟨b, e', k, h1, h2, h3, h4⟩ := h.tok t e
      refine ⟨b, e', k, by simp [Mu.withBlock, Mu.withTl, ht, h1], h2, by simp; omega, fun i hi => ?_⟩
      obtain ⟨g1, g2, v, g3⟩ := h4 i hi
      have hb : b ≠ w.heap.size := by omega
      exact ⟨by simpa [Mu.withBlock, Mu.withTl, hb] using g1, by rw [frozen_push]; simpa [hb] using g2, v, by rw [cell_push]; simpa [hb] using g3⟩
  · simp only [Array.size_push] at hb
    have hb' : b ≠ w.heap.size := by omega
    simpa [Mu.withBlock, Mu.withTl, hb'] using h.blk b o (by omega)
  · simp only [St.alloc] at hj ⊢
    have hj' : j ≠ σ.next := by omega
    have := h.nxt j (by omega)
    simpa [hj', Mu.withTl, Mu.withBlock] using this
  · rw [Array.getElem?_toList] at e
    have hlt : i < arr.size := (Array.getElem?_eq_some_iff.1 e).1
    simp only [Mu.withBlock, Mu.withTl, if_true, Nat.zero_add, hlt, immOf, e]


theorem below_setCell {B : Nat} {a w : World} (h : Below B a w) {p : Addr} (hp : B ≤ p.block) (u : Value) : Below B a (w.setCell p u) := h.setCell hp u

theorem Sim.store1 {μ : Mu} {σ : St} {w : World} (h : Sim μ σ w) {j : Nat} {cs : List D} (hj : σ.obj j = some (.cells cs)) {b o : Nat} (hl : μ.loc j = some (b, o))
    {off : Nat} (hoff : off < cs.length) {d : D} {v : Value} (hd : CR μ d [v]) :
    Sim μ (σ.put j (some (.cells (cs.set off d)))) (w.setCell ⟨b, o + off, none⟩ v) ∧ (∃ u, w.cell? ⟨b, o + off, none⟩ = some u) ∧ w.frozen? ⟨b, o + off, none⟩ = false := by
  obtain ⟨b', o', h1, h2, h3, h4⟩ := h.obj j cs hj
  rw [hl] at h1
  simp only [Option.some.injEq, Prod.mk.injEq] at h1
  obtain ⟨rfl, rfl⟩ := h1
  obtain ⟨k1, k2, u, k3, k4⟩ := h4 off cs[off] (by simp [hoff])
  have hother : ∀ b' o' , μ.own b' o' ≠ .obj j → (w.setCell ⟨b, o + off, none⟩ v).cell? ⟨b', o', none⟩ = w.cell? ⟨b', o', none⟩ := by
    intro b' o' hne
    apply World.cell?_setCell_other
    intro he
    simp only [Addr.mk.injEq, and_true] at he
    obtain ⟨rfl, rfl⟩ := he
    exact hne k1
  refine ⟨⟨fun b' o' v' e => ?_, fun j' cs' e => ?_, fun t e => ?_, fun b' o' hb => ?_, fun i hi => ?_, below_setCell h.bel h2 v, h.tyOf (Mu.le.refl μ) (put_ty (by simp)) (rows_setCell w _ v)⟩, ⟨u, k3⟩, k2⟩
  · rw [hother _ _ (by rw [e]; simp)]
    exact h.imm _ _ _ e
  · by_cases hjj : j' = j
    · subst hjj
      simp [St.put] at e
      subst e
      refine ⟨b, o, hl, h2, by simpa [World.setCell] using h3, fun i x hi => ?_⟩
      rw [World.frozen?_setCell]
      by_cases hio : i = off
      · subst hio
        rw [List.getElem?_set_self hoff] at hi
        simp only [Option.some.injEq] at hi
        subst hi
        exact ⟨k1, k2, v, World.cell?_setCell_same _ _ _ k3, hd⟩
      · rw [List.getElem?_set_ne (fun hh => hio hh.symm)] at hi
        obtain ⟨g1, g2, v', g3, g4⟩ := h4 i x hi
        refine ⟨g1, g2, v', ?_, g4⟩
        rw [World.cell?_setCell_other]
        · exact g3
        · simp; omega
    · simp [St.put, hjj] at e
      obtain ⟨b', o', m1, m2, m3, m4⟩ := h.obj j' cs' e
      refine ⟨b', o', m1, m2, by simpa [World.setCell] using m3, fun i x hi => ?_⟩
      obtain ⟨g1, g2, v', g3, g4⟩ := m4 i x hi
      exact ⟨g1, by rw [World.frozen?_setCell]; exact g2, v', by rw [hother _ _ (by rw [g1]; simpa using hjj)]; exact g3, g4⟩
  · have ht : t ≠ j := by intro ht; subst ht; simp [St.put] at e
    simp [St.put, ht] at e
    obtain ⟨b', e', k, m1, m2, m3, m4⟩ := h.tok t e
    refine ⟨b', e', k, m1, m2, by simpa [World.setCell] using m3, fun i hi => ?_⟩
    obtain ⟨g1, g2, v', g3⟩ := m4 i hi
    exact ⟨g1, by rw [World.frozen?_setCell]; exact g2, v', by rw [hother _ _ (by rw [g1]; simp)]; exact g3⟩
  · simp only [World.setCell, Array.size_modify] at hb
    exact h.blk b' o' hb
  · have := h.nxt i hi
    have hij : i ≠ j := by intro hij; subst hij; rw [hj] at this; simp at this
    simpa [St.put, hij] using this

/-- Cells of an ideal variable, one behind the other. -/
def setAt : List D → Nat → List D → List D
  | cs, _, [] => cs
  | cs, off, d :: ds => setAt (cs.set off d) (off + 1) ds

theorem length_setAt : ∀ (ds cs : List D) (off : Nat), (setAt cs off ds).length = cs.length
  | [], _, _ => rfl
  | d :: ds, cs, off => by simp [setAt, length_setAt ds]

theorem St.put_put (σ : St) (j : Nat) (x y : Option Ob) : (σ.put j x).put j y = σ.put j y := by
  simp only [St.put, St.mk.injEq, and_true]
  funext i
  split <;> rfl

theorem St.put_self (σ : St) (j : Nat) (o : Option Ob) (h : σ.obj j = o) : σ.put j o = σ := by
  cases σ
  simp only [St.put, St.mk.injEq, and_true]
  funext i
  split
  · rename_i hi; subst hi; exact h.symm
  · rfl

theorem Sim.storeL {μ : Mu} : ∀ (ds : List D) (vs : List Value) (cs : List D) (off : Nat) {σ : St} {w : World}, Sim μ σ w → ∀ {j : Nat}, σ.obj j = some (.cells cs) →
    ∀ {b o : Nat}, μ.loc j = some (b, o) → off + ds.length ≤ cs.length → CRl μ ds vs →
    Sim μ (σ.put j (some (.cells (setAt cs off ds)))) (w.setCells b (o + off) vs) ∧
      (∀ i, i < vs.length → (w.cell? ⟨b, o + off + i, none⟩).isSome = true) ∧ (∀ i, i < vs.length → w.frozen? ⟨b, o + off + i, none⟩ = false)
  | [], vs, cs, off, σ, w, h, j, hj, b, o, hl, hlen, hr => by
    simp only [CRl] at hr
    subst hr
    refine ⟨?_, by simp, by simp⟩
    simp only [setAt, World.setCells]
    rwa [St.put_self _ _ _ hj]
  | d :: ds, vs, cs, off, σ, w, h, j, hj, b, o, hl, hlen, hr => by
    simp only [CRl] at hr
    obtain ⟨v, ws, rfl, h2, h3⟩ := hr
    simp only [List.length_cons] at hlen
    obtain ⟨s1, ⟨u, s2⟩, s3⟩ := h.store1 hj hl (off := off) (by omega) h2
    obtain ⟨r1, r2, r3⟩ := Sim.storeL ds ws (cs.set off d) (off + 1) s1 (j := j) (by simp [St.put]) hl (by simp; omega) h3
    rw [St.put_put] at r1
    refine ⟨by simpa only [setAt, World.setCells, Nat.add_assoc] using r1, fun i hi => ?_, fun i hi => ?_⟩
    · cases i with
      | zero => simp [s2]
      | succ i =>
        have := r2 i (by simpa using hi)
        rw [World.cell?_setCell_other _ _ _ _ (by simp; omega)] at this
        rwa [show o + off + (i + 1) = o + (off + 1) + i by omega]
    · cases i with
      | zero => simpa using s3
      | succ i =>
        have := r3 i (by simpa using hi)
        rw [World.frozen?_setCell] at this
        rwa [show o + off + (i + 1) = o + (off + 1) + i by omega]

theorem setCells_size (b : Nat) : ∀ (vs : List Value) (o : Nat) (w : World), (w.setCells b o vs).heap.size = w.heap.size
  | [], _, _ => rfl
  | v :: vs, o, w => by simp [World.setCells, setCells_size b vs, World.setCell]

theorem below_setCells {B b : Nat} {a : World} (hb : B ≤ b) : ∀ (vs : List Value) (o : Nat) (w : World), Below B a w → Below B a (w.setCells b o vs)
  | [], _, _, h => h
  | v :: vs, o, w, h => by
    simp only [World.setCells]
    exact below_setCells hb vs _ _ (h.setCell (p := ⟨b, o, none⟩) hb v)

/-- An append takes the room behind its slice. -/
theorem Sim.take {μ : Mu} {σ : St} {w : World} (h : Sim μ σ w) {t : Nat} (ht : σ.obj t = some .tok) {b e k : Nat} (hl : μ.tl t = some (b, e, k)) (vs : List Value) (hk : vs.length ≤ k) :
    (∃ μ' : Mu, μ.le μ' ∧ Sim μ' ((σ.put t none).alloc .tok) (w.setCells b e vs) ∧ ImmAt μ' b e vs ∧ μ'.tl σ.next = some (b, e + vs.length, k - vs.length)) ∧
      (∀ i, i < vs.length → (w.cell? ⟨b, e + i, none⟩).isSome = true) ∧ (∀ i, i < vs.length → w.frozen? ⟨b, e + i, none⟩ = false) := by
  obtain ⟨b', e', k', h1, h2, h3, h4⟩ := h.tok t ht
  rw [hl] at h1
  simp only [Option.some.injEq, Prod.mk.injEq] at h1
  obtain ⟨rfl, rfl, rfl⟩ := h1
  have hn := h.nxt σ.next (Nat.le_refl _)
  have htn : t ≠ σ.next := by intro hh; subst hh; rw [ht] at hn; simp at hn
  have hle1 : μ.le { μ with own := fun b' o => if b' = b ∧ e ≤ o ∧ o < e + k then (match vs[o - e]? with | some v => .imm v | none => .spare σ.next) else μ.own b' o } := by
    refine ⟨fun b' o v he => ?_, fun _ _ h => h, fun _ _ h => h, rfl⟩
    by_cases hc : b' = b ∧ e ≤ o ∧ o < e + k
    · obtain ⟨rfl, hc1, hc2⟩ := hc
      have := (h4 (o - e) (by omega)).1
      rw [show e + (o - e) = o by omega] at this
      rw [this] at he; cases he
    · simpa only [hc, if_false] using he
  have hsome : ∀ i, i < vs.length → (w.cell? ⟨b, e + i, none⟩).isSome = true := fun i hi => by
    obtain ⟨_, _, v, g3⟩ := h4 i (by omega)
    simp [g3]
  have hfr : ∀ i, i < vs.length → w.frozen? ⟨b, e + i, none⟩ = false := fun i hi => (h4 i (by omega)).2.1
  have hle : μ.le (({ μ with own := fun b' o => if b' = b ∧ e ≤ o ∧ o < e + k then (match vs[o - e]? with | some v => .imm v | none => .spare σ.next) else μ.own b' o } : Mu).withTl σ.next (b, e + vs.length, k - vs.length)) :=
    hle1.trans (Mu.le_withTl hn.2.2)
  have hout : ∀ b' o', (∀ i, i < k → ¬ (b' = b ∧ o' = e + i)) → (w.setCells b e vs).cell? ⟨b', o', none⟩ = w.cell? ⟨b', o', none⟩ := by
    intro b' o' hne
    apply World.cell?_setCells_out
    intro hb' _
    simp only at hb' ⊢
    by_cases hlt : o' < e
    · exact .inl hlt
    · refine .inr ?_
      have := hne (o' - e)
      by_cases hk' : o' - e < k
      · exact absurd ⟨hb', by omega⟩ (this hk')
      · omega
  refine ⟨⟨_, hle, ⟨fun b' o' v' he => ?_, fun j cs he => ?_, fun t' he => ?_, fun b' o' hb => ?_, fun i hi => ?_, below_setCells h2 vs e w h.bel, h.tyOf hle (fun f j T n hf => put_ty (by simp) _ _ _ _ (alloc_ty (by simp) _ _ _ _ hf)) (rows_setCells b vs e w)⟩, fun i v he => ?_, by simp [Mu.withTl]⟩, hsome, hfr⟩
  · simp only [Mu.withTl] at he
    by_cases hc : b' = b ∧ e ≤ o' ∧ o' < e + k
    · simp only [hc, and_self, if_true] at he
      obtain ⟨rfl, hc1, hc2⟩ := hc
      cases hx : vs[o' - e]? with
      | none => simp [hx] at he
      | some u =>
        simp [hx] at he
        subst he
        obtain ⟨hlt, hx'⟩ := List.getElem?_eq_some_iff.1 hx
        have := World.cell?_setCells_in b' vs e w hsome (o' - e) hlt
        rw [show e + (o' - e) = o' by omega, hx'] at this
        exact this
    · simp only [hc, if_false] at he
      rw [hout]
      · exact h.imm _ _ _ he
      · intro i hi hh
        exact hc ⟨hh.1, by omega, by omega⟩
  · have hjn : j ≠ σ.next := by intro hh; subst hh; simp [St.alloc, St.put] at he
    simp only [St.alloc, St.put, hjn, if_false] at he
    have hjt : j ≠ t := by intro hh; subst hh; simp [St.put] at he
    simp [St.put, hjt] at he
    obtain ⟨b', o', m1, m2, m3, m4⟩ := h.obj j cs he
    refine ⟨b', o', m1, m2, by rw [setCells_size]; exact m3, fun i d hi => ?_⟩
    obtain ⟨g1, g2, v, g3, g4⟩ := m4 i d hi
    have hnot : ∀ n, n < k → ¬ (b' = b ∧ o' + i = e + n) := by
      intro n hn ⟨hb1, hb2⟩
      have := (h4 n hn).1
      rw [← hb1, ← hb2, g1] at this
      cases this
    refine ⟨?_, by rw [World.frozen?_setCells]; exact g2, v, by rw [hout _ _ hnot]; exact g3, g4.mono hle⟩
    simp only [Mu.withTl]
    rw [if_neg]
    · exact g1
    · rintro ⟨hb1, hb2, hb3⟩
      exact hnot (o' + i - e) (by omega) ⟨hb1, by omega⟩
  · by_cases htn' : t' = σ.next
    · subst htn'
      refine ⟨b, e + vs.length, k - vs.length, by simp [Mu.withTl], h2, by rw [setCells_size]; exact h3, fun i hi => ?_⟩
      obtain ⟨g1, g2, v, g3⟩ := h4 (vs.length + i) (by omega)
      refine ⟨?_, by rw [World.frozen?_setCells, Nat.add_assoc]; exact g2, v, ?_⟩
      · have hc : b = b ∧ e ≤ e + vs.length + i ∧ e + vs.length + i < e + k := ⟨rfl, by omega, by omega⟩
        simp only [Mu.withTl, hc, and_self, if_true]
        rw [List.getElem?_eq_none (by omega)]
      · rw [World.cell?_setCells_out, Nat.add_assoc]
        · exact g3
        · intro _ _
          simp only
          omega
    · simp only [St.alloc, St.put, htn', if_false] at he
      have htt : t' ≠ t := by intro hh; subst hh; simp [St.put] at he
      simp [St.put, htt] at he
      obtain ⟨b', e', k', m1, m2, m3, m4⟩ := h.tok t' he
      refine ⟨b', e', k', by simp [Mu.withTl, htn', m1], m2, by rw [setCells_size]; exact m3, fun i hi => ?_⟩
      obtain ⟨g1, g2, v, g3⟩ := m4 i hi
      have hnot : ∀ n, n < k → ¬ (b' = b ∧ e' + i = e + n) := by
        intro n hn ⟨hb1, hb2⟩
        have := (h4 n hn).1
        rw [← hb1, ← hb2, g1] at this
        simp only [Own.spare.injEq] at this
        exact htt this
      refine ⟨?_, by rw [World.frozen?_setCells]; exact g2, v, by rw [hout _ _ hnot]; exact g3⟩
      simp only [Mu.withTl]
      rw [if_neg]
      · exact g1
      · rintro ⟨hb1, hb2, hb3⟩
        exact hnot (e' + i - e) (by omega) ⟨hb1, by omega⟩
  · rw [setCells_size] at hb
    simp only [Mu.withTl]
    rw [if_neg]
    · exact h.blk b' o' hb
    · rintro ⟨hb1, _, _⟩
      omega
  · simp only [St.alloc, St.put] at hi ⊢
    have hin : i ≠ σ.next := by omega
    have := h.nxt i (by omega)
    have hit : i ≠ t := by intro hh; subst hh; rw [ht] at this; simp at this
    simp only [hin, hit, if_false, Mu.withTl]
    exact this
  · obtain ⟨hlt, hx⟩ := List.getElem?_eq_some_iff.1 he
    have hc : b = b ∧ e ≤ e + i ∧ e + i < e + k := ⟨rfl, by omega, by omega⟩
    simp only [Mu.withTl, hc, and_self, if_true]
    rw [show e + i - e = i by omega, he]


/-- A new row that may be written, and behind it room that only its slice may take. -/
theorem Sim.pushRowR {μ : Mu} {σ : St} {w : World} (h : Sim μ σ w) (arr rest : Array Value) (T : TypeId) (cs : List D) (hc : CRl μ cs arr.toList) :
    ∃ μ' : Mu, μ.le μ' ∧ Sim μ' ((σ.alloc (.cells cs)).alloc .tok) { w with heap := w.heap.push (.cells (arr ++ rest) T) } ∧ μ'.loc σ.next = some (w.heap.size, 0) ∧
      μ'.tl (σ.next + 1) = some (w.heap.size, arr.size, rest.size) := by
  have hn := h.nxt σ.next (Nat.le_refl _)
  have hn1 := h.nxt (σ.next + 1) (Nat.le_succ _)
  have hle1 : μ.le (μ.withBlock w.heap.size fun o => if o < arr.size then .obj σ.next else if o < arr.size + rest.size then .spare (σ.next + 1) else .none) :=
    Mu.le_withBlock fun o => h.blk _ _ (Nat.le_refl _)
  have hle2 := hle1.trans (Mu.le_withLoc (j := σ.next) (p := (w.heap.size, 0)) hn.2.1)
  have hle := hle2.trans (Mu.le_withTl (j := σ.next + 1) (p := (w.heap.size, arr.size, rest.size)) hn1.2.2)
  refine ⟨_, hle, ⟨fun b o v e => ?_, fun j cs' e => ?_, fun t e => ?_, fun b o hb => ?_, fun j hj => ?_, below_push h.bel h.low _, h.tyOf hle (fun f j T n hf => alloc_ty (by simp) _ _ _ _ (alloc_ty (by simp) _ _ _ _ hf)) (rows_push w _)⟩, by simp [Mu.withLoc, Mu.withTl], by simp [Mu.withTl]⟩
  · rw [cell_push]
    simp only [Mu.withBlock, Mu.withTl, Mu.withLoc] at e
    by_cases hb : b = w.heap.size
    · simp only [hb, if_true] at e
      split at e
      · cases e
      · split at e <;> cases e
    · simp only [hb, if_false] at e ⊢
      exact h.imm _ _ _ e
  · have hj1 : j ≠ σ.next + 1 := by
      intro ht; subst ht; simp [St.alloc] at e
    by_cases hj : j = σ.next
    · subst hj
      simp [St.alloc] at e
      subst e
      refine ⟨w.heap.size, 0, by simp [Mu.withLoc, Mu.withTl], h.low, by simp, fun i d hi => ?_⟩
      obtain ⟨v, hv, hr⟩ := hc.get hi
      have hlt : i < arr.size := by
        have := (List.getElem?_eq_some_iff.1 hv).1
        simpa using this
      refine ⟨by simp [Mu.withBlock, Mu.withLoc, Mu.withTl, hlt], by rw [frozen_push]; simp, v, ?_, hr.mono hle⟩
      rw [cell_push]
      simp only [if_true, Nat.zero_add]
      rw [Array.getElem?_append_left hlt]
      simpa using hv
    · simp [St.alloc, hj, hj1] at e
      obtain ⟨b, o, h1, h2, h3, h4⟩ := h.obj j cs' e
      refine ⟨b, o, by simp [Mu.withBlock, Mu.withLoc, Mu.withTl, hj, h1], h2, by simp; omega, fun i d hi => ?_⟩
      obtain ⟨g1, g2, v, g3, g4⟩ := h4 i d hi
      have hb : b ≠ w.heap.size := by omega
      exact ⟨by simpa [Mu.withBlock, Mu.withLoc, Mu.withTl, hb] using g1, by rw [frozen_push]; simpa [hb] using g2, v, by rw [cell_push]; simpa [hb] using g3, g4.mono hle⟩
  · by_cases ht : t = σ.next + 1
    · subst ht
      refine ⟨w.heap.size, arr.size, rest.size, by simp [Mu.withTl], h.low, by simp, fun i hi => ?_⟩
      refine ⟨by simp [Mu.withBlock, Mu.withTl, Mu.withLoc, hi], by rw [frozen_push]; simp, rest[i], ?_⟩
      rw [cell_push]
      simp [hi]
    · have ht0 : t ≠ σ.next := by
        intro hh; subst hh; simp [St.alloc] at e
      simp [St.alloc, ht, ht0] at e
      obtain ⟨b, e', k, h1, h2, h3, h4⟩ := h.tok t e
      refine ⟨b, e', k, by simp [Mu.withBlock, Mu.withTl, Mu.withLoc, ht, h1], h2, by simp; omega, fun i hi => ?_⟩
      obtain ⟨g1, g2, v, g3⟩ := h4 i hi
      have hb : b ≠ w.heap.size := by omega
      exact ⟨by simpa [Mu.withBlock, Mu.withTl, Mu.withLoc, hb] using g1, by rw [frozen_push]; simpa [hb] using g2, v, by rw [cell_push]; simpa [hb] using g3⟩
  · simp only [Array.size_push] at hb
    have hb' : b ≠ w.heap.size := by omega
    simpa [Mu.withBlock, Mu.withTl, Mu.withLoc, hb'] using h.blk b o (by omega)
  · simp only [St.alloc] at hj ⊢
    have hj' : j ≠ σ.next := by omega
    have hj1 : j ≠ σ.next + 1 := by omega
    have := h.nxt j (by omega)
    simpa [hj', hj1, Mu.withTl, Mu.withBlock, Mu.withLoc] using this

/-- What is forgotten. -/
theorem Sim.kill {μ : Mu} {σ : St} {w : World} (h : Sim μ σ w) (j : Nat) (hj : j < σ.next) : Sim μ (σ.put j none) w := by
  refine ⟨h.imm, fun i cs hi => ?_, fun t ht => ?_, h.blk, fun i hi => ?_, h.bel, h.tyOf (Mu.le.refl μ) (put_ty (by simp)) (rows_same fun _ _ => rfl)⟩
  · by_cases hij : i = j
    · subst hij; simp [St.put] at hi
    · exact h.obj i cs (by simpa [St.put, hij] using hi)
  · by_cases hij : t = j
    · subst hij; simp [St.put] at ht
    · exact h.tok t (by simpa [St.put, hij] using ht)
  · have := h.nxt i hi
    have hij : i ≠ j := by simp only [St.put] at hi; omega
    simpa [St.put, hij] using this

/-- An append takes the room behind a variable's row. -/
theorem Sim.takeR {μ : Mu} {σ : St} {w : World} (h : Sim μ σ w) {t j : Nat} (ht : σ.obj t = some .tok) {cs : List D} (hj : σ.obj j = some (.cells cs)) {b o e k : Nat} (hlj : μ.loc j = some (b, o)) (hl : μ.tl t = some (b, e, k)) (he : e = o + cs.length)
    (ds : List D) (vs : List Value) (hds : CRl μ ds vs) (hk : vs.length ≤ k) :
    (∃ μ' : Mu, μ.le μ' ∧ Sim μ' ((((σ.put j none).put t none).alloc (.cells (cs ++ ds))).alloc .tok) (w.setCells b e vs) ∧ μ'.loc σ.next = some (b, o) ∧ μ'.tl (σ.next + 1) = some (b, e + vs.length, k - vs.length)) ∧
      (∀ i, i < vs.length → (w.cell? ⟨b, e + i, none⟩).isSome = true) ∧ (∀ i, i < vs.length → w.frozen? ⟨b, e + i, none⟩ = false) := by
  obtain ⟨b', e', k', h1, h2, h3, h4⟩ := h.tok t ht
  rw [hl] at h1
  simp only [Option.some.injEq, Prod.mk.injEq] at h1
  obtain ⟨rfl, rfl, rfl⟩ := h1
  obtain ⟨b', o', m1, m2, m3, m4⟩ := h.obj j cs hj
  rw [hlj] at m1
  simp only [Option.some.injEq, Prod.mk.injEq] at m1
  obtain ⟨rfl, rfl⟩ := m1
  have hn := h.nxt σ.next (Nat.le_refl _)
  have hn1 := h.nxt (σ.next + 1) (Nat.le_succ _)
  have htn : t < σ.next := by
    rcases Nat.lt_or_ge t σ.next with hh | hh
    · exact hh
    · rw [(h.nxt t hh).1] at ht; cases ht
  have hjn : j < σ.next := by
    rcases Nat.lt_or_ge j σ.next with hh | hh
    · exact hh
    · rw [(h.nxt j hh).1] at hj; cases hj
  have hlen := hds.length
  -- who holds what now
  have hle1 : μ.le { μ with own := fun b' x => if b' = b ∧ o ≤ x ∧ x < e + vs.length then .obj σ.next else if b' = b ∧ e + vs.length ≤ x ∧ x < e + k then .spare (σ.next + 1) else μ.own b' x } := by
    refine ⟨fun b' x v hx => ?_, fun _ _ h => h, fun _ _ h => h, rfl⟩
    have hno : ∀ y, o ≤ y → y < e + k → ∀ v, μ.own b y ≠ .imm v := by
      intro y hy1 hy2 v hv
      by_cases hye : y < e
      · have := (m4 (y - o) (cs[y - o]'(by omega)) (List.getElem?_eq_getElem (by omega))).1
        rw [show o + (y - o) = y by omega, hv] at this
        cases this
      · have := (h4 (y - e) (by omega)).1
        rw [show e + (y - e) = y by omega, hv] at this
        cases this
    by_cases hc : b' = b ∧ o ≤ x ∧ x < e + vs.length
    · obtain ⟨rfl, c1, c2⟩ := hc
      exact absurd hx (hno x c1 (by omega) v)
    · by_cases hc' : b' = b ∧ e + vs.length ≤ x ∧ x < e + k
      · obtain ⟨rfl, c1, c2⟩ := hc'
        exact absurd hx (hno x (by omega) c2 v)
      · simpa only [hc, hc', if_false] using hx
  have hle2 := hle1.trans (Mu.le_withLoc (j := σ.next) (p := (b, o)) hn.2.1)
  have hle := hle2.trans (Mu.le_withTl (j := σ.next + 1) (p := (b, e + vs.length, k - vs.length)) hn1.2.2)
  have hsome : ∀ i, i < vs.length → (w.cell? ⟨b, e + i, none⟩).isSome = true := fun i hi => by
    obtain ⟨_, _, v, g3⟩ := h4 i (by omega)
    simp [g3]
  have hfr : ∀ i, i < vs.length → w.frozen? ⟨b, e + i, none⟩ = false := fun i hi => (h4 i (by omega)).2.1
  have hout : ∀ b' o', ¬ (b' = b ∧ e ≤ o' ∧ o' < e + vs.length) → (w.setCells b e vs).cell? ⟨b', o', none⟩ = w.cell? ⟨b', o', none⟩ := by
    intro b' o' hne
    apply World.cell?_setCells_out
    intro hb' _
    simp only at hb' ⊢
    by_cases hlt : o' < e
    · exact .inl hlt
    · exact .inr (Nat.le_of_not_lt fun hh => hne ⟨hb', by omega, hh⟩)
  -- a place that is neither the variable's nor its room
  have hfar : ∀ b' x, (∀ i, i < cs.length → ¬ (b' = b ∧ x = o + i)) → (∀ i, i < k → ¬ (b' = b ∧ x = e + i)) → ¬ (b' = b ∧ o ≤ x ∧ x < e + k) := by
    rintro b' x f1 f2 ⟨hb, c1, c2⟩
    by_cases hx : x < e
    · exact f1 (x - o) (by omega) ⟨hb, by omega⟩
    · exact f2 (x - e) (by omega) ⟨hb, by omega⟩
  refine ⟨⟨_, hle, ⟨fun b' o' v' hx => ?_, fun j' cs' hx => ?_, fun t' hx => ?_, fun b' o' hb => ?_, fun i hi => ?_, below_setCells h2 vs e w h.bel, h.tyOf hle (fun f j T n hf => put_ty (by simp) _ _ _ _ (put_ty (by simp) _ _ _ _ (alloc_ty (by simp) _ _ _ _ (alloc_ty (by simp) _ _ _ _ hf)))) (rows_setCells b vs e w)⟩, by simp [Mu.withLoc, Mu.withTl], by simp [Mu.withTl]⟩, hsome, hfr⟩
  · simp only [Mu.withTl, Mu.withLoc] at hx
    by_cases hc : b' = b ∧ o ≤ o' ∧ o' < e + vs.length
    · rw [if_pos hc] at hx; cases hx
    · by_cases hc' : b' = b ∧ e + vs.length ≤ o' ∧ o' < e + k
      · rw [if_neg hc, if_pos hc'] at hx; cases hx
      · rw [if_neg hc, if_neg hc'] at hx
        rw [hout]
        · exact h.imm _ _ _ hx
        · rintro ⟨c1, c2, c3⟩
          exact hc ⟨c1, by omega, c3⟩
  · have hj1 : j' ≠ σ.next + 1 := by intro hh; subst hh; simp [St.alloc, St.put] at hx
    by_cases hjn' : j' = σ.next
    · subst hjn'
      simp [St.alloc, St.put] at hx
      subst hx
      refine ⟨b, o, by simp [Mu.withLoc, Mu.withTl], h2, by rw [setCells_size]; exact h3, fun i d hi => ?_⟩
      rw [List.getElem?_append] at hi
      split at hi
      · rename_i hic
        obtain ⟨g1, g2, v, g3, g4⟩ := m4 i d hi
        refine ⟨by (simp only [Mu.withTl, Mu.withLoc]; exact if_pos ⟨by first | rfl | trivial, by omega, by omega⟩), by rw [World.frozen?_setCells]; exact g2, v, ?_, g4.mono hle⟩
        rw [hout]
        · exact g3
        · rintro ⟨_, c2, _⟩; omega
      · rename_i hic
        obtain ⟨v, hv, hr⟩ := hds.get hi
        have hlt := (List.getElem?_eq_some_iff.1 hv).1
        have hx : o + i = e + (i - cs.length) := by omega
        refine ⟨by (simp only [Mu.withTl, Mu.withLoc]; exact if_pos ⟨by first | rfl | trivial, by omega, by omega⟩), ?_, v, ?_, hr.mono hle⟩
        · rw [World.frozen?_setCells, hx]; exact hfr _ hlt
        · have := World.cell?_setCells_in b vs e w hsome (i - cs.length) hlt
          rw [hx, this, ← hv, List.getElem?_eq_getElem hlt]
    · simp only [St.alloc, St.put, hjn', hj1, if_false] at hx
      have hjj : j' ≠ j := by intro hh; subst hh; simp at hx
      have hjt : j' ≠ t := by intro hh; subst hh; simp at hx
      simp [hjj, hjt] at hx
      obtain ⟨b', o', q1, q2, q3, q4⟩ := h.obj j' cs' hx
      refine ⟨b', o', by simp [Mu.withLoc, Mu.withTl, hjn', q1], q2, by rw [setCells_size]; exact q3, fun i d hi => ?_⟩
      obtain ⟨g1, g2, v, g3, g4⟩ := q4 i d hi
      have hfarx := hfar b' (o' + i) (fun i' hi' ⟨c1, c2⟩ => by
          have := (m4 i' (cs[i']'hi') (List.getElem?_eq_getElem hi')).1
          rw [← c1, ← c2, g1] at this
          simp only [Own.obj.injEq] at this
          exact hjj this) (fun i' hi' ⟨c1, c2⟩ => by
          have := (h4 i' hi').1
          rw [← c1, ← c2, g1] at this
          cases this)
      refine ⟨?_, by rw [World.frozen?_setCells]; exact g2, v, ?_, g4.mono hle⟩
      · simp only [Mu.withTl, Mu.withLoc]
        rw [if_neg, if_neg]
        · exact g1
        · rintro ⟨c1, c2, c3⟩; exact hfarx ⟨c1, by omega, c3⟩
        · rintro ⟨c1, c2, c3⟩; exact hfarx ⟨c1, c2, by omega⟩
      · rw [hout]
        · exact g3
        · rintro ⟨c1, c2, c3⟩; exact hfarx ⟨c1, by omega, by omega⟩
  · have ht0 : t' ≠ σ.next := by intro hh; subst hh; simp [St.alloc, St.put] at hx
    by_cases htn' : t' = σ.next + 1
    · subst htn'
      refine ⟨b, e + vs.length, k - vs.length, by simp [Mu.withTl], h2, by rw [setCells_size]; exact h3, fun i hi => ?_⟩
      obtain ⟨g1, g2, v, g3⟩ := h4 (vs.length + i) (by omega)
      refine ⟨?_, by rw [World.frozen?_setCells, Nat.add_assoc]; exact g2, v, ?_⟩
      · simp only [Mu.withTl, Mu.withLoc]
        split
        · rename_i hh; exact absurd hh.2.2 (by omega)
        · split
          · rfl
          · rename_i hh; exact absurd ⟨by first | rfl | trivial, by omega, by omega⟩ hh
      · rw [hout, Nat.add_assoc]
        · exact g3
        · rintro ⟨_, _, c3⟩; omega
    · simp only [St.alloc, St.put, htn', ht0, if_false] at hx
      have hjj : t' ≠ j := by intro hh; subst hh; simp at hx
      have hjt : t' ≠ t := by intro hh; subst hh; simp at hx
      simp [hjj, hjt] at hx
      obtain ⟨b', e', k', q1, q2, q3, q4⟩ := h.tok t' hx
      refine ⟨b', e', k', by simp [Mu.withTl, Mu.withLoc, htn', q1], q2, by rw [setCells_size]; exact q3, fun i hi => ?_⟩
      obtain ⟨g1, g2, v, g3⟩ := q4 i hi
      have hfarx := hfar b' (e' + i) (fun i' hi' ⟨c1, c2⟩ => by
          have := (m4 i' (cs[i']'hi') (List.getElem?_eq_getElem hi')).1
          rw [← c1, ← c2, g1] at this
          cases this) (fun i' hi' ⟨c1, c2⟩ => by
          have := (h4 i' hi').1
          rw [← c1, ← c2, g1] at this
          simp only [Own.spare.injEq] at this
          exact hjt this)
      refine ⟨?_, by rw [World.frozen?_setCells]; exact g2, v, ?_⟩
      · simp only [Mu.withTl, Mu.withLoc]
        rw [if_neg, if_neg]
        · exact g1
        · rintro ⟨c1, c2, c3⟩; exact hfarx ⟨c1, by omega, c3⟩
        · rintro ⟨c1, c2, c3⟩; exact hfarx ⟨c1, c2, by omega⟩
      · rw [hout]
        · exact g3
        · rintro ⟨c1, c2, c3⟩; exact hfarx ⟨c1, by omega, by omega⟩
  · rw [setCells_size] at hb
    simp only [Mu.withTl, Mu.withLoc]
    rw [if_neg, if_neg]
    · exact h.blk b' o' hb
    · rintro ⟨c1, _⟩; omega
    · rintro ⟨c1, _⟩; omega
  · simp only [St.alloc, St.put] at hi ⊢
    have := h.nxt i (by omega)
    have c1 : i ≠ σ.next := by omega
    have c2 : i ≠ σ.next + 1 := by omega
    have c3 : i ≠ t := by omega
    have c4 : i ≠ j := by omega
    simp only [c1, c2, c3, c4, if_false, Mu.withTl, Mu.withLoc]
    exact this

/-! The equations, made here once for all texts behind. -/
example := @setAt.eq_1

end Go.Id

/-
  THE IDEAL LAYER, PART C: the operations, with all that types say laid in, and what they come to by contents.
-/
namespace Go.Id
open Go.RowKit
set_option linter.unusedVariables false
set_option linter.unusedSimpArgs false

/-- A datum that fills just one cell. -/
def scal : D → Bool
  | .junk | .agg _ | .tuple _ => false
  | _ => true

/-- The cells that a datum fills. -/
def dcells : D → Option (List D)
  | .agg cs => if cs.all scal then some cs else none
  | .junk | .tuple _ => none
  | d => some [d]

/-- A constant of the program as a datum: one cell. -/
def ofS : Value → D
  | .bool b => .bool b
  | .int k n => .int k n
  | .string s => .str s.data.toList
  | .pointer none => .nilp
  | .slice none 0 0 => .nils
  | .map none => .nilm
  | .nilIface => .nili
  | .nilFunc => .nilf
  | _ => .junk

def ofV : Value → D
  | .agg cs => .agg (cs.toList.map ofS)
  | .tuple ⟨[]⟩ => .tuple []
  | v => ofS v

inductive Opd where
  | t (n : Nat)
  | c (d : D)

def Opd.ev (e : List D) : Opd → D
  | .t n => e.getD n .junk
  | .c d => d

inductive FK where
  | bool | int | str
  deriving DecidableEq

inductive EqK where
  | bool | ptr | slice | map | func | iface | flat (fs : List FK)
  deriving DecidableEq

inductive IOp where
  | mov (x : Opd)
  | pick (c a b : Opd)
  | alloc (zero : List D)
  | box (x : Opd)
  | boxV (x : Opd)
  | build (zero : List D) (parts : List (Nat × Nat × Opd))
  | buildSlice (sz : Nat) (parts : List Opd)
  | load (n : Option Nat) (x : Opd)
  | store (sz : Nat) (a x : Opd)
  | nilCheck (x : Opd)
  | bin (op : BinOp) (x y : Opd)
  | eq (neg : Bool) (k : EqK) (x y : Opd)
  | un (op : UnOp) (x : Opd)
  | toInt (k : IntKind) (x : Opd)
  | toStr (x : Opd)
  | mkIface (t : TypeId) (x : Opd)
  | mkFunc (f : Fn) (first captured : List Opd)
  | sliceStr (x : Opd) (lo hi : Option Opd)
  | sliceSlc (sz : Nat) (x : Opd) (lo hi mx : Option Opd)
  | fieldAddr (off : Nat) (x : Opd)
  | field (off : Nat) (n : Option Nat) (x : Opd)
  | idxAddrS (sz : Nat) (x i : Opd)
  | idxAddrA (n sz : Nat) (x i : Opd)
  | idxStr (x i : Opd)
  | idxArr (n sz : Nat) (m : Option Nat) (x i : Opd)
  | extract (i : Nat) (x : Opd)
  | lenStr (x : Opd)
  | lenSlc (x : Opd)
  | append (sz bytes : Nat) (s x : Opd)
  | appendR (sz bytes : Nat) (s x : Opd)
  | sliceArr (n sz : Nat) (x : Opd) (lo hi : Option Opd)
  | bytesStr (x : Opd)
  | assert (t : TypeId) (zero : D) (x : Opd)
  | mm (mx : Bool) (x y : Opd)
  | allocT (zero : List D) (T : TypeId)
  | boxT (T : TypeId) (x : Opd)
  | nilMeth (tbl : List (Nat × String)) (x : Opd)
  | toUns (x : Opd)
  | appendT (sz bytes : Nat) (el : TypeId) (s x : Opd)
  | sliceData (x : Opd)
  | unsStr (tbl : List Nat) (x n : Opd)
  | ofUns (tbl : List (Nat × Nat × Nat)) (x : Opd)

def cellsAt (c : List D) (off : Nat) : Option Nat → Option D
  | none => match c[off]? with
    | some d => if scal d = true then some d else none
    | none => none
  | some n => if off + n ≤ c.length then some (.agg ((c.drop off).take n)) else none

def iload (n : Option Nat) (x : D) (σ : St) : Option D :=
  match x with
  | .box c off => cellsAt c off n
  | .ref j off => match σ.obj j with
    | some (.cells cs) => cellsAt cs off n
    | _ => none
  | _ => none

def istore (sz : Nat) (a x : D) (σ : St) : Option St :=
  match a with
  | .ref j off => match σ.obj j with
    | some (.cells cs) => match dcells x with
      | some ds => if ds.length = sz ∧ off + ds.length ≤ cs.length then some (σ.put j (some (.cells (setAt cs off ds)))) else none
      | none => none
    | _ => none
  | _ => none

def ibuild : List D → List (Nat × Nat × D) → Option (List D)
  | cs, [] => some cs
  | cs, (off, size, d) :: rest => match dcells d with
    | some ds => if ds.length = size ∧ off + ds.length ≤ cs.length then ibuild (setAt cs off ds) rest else none
    | none => none

def allOf (sz : Nat) : List D → Bool
  | [] => true
  | d :: ds => (match dcells d with | some cs => cs.length == sz | none => false) && allOf sz ds

def ibits (op : BinOp) (k : IntKind) (x y : Int) : Int :=
  let a := BitVec.ofInt k.bits x
  let b := BitVec.ofInt k.bits y
  k.wrap (match op with
    | .and => (a &&& b).toNat
    | .or => (a ||| b).toNat
    | .xor => (a ^^^ b).toNat
    | _ => (a &&& ~~~b).toNat)

def ibinInt (op : BinOp) (k : IntKind) (a b : Int) : Option D :=
  match op with
  | .add => some (.int k (k.wrap (a + b)))
  | .sub => some (.int k (k.wrap (a - b)))
  | .mul => some (.int k (k.wrap (a * b)))
  | .quo => if b = 0 then none else some (.int k (k.wrap (a.tdiv b)))
  | .rem => if b = 0 then none else some (.int k (a.tmod b))
  | .and | .or | .xor | .andNot => some (.int k (ibits op k a b))
  | .eql => some (.bool (a == b))
  | .neq => some (.bool (a != b))
  | .lss => some (.bool (decide (a < b)))
  | .leq => some (.bool (decide (a ≤ b)))
  | .gtr => some (.bool (decide (a > b)))
  | .geq => some (.bool (decide (a ≥ b)))
  | _ => none

def ishift (op : BinOp) (k : IntKind) (a b : Int) : Option D :=
  if b < 0 then none else
  match op with
  | .shl => some (.int k (k.wrap (a * 2 ^ min b.toNat k.bits)))
  | .shr => some (.int k (a.fdiv (2 ^ min b.toNat k.bits)))
  | _ => none

def ibinStr (op : BinOp) (a b : List UInt8) : Option D :=
  match op with
  | .add => if a.length + b.length ≤ 9223372036854775807 then some (.str (a ++ b)) else none
  | .eql => some (.bool (a == b))
  | .neq => some (.bool (!(a == b)))
  | .lss => some (.bool (Op.bytesLess a b))
  | .leq => some (.bool (Op.bytesLess a b || a == b))
  | .gtr => some (.bool (!(Op.bytesLess a b || a == b)))
  | .geq => some (.bool (!Op.bytesLess a b))
  | _ => none

def isShift : BinOp → Bool
  | .shl | .shr => true
  | _ => false

def ibin (op : BinOp) (x y : D) : Option D :=
  match x, y with
  | .int k a, .int k' b => if isShift op then ishift op k a b else if k = k' then ibinInt op k a b else none
  | .str a, .str b => ibinStr op a b
  | _, _ => none

def eqScal : FK → D → D → Option Bool
  | .bool, .bool a, .bool b => some (a == b)
  | .int, .int k a, .int k' b => if k = k' then some (a == b) else none
  | .str, .str a, .str b => some (a == b)
  | _, _, _ => none

def eqFlat : List FK → List D → List D → Option Bool
  | [], [], [] => some true
  | f :: fs, x :: xs, y :: ys => match eqScal f x y, eqFlat fs xs ys with
    | some a, some b => some (a && b)
    | _, _ => none
  | _, _, _ => none

def ieq (k : EqK) (x y : D) : Option Bool :=
  match k, x, y with
  | .bool, .bool a, .bool b => some (a == b)
  | .ptr, .nilp, .nilp => some true
  | .ptr, .ref j o, .ref j' o' => if j = j' ∧ o = o' then some true else none
  | .ptr, .nilp, .box _ _ | .ptr, .nilp, .ref _ _ | .ptr, .box _ _, .nilp | .ptr, .ref _ _, .nilp => some false
  | .slice, .nils, .nils => some true
  | .slice, .nils, .slc _ _ _ | .slice, .nils, .rslc _ _ _ _ _ | .slice, .slc _ _ _, .nils | .slice, .rslc _ _ _ _ _, .nils => some false
  | .map, .nilm, .nilm => some true
  | .map, .nilm, .map _ | .map, .map _, .nilm => some false
  | .func, .nilf, .nilf => some true
  | .func, .nilf, .func _ _ _ | .func, .func _ _ _, .nilf => some false
  | .iface, .nili, .nili => some true
  | .iface, .nili, .iface _ _ | .iface, .iface _ _, .nili => some false
  | .flat fs, .agg xs, .agg ys => eqFlat fs xs ys
  | _, _, _ => none

def iun (op : UnOp) (x : D) : Option D :=
  match op, x with
  | .neg, .int k n => some (.int k (k.wrap (0 - n)))
  | .xor, .int k n => some (.int k (ibits .xor k (if k.signed then -1 else k.max) n))
  | .not, .bool b => some (.bool (!b))
  | _, _ => none

/-- A bound of a slice expression: absent, or an int from 0 up to the limit. -/
def ibound (x : Option D) (dflt lim : Nat) : Option Nat :=
  match x with
  | none => some dflt
  | some (.int _ i) => if 0 ≤ i ∧ i ≤ lim then some i.toNat else none
  | _ => none

def isliceStr (s : List UInt8) (lo hi : Option D) : Option D :=
  match ibound hi s.length s.length with
  | none => none
  | some h => match ibound lo 0 h with
    | none => none
    | some l => some (.str ((s.drop l).take (h - l)))

/-- What is behind a slice of a slice: up to its end, as before; else nothing that may be written. -/
def cutRoom (r : Room) (h n : Nat) : Room := if h = n then r else .closed

def isliceSlc (sz : Nat) (x : D) (lo hi mx : Option D) : Option D :=
  match x, mx with
  | .slc s es r, none => if s = sz then
      match ibound hi es.length es.length with
      | none => none
      | some h => match ibound lo 0 h with
        | none => none
        | some l => some (.slc sz ((es.drop l).take (h - l)) (cutRoom r h es.length))
    else none
  | .slc s es r, some m => if s = sz then
      match ibound (some m) 0 es.length with
      | none => none
      | some m => match ibound hi es.length m with
        | none => none
        | some h => match ibound lo 0 h with
          | none => none
          | some l => if h = m ∧ hi.isSome then some (.slc sz ((es.drop l).take (h - l)) .exact) else none
    else none
  | .rslc j off s len r, none => if s = sz then
      match ibound hi len len with
      | none => none
      | some h => match ibound lo 0 h with
        | none => none
        | some l => if l < h then some (.rslc j (off + l * sz) sz (h - l) (cutRoom r h len)) else none
    else none
  | .nils, none => match ibound hi 0 0 with
      | none => none
      | some h => match ibound lo 0 h with
        | none => none
        | some l => some .nils
  | .nils, some m => match ibound (some m) 0 0 with
      | none => none
      | some m => match ibound hi 0 m with
        | none => none
        | some h => match ibound lo 0 h with
          | none => none
          | some l => if hi.isSome then some .nils else none
  | _, _ => none

def idxAddrS (sz : Nat) (x i : D) : Option D :=
  match x, i with
  | .slc s es r, .int _ n => if s = sz ∧ 0 ≤ n then (es[n.toNat]?).bind fun e => (dcells e).map fun c => .box c 0 else none
  | .rslc j off s len r, .int _ n => if s = sz ∧ 0 ≤ n ∧ n < len then some (.ref j (off + n.toNat * sz)) else none
  | _, _ => none

def idxAddrA (len sz : Nat) (x i : D) : Option D :=
  match x, i with
  | .box c off, .int _ n => if 0 ≤ n ∧ n < len then some (.box c (off + n.toNat * sz)) else none
  | .ref j off, .int _ n => if 0 ≤ n ∧ n < len then some (.ref j (off + n.toNat * sz)) else none
  | _, _ => none

def idxStr (x i : D) : Option D :=
  match x, i with
  | .str s, .int _ n => if 0 ≤ n then (s[n.toNat]?).map fun b => .int .u8 b.toNat else none
  | _, _ => none

def ilen (x : D) : Option D :=
  match x with
  | .nils => some (.int .i64 0)
  | .slc _ es _ => some (.int .i64 es.length)
  | .rslc _ _ _ len _ => some (.int .i64 len)
  | _ => none

def chunks (sz : Nat) : Nat → List D → List D
  | 0, _ => []
  | n + 1, cs => (if sz = 1 then cs.headD .junk else .agg (cs.take sz)) :: chunks sz n (cs.drop sz)

/-- The elements of a slice (a string's bytes). -/
def elems (sz : Nat) (x : D) (σ : St) : Option (List D) :=
  match x with
  | .nils => some []
  | .slc s es _ => if s = sz then some es else none
  | .str s => if sz = 1 then some (s.map fun b => .int .u8 b.toNat) else none
  | _ => none

def iappend (sz bytes : Nat) (s x : D) (σ : St) : Option (D × St) :=
  match elems sz x σ with
  | none => none
  | some xs =>
    if xs.length = 0 then (match s with | .nils => some (s, σ) | .slc s' _ _ => if s' = sz then some (s, σ) else none | _ => none) else
    match s with
    | .nils => if xs.length * bytes ≤ 140737488355328 ∧ xs.length ≤ maxLen then some (.slc sz xs (.opened σ.next), σ.alloc .tok) else none
    | .slc s' es r =>
      if s' = sz ∧ (es.length + xs.length) * bytes ≤ 140737488355328 ∧ es.length + xs.length ≤ maxLen then
        match r with
        | .exact => some (.slc sz (es ++ xs) (.opened σ.next), σ.alloc .tok)
        | .opened t => match σ.obj t with
          | some .tok => some (.slc sz (es ++ xs) (.opened σ.next), (σ.put t none).alloc .tok)
          | _ => none
        | .closed => none
      else none
    | _ => none

def iassert (t : TypeId) (zero x : D) : Option D :=
  match x with
  | .iface u v => if u = t then some (.tuple [v, .bool true]) else some (.tuple [zero, .bool false])
  | .nili => some (.tuple [zero, .bool false])
  | _ => none

/-- A slice of an array that is a variable. -/
def isliceArr (n sz : Nat) (x : D) (lo hi : Option D) : Option D :=
  match x with
  | .ref j off =>
    match ibound hi n n with
    | none => none
    | some h => match ibound lo 0 h with
      | none => none
      | some l => if l < n then some (.rslc j (off + l * sz) sz (h - l) .closed) else none
  | _ => none

def bytesOf : List D → Option (List UInt8)
  | [] => some []
  | .int .u8 n :: r => match bytesOf r with
    | some bs => some (UInt8.ofNat n.toNat :: bs)
    | none => none
  | _ => none

def ibytesStr (x : D) (σ : St) : Option D :=
  match x with
  | .nils => some (.str [])
  | .slc sz es _ => if sz = 1 then (bytesOf es).map .str else none
  | .rslc j off sz len _ => if sz = 1 then (match σ.obj j with
    | some (.cells cs) => if off + len ≤ cs.length then (bytesOf ((cs.drop off).take len)).map .str else none
    | _ => none) else none
  | _ => none

/-- The cells of elements. -/
def flat : List D → Option (List D)
  | [] => some []
  | e :: es => match dcells e, flat es with
    | some cs, some r => some (cs ++ r)
    | _, _ => none

/-- The cells that a slice to be appended to has now: by contents, or as a variable that dies. -/
def iold (sz : Nat) (s : D) (σ : St) : Option (Nat × List D × St) :=
  match s with
  | .nils => some (0, [], σ)
  | .slc s' es .exact => if s' = sz then (flat es).map fun cs => (es.length, cs, σ) else none
  | .rslc j off s' len (.opened t) => if s' = sz then (match σ.obj j, σ.obj t with
    | some (.cells cs), some .tok => if off = 0 ∧ cs.length = len * sz then some (len, cs, (σ.put j none).put t none) else none
    | _, _ => none) else none
  | _ => none

/-- An append whose result may be written. -/
def iappendR (sz bytes : Nat) (s x : D) (σ : St) : Option (D × St) :=
  match elems sz x σ with
  | none => none
  | some xs =>
    if xs.length = 0 then (match s with | .nils => some (s, σ) | .slc s' _ _ => if s' = sz then some (s, σ) else none | .rslc _ _ s' _ _ => if s' = sz then some (s, σ) else none | _ => none) else
    match iold sz s σ, flat xs with
    | some (n, cs, σ'), some ds =>
      if (n + xs.length) * bytes ≤ 140737488355328 ∧ n + xs.length ≤ maxLen then
        some (.rslc σ'.next 0 sz (n + xs.length) (.opened (σ'.next + 1)), (σ'.alloc (.cells (cs ++ ds))).alloc .tok)
      else none
    | _, _ => none

/-- The less, or the greater, of two integers. -/
def imm2 (mx : Bool) (x y : D) : Option D :=
  match x, y with
  | .int k a, .int _ b => some (.int k (if mx then (if b > a then b else a) else (if b < a then b else a)))
  | _, _ => none

/-- An append whose result may be written, and of whose row the shape is known. -/
def iappendT (sz bytes : Nat) (el : TypeId) (s x : D) (σ : St) : Option (D × St) :=
  match elems sz x σ with
  | none => none
  | some xs =>
    if xs.length = 0 then iappendR sz bytes s x σ else
    match s with
    | .nils => match iappendR sz bytes .nils x σ with
      | some (d, σ') => some (d, σ'.alloc (.ty σ.next el none))
      | none => none
    | .slc s' es .exact => match iappendR sz bytes (.slc s' es .exact) x σ with
      | some (d, σ') => some (d, σ'.alloc (.ty σ.next el none))
      | none => none
    | .rslc j off s' len (.opened t) => match σ.obj (j + 2) with
      | some (.ty j' T none) => if j' = j ∧ T = el then (match iappendR sz bytes (.rslc j off s' len (.opened t)) x (σ.put (j + 2) none) with
        | some (d, σ') => some (d, σ'.alloc (.ty σ.next el none))
        | none => none) else none
      | _ => none
    | _ => none
/-- Where a row's first element lies. -/
def isliceData (x : D) : Option D :=
  match x with
  | .nils => some .nilp
  | .rslc j off _ len _ => if len ≠ 0 then some (.ref j off) else none
  | _ => none
/-- Where nothing is known any more of the shape of row 'j', nor of what is no variable. -/
def St.clean (σ : St) (j : Nat) : St :=
  { σ with obj := fun i => if i = j ∨ i = j + 1 then none else match σ.obj i with
    | some (.ty j' T n) => if j' = j then none else match σ.obj j' with
      | some (.cells (_ :: _)) => some (.ty j' T n)
      | _ => none
    | o => o }
def okByte : D → Bool
  | .int .u8 n => decide (0 ≤ n ∧ n < 256)
  | _ => false
/-- The bytes of a row as a text: nobody writes them any more. -/
def iunsStr (tbl : List Nat) (x n : D) (σ : St) : Option (D × St) :=
  match x, n with
  | .nilp, .int .i64 0 => some (.str [], σ)
  | .ref j 0, .int .i64 m => match σ.obj j, σ.obj (j + 1), σ.obj (j + 2) with
    | some (.cells cs), some .tok, some (.ty j' T none) => if j' = j ∧ tbl.contains T = true ∧ m = cs.length ∧ cs ≠ [] ∧ cs.length ≤ 9223372036854775807 ∧ cs.all okByte = true then (match bytesOf cs with
      | some bs => some (.str bs, σ.clean j)
      | none => none) else none
    | _, _, _ => none
  | _, _ => none

/-- Is it no nil? Methods of interfaces' values besides, where the table has them. -/
def inilM (tbl : List (Nat × String)) (x : D) : Option D :=
  match x with
  | .box c o => some (.box c o)
  | .ref j o => some (.ref j o)
  | .func (.func f) a b => some (.func (.func f) a b)
  | .func (.method name) [.iface t d] b => if tbl.any (fun q => Nat.beq q.1 t && q.2 == name) = true then some (.func (.method name) [.iface t d] b) else none
  | _ => none
/-- A pointer seen as an unsafe one: at a variable that may still be written. -/
def itoUns (x : D) (σ : St) : Option D :=
  match x with
  | .nilp => some .nilp
  | .ref j o => match σ.obj j with
    | some (.cells cs) => if o < cs.length then some (.ref j o) else none
    | _ => none
  | _ => none
/-- And back: where what is known of the block's shape says that such a variable lies there. -/
def iofUns (tbl : List (Nat × Nat × Nat)) (x : D) (σ : St) : Option D :=
  match x with
  | .nilp => some .nilp
  | .ref j o => match σ.obj (j + 1) with
    | some (.ty j' T (some n)) => if j' = j ∧ tbl.contains (T, n, o) = true then some (.ref j o) else none
    | _ => none
  | _ => none

def evO (e : List D) : Option Opd → Option D
  | none => none
  | some x => some (x.ev e)

/-- What an operation comes to: a value, and the store behind. -/
def iop : IOp → List D → St → Option (D × St)
  | .mov x, e, σ => some (x.ev e, σ)
  | .pick c a b, e, σ => match c.ev e with
    | .bool t => some (if t then a.ev e else b.ev e, σ)
    | _ => none
  | .alloc zero, e, σ => some (.ref σ.next 0, σ.alloc (.cells zero))
  | .box x, e, σ => match dcells (x.ev e) with
    | some cs => some (.ref σ.next 0, σ.alloc (.cells cs))
    | none => none
  | .boxV x, e, σ => match dcells (x.ev e) with
    | some cs => some (.box cs 0, σ)
    | none => none
  | .build zero parts, e, σ => match ibuild zero (parts.map fun p => (p.1, p.2.1, p.2.2.ev e)) with
    | some cs => some (.agg cs, σ)
    | none => none
  | .buildSlice sz parts, e, σ => if allOf sz (parts.map (·.ev e)) then some (.slc sz (parts.map (·.ev e)) .exact, σ) else none
  | .load n x, e, σ => match iload n (x.ev e) σ with
    | some d => some (d, σ)
    | none => none
  | .store sz a x, e, σ => match istore sz (a.ev e) (x.ev e) σ with
    | some σ' => some (.junk, σ')
    | none => none
  | .nilCheck x, e, σ => match x.ev e with
    | .box c o => some (.box c o, σ)
    | .ref j o => some (.ref j o, σ)
    | .func (.func f) a b => some (.func (.func f) a b, σ)
    | _ => none
  | .bin op x y, e, σ => match ibin op (x.ev e) (y.ev e) with
    | some d => some (d, σ)
    | none => none
  | .eq neg k x y, e, σ => match ieq k (x.ev e) (y.ev e) with
    | some b => some (.bool (if neg then !b else b), σ)
    | none => none
  | .un op x, e, σ => match iun op (x.ev e) with
    | some d => some (d, σ)
    | none => none
  | .toInt k x, e, σ => match x.ev e with
    | .int _ n => some (.int k (k.wrap n), σ)
    | _ => none
  | .toStr x, e, σ => match x.ev e with
    | .str s => some (.str s, σ)
    | _ => none
  | .mkIface t x, e, σ => some (.iface t (x.ev e), σ)
  | .mkFunc f first captured, e, σ => some (.func f (first.map (·.ev e)) (captured.map (·.ev e)), σ)
  | .sliceStr x lo hi, e, σ => match x.ev e with
    | .str s => match isliceStr s (evO e lo) (evO e hi) with
      | some d => some (d, σ)
      | none => none
    | _ => none
  | .sliceSlc sz x lo hi mx, e, σ => match isliceSlc sz (x.ev e) (evO e lo) (evO e hi) (evO e mx) with
    | some d => some (d, σ)
    | none => none
  | .fieldAddr off x, e, σ => match x.ev e with
    | .box c o => some (.box c (o + off), σ)
    | .ref j o => some (.ref j (o + off), σ)
    | _ => none
  | .field off n x, e, σ => match x.ev e with
    | .agg cs => match cellsAt cs off n with
      | some d => some (d, σ)
      | none => none
    | _ => none
  | .idxAddrS sz x i, e, σ => match idxAddrS sz (x.ev e) (i.ev e) with
    | some d => some (d, σ)
    | none => none
  | .idxAddrA n sz x i, e, σ => match idxAddrA n sz (x.ev e) (i.ev e) with
    | some d => some (d, σ)
    | none => none
  | .idxStr x i, e, σ => match idxStr (x.ev e) (i.ev e) with
    | some d => some (d, σ)
    | none => none
  | .idxArr len sz m x i, e, σ => match x.ev e, i.ev e with
    | .agg cs, .int _ n => if 0 ≤ n ∧ n < len then (match cellsAt cs (n.toNat * sz) m with
        | some d => some (d, σ)
        | none => none) else none
    | _, _ => none
  | .extract i x, e, σ => match x.ev e with
    | .tuple ds => match ds[i]? with
      | some d => some (d, σ)
      | none => none
    | _ => none
  | .lenStr x, e, σ => match x.ev e with
    | .str s => some (.int .i64 s.length, σ)
    | _ => none
  | .lenSlc x, e, σ => match ilen (x.ev e) with
    | some d => some (d, σ)
    | none => none
  | .append sz bytes s x, e, σ => iappend sz bytes (s.ev e) (x.ev e) σ
  | .appendR sz bytes s x, e, σ => iappendR sz bytes (s.ev e) (x.ev e) σ
  | .sliceArr n sz x lo hi, e, σ => match isliceArr n sz (x.ev e) (evO e lo) (evO e hi) with
    | some d => some (d, σ)
    | none => none
  | .bytesStr x, e, σ => match ibytesStr (x.ev e) σ with
    | some d => some (d, σ)
    | none => none
  | .assert t zero x, e, σ => match iassert t zero (x.ev e) with
    | some d => some (d, σ)
    | none => none
  | .mm mx x y, e, σ => match imm2 mx (x.ev e) (y.ev e) with
    | some d => some (d, σ)
    | none => none
  | .allocT zero T, e, σ => some (.ref σ.next 0, (σ.alloc (.cells zero)).alloc (.ty σ.next T (some zero.length)))
  | .appendT sz bytes el s x, e, σ => iappendT sz bytes el (s.ev e) (x.ev e) σ
  | .sliceData x, e, σ => match isliceData (x.ev e) with
    | some d => some (d, σ)
    | none => none
  | .unsStr tbl x n, e, σ => iunsStr tbl (x.ev e) (n.ev e) σ
  | .nilMeth tbl x, e, σ => match inilM tbl (x.ev e) with
    | some d => some (d, σ)
    | none => none
  | .boxT T x, e, σ => match dcells (x.ev e) with
    | some cs => some (.ref σ.next 0, (σ.alloc (.cells cs)).alloc (.ty σ.next T (some cs.length)))
    | none => none
  | .toUns x, e, σ => match itoUns (x.ev e) σ with
    | some d => some (d, σ)
    | none => none
  | .ofUns tbl x, e, σ => match iofUns tbl (x.ev e) σ with
    | some d => some (d, σ)
    | none => none

/-! The equations, made here once for all texts behind. -/
example := @iop.eq_1
example := @ibin.eq_1
example := @ibinInt.eq_1
example := @ibinStr.eq_1
example := @ishift.eq_1
example := @isShift.eq_1
example := @ibits.eq_1
example := @ieq.eq_1
example := @eqScal.eq_1
example := @eqFlat.eq_1
example := @iun.eq_1
example := @iload.eq_1
example := @istore.eq_1
example := @cellsAt.eq_1
example := @dcells.eq_1
example := @scal.eq_1
example := @ibuild.eq_1
example := @allOf.eq_1
example := @idxAddrS.eq_1
example := @idxAddrA.eq_1
example := @idxStr.eq_1
example := @ilen.eq_1
example := @isliceStr.eq_1
example := @isliceSlc.eq_1
example := @isliceArr.eq_1
example := @ibound.eq_1
example := @iassert.eq_1
example := @Opd.ev.eq_1
example := @evO.eq_1
example := @elems.eq_1
example := @iappend.eq_1
example := @iappendR.eq_1
example := @iold.eq_1
example := @flat.eq_1
example := @bytesOf.eq_1
example := @ibytesStr.eq_1
example := @cutRoom.eq_1

end Go.Id
