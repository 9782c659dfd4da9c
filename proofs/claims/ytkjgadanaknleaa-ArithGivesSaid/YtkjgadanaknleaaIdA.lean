/-
  THE IDEAL LAYER, PART A: data by value, their relation to the model's values, and the relation of an ideal store to a world.
-/
import Derived.Calls
import Derived.Defers
import Derived.Recover
import Derived.Orders
import Derived.Below
namespace Go.Id
open Go.RowKit
set_option linter.unusedVariables false

/-- What lies behind a slice's end: nothing (an append copies); something that may not be written; room that only this slice may take. -/
inductive Room where
  | exact
  | closed
  | opened (t : Nat)
  deriving DecidableEq, Inhabited

/-- A value by its contents. -/
inductive D where
  | junk
  | bool (b : Bool)
  | int (k : IntKind) (n : Int)
  | str (s : List UInt8)
  | nilp
  | box (c : List D) (off : Nat)
  | ref (j off : Nat)
  | nils
  | slc (sz : Nat) (es : List D) (r : Room)
  | rslc (j off sz len : Nat) (r : Room)
  | agg (cs : List D)
  | tuple (vs : List D)
  | nili
  | iface (t : TypeId) (v : D)
  | nilf
  | func (fn : Fn) (first captured : List D)
  | nilm
  | map (j : Nat)
  deriving Inhabited

/-- Who holds a cell. -/
inductive Own where
  | none
  | imm (v : Value)
  | obj (j : Nat)
  | spare (t : Nat)
  deriving Inhabited

/-- Where the ideal things lie. -/
structure Mu where
  own : Nat → Nat → Own
  loc : Nat → Option (Nat × Nat)
  tl : Nat → Option (Nat × Nat × Nat)
  w0 : World

structure Mu.le (μ ν : Mu) : Prop where
  imm : ∀ b o v, μ.own b o = .imm v → ν.own b o = .imm v
  loc : ∀ j p, μ.loc j = some p → ν.loc j = some p
  tl : ∀ j p, μ.tl j = some p → ν.tl j = some p
  w0 : ν.w0 = μ.w0

theorem Mu.le.refl (μ : Mu) : μ.le μ := ⟨fun _ _ _ h => h, fun _ _ h => h, fun _ _ h => h, rfl⟩
theorem Mu.le.trans {μ ν κ : Mu} (h : μ.le ν) (h' : ν.le κ) : μ.le κ :=
  ⟨fun b o v e => h'.imm _ _ _ (h.imm _ _ _ e), fun j p e => h'.loc _ _ (h.loc _ _ e), fun j p e => h'.tl _ _ (h.tl _ _ e), h'.w0.trans h.w0⟩

def vcells (v : Value) : List Value := match v with | .agg cs => cs.toList | v => [v]
theorem vcells_eq (v : Value) : v.cells.toList = vcells v := by cases v <;> rfl

/-- The value is an aggregate just where the datum is one. -/
def okAgg : D → Value → Bool
  | .junk, _ => true
  | .agg _, .agg _ => true
  | .agg _, _ => false
  | _, .agg _ => false
  | _, _ => true

def ImmAt (μ : Mu) (b o : Nat) (vs : List Value) : Prop := ∀ i v, vs[i]? = some v → μ.own b (o + i) = .imm v

/-- What the room says of the slice's capacity; 'e': where the slice ends. -/
def RoomR (μ : Mu) (r : Room) (b e n cap sz : Nat) : Prop :=
  match r with
  | .exact => cap = n
  | .closed => n ≤ cap
  | .opened t => ∃ k, cap = n + k ∧ (k ≠ 0 → μ.tl t = some (b, e, k * sz))

mutual
/-- The cells 'vs' are the datum's. -/
def CR (μ : Mu) : D → List Value → Prop
  | .junk, _ => True
  | .bool b, vs => vs = [.bool b]
  | .int k n, vs => vs = [.int k n]
  | .str s, vs => vs = [.string ⟨s.toArray⟩]
  | .nilp, vs => vs = [.pointer none]
  | .box c off, vs => ∃ b o, vs = [.pointer (some ⟨b, o + off, none⟩)] ∧ CRat μ c b o
  | .ref j off, vs => ∃ b o, μ.loc j = some (b, o) ∧ vs = [.pointer (some ⟨b, o + off, none⟩)]
  | .nils, vs => vs = [.slice none 0 0]
  | .slc sz es r, vs => ∃ b o cap, vs = [.slice (some ⟨b, o, none⟩) es.length cap] ∧ CRes μ sz es b o ∧ RoomR μ r b (o + es.length * sz) es.length cap sz
  | .rslc j off sz len r, vs => ∃ b o cap, μ.loc j = some (b, o) ∧ vs = [.slice (some ⟨b, o + off, none⟩) len cap] ∧ RoomR μ r b (o + off + len * sz) len cap sz
  | .agg cs, vs => CRl μ cs vs
  | .tuple ds, vs => ∃ ws, vs = [.tuple ⟨ws⟩] ∧ CRt μ ds ws
  | .nili, vs => vs = [.nilIface]
  | .iface t d, vs => ∃ w, vs = [.iface t w] ∧ okAgg d w = true ∧ CR μ d (vcells w)
  | .nilf, vs => vs = [.nilFunc]
  | .func fn first captured, vs => ∃ fs cs, vs = [.func fn ⟨fs⟩ ⟨cs⟩] ∧ CRt μ first fs ∧ CRt μ captured cs
  | .nilm, vs => vs = [.map none]
  | .map j, vs => ∃ b o, μ.loc j = some (b, o) ∧ vs = [.map (some b)]
/-- The cells of a variable in memory that nobody writes any more. -/
def CRat (μ : Mu) : List D → Nat → Nat → Prop
  | [], _, _ => True
  | d :: ds, b, o => (∃ v, μ.own b o = .imm v ∧ CR μ d [v]) ∧ CRat μ ds b (o + 1)
/-- A row of elements of 'sz' cells each in such memory. -/
def CRes (μ : Mu) (sz : Nat) : List D → Nat → Nat → Prop
  | [], _, _ => True
  | e :: es, b, o => (∃ vs, vs.length = sz ∧ vs.all Value.oneCell' = true ∧ ImmAt μ b o vs ∧ CR μ e vs) ∧ CRes μ sz es b (o + sz)
def CRl (μ : Mu) : List D → List Value → Prop
  | [], vs => vs = []
  | d :: ds, vs => ∃ v ws, vs = v :: ws ∧ CR μ d [v] ∧ CRl μ ds ws
def CRt (μ : Mu) : List D → List Value → Prop
  | [], vs => vs = []
  | d :: ds, vs => ∃ v ws, vs = v :: ws ∧ okAgg d v = true ∧ CR μ d (vcells v) ∧ CRt μ ds ws
end

/-- A value is what the datum says. -/
def VR (μ : Mu) (d : D) (v : Value) : Prop := okAgg d v = true ∧ CR μ d (vcells v)

theorem ImmAt.mono {μ ν : Mu} (h : μ.le ν) {b o : Nat} {vs : List Value} (hi : ImmAt μ b o vs) : ImmAt ν b o vs :=
  fun i v e => h.imm _ _ _ (hi i v e)

theorem RoomR.mono {μ ν : Mu} (h : μ.le ν) {r : Room} {b e n cap sz : Nat} (hr : RoomR μ r b e n cap sz) : RoomR ν r b e n cap sz := by
  cases r with
  | exact => exact hr
  | closed => exact hr
  | opened t => obtain ⟨k, h1, h2⟩ := hr; exact ⟨k, h1, fun hk => h.tl _ _ (h2 hk)⟩

mutual
theorem CR.mono {μ ν : Mu} (h : μ.le ν) : ∀ (d : D) (vs : List Value), CR μ d vs → CR ν d vs
  | .junk, _, _ => trivial
  | .bool _, _, e => by simpa only [CR] using e
  | .int _ _, _, e => by simpa only [CR] using e
  | .str _, _, e => by simpa only [CR] using e
  | .nilp, _, e => by simpa only [CR] using e
  | .box c off, vs, e => by
    simp only [CR] at e ⊢
    obtain ⟨b, o, h1, h2⟩ := e
    exact ⟨b, o, h1, CRat.mono h c b o h2⟩
  | .ref j off, vs, e => by
    simp only [CR] at e ⊢
    obtain ⟨b, o, h1, h2⟩ := e
    exact ⟨b, o, h.loc _ _ h1, h2⟩
  | .nils, _, e => by simpa only [CR] using e
  | .slc sz es r, vs, e => by
    simp only [CR] at e ⊢
    obtain ⟨b, o, cap, h1, h2, h3⟩ := e
    exact ⟨b, o, cap, h1, CRes.mono h sz es b o h2, h3.mono h⟩
  | .rslc j off sz len r, vs, e => by
    simp only [CR] at e ⊢
    obtain ⟨b, o, cap, h1, h2, h3⟩ := e
    exact ⟨b, o, cap, h.loc _ _ h1, h2, h3.mono h⟩
  | .agg cs, vs, e => by
    simp only [CR] at e ⊢
    exact CRl.mono h cs vs e
  | .tuple ds, vs, e => by
    simp only [CR] at e ⊢
    obtain ⟨ws, h1, h2⟩ := e
    exact ⟨ws, h1, CRt.mono h ds ws h2⟩
  | .nili, _, e => by simpa only [CR] using e
  | .iface t d, vs, e => by
    simp only [CR] at e ⊢
    obtain ⟨w, h1, h2, h3⟩ := e
    exact ⟨w, h1, h2, CR.mono h d _ h3⟩
  | .nilf, _, e => by simpa only [CR] using e
  | .func fn first captured, vs, e => by
    simp only [CR] at e ⊢
    obtain ⟨fs, cs, h1, h2, h3⟩ := e
    exact ⟨fs, cs, h1, CRt.mono h first fs h2, CRt.mono h captured cs h3⟩
  | .nilm, _, e => by simpa only [CR] using e
  | .map j, vs, e => by
    simp only [CR] at e ⊢
    obtain ⟨b, o, h1, h2⟩ := e
    exact ⟨b, o, h.loc _ _ h1, h2⟩
theorem CRat.mono {μ ν : Mu} (h : μ.le ν) : ∀ (ds : List D) (b o : Nat), CRat μ ds b o → CRat ν ds b o
  | [], _, _, _ => by simp only [CRat]
  | d :: ds, b, o, e => by
    simp only [CRat] at e ⊢
    obtain ⟨⟨v, h1, h2⟩, h3⟩ := e
    exact ⟨⟨v, h.imm _ _ _ h1, CR.mono h d _ h2⟩, CRat.mono h ds b (o + 1) h3⟩
theorem CRes.mono {μ ν : Mu} (h : μ.le ν) (sz : Nat) : ∀ (es : List D) (b o : Nat), CRes μ sz es b o → CRes ν sz es b o
  | [], _, _, _ => by simp only [CRes]
  | e :: es, b, o, x => by
    simp only [CRes] at x ⊢
    obtain ⟨⟨vs, h0, hc, h1, h2⟩, h3⟩ := x
    exact ⟨⟨vs, h0, hc, h1.mono h, CR.mono h e vs h2⟩, CRes.mono h sz es b (o + sz) h3⟩
theorem CRl.mono {μ ν : Mu} (h : μ.le ν) : ∀ (ds : List D) (vs : List Value), CRl μ ds vs → CRl ν ds vs
  | [], _, e => by simpa only [CRl] using e
  | d :: ds, vs, e => by
    simp only [CRl] at e ⊢
    obtain ⟨v, ws, h1, h2, h3⟩ := e
    exact ⟨v, ws, h1, CR.mono h d _ h2, CRl.mono h ds ws h3⟩
theorem CRt.mono {μ ν : Mu} (h : μ.le ν) : ∀ (ds : List D) (vs : List Value), CRt μ ds vs → CRt ν ds vs
  | [], _, e => by simpa only [CRt] using e
  | d :: ds, vs, e => by
    simp only [CRt] at e ⊢
    obtain ⟨v, ws, h1, h0, h2, h3⟩ := e
    exact ⟨v, ws, h1, h0, CR.mono h d _ h2, CRt.mono h ds ws h3⟩
end

theorem VR.mono {μ ν : Mu} (h : μ.le ν) {d : D} {v : Value} (e : VR μ d v) : VR ν d v := ⟨e.1, CR.mono h _ _ e.2⟩

/-- Things of the ideal store. -/
inductive Ob where
  | cells (cs : List D)
  | tok

structure St where
  obj : Nat → Option Ob
  next : Nat

structure Sim (μ : Mu) (σ : St) (w : World) : Prop where
  imm : ∀ b o v, μ.own b o = .imm v → w.cell? ⟨b, o, none⟩ = some v
  obj : ∀ j cs, σ.obj j = some (.cells cs) → ∃ b o, μ.loc j = some (b, o) ∧ μ.w0.heap.size ≤ b ∧ b < w.heap.size ∧
    ∀ i d, cs[i]? = some d → μ.own b (o + i) = .obj j ∧ w.frozen? ⟨b, o + i, none⟩ = false ∧ ∃ v, w.cell? ⟨b, o + i, none⟩ = some v ∧ CR μ d [v]
  tok : ∀ t, σ.obj t = some .tok → ∃ b e k, μ.tl t = some (b, e, k) ∧ μ.w0.heap.size ≤ b ∧ b < w.heap.size ∧
    ∀ i, i < k → μ.own b (e + i) = .spare t ∧ w.frozen? ⟨b, e + i, none⟩ = false ∧ ∃ v, w.cell? ⟨b, e + i, none⟩ = some v
  blk : ∀ b o, w.heap.size ≤ b → μ.own b o = .none
  nxt : ∀ j, σ.next ≤ j → σ.obj j = none ∧ μ.loc j = none ∧ μ.tl j = none
  bel : Below μ.w0.heap.size μ.w0 w

end Go.Id
