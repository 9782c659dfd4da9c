/-
  THE IDEAL LAYER, PART D: each operation of the model does what the ideal one says.
-/
import Derived.Test.YthiidchbaicfgaaGreatDoorIdC
import Derived.Laws.Tables
import Derived.Laws.StructEq
namespace Go.Id
open Go.RowKit
set_option linter.unusedVariables false
set_option linter.unusedSimpArgs false

structure ER (μ : Mu) (e : List D) (a : Act) : Prop where
  len : e.length = a.tmps.size
  get : ∀ n, VR μ (e.getD n .junk) (a.tmps.getD n undef)

theorem ER.mono {μ ν : Mu} (h : μ.le ν) {e : List D} {a : Act} (x : ER μ e a) : ER ν e a := ⟨x.len, fun n => (x.get n).mono h⟩

theorem VR.junk {μ : Mu} (v : Value) : VR μ .junk v := ⟨rfl, trivial⟩

theorem VR.one {μ : Mu} {d : D} {v : Value} (h : VR μ d v) (hd : scal d = true ∨ ∃ ds, d = .tuple ds) : CR μ d [v] := by
  obtain ⟨h1, h2⟩ := h
  have : vcells v = [v] := by
    cases v <;> first | rfl | (exfalso; rcases hd with hd | ⟨ds, rfl⟩ <;> (try cases d) <;> simp_all [okAgg, scal])
  rwa [this] at h2

theorem VR.of_one {μ : Mu} {d : D} {v : Value} (h : CR μ d [v]) (hv : vcells v = [v]) (ha : okAgg d v = true) : VR μ d v := ⟨ha, by rwa [hv]⟩

section inv
variable {μ : Mu} {v : Value}
theorem VR.bool {b : Bool} (h : VR μ (.bool b) v) : v = .bool b := by simpa [CR] using h.one (.inl rfl)
theorem VR.int {k : IntKind} {n : Int} (h : VR μ (.int k n) v) : v = .int k n := by simpa [CR] using h.one (.inl rfl)
theorem VR.str {s : List UInt8} (h : VR μ (.str s) v) : v = .string ⟨s.toArray⟩ := by simpa [CR] using h.one (.inl rfl)
theorem VR.nilp (h : VR μ .nilp v) : v = .pointer none := by simpa [CR] using h.one (.inl rfl)
theorem VR.nils (h : VR μ .nils v) : v = .slice none 0 0 := by simpa [CR] using h.one (.inl rfl)
theorem VR.nili (h : VR μ .nili v) : v = .nilIface := by simpa [CR] using h.one (.inl rfl)
theorem VR.nilf (h : VR μ .nilf v) : v = .nilFunc := by simpa [CR] using h.one (.inl rfl)
theorem VR.nilm (h : VR μ .nilm v) : v = .map none := by simpa [CR] using h.one (.inl rfl)
theorem VR.box {c : List D} {off : Nat} (h : VR μ (.box c off) v) : ∃ b o, v = .pointer (some ⟨b, o + off, none⟩) ∧ CRat μ c b o := by
  simpa [CR] using h.one (.inl rfl)
theorem VR.ref {j off : Nat} (h : VR μ (.ref j off) v) : ∃ b o, μ.loc j = some (b, o) ∧ v = .pointer (some ⟨b, o + off, none⟩) := by
  simpa [CR] using h.one (.inl rfl)
theorem VR.map {j : Nat} (h : VR μ (.map j) v) : ∃ b, (∃ o, μ.loc j = some (b, o)) ∧ v = .map (some b) := by
  simpa [CR] using h.one (.inl rfl)
theorem VR.slc {sz : Nat} {es : List D} {r : Room} (h : VR μ (.slc sz es r) v) :
    ∃ b o cap, v = .slice (some ⟨b, o, none⟩) es.length cap ∧ CRes μ sz es b o ∧ RoomR μ r b (o + es.length * sz) es.length cap sz := by
  simpa [CR] using h.one (.inl rfl)
theorem VR.rslc {j off sz len : Nat} {r : Room} (h : VR μ (.rslc j off sz len r) v) :
    ∃ b o cap, μ.loc j = some (b, o) ∧ v = .slice (some ⟨b, o + off, none⟩) len cap ∧ RoomR μ r b (o + off + len * sz) len cap sz := by
  simpa [CR] using h.one (.inl rfl)
theorem VR.tuple {ds : List D} (h : VR μ (.tuple ds) v) : ∃ ws, v = .tuple ⟨ws⟩ ∧ CRt μ ds ws := by
  simpa [CR] using h.one (.inr ⟨_, rfl⟩)
theorem VR.iface {t : TypeId} {d : D} (h : VR μ (.iface t d) v) : ∃ w, v = .iface t w ∧ VR μ d w := by
  have := h.one (.inl rfl)
  simp only [CR] at this
  obtain ⟨w, h1, h2, h3⟩ := this
  exact ⟨w, by simpa using h1, h2, h3⟩
theorem VR.func {f : Fn} {a b : List D} (h : VR μ (.func f a b) v) : ∃ fs cs, v = .func f ⟨fs⟩ ⟨cs⟩ ∧ CRt μ a fs ∧ CRt μ b cs := by
  simpa [CR] using h.one (.inl rfl)
theorem VR.agg {cs : List D} (h : VR μ (.agg cs) v) : ∃ vs, v = .agg ⟨vs⟩ ∧ CRl μ cs vs := by
  obtain ⟨h1, h2⟩ := h
  cases v <;> simp [okAgg] at h1
  rename_i c
  exact ⟨c.toList, rfl, by simpa [CR, vcells] using h2⟩
end inv

section mk
variable {μ : Mu}
theorem VR.mk_bool (b : Bool) : VR μ (.bool b) (.bool b) := ⟨rfl, by simp [CR, vcells]⟩
theorem VR.mk_int (k : IntKind) (n : Int) : VR μ (.int k n) (.int k n) := ⟨rfl, by simp [CR, vcells]⟩
theorem VR.mk_str (s : List UInt8) : VR μ (.str s) (.string ⟨s.toArray⟩) := ⟨rfl, by simp [CR, vcells]⟩
theorem VR.mk_nils : VR μ .nils (.slice none 0 0) := ⟨rfl, by simp [CR, vcells]⟩
theorem VR.mk_box {c : List D} {off b o : Nat} (h : CRat μ c b o) : VR μ (.box c off) (.pointer (some ⟨b, o + off, none⟩)) := by
  refine ⟨rfl, ?_⟩
  simp only [CR, vcells]
  exact ⟨b, o, rfl, h⟩
theorem VR.mk_ref {j off b o : Nat} (h : μ.loc j = some (b, o)) : VR μ (.ref j off) (.pointer (some ⟨b, o + off, none⟩)) := by
  refine ⟨rfl, ?_⟩
  simp only [CR, vcells]
  exact ⟨b, o, h, rfl⟩
theorem VR.mk_slc {sz : Nat} {es : List D} {r : Room} {b o cap n : Nat} (hn : n = es.length) (h : CRes μ sz es b o) (hr : RoomR μ r b (o + es.length * sz) es.length cap sz) :
    VR μ (.slc sz es r) (.slice (some ⟨b, o, none⟩) n cap) := by
  subst hn
  refine ⟨rfl, ?_⟩
  simp only [CR, vcells]
  exact ⟨b, o, cap, rfl, h, hr⟩
theorem VR.mk_rslc {j off sz len : Nat} {r : Room} {b o cap : Nat} (h : μ.loc j = some (b, o)) (hr : RoomR μ r b (o + off + len * sz) len cap sz) :
    VR μ (.rslc j off sz len r) (.slice (some ⟨b, o + off, none⟩) len cap) := by
  refine ⟨rfl, ?_⟩
  simp only [CR, vcells]
  exact ⟨b, o, cap, h, rfl, hr⟩
theorem VR.mk_agg {cs : List D} {vs : List Value} (h : CRl μ cs vs) : VR μ (.agg cs) (.agg ⟨vs⟩) := by
  refine ⟨rfl, ?_⟩
  simpa [CR, vcells] using h
theorem VR.mk_tuple {ds : List D} {vs : List Value} (h : CRt μ ds vs) : VR μ (.tuple ds) (.tuple ⟨vs⟩) := by
  refine ⟨rfl, ?_⟩
  simp only [CR, vcells]
  exact ⟨vs, rfl, h⟩
theorem VR.mk_iface {t : TypeId} {d : D} {v : Value} (h : VR μ d v) : VR μ (.iface t d) (.iface t v) := by
  refine ⟨rfl, ?_⟩
  simp only [CR, vcells]
  exact ⟨v, rfl, h.1, h.2⟩
theorem VR.mk_func {f : Fn} {a b : List D} {va vb : List Value} (ha : CRt μ a va) (hb : CRt μ b vb) : VR μ (.func f a b) (.func f ⟨va⟩ ⟨vb⟩) := by
  refine ⟨rfl, ?_⟩
  simp only [CR, vcells]
  exact ⟨va, vb, rfl, ha, hb⟩
end mk

theorem CRt.of_map {μ : Mu} {α : Type} (f : α → D) (g : α → Value) : ∀ (l : List α), (∀ x ∈ l, VR μ (f x) (g x)) → CRt μ (l.map f) (l.map g)
  | [], _ => by simp [CRt]
  | x :: l, h => by
    have hx := h x (by simp)
    simp only [List.map_cons, CRt]
    exact ⟨g x, l.map g, rfl, hx.1, hx.2, CRt.of_map f g l (fun y hy => h y (by simp [hy]))⟩

theorem CRt.get {μ : Mu} : ∀ {ds : List D} {vs : List Value}, CRt μ ds vs → ∀ {i : Nat} {d : D}, ds[i]? = some d → ∃ v, vs[i]? = some v ∧ VR μ d v
  | [], _, _, _, _, e => by simp at e
  | d :: ds, vs, h, i, x, e => by
    simp only [CRt] at h
    obtain ⟨v, ws, rfl, h1, h2, h3⟩ := h
    cases i with
    | zero => simp at e; subst e; exact ⟨v, rfl, h1, h2⟩
    | succ i => simpa using CRt.get h3 (i := i) (by simpa using e)

theorem CRt.length {μ : Mu} : ∀ {ds : List D} {vs : List Value}, CRt μ ds vs → vs.length = ds.length
  | [], _, h => by simp only [CRt] at h; simp [h]
  | d :: ds, vs, h => by
    simp only [CRt] at h
    obtain ⟨v, ws, rfl, _, _, h3⟩ := h
    simp [CRt.length h3]

theorem CRt.append {μ : Mu} : ∀ {ds es : List D} {vs ws : List Value}, CRt μ ds vs → CRt μ es ws → CRt μ (ds ++ es) (vs ++ ws)
  | [], es, vs, ws, h, h' => by simp only [CRt] at h; subst h; simpa using h'
  | d :: ds, es, vs, ws, h, h' => by
    simp only [CRt] at h
    obtain ⟨v, us, rfl, h1, h2, h3⟩ := h
    simp only [List.cons_append, CRt]
    exact ⟨v, us ++ ws, rfl, h1, h2, CRt.append h3 h'⟩

/-! Constants. -/
theorem CR.ofS {μ : Mu} (v : Value) : CR μ (ofS v) [v] := by
  unfold Id.ofS
  split <;> simp [CR]
theorem CRl.map_ofS {μ : Mu} : ∀ (l : List Value), CRl μ (l.map Id.ofS) l
  | [] => by simp [CRl]
  | v :: l => by
    simp only [List.map_cons, CRl]
    exact ⟨v, l, rfl, CR.ofS v, CRl.map_ofS l⟩
theorem okAgg_ofS (v : Value) (h : ∀ c, v ≠ .agg c) : okAgg (Id.ofS v) v = true := by
  unfold Id.ofS
  split <;> simp_all [okAgg]
theorem VR.ofV {μ : Mu} (v : Value) : VR μ (Id.ofV v) v := by
  unfold Id.ofV
  split
  · rename_i cs
    exact VR.mk_agg (vs := cs.toList) (CRl.map_ofS _)
  · exact VR.mk_tuple (vs := []) (by simp [CRt])
  · rename_i hv _
    have hne : ∀ c, v ≠ .agg c := fun c hc => hv c hc
    refine ⟨okAgg_ofS v hne, ?_⟩
    have : vcells v = [v] := by cases v <;> first | rfl | exact absurd rfl (hne _)
    rw [this]
    exact CR.ofS v

def ropd : Operand → Option Opd
  | .tmp t => some (.t t)
  | .const v => some (.c (ofV v))
  | .func f => some (.c (.func (.func f) [] []))
  | .global _ => none

theorem ropd_sound {μ : Mu} {e : List D} {a : Act} (he : ER μ e a) {x : Operand} {o : Opd} (h : ropd x = some o) : VR μ (o.ev e) (a.eval x) := by
  cases x <;> simp [ropd] at h <;> subst h
  · exact he.get _
  · exact VR.ofV _
  · exact VR.mk_func (va := []) (vb := []) (by simp [CRt]) (by simp [CRt])

/-! Cells. -/
theorem scal_cell {μ : Mu} {d : D} {v : Value} (hs : scal d = true) (h : CR μ d [v]) : v.oneCell' = true ∧ vcells v = [v] ∧ okAgg d v = true := by
  cases d <;> simp [scal] at hs <;> simp only [CR] at h <;> first
    | (simp only [List.cons.injEq, and_true] at h; subst h; exact ⟨rfl, rfl, rfl⟩)
    | (obtain ⟨_, _, h1, _⟩ := h; simp only [List.cons.injEq, and_true] at h1; subst h1; exact ⟨rfl, rfl, rfl⟩)
    | (obtain ⟨_, _, _, h1⟩ := h; simp only [List.cons.injEq, and_true] at h1; subst h1; exact ⟨rfl, rfl, rfl⟩)
    | (obtain ⟨_, _, _, h1, _⟩ := h; simp only [List.cons.injEq, and_true] at h1; subst h1; exact ⟨rfl, rfl, rfl⟩)
    | (obtain ⟨_, _, _, _, h1, _⟩ := h; simp only [List.cons.injEq, and_true] at h1; subst h1; exact ⟨rfl, rfl, rfl⟩)
    | (obtain ⟨_, h1, _⟩ := h; simp only [List.cons.injEq, and_true] at h1; subst h1; exact ⟨rfl, rfl, rfl⟩)
    | (obtain ⟨h1, h2⟩ := h; simp only [List.cons.injEq, and_true] at h1; subst h1; cases v <;> first | exact ⟨rfl, rfl, rfl⟩ | (simp [Value.oneCell'] at h2))

theorem CRl.oneCell {μ : Mu} : ∀ {ds : List D} {vs : List Value}, CRl μ ds vs → ds.all scal = true → vs.all Value.oneCell' = true
  | [], vs, h, _ => by simp only [CRl] at h; subst h; rfl
  | d :: ds, vs, h, hs => by
    simp only [CRl] at h
    obtain ⟨v, ws, rfl, h2, h3⟩ := h
    simp only [List.all_cons, Bool.and_eq_true] at hs ⊢
    exact ⟨(scal_cell hs.1 h2).1, CRl.oneCell h3 hs.2⟩

/-- The cells of a datum are the value's. -/
theorem dcells_sound {μ : Mu} {d : D} {v : Value} {cs : List D} (h : VR μ d v) (hc : dcells d = some cs) :
    CRl μ cs (vcells v) ∧ (vcells v).all Value.oneCell' = true ∧ (vcells v).length = cs.length ∧ CR μ d (vcells v) := by
  cases d with
  | agg ds =>
    simp only [dcells] at hc
    split at hc
    · rename_i hs
      simp only [Option.some.injEq] at hc
      subst hc
      obtain ⟨vs, rfl, hv⟩ := h.agg
      exact ⟨hv, hv.oneCell hs, hv.length, h.2⟩
    · cases hc
  | junk => simp [dcells] at hc
  | tuple ds => simp [dcells] at hc
  | _ =>
    simp only [dcells, Option.some.injEq] at hc
    subst hc
    have h1 := h.one (.inl rfl)
    obtain ⟨g1, g2, g3⟩ := scal_cell rfl h1
    rw [g2]
    refine ⟨?_, by simp [g1], rfl, h1⟩
    simp only [CRl]
    exact ⟨v, [], rfl, h1, rfl⟩

/-- And the other way round. -/
theorem CR.cells {μ : Mu} {d : D} {vs : List Value} {cs : List D} (h : CR μ d vs) (hc : dcells d = some cs) : CRl μ cs vs := by
  cases d with
  | agg ds =>
    simp only [dcells] at hc
    split at hc
    · simp only [Option.some.injEq] at hc
      subst hc
      simpa only [CR] using h
    · cases hc
  | junk => simp [dcells] at hc
  | tuple ds => simp [dcells] at hc
  | opq w =>
    simp only [dcells, Option.some.injEq] at hc
    subst hc
    have h' := h
    simp only [CR] at h
    obtain ⟨rfl, _⟩ := h
    simp only [CRl]
    exact ⟨_, [], rfl, h', rfl⟩
  | nilp | nils | nili | nilf | nilm | bool | int | str =>
    simp only [dcells, Option.some.injEq] at hc
    subst hc
    have h' := h
    simp only [CR] at h
    subst h
    simp only [CRl]
    exact ⟨_, [], rfl, h', rfl⟩
  | box | iface =>
    simp only [dcells, Option.some.injEq] at hc
    subst hc
    have h' := h
    simp only [CR] at h
    first
      | (obtain ⟨b, o, rfl, _⟩ := h; simp only [CRl]; exact ⟨_, [], rfl, h', rfl⟩)
      | (obtain ⟨w, rfl, _⟩ := h; simp only [CRl]; exact ⟨_, [], rfl, h', rfl⟩)
  | slc =>
    simp only [dcells, Option.some.injEq] at hc
    subst hc
    have h' := h
    simp only [CR] at h
    obtain ⟨b, o, cap, rfl, _⟩ := h; simp only [CRl]; exact ⟨_, [], rfl, h', rfl⟩
  | rslc =>
    simp only [dcells, Option.some.injEq] at hc
    subst hc
    have h' := h
    simp only [CR] at h
    obtain ⟨b, o, cap, _, rfl, _⟩ := h; simp only [CRl]; exact ⟨_, [], rfl, h', rfl⟩
  | ref | map =>
    simp only [dcells, Option.some.injEq] at hc
    subst hc
    have h' := h
    simp only [CR] at h
    obtain ⟨b, o, _, rfl⟩ := h; simp only [CRl]; exact ⟨_, [], rfl, h', rfl⟩
  | func =>
    simp only [dcells, Option.some.injEq] at hc
    subst hc
    have h' := h
    simp only [CR] at h
    obtain ⟨b, o, rfl, _⟩ := h; simp only [CRl]; exact ⟨_, [], rfl, h', rfl⟩

theorem CRat.get {μ : Mu} : ∀ {ds : List D} {b o : Nat}, CRat μ ds b o → ∀ {i : Nat} {d : D}, ds[i]? = some d → ∃ v, μ.own b (o + i) = .imm v ∧ CR μ d [v]
  | [], _, _, _, _, _, e => by simp at e
  | d :: ds, b, o, h, i, x, e => by
    simp only [CRat] at h
    obtain ⟨⟨v, h1, h2⟩, h3⟩ := h
    cases i with
    | zero => simp at e; subst e; exact ⟨v, by simpa using h1, h2⟩
    | succ i =>
      have := CRat.get h3 (i := i) (d := x) (by simpa using e)
      rwa [show o + 1 + i = o + (i + 1) by omega] at this

theorem CRat.of_l {μ : Mu} : ∀ {ds : List D} {vs : List Value} {b o : Nat}, CRl μ ds vs → ImmAt μ b o vs → CRat μ ds b o
  | [], _, _, _, _, _ => by simp only [CRat]
  | d :: ds, vs, b, o, h, hi => by
    simp only [CRl] at h
    obtain ⟨v, ws, rfl, h2, h3⟩ := h
    simp only [CRat]
    refine ⟨⟨v, by simpa using hi 0 v rfl, h2⟩, CRat.of_l h3 (fun i u hu => ?_)⟩
    rw [show o + 1 + i = o + (i + 1) by omega]
    exact hi (i + 1) u (by simpa using hu)

theorem addr_add (b o n : Nat) : (⟨b, o, none⟩ : Addr).add n = ⟨b, o + n, none⟩ := by
  unfold Addr.add; split <;> simp_all

/-- A part of a row of cells as one value: what a load gives. -/
theorem cellsAt_sound {μ : Mu} {cs : List D} {off : Nat} {n : Option Nat} {d : D} (h : cellsAt cs off n = some d) (f : Nat → Option Value)
    (hf : ∀ i x, cs[i]? = some x → ∃ v, f i = some v ∧ CR μ x [v]) :
    match n with
    | none => ∃ v, f off = some v ∧ VR μ d v
    | some n => ∃ vs, vs.length = n ∧ (∀ j v, vs[j]? = some v → f (off + j) = some v) ∧ VR μ d (.agg ⟨vs⟩) := by
  cases n with
  | none =>
    simp only [cellsAt] at h
    split at h
    · rename_i x hx
      split at h
      · rename_i hs
        simp only [Option.some.injEq] at h
        subst h
        obtain ⟨v, hv, hr⟩ := hf off x hx
        obtain ⟨_, g2, g3⟩ := scal_cell hs hr
        exact ⟨v, hv, g3, by rwa [g2]⟩
      · cases h
    · cases h
  | some n =>
    simp only [cellsAt] at h
    split at h
    · rename_i hl
      simp only [Option.some.injEq] at h
      subst h
      have key : ∀ (m o : Nat), o + m ≤ cs.length → ∃ vs, vs.length = m ∧ (∀ j v, vs[j]? = some v → f (o + j) = some v) ∧ CRl μ ((cs.drop o).take m) vs := by
        intro m
        induction m with
        | zero => intro o _; exact ⟨[], rfl, by simp, by simp [CRl]⟩
        | succ m ih =>
          intro o ho
          obtain ⟨v, hv, hr⟩ := hf o (cs[o]'(by omega)) (List.getElem?_eq_getElem (by omega))
          obtain ⟨vs, g1, g2, g3⟩ := ih (o + 1) (by omega)
          refine ⟨v :: vs, by simp [g1], fun j u hu => ?_, ?_⟩
          · cases j with
            | zero => simp at hu; subst hu; simpa using hv
            | succ j => rw [show o + (j + 1) = o + 1 + j by omega]; exact g2 j u (by simpa using hu)
          · rw [List.drop_eq_getElem_cons (by omega : o < cs.length), List.take_succ_cons]
            simp only [CRl]
            exact ⟨v, vs, rfl, hr, g3⟩
      obtain ⟨vs, g1, g2, g3⟩ := key n off hl
      exact ⟨vs, g1, g2, VR.mk_agg g3⟩
    · cases h

end Go.Id

/-
  THE IDEAL LAYER, PART E: each operation of the model, run, against the ideal one.
-/
namespace Go.Id
open Go.RowKit
set_option linter.unusedVariables false
set_option linter.unusedSimpArgs false

/-- The computation ends with what the datum says, in a world that fits. -/
def Does (P : Program) (μ : Mu) (s : Sem Value) (w : World) (d : D) (σ : St) : Prop :=
  ∃ μ' v w', μ.le μ' ∧ Sim μ' σ w' ∧ VR μ' d v ∧ s.run P w = .ok v w'

/-- How a type lies in cells: none: one cell; else an aggregate of so many. -/
def aggN (P : Program) (t : TypeId) : Option (Option Nat) :=
  match P.underlying t with
  | some (.struct _) | some (.array _ _) => (P.info? t).map fun i => some i.size
  | some _ => some none
  | none => none

section
variable {P : Program} {μ : Mu} {σ : St} {w : World}

theorem Does.of (hs : Sim μ σ w) {s : Sem Value} {d : D} {v : Value} (hv : VR μ d v) (hr : s.run P w = .ok v w) : Does P μ s w d σ :=
  ⟨μ, v, w, Mu.le.refl μ, hs, hv, hr⟩

theorem run_isAgg_of {t : TypeId} {n : Option Nat} (h : aggN P t = some n) (w : World) : (isAgg t).run P w = .ok n.isSome w := by
  unfold aggN at h
  cases hu : P.underlying t with
  | none => simp [hu] at h
  | some d =>
    simp only [isAgg, Sem.run_bind, run_underlying hu, Result.andThen_ok]
    cases d <;> simp [hu] at h <;> first
      | (subst h; rfl)
      | (obtain ⟨i, _, rfl⟩ := h; rfl)

theorem run_sizeOf_of {t : TypeId} {n : Nat} (h : aggN P t = some (some n)) (w : World) : (sizeOf t).run P w = .ok n w := by
  unfold aggN at h
  cases hu : P.underlying t with
  | none => simp [hu] at h
  | some d =>
    cases d <;> simp [hu] at h <;> (obtain ⟨i, hi, rfl⟩ := h; simp [sizeOf, typeInfo, hi])

theorem run_sizeOf' {t : TypeId} {i : TypeInfo} (h : P.info? t = some i) (w : World) : (sizeOf t).run P w = .ok i.size w := by
  simp [sizeOf, typeInfo, h]

/-- Cells of the datum 'x' as places in the world. -/
theorem iload_sound (hs : Sim μ σ w) {t : TypeId} {n : Option Nat} (ht : aggN P t = some n) {x d : D} {v : Value} (hv : VR μ x v) (h : iload n x σ = some d) :
    ∃ u, (Instr.loadAt t v).run P w = .ok u w ∧ VR μ d u := by
  have key : ∀ (cs : List D) (b o off : Nat), cellsAt cs off n = some d → (∀ i x, cs[i]? = some x → ∃ v, w.cell? ⟨b, o + i, none⟩ = some v ∧ CR μ x [v]) →
      v = .pointer (some ⟨b, o + off, none⟩) → ∃ u, (Instr.loadAt t v).run P w = .ok u w ∧ VR μ d u := by
    intro cs b o off hc hf hv
    subst hv
    have := cellsAt_sound hc (fun i => w.cell? ⟨b, o + i, none⟩) hf
    cases n with
    | none =>
      obtain ⟨u, hu, hr⟩ := this
      refine ⟨u, ?_, hr⟩
      simp [Instr.loadAt, Instr.sureAddr, loadVar, run_isAgg_of ht, hu]
    | some n =>
      obtain ⟨vs, hl, hu, hr⟩ := this
      refine ⟨.agg ⟨vs⟩, ?_, hr⟩
      have hload := run_loadCells_list (P := P) w ⟨b, o + off, none⟩ vs (fun j v hj => by
        rw [addr_add, Nat.add_assoc]; exact hu j v hj)
      simp [Instr.loadAt, Instr.sureAddr, loadVar, run_isAgg_of ht, run_sizeOf_of ht, ← hl, hload]
  cases x <;> simp [iload] at h
  case box c off =>
    obtain ⟨b, o, rfl, hc⟩ := hv.box
    exact key c b o off h (fun i x hx => by
      obtain ⟨v, h1, h2⟩ := hc.get hx
      exact ⟨v, hs.imm _ _ _ h1, h2⟩) rfl
  case ref j off =>
    obtain ⟨b, o, hl, rfl⟩ := hv.ref
    split at h
    · rename_i cs hj
      obtain ⟨b', o', h1, _, _, h4⟩ := hs.obj j cs hj
      rw [hl] at h1
      simp only [Option.some.injEq, Prod.mk.injEq] at h1
      obtain ⟨rfl, rfl⟩ := h1
      exact key cs b o off h (fun i x hx => by
        obtain ⟨_, _, v, h1, h2⟩ := h4 i x hx
        exact ⟨v, h1, h2⟩) rfl
    · cases h

theorem istore_sound (hs : Sim μ σ w) {t : TypeId} {i : TypeInfo} (hi : P.info? t = some i) {a x : D} {va vx : Value} (ha : VR μ a va) (hx : VR μ x vx) {σ' : St}
    (h : istore i.size a x σ = some σ') : ∃ w', (Instr.storeAt t va vx).run P w = .ok () w' ∧ Sim μ σ' w' := by
  cases a <;> simp [istore] at h
  case ref j off =>
    obtain ⟨b, o, hl, rfl⟩ := ha.ref
    split at h
    · rename_i cs hj
      split at h
      · rename_i ds hd
        split at h
        · rename_i hc
          simp only [Option.some.injEq] at h
          subst h
          obtain ⟨g1, g2, g3, _⟩ := dcells_sound hx hd
          obtain ⟨s1, s2, s3⟩ := hs.storeL ds (vcells vx) cs off hj hl hc.2 g1
          refine ⟨_, ?_, s1⟩
          have hst := run_storeCells_cells (P := P) b (o + off) (vcells vx) 0 w (by simpa using s2) (by simpa using s3) (by simpa [List.all_eq_true] using g2)
          have hsz : vx.cells.size = i.size := by
            rw [← Array.length_toList, vcells_eq, g3, hc.1]
          simp only [Nat.add_zero] at hst
          simp [Instr.storeAt, Instr.sureAddr, storeVar, run_sizeOf' hi, hsz, vcells_eq, hst]
        · cases h
      · cases h
    · cases h

theorem alloc_sound (hs : Sim μ σ w) {t : TypeId} {i : TypeInfo} (hi : P.info? t = some i) {z : Value} (hz : i.zero = some z) :
    Does P μ (Instr.alloc t true (.tuple #[])) w (.ref σ.next 0) (σ.alloc (.cells ((vcells z).map ofS))) := by
  obtain ⟨μ', h1, h2, h3⟩ := hs.pushObj z.cells t ((vcells z).map ofS) (by rw [vcells_eq]; exact CRl.map_ofS _)
  refine ⟨μ', _, _, h1, h2, VR.mk_ref (off := 0) h3, ?_⟩
  simp [Instr.alloc, zeroValue, typeInfo, hi, hz, newVar, newRow]

theorem allocT_sound (hs : Sim μ σ w) {t : TypeId} {i : TypeInfo} (hi : P.info? t = some i) {z : Value} (hz : i.zero = some z) :
    Does P μ (Instr.alloc t true (.tuple #[])) w (.ref σ.next 0) ((σ.alloc (.cells ((vcells z).map ofS))).alloc (.ty σ.next t (some ((vcells z).map ofS).length))) := by
  obtain ⟨μ', h1, h2, h3⟩ := hs.pushObj z.cells t ((vcells z).map ofS) (by rw [vcells_eq]; exact CRl.map_ofS _)
  refine ⟨μ', _, _, h1, h2.know ⟨w.heap.size, z.cells, h3, by simp, fun k hk => ?_⟩, VR.mk_ref (off := 0) h3, ?_⟩
  · simp only [Option.some.injEq, List.length_map] at hk
    rw [← hk, ← vcells_eq, Array.length_toList]
  · simp [Instr.alloc, zeroValue, typeInfo, hi, hz, newVar, newRow]

theorem box_sound (hs : Sim μ σ w) (t : TypeId) {x : D} {v : Value} (hv : VR μ x v) {cs : List D} (hc : dcells x = some cs) :
    Does P μ (Instr.box t v) w (.ref σ.next 0) (σ.alloc (.cells cs)) := by
  obtain ⟨g1, _, _, _⟩ := dcells_sound hv hc
  obtain ⟨μ', h1, h2, h3⟩ := hs.pushObj v.cells t cs (by rw [vcells_eq]; exact g1)
  refine ⟨μ', _, _, h1, h2, VR.mk_ref (off := 0) h3, ?_⟩
  simp [Instr.box, newVar, newRow]

theorem boxT_sound (hs : Sim μ σ w) (t : TypeId) {x : D} {v : Value} (hv : VR μ x v) {cs : List D} (hc : dcells x = some cs) :
    Does P μ (Instr.box t v) w (.ref σ.next 0) ((σ.alloc (.cells cs)).alloc (.ty σ.next t (some cs.length))) := by
  obtain ⟨g1, _, _, _⟩ := dcells_sound hv hc
  obtain ⟨μ', h1, h2, h3⟩ := hs.pushObj v.cells t cs (by rw [vcells_eq]; exact g1)
  refine ⟨μ', _, _, h1, h2.know ⟨w.heap.size, v.cells, h3, by simp, fun k hk => ?_⟩, VR.mk_ref (off := 0) h3, ?_⟩
  · simp only [Option.some.injEq] at hk
    rw [← hk, ← g1.length, ← vcells_eq, Array.length_toList]
  · simp [Instr.box, newVar, newRow]

theorem boxV_sound (hs : Sim μ σ w) (t : TypeId) {x : D} {v : Value} (hv : VR μ x v) {cs : List D} (hc : dcells x = some cs) :
    Does P μ (Instr.box t v) w (.box cs 0) σ := by
  obtain ⟨g1, _, _, _⟩ := dcells_sound hv hc
  obtain ⟨μ', h1, h2, h3⟩ := hs.pushImm v.cells t (0, 0)
  have : CRat μ' cs w.heap.size 0 := CRat.of_l (CRl.mono h1 _ _ g1) (by rw [vcells_eq] at h3; exact h3)
  refine ⟨μ', _, _, h1, h2, VR.mk_box (off := 0) this, ?_⟩
  simp [Instr.box, newVar, newRow]

/-! Build: a composite literal. -/
theorem setInRow (off : Nat) : ∀ (vs : List Value) (j : Nat) (a : Array Value), off + j + vs.length ≤ a.size →
    ((vs.zipIdx j).foldl (fun cs (c, j) => cs.setIfInBounds (off + j) c) a).size = a.size ∧
    ∀ n, ((vs.zipIdx j).foldl (fun cs (c, j) => cs.setIfInBounds (off + j) c) a)[n]? = if off + j ≤ n ∧ n < off + j + vs.length then vs[n - (off + j)]? else a[n]?
  | [], j, a, h => by simp; intro n _ _; omega
  | v :: vs, j, a, h => by
    simp only [List.length_cons] at h
    simp only [List.zipIdx_cons, List.foldl_cons, List.length_cons]
    obtain ⟨h1, h2⟩ := setInRow off vs (j + 1) (a.setIfInBounds (off + j) v) (by simp; omega)
    refine ⟨by rw [h1]; simp, fun n => ?_⟩
    rw [h2, Array.getElem?_setIfInBounds]
    by_cases c1 : n = off + j
    · subst c1
      have g1 : ¬ (off + (j + 1) ≤ off + j ∧ off + j < off + (j + 1) + vs.length) := by omega
      have g2 : off + j ≤ off + j ∧ off + j < off + j + (vs.length + 1) := by omega
      have g3 : off + j < a.size := by omega
      rw [if_neg g1, if_pos g2]
      simp [g3]
    · have g0 : ¬ (off + j = n) := fun hh => c1 hh.symm
      rw [if_neg g0]
      by_cases c2 : off + (j + 1) ≤ n ∧ n < off + (j + 1) + vs.length
      · have g2 : off + j ≤ n ∧ n < off + j + (vs.length + 1) := by omega
        rw [if_pos c2, if_pos g2, show n - (off + j) = (n - (off + (j + 1))) + 1 by omega]
        simp
      · have g2 : ¬ (off + j ≤ n ∧ n < off + j + (vs.length + 1)) := by omega
        rw [if_neg c2, if_neg g2]

theorem setAt_get : ∀ (ds cs : List D) (off : Nat), off + ds.length ≤ cs.length → ∀ n, (setAt cs off ds)[n]? = if off ≤ n ∧ n < off + ds.length then ds[n - off]? else cs[n]?
  | [], cs, off, h, n => by simp [setAt]; intro _ _; omega
  | d :: ds, cs, off, h, n => by
    simp only [List.length_cons] at h
    simp only [setAt, List.length_cons]
    rw [setAt_get ds (cs.set off d) (off + 1) (by simp; omega), List.getElem?_set]
    by_cases c1 : n = off
    · subst c1
      have g1 : ¬ (n + 1 ≤ n ∧ n < n + 1 + ds.length) := by omega
      have g2 : n ≤ n ∧ n < n + (ds.length + 1) := by omega
      have g3 : n < cs.length := by omega
      rw [if_neg g1, if_pos g2]
      simp [g3]
    · have g0 : ¬ (off = n) := fun hh => c1 hh.symm
      rw [if_neg g0]
      by_cases c2 : off + 1 ≤ n ∧ n < off + 1 + ds.length
      · have g2 : off ≤ n ∧ n < off + (ds.length + 1) := by omega
        rw [if_pos c2, if_pos g2, show n - off = (n - (off + 1)) + 1 by omega]
        simp
      · have g2 : ¬ (off ≤ n ∧ n < off + (ds.length + 1)) := by omega
        rw [if_neg c2, if_neg g2]

theorem CRl.of_get {μ : Mu} : ∀ {ds : List D} {vs : List Value}, vs.length = ds.length → (∀ (i : Nat) (d : D) (v : Value), ds[i]? = some d → vs[i]? = some v → CR μ d [v]) → CRl μ ds vs
  | [], vs, h, _ => by simp only [CRl]; exact List.eq_nil_of_length_eq_zero (by simpa using h)
  | d :: ds, [], h, _ => by simp at h
  | d :: ds, v :: vs, h, g => by
    simp only [CRl]
    exact ⟨v, vs, rfl, g 0 d v rfl rfl, CRl.of_get (by simpa using h) (fun i x u hx hu => g (i + 1) x u (by simpa using hx) (by simpa using hu))⟩

theorem CRl.at {μ : Mu} {ds : List D} {vs : List Value} (h : CRl μ ds vs) {i : Nat} {d : D} {v : Value} (hd : ds[i]? = some d) (hv : vs[i]? = some v) : CR μ d [v] := by
  obtain ⟨u, hu, hr⟩ := h.get hd
  rw [hv] at hu
  simp only [Option.some.injEq] at hu
  rwa [hu]

theorem CRl.append {μ : Mu} : ∀ {ds es : List D} {vs ws : List Value}, CRl μ ds vs → CRl μ es ws → CRl μ (ds ++ es) (vs ++ ws)
  | [], es, vs, ws, h, h' => by simp only [CRl] at h; subst h; simpa using h'
  | d :: ds, es, vs, ws, h, h' => by
    simp only [CRl] at h
    obtain ⟨v, us, rfl, h2, h3⟩ := h
    simp only [List.cons_append, CRl]
    exact ⟨v, us ++ ws, rfl, h2, CRl.append h3 h'⟩
theorem CRl.take {μ : Mu} : ∀ {ds : List D} {vs : List Value} (n : Nat), CRl μ ds vs → CRl μ (ds.take n) (vs.take n)
  | _, _, 0, _ => by simp [CRl]
  | [], _, n + 1, h => by simp only [CRl] at h; subst h; simp [CRl]
  | d :: ds, vs, n + 1, h => by
    simp only [CRl] at h
    obtain ⟨v, us, rfl, h2, h3⟩ := h
    simp only [List.take_succ_cons, CRl]
    exact ⟨v, us.take n, rfl, h2, h3.take n⟩
theorem CRl.drop {μ : Mu} : ∀ {ds : List D} {vs : List Value} (n : Nat), CRl μ ds vs → CRl μ (ds.drop n) (vs.drop n)
  | _, _, 0, h => by simpa using h
  | [], _, n + 1, h => by simp only [CRl] at h; subst h; simp [CRl]
  | d :: ds, vs, n + 1, h => by
    simp only [CRl] at h
    obtain ⟨v, us, rfl, h2, h3⟩ := h
    simpa using h3.drop n

/-- The places of a literal's parts. -/
def placed (place : Nat → Option (Nat × Nat)) : List (Nat × Operand) → Option (List (Nat × Nat × Opd))
  | [] => some []
  | (i, x) :: rest => match place i, ropd x, placed place rest with
    | some (off, size), some o, some r => some ((off, size, o) :: r)
    | _, _, _ => none

theorem fill_sound {e : List D} {a : Act} (he : ER μ e a) (place : Nat → Option (Nat × Nat)) : ∀ (parts : List (Nat × Operand)) (ps : List (Nat × Nat × Opd)) (zero cs : List D) (arr : Array Value),
    placed place parts = some ps → CRl μ zero arr.toList → ibuild zero (ps.map fun p => (p.1, p.2.1, p.2.2.ev e)) = some cs →
    ∃ arr', Instr.fill place arr (parts.map fun p => (p.1, a.eval p.2)) = some arr' ∧ CRl μ cs arr'.toList
  | [], ps, zero, cs, arr, hp, hz, hb => by
    simp only [placed, Option.some.injEq] at hp
    subst hp
    simp only [List.map_nil, ibuild, Option.some.injEq] at hb
    subst hb
    exact ⟨arr, rfl, hz⟩
  | (i, x) :: rest, ps, zero, cs, arr, hp, hz, hb => by
    simp only [placed] at hp
    split at hp
    · rename_i off size o r h1 h2 h3
      simp only [Option.some.injEq] at hp
      subst hp
      simp only [List.map_cons, ibuild] at hb
      split at hb
      · rename_i ds hd
        split at hb
        · rename_i hc
          obtain ⟨g1, g2, g3, _⟩ := dcells_sound (ropd_sound he h2) hd
          have hl := hz.length
          simp only [Array.length_toList] at hl
          have hsz : (a.eval x).cells.size = ds.length := by rw [← Array.length_toList, vcells_eq, g3]
          obtain ⟨q1, q2⟩ := setInRow off (a.eval x).cells.toList 0 arr (by rw [vcells_eq, g3]; omega)
          simp only [Nat.add_zero, vcells_eq, g3] at q1 q2
          obtain ⟨arr', k1, k2⟩ := fill_sound he place rest r (setAt zero off ds) cs _ h3 (by
            refine CRl.of_get ?_ ?_
            · rw [Array.length_toList, q1, length_setAt]; exact hl
            · intro i d v hd' hv
              rw [Array.getElem?_toList, q2] at hv
              rw [setAt_get _ _ _ hc.2] at hd'
              split at hv
              · rename_i hcc
                rw [if_pos hcc] at hd'
                exact g1.at hd' hv
              · rename_i hcc
                rw [if_neg hcc] at hd'
                exact hz.at hd' (by rw [Array.getElem?_toList]; exact hv)) hb
          refine ⟨arr', ?_, k2⟩
          simp only [List.map_cons, Instr.fill, h1]
          rw [if_neg (by rw [hsz]; simp; omega)]
          rw [← k1]
          congr 1
          rw [← Array.foldl_toList, Array.toList_zipIdx, vcells_eq]
        · cases hb
      · cases hb
    · cases hp

theorem run_mapM_sizes (fs : List Field) (ss : List Nat) (h : fs.mapM (fun f => (P.info? f.type).map (·.size)) = some ss) (w : World) (acc : Array (Nat × Nat)) :
    (fs.foldlM (fun (ys : Array (Nat × Nat)) (f : Field) => do pure (ys.push (← (do pure (f.offset, ← sizeOf f.type) : Sem (Nat × Nat))))) acc).run P w = .ok (acc ++ ((fs.zip ss).map fun (p : Field × Nat) => (p.1.offset, p.2)).toArray) w := by
  induction fs generalizing ss acc with
  | nil => simp
  | cons f fs ih =>
    simp only [List.mapM_cons, Option.bind_eq_bind, Option.bind_eq_some_iff, Option.map_eq_some_iff] at h
    obtain ⟨n, ⟨i, hi, rfl⟩, ss', h2, h3⟩ := h
    simp only [Option.pure_def, Option.some.injEq] at h3
    subst h3
    simp only [List.foldlM_cons, Sem.run_bind, run_sizeOf' hi, Result.andThen_ok, Sem.run_pure]
    rw [ih ss' h2]
    congr 1
    apply Array.ext'
    simp

end
end Go.Id

/-
  THE IDEAL LAYER, PART F: more operations of the model, run, against the ideal ones.
-/
namespace Go.Id
open Go.RowKit
set_option linter.unusedVariables false
set_option linter.unusedSimpArgs false

section
variable {P : Program} {μ : Mu} {σ : St} {w : World}

theorem ba_get (s : List UInt8) (i : Nat) : (⟨s.toArray⟩ : ByteArray)[i]? = s[i]? := by
  by_cases h : i < s.length
  · rw [getElem?_pos (⟨s.toArray⟩ : ByteArray) i (by exact h), List.getElem?_eq_getElem h]; rfl
  · rw [getElem?_neg (⟨s.toArray⟩ : ByteArray) i (by exact h), List.getElem?_eq_none (by omega)]
theorem ba_size (s : List UInt8) : (⟨s.toArray⟩ : ByteArray).size = s.length := rfl
theorem ba_extract (s : List UInt8) (i j : Nat) : (⟨s.toArray⟩ : ByteArray).extract i j = ⟨((s.drop i).take (j - i)).toArray⟩ := by
  apply ByteArray.ext; apply Array.ext'; rw [Lib.extract_data]
theorem ba_append (s t : List UInt8) : (⟨s.toArray⟩ ++ ⟨t.toArray⟩ : ByteArray) = ⟨(s ++ t).toArray⟩ := by
  apply ByteArray.ext; simp

def placesOf (P : Program) (t : TypeId) : Option (Value × (Nat → Option (Nat × Nat))) :=
  match P.info? t, P.underlying t with
  | some it, some (.array _ e) =>
    match it.zero, P.info? e with
    | some z, some ie => some (z, fun i => some (i * ie.size, ie.size))
    | _, _ => none
  | some it, some (.struct fields) =>
    match it.zero, fields.toList.mapM (fun f => (P.info? f.type).map fun i => (f.offset, i.size)) with
    | some z, some places => some (z, fun i => places.toArray[i]?)
    | _, _ => none
  | _, _ => none

theorem built_of {t : TypeId} {z : Value} {place : Nat → Option (Nat × Nat)} (h : placesOf P t = some (z, place)) (parts : List (Nat × Value)) :
    P.built t parts = Instr.fill place z.cells parts := by
  unfold placesOf at h
  unfold Program.built
  split at h
  · rename_i it n e h1 h2
    split at h
    · rename_i h3 h4
      simp only [Option.some.injEq, Prod.mk.injEq] at h
      obtain ⟨rfl, rfl⟩ := h
      simp [h1, h2, h3, h4]
    · cases h
  · rename_i it fields h1 h2
    split at h
    · rename_i h3 h4
      simp only [Option.some.injEq, Prod.mk.injEq] at h
      obtain ⟨rfl, rfl⟩ := h
      simp [h1, h2, h3, h4]
    · cases h
  · cases h

theorem build_sound {e : List D} {a : Act} (he : ER μ e a) (hs : Sim μ σ w) {t : TypeId} {z : Value} {place : Nat → Option (Nat × Nat)} (ht : placesOf P t = some (z, place)) {parts : Array (Nat × Operand)}
    {ps : List (Nat × Nat × Opd)} (hp : placed place parts.toList = some ps) {cs : List D}
    (hb : ibuild ((vcells z).map ofS) (ps.map fun p => (p.1, p.2.1, p.2.2.ev e)) = some cs) :
    Does P μ (Instr.build t (parts.map fun (i, x) => (i, a.eval x))) w (.agg cs) σ := by
  obtain ⟨arr', h1, h2⟩ := fill_sound he place parts.toList ps ((vcells z).map ofS) cs z.cells hp (by rw [vcells_eq]; exact CRl.map_ofS _) hb
  refine Does.of hs (VR.mk_agg h2) (run_build w t _ arr' ?_)
  rw [built_of ht, ← h1]
  simp

theorem fieldAddr_sound (hs : Sim μ σ w) {s : TypeId} {fs : Array Field} (ht : P.underlying s = some (.struct fs)) {k : Nat} {f : Field} (hf : fs[k]? = some f) {i : TypeInfo}
    (hi : P.info? f.type = some i) (h0 : i.size ≠ 0) {x d : D} {v : Value} (hv : VR μ x v)
    (hd : (match x with | .box c o => some (D.box c (o + f.offset)) | .ref j o => some (.ref j (o + f.offset)) | _ => none) = some d) : Does P μ (Instr.fieldAt s v k) w d σ := by
  have hrun : ∀ b o, (Instr.fieldAt s (.pointer (some ⟨b, o, none⟩)) k).run P w = .ok (.pointer (some ⟨b, o + f.offset, none⟩)) w := by
    intro b o
    simp [Instr.fieldAt, run_underlying ht, hf, Instr.sureAddr, fieldPlace, run_sizeOf' hi, h0, addr_add]
  cases x <;> simp at hd
  · obtain ⟨b, o, rfl, hc⟩ := hv.box
    subst hd
    refine Does.of hs ?_ (hrun _ _)
    rw [Nat.add_assoc]
    exact VR.mk_box hc
  · obtain ⟨b, o, hl, rfl⟩ := hv.ref
    subst hd
    refine Does.of hs ?_ (hrun _ _)
    rw [Nat.add_assoc]
    exact VR.mk_ref hl

theorem part_sound {t : TypeId} {n : Option Nat} (ht : aggN P t = some n) {cs : List D} {vs : List Value} (hc : CRl μ cs vs) {off : Nat} {d : D} (h : cellsAt cs off n = some d) :
    ∃ u, (part t ⟨vs⟩ off).run P w = .ok u w ∧ VR μ d u := by
  have := cellsAt_sound h (fun i => vs[i]?) (fun i x hx => by
    obtain ⟨v, h1, h2⟩ := hc.get hx
    exact ⟨v, h1, h2⟩)
  cases n with
  | none =>
    obtain ⟨u, hu, hr⟩ := this
    exact ⟨u, by simp [part, run_isAgg_of ht, hu], hr⟩
  | some n =>
    obtain ⟨us, hl, hu, hr⟩ := this
    refine ⟨.agg ⟨us⟩, ?_, hr⟩
    have hle : off + n ≤ vs.length := by
      simp only [cellsAt] at h
      split at h
      · rename_i hh; rw [hc.length]; exact hh
      · cases h
    have : (vs.drop off).take n = us := by
      apply List.ext_getElem?
      intro j
      by_cases hj : j < n
      · rw [List.getElem?_take, if_pos hj, List.getElem?_drop]
        have hj' : j < us.length := by omega
        rw [hu j us[j] (by simp [hj'])]
        simp [hj']
      · rw [List.getElem?_eq_none (by simp; omega), List.getElem?_eq_none (by omega)]
    simp [part, run_isAgg_of ht, run_sizeOf_of ht]
    exact this

theorem field_sound (hs : Sim μ σ w) {s : TypeId} {fs : Array Field} (ht : P.underlying s = some (.struct fs)) {k : Nat} {f : Field} (hf : fs[k]? = some f) {n : Option Nat}
    (hn : aggN P f.type = some n) {cs : List D} {d : D} {v : Value} (hv : VR μ (.agg cs) v) (hd : cellsAt cs f.offset n = some d) : Does P μ (Instr.field s v k) w d σ := by
  obtain ⟨vs, rfl, hc⟩ := hv.agg
  obtain ⟨u, hu, hr⟩ := part_sound (P := P) (w := w) hn hc hd
  refine Does.of hs hr ?_
  simp [Instr.field, run_underlying ht, hf, asAgg, hu]

/-- An element's place in a row. -/
theorem CRes.get {sz : Nat} : ∀ {es : List D} {b o : Nat}, CRes μ sz es b o → ∀ {i : Nat} {e : D}, es[i]? = some e →
    ∃ vs, vs.length = sz ∧ vs.all Value.oneCell' = true ∧ ImmAt μ b (o + i * sz) vs ∧ CR μ e vs
  | [], _, _, _, _, _, e => by simp at e
  | d :: ds, b, o, h, i, x, e => by
    simp only [CRes] at h
    obtain ⟨h1, h2⟩ := h
    cases i with
    | zero => simp at e; subst e; simpa using h1
    | succ i =>
      have := CRes.get h2 (i := i) (e := x) (by simpa using e)
      rwa [show o + sz + i * sz = o + (i + 1) * sz by rw [Nat.add_mul]; omega] at this

theorem idxAddrS_sound (hs : Sim μ σ w) {t e : TypeId} (ht : P.underlying t = some (.slice e)) {ie : TypeInfo} (hie : P.info? e = some ie) {x i d : D} {vx vi : Value} (hx : VR μ x vx) (hi : VR μ i vi)
    (h : idxAddrS ie.size x i = some d) : Does P μ (Instr.indexAt t vx vi) w d σ := by
  have hrun : ∀ (b o len cap : Nat) (k : IntKind) (n : Int), 0 ≤ n → n < (len : Int) → (Instr.indexAt t (.slice (some ⟨b, o, none⟩) len cap) (.int k n)).run P w = .ok (.pointer (some ⟨b, o + n.toNat * ie.size, none⟩)) w := by
    intro b o len cap k n h0 h1
    simp [Instr.indexAt, run_underlying ht, asIntOf, h0, h1, run_sizeOf' hie, addr_add]
  unfold idxAddrS at h
  split at h
  · rename_i s es r k n
    split at h
    · rename_i hc
      obtain ⟨rfl, h0⟩ := hc
      simp only [Option.bind_eq_some_iff, Option.map_eq_some_iff] at h
      obtain ⟨el, h1, c, h2, rfl⟩ := h
      obtain ⟨b, o, cap, rfl, hes, _⟩ := hx.slc
      obtain rfl := hi.int
      have hlt := (List.getElem?_eq_some_iff.1 h1).1
      obtain ⟨vs, g1, _, g2, g3⟩ := hes.get h1
      refine Does.of hs ?_ (hrun b o _ cap k n h0 (by omega))
      have := VR.mk_box (off := 0) (CRat.of_l (g3.cells h2) g2)
      simpa using this
    · cases h
  · rename_i j off s len r k n
    split at h
    · rename_i hc
      obtain ⟨rfl, h0, h1⟩ := hc
      simp only [Option.some.injEq] at h
      subst h
      obtain ⟨b, o, cap, hl, rfl, _⟩ := hx.rslc
      obtain rfl := hi.int
      refine Does.of hs ?_ (hrun b _ _ cap k n h0 h1)
      rw [Nat.add_assoc]
      exact VR.mk_ref hl
    · cases h
  · cases h

theorem idxAddrA_sound (hs : Sim μ σ w) {t e : TypeId} {len : Nat} (ht : P.underlying t = some (.array len e)) {ie : TypeInfo} (hie : P.info? e = some ie) {x i d : D} {vx vi : Value} (hx : VR μ x vx) (hi : VR μ i vi)
    (h : idxAddrA len ie.size x i = some d) : Does P μ (Instr.indexAt t vx vi) w d σ := by
  have hrun : ∀ (b o : Nat) (k : IntKind) (n : Int), 0 ≤ n → n < (len : Int) → (Instr.indexAt t (.pointer (some ⟨b, o, none⟩)) (.int k n)).run P w = .ok (.pointer (some ⟨b, o + n.toNat * ie.size, none⟩)) w := by
    intro b o k n h0 h1
    simp [Instr.indexAt, run_underlying ht, asIntOf, Instr.sureAddr, h0, h1, run_sizeOf' hie, addr_add]
  unfold idxAddrA at h
  split at h
  · rename_i c off k n
    split at h
    · rename_i hc
      simp only [Option.some.injEq] at h
      subst h
      obtain ⟨b, o, rfl, hca⟩ := hx.box
      obtain rfl := hi.int
      refine Does.of hs ?_ (hrun b _ k n hc.1 hc.2)
      rw [Nat.add_assoc]
      exact VR.mk_box hca
    · cases h
  · rename_i j off k n
    split at h
    · rename_i hc
      simp only [Option.some.injEq] at h
      subst h
      obtain ⟨b, o, hl, rfl⟩ := hx.ref
      obtain rfl := hi.int
      refine Does.of hs ?_ (hrun b _ k n hc.1 hc.2)
      rw [Nat.add_assoc]
      exact VR.mk_ref hl
    · cases h
  · cases h

theorem idxStr_sound (hs : Sim μ σ w) {t : TypeId} (ht : P.underlying t = some .string) {x i d : D} {vx vi : Value} (hx : VR μ x vx) (hi : VR μ i vi)
    (h : idxStr x i = some d) : Does P μ (Instr.index t vx vi) w d σ := by
  unfold idxStr at h
  split at h
  · rename_i s k n
    split at h
    · rename_i h0
      simp only [Option.map_eq_some_iff] at h
      obtain ⟨b, hb, rfl⟩ := h
      obtain rfl := hx.str
      obtain rfl := hi.int
      refine Does.of hs (VR.mk_int _ _) ?_
      have hg : (⟨s.toArray⟩ : ByteArray)[n.toNat]? = some b := by rw [← hb]; exact ba_get _ _
      simp [Instr.index, run_underlying ht, asIntOf, h0, hg]
    · cases h
  · cases h

theorem idxArr_sound (hs : Sim μ σ w) {t e : TypeId} {len : Nat} (ht : P.underlying t = some (.array len e)) {ie : TypeInfo} (hie : P.info? e = some ie) {m : Option Nat} (hm : aggN P e = some m) {cs : List D} {k : IntKind} {n : Int}
    {d : D} {vx vi : Value} (hx : VR μ (.agg cs) vx) (hi : VR μ (.int k n) vi) (h0 : 0 ≤ n) (h1 : n < len) (h : cellsAt cs (n.toNat * ie.size) m = some d) : Does P μ (Instr.index t vx vi) w d σ := by
  obtain ⟨vs, rfl, hc⟩ := hx.agg
  obtain rfl := hi.int
  obtain ⟨u, hu, hr⟩ := part_sound (P := P) (w := w) hm hc h
  refine Does.of hs hr ?_
  simp [Instr.index, run_underlying ht, asIntOf, h0, h1, run_sizeOf' hie, hu]

theorem extract_sound (hs : Sim μ σ w) {ds : List D} {d : D} {v : Value} (hv : VR μ (.tuple ds) v) {i : Nat} (h : ds[i]? = some d) : Does P μ (Instr.extract v i) w d σ := by
  obtain ⟨ws, rfl, hc⟩ := hv.tuple
  obtain ⟨u, hu, hr⟩ := hc.get h
  refine Does.of hs hr ?_
  simp [Instr.extract, hu]

end
end Go.Id
