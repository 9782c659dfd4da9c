/-
  THE IDEAL LAYER, PART D: each operation of the model does what the ideal one says.
-/
import Derived.Test.YtkjgadanaknleaaIdC
namespace Go.Id
open Go.RowKit
set_option linter.unusedVariables false
set_option linter.unusedSimpArgs false

structure ER (μ : Mu) (e : List D) (a : Act) : Prop where
  len : e.length = a.tmps.size
  get : ∀ n, VR μ (e.getD n .junk) (a.tmps.getD n undef)

theorem ER.mono {μ ν : Mu} (h : μ.le ν) {e : List D} {a : Act} (x : ER μ e a) : ER ν e a := ⟨x.len, fun n => (x.get n).mono h⟩

theorem VR.junk {μ : Mu} (v : Value) : VR μ .junk v := ⟨rfl, trivial⟩

theorem VR.one {μ : Mu} {d : D} {v : Value} (h : VR μ d v) (hd : scal d = true ∨ ∃ ds, d = .tuple ds) : CR μ d [v] := by
  obtain ⟨h1, h2⟩ := h
  have : vcells v = [v] := by
    cases v <;> first | rfl | (exfalso; rcases hd with hd | ⟨ds, rfl⟩ <;> (try cases d) <;> simp_all [okAgg, scal])
  rwa [this] at h2

theorem VR.of_one {μ : Mu} {d : D} {v : Value} (h : CR μ d [v]) (hv : vcells v = [v]) (ha : okAgg d v = true) : VR μ d v := ⟨ha, by rwa [hv]⟩

section inv
variable {μ : Mu} {v : Value}
theorem VR.bool {b : Bool} (h : VR μ (.bool b) v) : v = .bool b := by simpa [CR] using h.one (.inl rfl)
theorem VR.int {k : IntKind} {n : Int} (h : VR μ (.int k n) v) : v = .int k n := by simpa [CR] using h.one (.inl rfl)
theorem VR.str {s : List UInt8} (h : VR μ (.str s) v) : v = .string ⟨s.toArray⟩ := by simpa [CR] using h.one (.inl rfl)
theorem VR.nilp (h : VR μ .nilp v) : v = .pointer none := by simpa [CR] using h.one (.inl rfl)
theorem VR.nils (h : VR μ .nils v) : v = .slice none 0 0 := by simpa [CR] using h.one (.inl rfl)
theorem VR.nili (h : VR μ .nili v) : v = .nilIface := by simpa [CR] using h.one (.inl rfl)
theorem VR.nilf (h : VR μ .nilf v) : v = .nilFunc := by simpa [CR] using h.one (.inl rfl)
theorem VR.nilm (h : VR μ .nilm v) : v = .map none := by simpa [CR] using h.one (.inl rfl)
theorem VR.box {c : List D} {off : Nat} (h : VR μ (.box c off) v) : ∃ b o, v = .pointer (some ⟨b, o + off, none⟩) ∧ CRat μ c b o := by
  simpa [CR] using h.one (.inl rfl)
theorem VR.ref {j off : Nat} (h : VR μ (.ref j off) v) : ∃ b o, μ.loc j = some (b, o) ∧ v = .pointer (some ⟨b, o + off, none⟩) := by
  simpa [CR] using h.one (.inl rfl)
theorem VR.map {j : Nat} (h : VR μ (.map j) v) : ∃ b, (∃ o, μ.loc j = some (b, o)) ∧ v = .map (some b) := by
  simpa [CR] using h.one (.inl rfl)
theorem VR.slc {sz : Nat} {es : List D} {r : Room} (h : VR μ (.slc sz es r) v) :
    ∃ b o cap, v = .slice (some ⟨b, o, none⟩) es.length cap ∧ CRes μ sz es b o ∧ RoomR μ r b (o + es.length * sz) es.length cap sz := by
  simpa [CR] using h.one (.inl rfl)
theorem VR.rslc {j off sz len : Nat} {r : Room} (h : VR μ (.rslc j off sz len r) v) :
    ∃ b o cap, μ.loc j = some (b, o) ∧ v = .slice (some ⟨b, o + off, none⟩) len cap ∧ RoomR μ r b (o + off + len * sz) len cap sz := by
  simpa [CR] using h.one (.inl rfl)
theorem VR.tuple {ds : List D} (h : VR μ (.tuple ds) v) : ∃ ws, v = .tuple ⟨ws⟩ ∧ CRt μ ds ws := by
  simpa [CR] using h.one (.inr ⟨_, rfl⟩)
theorem VR.iface {t : TypeId} {d : D} (h : VR μ (.iface t d) v) : ∃ w, v = .iface t w ∧ VR μ d w := by
  have := h.one (.inl rfl)
  simp only [CR] at this
  obtain ⟨w, h1, h2, h3⟩ := this
  exact ⟨w, by simpa using h1, h2, h3⟩
theorem VR.func {f : Fn} {a b : List D} (h : VR μ (.func f a b) v) : ∃ fs cs, v = .func f ⟨fs⟩ ⟨cs⟩ ∧ CRt μ a fs ∧ CRt μ b cs := by
  simpa [CR] using h.one (.inl rfl)
theorem VR.agg {cs : List D} (h : VR μ (.agg cs) v) : ∃ vs, v = .agg ⟨vs⟩ ∧ CRl μ cs vs := by
  obtain ⟨h1, h2⟩ := h
  cases v <;> simp [okAgg] at h1
  rename_i c
  exact ⟨c.toList, rfl, by simpa [CR, vcells] using h2⟩
end inv

section mk
variable {μ : Mu}
theorem VR.mk_bool (b : Bool) : VR μ (.bool b) (.bool b) := ⟨rfl, by simp [CR, vcells]⟩
theorem VR.mk_int (k : IntKind) (n : Int) : VR μ (.int k n) (.int k n) := ⟨rfl, by simp [CR, vcells]⟩
theorem VR.mk_str (s : List UInt8) : VR μ (.str s) (.string ⟨s.toArray⟩) := ⟨rfl, by simp [CR, vcells]⟩
theorem VR.mk_nils : VR μ .nils (.slice none 0 0) := ⟨rfl, by simp [CR, vcells]⟩
theorem VR.mk_box {c : List D} {off b o : Nat} (h : CRat μ c b o) : VR μ (.box c off) (.pointer (some ⟨b, o + off, none⟩)) := by
  refine ⟨rfl, ?_⟩
  simp only [CR, vcells]
  exact ⟨b, o, rfl, h⟩
theorem VR.mk_ref {j off b o : Nat} (h : μ.loc j = some (b, o)) : VR μ (.ref j off) (.pointer (some ⟨b, o + off, none⟩)) := by
  refine ⟨rfl, ?_⟩
  simp only [CR, vcells]
  exact ⟨b, o, h, rfl⟩
theorem VR.mk_slc {sz : Nat} {es : List D} {r : Room} {b o cap n : Nat} (hn : n = es.length) (h : CRes μ sz es b o) (hr : RoomR μ r b (o + es.length * sz) es.length cap sz) :
    VR μ (.slc sz es r) (.slice (some ⟨b, o, none⟩) n cap) := by
  subst hn
  refine ⟨rfl, ?_⟩
  simp only [CR, vcells]
  exact ⟨b, o, cap, rfl, h, hr⟩
theorem VR.mk_rslc {j off sz len : Nat} {r : Room} {b o cap : Nat} (h : μ.loc j = some (b, o)) (hr : RoomR μ r b (o + off + len * sz) len cap sz) :
    VR μ (.rslc j off sz len r) (.slice (some ⟨b, o + off, none⟩) len cap) := by
  refine ⟨rfl, ?_⟩
  simp only [CR, vcells]
  exact ⟨b, o, cap, h, rfl, hr⟩
theorem VR.mk_agg {cs : List D} {vs : List Value} (h : CRl μ cs vs) : VR μ (.agg cs) (.agg ⟨vs⟩) := by
  refine ⟨rfl, ?_⟩
  simpa [CR, vcells] using h
theorem VR.mk_tuple {ds : List D} {vs : List Value} (h : CRt μ ds vs) : VR μ (.tuple ds) (.tuple ⟨vs⟩) := by
  refine ⟨rfl, ?_⟩
  simp only [CR, vcells]
  exact ⟨vs, rfl, h⟩
theorem VR.mk_iface {t : TypeId} {d : D} {v : Value} (h : VR μ d v) : VR μ (.iface t d) (.iface t v) := by
  refine ⟨rfl, ?_⟩
  simp only [CR, vcells]
  exact ⟨v, rfl, h.1, h.2⟩
theorem VR.mk_func {f : Fn} {a b : List D} {va vb : List Value} (ha : CRt μ a va) (hb : CRt μ b vb) : VR μ (.func f a b) (.func f ⟨va⟩ ⟨vb⟩) := by
  refine ⟨rfl, ?_⟩
  simp only [CR, vcells]
  exact ⟨va, vb, rfl, ha, hb⟩
end mk

theorem CRt.of_map {μ : Mu} {α : Type} (f : α → D) (g : α → Value) : ∀ (l : List α), (∀ x ∈ l, VR μ (f x) (g x)) → CRt μ (l.map f) (l.map g)
  | [], _ => by simp [CRt]
  | x :: l, h => by
    have hx := h x (by simp)
    simp only [List.map_cons, CRt]
    exact ⟨g x, l.map g, rfl, hx.1, hx.2, CRt.of_map f g l (fun y hy => h y (by simp [hy]))⟩

theorem CRt.get {μ : Mu} : ∀ {ds : List D} {vs : List Value}, CRt μ ds vs → ∀ {i : Nat} {d : D}, ds[i]? = some d → ∃ v, vs[i]? = some v ∧ VR μ d v
  | [], _, _, _, _, e => by simp at e
  | d :: ds, vs, h, i, x, e => by
    simp only [CRt] at h
    obtain ⟨v, ws, rfl, h1, h2, h3⟩ := h
    cases i with
    | zero => simp at e; subst e; exact ⟨v, rfl, h1, h2⟩
    | succ i => simpa using CRt.get h3 (i := i) (by simpa using e)

theorem CRt.length {μ : Mu} : ∀ {ds : List D} {vs : List Value}, CRt μ ds vs → vs.length = ds.length
  | [], _, h => by simp only [CRt] at h; simp [h]
  | d :: ds, vs, h => by
    simp only [CRt] at h
    obtain ⟨v, ws, rfl, _, _, h3⟩ := h
    simp [CRt.length h3]

theorem CRt.append {μ : Mu} : ∀ {ds es : List D} {vs ws : List Value}, CRt μ ds vs → CRt μ es ws → CRt μ (ds ++ es) (vs ++ ws)
  | [], es, vs, ws, h, h' => by simp only [CRt] at h; subst h; simpa using h'
  | d :: ds, es, vs, ws, h, h' => by
    simp only [CRt] at h
    obtain ⟨v, us, rfl, h1, h2, h3⟩ := h
    simp only [List.cons_append, CRt]
    exact ⟨v, us ++ ws, rfl, h1, h2, CRt.append h3 h'⟩

/-! Constants. -/
theorem CR.ofS {μ : Mu} (v : Value) : CR μ (ofS v) [v] := by
  unfold Id.ofS
  split <;> simp [CR]
theorem CRl.map_ofS {μ : Mu} : ∀ (l : List Value), CRl μ (l.map Id.ofS) l
  | [] => by simp [CRl]
  | v :: l => by
    simp only [List.map_cons, CRl]
    exact ⟨v, l, rfl, CR.ofS v, CRl.map_ofS l⟩
theorem okAgg_ofS (v : Value) (h : ∀ c, v ≠ .agg c) : okAgg (Id.ofS v) v = true := by
  unfold Id.ofS
  split <;> simp_all [okAgg]
theorem VR.ofV {μ : Mu} (v : Value) : VR μ (Id.ofV v) v := by
  unfold Id.ofV
  split
  · rename_i cs
    exact VR.mk_agg (vs := cs.toList) (CRl.map_ofS _)
  · exact VR.mk_tuple (vs := []) (by simp [CRt])
  · rename_i hv _
    have hne : ∀ c, v ≠ .agg c := fun c hc => hv c hc
    refine ⟨okAgg_ofS v hne, ?_⟩
    have : vcells v = [v] := by cases v <;> first | rfl | exact absurd rfl (hne _)
    rw [this]
    exact CR.ofS v

def ropd : Operand → Option Opd
  | .tmp t => some (.t t)
  | .const v => some (.c (ofV v))
  | .func f => some (.c (.func (.func f) [] []))
  | .global _ => none

theorem ropd_sound {μ : Mu} {e : List D} {a : Act} (he : ER μ e a) {x : Operand} {o : Opd} (h : ropd x = some o) : VR μ (o.ev e) (a.eval x) := by
  cases x <;> simp [ropd] at h <;> subst h
  · exact he.get _
  · exact VR.ofV _
  · exact VR.mk_func (va := []) (vb := []) (by simp [CRt]) (by simp [CRt])

/-! Cells. -/
theorem scal_cell {μ : Mu} {d : D} {v : Value} (hs : scal d = true) (h : CR μ d [v]) : v.oneCell' = true ∧ vcells v = [v] ∧ okAgg d v = true := by
  cases d <;> simp [scal] at hs <;> simp only [CR] at h <;> first
    | (simp only [List.cons.injEq, and_true] at h; subst h; exact ⟨rfl, rfl, rfl⟩)
    | (obtain ⟨_, _, h1, _⟩ := h; simp only [List.cons.injEq, and_true] at h1; subst h1; exact ⟨rfl, rfl, rfl⟩)
    | (obtain ⟨_, _, _, h1⟩ := h; simp only [List.cons.injEq, and_true] at h1; subst h1; exact ⟨rfl, rfl, rfl⟩)
    | (obtain ⟨_, _, _, h1, _⟩ := h; simp only [List.cons.injEq, and_true] at h1; subst h1; exact ⟨rfl, rfl, rfl⟩)
    | (obtain ⟨_, _, _, _, h1, _⟩ := h; simp only [List.cons.injEq, and_true] at h1; subst h1; exact ⟨rfl, rfl, rfl⟩)
    | (obtain ⟨_, h1, _⟩ := h; simp only [List.cons.injEq, and_true] at h1; subst h1; exact ⟨rfl, rfl, rfl⟩)

theorem CRl.oneCell {μ : Mu} : ∀ {ds : List D} {vs : List Value}, CRl μ ds vs → ds.all scal = true → vs.all Value.oneCell' = true
  | [], vs, h, _ => by simp only [CRl] at h; subst h; rfl
  | d :: ds, vs, h, hs => by
    simp only [CRl] at h
    obtain ⟨v, ws, rfl, h2, h3⟩ := h
    simp only [List.all_cons, Bool.and_eq_true] at hs ⊢
    exact ⟨(scal_cell hs.1 h2).1, CRl.oneCell h3 hs.2⟩

/-- The cells of a datum are the value's. -/
theorem dcells_sound {μ : Mu} {d : D} {v : Value} {cs : List D} (h : VR μ d v) (hc : dcells d = some cs) :
    CRl μ cs (vcells v) ∧ (vcells v).all Value.oneCell' = true ∧ (vcells v).length = cs.length ∧ CR μ d (vcells v) := by
  cases d with
  | agg ds =>
    simp only [dcells] at hc
    split at hc
    · rename_i hs
      simp only [Option.some.injEq] at hc
      subst hc
      obtain ⟨vs, rfl, hv⟩ := h.agg
      exact ⟨hv, hv.oneCell hs, hv.length, h.2⟩
    · cases hc
  | junk => simp [dcells] at hc
  | tuple ds => simp [dcells] at hc
  | _ =>
    simp only [dcells, Option.some.injEq] at hc
    subst hc
    have h1 := h.one (.inl rfl)
    obtain ⟨g1, g2, g3⟩ := scal_cell rfl h1
    rw [g2]
    refine ⟨?_, by simp [g1], rfl, h1⟩
    simp only [CRl]
    exact ⟨v, [], rfl, h1, rfl⟩

/-- And the other way round. -/
theorem CR.cells {μ : Mu} {d : D} {vs : List Value} {cs : List D} (h : CR μ d vs) (hc : dcells d = some cs) : CRl μ cs vs := by
  cases d with
  | agg ds =>
    simp only [dcells] at hc
    split at hc
    · simp only [Option.some.injEq] at hc
      subst hc
      simpa only [CR] using h
    · cases hc
  | junk => simp [dcells] at hc
  | tuple ds => simp [dcells] at hc
  | nilp | nils | nili | nilf | nilm | bool | int | str =>
    simp only [dcells, Option.some.injEq] at hc
    subst hc
    have h' := h
    simp only [CR] at h
    subst h
    simp only [CRl]
    exact ⟨_, [], rfl, h', rfl⟩
  | box | iface =>
    simp only [dcells, Option.some.injEq] at hc
    subst hc
    have h' := h
    simp only [CR] at h
    first
      | (obtain ⟨b, o, rfl, _⟩ := h; simp only [CRl]; exact ⟨_, [], rfl, h', rfl⟩)
      | (obtain ⟨w, rfl, _⟩ := h; simp only [CRl]; exact ⟨_, [], rfl, h', rfl⟩)
  | slc =>
    simp only [dcells, Option.some.injEq] at hc
    subst hc
    have h' := h
    simp only [CR] at h
    obtain ⟨b, o, cap, rfl, _⟩ := h; simp only [CRl]; exact ⟨_, [], rfl, h', rfl⟩
  | rslc =>
    simp only [dcells, Option.some.injEq] at hc
    subst hc
    have h' := h
    simp only [CR] at h
    obtain ⟨b, o, cap, _, rfl, _⟩ := h; simp only [CRl]; exact ⟨_, [], rfl, h', rfl⟩
  | ref | map =>
    simp only [dcells, Option.some.injEq] at hc
    subst hc
    have h' := h
    simp only [CR] at h
    obtain ⟨b, o, _, rfl⟩ := h; simp only [CRl]; exact ⟨_, [], rfl, h', rfl⟩
  | func =>
    simp only [dcells, Option.some.injEq] at hc
    subst hc
    have h' := h
    simp only [CR] at h
    obtain ⟨b, o, rfl, _⟩ := h; simp only [CRl]; exact ⟨_, [], rfl, h', rfl⟩

theorem CRat.get {μ : Mu} : ∀ {ds : List D} {b o : Nat}, CRat μ ds b o → ∀ {i : Nat} {d : D}, ds[i]? = some d → ∃ v, μ.own b (o + i) = .imm v ∧ CR μ d [v]
  | [], _, _, _, _, _, e => by simp at e
  | d :: ds, b, o, h, i, x, e => by
    simp only [CRat] at h
    obtain ⟨⟨v, h1, h2⟩, h3⟩ := h
    cases i with
    | zero => simp at e; subst e; exact ⟨v, by simpa using h1, h2⟩
    | succ i =>
      have := CRat.get h3 (i := i) (d := x) (by simpa using e)
      rwa [show o + 1 + i = o + (i + 1) by omega] at this

theorem CRat.of_l {μ : Mu} : ∀ {ds : List D} {vs : List Value} {b o : Nat}, CRl μ ds vs → ImmAt μ b o vs → CRat μ ds b o
  | [], _, _, _, _, _ => by simp only [CRat]
  | d :: ds, vs, b, o, h, hi => by
    simp only [CRl] at h
    obtain ⟨v, ws, rfl, h2, h3⟩ := h
    simp only [CRat]
    refine ⟨⟨v, by simpa using hi 0 v rfl, h2⟩, CRat.of_l h3 (fun i u hu => ?_)⟩
    rw [show o + 1 + i = o + (i + 1) by omega]
    exact hi (i + 1) u (by simpa using hu)

theorem addr_add (b o n : Nat) : (⟨b, o, none⟩ : Addr).add n = ⟨b, o + n, none⟩ := by
  unfold Addr.add; split <;> simp_all

/-- A part of a row of cells as one value: what a load gives. -/
theorem cellsAt_sound {μ : Mu} {cs : List D} {off : Nat} {n : Option Nat} {d : D} (h : cellsAt cs off n = some d) (f : Nat → Option Value)
    (hf : ∀ i x, cs[i]? = some x → ∃ v, f i = some v ∧ CR μ x [v]) :
    match n with
    | none => ∃ v, f off = some v ∧ VR μ d v
    | some n => ∃ vs, vs.length = n ∧ (∀ j v, vs[j]? = some v → f (off + j) = some v) ∧ VR μ d (.agg ⟨vs⟩) := by
  cases n with
  | none =>
    simp only [cellsAt] at h
    split at h
    · rename_i x hx
      split at h
      · rename_i hs
        simp only [Option.some.injEq] at h
        subst h
        obtain ⟨v, hv, hr⟩ := hf off x hx
        obtain ⟨_, g2, g3⟩ := scal_cell hs hr
        exact ⟨v, hv, g3, by rwa [g2]⟩
      · cases h
    · cases h
  | some n =>
    simp only [cellsAt] at h
    split at h
    · rename_i hl
      simp only [Option.some.injEq] at h
      subst h
      have key : ∀ (m o : Nat), o + m ≤ cs.length → ∃ vs, vs.length = m ∧ (∀ j v, vs[j]? = some v → f (o + j) = some v) ∧ CRl μ ((cs.drop o).take m) vs := by
        intro m
        induction m with
        | zero => intro o _; exact ⟨[], rfl, by simp, by simp [CRl]⟩
        | succ m ih =>
          intro o ho
          obtain ⟨v, hv, hr⟩ := hf o (cs[o]'(by omega)) (List.getElem?_eq_getElem (by omega))
          obtain ⟨vs, g1, g2, g3⟩ := ih (o + 1) (by omega)
          refine ⟨v :: vs, by simp [g1], fun j u hu => ?_, ?_⟩
          · cases j with
            | zero => simp at hu; subst hu; simpa using hv
            | succ j => rw [show o + (j + 1) = o + 1 + j by omega]; exact g2 j u (by simpa using hu)
          · rw [List.drop_eq_getElem_cons (by omega : o < cs.length), List.take_succ_cons]
            simp only [CRl]
            exact ⟨v, vs, rfl, hr, g3⟩
      obtain ⟨vs, g1, g2, g3⟩ := key n off hl
      exact ⟨vs, g1, g2, VR.mk_agg g3⟩
    · cases h

end Go.Id
