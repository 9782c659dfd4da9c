/-
  THE IDEAL LAYER, PART F: more operations of the model, run, against the ideal ones.
-/
import Derived.Test.YtkjgadanaknleaaIdE
import Derived.Laws.Tables
import Derived.Laws.StructEq
namespace Go.Id
open Go.RowKit
set_option linter.unusedVariables false
set_option linter.unusedSimpArgs false

section
variable {P : Program} {μ : Mu} {σ : St} {w : World}

theorem ba_get (s : List UInt8) (i : Nat) : (⟨s.toArray⟩ : ByteArray)[i]? = s[i]? := by
  by_cases h : i < s.length
  · rw [getElem?_pos (⟨s.toArray⟩ : ByteArray) i (by exact h), List.getElem?_eq_getElem h]; rfl
  · rw [getElem?_neg (⟨s.toArray⟩ : ByteArray) i (by exact h), List.getElem?_eq_none (by omega)]
theorem ba_size (s : List UInt8) : (⟨s.toArray⟩ : ByteArray).size = s.length := rfl
theorem ba_extract (s : List UInt8) (i j : Nat) : (⟨s.toArray⟩ : ByteArray).extract i j = ⟨((s.drop i).take (j - i)).toArray⟩ := by
  apply ByteArray.ext; apply Array.ext'; rw [Lib.extract_data]
theorem ba_append (s t : List UInt8) : (⟨s.toArray⟩ ++ ⟨t.toArray⟩ : ByteArray) = ⟨(s ++ t).toArray⟩ := by
  apply ByteArray.ext; simp

def placesOf (P : Program) (t : TypeId) : Option (Value × (Nat → Option (Nat × Nat))) :=
  match P.info? t, P.underlying t with
  | some it, some (.array _ e) =>
    match it.zero, P.info? e with
    | some z, some ie => some (z, fun i => some (i * ie.size, ie.size))
    | _, _ => none
  | some it, some (.struct fields) =>
    match it.zero, fields.toList.mapM (fun f => (P.info? f.type).map fun i => (f.offset, i.size)) with
    | some z, some places => some (z, fun i => places.toArray[i]?)
    | _, _ => none
  | _, _ => none

theorem built_of {t : TypeId} {z : Value} {place : Nat → Option (Nat × Nat)} (h : placesOf P t = some (z, place)) (parts : List (Nat × Value)) :
    P.built t parts = Instr.fill place z.cells parts := by
  unfold placesOf at h
  unfold Program.built
  split at h
  · rename_i it n e h1 h2
    split at h
    · rename_i h3 h4
      simp only [Option.some.injEq, Prod.mk.injEq] at h
      obtain ⟨rfl, rfl⟩ := h
      simp [h1, h2, h3, h4]
    · cases h
  · rename_i it fields h1 h2
    split at h
    · rename_i h3 h4
      simp only [Option.some.injEq, Prod.mk.injEq] at h
      obtain ⟨rfl, rfl⟩ := h
      simp [h1, h2, h3, h4]
    · cases h
  · cases h

theorem build_sound {e : List D} {a : Act} (he : ER μ e a) (hs : Sim μ σ w) {t : TypeId} {z : Value} {place : Nat → Option (Nat × Nat)} (ht : placesOf P t = some (z, place)) {parts : Array (Nat × Operand)}
    {ps : List (Nat × Nat × Opd)} (hp : placed place parts.toList = some ps) {cs : List D}
    (hb : ibuild ((vcells z).map ofS) (ps.map fun p => (p.1, p.2.1, p.2.2.ev e)) = some cs) :
    Does P μ (Instr.build t (parts.map fun (i, x) => (i, a.eval x))) w (.agg cs) σ := by
  obtain ⟨arr', h1, h2⟩ := fill_sound he place parts.toList ps ((vcells z).map ofS) cs z.cells hp (by rw [vcells_eq]; exact CRl.map_ofS _) hb
  refine Does.of hs (VR.mk_agg h2) (run_build w t _ arr' ?_)
  rw [built_of ht, ← h1]
  simp

theorem fieldAddr_sound (hs : Sim μ σ w) {s : TypeId} {fs : Array Field} (ht : P.underlying s = some (.struct fs)) {k : Nat} {f : Field} (hf : fs[k]? = some f) {i : TypeInfo}
    (hi : P.info? f.type = some i) (h0 : i.size ≠ 0) {x d : D} {v : Value} (hv : VR μ x v)
    (hd : (match x with | .box c o => some (D.box c (o + f.offset)) | .ref j o => some (.ref j (o + f.offset)) | _ => none) = some d) : Does P μ (Instr.fieldAt s v k) w d σ := by
  have hrun : ∀ b o, (Instr.fieldAt s (.pointer (some ⟨b, o, none⟩)) k).run P w = .ok (.pointer (some ⟨b, o + f.offset, none⟩)) w := by
    intro b o
    simp [Instr.fieldAt, run_underlying ht, hf, Instr.sureAddr, fieldPlace, run_sizeOf' hi, h0, addr_add]
  cases x <;> simp at hd
  · obtain ⟨b, o, rfl, hc⟩ := hv.box
    subst hd
    refine Does.of hs ?_ (hrun _ _)
    rw [Nat.add_assoc]
    exact VR.mk_box hc
  · obtain ⟨b, o, hl, rfl⟩ := hv.ref
    subst hd
    refine Does.of hs ?_ (hrun _ _)
    rw [Nat.add_assoc]
    exact VR.mk_ref hl

theorem part_sound {t : TypeId} {n : Option Nat} (ht : aggN P t = some n) {cs : List D} {vs : List Value} (hc : CRl μ cs vs) {off : Nat} {d : D} (h : cellsAt cs off n = some d) :
    ∃ u, (part t ⟨vs⟩ off).run P w = .ok u w ∧ VR μ d u := by
  have := cellsAt_sound h (fun i => vs[i]?) (fun i x hx => by
    obtain ⟨v, h1, h2⟩ := hc.get hx
    exact ⟨v, h1, h2⟩)
  cases n with
  | none =>
    obtain ⟨u, hu, hr⟩ := this
    exact ⟨u, by simp [part, run_isAgg_of ht, hu], hr⟩
  | some n =>
    obtain ⟨us, hl, hu, hr⟩ := this
    refine ⟨.agg ⟨us⟩, ?_, hr⟩
    have hle : off + n ≤ vs.length := by
      simp only [cellsAt] at h
      split at h
      · rename_i hh; rw [hc.length]; exact hh
      · cases h
    have : (vs.drop off).take n = us := by
      apply List.ext_getElem?
      intro j
      by_cases hj : j < n
      · rw [List.getElem?_take, if_pos hj, List.getElem?_drop]
        have hj' : j < us.length := by omega
        rw [hu j us[j] (by simp [hj'])]
        simp [hj']
      · rw [List.getElem?_eq_none (by simp; omega), List.getElem?_eq_none (by omega)]
    simp [part, run_isAgg_of ht, run_sizeOf_of ht]
    exact this

theorem field_sound (hs : Sim μ σ w) {s : TypeId} {fs : Array Field} (ht : P.underlying s = some (.struct fs)) {k : Nat} {f : Field} (hf : fs[k]? = some f) {n : Option Nat}
    (hn : aggN P f.type = some n) {cs : List D} {d : D} {v : Value} (hv : VR μ (.agg cs) v) (hd : cellsAt cs f.offset n = some d) : Does P μ (Instr.field s v k) w d σ := by
  obtain ⟨vs, rfl, hc⟩ := hv.agg
  obtain ⟨u, hu, hr⟩ := part_sound (P := P) (w := w) hn hc hd
  refine Does.of hs hr ?_
  simp [Instr.field, run_underlying ht, hf, asAgg, hu]

/-- An element's place in a row. -/
theorem CRes.get {sz : Nat} : ∀ {es : List D} {b o : Nat}, CRes μ sz es b o → ∀ {i : Nat} {e : D}, es[i]? = some e →
    ∃ vs, vs.length = sz ∧ vs.all Value.oneCell' = true ∧ ImmAt μ b (o + i * sz) vs ∧ CR μ e vs
  | [], _, _, _, _, _, e => by simp at e
  | d :: ds, b, o, h, i, x, e => by
    simp only [CRes] at h
    obtain ⟨h1, h2⟩ := h
    cases i with
    | zero => simp at e; subst e; simpa using h1
    | succ i =>
      have := CRes.get h2 (i := i) (e := x) (by simpa using e)
      rwa [show o + sz + i * sz = o + (i + 1) * sz by rw [Nat.add_mul]; omega] at this

theorem idxAddrS_sound (hs : Sim μ σ w) {t e : TypeId} (ht : P.underlying t = some (.slice e)) {ie : TypeInfo} (hie : P.info? e = some ie) {x i d : D} {vx vi : Value} (hx : VR μ x vx) (hi : VR μ i vi)
    (h : idxAddrS ie.size x i = some d) : Does P μ (Instr.indexAt t vx vi) w d σ := by
  have hrun : ∀ (b o len cap : Nat) (k : IntKind) (n : Int), 0 ≤ n → n < (len : Int) → (Instr.indexAt t (.slice (some ⟨b, o, none⟩) len cap) (.int k n)).run P w = .ok (.pointer (some ⟨b, o + n.toNat * ie.size, none⟩)) w := by
    intro b o len cap k n h0 h1
    simp [Instr.indexAt, run_underlying ht, asIntOf, h0, h1, run_sizeOf' hie, addr_add]
  unfold idxAddrS at h
  split at h
  · rename_i s es r k n
    split at h
    · rename_i hc
      obtain ⟨rfl, h0⟩ := hc
      simp only [Option.bind_eq_some_iff, Option.map_eq_some_iff] at h
      obtain ⟨el, h1, c, h2, rfl⟩ := h
      obtain ⟨b, o, cap, rfl, hes, _⟩ := hx.slc
      obtain rfl := hi.int
      have hlt := (List.getElem?_eq_some_iff.1 h1).1
      obtain ⟨vs, g1, _, g2, g3⟩ := hes.get h1
      refine Does.of hs ?_ (hrun b o _ cap k n h0 (by omega))
      have := VR.mk_box (off := 0) (CRat.of_l (g3.cells h2) g2)
      simpa using this
    · cases h
  · rename_i j off s len r k n
    split at h
    · rename_i hc
      obtain ⟨rfl, h0, h1⟩ := hc
      simp only [Option.some.injEq] at h
      subst h
      obtain ⟨b, o, cap, hl, rfl, _⟩ := hx.rslc
      obtain rfl := hi.int
      refine Does.of hs ?_ (hrun b _ _ cap k n h0 h1)
      rw [Nat.add_assoc]
      exact VR.mk_ref hl
    · cases h
  · cases h

theorem idxAddrA_sound (hs : Sim μ σ w) {t e : TypeId} {len : Nat} (ht : P.underlying t = some (.array len e)) {ie : TypeInfo} (hie : P.info? e = some ie) {x i d : D} {vx vi : Value} (hx : VR μ x vx) (hi : VR μ i vi)
    (h : idxAddrA len ie.size x i = some d) : Does P μ (Instr.indexAt t vx vi) w d σ := by
  have hrun : ∀ (b o : Nat) (k : IntKind) (n : Int), 0 ≤ n → n < (len : Int) → (Instr.indexAt t (.pointer (some ⟨b, o, none⟩)) (.int k n)).run P w = .ok (.pointer (some ⟨b, o + n.toNat * ie.size, none⟩)) w := by
    intro b o k n h0 h1
    simp [Instr.indexAt, run_underlying ht, asIntOf, Instr.sureAddr, h0, h1, run_sizeOf' hie, addr_add]
  unfold idxAddrA at h
  split at h
  · rename_i c off k n
    split at h
    · rename_i hc
      simp only [Option.some.injEq] at h
      subst h
      obtain ⟨b, o, rfl, hca⟩ := hx.box
      obtain rfl := hi.int
      refine Does.of hs ?_ (hrun b _ k n hc.1 hc.2)
      rw [Nat.add_assoc]
      exact VR.mk_box hca
    · cases h
  · rename_i j off k n
    split at h
    · rename_i hc
      simp only [Option.some.injEq] at h
      subst h
      obtain ⟨b, o, hl, rfl⟩ := hx.ref
      obtain rfl := hi.int
      refine Does.of hs ?_ (hrun b _ k n hc.1 hc.2)
      rw [Nat.add_assoc]
      exact VR.mk_ref hl
    · cases h
  · cases h

theorem idxStr_sound (hs : Sim μ σ w) {t : TypeId} (ht : P.underlying t = some .string) {x i d : D} {vx vi : Value} (hx : VR μ x vx) (hi : VR μ i vi)
    (h : idxStr x i = some d) : Does P μ (Instr.index t vx vi) w d σ := by
  unfold idxStr at h
  split at h
  · rename_i s k n
    split at h
    · rename_i h0
      simp only [Option.map_eq_some_iff] at h
      obtain ⟨b, hb, rfl⟩ := h
      obtain rfl := hx.str
      obtain rfl := hi.int
      refine Does.of hs (VR.mk_int _ _) ?_
      have hg : (⟨s.toArray⟩ : ByteArray)[n.toNat]? = some b := by rw [← hb]; exact ba_get _ _
      simp [Instr.index, run_underlying ht, asIntOf, h0, hg]
    · cases h
  · cases h

theorem idxArr_sound (hs : Sim μ σ w) {t e : TypeId} {len : Nat} (ht : P.underlying t = some (.array len e)) {ie : TypeInfo} (hie : P.info? e = some ie) {m : Option Nat} (hm : aggN P e = some m) {cs : List D} {k : IntKind} {n : Int}
    {d : D} {vx vi : Value} (hx : VR μ (.agg cs) vx) (hi : VR μ (.int k n) vi) (h0 : 0 ≤ n) (h1 : n < len) (h : cellsAt cs (n.toNat * ie.size) m = some d) : Does P μ (Instr.index t vx vi) w d σ := by
  obtain ⟨vs, rfl, hc⟩ := hx.agg
  obtain rfl := hi.int
  obtain ⟨u, hu, hr⟩ := part_sound (P := P) (w := w) hm hc h
  refine Does.of hs hr ?_
  simp [Instr.index, run_underlying ht, asIntOf, h0, h1, run_sizeOf' hie, hu]

theorem extract_sound (hs : Sim μ σ w) {ds : List D} {d : D} {v : Value} (hv : VR μ (.tuple ds) v) {i : Nat} (h : ds[i]? = some d) : Does P μ (Instr.extract v i) w d σ := by
  obtain ⟨ws, rfl, hc⟩ := hv.tuple
  obtain ⟨u, hu, hr⟩ := hc.get h
  refine Does.of hs hr ?_
  simp [Instr.extract, hu]

end
end Go.Id
