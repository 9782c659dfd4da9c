/-
  THE IDEAL LAYER, PART T: from a law's contract to what a row says of it: the arguments by their contents, the result, and that the arguments read as they did.
-/
import Derived.Test.YtkjgadanaknleaaIdS
import Derived.WalkKit
import Derived.ProofKit
import Derived.OpenShut
import Derived.Carry
namespace Go.Id
open Go.RowKit Go.WideShapes Go.ChangeShapes Go.ChangeAt
set_option linter.unusedVariables false
set_option linter.unusedSimpArgs false

/-- At a call's start nothing is written any more: all that there is, is by its contents. -/
def mu0 (W : World) : Mu := { own := fun b o => match W.cell? ⟨b, o, none⟩ with | some v => .imm v | none => .none, loc := fun _ => none, tl := fun _ => none, w0 := W }
def st0 : St := { obj := fun _ => none, next := 0 }
theorem mu0_imm {W : World} {b o : Nat} {v : Value} (h : W.cell? ⟨b, o, none⟩ = some v) : (mu0 W).own b o = .imm v := by simp only [mu0, h]
theorem sim0 (W : World) : Sim (mu0 W) st0 W := by
  refine ⟨fun b o v e => ?_, fun j cs e => ?_, fun t e => ?_, fun b o hb => ?_, fun j _ => ⟨rfl, rfl, rfl⟩, Below.refl _ _⟩
  · simp only [mu0] at e
    split at e
    · rename_i u hu; rw [hu]; simpa using e
    · cases e
  · simp [st0] at e
  · simp [st0] at e
  · have : W.cell? ⟨b, o, none⟩ = none := by
      simp only [World.cell?]
      rw [Array.getElem?_eq_none (by simpa using hb)]
    simp only [mu0, this]
theorem vr_true {μ : Mu} {v : Value} (h : VR μ (.bool true) v) : v = .bool true := by
  obtain ⟨h0, h5⟩ := h
  simp only [CR] at h5
  cases v with
  | bool b =>
    have h6 : [Value.bool b] = [Value.bool true] := h5
    simp at h6; rw [h6]
  | agg cs => exact absurd (show false = true from h0) (by decide)
  | _ => exfalso; revert h5; intro h6; cases h6
/-- A law's contract, as what its call does. -/
theorem law_calls {P : Program} {f : FuncId} {ds : List D} {vs : List Value} {W : World} (hc : CRt (mu0 W) ds vs) (h : Ok P f ds st0 (fun o _ => o = .ret (.bool true))) :
    Calls P f ⟨vs⟩ W fun e W' => e = .returned (.bool true) ∧ Below W.heap.size W W' := by
  refine (h (mu0 W) W vs (sim0 W) hc).mono fun e W' ⟨μ', σ', o, h1, h2, h3, h4⟩ => ?_
  subst h4
  have hb := h2.bel
  rw [h1.w0] at hb
  refine ⟨?_, hb⟩
  match e, h3 with
  | .returned v, h3 =>
    rw [vr_true h3]

theorem add_none (b o i : Nat) : (⟨b, o, none⟩ : Addr).add i = ⟨b, o + i, none⟩ := by
  unfold Addr.add; split <;> simp_all
section
variable {H : Type} {enc : TypeId × Value → H} {P : Program}
theorem trodAll_below (hl : laidOutB P = true) {W W' : World} (hb : Below W.heap.size W W') : ∀ {ts : List TypeId} {vs : List Value} {ds : List (DataW H)} {ps : List MemPlace}, (ts.all fun t => P.readableRec t && decide (t < P.types.size)) = true →
    DataW.TrodAll enc P W 0 (fun _ => true) true ts vs ds ps → (∀ x ∈ ps, x.block < W.heap.size) → DataW.TrodAll enc P W' 0 (fun b => decide (b < W.heap.size)) true ts vs ds ps
  | [], [], [], ps, _, h, _ => h
  | t :: ts, v :: vs, d :: ds, ps, hr, h, hlt => by
    obtain ⟨p, q, h1, h2, rfl⟩ := h
    simp only [List.all_cons, Bool.and_eq_true, decide_eq_true_eq] at hr
    exact ⟨p, q, Below.trod hl hr.1.1 hr.1.2 h1 hb fun x hx => hlt x (List.mem_append_left _ hx), trodAll_below hl hb (by simpa using hr.2) h2 fun x hx => hlt x (List.mem_append_right _ hx), rfl⟩
  | [], [], _ :: _, _, _, h, _ => h.elim
  | [], _ :: _, _, _, _, h, _ => h.elim
  | _ :: _, [], _, _, _, h, _ => h.elim
  | _ :: _, _ :: _, [], _, _, h, _ => h.elim
theorem kept_below {W W' : World} (h : Below W.heap.size W W') : W.keptBut W' (fun _ => False) := by
  refine ⟨h.os, h.output, fun i hi => ?_⟩
  rw [h.block i hi]
  cases W.heap[i]? with
  | none => rfl
  | some o => cases o <;> first | exact ⟨rfl, rfl, rfl, fun _ _ => rfl⟩ | exact .inr ⟨rfl, rfl⟩ | rfl
/-- What a row asks behind a law's call. -/
theorem post_law {fn : Func} {s : ChangeSpec} {apart fresh : Bool} {W W' : World} {args : Array Value} {ds gs : List (DataW H)} {before : List MemPlace} {tb : TypeId} (hl : laidOutB P = true)
    (hr : (fn.params.toList.all fun t => P.readableRec t && decide (t < P.types.size)) = true) (hW : DataW.Whole enc P fn.params.toList s.vars apart W args.toList ds gs before) (hb : Below W.heap.size W W') (hv : s.vars = [])
    (ht : fn.resultTypes = #[tb]) (hbool : P.underlying tb = some .bool) (hs : (s.fn H (ds ++ gs)).results = [.lit (.bool true)]) (ha : (s.fn H (ds ++ gs)).args = ds) (hsv : (s.fn H (ds ++ gs)).vars = []) :
    s.post enc P fn apart fresh false false W args (.bool true) W' := by
  have hlt : ∀ p ∈ before, p.block < W.heap.size := fun p hp => hW.lt p hp
  have hW' := hW
  obtain ⟨p, q, h1, h2, h3, h4, h5⟩ := hW
  rw [hv] at h2
  obtain ⟨rfl, rfl⟩ := trodVars_none h2
  refine ⟨ds, [], before, [], p, [], hW', ?_, ?_, ?_, World.keptBut_mono (fun _ h => h.elim) (kept_below hb), fun h => by cases h⟩
  · rw [hs, ht]
    exact trodAll_cons_mk (shut_bool hbool _) trodAll_mk0
  · rw [ha]
    exact trodAll_below hl hb hr h1 fun x hx => hlt x (by rw [h3]; simpa using hx)
  · rw [hv, hsv]; rfl
end

/-! Arguments by their contents. -/
theorem VR0_int (μ : Mu) (k : IntKind) (n : Int) : okAgg (.int k n) (.int k n) = true ∧ CR μ (.int k n) (vcells (.int k n)) := ⟨rfl, by simp only [CR]; rfl⟩
theorem VR0_str (μ : Mu) (s : ByteArray) : okAgg (.str s.data.toList) (.string s) = true ∧ CR μ (.str s.data.toList) (vcells (.string s)) := ⟨rfl, by simp only [CR]; simp [vcells]⟩
theorem CRt_cons {μ : Mu} {d : D} {ds : List D} {v : Value} {vs : List Value} (h : okAgg d v = true ∧ CR μ d (vcells v)) (hs : CRt μ ds vs) : CRt μ (d :: ds) (v :: vs) := by
  simp only [CRt]; exact ⟨v, vs, rfl, h.1, h.2, hs⟩
theorem CRt_nil (μ : Mu) : CRt μ [] [] := by simp only [CRt]
/-- A slice of structs of two strings. -/
theorem open_pairs {H : Type} {enc : TypeId × Value → H} {P : Program} {W : World} {t e s : TypeId} {fs : Array Field} {v : Value} {d : DataW H} {ps : List MemPlace} {base : Nat} (ht : P.underlying t = some (.slice e)) (he : P.underlying e = some (.struct fs))
    (hf : fs.toList.map (fun f => (f.type, f.offset)) = [(s, 0), (s, 1)]) (hs : P.underlying s = some .string) (hc : P.cellsOf e = 2) (hcs : P.cellsOf s = 1)
    (hval : Value.okWide P W .any base t v) (h : DataW.Trod enc P W 0 (fun _ => true) true t v d ps) :
    ∃ (x : D) (l : List (List UInt8 × List UInt8)), (okAgg x v = true ∧ CR (mu0 W) x (vcells v)) ∧ ((x = .nils ∧ l = []) ∨ x = .slc 2 (l.map fun p => .agg [.str p.1, .str p.2]) .closed) ∧ ∀ p ∈ l, p.1.length ≤ maxLen ∧ p.2.length ≤ maxLen := by
  obtain ⟨fuel, h⟩ := h
  obtain ⟨a, len, cap, rfl⟩ := okWide_slice ht hval
  rcases DataW.trod_slice ht h with ⟨h0, _⟩ | ⟨a, len', cap', elems, rest, n, hfu, hv, hx, _, hl, hm, hlen, hel, hsp, hns⟩
  · have h0' : a = none ∧ len = 0 ∧ cap = 0 := by simpa [Value.cells] using h0
    obtain ⟨rfl, rfl, rfl⟩ := h0'
    exact ⟨.nils, [], ⟨rfl, by simp only [CR]; rfl⟩, .inl ⟨rfl, rfl⟩, by simp⟩
  · have hv' : ‹Option Addr› = some a ∧ len = len' ∧ cap = cap' := by simpa [Value.cells] using hv
    obtain ⟨rfl, rfl, rfl⟩ := hv'
    have hspot : a.spot = none := by
      simp only [Value.okWide, ht, Cell.okWide, Cell.ok] at hval
      exact hval.2.2.2.1
    obtain ⟨b, o, sp⟩ := a
    simp only at hspot
    subst hspot
    -- each element
    have each : ∀ i, i < len → ∃ p : List UInt8 × List UInt8, W.cell? ⟨b, o + i * 2, none⟩ = some (.string ⟨p.1.toArray⟩) ∧ W.cell? ⟨b, o + i * 2 + 1, none⟩ = some (.string ⟨p.2.toArray⟩) ∧ p.1.length ≤ maxLen ∧ p.2.length ≤ maxLen := by
      intro i hi
      have h1 := hel i hi
      rw [List.getElem?_eq_getElem (by omega), hc, Option.bind_eq_some_iff] at h1
      obtain ⟨cs, h2, h3⟩ := h1
      obtain ⟨xs, m, _, _, h5, h6, h7⟩ := DataW.trod_struct he h3
      have hfl : fs.size = 2 := by
        have := congrArg List.length hf; simpa using this
      have f0 : ∃ f, fs[0]? = some f ∧ f.type = s ∧ f.offset = 0 := by
        have := congrArg (fun l => l[0]?) hf
        simp only [List.getElem?_map, Array.getElem?_toList, List.getElem?_cons_zero, Option.map_eq_some_iff, Prod.mk.injEq] at this
        obtain ⟨f, g1, g2, g3⟩ := this
        exact ⟨f, g1, g2, g3⟩
      have f1 : ∃ f, fs[1]? = some f ∧ f.type = s ∧ f.offset = 1 := by
        have := congrArg (fun l => l[1]?) hf
        simp only [List.getElem?_map, Array.getElem?_toList, List.getElem?_cons_succ, List.getElem?_cons_zero, Option.map_eq_some_iff, Prod.mk.injEq] at this
        obtain ⟨f, g1, g2, g3⟩ := this
        exact ⟨f, g1, g2, g3⟩
      obtain ⟨fa, ga, gb, gc⟩ := f0
      obtain ⟨fb, ha, hb, hc'⟩ := f1
      have k0 := h7 0 fa ga
      have k1 := h7 1 fb ha
      rw [List.getElem?_eq_getElem (by omega), gb, gc, hcs] at k0
      rw [List.getElem?_eq_getElem (by omega), hb, hc', hcs] at k1
      obtain ⟨s0, m0, _, m1⟩ := DataW.trod_string hs k0
      obtain ⟨s1, n0, _, n1⟩ := DataW.trod_string hs k1
      rw [hc] at h5
      obtain ⟨c0, c1, rfl⟩ : ∃ c0 c1, cs = [c0, c1] := by
        match cs, h5 with
        | [c0, c1], _ => exact ⟨c0, c1, rfl⟩
      simp at m0 n0
      subst m0; subst n0
      simp only [World.cells?] at h2
      rw [if_pos (by omega)] at h2
      simp only [List.range_succ, List.range_zero, List.nil_append, List.cons_append, List.mapM_cons, List.mapM_nil, Option.bind_eq_bind, Option.bind_eq_some_iff, Option.pure_def, Option.some.injEq] at h2
      obtain ⟨u0, q0, l1, ⟨u1, q1, l2, rfl, rfl⟩, hu⟩ := h2
      simp only [List.cons.injEq, and_true] at hu
      obtain ⟨rfl, rfl⟩ := hu
      refine ⟨(s0.data.toList, s1.data.toList), ?_, ?_, by simpa using m1, by simpa using n1⟩
      · simpa [add_none] using q0
      · simpa [add_none] using q1
    -- all of them
    have all : ∀ (k i : Nat), i + k ≤ len → ∃ l : List (List UInt8 × List UInt8), l.length = k ∧ CRes (mu0 W) 2 (l.map fun p => .agg [.str p.1, .str p.2]) b (o + i * 2) ∧ ∀ p ∈ l, p.1.length ≤ maxLen ∧ p.2.length ≤ maxLen := by
      intro k
      induction k with
      | zero => intro i _; exact ⟨[], rfl, by simp only [List.map_nil, CRes], by simp⟩
      | succ k ih =>
        intro i hi
        obtain ⟨p, g1, g2, g3, g4⟩ := each i (by omega)
        obtain ⟨l, k1, k2, k3⟩ := ih (i + 1) (by omega)
        refine ⟨p :: l, by simp [k1], ?_, fun q hq => ?_⟩
        · simp only [List.map_cons, CRes]
          refine ⟨⟨[.string ⟨p.1.toArray⟩, .string ⟨p.2.toArray⟩], rfl, rfl, fun j v e => ?_, ?_⟩, ?_⟩
          · match j, e with
            | 0, e => simp at e; subst e; exact mu0_imm g1
            | 1, e => simp at e; subst e; exact mu0_imm g2
          · simp [CR, CRl]
          · have : o + i * 2 + 2 = o + (i + 1) * 2 := by omega
            rw [this]; exact k2
        · rcases List.mem_cons.1 hq with rfl | hq
          · exact ⟨g3, g4⟩
          · exact k3 q hq
    obtain ⟨l, k1, k2, k3⟩ := all len 0 (by omega)
    refine ⟨.slc 2 (l.map fun p => .agg [.str p.1, .str p.2]) .closed, l, ⟨rfl, ?_⟩, .inr rfl, k3⟩
    simp only [CR]
    refine ⟨b, o, cap, ?_, by simpa using k2, ?_⟩
    · simp [vcells, k1]
    · simp only [RoomR, List.length_map, k1]; omega
end Go.Id
