/-
  THE FRAME, layer 13: texts as an argument.
-/
import Derived.Test.YthiidchbaicfgaaGreatDoorZX
import Derived.Test.YthiidchbaicfgaaGreatDoorZC
namespace Go.Id
open Go.WideShapes Go.ChangeShapes Go.ChangeAt
set_option linter.unusedVariables false
set_option linter.unusedSimpArgs false
/-- A slice of texts. -/
theorem open_strs {H : Type} {enc : TypeId × Value → H} {P : Program} {W : World} {t e : TypeId} {v : Value} {d : DataW H} {ps : List MemPlace} {base : Nat} (ht : P.underlying t = some (.slice e)) (he : P.underlying e = some .string) (hc : P.cellsOf e = 1)
    (hval : Value.okWide P W .any base t v) (h : DataW.Trod enc P W 0 (fun _ => true) true t v d ps) :
    ∃ (x : D) (l : List (List UInt8)), (okAgg x v = true ∧ CR (mu0 W) x (vcells v)) ∧ ((x = .nils ∧ l = []) ∨ x = .slc 1 (l.map .str) .closed) := by
  obtain ⟨fuel, h⟩ := h
  obtain ⟨a, len, cap, rfl⟩ := okWide_slice ht hval
  rcases DataW.trod_slice ht h with ⟨h0, _⟩ | ⟨a, len', cap', elems, rest, n, hfu, hv, hx, _, hl, hm, hlen, hel, hsp, hns⟩
  · have h0' : a = none ∧ len = 0 ∧ cap = 0 := by simpa [Value.cells] using h0
    obtain ⟨rfl, rfl, rfl⟩ := h0'
    exact ⟨.nils, [], ⟨rfl, by simp only [CR]; rfl⟩, .inl ⟨rfl, rfl⟩⟩
  · have hv' : ‹Option Addr› = some a ∧ len = len' ∧ cap = cap' := by simpa [Value.cells] using hv
    obtain ⟨rfl, rfl, rfl⟩ := hv'
    have hspot : a.spot = none := by
      simp only [Value.okWide, ht, Cell.okWide, Cell.ok] at hval
      exact hval.2.2.2.1
    obtain ⟨b, o, sp⟩ := a
    simp only at hspot
    subst hspot
    have each : ∀ i, i < len → ∃ s : List UInt8, W.cell? ⟨b, o + i, none⟩ = some (.string ⟨s.toArray⟩) := by
      intro i hi
      have h1 := hel i hi
      rw [List.getElem?_eq_getElem (by omega), hc, Option.bind_eq_some_iff] at h1
      obtain ⟨cs, h2, h3⟩ := h1
      obtain ⟨s0, m0, _, m1⟩ := DataW.trod_string he h3
      simp only [World.cells?] at h2
      rw [if_pos (by omega)] at h2
      simp only [List.range_succ, List.range_zero, List.nil_append, List.cons_append, List.mapM_cons, List.mapM_nil, Option.bind_eq_bind, Option.bind_eq_some_iff, Option.pure_def, Option.some.injEq] at h2
      obtain ⟨u0, q0, l1, rfl, hu⟩ := h2
      rw [m0] at hu
      simp only [List.cons.injEq, and_true] at hu
      subst hu
      exact ⟨s0.data.toList, by simpa [add_none] using q0⟩
    have all : ∀ (k i : Nat), i + k ≤ len → ∃ l : List (List UInt8), l.length = k ∧ CRes (mu0 W) 1 (l.map .str) b (o + i) := by
      intro k
      induction k with
      | zero => intro i _; exact ⟨[], rfl, by simp only [List.map_nil, CRes]⟩
      | succ k ih =>
        intro i hi
        obtain ⟨s, g1⟩ := each i (by omega)
        obtain ⟨l, k1, k2⟩ := ih (i + 1) (by omega)
        refine ⟨s :: l, by simp [k1], ?_⟩
        simp only [List.map_cons, CRes]
        refine ⟨⟨[.string ⟨s.toArray⟩], rfl, rfl, fun j v e => ?_, ?_⟩, ?_⟩
        · match j, e with
          | 0, e => simp at e; subst e; exact mu0_imm g1
        · simp [CR, CRl]
        · have : o + i + 1 = o + (i + 1) := by omega
          rw [this]; exact k2
    obtain ⟨l, k1, k2⟩ := all len 0 (by omega)
    refine ⟨.slc 1 (l.map .str) .closed, l, ⟨rfl, ?_⟩, .inr rfl⟩
    simp only [CR]
    refine ⟨b, o, cap, ?_, by simpa using k2, ?_⟩
    · simp [vcells, k1]
    · simp only [RoomR, List.length_map, k1]; omega
end Go.Id
namespace Go.Proofs.YthiidchbaicfgaaGreatDoor
open Go Go.Id
theorem strs_arg {x : D} {l : List (List UInt8)} (h : (x = .nils ∧ l = []) ∨ x = .slc 1 (l.map .str) .closed) : Strs x l := by
  rcases h with ⟨rfl, rfl⟩ | rfl
  · exact .snil
  · exact .ssome _ _
end Go.Proofs.YthiidchbaicfgaaGreatDoor
