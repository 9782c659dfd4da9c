/-
  'ArithEvals': whatever the text and the variables, what the text is, how the variables are then, and the first error are what the document says: the law returns true, and its arguments read as they did.
-/
import Derived.Test.YtkjgadanaknleaaRows
import Derived.Test.YtkjgadanaknleaaY13
import Derived.Test.YtkjgadanaknleaaIdW
namespace Go.Proofs.Ytkjgadanaknleaa.arithEvals
open Go Go.Id Go.ChangeShapes Go.WideShapes Go.ChangeAt Go.RowKit
set_option linter.unusedVariables false

theorem own : ownKnob Try.prog.godebug = none := by kernel_rfl
theorem laid : laidOutB Try.prog = true := by kernel_rfl
theorem vars_arg {x : D} {l : List (List UInt8 × List UInt8)} (h : (x = .nils ∧ l = []) ∨ x = .slc 2 (l.map fun p => .agg [.str p.1, .str p.2]) .closed) (hm : ∀ p ∈ l, p.1.length ≤ maxLen ∧ p.2.length ≤ maxLen) :
    Vd x (l.map fun p => ⟨p.1, p.2⟩) ∧ ∀ v ∈ (l.map fun p => (⟨p.1, p.2⟩ : V)), v.value.length ≤ 9223372036854775807 := by
  constructor
  · rcases h with ⟨rfl, rfl⟩ | rfl
    · exact .vnil
    · have e : (l.map fun p => D.agg [.str p.1, .str p.2]) = (l.map fun p => (⟨p.1, p.2⟩ : V)).map V.d := by rw [List.map_map]; rfl
      rw [e]; exact .vsome _ _
  · intro v hv
    obtain ⟨p, hp, rfl⟩ := List.mem_map.1 hv
    exact (hm p hp).2
theorem i64 {n : Int} (h : (Lit.int .i64 n).wf = true) : I64 n := by simpa [Lit.wf, IntKind.min, IntKind.max, IntKind.signed, IntKind.bits, I64] using h

set_option maxRecDepth 100000 in
theorem lifted (os : Os) (started : os.Started) (H : Type) (enc : TypeId × Value → H) :
    ReturnsInHanded {} Try.checked os 3 .any (Rows.arithEvalsSpec.pre6 enc Try.prog Try.f3 Rows.arithEvalsRow.domain false) (Rows.arithEvalsSpec.post enc Try.prog Try.f3 false true false false) := by
  refine returnsInHanded_of_change (C := Try.checked) own started (by kernel_rfl) Try.func3
    (ChangeSpec.witness6 (enc := enc) (C := Try.checked) false ⟨#[], #[.string ⟨#[]⟩, .slice none 0 0], []⟩ 8 (by kernel_rfl) (by kernel_rfl) (by kernel_rfl) (by kernel_rfl)) ?_
  intro W base args ds gs before hval0 hW hcnd _
  have hval : ∀ (j : Nat) t v, Try.f3.params[j]? = some t → args[j]? = some v → Value.okWide Try.prog W .any base t v := hval0
  have hW' := hW
  obtain ⟨p, q, hA0, hV, hpq, hfz, hnd⟩ := hW
  have hA : DataW.TrodAll enc Try.prog W 0 (fun _ => true) true Try.f3.params.toList args.toList ds p := hA0
  rw [Try.params3] at hA hval
  obtain ⟨v0, vs0, d0, ds0, p0, q0, hargs, hds, hp, h0, r0⟩ := trodAll_cons hA
  obtain ⟨v1, vs1, d1, ds1, p1, q1, rfl, rfl, rfl, h1, r1⟩ := trodAll_cons r0
  obtain ⟨rfl, rfl, rfl⟩ := trodAll_nil r1
  obtain rfl : args = #[v0, v1] := by cases args; simp_all
  obtain ⟨rfl, hgs⟩ := trodVars_none hV
  obtain ⟨s0, rfl, rfl, rfl, w0⟩ := Go.ChangeMaps.open_string Try.underlying9 (hval 0 9 v0 rfl rfl) h0
  obtain ⟨x, l, hx, hd, hm⟩ := open_pairs (s := 9) Try.underlying22 Try.underlying35 (by kernel_rfl) Try.underlying9 (by kernel_rfl) (by kernel_rfl) (hval 1 22 v1 rfl rfl) h1
  obtain ⟨hvd, hvl⟩ := vars_arg hd hm
  refine (law_calls (CRt_cons (VR0_str _ s0) (CRt_cons hx (CRt_nil _))) (evals_ok s0.data.toList x _ hvd hvl st0)).mono fun e W' ⟨he, hb⟩ => ?_
  subst he
  subst hds
  exact ⟨_, rfl, post_law laid (by kernel_rfl) hW' hb rfl rfl Try.underlying4 rfl rfl rfl⟩

theorem over : Rows.arithEvalsRow.holds Try.pinned (OpenSpec.ofChange Rows.arithEvalsSpec) :=
  OpenClaim.holds_of_wide 3 Try.f3 rfl rfl rfl rfl rfl rfl rfl ⟨rfl, rfl, rfl, rfl, rfl⟩ rfl rfl rfl rfl rfl (by kernel_rfl) Try.func3 (by kernel_rfl)
    (of_decide_eq_true (by kernel_rfl)) (by unfold Func.isWrapper; first | (rw [if_pos (by decide +kernel)]; kernel_rfl) | (rw [if_neg (by decide +kernel)]; exact ⟨rfl, rfl⟩))
    (fun os started H enc _ => lifted os started H enc)
end Go.Proofs.Ytkjgadanaknleaa.arithEvals
namespace Go.Proofs.Ytkjgadanaknleaa
/-- THE STATEMENT. -/
theorem arithEvals_holds : Rows.ArithEvalsSaid := arithEvals.over
end Go.Proofs.Ytkjgadanaknleaa
#print axioms Go.Proofs.Ytkjgadanaknleaa.arithEvals_holds
