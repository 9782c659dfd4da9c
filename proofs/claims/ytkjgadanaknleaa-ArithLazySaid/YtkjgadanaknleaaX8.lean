/-
  'ArithLazy': whatever the number and the text, what doesn't matter is not reckoned: the law returns true, and its arguments read as they did.
-/
import Derived.Test.YtkjgadanaknleaaRows
import Derived.Test.YtkjgadanaknleaaW23
import Derived.Test.YtkjgadanaknleaaIdT
namespace Go.Proofs.Ytkjgadanaknleaa.arithLazy
open Go Go.Id Go.ChangeShapes Go.WideShapes Go.ChangeAt Go.RowKit
set_option linter.unusedVariables false

theorem own : ownKnob Try.prog.godebug = none := by kernel_rfl
theorem laid : laidOutB Try.prog = true := by kernel_rfl
theorem i64 {n : Int} (h : (Lit.int .i64 n).wf = true) : I64 n := by simpa [Lit.wf, IntKind.min, IntKind.max, IntKind.signed, IntKind.bits, I64] using h

set_option maxRecDepth 100000 in
theorem lifted (os : Os) (started : os.Started) (H : Type) (enc : TypeId × Value → H) :
    ReturnsInHanded {} Try.checked os 8 .any (Rows.arithLazySpec.pre6 enc Try.prog Try.f8 Rows.arithLazyRow.domain false) (Rows.arithLazySpec.post enc Try.prog Try.f8 false true false false) := by
  refine returnsInHanded_of_change (C := Try.checked) own started (by kernel_rfl) Try.func8
    (ChangeSpec.witness6 (enc := enc) (C := Try.checked) false ⟨#[], #[.int .i64 0, .string ⟨#[]⟩], []⟩ 8 (by kernel_rfl) (by kernel_rfl) (by kernel_rfl) (by kernel_rfl)) ?_
  intro W base args ds gs before hval0 hW hcnd _
  have hval : ∀ (j : Nat) t v, Try.f8.params[j]? = some t → args[j]? = some v → Value.okWide Try.prog W .any base t v := hval0
  have hW' := hW
  obtain ⟨p, q, hA0, hV, hpq, hfz, hnd⟩ := hW
  have hA : DataW.TrodAll enc Try.prog W 0 (fun _ => true) true Try.f8.params.toList args.toList ds p := hA0
  rw [Try.params8] at hA hval
  obtain ⟨v0, vs0, d0, ds0, p0, q0, hargs, hds, hp, h0, r0⟩ := trodAll_cons hA
  obtain ⟨v1, vs1, d1, ds1, p1, q1, rfl, rfl, rfl, h1, r1⟩ := trodAll_cons r0
  obtain ⟨rfl, rfl, rfl⟩ := trodAll_nil r1
  obtain rfl : args = #[v0, v1] := by cases args; simp_all
  obtain ⟨rfl, hgs⟩ := trodVars_none hV
  obtain ⟨a0, rfl, rfl, rfl, w0⟩ := open_int Try.underlying3 (hval 0 3 v0 rfl rfl) h0
  obtain ⟨s1, rfl, rfl, rfl, w1⟩ := Go.ChangeMaps.open_string Try.underlying9 (hval 1 9 v1 rfl rfl) h1
  refine (law_calls (CRt_cons (VR0_int _ .i64 a0) (CRt_cons (VR0_str _ s1) (CRt_nil _))) (lazy_ok a0 s1.data.toList (i64 w0) st0)).mono fun e W' ⟨he, hb⟩ => ?_
  subst he
  subst hds
  exact ⟨_, rfl, post_law laid (by kernel_rfl) hW' hb rfl rfl Try.underlying4 rfl rfl rfl⟩

theorem over : Rows.arithLazyRow.holds Try.pinned (OpenSpec.ofChange Rows.arithLazySpec) :=
  OpenClaim.holds_of_wide 8 Try.f8 rfl rfl rfl rfl rfl rfl rfl ⟨rfl, rfl, rfl, rfl, rfl⟩ rfl rfl rfl rfl rfl (by kernel_rfl) Try.func8 (by kernel_rfl)
    (of_decide_eq_true (by kernel_rfl)) (by unfold Func.isWrapper; first | (rw [if_pos (by decide +kernel)]; kernel_rfl) | (rw [if_neg (by decide +kernel)]; exact ⟨rfl, rfl⟩))
    (fun os started H enc _ => lifted os started H enc)
end Go.Proofs.Ytkjgadanaknleaa.arithLazy
namespace Go.Proofs.Ytkjgadanaknleaa
/-- THE STATEMENT. -/
theorem arithLazy_holds : Rows.ArithLazySaid := arithLazy.over
end Go.Proofs.Ytkjgadanaknleaa
#print axioms Go.Proofs.Ytkjgadanaknleaa.arithLazy_holds
