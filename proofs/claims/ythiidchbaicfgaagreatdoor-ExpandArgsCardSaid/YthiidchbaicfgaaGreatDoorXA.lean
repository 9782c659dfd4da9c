/-
  'ExpandArgs': whatever the variables and the parameters, the parameters in quotes are the parameters, each a field, and joined one field: the law returns true, and its arguments read as they did; where it begins with Go's own tables as the program's text lays them.
-/
import Derived.Test.YthiidchbaicfgaaGreatDoorTie
import Derived.Test.YthiidchbaicfgaaGreatDoorCards
import Derived.Test.YthiidchbaicfgaaGreatDoorZY
import Derived.Test.YthiidchbaicfgaaGreatDoorYL
import Derived.ProofKit
import Derived.OpenShut
import Derived.LaidMore
import Derived.Lay
import Derived.SevenTiedAt
import Derived.Stop.Joined
namespace Go.Proofs.YthiidchbaicfgaaGreatDoor.params
open Go Go.Id Go.ChangeShapes Go.WideShapes Go.ChangeAt Go.RowKit
set_option linter.unusedVariables false

theorem own : ownKnob Tryz.prog.godebug = none := by kernel_rfl
theorem laidOut : laidOutB Tryz.prog = true := by kernel_rfl
set_option maxRecDepth 100000 in
theorem lifted (os : Os) (started : os.Started) (H : Type) (enc : TypeId × Value → H) :
    ReturnsInHanded {} Tryz.checked os 4 .any (fun w args => (Rows.expandArgsSpec.pre enc Tryz.prog Tryz.f4 Rows.expandArgsRow.domain false w args ∧ laidMetH Tryz.prog Rows.expandArgsRow.laid w) ∧ sizedMet enc Tryz.prog Tryz.f4 (OpenSpec.ofChange Rows.expandArgsSpec) false w args)
      (Rows.expandArgsSpec.post enc Tryz.prog Tryz.f4 false true false false) := by
  refine returnsInHanded_of_change_and (C := Tryz.checked) (X := fun w _ => laidMetH Tryz.prog Rows.expandArgsRow.laid w) (fun _ _ _ hh h => h.of_heap hh) own started (by kernel_rfl) Tryz.func4
    (ChangeSpec.witness_shaped (enc := enc) (C := Tryz.checked) (os := os) (X := fun w _ => laidMetH Tryz.prog Rows.expandArgsRow.laid w) false (World.laidAll Tryz.prog os Rows.expandArgsRow.laid) #[.slice none 0 0, .slice none 0 0] 8 (World.laidAll_os _ _ _)
      (World.shaped_of_ZipB (by kernel_rfl) (by kernel_rfl)) (by kernel_rfl) (by kernel_rfl) (by kernel_rfl)
      (by rw [MakeChecks.laidMetH_plain _ _ _ (by kernel_rfl)]; exact laidMet_laidAll _ (by kernel_rfl) (by kernel_rfl))) ?_
  intro W base args ds gs before hval0 hW hc _ hL _
  have hval : ∀ (j : Nat) t v, Tryz.f4.params[j]? = some t → args[j]? = some v → Value.okWide Tryz.prog W .any base t v := hval0
  have hW' := hW
  obtain ⟨p, q, hA0, hV, hpq, hfz, hnd⟩ := hW
  have hA : DataW.TrodAll enc Tryz.prog W 0 (fun _ => true) true Tryz.f4.params.toList args.toList ds p := hA0
  rw [Tryz.params4] at hA hval
  obtain ⟨v0, vs0, d0, ds0, p0, q0, hargs, hds, hp, h0, r0⟩ := trodAll_cons hA
  obtain ⟨v1, vs1, d1, ds1, p1, q1, rfl, rfl, rfl, h1, r1⟩ := trodAll_cons r0
  obtain ⟨rfl, rfl, rfl⟩ := trodAll_nil r1
  obtain rfl : args = #[v0, v1] := by cases args; simp_all
  obtain ⟨rfl, hgs⟩ := trodVars_none hV
  obtain ⟨x, l, hx, hd, hm⟩ := open_pairs (s := 9) Tryz.underlying22 Tryz.underlying57 (by kernel_rfl) Tryz.underlying9 (by kernel_rfl) (by kernel_rfl) (hval 0 22 v0 rfl rfl) h0
  obtain ⟨ga, ag, hga, hgd⟩ := open_strs Tryz.underlying24 Tryz.underlying9 (by kernel_rfl) (hval 1 24 v1 rfl rfl) h1
  refine (law_calls (CRt_cons hx (CRt_cons hga (CRt_nil _))) (law4 (vars_arg hd) (strs_arg hgd) st0)).mono fun e W' ⟨he, hb⟩ => ?_
  subst he
  subst hds
  exact ⟨_, rfl, post_law laidOut (by kernel_rfl) hW' hb rfl rfl Tryz.underlying4 rfl rfl rfl⟩

theorem over : Rows.ExpandArgsSaid :=
  OpenClaim.holds_of_wide 4 Tryz.f4 rfl rfl rfl rfl rfl rfl rfl ⟨rfl, rfl, rfl, rfl, rfl⟩ rfl rfl rfl rfl rfl (by kernel_rfl) Tryz.func4 (by kernel_rfl)
    (of_decide_eq_true (by kernel_rfl)) (by unfold Func.isWrapper; first | (rw [if_pos (by decide +kernel)]; kernel_rfl) | (rw [if_neg (by decide +kernel)]; exact ⟨rfl, rfl⟩))
    (fun os started H enc _ => lifted os started H enc)
end Go.Proofs.YthiidchbaicfgaaGreatDoor.params
namespace Go.Proofs.YthiidchbaicfgaaGreatDoor
/-- THE STATEMENT: the card. -/
theorem expandArgs_holds : Rows.ExpandArgsCardSaid :=
  Claim7.holds_tied_plain_at .later [] [.data, .pinned] true (true, "fbb1eca8205ba94542e8c34db8957d28a097eb80b2e7bd9079067efc0da48885") true params.over (fun _ h => by cases h) (by kernel_rfl) (fun _ h => by cases h) expandArgs_row_tie rfl ⟨rfl, rfl⟩ (by kernel_rfl) rfl
    (fun f fn hf hfn => by
      obtain rfl : f = 4 := Option.some.inj ((show Tryz.prog.funcNamed "rehearsal/rehearsallaw13.ExpandArgs" = some 4 by kernel_rfl).symm.trans hf) |>.symm
      obtain rfl : fn = Tryz.f4 := (Option.some.inj (Tryz.func4.symm.trans hfn)).symm
      exact ⟨by kernel_rfl, fun j t ht => by
        rw [Tryz.params4] at ht
        have hm : t ∈ [22, 24] := by simpa using Array.mem_of_getElem? ht
        have hall : ([22, 24].all fun u => !Tryz.prog.wantsStandIn u) = true := by kernel_rfl
        exact (show Tryz.prog.wantsStandIn t = false by simpa using List.all_eq_true.1 hall t hm)⟩)
    (by kernel_rfl)
end Go.Proofs.YthiidchbaicfgaaGreatDoor
#print axioms Go.Proofs.YthiidchbaicfgaaGreatDoor.expandArgs_holds
