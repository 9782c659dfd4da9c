/-
  'ExpandNobody': whatever the words and the variables, nothing is expanded without a table, or a host: the law returns true, and its arguments read as they did; where it begins with Go's own tables as the program's text lays them.
-/
import Derived.Test.YthiidchbaicfgaaGreatDoorTie
import Derived.Test.YthiidchbaicfgaaGreatDoorCards
import Derived.Test.YthiidchbaicfgaaGreatDoorZC
import Derived.ProofKit
import Derived.OpenShut
import Derived.LaidMore
import Derived.Lay
import Derived.SevenTiedAt
import Derived.Stop.Joined
namespace Go.Proofs.YthiidchbaicfgaaGreatDoor.nobody
open Go Go.Id Go.ChangeShapes Go.WideShapes Go.ChangeAt Go.RowKit
set_option linter.unusedVariables false

theorem own : ownKnob Tryz.prog.godebug = none := by kernel_rfl
theorem laidOut : laidOutB Tryz.prog = true := by kernel_rfl
set_option maxRecDepth 100000 in
theorem lifted (os : Os) (started : os.Started) (H : Type) (enc : TypeId × Value → H) :
    ReturnsInHanded {} Tryz.checked os 6 .any (fun w args => (Rows.expandNobodySpec.pre enc Tryz.prog Tryz.f6 Rows.expandNobodyRow.domain false w args ∧ laidMetH Tryz.prog Rows.expandNobodyRow.laid w) ∧ sizedMet enc Tryz.prog Tryz.f6 (OpenSpec.ofChange Rows.expandNobodySpec) false w args)
      (Rows.expandNobodySpec.post enc Tryz.prog Tryz.f6 false true false false) := by
  refine returnsInHanded_of_change_and (C := Tryz.checked) (X := fun w _ => laidMetH Tryz.prog Rows.expandNobodyRow.laid w) (fun _ _ _ hh h => h.of_heap hh) own started (by kernel_rfl) Tryz.func6
    (ChangeSpec.witness_shaped (enc := enc) (C := Tryz.checked) (os := os) (X := fun w _ => laidMetH Tryz.prog Rows.expandNobodyRow.laid w) false (World.laidAll Tryz.prog os Rows.expandNobodyRow.laid) #[.slice none 0 0, .slice none 0 0] 8 (World.laidAll_os _ _ _)
      (World.shaped_of_ZipB (by kernel_rfl) (by kernel_rfl)) (by kernel_rfl) (by kernel_rfl) (by kernel_rfl)
      (by rw [MakeChecks.laidMetH_plain _ _ _ (by kernel_rfl)]; exact laidMet_laidAll _ (by kernel_rfl) (by kernel_rfl))) ?_
  intro W base args ds gs before hval0 hW hc _ hL _
  have hval : ∀ (j : Nat) t v, Tryz.f6.params[j]? = some t → args[j]? = some v → Value.okWide Tryz.prog W .any base t v := hval0
  have hW' := hW
  obtain ⟨p, q, hA0, hV, hpq, hfz, hnd⟩ := hW
  have hA : DataW.TrodAll enc Tryz.prog W 0 (fun _ => true) true Tryz.f6.params.toList args.toList ds p := hA0
  rw [Tryz.params6] at hA hval
  obtain ⟨v0, vs0, d0, ds0, p0, q0, hargs, hds, hp, h0, r0⟩ := trodAll_cons hA
  obtain ⟨v1, vs1, d1, ds1, p1, q1, rfl, rfl, rfl, h1, r1⟩ := trodAll_cons r0
  obtain ⟨rfl, rfl, rfl⟩ := trodAll_nil r1
  obtain rfl : args = #[v0, v1] := by cases args; simp_all
  obtain ⟨rfl, hgs⟩ := trodVars_none hV
  obtain ⟨w, hw, hwd⟩ := open_rows Tryz.underlying40 Tryz.underlying37 (by kernel_rfl) (hval 0 40 v0 rfl rfl) h0
  obtain ⟨x, l, hx, hd, hm⟩ := open_pairs (s := 9) Tryz.underlying22 Tryz.underlying57 (by kernel_rfl) Tryz.underlying9 (by kernel_rfl) (by kernel_rfl) (hval 1 22 v1 rfl rfl) h1
  refine (law_calls (CRt_cons hw (CRt_cons hx (CRt_nil _))) (nobody6 (words_arg hwd) (vars_arg hd) st0)).mono fun e W' ⟨he, hb⟩ => ?_
  subst he
  subst hds
  exact ⟨_, rfl, post_law laidOut (by kernel_rfl) hW' hb rfl rfl Tryz.underlying4 rfl rfl rfl⟩

theorem over : Rows.ExpandNobodySaid :=
  OpenClaim.holds_of_wide 6 Tryz.f6 rfl rfl rfl rfl rfl rfl rfl ⟨rfl, rfl, rfl, rfl, rfl⟩ rfl rfl rfl rfl rfl (by kernel_rfl) Tryz.func6 (by kernel_rfl)
    (of_decide_eq_true (by kernel_rfl)) (by unfold Func.isWrapper; first | (rw [if_pos (by decide +kernel)]; kernel_rfl) | (rw [if_neg (by decide +kernel)]; exact ⟨rfl, rfl⟩))
    (fun os started H enc _ => lifted os started H enc)
end Go.Proofs.YthiidchbaicfgaaGreatDoor.nobody
namespace Go.Proofs.YthiidchbaicfgaaGreatDoor
/-- THE STATEMENT: the card. -/
theorem expandNobody_holds : Rows.ExpandNobodyCardSaid :=
  Claim7.holds_tied_plain_at .later [] [.data, .pinned] true (true, "fbb1eca8205ba94542e8c34db8957d28a097eb80b2e7bd9079067efc0da48885") true nobody.over (fun _ h => by cases h) (by kernel_rfl) (fun _ h => by cases h) expandNobody_row_tie rfl ⟨rfl, rfl⟩ (by kernel_rfl) rfl
    (fun f fn hf hfn => by
      obtain rfl : f = 6 := Option.some.inj ((show Tryz.prog.funcNamed "rehearsal/rehearsallaw13.ExpandNobody" = some 6 by kernel_rfl).symm.trans hf) |>.symm
      obtain rfl : fn = Tryz.f6 := (Option.some.inj (Tryz.func6.symm.trans hfn)).symm
      exact ⟨by kernel_rfl, fun j t ht => by
        rw [Tryz.params6] at ht
        have hm : t ∈ [40, 22] := by simpa using Array.mem_of_getElem? ht
        have hall : ([40, 22].all fun u => !Tryz.prog.wantsStandIn u) = true := by kernel_rfl
        exact (show Tryz.prog.wantsStandIn t = false by simpa using List.all_eq_true.1 hall t hm)⟩)
    (by kernel_rfl)
end Go.Proofs.YthiidchbaicfgaaGreatDoor
#print axioms Go.Proofs.YthiidchbaicfgaaGreatDoor.expandNobody_holds
