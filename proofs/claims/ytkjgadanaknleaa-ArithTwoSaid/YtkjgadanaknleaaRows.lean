/-
  No cell of these rows narrows 'for every input' (looked for: loops, veiled, ifaces, maps, wideKeys, modest, calm, conditions, laid).
  DERIVED. THE GIVEN ROWS OF THIS SEAT. 6 by the template 'for every input the law returns true; each argument reads behind the call as it read before'; 0 by the template 'total and deterministic' (their statements: YtkjgadanaknleaaTotals.lean).
  GIVEN WITH THE SEED: the statements are not yours to turn. If you find one false, say at which input.
  Laid BY PROGRAM, IN A SANDBOX (cutbox-rows.mjs): the forced cells as the released guide's own fill.sh prints them over the translation 5f724f24f1a7af9d… (all of the seat's roots in one cut). By AI agents, Wed Nov 11 2026. No macro, syntax, notation, axiom, sorry.
-/
import Derived.Test.YtkjgadanaknleaaChecked
import GoSem.Claim
import GoSem.ClaimJoined
import GoSem.ClaimMapViews
import Derived.JoinedTies
import Derived.KernelRfl
namespace Go.Proofs.Ytkjgadanaknleaa
/- THE CELL 'sum', in the pinned program and in every row, IS THE sha256 OF THE DUMP (.gsa) THAT YtkjgadanaknleaaProg.lean LOADS. Nothing in Lean hashes anything: it is a label: what it is worth is what the hold of that sum in a sandbox is worth. -/
noncomputable def Try.pinned : Pinned := { name := "ytkjgadanaknleaa", sum := "5f724f24f1a7af9d39123a005b61f3b13aa323ea5f60d3605f9d6c74fd3a92c4", checked := Try.checked }
namespace Rows
def none {H : Type} : Left H := { results := [], args := [] }

/-- 'rehearsallaw10.ArithEvals': WHATEVER THE INPUT: true; the input reads as it did. -/
def arithEvalsSpec : ChangeSpec := { name := "arithEvals", fn := fun _ => fun
  | [d1, d2] => { results := [.lit (.bool true)], args := [d1, d2] }
  | _ => none }
def arithEvalsRow : OpenClaim := { program := "ytkjgadanaknleaa", sum := "5f724f24f1a7af9d39123a005b61f3b13aa323ea5f60d3605f9d6c74fd3a92c4", func := "rehearsal/rehearsallaw10.ArithEvals", spec := "arithEvals", inPlace := ["internal/bytealg.IndexByteString"], unfollowed := true, recurses := true, apart := false }
def ArithEvalsSaid : Prop := arithEvalsRow.holds Try.pinned (OpenSpec.ofChange arithEvalsSpec)

/-- ITS FALSE NEIGHBOUR: 'it returns false'. Refute it at one input. -/
def arithEvalsWrong : ChangeSpec := { name := "arithEvals", fn := fun _ => fun
  | [d1, d2] => { results := [.lit (.bool false)], args := [d1, d2] }
  | _ => none }
def ArithEvalsWrongFalsely : Prop := arithEvalsRow.holds Try.pinned (OpenSpec.ofChange arithEvalsWrong)

/-- 'rehearsallaw10.ArithTwo': WHATEVER THE INPUT: true; the input reads as it did. -/
def arithTwoSpec : ChangeSpec := { name := "arithTwo", fn := fun _ => fun
  | [d1, d2, d3] => { results := [.lit (.bool true)], args := [d1, d2, d3] }
  | _ => none }
def arithTwoRow : OpenClaim := { program := "ytkjgadanaknleaa", sum := "5f724f24f1a7af9d39123a005b61f3b13aa323ea5f60d3605f9d6c74fd3a92c4", func := "rehearsal/rehearsallaw10.ArithTwo", spec := "arithTwo", inPlace := ["internal/bytealg.IndexByteString"], unfollowed := true, recurses := true, apart := false }
def ArithTwoSaid : Prop := arithTwoRow.holds Try.pinned (OpenSpec.ofChange arithTwoSpec)

/-- ITS FALSE NEIGHBOUR: 'it returns false'. Refute it at one input. -/
def arithTwoWrong : ChangeSpec := { name := "arithTwo", fn := fun _ => fun
  | [d1, d2, d3] => { results := [.lit (.bool false)], args := [d1, d2, d3] }
  | _ => none }
def ArithTwoWrongFalsely : Prop := arithTwoRow.holds Try.pinned (OpenSpec.ofChange arithTwoWrong)

/-- 'rehearsallaw10.ArithGroups': WHATEVER THE INPUT: true; the input reads as it did. -/
def arithGroupsSpec : ChangeSpec := { name := "arithGroups", fn := fun _ => fun
  | [d1, d2, d3] => { results := [.lit (.bool true)], args := [d1, d2, d3] }
  | _ => none }
def arithGroupsRow : OpenClaim := { program := "ytkjgadanaknleaa", sum := "5f724f24f1a7af9d39123a005b61f3b13aa323ea5f60d3605f9d6c74fd3a92c4", func := "rehearsal/rehearsallaw10.ArithGroups", spec := "arithGroups", inPlace := ["internal/bytealg.IndexByteString"], unfollowed := true, recurses := true, apart := false }
def ArithGroupsSaid : Prop := arithGroupsRow.holds Try.pinned (OpenSpec.ofChange arithGroupsSpec)

/-- ITS FALSE NEIGHBOUR: 'it returns false'. Refute it at one input. -/
def arithGroupsWrong : ChangeSpec := { name := "arithGroups", fn := fun _ => fun
  | [d1, d2, d3] => { results := [.lit (.bool false)], args := [d1, d2, d3] }
  | _ => none }
def ArithGroupsWrongFalsely : Prop := arithGroupsRow.holds Try.pinned (OpenSpec.ofChange arithGroupsWrong)

/-- 'rehearsallaw10.ArithAlone': WHATEVER THE INPUT: true; the input reads as it did. -/
def arithAloneSpec : ChangeSpec := { name := "arithAlone", fn := fun _ => fun
  | [d1, d2] => { results := [.lit (.bool true)], args := [d1, d2] }
  | _ => none }
def arithAloneRow : OpenClaim := { program := "ytkjgadanaknleaa", sum := "5f724f24f1a7af9d39123a005b61f3b13aa323ea5f60d3605f9d6c74fd3a92c4", func := "rehearsal/rehearsallaw10.ArithAlone", spec := "arithAlone", inPlace := ["internal/bytealg.IndexByteString"], unfollowed := true, recurses := true, apart := false }
def ArithAloneSaid : Prop := arithAloneRow.holds Try.pinned (OpenSpec.ofChange arithAloneSpec)

/-- ITS FALSE NEIGHBOUR: 'it returns false'. Refute it at one input. -/
def arithAloneWrong : ChangeSpec := { name := "arithAlone", fn := fun _ => fun
  | [d1, d2] => { results := [.lit (.bool false)], args := [d1, d2] }
  | _ => none }
def ArithAloneWrongFalsely : Prop := arithAloneRow.holds Try.pinned (OpenSpec.ofChange arithAloneWrong)

/-- 'rehearsallaw10.ArithGives': WHATEVER THE INPUT: true; the input reads as it did. -/
def arithGivesSpec : ChangeSpec := { name := "arithGives", fn := fun _ => fun
  | [d1, d2, d3] => { results := [.lit (.bool true)], args := [d1, d2, d3] }
  | _ => none }
def arithGivesRow : OpenClaim := { program := "ytkjgadanaknleaa", sum := "5f724f24f1a7af9d39123a005b61f3b13aa323ea5f60d3605f9d6c74fd3a92c4", func := "rehearsal/rehearsallaw10.ArithGives", spec := "arithGives", inPlace := ["internal/bytealg.IndexByteString"], unfollowed := true, recurses := true, apart := false }
def ArithGivesSaid : Prop := arithGivesRow.holds Try.pinned (OpenSpec.ofChange arithGivesSpec)

/-- ITS FALSE NEIGHBOUR: 'it returns false'. Refute it at one input. -/
def arithGivesWrong : ChangeSpec := { name := "arithGives", fn := fun _ => fun
  | [d1, d2, d3] => { results := [.lit (.bool false)], args := [d1, d2, d3] }
  | _ => none }
def ArithGivesWrongFalsely : Prop := arithGivesRow.holds Try.pinned (OpenSpec.ofChange arithGivesWrong)

/-- 'rehearsallaw10.ArithLazy': WHATEVER THE INPUT: true; the input reads as it did. -/
def arithLazySpec : ChangeSpec := { name := "arithLazy", fn := fun _ => fun
  | [d1, d2] => { results := [.lit (.bool true)], args := [d1, d2] }
  | _ => none }
def arithLazyRow : OpenClaim := { program := "ytkjgadanaknleaa", sum := "5f724f24f1a7af9d39123a005b61f3b13aa323ea5f60d3605f9d6c74fd3a92c4", func := "rehearsal/rehearsallaw10.ArithLazy", spec := "arithLazy", inPlace := ["internal/bytealg.IndexByteString"], unfollowed := true, recurses := true, apart := false }
def ArithLazySaid : Prop := arithLazyRow.holds Try.pinned (OpenSpec.ofChange arithLazySpec)

/-- ITS FALSE NEIGHBOUR: 'it returns false'. Refute it at one input. -/
def arithLazyWrong : ChangeSpec := { name := "arithLazy", fn := fun _ => fun
  | [d1, d2] => { results := [.lit (.bool false)], args := [d1, d2] }
  | _ => none }
def ArithLazyWrongFalsely : Prop := arithLazyRow.holds Try.pinned (OpenSpec.ofChange arithLazyWrong)

/- THE SECOND FORM. 'bulk': how many values and letters a reading holds, each counted each time it is reached (what is shared counts as often as it is met; a slice's spare places count too). A statement '..UptoSaid' is the law's where the arguments, and the package variables that the reading takes, are together of bulk at most 1048576: NARROWER than '..Said'. Prove '..Said' where nothing that the law and all that it calls make is longer than what came in: it says more and counts as full. Else prove '..UptoSaid'. A law counts once. -/
mutual
def uptoBulk {H : Type} : DataW H → Nat
  | .lit (.string bytes) => bytes.length + 1
  | .lit _ => 1
  | .nil => 1
  | .ptr d => uptoBulk d + 1
  | .slice elems spare => uptoBulkAll elems + uptoBulkAll spare + 1
  | .agg parts => uptoBulkAll parts + 1
  | .iface _ d => uptoBulk d + 1
  | .map entries => uptoBulkEntries entries + 1
  | .held _ => 1
def uptoBulkAll {H : Type} : List (DataW H) → Nat
  | [] => 0
  | d :: r => uptoBulk d + uptoBulkAll r
def uptoBulkEntries {H : Type} : List (Lit × DataW H) → Nat
  | [] => 0
  | x :: r => uptoBulkEntry x + uptoBulkEntries r
def uptoBulkEntry {H : Type} : Lit × DataW H → Nat
  | (.string bytes, d) => bytes.length + uptoBulk d + 1
  | (_, d) => uptoBulk d + 1
 end
def uptoSmall : (H : Type) → List (DataW H) → Bool := fun _ ds => decide (uptoBulkAll ds ≤ 1048576)
def OpenSpec.upto (s : _root_.Go.ChangeSpec) : _root_.Go.OpenSpec := { _root_.Go.OpenSpec.ofChange s with cond := some uptoSmall }

/-- 'rehearsallaw10.ArithEvals', WHERE WHAT IT READS IS OF BULK AT MOST 1048576: true; the input reads as it did. -/
def arithEvalsUptoRow : OpenClaim := { program := "ytkjgadanaknleaa", sum := "5f724f24f1a7af9d39123a005b61f3b13aa323ea5f60d3605f9d6c74fd3a92c4", func := "rehearsal/rehearsallaw10.ArithEvals", spec := "arithEvals", inPlace := ["internal/bytealg.IndexByteString"], unfollowed := true, recurses := true, apart := false, narrowed := true }
def ArithEvalsUptoSaid : Prop := arithEvalsUptoRow.holds Try.pinned (OpenSpec.upto arithEvalsSpec)

/-- 'rehearsallaw10.ArithTwo', WHERE WHAT IT READS IS OF BULK AT MOST 1048576: true; the input reads as it did. -/
def arithTwoUptoRow : OpenClaim := { program := "ytkjgadanaknleaa", sum := "5f724f24f1a7af9d39123a005b61f3b13aa323ea5f60d3605f9d6c74fd3a92c4", func := "rehearsal/rehearsallaw10.ArithTwo", spec := "arithTwo", inPlace := ["internal/bytealg.IndexByteString"], unfollowed := true, recurses := true, apart := false, narrowed := true }
def ArithTwoUptoSaid : Prop := arithTwoUptoRow.holds Try.pinned (OpenSpec.upto arithTwoSpec)

/-- 'rehearsallaw10.ArithGroups', WHERE WHAT IT READS IS OF BULK AT MOST 1048576: true; the input reads as it did. -/
def arithGroupsUptoRow : OpenClaim := { program := "ytkjgadanaknleaa", sum := "5f724f24f1a7af9d39123a005b61f3b13aa323ea5f60d3605f9d6c74fd3a92c4", func := "rehearsal/rehearsallaw10.ArithGroups", spec := "arithGroups", inPlace := ["internal/bytealg.IndexByteString"], unfollowed := true, recurses := true, apart := false, narrowed := true }
def ArithGroupsUptoSaid : Prop := arithGroupsUptoRow.holds Try.pinned (OpenSpec.upto arithGroupsSpec)

/-- 'rehearsallaw10.ArithAlone', WHERE WHAT IT READS IS OF BULK AT MOST 1048576: true; the input reads as it did. -/
def arithAloneUptoRow : OpenClaim := { program := "ytkjgadanaknleaa", sum := "5f724f24f1a7af9d39123a005b61f3b13aa323ea5f60d3605f9d6c74fd3a92c4", func := "rehearsal/rehearsallaw10.ArithAlone", spec := "arithAlone", inPlace := ["internal/bytealg.IndexByteString"], unfollowed := true, recurses := true, apart := false, narrowed := true }
def ArithAloneUptoSaid : Prop := arithAloneUptoRow.holds Try.pinned (OpenSpec.upto arithAloneSpec)

/-- 'rehearsallaw10.ArithGives', WHERE WHAT IT READS IS OF BULK AT MOST 1048576: true; the input reads as it did. -/
def arithGivesUptoRow : OpenClaim := { program := "ytkjgadanaknleaa", sum := "5f724f24f1a7af9d39123a005b61f3b13aa323ea5f60d3605f9d6c74fd3a92c4", func := "rehearsal/rehearsallaw10.ArithGives", spec := "arithGives", inPlace := ["internal/bytealg.IndexByteString"], unfollowed := true, recurses := true, apart := false, narrowed := true }
def ArithGivesUptoSaid : Prop := arithGivesUptoRow.holds Try.pinned (OpenSpec.upto arithGivesSpec)

/-- 'rehearsallaw10.ArithLazy', WHERE WHAT IT READS IS OF BULK AT MOST 1048576: true; the input reads as it did. -/
def arithLazyUptoRow : OpenClaim := { program := "ytkjgadanaknleaa", sum := "5f724f24f1a7af9d39123a005b61f3b13aa323ea5f60d3605f9d6c74fd3a92c4", func := "rehearsal/rehearsallaw10.ArithLazy", spec := "arithLazy", inPlace := ["internal/bytealg.IndexByteString"], unfollowed := true, recurses := true, apart := false, narrowed := true }
def ArithLazyUptoSaid : Prop := arithLazyUptoRow.holds Try.pinned (OpenSpec.upto arithLazySpec)

end Rows
end Go.Proofs.Ytkjgadanaknleaa
