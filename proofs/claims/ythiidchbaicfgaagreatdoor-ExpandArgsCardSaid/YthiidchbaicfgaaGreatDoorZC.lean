/-
  THE FRAME, layer 13: variables as an argument.
-/
import Derived.Test.YthiidchbaicfgaaGreatDoorZ4
namespace Go.Proofs.YthiidchbaicfgaaGreatDoor
open Go Go.Id
theorem vars_arg {x : D} {l : List (List UInt8 × List UInt8)} (h : (x = .nils ∧ l = []) ∨ x = .slc 2 (l.map fun p => .agg [.str p.1, .str p.2]) .closed) : Vz x l := by
  rcases h with ⟨rfl, rfl⟩ | rfl
  · exact .vnil
  · exact .vsome _ _
end Go.Proofs.YthiidchbaicfgaaGreatDoor
