/-
  THE LAWS, layer 13: shapes are forgotten.
-/
import Derived.Test.YthiidchbaicfgaaGreatDoorZW
namespace Go.Proofs.YthiidchbaicfgaaGreatDoor
open Go Go.Id
set_option linter.unusedSimpArgs false
set_option linter.unusedVariables false
set_option maxRecDepth 100000
set_option maxHeartbeats 8000000

/-- Shapes are forgotten. -/
def bare (s : St) : St := { obj := fun i => match s.obj i with | some (.ty _ _ _) => none | o => o, next := s.next }
theorem bare_drops (s : St) : Drops s (bare s) := by
  refine ⟨Nat.le_refl _, fun i => ?_⟩
  simp only [bare]
  split
  · exact .inl rfl
  · exact .inr rfl
theorem bare_tidy (s : St) : Tidy (bare s) := by
  intro i j T n h
  simp only [bare] at h
  split at h
  · cases h
  · rename_i hh; exact absurd h (hh _ _ _)
theorem bare_cells {s : St} {i : Nat} {cs : List D} (h : s.obj i = some (.cells cs)) : (bare s).obj i = some (.cells cs) := by simp only [bare, h]
theorem TabAt.bare {s : St} {j : Nat} {l : Vs} {y z : D} (h : TabAt s j l y z) : TabAt (bare s) j l y z := by
  obtain ⟨x, h1, h2, h3, h4, h5⟩ := h.x
  refine ⟨h.few, h.sorted, h.lt, x, bare_cells h1, h2, h3, h4, ?_⟩
  rcases h5 with h5 | ⟨jv, t, e, o1⟩
  · exact .inl h5
  · exact .inr ⟨jv, t, e, bare_cells o1⟩
theorem jn_take (b : List UInt8) (l : List (List UInt8)) (i : Nat) (hi : i < l.length) : jn b (l.take (i + 1)) = if i = 0 then l[i] else jn b (l.take i) ++ b ++ l[i] := by
  rw [List.take_succ_eq_append_getElem hi]
  split
  · rename_i h; subst h; rfl
  · rename_i h
    refine jn_snoc b _ _ fun e => ?_
    have := congrArg List.length e
    rw [List.length_take, List.length_nil] at this
    omega
theorem texts_call {x y : D} {l : List (List UInt8)} (hx : Strs x l) (hy : Strs y l) (hl : l.length ≤ 1000000) {σ : St} {K : Out → St → Prop} (hk : K (.ret (.bool true)) σ) : goodFn Tryz.prog 15 = true ∧ Ok Tryz.prog 15 [x, y] σ K := via gd15 (texts15 hx hy hl σ) hk
end Go.Proofs.YthiidchbaicfgaaGreatDoor
