/-
  THE WALKS, layer 13, PART 12: a builder of texts.
-/
import Derived.Test.YthiidchbaicfgaaGreatDoorC1
import Derived.Test.YthiidchbaicfgaaGreatDoorZ4
namespace Go.Proofs.YthiidchbaicfgaaGreatDoor
open Go Go.Id
set_option linter.unusedSimpArgs false
set_option linter.unusedVariables false
set_option maxRecDepth 100000
set_option maxHeartbeats 4000000

/-- Bytes, as cells. -/
def bytesD (s : List UInt8) : List D := s.map fun b => .int .u8 b.toNat
theorem bytesD_len (s : List UInt8) : (bytesD s).length = s.length := by simp [bytesD]
theorem bytesD_app (a b : List UInt8) : bytesD (a ++ b) = bytesD a ++ bytesD b := by simp [bytesD]
theorem bytesD_of : ∀ s : List UInt8, bytesOf (bytesD s) = some s
  | [] => rfl
  | b :: r => by
    have ih := bytesD_of r
    simp only [bytesD] at ih
    simp [bytesD, bytesOf, ih]
theorem bytesD_ok : ∀ s : List UInt8, (bytesD s).all okByte = true
  | [] => rfl
  | b :: r => by
    have ih := bytesD_ok r
    simp only [bytesD] at ih
    have := b.toNat_lt
    simp [bytesD, okByte, ih]; omega
theorem bytesD_flat : ∀ s : List UInt8, flat (bytesD s) = some (bytesD s)
  | [] => rfl
  | b :: r => by
    have ih := bytesD_flat r
    simp only [bytesD] at ih
    simp [bytesD, flat, dcells, ih]
/-- A builder's row. -/
def bufD (l : Nat) (bs : List UInt8) : D := if bs = [] then .nils else .rslc l 0 1 bs.length (.opened (l + 1))
theorem bufD_scal (l : Nat) (bs : List UInt8) : scal (bufD l bs) = true := by unfold bufD; split <;> rfl
theorem bufD_cells (l : Nat) (bs : List UInt8) : dcells (bufD l bs) = some [bufD l bs] := dcells_sc (bufD_scal l bs)
theorem bufD_len (l : Nat) (bs : List UInt8) : ilen (bufD l bs) = some (.int .i64 bs.length) := by
  unfold bufD
  split
  · rename_i h; subst h; rfl
  · rfl
def Buf (s : St) (l : Nat) (bs : List UInt8) : Prop := bs ≠ [] → s.obj l = some (.cells (bytesD bs)) ∧ s.obj (l + 1) = some .tok ∧ s.obj (l + 2) = some (.ty l 5 none)
theorem St.ext {a b : St} (h1 : ∀ i, a.obj i = b.obj i) (h2 : a.next = b.next) : a = b := by
  cases a; cases b
  simp only [St.mk.injEq] at *
  exact ⟨funext h1, h2⟩
/-- The store where a builder's row was made anew. -/
def bufSt (σ : St) (l : Nat) (bs out : List UInt8) : St :=
  { obj := fun i => if i = σ.next + 2 then some (.ty σ.next 5 none) else if i = σ.next + 1 then some .tok else if i = σ.next then some (.cells (bytesD out)) else if bs ≠ [] ∧ (i = l ∨ i = l + 1 ∨ i = l + 2) then none else σ.obj i, next := σ.next + 3 }
theorem bufSt_obj (σ : St) (l : Nat) (bs out : List UInt8) (i : Nat) : (bufSt σ l bs out).obj i = if i = σ.next + 2 then some (.ty σ.next 5 none) else if i = σ.next + 1 then some .tok else if i = σ.next then some (.cells (bytesD out)) else if bs ≠ [] ∧ (i = l ∨ i = l + 1 ∨ i = l + 2) then none else σ.obj i := rfl
theorem bufSt_next (σ : St) (l : Nat) (bs out : List UInt8) : (bufSt σ l bs out).next = σ.next + 3 := rfl
theorem bufSt_old {σ : St} {l : Nat} {bs out : List UInt8} {i : Nat} (h : i < σ.next) (hd : bs ≠ [] → i ≠ l ∧ i ≠ l + 1 ∧ i ≠ l + 2) : (bufSt σ l bs out).obj i = σ.obj i := by
  rw [bufSt_obj, if_neg (by omega), if_neg (by omega), if_neg (by omega), if_neg ?_]
  rintro ⟨g1, g2⟩
  have := hd g1
  omega
theorem bufSt_new (σ : St) (l : Nat) (bs out : List UInt8) : Buf (bufSt σ l bs out) σ.next out := fun _ => by
  refine ⟨?_, ?_, ?_⟩
  · rw [bufSt_obj, if_neg (by omega), if_neg (by omega), if_pos rfl]
  · rw [bufSt_obj, if_neg (by omega), if_pos rfl]
  · rw [bufSt_obj, if_pos rfl]
theorem buf_app {σ : St} {l : Nat} {bs s : List UInt8} {x : D} (hb : Buf σ l bs) (hs : s ≠ []) (hl : bs.length + s.length ≤ 100000000) (hx : elems 1 x σ = some (bytesD s)) :
    iappendT 1 1 5 (bufD l bs) x σ = some (bufD σ.next (bs ++ s), bufSt σ l bs (bs ++ s)) := by
  have hne : bs ++ s ≠ [] := by simp [hs]
  have hsl : (bytesD s).length ≠ 0 := by rw [bytesD_len]; simpa using hs
  have hm : maxLen = 2 ^ 63 - 1 := rfl
  have hxl : (bytesD s).length = s.length := bytesD_len s
  by_cases h : bs = []
  · subst h
    have hu : bufD l [] = .nils := rfl
    rw [hu]
    simp only [iappendT, hx]
    rw [if_neg hsl]
    simp only [iappendR, hx]
    rw [if_neg hsl]
    simp only [iold, bytesD_flat, List.nil_append, Nat.zero_add, hxl]
    rw [if_pos (by simp at hl; omega)]
    simp only [bufD, if_neg hs, List.nil_append]
    rw [show (σ.next + 1) = σ.next + 1 from rfl]
    refine congrArg some (Prod.ext rfl (St.ext (fun i => ?_) rfl))
    rw [bufSt_obj, alloc_obj, alloc_obj, alloc_obj]
    simp only [alloc_next]
    have e : (σ.next + 1 + 1) = σ.next + 2 := rfl
    simp only [e]
    by_cases c1 : i = σ.next + 2
    · simp [c1]
    by_cases c2 : i = σ.next + 1
    · simp [c2]
    by_cases c3 : i = σ.next
    · simp [c3]
    simp [c1, c2, c3]
  · obtain ⟨o1, o2, o3⟩ := hb h
    have hu : bufD l bs = .rslc l 0 1 bs.length (.opened (l + 1)) := by simp [bufD, h]
    have hv : bufD σ.next (bs ++ s) = .rslc σ.next 0 1 (bs.length + s.length) (.opened (σ.next + 1)) := by simp [bufD, h]
    rw [hu, hv]
    have hold : iold 1 (.rslc l 0 1 bs.length (.opened (l + 1))) (σ.put (l + 2) none) = some (bs.length, bytesD bs, ((σ.put (l + 2) none).put l none).put (l + 1) none) := by
      simp only [iold, put_obj, if_true]
      rw [if_neg (by omega), if_neg (by omega), o1, o2]
      simp [bytesD_len]
    have hx2 : elems 1 x (σ.put (l + 2) none) = some (bytesD s) := by
      revert hx; unfold elems; cases x <;> simp
    simp only [iappendT, hx, o3]
    rw [if_neg hsl, if_pos ⟨trivial, trivial⟩]
    simp only [iappendR, hx2]
    rw [if_neg hsl, hold]
    simp only [bytesD_flat, hxl]
    rw [if_pos (by omega)]
    refine congrArg some (Prod.ext rfl (St.ext (fun i => ?_) rfl))
    rw [bufSt_obj, alloc_obj, alloc_obj, alloc_obj, put_obj, put_obj, put_obj]
    simp only [alloc_next, put_next]
    have e : (σ.next + 1 + 1) = σ.next + 2 := rfl
    simp only [e, bytesD_app]
    by_cases c1 : i = σ.next + 2
    · simp [c1]
    by_cases c2 : i = σ.next + 1
    · simp [c2]
    by_cases c3 : i = σ.next
    · simp [c3]
    simp only [c1, c2, c3, if_false]
    by_cases d1 : i = l + 1
    · simp [d1, h]
    by_cases d2 : i = l
    · simp [d2, h]
    by_cases d3 : i = l + 2
    · simp [d3, h]
    simp [d1, d2, d3]
theorem buf_nil {σ : St} {l : Nat} {bs : List UInt8} {x : D} (hx : elems 1 x σ = some []) : iappendT 1 1 5 (bufD l bs) x σ = some (bufD l bs, σ) := by
  by_cases h : bs = []
  · subst h
    have hu : bufD l [] = .nils := rfl
    rw [hu]
    simp [iappendT, iappendR, hx]
  · have hu : bufD l bs = .rslc l 0 1 bs.length (.opened (l + 1)) := by simp [bufD, h]
    rw [hu]
    simp [iappendT, iappendR, hx]
end Go.Proofs.YthiidchbaicfgaaGreatDoor
