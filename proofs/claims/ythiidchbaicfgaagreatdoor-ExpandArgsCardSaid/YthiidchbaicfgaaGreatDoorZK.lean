/-
  THE WALKS, layer 13, PART 19: atoms are cut into fields.
-/
import Derived.Test.YthiidchbaicfgaaGreatDoorZJ
namespace Go.Proofs.YthiidchbaicfgaaGreatDoor
open Go Go.Id
set_option linter.unusedSimpArgs false
set_option linter.unusedVariables false
set_option maxRecDepth 100000
set_option maxHeartbeats 4000000

structure Atm where
  t : List UInt8
  q : Bool
  s : Bool
  e : Bool
def atomD (a : Atm) : D := .agg [.str a.t, .bool a.q, .bool a.s, .bool a.e]
inductive Atoms : D → List Atm → Prop
  | anil : Atoms .nils []
  | asome (l : List Atm) (r : Room) : Atoms (.slc 4 (l.map atomD) r) l
theorem Atoms.len {x : D} {l : List Atm} (h : Atoms x l) : ilen x = some (.int .i64 l.length) := by cases h <;> simp [ilen]
instance : Inhabited Atm := ⟨⟨[], false, false, false⟩⟩
theorem Atoms.at {x : D} {l : List Atm} (h : Atoms x l) {i : Nat} (hi : i < l.length) : idxAddrS 4 x (.int .i64 i) = some (.box [.str (l[i]).t, .bool (l[i]).q, .bool (l[i]).s, .bool (l[i]).e] 0) := by
  cases h with
  | anil => simp at hi
  | asome l r => simp [idxAddrS, hi, atomD, dcells, scal]
def CS.add (c : CS) (s : List UInt8) (q : Bool) : CS := { c with T := c.T ++ s, P := c.P ++ addP s q, r := c.r || q || !s.isEmpty }
def CS.byte (ifs : List UInt8) (c : CS) (b : UInt8) : CS := if ifs.contains b then c.at b else c.add [b] false
def CS.atom (ifs : List UInt8) (c : CS) (a : Atm) : CS :=
  if a.e then { c.push false with w := false } else if a.s then a.t.foldl (CS.byte ifs) c else c.add a.t a.q
def CS.zero : CS := ⟨[], [], [], false, false⟩
def cutF (l : List Atm) (ifs : List UInt8) : List (List UInt8 × List UInt8) := ((l.foldl (CS.atom ifs) .zero).push false).L
def CS.size (c : CS) : Nat := c.L.length + c.T.length + c.P.length
theorem CS.size_push (c : CS) (x : Bool) : (c.push x).size ≤ c.size + 1 := by
  simp only [CS.push, CS.size]
  split <;> simp <;> omega
theorem CS.size_at (c : CS) (b : UInt8) : (c.at b).size ≤ c.size + 1 := by
  have h1 := c.size_push false
  have h2 := c.size_push true
  simp only [CS.size] at h1 h2 ⊢
  unfold CS.at
  split
  · split
    · exact h1
    · omega
  · split
    · exact h1
    · split
      · simp only []; omega
      · exact h2
theorem CS.size_add (c : CS) (s : List UInt8) (q : Bool) : (c.add s q).size ≤ c.size + 3 * s.length := by
  have := quoteB_len s
  simp only [CS.size, CS.add, addP, List.length_append]
  split <;> omega
theorem CS.size_byte (ifs : List UInt8) (c : CS) (b : UInt8) : (c.byte ifs b).size ≤ c.size + 3 := by
  have h1 := c.size_at b
  have h2 := c.size_add [b] false
  unfold CS.byte
  simp at h2
  split <;> omega
theorem CS.size_bytes (ifs : List UInt8) : ∀ (t : List UInt8) (c : CS), (t.foldl (CS.byte ifs) c).size ≤ c.size + 3 * t.length
  | [], c => by simp
  | b :: r, c => by
    have h1 := CS.size_bytes ifs r (c.byte ifs b)
    have h2 := c.size_byte ifs b
    simp only [List.foldl_cons, List.length_cons]; omega
def wt : List Atm → Nat
  | [] => 0
  | a :: r => 3 * a.t.length + 1 + wt r
theorem CS.size_atom (ifs : List UInt8) (c : CS) (a : Atm) : (c.atom ifs a).size ≤ c.size + 3 * a.t.length + 1 := by
  have h1 := c.size_push false
  have h2 := c.size_add a.t a.q
  have h3 := CS.size_bytes ifs a.t c
  unfold CS.atom
  split
  · simp only [CS.size] at h1 ⊢; omega
  · split <;> omega
theorem CS.size_atoms (ifs : List UInt8) : ∀ (l : List Atm) (c : CS), (l.foldl (CS.atom ifs) c).size ≤ c.size + wt l
  | [], c => by simp [wt]
  | a :: r, c => by
    have h1 := CS.size_atoms ifs r (c.atom ifs a)
    have h2 := c.size_atom ifs a
    simp only [List.foldl_cons, wt]; omega
theorem wt_take : ∀ (l : List Atm) (k : Nat) (h : k < l.length), wt (l.take k) + 3 * (l[k]).t.length + 1 ≤ wt l
  | [], k, h => by simp at h
  | a :: r, 0, h => by simp [wt]
  | a :: r, k + 1, h => by
    have := wt_take r k (by simpa using h)
    simp only [List.take_succ_cons, wt, List.getElem_cons_succ]; omega
theorem Cutting.add {σ0 s : St} {xo : Option (Nat × List D)} {c : CS} (h : Cutting σ0 xo c s) {l : D} {now : Nat} {w0 : D} (ho : s.obj (σ0.next + 2) = some (.cells [l, .ref now 0, w0])) (t : List UInt8) (q : Bool) (hl : c.T.length + c.P.length + t.length ≤ 1000000) {K : Out → St → Prop}
    (hk : ∀ s', Cutting σ0 xo (c.add t q) s' → K (.ret (.tuple [])) s') : goodFn Tryz.prog 51 = true ∧ Ok Tryz.prog 51 [.ref now 0, .str t, .bool q] s K := by
  obtain ⟨now', blo, up, L, tk, e1, e2, e3, e4, e5, e6, e7, e8, e9, e10⟩ := h.ex
  have hle := e6.le
  have hup := e3.le
  rw [ho] at e1
  simp only [Option.some.injEq, Ob.cells.injEq, List.cons.injEq, D.ref.injEq] at e1
  obtain ⟨rfl, ⟨rfl, -⟩, rfl, -⟩ := e1
  refine add51 e6 h.fresh h.tidy (fun k hk' => ?_) t q hl fun s' h' f' => hk s' ⟨⟨now, blo, up, L, tk, ?_, fun g => ?_, ?_, e4, e5, h', e7, e8, e9, fun k cs hk' => ?_⟩, fun i hi => ?_, f'.fresh, f'.tidy⟩
  · obtain ⟨⟨k', cs⟩, g1, rfl⟩ := Option.map_eq_some_iff.1 hk'
    exact (e10 _ _ g1).2.1
  · rw [f'.low _ (.inl e9) (by omega)]; exact ho
  · obtain ⟨q1, q2, q3, q4⟩ := e2 g
    exact ⟨by rw [f'.low _ (.inl (by omega)) (by omega)]; exact q1, q2, q3, q4⟩
  · exact e3.same fun i q1 q2 q3 => f'.low i (.inl (by omega)) (by omega)
  · obtain ⟨g1, g2, g3, g4⟩ := e10 k cs hk'
    exact ⟨by rw [f'.low k (.inr (by rw [hk']; rfl)) g3]; exact g1, Nat.lt_of_lt_of_le g2 f'.nxt, g3, g4⟩
  · rw [f'.low i (.inl (by omega)) (by omega)]; exact h.low i hi
/-- A variable of one's own beside. -/
theorem Cutting.keep {σ0 s s' : St} {xo : Option (Nat × List D)} {c : CS} (h : Cutting σ0 xo c s) (ho : ∀ i, i < s.next → s'.obj i = s.obj i) (hf : s'.Fresh) (ht : Tidy s') (hn : s.next < s'.next) {cs : List D} (hc : s'.obj s.next = some (.cells cs)) : Cutting σ0 (some (s.next, cs)) c s' := by
  obtain ⟨now, blo, up, L, tk, e1, e2, e3, e4, e5, e6, e7, e8, e9, e10⟩ := h.ex
  have hle := e6.le
  have hup := e3.le
  refine ⟨⟨now, blo, up, L, tk, by rw [ho _ (by omega)]; exact e1, fun g => ?_, e3.same fun i _ q _ => ho i (by omega), e4, e5, ?_, e7, e8, e9, fun k cs' hk => ?_⟩, fun i hi => ?_, hf, ht⟩
  · obtain ⟨q1, q2, q3, q4⟩ := e2 g
    exact ⟨by rw [ho _ (by omega)]; exact q1, q2, q3, q4⟩
  · have := (e6.same (s := s') (ho _ (by omega)) (ho _ (by omega)) fun i q1 q2 => ho i q2).keep (Nat.le_refl _)
    obtain ⟨⟨ta, pa, lt, lp, a1, a2, a3, a4, a5, a6, a7, a8⟩, b1, b2⟩ := this
    exact ⟨⟨ta, pa, lt, lp, a1, a2, a3, a4, a5, fun g => ⟨(a6 g).1, by have := a6 g; omega, (a6 g).2.2⟩, fun g => ⟨(a7 g).1, by have := a7 g; omega, (a7 g).2.2⟩, a8⟩, b1, by omega⟩
  · cases hk
    exact ⟨hc, hn, by omega, by omega⟩
  · rw [ho i (by omega)]; exact h.low i hi
theorem Cutting.kept {σ0 s : St} {k : Nat} {cs : List D} {c : CS} (h : Cutting σ0 (some (k, cs)) c s) : s.obj k = some (.cells cs) := by
  obtain ⟨now, blo, up, L, tk, e1, e2, e3, e4, e5, e6, e7, e8, e9, e10⟩ := h.ex
  exact (e10 k cs rfl).1
/-- How it begins. -/
theorem Cutting.new {σ : St} (hf : σ.Fresh) (ht : Tidy σ) : Cutting σ none .zero (((σ.alloc (.cells [.nilp, .nils, .nilp, .nils, .bool false])).alloc (.ty σ.next 83 (some 5))).alloc (.cells [.nils, .ref σ.next 0, .bool false])) := by
  have e : ∀ i, (((σ.alloc (.cells [.nilp, .nils, .nilp, .nils, .bool false])).alloc (.ty σ.next 83 (some 5))).alloc (.cells [.nils, .ref σ.next 0, .bool false])).obj i = if i = σ.next + 2 then some (.cells [.nils, .ref σ.next 0, .bool false]) else if i = σ.next + 1 then some (.ty σ.next 83 (some 5)) else if i = σ.next then some (.cells [.nilp, .nils, .nilp, .nils, .bool false]) else σ.obj i := fun i => rfl
  refine ⟨⟨σ.next, σ.next + 3, σ.next, [], 0, ?_, fun g => absurd rfl g, Nat.le_refl _, Nat.le_refl _, rfl, ⟨⟨.nilp, .nilp, 0, 0, ?_, .inl rfl, .inl rfl, fun g => absurd rfl g, fun g => absurd rfl g, fun g => absurd rfl g, fun g => absurd rfl g, fun g => absurd rfl g⟩, ?_, by omega, Nat.le_refl _⟩, by omega, by omega, by omega, fun k cs hk => by cases hk⟩, fun i hi => ?_, alloc_fresh (alloc_fresh (alloc_fresh hf _) _) _, ?_⟩
  · rw [e, if_pos rfl]; rfl
  · rw [e, if_neg (by omega), if_neg (by omega), if_pos rfl]; rfl
  · rw [e, if_neg (by omega), if_pos rfl]
  · rw [e, if_neg (by omega), if_neg (by omega), if_neg (by omega)]
  · refine Tidy.alloc (Tidy.alloc_ty (ht.alloc hf (by simp)) (alloc_fresh hf _) (.inl rfl) (c := .nilp) (cs := [.nils, .nilp, .nils, .bool false]) ?_) (alloc_fresh (alloc_fresh hf _) _) (by simp)
    rw [alloc_obj, if_pos rfl]
end Go.Proofs.YthiidchbaicfgaaGreatDoor
