/-
  THE WALKS, layer 13, PART 4: names and values as cells; lists of variables; a list that is built.
-/
import Derived.Test.YthiidchbaicfgaaGreatDoorC0
import Derived.Test.YthiidchbaicfgaaGreatDoorZ3
namespace Go.Proofs.YthiidchbaicfgaaGreatDoor
open Go Go.Id
set_option linter.unusedSimpArgs false
set_option linter.unusedVariables false
set_option maxRecDepth 100000
set_option maxHeartbeats 4000000

theorem idx_at (s : List UInt8) (i : Nat) (h : i < s.length) : idxStr (.str s) (.int .i64 i) = some (.int .u8 (s.getD i 0).toNat) := by
  have := idxStr_at s .i64 i ⟨by omega, by omega⟩
  simpa using this
/-- Names and values, as cells. -/
def flat2 : List (List UInt8 × List UInt8) → List D
  | [] => []
  | p :: r => .str p.1 :: .str p.2 :: flat2 r
theorem flat2_len : ∀ l, (flat2 l).length = l.length * 2
  | [] => rfl
  | p :: r => by simp only [flat2, List.length_cons, flat2_len r]; omega
theorem flat2_scal : ∀ l, (flat2 l).all scal = true
  | [] => rfl
  | p :: r => by simp [flat2, flat2_scal r, scal]
theorem flat2_drop : ∀ (l : List (List UInt8 × List UInt8)) (i : Nat), (flat2 l).drop (2 * i) = flat2 (l.drop i)
  | l, 0 => by simp
  | [], i + 1 => by simp [flat2]
  | p :: r, i + 1 => by
    rw [show 2 * (i + 1) = 2 * i + 1 + 1 by omega]
    simp only [flat2, List.drop_succ_cons]
    exact flat2_drop r i
/-- A list of variables that may be written. -/
def VarsAt (s : St) (x : D) (l : List (List UInt8 × List UInt8)) : Prop :=
  (x = .nils ∧ l = []) ∨ ∃ j t, x = .rslc j 0 2 l.length (.opened t) ∧ s.obj j = some (.cells (flat2 l)) ∧ s.obj t = some .tok ∧ s.obj (j + 2) = some (.ty j 57 none)
theorem VarsAt.len {s : St} {x : D} {l : List (List UInt8 × List UInt8)} (h : VarsAt s x l) : ilen x = some (.int .i64 l.length) := by
  rcases h with ⟨rfl, rfl⟩ | ⟨j, t, rfl, _⟩ <;> simp [ilen]
theorem VarsAt.at {s : St} {x : D} {l : List (List UInt8 × List UInt8)} (h : VarsAt s x l) {i : Nat} (hi : i < l.length) :
    ∃ j, idxAddrS 2 x (.int .i64 i) = some (.ref j (2 * i)) ∧ iload (some 2) (.ref j (2 * i)) s = some (.agg [.str (l[i]).1, .str (l[i]).2]) := by
  rcases h with ⟨rfl, rfl⟩ | ⟨j, t, rfl, h1, h2, h3⟩
  · simp at hi
  · refine ⟨j, ?_, ?_⟩
    · simp only [idxAddrS]
      rw [if_pos ⟨trivial, by omega, by omega⟩]
      simp [Nat.mul_comm]
    · simp only [iload, h1, cellsAt]
      rw [if_pos (by rw [flat2_len]; omega), flat2_drop, List.drop_eq_getElem_cons hi]
      rfl
theorem VarsAt.more {s s' : St} {x : D} {l : List (List UInt8 × List UInt8)} (h : VarsAt s x l) (ho : ∀ i, s'.obj i = s.obj i) : VarsAt s' x l := by
  rcases h with ⟨rfl, rfl⟩ | ⟨j, t, rfl, h1, h2, h3⟩
  · exact .inl ⟨rfl, rfl⟩
  · exact .inr ⟨j, t, rfl, by rw [ho, h1], by rw [ho, h2], by rw [ho, h3]⟩
theorem inilM_r (j o : Nat) : inilM [(43, "Glob"), (43, "Run")] (.ref j o) = some (.ref j o) := rfl
theorem flat2_set : ∀ (l : List (List UInt8 × List UInt8)) (p : Nat) (v : List UInt8), p < l.length → setAt (flat2 l) (2 * p + 1) [.str v] = flat2 (l.set p ((l.getD p default).1, v))
  | [], p, v, h => by simp at h
  | q :: r, 0, v, h => by simp [flat2, setAt]
  | q :: r, p + 1, v, h => by
    have ih := flat2_set r p v (by simpa using h)
    rw [show 2 * (p + 1) + 1 = (2 * p + 1) + 1 + 1 by omega]
    simp only [flat2, setAt, List.set_cons_succ, List.getD_cons_succ] at ih ⊢
    rw [ih]
theorem flat2_app : ∀ (a b : List (List UInt8 × List UInt8)), flat2 (a ++ b) = flat2 a ++ flat2 b
  | [], b => rfl
  | p :: r, b => by simp [flat2, flat2_app r b]
theorem flat2_take : ∀ (l : List (List UInt8 × List UInt8)) (i : Nat), (flat2 l).take (i * 2) = flat2 (l.take i)
  | l, 0 => by simp [flat2]
  | [], i + 1 => by simp [flat2]
  | p :: r, i + 1 => by
    rw [show (i + 1) * 2 = i * 2 + 1 + 1 by omega]
    simp only [flat2, List.take_succ_cons, flat2_take r i]
theorem flat2_ins (l : List (List UInt8 × List UInt8)) (p : Nat) (n v : List UInt8) : insL (flat2 l) [.str n, .str v] p = flat2 (l.take p ++ [(n, v)] ++ l.drop p) := by
  simp only [insL, flat2_app, flat2_take]
  rw [show p * 2 = 2 * p by omega, flat2_drop]
  rfl
theorem gd25 : goodFn Tryz.prog 25 = true := by kernel_rfl
theorem insSt_obj (σ : St) (j t : Nat) (F : List D) (i : Nat) : (insSt σ j t F).obj i = if i = σ.next + 1 + 1 then some (.ty σ.next 57 none) else if i = σ.next + 1 then some .tok else if i = σ.next then some (.cells F) else if i = t then none else if i = j then none else if i = j + 2 then none else σ.obj i := rfl
theorem insSt_next (σ : St) (j t : Nat) (F : List D) : (insSt σ j t F).next = σ.next + 1 + 1 + 1 := rfl
def nilSt (σ : St) (F : List D) : St := ((σ.alloc (.cells F)).alloc .tok).alloc (.ty σ.next 57 none)
theorem nilSt_obj (σ : St) (F : List D) (i : Nat) : (nilSt σ F).obj i = if i = σ.next + 1 + 1 then some (.ty σ.next 57 none) else if i = σ.next + 1 then some .tok else if i = σ.next then some (.cells F) else σ.obj i := rfl
/-- Variables, as an argument. -/
inductive Vz : D → List (List UInt8 × List UInt8) → Prop
  | vnil : Vz .nils []
  | vsome (l : List (List UInt8 × List UInt8)) (r : Room) : Vz (.slc 2 (l.map fun p => .agg [.str p.1, .str p.2]) r) l
theorem Vz.len {x : D} {l : List (List UInt8 × List UInt8)} (h : Vz x l) : ilen x = some (.int .i64 l.length) := by cases h <;> simp [ilen]
theorem Vz.at {x : D} {l : List (List UInt8 × List UInt8)} (h : Vz x l) {i : Nat} (hi : i < l.length) : idxAddrS 2 x (.int .i64 i) = some (.box [.str (l[i]).1, .str (l[i]).2] 0) := by
  cases h with
  | vnil => simp at hi
  | vsome l r =>
    rw [ix_map _ _ _ _ _ _ ⟨by omega, by omega⟩]
    have : l.getD ((i : Int)).toNat default = l[i] := by simp [hi]
    rw [this]; rfl
theorem pair_load (a b : List UInt8) : cellsAt [.str a, .str b] 0 (some 2) = some (.agg [.str a, .str b]) := rfl
theorem drops_old {σ s : St} (hf : σ.Fresh) (ho : ∀ i, i < σ.next → s.obj i = σ.obj i) : Drops s ⟨σ.obj, s.next⟩ := by
  refine ⟨Nat.le_refl _, fun i => ?_⟩
  by_cases h : i < σ.next
  · right; exact (ho i h).symm
  · left; exact hf i (by omega)
theorem copied61 (σ : St) : Ok Tryz.prog 61 [.nils] σ (fun o s => s = σ ∧ o = .ret .nils) := by
  apply en61
  simp -dsimp (maxSteps := 2000000) (disch := first | omega | (simp; done) | (simp; omega)) only [SA, SB, SC, SD, SE, SF, SG, SI, Nat.reduceLT, Nat.reduceAdd, Nat.reduceSub, Nat.reduceMul, Nat.reduceLeDiff, Nat.reduceEqDiff, Nat.reduceBEq, Int.reduceToNat, Int.reduceLE, Int.reduceLT, Int.reduceEq, Int.reduceNeg, reduceCtorEq, ↓reduceIte, ic61, List.replicate_succ, List.replicate_zero]
  have e : iappend 1 16 .nils .nils σ = some (.nils, σ) := rfl
  (repeat' (first | simp -dsimp (maxSteps := 2000000) (disch := first | omega | (simp; done) | (simp; omega)) only [SA, SB, SC, SD, SE, SF, SG, SI, Nat.reduceLT, Nat.reduceAdd, Nat.reduceSub, Nat.reduceMul, Nat.reduceLeDiff, Nat.reduceEqDiff, Nat.reduceBEq, Int.reduceToNat, Int.reduceLE, Int.reduceLT, Int.reduceEq, Int.reduceNeg, reduceCtorEq, ↓reduceIte, e] | refine Cut.go ?_ | refine Both.intro ?_ ?_ | (refine Br.intro ?_ ?_ <;> intro hb <;> have hb' := hb <;> (try simp only [SH] at hb') <;> (try simp -dsimp (maxSteps := 2000000) (disch := first | omega | (simp; done) | (simp; omega)) only [SA, SB, SC, SD, SE, SF, SG, SI, Nat.reduceLT, Nat.reduceAdd, Nat.reduceSub, Nat.reduceMul, Nat.reduceLeDiff, Nat.reduceEqDiff, Nat.reduceBEq, Int.reduceToNat, Int.reduceLE, Int.reduceLT, Int.reduceEq, Int.reduceNeg, reduceCtorEq, ↓reduceIte, hb, e]))))
theorem VarsAt.at3 {s : St} {x : D} {l : List (List UInt8 × List UInt8)} (h : VarsAt s x l) {i : Nat} (hi : i < l.length) :
    ∃ j, idxAddrS 2 x (.int .i64 i) = some (.ref j (2 * i)) ∧ iload (some 2) (.ref j (2 * i)) s = some (.agg [.str (l[i]).1, .str (l[i]).2]) ∧ iload none (.ref j (2 * i)) s = some (.str (l[i]).1) := by
  rcases h with ⟨rfl, rfl⟩ | ⟨j, t, rfl, h1, h2, h3⟩
  · simp at hi
  · refine ⟨j, ?_, ?_, ?_⟩
    · simp only [idxAddrS]
      rw [if_pos ⟨trivial, by omega, by omega⟩]
      simp [Nat.mul_comm]
    · simp only [iload, h1, cellsAt]
      rw [if_pos (by rw [flat2_len]; omega), flat2_drop, List.drop_eq_getElem_cons hi]
      rfl
    · have e : (flat2 l)[2 * i]? = some (.str l[i].1) := by
        have : ((flat2 l).drop (2 * i))[0]? = some (.str l[i].1) := by rw [flat2_drop, List.drop_eq_getElem_cons hi]; rfl
        simpa using this
      simp only [iload, h1, cellsAt, e, scalO, Option.bind, scal, if_true]
theorem VarsAt.low {s s' : St} {x : D} {l : List (List UInt8 × List UInt8)} (h : VarsAt s x l) (hf : s.Fresh) (ho : ∀ i, i < s.next → s'.obj i = s.obj i) : VarsAt s' x l := by
  have hlt : ∀ i o, s.obj i = some o → i < s.next := fun i o hi => Nat.lt_of_not_le fun hle => by rw [hf i hle] at hi; cases hi
  rcases h with ⟨rfl, rfl⟩ | ⟨b, t, rfl, o1, o2, o3⟩
  · exact .inl ⟨rfl, rfl⟩
  · exact .inr ⟨b, t, rfl, by rw [ho _ (hlt _ _ o1)]; exact o1, by rw [ho _ (hlt _ _ o2)]; exact o2, by rw [ho _ (hlt _ _ o3)]; exact o3⟩
/-- A list that is built behind 'b'. -/
structure Mine (b : Nat) (σ0 : St) (x : D) (k : List (List UInt8 × List UInt8)) (s : St) : Prop where
  low : ∀ i, i < b → s.obj i = σ0.obj i
  le : b ≤ s.next
  fresh : s.Fresh
  at' : VarsAt s x k
  far : ∀ jv t n, x = .rslc jv 0 2 n (.opened t) → b ≤ jv ∧ b ≤ t
  sc : scal x = true
theorem Mine.app {b : Nat} {σ0 s : St} {x : D} {k : List (List UInt8 × List UInt8)} (h : Mine b σ0 x k s) (hk : k.length ≤ 5000) (n v : List UInt8) :
    ∃ x' s', iappendT 2 32 57 x (.slc 2 [.agg [.str n, .str v]] .exact) s = some (x', s') ∧ Mine b σ0 x' (k ++ [(n, v)]) s' := by
  have hlt : ∀ i o, s.obj i = some o → i < s.next := fun i o hi => Nat.lt_of_not_le fun hle => by rw [h.fresh i hle] at hi; cases hi
  have hle := h.le
  rcases h.at' with ⟨rfl, rfl⟩ | ⟨j, t, rfl, o1, o2, o3⟩
  · refine ⟨.rslc s.next 0 2 1 (.opened (s.next + 1)), nilSt s [.str n, .str v], rfl, fun i hi => ?_, ?_, fun i hi => ?_, .inr ⟨s.next, s.next + 1, rfl, ?_, ?_, ?_⟩, fun a c m e => ?_, rfl⟩
    · rw [nilSt_obj, if_neg (by omega), if_neg (by omega), if_neg (by omega)]; exact h.low i hi
    · show b ≤ s.next + 1 + 1 + 1; omega
    · have : s.next + 1 + 1 + 1 ≤ i := hi
      rw [nilSt_obj, if_neg (by omega), if_neg (by omega), if_neg (by omega)]; exact h.fresh i (by omega)
    · rw [nilSt_obj, if_neg (by omega), if_neg (by omega), if_pos rfl]; rfl
    · rw [nilSt_obj, if_neg (by omega), if_pos rfl]
    · rw [nilSt_obj, if_pos rfl]
    · cases e; omega
  · obtain ⟨f1, f2⟩ := h.far _ _ _ rfl
    have g1 := hlt _ _ o1
    have g2 := hlt _ _ o2
    have g3 := hlt _ _ o3
    have e1 : (k.length + 1) * 32 ≤ 140737488355328 ∧ k.length + 1 ≤ maxLen := by
      have : maxLen = 2 ^ 63 - 1 := rfl
      omega
    have hjt : j ≠ t := fun hh => by subst hh; rw [o1] at o2; cases o2
    have htj : t ≠ j + 2 := fun hh => by rw [hh, o3] at o2; cases o2
    have e2 : iold 2 (.rslc j 0 2 k.length (.opened t)) (s.put (j + 2) none) = some (k.length, flat2 k, ((s.put (j + 2) none).put j none).put t none) := by
      simp only [iold, put_obj, if_true]
      rw [if_neg (by omega), if_neg htj, o1, o2]
      simp only []
      rw [if_pos ⟨trivial, by rw [flat2_len]⟩]
    have e3 : flat2 (k ++ [(n, v)]) = flat2 k ++ [.str n, .str v] := by rw [flat2_app]; rfl
    have ha : iappendT 2 32 57 (.rslc j 0 2 k.length (.opened t)) (.slc 2 [.agg [.str n, .str v]] .exact) s = some (.rslc s.next 0 2 (k.length + 1) (.opened (s.next + 1)), insSt s j t (flat2 (k ++ [(n, v)]))) := by
      simp only [iappendT, elems, if_true, List.length_cons, List.length_nil, Nat.zero_add, o3]
      rw [if_neg (by omega), if_pos ⟨trivial, trivial⟩]
      simp only [iappendR, elems, if_true, List.length_cons, List.length_nil, Nat.zero_add, e2, e3]
      rw [if_neg (by omega)]
      simp only [flat, dcells, List.all_cons, List.all_nil, scal, Bool.and_self, if_true, List.append_nil]
      rw [if_pos e1]; rfl
    refine ⟨_, _, ha, fun i hi => ?_, ?_, fun i hi => ?_, .inr ⟨s.next, s.next + 1, by rw [List.length_append]; rfl, ?_, ?_, ?_⟩, fun a c m e => ?_, rfl⟩
    · rw [insSt_obj, if_neg (by omega), if_neg (by omega), if_neg (by omega), if_neg (by omega), if_neg (by omega), if_neg (by omega)]; exact h.low i hi
    · show b ≤ s.next + 1 + 1 + 1; omega
    · have : s.next + 1 + 1 + 1 ≤ i := hi
      rw [insSt_obj, if_neg (by omega), if_neg (by omega), if_neg (by omega), if_neg (by omega), if_neg (by omega), if_neg (by omega)]; exact h.fresh i (by omega)
    · rw [insSt_obj, if_neg (by omega), if_neg (by omega), if_pos rfl]
    · rw [insSt_obj, if_neg (by omega), if_pos rfl]
    · rw [insSt_obj, if_pos rfl]
    · cases e; omega
theorem two_obj (σ : St) (a b : Ob) (i : Nat) : ((σ.alloc a).alloc b).obj i = if i = σ.next + 1 then some b else if i = σ.next then some a else σ.obj i := rfl
theorem dcells_sc {x : D} (h : scal x = true) : dcells x = some [x] := by cases x <;> first | rfl | (simp [scal] at h)
theorem VarsAt.ld {s : St} {x : D} {l : List (List UInt8 × List UInt8)} (h : VarsAt s x l) {i j : Nat} (hi : i < l.length) (e : idxAddrS 2 x (.int .i64 i) = some (.ref j (2 * i))) :
    iload (some 2) (.ref j (2 * i)) s = some (.agg [.str (l[i]).1, .str (l[i]).2]) ∧ iload none (.ref j (2 * i)) s = some (.str (l[i]).1) := by
  obtain ⟨j', e', h1, h2⟩ := h.at3 hi
  rw [e] at e'
  cases e'
  exact ⟨h1, h2⟩
theorem dcells3 {a b c : D} (sa : scal a = true) (sb : scal b = true) (sc : scal c = true) : dcells (.agg [a, b, c]) = some [a, b, c] := by simp [dcells, sa, sb, sc]
theorem awake_call {σ : St} {K : Out → St → Prop} (hk : K (.ret (.bool true)) σ) : goodFn Tryz.prog 10 = true ∧ Ok Tryz.prog 10 [] σ K :=
  ⟨by kernel_rfl, (awake_ok σ).mono fun o s ⟨h1, h2⟩ => by subst h1; subst h2; exact hk⟩
end Go.Proofs.YthiidchbaicfgaaGreatDoor
