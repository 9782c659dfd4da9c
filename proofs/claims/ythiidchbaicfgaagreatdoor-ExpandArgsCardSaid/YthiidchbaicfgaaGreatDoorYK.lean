/-
  THE WALKS, layer 13, PART 40: fields of the parameters; the document's Get and Joined.
-/
import Derived.Test.YthiidchbaicfgaaGreatDoorYJ
namespace Go.Proofs.YthiidchbaicfgaaGreatDoor
open Go Go.Id
set_option linter.unusedSimpArgs false
set_option linter.unusedVariables false
set_option maxRecDepth 100000
set_option maxHeartbeats 8000000

theorem atoms_ofL {w : D} {j : Nat} {al : List Atm} {σ : St} (hP : ∀ s, Exp σ j [] s → Ok Tryz.prog 49 [.ref σ.next 0, w, .bool false] s (PartsOut σ j al)) (hj : j < σ.next) :
    Pure 27 [w, .ref j 0, theHost] σ fun o => ∃ x, Atoms x al ∧ o = .ret (.tuple [x, .int .i64 0]) := by
  refine Ok.fresh fun hf => Ok.drop ?_
  have hE : Exp σ j [] (σ.alloc (.cells [.ref j 0, theHost, .nils])) := by
    refine ⟨⟨0, ?_, fun g => absurd rfl g⟩, fun i hi => ?_, alloc_fresh hf _, by rw [alloc_next]; omega⟩
    · rw [alloc_obj, if_pos rfl]; rfl
    · rw [alloc_obj, if_neg (by omega)]
  have z4 : ((0 : Int) != 0) = false := rfl
  apply en27
  unfold theHost at *
  simp -dsimp (maxSteps := 2000000) (disch := first | omega | (simp; done) | (simp; omega)) only [SA, SB, SC, SD, SE, SF, SG, SI, Nat.reduceLT, Nat.reduceAdd, Nat.reduceSub, Nat.reduceMul, Nat.reduceLeDiff, Nat.reduceEqDiff, Nat.reduceBEq, Int.reduceToNat, Int.reduceLE, Int.reduceLT, Int.reduceEq, Int.reduceNeg, reduceCtorEq, ↓reduceIte, ic27, List.replicate_succ, List.replicate_zero]
  (repeat' (first | simp -dsimp (maxSteps := 2000000) (disch := first | omega | (simp; done) | (simp; omega)) only [SA, SB, SC, SD, SE, SF, SG, SI, Nat.reduceLT, Nat.reduceAdd, Nat.reduceSub, Nat.reduceMul, Nat.reduceLeDiff, Nat.reduceEqDiff, Nat.reduceBEq, Int.reduceToNat, Int.reduceLE, Int.reduceLT, Int.reduceEq, Int.reduceNeg, reduceCtorEq, ↓reduceIte] | refine Cut.go ?_ | refine Both.intro ?_ ?_ | (refine Br.intro ?_ ?_ <;> intro hb <;> have hb' := hb <;> (try simp only [SH] at hb') <;> (try simp -dsimp (maxSteps := 2000000) (disch := first | omega | (simp; done) | (simp; omega)) only [SA, SB, SC, SD, SE, SF, SG, SI, Nat.reduceLT, Nat.reduceAdd, Nat.reduceSub, Nat.reduceMul, Nat.reduceLeDiff, Nat.reduceEqDiff, Nat.reduceBEq, Int.reduceToNat, Int.reduceLE, Int.reduceLT, Int.reduceEq, Int.reduceNeg, reduceCtorEq, ↓reduceIte, hb]))))
  refine ⟨by kernel_rfl, (hP _ hE).mono fun o s' h => ?_⟩
  obtain ⟨rfl, h2⟩ := h
  obtain ⟨tk, h3, _⟩ := h2.ex
  have sl := lsA_scal al tk
  unfold theHost at h3
  have lx : cellsAt [D.ref j 0, .iface 43 (.agg [.nilp]), lsA al tk] 2 none = some (lsA al tk) := by simp [cellsAt, sl]
  (repeat' (first | simp -dsimp (maxSteps := 2000000) (disch := first | omega | (simp; done) | (simp; omega)) only [SA, SB, SC, SD, SE, SF, SG, SI, Nat.reduceLT, Nat.reduceAdd, Nat.reduceSub, Nat.reduceMul, Nat.reduceLeDiff, Nat.reduceEqDiff, Nat.reduceBEq, Int.reduceToNat, Int.reduceLE, Int.reduceLT, Int.reduceEq, Int.reduceNeg, reduceCtorEq, ↓reduceIte, z4, h3, lx] | refine Cut.go ?_ | refine Both.intro ?_ ?_ | (refine Br.intro ?_ ?_ <;> intro hb <;> have hb' := hb <;> (try simp only [SH] at hb') <;> (try simp -dsimp (maxSteps := 2000000) (disch := first | omega | (simp; done) | (simp; omega)) only [SA, SB, SC, SD, SE, SF, SG, SI, Nat.reduceLT, Nat.reduceAdd, Nat.reduceSub, Nat.reduceMul, Nat.reduceLeDiff, Nat.reduceEqDiff, Nat.reduceBEq, Int.reduceToNat, Int.reduceLE, Int.reduceLT, Int.reduceEq, Int.reduceNeg, reduceCtorEq, ↓reduceIte, hb, z4, h3, lx]))))
  exact ⟨_, drops_old hf h2.low, ⟨_, by have := h2.nxt; omega, rfl⟩, _, lsA_atoms _ _, rfl⟩
theorem fields_at {j : Nat} {l : Vs} {y z : D} {ag : List (List UInt8)} {σ : St} (hti : Tidy σ) (ht : TabAt σ j l y z) (hy : Strs y ag) (hl : ag.length ≤ 40) (hj2 : (jn [32] ag).length ≤ 1000000) (hw : wt (allA true ag) ≤ 900000) {r r' : Room} :
    Pure 12 [.slc 1 [.slc 5 [.agg (partD 2 true [64])] r] r', .ref j 0, theHost] σ (FieldsOut ((cutF (allA true ag) (sepOf l)).map (·.1))) :=
  Pure.fresh fun hf => fields_of rfl hti hw (atoms_ofL (fun s h => h.parts_of fun s' h' K hk => h'.param_at hf ht hy hl hj2 hk) ht.lt) fun m hm => sep29 (ht.more hm)
theorem fields_star {j : Nat} {l : Vs} {y z : D} {ag : List (List UInt8)} {σ : St} (hti : Tidy σ) (ht : TabAt σ j l y z) (hy : Strs y ag) (hl : ag.length ≤ 40) (hj2 : (jn [32] ag).length ≤ 1000000) (hs : (sepOf l).length ≤ 1000000) (hj3 : (jn ((sepOf l).take 1) ag).length ≤ 290000) {r r' : Room} :
    Pure 12 [.slc 1 [.slc 5 [.agg (partD 2 true [42])] r] r', .ref j 0, theHost] σ (FieldsOut ((cutF [⟨jn ((sepOf l).take 1) ag, true, false, false⟩] (sepOf l)).map (·.1))) :=
  Pure.fresh fun hf => fields_of rfl hti (by simp only [wt]; omega) (atoms_ofL (fun s h => h.parts_of fun s' h' K hk => h'.param_star hf ht hy hl hj2 hs (by omega) hk) ht.lt) fun m hm => sep29 (ht.more hm)
/-- The plain law. -/
theorem allA_two (t u : List UInt8) (r : List (List UInt8)) : allA true (t :: u :: r) = ⟨t, true, false, false⟩ :: ⟨[], false, false, true⟩ :: allA true (u :: r) := rfl
theorem cut_all (ifs : List UInt8) : ∀ (r : List (List UInt8)) (t : List UInt8) (c : CS), c.T = [] → c.P = [] → c.r = false → (((allA true (t :: r)).foldl (CS.atom ifs) c).push false).L = c.L ++ (t :: r).map fun t => (t, quoteB t)
  | [], t, c, hT, hP, hr => by simp [allA, CS.atom, CS.add, CS.push, addP, hT, hP, hr]
  | u :: r, t, c, hT, hP, hr => by
    have ih := cut_all ifs r u { (c.add t true).push false with w := false } rfl rfl rfl
    rw [allA_two, List.foldl_cons, List.foldl_cons]
    have e : ((c.atom ifs ⟨t, true, false, false⟩).atom ifs ⟨[], false, false, true⟩) = { (c.add t true).push false with w := false } := rfl
    rw [e, ih]
    simp [CS.add, CS.push, addP, hT, hP, hr]
theorem cut_args (ag : List (List UInt8)) (ifs : List UInt8) : (cutF (allA true ag) ifs).map (·.1) = ag := by
  have hm : ∀ l : List (List UInt8), (l.map fun t => (t, quoteB t)).map (·.1) = l := fun l => by
    induction l with
    | nil => rfl
    | cons a r ih => simp only [List.map_cons, ih]
  cases ag with
  | nil => rfl
  | cons t r =>
    show (((allA true (t :: r)).foldl (CS.atom ifs) CS.zero).push false).L.map (fun f => f.1) = _
    rw [cut_all ifs r t .zero rfl rfl rfl]
    exact hm _
theorem cut_one (s ifs : List UInt8) : (cutF [⟨s, true, false, false⟩] ifs).map (·.1) = [s] := by
  have : cutF [⟨s, true, false, false⟩] ifs = [(s, quoteB s)] := by
    simp [cutF, CS.atom, CS.add, CS.push, CS.zero, addP]
  rw [this]; rfl
def tot (l : List (List UInt8)) : Nat := (l.map fun t => t.length + 1).sum
theorem tot_snoc (l : List (List UInt8)) (t : List UInt8) : tot (l ++ [t]) = tot l + t.length + 1 := by simp [tot]; omega
theorem jn_tot (b : List UInt8) (hb : b.length ≤ 1) : ∀ l : List (List UInt8), (jn b l).length ≤ tot l
  | [] => by simp [jn, tot]
  | [t] => by simp [jn, tot]
  | t :: u :: r => by
    have := jn_tot b hb (u :: r)
    simp only [jn, List.length_append, tot, List.map_cons, List.sum_cons] at this ⊢
    omega
theorem tot_le (n : Nat) : ∀ l : List (List UInt8), (∀ t ∈ l, t.length ≤ n) → tot l ≤ l.length * (n + 1)
  | [], _ => by simp [tot]
  | t :: r, h => by
    have h1 := tot_le n r fun x hx => h x (by simp [hx])
    have h2 := h t (by simp)
    simp only [tot, List.map_cons, List.sum_cons, List.length_cons] at h1 ⊢
    rw [Nat.add_mul, Nat.one_mul]; omega
theorem wt_all : ∀ l : List (List UInt8), wt (allA true l) ≤ 3 * tot l
  | [] => by simp [allA, wt, tot]
  | [t] => by simp [allA, wt, tot]; omega
  | t :: u :: r => by
    have := wt_all (u :: r)
    rw [allA_two]
    simp only [wt, tot, List.map_cons, List.sum_cons, List.length_nil] at this ⊢
    omega
theorem get16 {x y z : D} {l : Vs} (hl : l.length ≤ 64) (sx : scal x = true) (sy : scal y = true) (sz : scal z = true) (σ : St) (hx : VarsR σ x l) :
    Pure 16 [.agg [x, y, z], .str ifsN] σ fun o => o = .ret (.tuple [.str ((tget ifsN l).getD []), .bool (tget ifsN l).isSome]) := by
  refine Ok.fresh fun hf => Ok.drop ?_
  have hd : dcells (.agg [x, y, z]) = some [x, y, z] := dcells3 sx sy sz
  have hso : scalO (some x) = some x := by simp [scalO, sx]
  have z1 : (ifsN == [35]) = false := by decide
  have z2 : (ifsN == [63]) = false := by decide
  have z3 : (ifsN == [64]) = false := by decide
  have z4 : (ifsN == [42]) = false := by decide
  have z5 : ilen (.str ifsN) = none := rfl
  have i0 : idxStr (.str ifsN) (.int .i64 0) = some (.int .u8 ((73 : UInt8).toNat)) := rfl
  have d0 : digitB 73 = false := by decide
  have hle : ((ifsN.length : Nat) : Int) = 3 := rfl
  have z6 : decide ((3 : Int) > 0) = true := rfl
  have l3 : cellsAt [x, y, z] 0 (some 3) = some (.agg [x, y, z]) := rfl
  apply en16
  simp -dsimp (maxSteps := 2000000) (disch := first | omega | (simp; done) | (simp; omega)) only [SA, SB, SC, SD, SE, SF, SG, SI, Nat.reduceLT, Nat.reduceAdd, Nat.reduceSub, Nat.reduceMul, Nat.reduceLeDiff, Nat.reduceEqDiff, Nat.reduceBEq, Int.reduceToNat, Int.reduceLE, Int.reduceLT, Int.reduceEq, Int.reduceNeg, reduceCtorEq, ↓reduceIte, ic16, List.replicate_succ, List.replicate_zero]
  (repeat' (first | simp -dsimp (maxSteps := 2000000) (disch := first | omega | (simp; done) | (simp; omega)) only [SA, SB, SC, SD, SE, SF, SG, SI, Nat.reduceLT, Nat.reduceAdd, Nat.reduceSub, Nat.reduceMul, Nat.reduceLeDiff, Nat.reduceEqDiff, Nat.reduceBEq, Int.reduceToNat, Int.reduceLE, Int.reduceLT, Int.reduceEq, Int.reduceNeg, reduceCtorEq, ↓reduceIte, hd, z1, z2, z3, z4, i0, d0, hle, z6, l3] | refine Cut.go ?_ | refine Both.intro ?_ ?_ | refine via gd37 (digit37x _ _) ?_ | (refine Br.intro ?_ ?_ <;> intro hb <;> have hb' := hb <;> (try simp only [SH] at hb') <;> (try simp -dsimp (maxSteps := 2000000) (disch := first | omega | (simp; done) | (simp; omega)) only [SA, SB, SC, SD, SE, SF, SG, SI, Nat.reduceLT, Nat.reduceAdd, Nat.reduceSub, Nat.reduceMul, Nat.reduceLeDiff, Nat.reduceEqDiff, Nat.reduceBEq, Int.reduceToNat, Int.reduceLE, Int.reduceLT, Int.reduceEq, Int.reduceNeg, reduceCtorEq, ↓reduceIte, hb, hd, z1, z2, z3, z4, i0, d0, hle, z6, l3]))))
  have hx2 : VarsR (σ.alloc (.cells [x, y, z])) x l := hx.low hf fun i hi => by rw [alloc_obj, if_neg (by omega)]
  have ob : (σ.alloc (.cells [x, y, z])).obj σ.next = some (.cells [x, y, z]) := by rw [alloc_obj, if_pos rfl]
  have hlow : ∀ i, i < σ.next → (σ.alloc (.cells [x, y, z])).obj i = σ.obj i := fun i hi => by rw [alloc_obj, if_neg (by omega)]
  have hnn : (σ.alloc (.cells [x, y, z])).next = σ.next + 1 := rfl
  generalize (σ.alloc (.cells [x, y, z])) = S at *
  refine ⟨gd26, (place26x (by omega) sx sy sz ifsN S hx2).mono fun o s' h => ?_⟩
  obtain ⟨⟨m, hm, rfl⟩, p, rfl, hp⟩ := h
  rcases hp with ⟨hg, rfl⟩ | ⟨q, hq, rfl, hg⟩
  · have z7 : decide ((-1 : Int) < 0) = true := rfl
    (repeat' (first | simp -dsimp (maxSteps := 2000000) (disch := first | omega | (simp; done) | (simp; omega)) only [SA, SB, SC, SD, SE, SF, SG, SI, Nat.reduceLT, Nat.reduceAdd, Nat.reduceSub, Nat.reduceMul, Nat.reduceLeDiff, Nat.reduceEqDiff, Nat.reduceBEq, Int.reduceToNat, Int.reduceLE, Int.reduceLT, Int.reduceEq, Int.reduceNeg, reduceCtorEq, ↓reduceIte, z7] | refine Cut.go ?_ | refine Both.intro ?_ ?_ | (refine Br.intro ?_ ?_ <;> intro hb <;> have hb' := hb <;> (try simp only [SH] at hb') <;> (try simp -dsimp (maxSteps := 2000000) (disch := first | omega | (simp; done) | (simp; omega)) only [SA, SB, SC, SD, SE, SF, SG, SI, Nat.reduceLT, Nat.reduceAdd, Nat.reduceSub, Nat.reduceMul, Nat.reduceLeDiff, Nat.reduceEqDiff, Nat.reduceBEq, Int.reduceToNat, Int.reduceLE, Int.reduceLT, Int.reduceEq, Int.reduceNeg, reduceCtorEq, ↓reduceIte, hb, z7]))))
    refine ⟨_, drops_old hf hlow, ⟨_, by show σ.next ≤ m; omega, rfl⟩, ?_⟩
    rw [hg]; rfl
  · have z7 : decide (((q : Nat) : Int) < 0) = false := by simp
    rcases hx2 with ⟨rfl, rfl⟩ | ⟨jv, t, rfl, o1⟩
    · simp at hq
    have a1 : idxAddrS 2 (.rslc jv 0 2 l.length (.opened t)) (.int .i64 q) = some (.ref jv (2 * q)) := by
      simp only [idxAddrS]
      rw [if_pos ⟨trivial, by omega, by omega⟩]
      simp [Nat.mul_comm]
    have a2 : cellsAt (flat2 l) (2 * q + 1) none = some (.str (l[q]).2) := by
      have e : (flat2 l)[2 * q + 1]? = some (.str (l[q]).2) := by
        have : ((flat2 l).drop (2 * q))[1]? = some (.str (l[q]).2) := by rw [flat2_drop, List.drop_eq_getElem_cons hq]; rfl
        simpa using this
      simp only [cellsAt, e, scal, if_true]
    (repeat' (first | simp -dsimp (maxSteps := 2000000) (disch := first | omega | (simp; done) | (simp; omega)) only [SA, SB, SC, SD, SE, SF, SG, SI, Nat.reduceLT, Nat.reduceAdd, Nat.reduceSub, Nat.reduceMul, Nat.reduceLeDiff, Nat.reduceEqDiff, Nat.reduceBEq, Int.reduceToNat, Int.reduceLE, Int.reduceLT, Int.reduceEq, Int.reduceNeg, reduceCtorEq, ↓reduceIte, z7, ob, hso, a1, o1, a2] | refine Cut.go ?_ | refine Both.intro ?_ ?_ | (refine Br.intro ?_ ?_ <;> intro hb <;> have hb' := hb <;> (try simp only [SH] at hb') <;> (try simp -dsimp (maxSteps := 2000000) (disch := first | omega | (simp; done) | (simp; omega)) only [SA, SB, SC, SD, SE, SF, SG, SI, Nat.reduceLT, Nat.reduceAdd, Nat.reduceSub, Nat.reduceMul, Nat.reduceLeDiff, Nat.reduceEqDiff, Nat.reduceBEq, Int.reduceToNat, Int.reduceLE, Int.reduceLT, Int.reduceEq, Int.reduceNeg, reduceCtorEq, ↓reduceIte, hb, z7, ob, hso, a1, o1, a2]))))
    refine ⟨_, drops_old hf hlow, ⟨_, by show σ.next ≤ m; omega, rfl⟩, ?_⟩
    rw [hg]; rfl
theorem joined17 {x : D} {l : List (List UInt8)} (hx : Strs x l) (b : List UInt8) (hl : l.length ≤ 1000) (hlen : ∀ i, (jn b (l.take i)).length ≤ 10000000) (hb : b.length ≤ 10000000) (σ : St) : Ok Tryz.prog 17 [x, .str b] σ (fun o s => o = .ret (.str (jn b l)) ∧ s = σ) := by
  have hlx := hx.len
  apply en17
  simp -dsimp (maxSteps := 2000000) (disch := first | omega | (simp; done) | (simp; omega)) only [SA, SB, SC, SD, SE, SF, SG, SI, Nat.reduceLT, Nat.reduceAdd, Nat.reduceSub, Nat.reduceMul, Nat.reduceLeDiff, Nat.reduceEqDiff, Nat.reduceBEq, Int.reduceToNat, Int.reduceLE, Int.reduceLT, Int.reduceEq, Int.reduceNeg, reduceCtorEq, ↓reduceIte, ic17, List.replicate_succ, List.replicate_zero]
  (repeat' (first | simp -dsimp (maxSteps := 2000000) (disch := first | omega | (simp; done) | (simp; omega)) only [SA, SB, SC, SD, SE, SF, SG, SI, Nat.reduceLT, Nat.reduceAdd, Nat.reduceSub, Nat.reduceMul, Nat.reduceLeDiff, Nat.reduceEqDiff, Nat.reduceBEq, Int.reduceToNat, Int.reduceLE, Int.reduceLT, Int.reduceEq, Int.reduceNeg, reduceCtorEq, ↓reduceIte] | refine Cut.go ?_ | refine Both.intro ?_ ?_ | (refine Br.intro ?_ ?_ <;> intro hb <;> have hb' := hb <;> (try simp only [SH] at hb') <;> (try simp -dsimp (maxSteps := 2000000) (disch := first | omega | (simp; done) | (simp; omega)) only [SA, SB, SC, SD, SE, SF, SG, SI, Nat.reduceLT, Nat.reduceAdd, Nat.reduceSub, Nat.reduceMul, Nat.reduceLeDiff, Nat.reduceEqDiff, Nat.reduceBEq, Int.reduceToNat, Int.reduceLE, Int.reduceLT, Int.reduceEq, Int.reduceNeg, reduceCtorEq, ↓reduceIte, hb]))))
  refine loop_go (fun i : Nat => [x, .str b, .junk, .junk, .str [], .str (jn b (l.take i)), .int .i64 i] ++ List.replicate 18 .junk) (fun _ => σ) (fun i => l.length - i) (fun i => i ≤ l.length) 0 (Nat.zero_le _) (by ((try simp only [List.replicate_succ, List.replicate_zero, List.cons_append, List.nil_append]); repeat' (first | exact trivial | refine ⟨.inl rfl, ?_⟩ | refine ⟨.inr rfl, ?_⟩ | refine ⟨.inr (by simp), ?_⟩))) (Drops.refl _) ?_
  intro i h1
  have hq := hlen i
  have hq2 := hlen (i + 1)
  simp -dsimp (maxSteps := 2000000) (disch := first | omega | (simp; done) | (simp; omega)) only [SA, SB, SC, SD, SE, SF, SG, SI, Nat.reduceLT, Nat.reduceAdd, Nat.reduceSub, Nat.reduceMul, Nat.reduceLeDiff, Nat.reduceEqDiff, Nat.reduceBEq, Int.reduceToNat, Int.reduceLE, Int.reduceLT, Int.reduceEq, Int.reduceNeg, reduceCtorEq, ↓reduceIte, List.replicate_succ, List.replicate_zero]
  by_cases hi : i < l.length
  · have hcond : decide ((i : Int) < l.length) = true := by simp; exact hi
    have ax := hx.at hi
    have lx : cellsAt [D.str l[i]] 0 none = some (.str l[i]) := rfl
    have hjt := jn_take b l i hi
    have hti : (l[i]).length ≤ 10000000 := by
      rw [hjt] at hq2
      split at hq2
      · exact hq2
      · simp only [List.length_append] at hq2; omega
    by_cases h0 : i = 0
    · have hc2 : decide ((i : Int) > 0) = false := by simp; omega
      (repeat' (first | simp -dsimp (maxSteps := 2000000) (disch := first | omega | (simp; done) | (simp; omega)) only [SA, SB, SC, SD, SE, SF, SG, SI, Nat.reduceLT, Nat.reduceAdd, Nat.reduceSub, Nat.reduceMul, Nat.reduceLeDiff, Nat.reduceEqDiff, Nat.reduceBEq, Int.reduceToNat, Int.reduceLE, Int.reduceLT, Int.reduceEq, Int.reduceNeg, reduceCtorEq, ↓reduceIte, hlx, hcond, hc2, ax, lx] | refine Cut.go ?_ | refine Both.intro ?_ ?_ | (refine Br.intro ?_ ?_ <;> intro hb <;> have hb' := hb <;> (try simp only [SH] at hb') <;> (try simp -dsimp (maxSteps := 2000000) (disch := first | omega | (simp; done) | (simp; omega)) only [SA, SB, SC, SD, SE, SF, SG, SI, Nat.reduceLT, Nat.reduceAdd, Nat.reduceSub, Nat.reduceMul, Nat.reduceLeDiff, Nat.reduceEqDiff, Nat.reduceBEq, Int.reduceToNat, Int.reduceLE, Int.reduceLT, Int.reduceEq, Int.reduceNeg, reduceCtorEq, ↓reduceIte, hb, hlx, hcond, hc2, ax, lx]))))
      refine Round.go (i + 1) (by omega) (by omega) ?_ (Drops.refl _)
      rw [hjt, if_pos h0]
      have : jn b (l.take i) ++ l[i] = l[i] := by subst h0; rfl
      rw [this]
      ((try simp only [List.replicate_succ, List.replicate_zero, List.cons_append, List.nil_append]); repeat' (first | exact trivial | refine ⟨.inl rfl, ?_⟩ | refine ⟨.inr rfl, ?_⟩ | refine ⟨.inr (by simp), ?_⟩))
    · have hc2 : decide ((i : Int) > 0) = true := by simp; omega
      (repeat' (first | simp -dsimp (maxSteps := 2000000) (disch := first | omega | (simp; done) | (simp; omega)) only [SA, SB, SC, SD, SE, SF, SG, SI, Nat.reduceLT, Nat.reduceAdd, Nat.reduceSub, Nat.reduceMul, Nat.reduceLeDiff, Nat.reduceEqDiff, Nat.reduceBEq, Int.reduceToNat, Int.reduceLE, Int.reduceLT, Int.reduceEq, Int.reduceNeg, reduceCtorEq, ↓reduceIte, hlx, hcond, hc2, ax, lx] | refine Cut.go ?_ | refine Both.intro ?_ ?_ | (refine Br.intro ?_ ?_ <;> intro hb <;> have hb' := hb <;> (try simp only [SH] at hb') <;> (try simp -dsimp (maxSteps := 2000000) (disch := first | omega | (simp; done) | (simp; omega)) only [SA, SB, SC, SD, SE, SF, SG, SI, Nat.reduceLT, Nat.reduceAdd, Nat.reduceSub, Nat.reduceMul, Nat.reduceLeDiff, Nat.reduceEqDiff, Nat.reduceBEq, Int.reduceToNat, Int.reduceLE, Int.reduceLT, Int.reduceEq, Int.reduceNeg, reduceCtorEq, ↓reduceIte, hb, hlx, hcond, hc2, ax, lx]))))
      refine Round.go (i + 1) (by omega) (by omega) ?_ (Drops.refl _)
      rw [hjt, if_neg h0]
      ((try simp only [List.replicate_succ, List.replicate_zero, List.cons_append, List.nil_append]); repeat' (first | exact trivial | refine ⟨.inl rfl, ?_⟩ | refine ⟨.inr rfl, ?_⟩ | refine ⟨.inr (by simp), ?_⟩))
  · have hcond : decide ((i : Int) < l.length) = false := by simp; omega
    (repeat' (first | simp -dsimp (maxSteps := 2000000) (disch := first | omega | (simp; done) | (simp; omega)) only [SA, SB, SC, SD, SE, SF, SG, SI, Nat.reduceLT, Nat.reduceAdd, Nat.reduceSub, Nat.reduceMul, Nat.reduceLeDiff, Nat.reduceEqDiff, Nat.reduceBEq, Int.reduceToNat, Int.reduceLE, Int.reduceLT, Int.reduceEq, Int.reduceNeg, reduceCtorEq, ↓reduceIte, hlx, hcond] | refine Cut.go ?_ | refine Both.intro ?_ ?_ | (refine Br.intro ?_ ?_ <;> intro hb <;> have hb' := hb <;> (try simp only [SH] at hb') <;> (try simp -dsimp (maxSteps := 2000000) (disch := first | omega | (simp; done) | (simp; omega)) only [SA, SB, SC, SD, SE, SF, SG, SI, Nat.reduceLT, Nat.reduceAdd, Nat.reduceSub, Nat.reduceMul, Nat.reduceLeDiff, Nat.reduceEqDiff, Nat.reduceBEq, Int.reduceToNat, Int.reduceLE, Int.reduceLT, Int.reduceEq, Int.reduceNeg, reduceCtorEq, ↓reduceIte, hb, hlx, hcond]))))
    rw [List.take_of_length_le (by omega)]
end Go.Proofs.YthiidchbaicfgaaGreatDoor
