/-
  THE LAW ExpandSplits: the walk.
-/
import Derived.Test.YthiidchbaicfgaaGreatDoorZW
namespace Go.Proofs.YthiidchbaicfgaaGreatDoor
open Go Go.Id
set_option linter.unusedSimpArgs false
set_option linter.unusedVariables false
set_option maxRecDepth 100000
set_option maxHeartbeats 8000000

/-- Shapes are forgotten. -/
def bare (s : St) : St := { obj := fun i => match s.obj i with | some (.ty _ _ _) => none | o => o, next := s.next }
theorem bare_drops (s : St) : Drops s (bare s) := by
  refine ⟨Nat.le_refl _, fun i => ?_⟩
  simp only [bare]
  split
  · exact .inl rfl
  · exact .inr rfl
theorem bare_tidy (s : St) : Tidy (bare s) := by
  intro i j T n h
  simp only [bare] at h
  split at h
  · cases h
  · rename_i hh; exact absurd h (hh _ _ _)
theorem bare_cells {s : St} {i : Nat} {cs : List D} (h : s.obj i = some (.cells cs)) : (bare s).obj i = some (.cells cs) := by simp only [bare, h]
theorem TabAt.bare {s : St} {j : Nat} {l : Vs} {y z : D} (h : TabAt s j l y z) : TabAt (bare s) j l y z := by
  obtain ⟨x, h1, h2, h3, h4, h5⟩ := h.x
  refine ⟨h.few, h.sorted, h.lt, x, bare_cells h1, h2, h3, h4, ?_⟩
  rcases h5 with h5 | ⟨jv, t, e, o1⟩
  · exact .inl h5
  · exact .inr ⟨jv, t, e, bare_cells o1⟩
theorem two_new (ifs s : List UInt8) (hi : ifs.length ≤ 4096) (hs : s.length ≤ 4096) : newE [(ifsN, ifs), ([120], s)] [] = (0, [(ifsN, ifs), ([120], s)]) := by
  have n1 : nameB ifsN = true := by decide
  have n2 : nameB [120] = true := by decide
  have c1 : cb ifsN [120] < 0 := by decide
  have c2 : ¬ (ifsN = [120]) := by decide
  have a1 : ¬ 4096 < ifs.length := by omega
  have a2 : ¬ 4096 < s.length := by omega
  have e1 : setE ifsN ifs [] = (0, [(ifsN, ifs)]) := by simp [setE, n1, a1, tget, tset]
  have e2 : setE [120] s [(ifsN, ifs)] = (0, [(ifsN, ifs), ([120], s)]) := by simp [setE, n2, a2, tget, tset, c1, c2]
  simp only [newE, e1, e2, if_true]
theorem two_get (ifs s : List UInt8) : tget [120] [(ifsN, ifs), ([120], s)] = some s ∧ sepOf [(ifsN, ifs), ([120], s)] = ifs := by
  have c2 : ¬ (ifsN = [120]) := by decide
  constructor
  · simp [tget, c2]
  · simp [sepOf, tget]
def ifsL : List D := [.str [58], .str [32], .str [58, 32], .str [9], .str [32, 10, 58]]
theorem ifs_pick (n : UInt8) : ∃ sep rest, idxAddrS 1 (.slc 1 [.str [58], .str [32], .str [58, 32], .str [9], .str [32, 10, 58]] .exact) (.int .u8 ((n.toNat : Int).tmod 5)) = some (.box [.str (sep :: rest)] 0) ∧ rest.length ≤ 2 ∧ ∀ b, (sep :: rest).contains b = true → ([58, 32, 9, 10] : List UInt8).contains b = true := by
  have e : (n.toNat : Int).tmod 5 = ((n.toNat % 5 : Nat) : Int) := rfl
  rw [e]
  have h5 : n.toNat % 5 < 5 := Nat.mod_lt _ (by decide)
  generalize n.toNat % 5 = r at h5
  match r, h5 with
  | 0, _ => exact ⟨58, [], rfl, by decide, fun b h => by simp at h; (first | (rcases h with rfl | rfl | rfl) | (rcases h with rfl | rfl) | subst h) <;> decide⟩
  | 1, _ => exact ⟨32, [], rfl, by decide, fun b h => by simp at h; (first | (rcases h with rfl | rfl | rfl) | (rcases h with rfl | rfl) | subst h) <;> decide⟩
  | 2, _ => exact ⟨58, [32], rfl, by decide, fun b h => by simp at h; (first | (rcases h with rfl | rfl | rfl) | (rcases h with rfl | rfl) | subst h) <;> decide⟩
  | 3, _ => exact ⟨9, [], rfl, by decide, fun b h => by simp at h; (first | (rcases h with rfl | rfl | rfl) | (rcases h with rfl | rfl) | subst h) <;> decide⟩
  | 4, _ => exact ⟨32, [10, 58], rfl, by decide, fun b h => by simp at h; (first | (rcases h with rfl | rfl | rfl) | (rcases h with rfl | rfl) | subst h) <;> decide⟩
theorem jn_take (b : List UInt8) (l : List (List UInt8)) (i : Nat) (hi : i < l.length) : jn b (l.take (i + 1)) = if i = 0 then l[i] else jn b (l.take i) ++ b ++ l[i] := by
  rw [List.take_succ_eq_append_getElem hi]
  split
  · rename_i h; subst h; rfl
  · rename_i h
    refine jn_snoc b _ _ fun e => ?_
    have := congrArg List.length e
    rw [List.length_take, List.length_nil] at this
    omega
/-- A word as the law wants it. -/
def wordOk (t : List UInt8) : Prop := t ≠ [] ∧ t.length ≤ 100 ∧ ∀ b ∈ t, ([58, 32, 9, 10] : List UInt8).contains b = false
theorem new_two (ifs s : List UInt8) (hi : ifs.length ≤ 4096) (hs : s.length ≤ 4096) {σ : St} {K : Out → St → Prop} (hk : ∀ j y s', TabAt s' j [(ifsN, ifs), ([120], s)] y (.int .i64 0) → Tidy s' → K (.ret (.tuple [.ref j 0, .int .i64 0])) s') :
    goodFn Tryz.prog 19 = true ∧ Ok Tryz.prog 19 [.slc 2 [.agg [.str [73, 70, 83], .str ifs], .agg [.str [120], .str s]] .exact, .nils] σ K := by
  refine ⟨gd19, Ok.drop ((new19x (l := [(ifsN, ifs), ([120], s)]) (ag := []) (.vsome _ _) (by simp) .snil (by simp) σ).mono fun o s' h => ?_)⟩
  have hE := two_new ifs s hi hs
  have hN : NewE [(ifsN, ifs), ([120], s)] [] = 0 := by rw [NewE, hE]; rfl
  rw [NewOut, if_pos hN, hE] at h
  obtain ⟨y, hy, rfl, ht⟩ := h
  exact ⟨_, bare_drops _, hk _ _ _ ht.read.bare (bare_tidy _)⟩
theorem fields_x {ifs s : List UInt8} (hs : s.length ≤ 4096) {j : Nat} {y z : D} {σ : St} (ht : TabAt σ j [(ifsN, ifs), ([120], s)] y z) (hti : Tidy σ) {l : List (List UInt8)} (hl : l.length ≤ 256) (hl2 : tooLong l = false) (hcut : (cutF [⟨s, false, true, false⟩] ifs).map (·.1) = l) {K : Out → St → Prop}
    (hk : ∀ x m, Strs x l → K (.ret (.tuple [x, .int .i64 0])) ⟨σ.obj, m⟩) :
    goodFn Tryz.prog 12 = true ∧ Ok Tryz.prog 12 [.slc 1 [.slc 5 [.agg [.int .i64 2, .bool false, .str [120], .str [], .nils]] .exact] .exact, .ref j 0, .iface 43 (.agg [.nilp])] σ K := by
  obtain ⟨g1, g2⟩ := two_get ifs s
  have h := fields_name hti ht (n := [120]) (by decide) false (r := .exact) (r' := .exact) (by rw [g1, Option.getD_some]; omega)
  rw [g1, g2] at h
  refine ⟨gd12, h.mono fun o s' hh => ?_⟩
  obtain ⟨⟨m, hm, rfl⟩, ho⟩ := hh
  rw [Option.getD_some] at ho
  have e : (decide (256 < l.length) || tooLong l) = false := by rw [hl2]; simp; omega
  unfold FieldsOut at ho
  rw [show (!false) = true from rfl, hcut, e] at ho
  obtain ⟨x, hx, rfl⟩ := ho
  exact hk x m hx
theorem texts_call {x y : D} {l : List (List UInt8)} (hx : Strs x l) (hy : Strs y l) (hl : l.length ≤ 1000000) {σ : St} {K : Out → St → Prop} (hk : K (.ret (.bool true)) σ) : goodFn Tryz.prog 15 = true ∧ Ok Tryz.prog 15 [x, y] σ K := via gd15 (texts15 hx hy hl σ) hk
theorem law5 {x : D} {l : List (List UInt8)} (hx : Strs x l) (n : UInt8) (blanks : Bool) (σ : St) : Ok Tryz.prog 5 [x, .int .u8 n.toNat, .bool blanks] σ (fun o _ => o = .ret (.bool true)) := by
  have lx := hx.len
  apply en5
  simp -dsimp (maxSteps := 2000000) (disch := first | omega | (simp; done) | (simp; omega)) only [SA, SB, SC, SD, SE, SF, SG, SI, Nat.reduceLT, Nat.reduceAdd, Nat.reduceSub, Nat.reduceMul, Nat.reduceLeDiff, Nat.reduceEqDiff, Nat.reduceBEq, Int.reduceToNat, Int.reduceLE, Int.reduceLT, Int.reduceEq, Int.reduceNeg, reduceCtorEq, ↓reduceIte, ic5, List.replicate_succ, List.replicate_zero]
  by_cases h20 : 20 < l.length
  · have hcond : decide ((l.length : Int) > 20) = true := by simp; omega
    (repeat' (first | simp -dsimp (maxSteps := 2000000) (disch := first | omega | (simp; done) | (simp; omega)) only [SA, SB, SC, SD, SE, SF, SG, SI, Nat.reduceLT, Nat.reduceAdd, Nat.reduceSub, Nat.reduceMul, Nat.reduceLeDiff, Nat.reduceEqDiff, Nat.reduceBEq, Int.reduceToNat, Int.reduceLE, Int.reduceLT, Int.reduceEq, Int.reduceNeg, reduceCtorEq, ↓reduceIte, lx, hcond] | refine Cut.go ?_ | refine Both.intro ?_ ?_ | refine awake_call ?_ | (refine Br.intro ?_ ?_ <;> intro hb <;> have hb' := hb <;> (try simp only [SH] at hb') <;> (try simp -dsimp (maxSteps := 2000000) (disch := first | omega | (simp; done) | (simp; omega)) only [SA, SB, SC, SD, SE, SF, SG, SI, Nat.reduceLT, Nat.reduceAdd, Nat.reduceSub, Nat.reduceMul, Nat.reduceLeDiff, Nat.reduceEqDiff, Nat.reduceBEq, Int.reduceToNat, Int.reduceLE, Int.reduceLT, Int.reduceEq, Int.reduceNeg, reduceCtorEq, ↓reduceIte, hb, lx, hcond]))))
  have hcond : decide ((l.length : Int) > 20) = false := by simp; omega
  obtain ⟨sep, rest, hidx, hrl, hall⟩ := ifs_pick n
  have l1 : cellsAt [D.str (sep :: rest)] 0 none = some (.str (sep :: rest)) := rfl
  have hil : (sep :: rest).length ≤ 3 := by simp only [List.length_cons]; omega
  have hs1 : isl (.str (sep :: rest)) none (some (.int .i64 1)) = some (.str [sep]) := by
    rw [isl_hi _ _ _ (by simp only [List.length_cons]; omega)]; rfl
  have hi1 : (sep :: rest).contains sep = true := by simp
  generalize hifs : sep :: rest = ifs at *
  (repeat' (first | simp -dsimp (maxSteps := 2000000) (disch := first | omega | (simp; done) | (simp; omega)) only [SA, SB, SC, SD, SE, SF, SG, SI, Nat.reduceLT, Nat.reduceAdd, Nat.reduceSub, Nat.reduceMul, Nat.reduceLeDiff, Nat.reduceEqDiff, Nat.reduceBEq, Int.reduceToNat, Int.reduceLE, Int.reduceLT, Int.reduceEq, Int.reduceNeg, reduceCtorEq, ↓reduceIte, lx, hcond, hidx, l1, hs1] | refine Cut.go ?_ | refine Both.intro ?_ ?_ | (refine Br.intro ?_ ?_ <;> intro hb <;> have hb' := hb <;> (try simp only [SH] at hb') <;> (try simp -dsimp (maxSteps := 2000000) (disch := first | omega | (simp; done) | (simp; omega)) only [SA, SB, SC, SD, SE, SF, SG, SI, Nat.reduceLT, Nat.reduceAdd, Nat.reduceSub, Nat.reduceMul, Nat.reduceLeDiff, Nat.reduceEqDiff, Nat.reduceBEq, Int.reduceToNat, Int.reduceLE, Int.reduceLT, Int.reduceEq, Int.reduceNeg, reduceCtorEq, ↓reduceIte, hb, lx, hcond, hidx, l1, hs1]))))
  refine loop_go (α := Nat) (fun i => [x, .int .u8 n.toNat, .bool blanks, .junk, .junk, .junk, .bool false, .str ifs, .str [sep], .str (jn [sep] (l.take i)), .int .i64 i] ++ List.replicate 103 .junk) (fun _ => σ) (fun i => l.length - i) (fun i => i ≤ l.length ∧ ∀ t ∈ l.take i, wordOk t) 0 ⟨Nat.zero_le _, fun t ht => by simp at ht⟩ (by ((try simp only [List.replicate_succ, List.replicate_zero, List.cons_append, List.nil_append]); repeat' (first | exact trivial | refine ⟨.inl rfl, ?_⟩ | refine ⟨.inr rfl, ?_⟩ | refine ⟨.inr (by simp), ?_⟩))) (Drops.refl _) ?_
  rintro i ⟨h1, hok⟩
  simp -dsimp (maxSteps := 2000000) (disch := first | omega | (simp; done) | (simp; omega)) only [SA, SB, SC, SD, SE, SF, SG, SI, Nat.reduceLT, Nat.reduceAdd, Nat.reduceSub, Nat.reduceMul, Nat.reduceLeDiff, Nat.reduceEqDiff, Nat.reduceBEq, Int.reduceToNat, Int.reduceLE, Int.reduceLT, Int.reduceEq, Int.reduceNeg, reduceCtorEq, ↓reduceIte, List.replicate_succ, List.replicate_zero]
  have hjl : (jn [sep] (l.take i)).length ≤ 3000 := by
    have := jn_len [sep] 100 (l.take i) fun t ht => (hok t ht).2.1
    have h2 : (l.take i).length ≤ 20 := by rw [List.length_take]; omega
    have h3 : (l.take i).length * (100 + [sep].length) ≤ 20 * 101 := Nat.mul_le_mul h2 (by simp)
    omega
  by_cases hi : i < l.length
  · have hc2 : decide ((i : Int) < l.length) = true := by simp; exact hi
    have ax := hx.at hi
    have lx1 : cellsAt [D.str l[i]] 0 none = some (.str l[i]) := rfl
    have hjt := jn_take [sep] l i hi
    generalize ht : l[i] = t at *
    cases hte : (t == [])
    · by_cases h100 : 100 < t.length
      · have hc3 : decide ((t.length : Int) > 100) = true := by simp; omega
        (repeat' (first | simp -dsimp (maxSteps := 2000000) (disch := first | omega | (simp; done) | (simp; omega)) only [SA, SB, SC, SD, SE, SF, SG, SI, Nat.reduceLT, Nat.reduceAdd, Nat.reduceSub, Nat.reduceMul, Nat.reduceLeDiff, Nat.reduceEqDiff, Nat.reduceBEq, Int.reduceToNat, Int.reduceLE, Int.reduceLT, Int.reduceEq, Int.reduceNeg, reduceCtorEq, ↓reduceIte, lx, hc2, ax, lx1, hte, hc3] | refine Cut.go ?_ | refine Both.intro ?_ ?_ | refine awake_call ?_ | (refine Br.intro ?_ ?_ <;> intro hb <;> have hb' := hb <;> (try simp only [SH] at hb') <;> (try simp -dsimp (maxSteps := 2000000) (disch := first | omega | (simp; done) | (simp; omega)) only [SA, SB, SC, SD, SE, SF, SG, SI, Nat.reduceLT, Nat.reduceAdd, Nat.reduceSub, Nat.reduceMul, Nat.reduceLeDiff, Nat.reduceEqDiff, Nat.reduceBEq, Int.reduceToNat, Int.reduceLE, Int.reduceLT, Int.reduceEq, Int.reduceNeg, reduceCtorEq, ↓reduceIte, hb, lx, hc2, ax, lx1, hte, hc3]))))
      · have hc3 : decide ((t.length : Int) > 100) = false := by simp; omega
        (repeat' (first | simp -dsimp (maxSteps := 2000000) (disch := first | omega | (simp; done) | (simp; omega)) only [SA, SB, SC, SD, SE, SF, SG, SI, Nat.reduceLT, Nat.reduceAdd, Nat.reduceSub, Nat.reduceMul, Nat.reduceLeDiff, Nat.reduceEqDiff, Nat.reduceBEq, Int.reduceToNat, Int.reduceLE, Int.reduceLT, Int.reduceEq, Int.reduceNeg, reduceCtorEq, ↓reduceIte, lx, hc2, ax, lx1, hte, hc3] | refine Cut.go ?_ | refine Both.intro ?_ ?_ | (refine Br.intro ?_ ?_ <;> intro hb <;> have hb' := hb <;> (try simp only [SH] at hb') <;> (try simp -dsimp (maxSteps := 2000000) (disch := first | omega | (simp; done) | (simp; omega)) only [SA, SB, SC, SD, SE, SF, SG, SI, Nat.reduceLT, Nat.reduceAdd, Nat.reduceSub, Nat.reduceMul, Nat.reduceLeDiff, Nat.reduceEqDiff, Nat.reduceBEq, Int.reduceToNat, Int.reduceLE, Int.reduceLT, Int.reduceEq, Int.reduceNeg, reduceCtorEq, ↓reduceIte, hb, lx, hc2, ax, lx1, hte, hc3]))))
        refine loop_go (α := Nat) (fun k => [x, .int .u8 n.toNat, .bool blanks, .junk, .junk, .junk, .bool false, .str ifs, .str [sep], .str (jn [sep] (l.take i)), .int .i64 i, .int .i64 k] ++ List.replicate 102 .junk) (fun _ => σ) (fun k => t.length - k) (fun k => k ≤ t.length ∧ ∀ b ∈ t.take k, ([58, 32, 9, 10] : List UInt8).contains b = false) 0 ⟨Nat.zero_le _, fun b hb => by simp at hb⟩ (by ((try simp only [List.replicate_succ, List.replicate_zero, List.cons_append, List.nil_append]); repeat' (first | exact trivial | refine ⟨.inl rfl, ?_⟩ | refine ⟨.inr rfl, ?_⟩ | refine ⟨.inr (by simp), ?_⟩))) (Drops.refl _) ?_
        rintro k ⟨hk1, hk2⟩
        simp -dsimp (maxSteps := 2000000) (disch := first | omega | (simp; done) | (simp; omega)) only [SA, SB, SC, SD, SE, SF, SG, SI, Nat.reduceLT, Nat.reduceAdd, Nat.reduceSub, Nat.reduceMul, Nat.reduceLeDiff, Nat.reduceEqDiff, Nat.reduceBEq, Int.reduceToNat, Int.reduceLE, Int.reduceLT, Int.reduceEq, Int.reduceNeg, reduceCtorEq, ↓reduceIte, List.replicate_succ, List.replicate_zero]
        by_cases hk : k < t.length
        · have hc4 : decide ((k : Int) < t.length) = true := by simp; exact hk
          have ia := idx_at t k hk
          cases hcb : ([58, 32, 9, 10] : List UInt8).contains (t.getD k 0)
          · (repeat' (first | simp -dsimp (maxSteps := 2000000) (disch := first | omega | (simp; done) | (simp; omega)) only [SA, SB, SC, SD, SE, SF, SG, SI, Nat.reduceLT, Nat.reduceAdd, Nat.reduceSub, Nat.reduceMul, Nat.reduceLeDiff, Nat.reduceEqDiff, Nat.reduceBEq, Int.reduceToNat, Int.reduceLE, Int.reduceLT, Int.reduceEq, Int.reduceNeg, reduceCtorEq, ↓reduceIte, ax, lx1, hc4, ia, hcb] | refine Cut.go ?_ | refine Both.intro ?_ ?_ | refine via gd18 (has18 _ (by decide) (t.getD k 0) rfl _) ?_ | (refine Br.intro ?_ ?_ <;> intro hb <;> have hb' := hb <;> (try simp only [SH] at hb') <;> (try simp -dsimp (maxSteps := 2000000) (disch := first | omega | (simp; done) | (simp; omega)) only [SA, SB, SC, SD, SE, SF, SG, SI, Nat.reduceLT, Nat.reduceAdd, Nat.reduceSub, Nat.reduceMul, Nat.reduceLeDiff, Nat.reduceEqDiff, Nat.reduceBEq, Int.reduceToNat, Int.reduceLE, Int.reduceLT, Int.reduceEq, Int.reduceNeg, reduceCtorEq, ↓reduceIte, hb, ax, lx1, hc4, ia, hcb]))))
            refine Round.go (k + 1) (by omega) ⟨by omega, fun b hb => ?_⟩ (by ((try simp only [List.replicate_succ, List.replicate_zero, List.cons_append, List.nil_append]); repeat' (first | exact trivial | refine ⟨.inl rfl, ?_⟩ | refine ⟨.inr rfl, ?_⟩ | refine ⟨.inr (by simp), ?_⟩))) (Drops.refl _)
            rw [take_step t k hk] at hb
            rcases List.mem_append.1 hb with hb | hb
            · exact hk2 b hb
            · simp only [List.mem_singleton] at hb
              rw [hb]; exact hcb
          · (repeat' (first | simp -dsimp (maxSteps := 2000000) (disch := first | omega | (simp; done) | (simp; omega)) only [SA, SB, SC, SD, SE, SF, SG, SI, Nat.reduceLT, Nat.reduceAdd, Nat.reduceSub, Nat.reduceMul, Nat.reduceLeDiff, Nat.reduceEqDiff, Nat.reduceBEq, Int.reduceToNat, Int.reduceLE, Int.reduceLT, Int.reduceEq, Int.reduceNeg, reduceCtorEq, ↓reduceIte, ax, lx1, hc4, ia, hcb] | refine Cut.go ?_ | refine Both.intro ?_ ?_ | refine via gd18 (has18 _ (by decide) (t.getD k 0) rfl _) ?_ | refine awake_call ?_ | (refine Br.intro ?_ ?_ <;> intro hb <;> have hb' := hb <;> (try simp only [SH] at hb') <;> (try simp -dsimp (maxSteps := 2000000) (disch := first | omega | (simp; done) | (simp; omega)) only [SA, SB, SC, SD, SE, SF, SG, SI, Nat.reduceLT, Nat.reduceAdd, Nat.reduceSub, Nat.reduceMul, Nat.reduceLeDiff, Nat.reduceEqDiff, Nat.reduceBEq, Int.reduceToNat, Int.reduceLE, Int.reduceLT, Int.reduceEq, Int.reduceNeg, reduceCtorEq, ↓reduceIte, hb, ax, lx1, hc4, ia, hcb]))))
        · have hc4 : decide ((k : Int) < t.length) = false := by simp; omega
          have htok : wordOk t := ⟨by simpa using hte, by omega, fun b hb => hk2 b (by rw [List.take_of_length_le (by omega)]; exact hb)⟩
          have hok2 : ∀ u ∈ l.take (i + 1), wordOk u := fun u hu => by
            rw [List.take_succ_eq_append_getElem hi, ht] at hu
            rcases List.mem_append.1 hu with hu | hu
            · exact hok u hu
            · simp only [List.mem_singleton] at hu
              rw [hu]; exact htok
          by_cases hi0 : i = 0
          · have hc5 : decide ((i : Int) > 0) = false := by simp; omega
            (repeat' (first | simp -dsimp (maxSteps := 2000000) (disch := first | omega | (simp; done) | (simp; omega)) only [SA, SB, SC, SD, SE, SF, SG, SI, Nat.reduceLT, Nat.reduceAdd, Nat.reduceSub, Nat.reduceMul, Nat.reduceLeDiff, Nat.reduceEqDiff, Nat.reduceBEq, Int.reduceToNat, Int.reduceLE, Int.reduceLT, Int.reduceEq, Int.reduceNeg, reduceCtorEq, ↓reduceIte, ax, lx1, hc4, hc5] | refine Cut.go ?_ | refine Both.intro ?_ ?_ | (refine Br.intro ?_ ?_ <;> intro hb <;> have hb' := hb <;> (try simp only [SH] at hb') <;> (try simp -dsimp (maxSteps := 2000000) (disch := first | omega | (simp; done) | (simp; omega)) only [SA, SB, SC, SD, SE, SF, SG, SI, Nat.reduceLT, Nat.reduceAdd, Nat.reduceSub, Nat.reduceMul, Nat.reduceLeDiff, Nat.reduceEqDiff, Nat.reduceBEq, Int.reduceToNat, Int.reduceLE, Int.reduceLT, Int.reduceEq, Int.reduceNeg, reduceCtorEq, ↓reduceIte, hb, ax, lx1, hc4, hc5]))))
            refine Round.go (i + 1) (by omega) ⟨by omega, hok2⟩ ?_ (Drops.refl _)
            rw [hjt, if_pos hi0]
            have : jn [sep] (l.take i) ++ t = t := by subst hi0; rfl
            rw [this]
            ((try simp only [List.replicate_succ, List.replicate_zero, List.cons_append, List.nil_append]); repeat' (first | exact trivial | refine ⟨.inl rfl, ?_⟩ | refine ⟨.inr rfl, ?_⟩ | refine ⟨.inr (by simp), ?_⟩))
          · have hc5 : decide ((i : Int) > 0) = true := by simp; omega
            (repeat' (first | simp -dsimp (maxSteps := 2000000) (disch := first | omega | (simp; done) | (simp; omega)) only [SA, SB, SC, SD, SE, SF, SG, SI, Nat.reduceLT, Nat.reduceAdd, Nat.reduceSub, Nat.reduceMul, Nat.reduceLeDiff, Nat.reduceEqDiff, Nat.reduceBEq, Int.reduceToNat, Int.reduceLE, Int.reduceLT, Int.reduceEq, Int.reduceNeg, reduceCtorEq, ↓reduceIte, ax, lx1, hc4, hc5] | refine Cut.go ?_ | refine Both.intro ?_ ?_ | (refine Br.intro ?_ ?_ <;> intro hb <;> have hb' := hb <;> (try simp only [SH] at hb') <;> (try simp -dsimp (maxSteps := 2000000) (disch := first | omega | (simp; done) | (simp; omega)) only [SA, SB, SC, SD, SE, SF, SG, SI, Nat.reduceLT, Nat.reduceAdd, Nat.reduceSub, Nat.reduceMul, Nat.reduceLeDiff, Nat.reduceEqDiff, Nat.reduceBEq, Int.reduceToNat, Int.reduceLE, Int.reduceLT, Int.reduceEq, Int.reduceNeg, reduceCtorEq, ↓reduceIte, hb, ax, lx1, hc4, hc5]))))
            refine Round.go (i + 1) (by omega) ⟨by omega, hok2⟩ ?_ (Drops.refl _)
            rw [hjt, if_neg hi0]
            ((try simp only [List.replicate_succ, List.replicate_zero, List.cons_append, List.nil_append]); repeat' (first | exact trivial | refine ⟨.inl rfl, ?_⟩ | refine ⟨.inr rfl, ?_⟩ | refine ⟨.inr (by simp), ?_⟩))
    · (repeat' (first | simp -dsimp (maxSteps := 2000000) (disch := first | omega | (simp; done) | (simp; omega)) only [SA, SB, SC, SD, SE, SF, SG, SI, Nat.reduceLT, Nat.reduceAdd, Nat.reduceSub, Nat.reduceMul, Nat.reduceLeDiff, Nat.reduceEqDiff, Nat.reduceBEq, Int.reduceToNat, Int.reduceLE, Int.reduceLT, Int.reduceEq, Int.reduceNeg, reduceCtorEq, ↓reduceIte, lx, hc2, ax, lx1, hte] | refine Cut.go ?_ | refine Both.intro ?_ ?_ | refine awake_call ?_ | (refine Br.intro ?_ ?_ <;> intro hb <;> have hb' := hb <;> (try simp only [SH] at hb') <;> (try simp -dsimp (maxSteps := 2000000) (disch := first | omega | (simp; done) | (simp; omega)) only [SA, SB, SC, SD, SE, SF, SG, SI, Nat.reduceLT, Nat.reduceAdd, Nat.reduceSub, Nat.reduceMul, Nat.reduceLeDiff, Nat.reduceEqDiff, Nat.reduceBEq, Int.reduceToNat, Int.reduceLE, Int.reduceLT, Int.reduceEq, Int.reduceNeg, reduceCtorEq, ↓reduceIte, hb, lx, hc2, ax, lx1, hte]))))
  · have hc2 : decide ((i : Int) < l.length) = false := by simp; omega
    rw [List.take_of_length_le (by omega)] at hok hjl
    have hword : ∀ t ∈ l, t ≠ [] ∧ ∀ b ∈ t, ifs.contains b = false := fun t ht => ⟨(hok t ht).1, fun b hb => by
      cases hc : ifs.contains b
      · rfl
      · have := hall b hc
        rw [(hok t ht).2.2 b hb] at this; cases this⟩
    have htl : tooLong l = false := by
      cases hc : tooLong l
      · rfl
      · unfold tooLong at hc
        rw [List.any_eq_true] at hc
        obtain ⟨t, h1, h2⟩ := hc
        have := (hok t h1).2.1
        simp at h2; omega
    have e : l.take i = l := List.take_of_length_le (by omega)
    rw [e]
    have z4 : ((0 : Int) != 0) = false := rfl
    have z5 : ((0 : Int) == 0) = true := rfl
    cases blanks
    · (repeat' (first | simp -dsimp (maxSteps := 2000000) (disch := first | omega | (simp; done) | (simp; omega)) only [SA, SB, SC, SD, SE, SF, SG, SI, Nat.reduceLT, Nat.reduceAdd, Nat.reduceSub, Nat.reduceMul, Nat.reduceLeDiff, Nat.reduceEqDiff, Nat.reduceBEq, Int.reduceToNat, Int.reduceLE, Int.reduceLT, Int.reduceEq, Int.reduceNeg, reduceCtorEq, ↓reduceIte, lx, hc2] | refine Cut.go ?_ | refine Both.intro ?_ ?_ | (refine Br.intro ?_ ?_ <;> intro hb <;> have hb' := hb <;> (try simp only [SH] at hb') <;> (try simp -dsimp (maxSteps := 2000000) (disch := first | omega | (simp; done) | (simp; omega)) only [SA, SB, SC, SD, SE, SF, SG, SI, Nat.reduceLT, Nat.reduceAdd, Nat.reduceSub, Nat.reduceMul, Nat.reduceLeDiff, Nat.reduceEqDiff, Nat.reduceBEq, Int.reduceToNat, Int.reduceLE, Int.reduceLT, Int.reduceEq, Int.reduceNeg, reduceCtorEq, ↓reduceIte, hb, lx, hc2]))))
      refine new_two ifs _ (by omega) (by omega) fun j y s' hT hti => ?_
      (repeat' (first | simp -dsimp (maxSteps := 2000000) (disch := first | omega | (simp; done) | (simp; omega)) only [SA, SB, SC, SD, SE, SF, SG, SI, Nat.reduceLT, Nat.reduceAdd, Nat.reduceSub, Nat.reduceMul, Nat.reduceLeDiff, Nat.reduceEqDiff, Nat.reduceBEq, Int.reduceToNat, Int.reduceLE, Int.reduceLT, Int.reduceEq, Int.reduceNeg, reduceCtorEq, ↓reduceIte, z4] | refine Cut.go ?_ | refine Both.intro ?_ ?_ | (refine Br.intro ?_ ?_ <;> intro hb <;> have hb' := hb <;> (try simp only [SH] at hb') <;> (try simp -dsimp (maxSteps := 2000000) (disch := first | omega | (simp; done) | (simp; omega)) only [SA, SB, SC, SD, SE, SF, SG, SI, Nat.reduceLT, Nat.reduceAdd, Nat.reduceSub, Nat.reduceMul, Nat.reduceLeDiff, Nat.reduceEqDiff, Nat.reduceBEq, Int.reduceToNat, Int.reduceLE, Int.reduceLT, Int.reduceEq, Int.reduceNeg, reduceCtorEq, ↓reduceIte, hb, z4]))))
      refine fields_x (by omega) hT hti (by omega) htl (splits_plain ifs sep hi1 l hword) fun a m ha => ?_
      (repeat' (first | simp -dsimp (maxSteps := 2000000) (disch := first | omega | (simp; done) | (simp; omega)) only [SA, SB, SC, SD, SE, SF, SG, SI, Nat.reduceLT, Nat.reduceAdd, Nat.reduceSub, Nat.reduceMul, Nat.reduceLeDiff, Nat.reduceEqDiff, Nat.reduceBEq, Int.reduceToNat, Int.reduceLE, Int.reduceLT, Int.reduceEq, Int.reduceNeg, reduceCtorEq, ↓reduceIte, z5] | refine Cut.go ?_ | refine Both.intro ?_ ?_ | refine texts_call ha hx (by omega) ?_ | refine awake_call ?_ | (refine Br.intro ?_ ?_ <;> intro hb <;> have hb' := hb <;> (try simp only [SH] at hb') <;> (try simp -dsimp (maxSteps := 2000000) (disch := first | omega | (simp; done) | (simp; omega)) only [SA, SB, SC, SD, SE, SF, SG, SI, Nat.reduceLT, Nat.reduceAdd, Nat.reduceSub, Nat.reduceMul, Nat.reduceLeDiff, Nat.reduceEqDiff, Nat.reduceBEq, Int.reduceToNat, Int.reduceLE, Int.reduceLT, Int.reduceEq, Int.reduceNeg, reduceCtorEq, ↓reduceIte, hb, z5]))))
    · cases h32 : ifs.contains 32
      · (repeat' (first | simp -dsimp (maxSteps := 2000000) (disch := first | omega | (simp; done) | (simp; omega)) only [SA, SB, SC, SD, SE, SF, SG, SI, Nat.reduceLT, Nat.reduceAdd, Nat.reduceSub, Nat.reduceMul, Nat.reduceLeDiff, Nat.reduceEqDiff, Nat.reduceBEq, Int.reduceToNat, Int.reduceLE, Int.reduceLT, Int.reduceEq, Int.reduceNeg, reduceCtorEq, ↓reduceIte, lx, hc2, h32] | refine Cut.go ?_ | refine Both.intro ?_ ?_ | refine via gd18 (has18 _ (by omega) 32 rfl _) ?_ | (refine Br.intro ?_ ?_ <;> intro hb <;> have hb' := hb <;> (try simp only [SH] at hb') <;> (try simp -dsimp (maxSteps := 2000000) (disch := first | omega | (simp; done) | (simp; omega)) only [SA, SB, SC, SD, SE, SF, SG, SI, Nat.reduceLT, Nat.reduceAdd, Nat.reduceSub, Nat.reduceMul, Nat.reduceLeDiff, Nat.reduceEqDiff, Nat.reduceBEq, Int.reduceToNat, Int.reduceLE, Int.reduceLT, Int.reduceEq, Int.reduceNeg, reduceCtorEq, ↓reduceIte, hb, lx, hc2, h32]))))
        refine new_two ifs _ (by omega) (by omega) fun j y s' hT hti => ?_
        (repeat' (first | simp -dsimp (maxSteps := 2000000) (disch := first | omega | (simp; done) | (simp; omega)) only [SA, SB, SC, SD, SE, SF, SG, SI, Nat.reduceLT, Nat.reduceAdd, Nat.reduceSub, Nat.reduceMul, Nat.reduceLeDiff, Nat.reduceEqDiff, Nat.reduceBEq, Int.reduceToNat, Int.reduceLE, Int.reduceLT, Int.reduceEq, Int.reduceNeg, reduceCtorEq, ↓reduceIte, z4] | refine Cut.go ?_ | refine Both.intro ?_ ?_ | (refine Br.intro ?_ ?_ <;> intro hb <;> have hb' := hb <;> (try simp only [SH] at hb') <;> (try simp -dsimp (maxSteps := 2000000) (disch := first | omega | (simp; done) | (simp; omega)) only [SA, SB, SC, SD, SE, SF, SG, SI, Nat.reduceLT, Nat.reduceAdd, Nat.reduceSub, Nat.reduceMul, Nat.reduceLeDiff, Nat.reduceEqDiff, Nat.reduceBEq, Int.reduceToNat, Int.reduceLE, Int.reduceLT, Int.reduceEq, Int.reduceNeg, reduceCtorEq, ↓reduceIte, hb, z4]))))
        refine fields_x (by omega) hT hti (by omega) htl (splits_plain ifs sep hi1 l hword) fun a m ha => ?_
        (repeat' (first | simp -dsimp (maxSteps := 2000000) (disch := first | omega | (simp; done) | (simp; omega)) only [SA, SB, SC, SD, SE, SF, SG, SI, Nat.reduceLT, Nat.reduceAdd, Nat.reduceSub, Nat.reduceMul, Nat.reduceLeDiff, Nat.reduceEqDiff, Nat.reduceBEq, Int.reduceToNat, Int.reduceLE, Int.reduceLT, Int.reduceEq, Int.reduceNeg, reduceCtorEq, ↓reduceIte, z5] | refine Cut.go ?_ | refine Both.intro ?_ ?_ | refine texts_call ha hx (by omega) ?_ | refine awake_call ?_ | (refine Br.intro ?_ ?_ <;> intro hb <;> have hb' := hb <;> (try simp only [SH] at hb') <;> (try simp -dsimp (maxSteps := 2000000) (disch := first | omega | (simp; done) | (simp; omega)) only [SA, SB, SC, SD, SE, SF, SG, SI, Nat.reduceLT, Nat.reduceAdd, Nat.reduceSub, Nat.reduceMul, Nat.reduceLeDiff, Nat.reduceEqDiff, Nat.reduceBEq, Int.reduceToNat, Int.reduceLE, Int.reduceLT, Int.reduceEq, Int.reduceNeg, reduceCtorEq, ↓reduceIte, hb, z5]))))
      · (repeat' (first | simp -dsimp (maxSteps := 2000000) (disch := first | omega | (simp; done) | (simp; omega)) only [SA, SB, SC, SD, SE, SF, SG, SI, Nat.reduceLT, Nat.reduceAdd, Nat.reduceSub, Nat.reduceMul, Nat.reduceLeDiff, Nat.reduceEqDiff, Nat.reduceBEq, Int.reduceToNat, Int.reduceLE, Int.reduceLT, Int.reduceEq, Int.reduceNeg, reduceCtorEq, ↓reduceIte, lx, hc2, h32] | refine Cut.go ?_ | refine Both.intro ?_ ?_ | refine via gd18 (has18 _ (by omega) 32 rfl _) ?_ | (refine Br.intro ?_ ?_ <;> intro hb <;> have hb' := hb <;> (try simp only [SH] at hb') <;> (try simp -dsimp (maxSteps := 2000000) (disch := first | omega | (simp; done) | (simp; omega)) only [SA, SB, SC, SD, SE, SF, SG, SI, Nat.reduceLT, Nat.reduceAdd, Nat.reduceSub, Nat.reduceMul, Nat.reduceLeDiff, Nat.reduceEqDiff, Nat.reduceBEq, Int.reduceToNat, Int.reduceLE, Int.reduceLT, Int.reduceEq, Int.reduceNeg, reduceCtorEq, ↓reduceIte, hb, lx, hc2, h32]))))
        refine new_two ifs _ (by omega) (by simp only [List.length_cons, List.length_append, List.length_nil]; omega) fun j y s' hT hti => ?_
        (repeat' (first | simp -dsimp (maxSteps := 2000000) (disch := first | omega | (simp; done) | (simp; omega)) only [SA, SB, SC, SD, SE, SF, SG, SI, Nat.reduceLT, Nat.reduceAdd, Nat.reduceSub, Nat.reduceMul, Nat.reduceLeDiff, Nat.reduceEqDiff, Nat.reduceBEq, Int.reduceToNat, Int.reduceLE, Int.reduceLT, Int.reduceEq, Int.reduceNeg, reduceCtorEq, ↓reduceIte, z4] | refine Cut.go ?_ | refine Both.intro ?_ ?_ | (refine Br.intro ?_ ?_ <;> intro hb <;> have hb' := hb <;> (try simp only [SH] at hb') <;> (try simp -dsimp (maxSteps := 2000000) (disch := first | omega | (simp; done) | (simp; omega)) only [SA, SB, SC, SD, SE, SF, SG, SI, Nat.reduceLT, Nat.reduceAdd, Nat.reduceSub, Nat.reduceMul, Nat.reduceLeDiff, Nat.reduceEqDiff, Nat.reduceBEq, Int.reduceToNat, Int.reduceLE, Int.reduceLT, Int.reduceEq, Int.reduceNeg, reduceCtorEq, ↓reduceIte, hb, z4]))))
        refine fields_x (by simp only [List.length_cons, List.length_append, List.length_nil]; omega) hT hti (by omega) htl (splits_blanks ifs sep hi1 h32 l hword) fun a m ha => ?_
        (repeat' (first | simp -dsimp (maxSteps := 2000000) (disch := first | omega | (simp; done) | (simp; omega)) only [SA, SB, SC, SD, SE, SF, SG, SI, Nat.reduceLT, Nat.reduceAdd, Nat.reduceSub, Nat.reduceMul, Nat.reduceLeDiff, Nat.reduceEqDiff, Nat.reduceBEq, Int.reduceToNat, Int.reduceLE, Int.reduceLT, Int.reduceEq, Int.reduceNeg, reduceCtorEq, ↓reduceIte, z5] | refine Cut.go ?_ | refine Both.intro ?_ ?_ | refine texts_call ha hx (by omega) ?_ | refine awake_call ?_ | (refine Br.intro ?_ ?_ <;> intro hb <;> have hb' := hb <;> (try simp only [SH] at hb') <;> (try simp -dsimp (maxSteps := 2000000) (disch := first | omega | (simp; done) | (simp; omega)) only [SA, SB, SC, SD, SE, SF, SG, SI, Nat.reduceLT, Nat.reduceAdd, Nat.reduceSub, Nat.reduceMul, Nat.reduceLeDiff, Nat.reduceEqDiff, Nat.reduceBEq, Int.reduceToNat, Int.reduceLE, Int.reduceLT, Int.reduceEq, Int.reduceNeg, reduceCtorEq, ↓reduceIte, hb, z5]))))
end Go.Proofs.YthiidchbaicfgaaGreatDoor
