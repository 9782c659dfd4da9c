/-
  THE WALKS, PART 16: 'Eval'.
-/
import Derived.Test.YtkjgadanaknleaaW14
import Derived.Test.YtkjgadanaknleaaW15
namespace Go.Proofs.Ytkjgadanaknleaa
open Go Go.Id
set_option linter.unusedSimpArgs false
set_option linter.unusedVariables false
set_option maxRecDepth 100000
set_option maxHeartbeats 4000000

/-- What a text is, with variables. -/
def arithF (s : List UInt8) (l : List V) : Except Int (Int × List V) :=
  if 8192 < s.length ∨ 64 < l.length then .error 2 else
  match tokensF s.length s [] with
  | .error e => .error e
  | .ok ts => if ts = [] then .ok (0, l) else
    match exprF (4 * ts.length + 4) ts 0 with
    | .error e => .error e
    | .ok x => if x.rest = [] then evalF x.nd l else .error 61
/-- What is told. -/
def Told (σ : St) (R : Except Int (Int × List V)) (o : Out) (s' : St) : Prop := ∃ m, σ.next ≤ m ∧ s' = ⟨σ.obj, m⟩ ∧ match R with
  | .ok r => ∃ y, Vd y r.2 ∧ o = .ret (.tuple [.int .i64 r.1, y, .int .i64 0])
  | .error e => o = .ret (.tuple [.int .i64 0, .nils, .int .i64 e])
theorem drops_old {σ s : St} (hf : σ.Fresh) (ho : ∀ i, i < σ.next → s.obj i = σ.obj i) : Drops s ⟨σ.obj, s.next⟩ := by
  refine ⟨Nat.le_refl _, fun i => ?_⟩
  by_cases h : i < σ.next
  · right; exact (ho i h).symm
  · left; exact hf i (by omega)
theorem chunks_flat : ∀ l : List V, chunks 2 l.length (flatV l) = l.map V.d
  | [] => rfl
  | v :: l => by
    have ih := chunks_flat l
    simp only [List.length_cons, flatV_cons, chunks, List.map_cons, List.take_succ_cons, List.take_zero, List.drop_succ_cons, List.drop_zero, ih]
    rfl
theorem flatV_scal : ∀ l : List V, (flatV l).all scal = true
  | [] => rfl
  | v :: l => by rw [flatV_cons]; simp [flatV_scal l]
def Fin (σ : St) (R : Except Int (Int × List V)) (o : Out) (s : St) : Prop := ∃ s', Drops s s' ∧ Told σ R o s'
theorem fin_err {σ s : St} (hf : σ.Fresh) (ho : ∀ i, i < σ.next → s.obj i = σ.obj i) (hn : σ.next ≤ s.next) {R : Except Int (Int × List V)} {e : Int} (h : R = .error e) :
    Fin σ R (.ret (.tuple [.int .i64 0, .nils, .int .i64 e])) s := by
  subst h
  exact ⟨_, drops_old hf ho, s.next, hn, rfl, rfl⟩
theorem fin_ok {σ s : St} (hf : σ.Fresh) (ho : ∀ i, i < σ.next → s.obj i = σ.obj i) (hn : σ.next ≤ s.next) {R : Except Int (Int × List V)} {n : Int} {l : List V} {y : D} (h : R = .ok (n, l)) (hv : Vs s y l) (hg : ∀ j t len, y = .rslc j 0 2 len (.opened t) → σ.next ≤ j) :
    Fin σ R (.ret (.tuple [.int .i64 n, y, .int .i64 0])) s ∨ ∃ j cs o', s.obj j = some (.cells cs) ∧ FrzO j cs (.ret (.tuple [.int .i64 n, y, .int .i64 0])) o' ∧ Fin σ R o' (s.put j none) := by
  subst h
  cases hv with
  | vnil => left; exact ⟨_, drops_old hf ho, s.next, hn, rfl, .nils, .vnil, rfl⟩
  | vnone => left; exact ⟨_, drops_old hf ho, s.next, hn, rfl, .slc 2 [] .exact, .vsome [] _, rfl⟩
  | vsome j t l hl hj ht =>
    right
    have hgj := hg _ _ _ rfl
    refine ⟨j, flatV l, .ret (.tuple [.int .i64 n, .slc 2 (chunks 2 l.length ((flatV l).drop 0)) (.opened t), .int .i64 0]), hj, .many (.cons (.refl _) (.cons (.slc _ _ _ _ (by rw [flatV_len]; omega) (flatV_scal l)) (.cons (.refl _) .nil))), ?_⟩
    refine ⟨_, drops_old hf (s := s.put j none) (fun i hi => by rw [put_obj, if_neg (by omega), ho i hi]), _, ?_, rfl, .slc 2 (l.map V.d) (.opened t), .vsome l _, ?_⟩
    · exact hn
    · rw [List.drop_zero, chunks_flat]

def Fin2 (σ : St) (R : Except Int (Int × List V)) (o : Out) (s : St) : Prop := Fin σ R o s ∨ ∃ j cs o', s.obj j = some (.cells cs) ∧ FrzO j cs o o' ∧ Fin σ R o' (s.put j none)
theorem Vs.keep {s s' : St} {y : D} {l : List V} {b : Nat} (h : Vs s y l) (hg : ∀ j t len, y = .rslc j 0 2 len (.opened t) → b ≤ j ∧ b ≤ t) (ho : ∀ i, b ≤ i → s'.obj i = s.obj i) : Vs s' y l := by
  cases h with
  | vnil => exact .vnil
  | vnone => exact .vnone
  | vsome j t l hl hj ht =>
    obtain ⟨h1, h2⟩ := hg _ _ _ rfl
    exact .vsome j t l hl (by rw [ho j h1, hj]) (by rw [ho t h2, ht])
theorem Vs.dc {s : St} {y : D} {l : List V} (h : Vs s y l) : dcells y = some [y] := by cases h <;> rfl
/-- Three cells of a frame, told anew. -/
def put3 (s : St) (a : Nat) (x y z : D) : St := ((s.put a (some (.cells [x]))).put (a + 1) (some (.cells [y]))).put (a + 1 + 1) (some (.cells [z]))
theorem put3_obj (s : St) (a : Nat) (x y z : D) (i : Nat) (h : i < a ∨ a + 3 ≤ i) : (put3 s a x y z).obj i = s.obj i := by
  unfold put3; rw [put_obj, if_neg (by omega), put_obj, if_neg (by omega), put_obj, if_neg (by omega)]
theorem fin_err' {σ s : St} (hf : σ.Fresh) (ho : ∀ i, i < σ.next → s.obj i = σ.obj i) (hn : σ.next ≤ s.next) {R : Except Int (Int × List V)} {e : Int} (h : R = .error e) :
    Fin2 σ R (.ret (.tuple [.int .i64 0, .nils, .int .i64 e])) s := .inl (fin_err hf ho hn h)
theorem fin_mst {σ σB s : St} {jm : Nat} {l : List V} {R : Except Int (Int × List V)} {n : Int} {y a b c : D} (hf : σ.Fresh) (hM : MSt σB jm l s) (hB : σ.next + 3 ≤ σB.next) (ho : ∀ i, i < σ.next → σB.obj i = σ.obj i) (hy : s.obj jm = some (.cells [y])) (hR : R = .ok (n, l)) :
    Fin2 σ R (.ret (.tuple [.int .i64 n, y, .int .i64 0])) (put3 s σ.next a b c) := by
  obtain ⟨h1, h2, h3, x, h4, h5, h6, h7⟩ := hM
  obtain rfl : y = x := by rw [hy] at h4; simpa using h4
  refine fin_ok hf (fun i hi => ?_) ?_ hR (h6.keep h7 fun i hi => ?_) fun j t len e => ?_
  · rw [put3_obj _ _ _ _ _ _ (by omega), h2 i (by omega), ho i hi]
  · show σ.next ≤ s.next; omega
  · exact put3_obj _ _ _ _ _ _ (by omega)
  · have := (h7 _ _ _ e).1; omega

theorem eval_ok (s : List UInt8) {x : D} {l : List V} {σ : St} (hx : Vd x l) (hv : ∀ v ∈ l, v.value.length ≤ 9223372036854775807) : Ok Try.prog 11 [.str s, x] σ (Told σ (arithF s l)) := by
  refine Ok.fresh fun hf => Ok.drop (Ok.freeze (show Ok Try.prog 11 [.str s, x] σ (Fin2 σ (arithF s l)) from ?_))
  have hlen : ilen x = some (.int .i64 l.length) := by cases hx <;> simp [ilen]
  apply en11
  have h01 : (σ.next = σ.next + 1) = False := eq_false (by omega)
  have h02 : (σ.next = σ.next + 1 + 1) = False := eq_false (by omega)
  have h12 : (σ.next + 1 = σ.next + 1 + 1) = False := eq_false (by omega)
  have h10 : (σ.next + 1 = σ.next) = False := eq_false (by omega)
  have h20 : (σ.next + 1 + 1 = σ.next) = False := eq_false (by omega)
  have h21 : (σ.next + 1 + 1 = σ.next + 1) = False := eq_false (by omega)
  simp -dsimp (maxSteps := 2000000) (disch := first | omega | (simp; done) | (simp; omega)) only [SA, SB, SC, SD, SE, SF, SG, Nat.reduceLT, Nat.reduceAdd, Nat.reduceSub, Nat.reduceMul, Nat.reduceLeDiff, Nat.reduceEqDiff, Nat.reduceBEq, Int.reduceToNat, Int.reduceLE, Int.reduceLT, Int.reduceEq, Int.reduceNeg, reduceCtorEq, ↓reduceIte, ic11, List.replicate_succ, List.replicate_zero]
  have oA : ∀ i, i < σ.next → (((σ.alloc (.cells [.int .i64 0])).alloc (.cells [.nils])).alloc (.cells [.int .i64 0])).obj i = σ.obj i := fun i hi => by
    rw [alloc_obj, if_neg (by simp only [alloc_next]; omega), alloc_obj, if_neg (by simp only [alloc_next]; omega), alloc_obj, if_neg (by omega)]
  have nA : (((σ.alloc (.cells [.int .i64 0])).alloc (.cells [.nils])).alloc (.cells [.int .i64 0])).next = σ.next + 3 := rfl
  have a0 : (((σ.alloc (.cells [.int .i64 0])).alloc (.cells [.nils])).alloc (.cells [.int .i64 0])).obj σ.next = some (.cells [.int .i64 0]) := by
    rw [alloc_obj, if_neg (by simp only [alloc_next]; omega), alloc_obj, if_neg (by simp only [alloc_next]; omega), alloc_obj, if_pos rfl]
  have a1 : (((σ.alloc (.cells [.int .i64 0])).alloc (.cells [.nils])).alloc (.cells [.int .i64 0])).obj (σ.next + 1) = some (.cells [.nils]) := by
    rw [alloc_obj, if_neg (by simp only [alloc_next]; omega), alloc_obj, if_pos (by simp only [alloc_next])]
  have a2 : (((σ.alloc (.cells [.int .i64 0])).alloc (.cells [.nils])).alloc (.cells [.int .i64 0])).obj (σ.next + 1 + 1) = some (.cells [.int .i64 0]) := by
    rw [alloc_obj, if_pos (by simp only [alloc_next])]
  generalize ((σ.alloc (.cells [.int .i64 0])).alloc (.cells [.nils])).alloc (.cells [.int .i64 0]) = σA at oA nA a0 a1 a2 ⊢
  (repeat' (first | simp -dsimp (maxSteps := 2000000) (disch := first | omega | (simp; done) | (simp; omega)) only [SA, SB, SC, SD, SE, SF, SG, Nat.reduceLT, Nat.reduceAdd, Nat.reduceSub, Nat.reduceMul, Nat.reduceLeDiff, Nat.reduceEqDiff, Nat.reduceBEq, Int.reduceToNat, Int.reduceLE, Int.reduceLT, Int.reduceEq, Int.reduceNeg, reduceCtorEq, ↓reduceIte, h01, h02, h12, h10, h20, h21, hlen, a0, a1, a2] | refine Cut.go ?_ | refine Both.intro ?_ ?_ | (refine Br.intro ?_ ?_ <;> intro hb <;> have hb' := hb <;> (try simp only [SH] at hb') <;> (try simp -dsimp (maxSteps := 2000000) (disch := first | omega | (simp; done) | (simp; omega)) only [SA, SB, SC, SD, SE, SF, SG, Nat.reduceLT, Nat.reduceAdd, Nat.reduceSub, Nat.reduceMul, Nat.reduceLeDiff, Nat.reduceEqDiff, Nat.reduceBEq, Int.reduceToNat, Int.reduceLE, Int.reduceLT, Int.reduceEq, Int.reduceNeg, reduceCtorEq, ↓reduceIte, hb, h01, h02, h12, h10, h20, h21, hlen, a0, a1, a2]))))
  · have : 8192 < s.length := by omega
    exact fin_err' hf (s := put3 σA σ.next _ _ _) (fun i hi => by rw [put3_obj _ _ _ _ _ _ (by omega), oA i hi]) (by show σ.next ≤ σA.next; omega) (by rw [arithF, if_pos (.inl this)])
  · have : 64 < l.length := by omega
    exact fin_err' hf (s := put3 σA σ.next _ _ _) (fun i hi => by rw [put3_obj _ _ _ _ _ _ (by omega), oA i hi]) (by show σ.next ≤ σA.next; omega) (by rw [arithF, if_pos (.inr this)])
  have hcond : ¬ (8192 < s.length ∨ 64 < l.length) := by omega
  have hspec : ∀ R, (match tokensF s.length s [] with
      | .error e => .error e
      | .ok ts => if ts = [] then .ok (0, l) else match exprF (4 * ts.length + 4) ts 0 with
        | .error e => .error e
        | .ok x => if x.rest = [] then evalF x.nd l else .error 61) = R → arithF s l = R := fun R h => by rw [arithF, if_neg hcond]; exact h
  refine tokens_call (by omega) fun n hn => ⟨fun ts hts t => ?_, fun e he => ?_⟩
  rotate_left
  · have hne : (e != 0) = true := by simpa using tokens_err _ _ _ _ (Nat.le_refl _) he
    (repeat' (first | simp -dsimp (maxSteps := 2000000) (disch := first | omega | (simp; done) | (simp; omega)) only [SA, SB, SC, SD, SE, SF, SG, Nat.reduceLT, Nat.reduceAdd, Nat.reduceSub, Nat.reduceMul, Nat.reduceLeDiff, Nat.reduceEqDiff, Nat.reduceBEq, Int.reduceToNat, Int.reduceLE, Int.reduceLT, Int.reduceEq, Int.reduceNeg, reduceCtorEq, ↓reduceIte, h01, h02, h12, h10, h20, h21, a0, a1, a2, hne] | refine Cut.go ?_ | refine Both.intro ?_ ?_ | (refine Br.intro ?_ ?_ <;> intro hb <;> have hb' := hb <;> (try simp only [SH] at hb') <;> (try simp -dsimp (maxSteps := 2000000) (disch := first | omega | (simp; done) | (simp; omega)) only [SA, SB, SC, SD, SE, SF, SG, Nat.reduceLT, Nat.reduceAdd, Nat.reduceSub, Nat.reduceMul, Nat.reduceLeDiff, Nat.reduceEqDiff, Nat.reduceBEq, Int.reduceToNat, Int.reduceLE, Int.reduceLT, Int.reduceEq, Int.reduceNeg, reduceCtorEq, ↓reduceIte, hb, h01, h02, h12, h10, h20, h21, a0, a1, a2, hne]))))
    refine fin_err' hf (fun i hi => ?_) ?_ (hspec _ (by rw [he]))
    · simp only [put_obj]
      rw [if_neg (by omega), if_neg (by omega), if_neg (by omega), if_neg (by omega), oA i hi]
    · show σ.next ≤ n; omega
  have hz : ((0 : Int) != 0) = false := rfl
  simp -dsimp (maxSteps := 2000000) (disch := first | omega | (simp; done) | (simp; omega)) only [SA, SB, SC, SD, SE, SF, SG, Nat.reduceLT, Nat.reduceAdd, Nat.reduceSub, Nat.reduceMul, Nat.reduceLeDiff, Nat.reduceEqDiff, Nat.reduceBEq, Int.reduceToNat, Int.reduceLE, Int.reduceLT, Int.reduceEq, Int.reduceNeg, reduceCtorEq, ↓reduceIte, a2]
  have oB : ∀ i, i < σ.next → ((⟨σA.obj, n⟩ : St).put (σ.next + 1 + 1) (some (.cells [.int .i64 0]))).obj i = σ.obj i := fun i hi => by
    rw [put_obj, if_neg (by omega)]; exact oA i hi
  have nB : ((⟨σA.obj, n⟩ : St).put (σ.next + 1 + 1) (some (.cells [.int .i64 0]))).next = n := rfl
  have b0 : ((⟨σA.obj, n⟩ : St).put (σ.next + 1 + 1) (some (.cells [.int .i64 0]))).obj σ.next = some (.cells [.int .i64 0]) := by rw [put_obj, if_neg (by omega)]; exact a0
  have b1 : ((⟨σA.obj, n⟩ : St).put (σ.next + 1 + 1) (some (.cells [.int .i64 0]))).obj (σ.next + 1) = some (.cells [.nils]) := by rw [put_obj, if_neg (by omega)]; exact a1
  have b2 : ((⟨σA.obj, n⟩ : St).put (σ.next + 1 + 1) (some (.cells [.int .i64 0]))).obj (σ.next + 1 + 1) = some (.cells [.int .i64 0]) := by rw [put_obj, if_pos rfl]
  generalize (⟨σA.obj, n⟩ : St).put (σ.next + 1 + 1) (some (.cells [.int .i64 0])) = σB at oB nB b0 b1 b2 ⊢
  have hB : σ.next + 3 ≤ σB.next := by omega
  (repeat' (first | simp -dsimp (maxSteps := 2000000) (disch := first | omega | (simp; done) | (simp; omega)) only [SA, SB, SC, SD, SE, SF, SG, Nat.reduceLT, Nat.reduceAdd, Nat.reduceSub, Nat.reduceMul, Nat.reduceLeDiff, Nat.reduceEqDiff, Nat.reduceBEq, Int.reduceToNat, Int.reduceLE, Int.reduceLT, Int.reduceEq, Int.reduceNeg, reduceCtorEq, ↓reduceIte, h01, h02, h12, h10, h20, h21, b0, b1, b2, hz] | refine Cut.go ?_ | refine Both.intro ?_ ?_ | (refine Br.intro ?_ ?_ <;> intro hb <;> have hb' := hb <;> (try simp only [SH] at hb') <;> (try simp -dsimp (maxSteps := 2000000) (disch := first | omega | (simp; done) | (simp; omega)) only [SA, SB, SC, SD, SE, SF, SG, Nat.reduceLT, Nat.reduceAdd, Nat.reduceSub, Nat.reduceMul, Nat.reduceLeDiff, Nat.reduceEqDiff, Nat.reduceBEq, Int.reduceToNat, Int.reduceLE, Int.reduceLT, Int.reduceEq, Int.reduceNeg, reduceCtorEq, ↓reduceIte, hb, h01, h02, h12, h10, h20, h21, b0, b1, b2, hz]))))
  refine clone_call hx (by omega) fun y s1 hf1 hc => ?_
  have hy1 := hc.sc
  have hdy : dcells y = some [y] := by
    have := hc.vs
    cases this <;> rfl
  have hda : dcells (.agg [y]) = some [y] := by
    have := hc.vs
    cases this <;> rfl
  simp -dsimp (maxSteps := 2000000) (disch := first | omega | (simp; done) | (simp; omega)) only [SA, SB, SC, SD, SE, SF, SG, Nat.reduceLT, Nat.reduceAdd, Nat.reduceSub, Nat.reduceMul, Nat.reduceLeDiff, Nat.reduceEqDiff, Nat.reduceBEq, Int.reduceToNat, Int.reduceLE, Int.reduceLT, Int.reduceEq, Int.reduceNeg, reduceCtorEq, ↓reduceIte, hdy, hda]
  have hM1 : MSt σB s1.next l (s1.alloc (.cells [y])) := by
    have lt : ∀ {i o}, s1.obj i = some o → i < s1.next := fun {i o} hi => Nat.lt_of_not_le fun hle => by rw [hf1 _ hle] at hi; cases hi
    refine ⟨hc.nxt, fun i hi => ?_, ?_, y, by rw [alloc_obj, if_pos rfl], hy1, ?_, hc.ge⟩
    · have := hc.nxt
      rw [alloc_obj, if_neg (by omega), hc.low i hi]
    · have := hc.nxt; rw [alloc_next]; omega
    · have := hc.vs
      cases this with
      | vnil => exact .vnil
      | vnone => exact .vnone
      | vsome j t l hl hj ht =>
        have g1 := lt hj
        have g2 := lt ht
        exact .vsome j t l hl (by rw [alloc_obj, if_neg (by omega), hj]) (by rw [alloc_obj, if_neg (by omega), ht])
  have hyM : (s1.alloc (.cells [y])).obj s1.next = some (.cells [y]) := by rw [alloc_obj, if_pos rfl]
  have hf2 : (s1.alloc (.cells [y])).Fresh := fun i hi => by rw [alloc_next] at hi; rw [alloc_obj, if_neg (by omega), hf1 _ (by omega)]
  have hn2 : (s1.alloc (.cells [y])).next = s1.next + 1 := rfl
  have hc1 := hc.nxt
  generalize s1.alloc (.cells [y]) = s2 at hM1 hyM hf2 hn2 ⊢
  generalize hjm : s1.next = jm at hM1 hyM hn2 hc1 ⊢
  have c0 : s2.obj σ.next = some (.cells [.int .i64 0]) := by rw [hM1.low _ (by omega), b0]
  have c1 : s2.obj (σ.next + 1) = some (.cells [.nils]) := by rw [hM1.low _ (by omega), b1]
  have c2 : s2.obj (σ.next + 1 + 1) = some (.cells [.int .i64 0]) := by rw [hM1.low _ (by omega), b2]
  have hne0 : (jm = σ.next) = False := eq_false (by omega)
  have hne1 : (jm = σ.next + 1) = False := eq_false (by omega)
  have hne2 : (jm = σ.next + 1 + 1) = False := eq_false (by omega)
  by_cases hts0 : ts = []
  · subst hts0
    have hz2 : ((0 : Int) == 0) = true := rfl
    have hsp := hspec (.ok (0, l)) (by rw [hts]; rfl)
    (repeat' (first | simp -dsimp (maxSteps := 2000000) (disch := first | omega | (simp; done) | (simp; omega)) only [SA, SB, SC, SD, SE, SF, SG, Nat.reduceLT, Nat.reduceAdd, Nat.reduceSub, Nat.reduceMul, Nat.reduceLeDiff, Nat.reduceEqDiff, Nat.reduceBEq, Int.reduceToNat, Int.reduceLE, Int.reduceLT, Int.reduceEq, Int.reduceNeg, reduceCtorEq, ↓reduceIte, toksD, hz2, h01, h02, h12, h10, h20, h21, c0, c1, c2, hne0, hne1, hne2, hyM, hy1, hdy, ist_leave_defer] | refine Cut.go ?_ | refine Both.intro ?_ ?_ | refine rec_none ?_ | (refine Br.intro ?_ ?_ <;> intro hb <;> have hb' := hb <;> (try simp only [SH] at hb') <;> (try simp -dsimp (maxSteps := 2000000) (disch := first | omega | (simp; done) | (simp; omega)) only [SA, SB, SC, SD, SE, SF, SG, Nat.reduceLT, Nat.reduceAdd, Nat.reduceSub, Nat.reduceMul, Nat.reduceLeDiff, Nat.reduceEqDiff, Nat.reduceBEq, Int.reduceToNat, Int.reduceLE, Int.reduceLT, Int.reduceEq, Int.reduceNeg, reduceCtorEq, ↓reduceIte, hb, toksD, hz2, h01, h02, h12, h10, h20, h21, c0, c1, c2, hne0, hne1, hne2, hyM, hy1, hdy, ist_leave_defer]))))
    exact fin_mst hf hM1 hB oB hyM hsp
  · have htd : toksD ts t = .slc 3 (ts.map Tok.d) (.opened t) := by
      cases ts with
      | nil => exact absurd rfl hts0
      | cons a r => rfl
    have hz2 : ((ts.length : Int) == 0) = false := by
      cases ts with
      | nil => exact absurd rfl hts0
      | cons a r => simp; omega
    have htok : ∀ t ∈ ts, TOk t := tokens_good _ _ _ _ (by simp) hts
    have hfit : Fit ts 0 := ⟨fun a ha => (htok a ha).1, by omega, by omega⟩
    have hvok : VOk l := ⟨by omega, hv⟩
    simp -dsimp (maxSteps := 2000000) (disch := first | omega | (simp; done) | (simp; omega)) only [SA, SB, SC, SD, SE, SF, SG, Nat.reduceLT, Nat.reduceAdd, Nat.reduceSub, Nat.reduceMul, Nat.reduceLeDiff, Nat.reduceEqDiff, Nat.reduceBEq, Int.reduceToNat, Int.reduceLE, Int.reduceLT, Int.reduceEq, Int.reduceNeg, reduceCtorEq, ↓reduceIte, htd, hz2, toksD]
    (repeat' (first | simp -dsimp (maxSteps := 2000000) (disch := first | omega | (simp; done) | (simp; omega)) only [SA, SB, SC, SD, SE, SF, SG, Nat.reduceLT, Nat.reduceAdd, Nat.reduceSub, Nat.reduceMul, Nat.reduceLeDiff, Nat.reduceEqDiff, Nat.reduceBEq, Int.reduceToNat, Int.reduceLE, Int.reduceLT, Int.reduceEq, Int.reduceNeg, reduceCtorEq, ↓reduceIte, htd, hz2] | refine Cut.go ?_ | refine Both.intro ?_ ?_ | (refine Br.intro ?_ ?_ <;> intro hb <;> have hb' := hb <;> (try simp only [SH] at hb') <;> (try simp -dsimp (maxSteps := 2000000) (disch := first | omega | (simp; done) | (simp; omega)) only [SA, SB, SC, SD, SE, SF, SG, Nat.reduceLT, Nat.reduceAdd, Nat.reduceSub, Nat.reduceMul, Nat.reduceLeDiff, Nat.reduceEqDiff, Nat.reduceBEq, Int.reduceToNat, Int.reduceLE, Int.reduceLT, Int.reduceEq, Int.reduceNeg, reduceCtorEq, ↓reduceIte, hb, htd, hz2]))))
    have hM2 : ∀ (l' : List Tok) (d : Int) (n' : Nat), jm + 2 ≤ n' → MSt σB jm l (rdSt (s2.alloc (.cells [.slc 3 (ts.map Tok.d) (.opened t), .int .i64 0])) (jm + 1) l' t d n') := fun l' d n' hn' =>
      hM1.more hf2 (by rw [rdSt_next]; omega) fun i hi => by rw [rdSt_obj, if_neg (by omega), alloc_obj, if_neg (by omega)]
    have d0 : ∀ (l' : List Tok) (d : Int) (n' : Nat), (rdSt (s2.alloc (.cells [.slc 3 (ts.map Tok.d) (.opened t), .int .i64 0])) (jm + 1) l' t d n').obj σ.next = some (.cells [.int .i64 0]) := fun l' d n' => by
      rw [rdSt_obj, if_neg (by omega), alloc_obj, if_neg (by omega), c0]
    have d1 : ∀ (l' : List Tok) (d : Int) (n' : Nat), (rdSt (s2.alloc (.cells [.slc 3 (ts.map Tok.d) (.opened t), .int .i64 0])) (jm + 1) l' t d n').obj (σ.next + 1) = some (.cells [.nils]) := fun l' d n' => by
      rw [rdSt_obj, if_neg (by omega), alloc_obj, if_neg (by omega), c1]
    have d2 : ∀ (l' : List Tok) (d : Int) (n' : Nat), (rdSt (s2.alloc (.cells [.slc 3 (ts.map Tok.d) (.opened t), .int .i64 0])) (jm + 1) l' t d n').obj (σ.next + 1 + 1) = some (.cells [.int .i64 0]) := fun l' d n' => by
      rw [rdSt_obj, if_neg (by omega), alloc_obj, if_neg (by omega), c2]
    have hr0 : (s2.alloc (.cells [.slc 3 (ts.map Tok.d) (.opened t), .int .i64 0])).obj (jm + 1) = some (rdr ts t 0) := by
      rw [alloc_obj, if_pos (by omega)]; rfl
    have hnx : (s2.alloc (.cells [.slc 3 (ts.map Tok.d) (.opened t), .int .i64 0])).next = jm + 2 := by rw [alloc_next]; omega
    rw [hn2]
    generalize s2.alloc (.cells [.slc 3 (ts.map Tok.d) (.opened t), .int .i64 0]) = s3 at hM2 d0 d1 d2 hr0 hnx ⊢
    have fin : ∀ {R : Except Int (Int × List V)}, (match exprF (4 * ts.length + 4) ts 0 with
        | .error e => .error e
        | .ok x => if x.rest = [] then evalF x.nd l else .error 61) = R → arithF s l = R := fun h => hspec _ (by rw [hts]; simp only []; rw [if_neg hts0]; exact h)
    -- what an error in the frame's middle comes to
    have faulty : ∀ (s4 : St) (e : Int), arithF s l = .error e → (∀ i, i < σB.next → s4.obj i = σB.obj i) → σB.next ≤ s4.next → ∀ (tm : List D), tm.getD 4 .junk = .ref σ.next 0 → tm.getD 5 .junk = .ref (σ.next + 1) 0 → tm.getD 6 .junk = .ref (σ.next + 1 + 1) 0 →
        goodFn Try.prog 18 = true ∧ OkD Try.prog 18 [.ref σ.next 0, .ref (σ.next + 1) 0, .ref (σ.next + 1 + 1) 0] (.panicking (faultD e)) s4 (ILeaves Try.prog [.cell 4 none, .cell 5 none, .cell 6 none] tm (Fin2 σ (arithF s l)) []) := by
      intro s4 e he hlow hnxt tm t4 t5 t6
      refine rec_fault (by rw [hlow _ (by omega), b0]) (by rw [hlow _ (by omega), b1]) (by rw [hlow _ (by omega), b2]) (by omega) (by omega) (by omega) (by omega) (by omega) (by omega) fun s5 k0 k1 k2 k3 k4 => ?_
      simp -dsimp (maxSteps := 2000000) (disch := first | omega | (simp; done) | (simp; omega)) only [SA, SB, SC, SD, SE, SF, SG, Nat.reduceLT, Nat.reduceAdd, Nat.reduceSub, Nat.reduceMul, Nat.reduceLeDiff, Nat.reduceEqDiff, Nat.reduceBEq, Int.reduceToNat, Int.reduceLE, Int.reduceLT, Int.reduceEq, Int.reduceNeg, reduceCtorEq, ↓reduceIte, t4, t5, t6, k0, k1, k2]
      exact fin_err' hf (fun i hi => by rw [k3 i (by omega) (by omega) (by omega) (by omega), hlow i (by omega), oB i hi]) (by omega) he
    refine ((parse_all (4 * ts.length + 4)).1 ts 0 (Nat.le_refl _) hfit).call gd20 hr0 fun n3 hn3 => ⟨fun px hpx => ?_, fun e he l' d' => ?_⟩
    rotate_left
    · have hMe := hM2 l' d' n3 (by omega)
      simp -dsimp (maxSteps := 2000000) (disch := first | omega | (simp; done) | (simp; omega)) only [SA, SB, SC, SD, SE, SF, SG, Nat.reduceLT, Nat.reduceAdd, Nat.reduceSub, Nat.reduceMul, Nat.reduceLeDiff, Nat.reduceEqDiff, Nat.reduceBEq, Int.reduceToNat, Int.reduceLE, Int.reduceLT, Int.reduceEq, Int.reduceNeg, reduceCtorEq, ↓reduceIte, ist_leave_defer]
      exact faulty _ e (fin (by rw [he])) hMe.low hMe.nxt _ rfl rfl rfl
    have hMx := hM2 px.rest 0 n3 (by omega)
    have hr3 : (rdSt s3 (jm + 1) px.rest t 0 n3).obj (jm + 1) = some (.cells [.slc 3 (px.rest.map Tok.d) (.opened t), .int .i64 0]) := by rw [rdSt_at]; rfl
    have e0 := d0 px.rest 0 n3
    have e1 := d1 px.rest 0 n3
    have e2 := d2 px.rest 0 n3
    have e3 : (rdSt s3 (jm + 1) px.rest t 0 n3).next = n3 := rfl
    generalize rdSt s3 (jm + 1) px.rest t 0 n3 = s4 at hMx hr3 e0 e1 e2 e3 ⊢
    (repeat' (first | simp -dsimp (maxSteps := 2000000) (disch := first | omega | (simp; done) | (simp; omega)) only [SA, SB, SC, SD, SE, SF, SG, Nat.reduceLT, Nat.reduceAdd, Nat.reduceSub, Nat.reduceMul, Nat.reduceLeDiff, Nat.reduceEqDiff, Nat.reduceBEq, Int.reduceToNat, Int.reduceLE, Int.reduceLT, Int.reduceEq, Int.reduceNeg, reduceCtorEq, ↓reduceIte, hr3, e0, e1, e2, h01, h02, h12, h10, h20, h21, ist_leave_defer] | refine Cut.go ?_ | refine Both.intro ?_ ?_ | refine rec_none ?_ | (refine Br.intro ?_ ?_ <;> intro hb <;> have hb' := hb <;> (try simp only [SH] at hb') <;> (try simp -dsimp (maxSteps := 2000000) (disch := first | omega | (simp; done) | (simp; omega)) only [SA, SB, SC, SD, SE, SF, SG, Nat.reduceLT, Nat.reduceAdd, Nat.reduceSub, Nat.reduceMul, Nat.reduceLeDiff, Nat.reduceEqDiff, Nat.reduceBEq, Int.reduceToNat, Int.reduceLE, Int.reduceLT, Int.reduceEq, Int.reduceNeg, reduceCtorEq, ↓reduceIte, hb, hr3, e0, e1, e2, h01, h02, h12, h10, h20, h21, ist_leave_defer]))))
    · have hrest : ¬ px.rest = [] := by
        intro h; rw [h] at hb'; simp at hb'
      refine fin_err' hf (s := put3 s4 σ.next _ _ _) (fun i hi => by rw [put3_obj _ _ _ _ _ _ (by omega), hMx.low i (by omega), oB i hi]) ?_ (fin (by rw [hpx]; simp only []; rw [if_neg hrest]))
      show σ.next ≤ s4.next
      omega
    · have hrest : px.rest = [] := by
        cases hpr : px.rest with
        | nil => rfl
        | cons a r => rw [hpr] at hb'; simp at hb'
      have hgood : NdOk px.nd := (parse_good _).1 _ _ _ hpx htok
      have hfin : arithF s l = evalF px.nd l := fin (by rw [hpx]; simp only []; rw [if_pos hrest])
      refine (ev_all px.nd hgood).call hMx hvok fun s5 => ⟨fun r hr hM5 => ?_, fun e l' hr hM5 => ?_⟩
      · obtain ⟨y5, hy5, hs5, hv5, hg5⟩ := hM5.x
        have f0 : s5.obj σ.next = some (.cells [.int .i64 0]) := by rw [hM5.low _ (by omega), b0]
        have f1 : s5.obj (σ.next + 1) = some (.cells [.nils]) := by rw [hM5.low _ (by omega), b1]
        have f2 : s5.obj (σ.next + 1 + 1) = some (.cells [.int .i64 0]) := by rw [hM5.low _ (by omega), b2]
        have hdy5 := hv5.dc
        (repeat' (first | simp -dsimp (maxSteps := 2000000) (disch := first | omega | (simp; done) | (simp; omega)) only [SA, SB, SC, SD, SE, SF, SG, Nat.reduceLT, Nat.reduceAdd, Nat.reduceSub, Nat.reduceMul, Nat.reduceLeDiff, Nat.reduceEqDiff, Nat.reduceBEq, Int.reduceToNat, Int.reduceLE, Int.reduceLT, Int.reduceEq, Int.reduceNeg, reduceCtorEq, ↓reduceIte, hy5, hs5, hdy5, f0, f1, f2, h01, h02, h12, h10, h20, h21, hne0, hne1, hne2, ist_leave_defer] | refine Cut.go ?_ | refine Both.intro ?_ ?_ | refine rec_none ?_ | (refine Br.intro ?_ ?_ <;> intro hb <;> have hb' := hb <;> (try simp only [SH] at hb') <;> (try simp -dsimp (maxSteps := 2000000) (disch := first | omega | (simp; done) | (simp; omega)) only [SA, SB, SC, SD, SE, SF, SG, Nat.reduceLT, Nat.reduceAdd, Nat.reduceSub, Nat.reduceMul, Nat.reduceLeDiff, Nat.reduceEqDiff, Nat.reduceBEq, Int.reduceToNat, Int.reduceLE, Int.reduceLT, Int.reduceEq, Int.reduceNeg, reduceCtorEq, ↓reduceIte, hb, hy5, hs5, hdy5, f0, f1, f2, h01, h02, h12, h10, h20, h21, hne0, hne1, hne2, ist_leave_defer]))))
        exact fin_mst hf hM5 hB oB hy5 (by rw [hfin, hr])
      · simp -dsimp (maxSteps := 2000000) (disch := first | omega | (simp; done) | (simp; omega)) only [SA, SB, SC, SD, SE, SF, SG, Nat.reduceLT, Nat.reduceAdd, Nat.reduceSub, Nat.reduceMul, Nat.reduceLeDiff, Nat.reduceEqDiff, Nat.reduceBEq, Int.reduceToNat, Int.reduceLE, Int.reduceLT, Int.reduceEq, Int.reduceNeg, reduceCtorEq, ↓reduceIte, ist_leave_defer]
        exact faulty _ e (by rw [hfin, hr]) hM5.low hM5.nxt _ rfl rfl rfl
theorem eval_call {s : List UInt8} {x : D} {l : List V} {σ : St} {K : Out → St → Prop} (hx : Vd x l) (hv : ∀ v ∈ l, v.value.length ≤ 9223372036854775807)
    (hk : ∀ m, σ.next ≤ m → (∀ r, arithF s l = .ok r → ∀ y, Vd y r.2 → K (.ret (.tuple [.int .i64 r.1, y, .int .i64 0])) ⟨σ.obj, m⟩) ∧ (∀ e, arithF s l = .error e → K (.ret (.tuple [.int .i64 0, .nils, .int .i64 e])) ⟨σ.obj, m⟩)) :
    goodFn Try.prog 11 = true ∧ Ok Try.prog 11 [.str s, x] σ K := by
  refine ⟨gd11, (eval_ok s hx hv).mono fun o s' ⟨m, h1, h2, h3⟩ => ?_⟩
  subst h2
  have hk := hk m h1
  cases hr : arithF s l with
  | ok r => rw [hr] at h3; obtain ⟨y, h4, rfl⟩ := h3; exact hk.1 r hr y h4
  | error e => rw [hr] at h3; subst h3; exact hk.2 e hr
end Go.Proofs.Ytkjgadanaknleaa
