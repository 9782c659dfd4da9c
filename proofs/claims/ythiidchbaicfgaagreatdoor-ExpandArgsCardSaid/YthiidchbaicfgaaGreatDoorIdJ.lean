/-
  THE IDEAL LAYER, PART I: append, literals of slices.
-/
import Derived.Test.YthiidchbaicfgaaGreatDoorIdH
import Derived.Laws.BytesString
namespace Go.Id
open Go.RowKit
set_option linter.unusedVariables false
set_option linter.unusedSimpArgs false

section
variable {P : Program} {μ : Mu} {σ : St} {w : World}

/-- Elements, and the cells that they fill. -/
def CRe (μ : Mu) (sz : Nat) : List D → List Value → Prop
  | [], vs => vs = []
  | e :: es, vs => ∃ us ws, vs = us ++ ws ∧ us.length = sz ∧ us.all Value.oneCell' = true ∧ CR μ e us ∧ CRe μ sz es ws

theorem CRe.mono {ν : Mu} (h : μ.le ν) {sz : Nat} : ∀ {es : List D} {vs : List Value}, CRe μ sz es vs → CRe ν sz es vs
  | [], _, x => x
  | e :: es, vs, x => by
    obtain ⟨us, ws, h1, h2, h3, h4, h5⟩ := x
    exact ⟨us, ws, h1, h2, h3, CR.mono h _ _ h4, h5.mono h⟩

theorem CRe.length {sz : Nat} : ∀ {es : List D} {vs : List Value}, CRe μ sz es vs → vs.length = es.length * sz
  | [], vs, h => by simp only [CRe] at h; simp [h]
  | e :: es, vs, h => by
    obtain ⟨us, ws, rfl, h2, h3, h4, h5⟩ := h
    rw [List.length_append, h2, h5.length, List.length_cons, Nat.add_mul]; omega

theorem CRe.oneCell {sz : Nat} : ∀ {es : List D} {vs : List Value}, CRe μ sz es vs → vs.all Value.oneCell' = true
  | [], vs, h => by simp only [CRe] at h; simp [h]
  | e :: es, vs, h => by
    obtain ⟨us, ws, rfl, h2, h3, h4, h5⟩ := h
    rw [List.all_append, h3, h5.oneCell]; rfl

theorem CRe.append {sz : Nat} : ∀ {es fs : List D} {vs ws : List Value}, CRe μ sz es vs → CRe μ sz fs ws → CRe μ sz (es ++ fs) (vs ++ ws)
  | [], fs, vs, ws, h, h' => by simp only [CRe] at h; subst h; simpa using h'
  | e :: es, fs, vs, ws, h, h' => by
    obtain ⟨us, xs, rfl, h2, h3, h4, h5⟩ := h
    exact ⟨us, xs ++ ws, by simp, h2, h3, h4, h5.append h'⟩

theorem ImmAt.append {b o : Nat} {vs ws : List Value} (h : ImmAt μ b o vs) (h' : ImmAt μ b (o + vs.length) ws) : ImmAt μ b o (vs ++ ws) := by
  intro i v e
  rw [List.getElem?_append] at e
  split at e
  · exact h i v e
  · rename_i hi
    have := h' _ v e
    rwa [show o + vs.length + (i - vs.length) = o + i by omega] at this
theorem ImmAt.left {b o : Nat} {vs ws : List Value} (h : ImmAt μ b o (vs ++ ws)) : ImmAt μ b o vs := by
  intro i v e
  have hlt := (List.getElem?_eq_some_iff.1 e).1
  exact h i v (by rw [List.getElem?_append_left hlt]; exact e)
theorem ImmAt.right {b o : Nat} {vs ws : List Value} (h : ImmAt μ b o (vs ++ ws)) : ImmAt μ b (o + vs.length) ws := by
  intro i v e
  have := h (vs.length + i) v (by rw [List.getElem?_append_right (by omega)]; simpa using e)
  rwa [← Nat.add_assoc] at this

theorem CRes.of_e {sz : Nat} : ∀ {es : List D} {vs : List Value} {b o : Nat}, CRe μ sz es vs → ImmAt μ b o vs → CRes μ sz es b o
  | [], _, _, _, _, _ => by simp only [CRes]
  | e :: es, vs, b, o, h, hi => by
    obtain ⟨us, ws, rfl, h2, h3, h4, h5⟩ := h
    simp only [CRes]
    refine ⟨⟨us, h2, h3, hi.left, h4⟩, CRes.of_e h5 ?_⟩
    rw [← h2]
    exact hi.right

theorem CRes.to_e {sz : Nat} : ∀ {es : List D} {b o : Nat}, CRes μ sz es b o → ∃ vs, CRe μ sz es vs ∧ ImmAt μ b o vs
  | [], b, o, _ => ⟨[], rfl, by intro i v e; simp at e⟩
  | e :: es, b, o, h => by
    simp only [CRes] at h
    obtain ⟨⟨us, h2, h3, hi, h4⟩, h5⟩ := h
    obtain ⟨ws, g1, g2⟩ := h5.to_e
    exact ⟨us ++ ws, ⟨us, ws, rfl, h2, h3, h4, g1⟩, hi.append (by rw [h2]; exact g2)⟩

/-- A literal's parts, one behind the other. -/
theorem CRe.of_parts {e : List D} {a : Act} (he : ER μ e a) (sz : Nat) : ∀ (xs : List Operand) (os : List Opd), xs.mapM ropd = some os → allOf sz (os.map (·.ev e)) = true →
    CRe μ sz (os.map (·.ev e)) ((xs.map fun x => vcells (a.eval x)).flatten) ∧ ∀ x ∈ xs, (vcells (a.eval x)).length = sz
  | [], os, h, _ => by simp at h; subst h; simp [CRe]
  | x :: xs, os, h, hall => by
    simp only [List.mapM_cons, Option.bind_eq_bind, Option.bind_eq_some_iff, Option.pure_def, Option.some.injEq] at h
    obtain ⟨o, h1, os', h2, rfl⟩ := h
    simp only [List.map_cons, allOf, Bool.and_eq_true] at hall
    obtain ⟨g1, g2⟩ := hall
    split at g1
    · rename_i cs hc
      obtain ⟨k1, k2, k3, k4⟩ := dcells_sound (ropd_sound he h1) hc
      obtain ⟨r1, r2⟩ := CRe.of_parts he sz xs os' h2 g2
      have hl : (vcells (a.eval x)).length = sz := by rw [k3]; simpa using g1
      refine ⟨⟨_, _, by simp, hl, k2, k4, r1⟩, fun y hy => ?_⟩
      rcases List.mem_cons.1 hy with rfl | hy
      · exact hl
      · exact r2 y hy
    · cases g1

theorem fill_row (sz : Nat) : ∀ (vs : List Value) (k : Nat) (arr : Array Value), (∀ v ∈ vs, (vcells v).length = sz) → (k + vs.length) * sz = arr.size →
    Instr.fill (fun i => some (i * sz, sz)) arr ((vs.zipIdx k).map fun p => (p.2, p.1)) = some ((arr.toList.take (k * sz) ++ (vs.map vcells).flatten).toArray)
  | [], k, arr, _, h => by
    simp only [List.zipIdx_nil, List.map_nil, Instr.fill, List.length_nil, Nat.add_zero] at h ⊢
    congr 1
    apply Array.ext'
    rw [h]
    simp [List.take_of_length_le]
  | v :: vs, k, arr, hv, h => by
    have hl := hv v (by simp)
    simp only [List.length_cons] at h
    have hsz : v.cells.size = sz := by rw [← Array.length_toList, vcells_eq, hl]
    have hfit : k * sz + sz ≤ arr.size := by rw [← h, ← Nat.succ_mul]; exact Nat.mul_le_mul_right _ (by omega)
    obtain ⟨q1, q2⟩ := setInRow (k * sz) v.cells.toList 0 arr (by rw [vcells_eq, hl]; omega)
    simp only [Nat.add_zero, vcells_eq, hl] at q1 q2
    simp only [List.zipIdx_cons, List.map_cons, Instr.fill]
    rw [if_neg (by rw [hsz]; simp; omega)]
    have e1 : (v.cells.zipIdx.foldl (fun cs x => cs.setIfInBounds (k * sz + x.2) x.1) arr) = ((vcells v).zipIdx.foldl (fun cs x => cs.setIfInBounds (k * sz + x.2) x.1) arr) := by
      rw [← Array.foldl_toList, Array.toList_zipIdx, vcells_eq]
    rw [show (fun (cs : Array Value) (x : Value × Nat) => match x with | (c, j) => cs.setIfInBounds (k * sz + j) c) = (fun cs x => cs.setIfInBounds (k * sz + x.2) x.1) from rfl, e1]
    have q1' : ((vcells v).zipIdx.foldl (fun cs x => cs.setIfInBounds (k * sz + x.2) x.1) arr).size = arr.size := q1
    have q2' : ∀ n, ((vcells v).zipIdx.foldl (fun cs x => cs.setIfInBounds (k * sz + x.2) x.1) arr)[n]? = if k * sz ≤ n ∧ n < k * sz + sz then (vcells v)[n - k * sz]? else arr[n]? := q2
    generalize (vcells v).zipIdx.foldl (fun cs x => cs.setIfInBounds (k * sz + x.2) x.1) arr = arr' at q1' q2'
    rw [fill_row sz vs (k + 1) arr' (fun y hy => hv y (by simp [hy])) (by rw [q1', ← h]; congr 1; omega)]
    congr 2
    rw [List.flatten_cons, ← List.append_assoc]
    congr 1
    apply List.ext_getElem?
    intro n
    rw [Nat.succ_mul, List.getElem?_take, List.getElem?_append, List.length_take, Array.length_toList, List.getElem?_take, Array.getElem?_toList, q2', Array.getElem?_toList]
    have : min (k * sz) arr.size = k * sz := by omega
    rw [this]
    by_cases c1 : n < k * sz
    · rw [if_pos (by omega), if_neg (by omega), if_pos c1, if_pos c1]; simp
    · rw [if_neg c1]
      by_cases c2 : n < k * sz + sz
      · rw [if_pos c2, if_pos (by omega)]; simp
      · rw [if_neg c2, List.getElem?_eq_none (by omega)]

/-- The literal's parts come one behind the other. -/
def inOrder : Nat → List (Nat × Operand) → Bool
  | _, [] => true
  | k, (i, _) :: r => i == k && inOrder (k + 1) r

theorem inOrder_eq : ∀ (ps : List (Nat × Operand)) (k : Nat) (f : Operand → Value), inOrder k ps = true → ps.map (fun p => (p.1, f p.2)) = ((ps.map fun p => f p.2).zipIdx k).map fun p => (p.2, p.1)
  | [], _, _, _ => rfl
  | (i, x) :: r, k, f, h => by
    simp only [inOrder, Bool.and_eq_true, beq_iff_eq] at h
    simp [h.1, inOrder_eq r (k + 1) f h.2]

theorem mapM_len : ∀ (xs : List Operand) (os : List Opd), xs.mapM ropd = some os → os.length = xs.length
  | [], os, h => by simp at h; subst h; rfl
  | x :: xs, os, h => by
    simp only [List.mapM_cons, Option.bind_eq_bind, Option.bind_eq_some_iff, Option.pure_def, Option.some.injEq] at h
    obtain ⟨o, h1, os', h2, rfl⟩ := h
    simp [mapM_len xs os' h2]

theorem buildSlice_sound {e : List D} {a : Act} (he : ER μ e a) (hs : Sim μ σ w) {t el : TypeId} (ht : P.underlying t = some (.slice el)) {ie : TypeInfo} (hie : P.info? el = some ie) {z : Value} (hz : ie.zero = some z)
    {len : Nat} {parts : Array (Nat × Operand)} (hlen : parts.size = len) (hord : inOrder 0 parts.toList = true) (hbig : len * ie.size ≤ 16777216) {os : List Opd} (hos : (parts.toList.map (·.2)).mapM ropd = some os)
    (hall : allOf ie.size (os.map (·.ev e)) = true) :
    Does P μ (Instr.buildSlice t len (parts.map fun (i, x) => (i, a.eval x))) w (.slc ie.size (os.map (·.ev e)) .exact) σ := by
  obtain ⟨h1, h2⟩ := CRe.of_parts he ie.size _ os hos hall
  have hfill := fill_row ie.size (parts.toList.map fun p => a.eval p.2) 0 ((Array.range (len * ie.size)).map (fun i => (if len * ie.size = 0 then #[] else z.cells)[i % (if len * ie.size = 0 then #[] else z.cells).size]!))
    (by
      intro v hv
      simp only [List.mem_map] at hv
      obtain ⟨p, hp, rfl⟩ := hv
      exact h2 p.2 (List.mem_map.2 ⟨p, hp, rfl⟩))
    (by simp [hlen])
  simp only [Nat.zero_mul, List.take_zero, List.nil_append] at hfill
  have hflat : (List.map vcells (parts.toList.map fun p => a.eval p.2)).flatten = ((parts.toList.map (·.2)).map fun x => vcells (a.eval x)).flatten := by simp only [List.map_map]; rfl
  rw [hflat] at hfill
  have hlenes : (os.map (·.ev e)).length = len := by
    rw [List.length_map, mapM_len _ _ hos, List.length_map, Array.length_toList, hlen]
  obtain ⟨μ', k1, k2, k3⟩ := hs.pushImm ((parts.toList.map (·.2)).map fun x => vcells (a.eval x)).flatten.toArray el (0, 0)
  refine ⟨μ', _, _, k1, k2, VR.mk_slc (n := len) (cap := len) hlenes.symm (CRes.of_e (h1.mono k1) (by simpa using k3)) (by simp only [RoomR]; exact hlenes.symm), ?_⟩
  have hpr : (parts.map fun (p : Nat × Operand) => (p.1, a.eval p.2)).toList = ((parts.toList.map fun p => a.eval p.2).zipIdx 0).map fun p => (p.2, p.1) := by
    rw [Array.toList_map]
    exact inOrder_eq parts.toList 0 a.eval hord
  simp only [Instr.buildSlice, Sem.run_bind, run_underlying ht, Result.andThen_ok, run_sizeOf' hie, hpr]
  rw [if_neg (by omega)]
  have hzr : (zeroValue el).run P w = .ok z w := by simp [zeroValue, typeInfo, hie, hz]
  by_cases h0 : len * ie.size = 0
  · simp only [h0, if_true] at hfill ⊢
    rw [pure_bind, hfill]
    simp [newRow]
  · simp only [h0, if_false] at hfill ⊢
    simp only [Sem.run_bind, hzr, Sem.run_pure, Result.andThen_ok]
    rw [hfill]
    simp [newRow]

/-! Append. -/
theorem append_grow (t tx ty e : TypeId) (i : TypeInfo) (z : Value) (dx : TypeDesc) (ht : P.underlying t = some (.slice e)) (hx : P.underlying tx = some dx) (hdx : ∀ k, dx ≠ .int k) (hi : P.info? e = some i) (hz : i.zero = some z)
    (base : Option Addr) (sLen sCap : Nat) (olds : List Value) (hold : (Builtin.firstCells i.size sLen (.slice base sLen sCap)).run P w.drew = .ok olds.toArray w.drew)
    (x : Value) (n : Nat) (news : List Value) (hlen : (Builtin.lenOf x).run P w = .ok n w) (hnew : (Builtin.firstCells i.size n x).run P w.drew = .ok news.toArray w.drew)
    (hg : sCap < sLen + n) (h63 : ((sLen + n : Nat) : Int) ≤ 9223372036854775807) (hfit : Builtin.nextslicecap (sLen + n) sCap * i.bytes ≤ 281474976710656) :
    (Builtin.append_ #[t, tx] ty #[.slice base sLen sCap, x]).run P w =
      .ok (.slice (some ⟨w.heap.size, 0, none⟩) (sLen + n) (grownCap w (sLen + n) sCap e))
        (w.drew.alloc (.cells (olds.toArray ++ news.toArray ++ Builtin.zeroCells z.cells (grownCap w (sLen + n) sCap e - (sLen + n))) e)) := by
  have hn : ¬ (sLen + n ≤ sCap) := by omega
  have h63' : ¬ (9223372036854775807 < ((sLen : Int) + (n : Int))) := by omega
  have h48' : ¬ (281474976710656 < Builtin.nextslicecap (sLen + n) sCap * i.bytes) := by omega
  have hd : (match dx with | .int _ => true | _ => false) = false := by cases dx <;> first | rfl | exact absurd rfl (hdx _)
  simp [Builtin.append_, run_underlying ht, run_underlying hx, hd, sizeOf, typeInfo, zeroValue, hi, hz, hlen, hn, h63', h48', Question.forced, hnew, hold, newRow, grownCap]
  congr 2
  apply Array.ext'
  simp [List.append_assoc]

theorem append_room (t tx ty e : TypeId) (i : TypeInfo) (dx : TypeDesc) (ht : P.underlying t = some (.slice e)) (hx : P.underlying tx = some dx) (hdx : ∀ k, dx ≠ .int k) (hi : P.info? e = some i)
    (b o sLen sCap : Nat) (x : Value) (n : Nat) (news : List Value) (hlen : (Builtin.lenOf x).run P w = .ok n w) (hnew : (Builtin.firstCells i.size n x).run P w = .ok news.toArray w)
    (hroom : sLen + n ≤ sCap) (hc : ∀ j, j < news.length → (w.cell? ⟨b, o + sLen * i.size + j, none⟩).isSome = true) (hf : ∀ j, j < news.length → w.frozen? ⟨b, o + sLen * i.size + j, none⟩ = false)
    (h1 : ∀ v ∈ news, v.oneCell' = true) :
    (Builtin.append_ #[t, tx] ty #[.slice (some ⟨b, o, none⟩) sLen sCap, x]).run P w = .ok (.slice (some ⟨b, o, none⟩) (sLen + n) sCap) (w.setCells b (o + sLen * i.size) news) := by
  have hd : (match dx with | .int _ => true | _ => false) = false := by cases dx <;> first | rfl | exact absurd rfl (hdx _)
  have hst := run_storeCells_cells (P := P) b (o + sLen * i.size) news 0 w (by simpa using hc) (by simpa using hf) h1
  simp only [Nat.add_zero] at hst
  simp [Builtin.append_, run_underlying ht, run_underlying hx, hd, sizeOf, typeInfo, hi, hlen, hroom, hnew, addr_add, hst]

theorem append_none (t tx ty e : TypeId) (i : TypeInfo) (dx : TypeDesc) (ht : P.underlying t = some (.slice e)) (hx : P.underlying tx = some dx) (hdx : ∀ k, dx ≠ .int k) (hi : P.info? e = some i)
    (base : Option Addr) (sLen sCap : Nat) (x : Value) (hlen : (Builtin.lenOf x).run P w = .ok 0 w) (hnew : (Builtin.firstCells i.size 0 x).run P w = .ok #[] w)
    (hroom : sLen ≤ sCap) :
    (Builtin.append_ #[t, tx] ty #[.slice base sLen sCap, x]).run P w = .ok (.slice base sLen sCap) w := by
  have hd : (match dx with | .int _ => true | _ => false) = false := by cases dx <;> first | rfl | exact absurd rfl (hdx _)
  cases base <;> simp [Builtin.append_, run_underlying ht, run_underlying hx, hd, sizeOf, typeInfo, hi, hlen, hroom, hnew, storeCells]

/-- What is appended, as cells. -/
theorem elems_sound {sz : Nat} {x : D} {v : Value} {xs : List D} (hv : VR μ x v) (h : elems sz x σ = some xs) (hs : Sim μ σ w) :
    ∃ news, CRe μ sz xs news ∧ (Builtin.lenOf v).run P w = .ok xs.length w ∧
      ∀ w' : World, w'.heap = w.heap → (Builtin.firstCells sz xs.length v).run P w' = .ok news.toArray w' := by
  cases x <;> simp only [elems] at h <;> (try (cases h; done))
  · rename_i s
    split at h
    · rename_i h1
      subst h1
      simp only [Option.some.injEq] at h; subst h
      obtain rfl := hv.str
      refine ⟨s.map fun b => .int .u8 b.toNat, ?_, by simp [Builtin.lenOf, ba_size], fun w' _ => ?_⟩
      · clear hv
        induction s with
        | nil => rfl
        | cons b s ih => exact ⟨[.int .u8 b.toNat], _, rfl, rfl, rfl, by simp [CR], ih⟩
      · simp only [Builtin.firstCells, List.length_map, ba_extract, Sem.run_pure]
        congr 1
        simp
    · cases h
  · simp only [Option.some.injEq] at h; subst h
    obtain rfl := hv.nils
    exact ⟨[], rfl, by simp [Builtin.lenOf], fun w' _ => by simp [Builtin.firstCells]⟩
  · rename_i s es r
    split at h
    · rename_i h1
      subst h1
      simp only [Option.some.injEq] at h; subst h
      obtain ⟨b, o, cap, rfl, hes, _⟩ := hv.slc
      obtain ⟨vs, g1, g2⟩ := hes.to_e
      refine ⟨vs, g1, by simp [Builtin.lenOf], fun w' hw' => ?_⟩
      refine run_firstCells_some w' s es.length _ _ _ vs g1.length (fun j v hj => ?_)
      rw [addr_add]
      have := hs.imm _ _ _ (g2 j v hj)
      simpa [World.cell?, hw'] using this
    · cases h

theorem iappend_sound (hs : Sim μ σ w) {t tx ty e : TypeId} {i : TypeInfo} {z : Value} {dx : TypeDesc} (ht : P.underlying t = some (.slice e)) (hx : P.underlying tx = some dx) (hdx : ∀ k, dx ≠ .int k)
    (hi : P.info? e = some i) (hz : i.zero = some z) (hzs : (vcells z).length = i.size) {s x d : D} {vs vx : Value} (hvs : VR μ s vs) (hvx : VR μ x vx) {σ' : St}
    (h : iappend i.size i.bytes s x σ = some (d, σ')) : Does P μ (Builtin.append_ #[t, tx] ty #[vs, vx]) w d σ' := by
  unfold iappend at h
  split at h
  · cases h
  rename_i xs hxs
  obtain ⟨news, n1, n2, n3⟩ := elems_sound (P := P) hvx hxs hs
  have hzsz : z.cells.size = i.size := by rw [← Array.length_toList, vcells_eq, hzs]
  split at h
  · -- nothing is appended
    rename_i h0
    rw [h0] at n2 n3
    obtain rfl : xs = [] := List.eq_nil_of_length_eq_zero h0
    have hn : news = [] := by simpa [CRe] using n1
    subst hn
    split at h <;> (try (cases h; done))
    · simp only [Option.some.injEq, Prod.mk.injEq] at h; obtain ⟨rfl, rfl⟩ := h
      obtain rfl := hvs.nils
      exact Does.of hs VR.mk_nils (append_none t tx ty e i dx ht hx hdx hi none 0 0 vx n2 (n3 w rfl) (Nat.le_refl _))
    · split at h
      · simp only [Option.some.injEq, Prod.mk.injEq] at h; obtain ⟨rfl, rfl⟩ := h
        have hvs' := hvs
        obtain ⟨b, o, cap, rfl, _, hr⟩ := hvs.slc
        exact Does.of hs hvs' (append_none t tx ty e i dx ht hx hdx hi _ _ _ vx n2 (n3 w rfl) hr.le)
      · cases h
  · rename_i h0
    -- a new row
    have grow : ∀ (base : Option Addr) (es : List D) (olds : List Value) (cap : Nat) (σ₁ : St), Sim μ σ₁ w → CRe μ i.size es olds →
        (∀ w' : World, w'.heap = w.heap → (Builtin.firstCells i.size es.length (.slice base es.length cap)).run P w' = .ok olds.toArray w') → cap < es.length + xs.length →
        (es.length + xs.length) * i.bytes ≤ 140737488355328 → es.length + xs.length ≤ maxLen →
        Does P μ (Builtin.append_ #[t, tx] ty #[.slice base es.length cap, vx]) w (.slc i.size (es ++ xs) (.opened σ₁.next)) (σ₁.alloc .tok) := by
      intro base es olds cap σ₁ hs₁ he hold hcap hby hmax
      have hgc := grownCap_ge w (es.length + xs.length) cap e
      obtain ⟨μ', k1, k2, k3, k4⟩ := (hs₁.drawn (w.drawn + 1)).pushRow (olds ++ news).toArray (Builtin.zeroCells z.cells (grownCap w (es.length + xs.length) cap e - (es.length + xs.length))) e
      have hall := (he.append n1).mono k1
      refine ⟨μ', _, _, k1, k2, VR.mk_slc (cap := grownCap w (es.length + xs.length) cap e) (n := es.length + xs.length) (by simp) (CRes.of_e hall (by simpa using k3)) ?_, ?_⟩
      · refine ⟨grownCap w (es.length + xs.length) cap e - (es.length + xs.length), by simp; omega, fun _ => ?_, grownCap_le_maxLen w _ _ _ hmax⟩
        rw [k4]
        simp only [size_zeroCells, hzsz, List.size_toArray, hall.length, Nat.zero_add]
      · rw [append_grow t tx ty e i z dx ht hx hdx hi hz base es.length cap olds (hold _ rfl) vx xs.length news n2 (n3 _ rfl) hcap
          (by simp only [maxLen] at hmax; omega) (growslice_fits hcap hby)]
        congr 1
        simp only [World.drew, World.alloc]
        congr 2
        simp
    split at h <;> (try (cases h; done))
    · split at h
      · rename_i hc
        simp only [Option.some.injEq, Prod.mk.injEq] at h; obtain ⟨rfl, rfl⟩ := h
        obtain rfl := hvs.nils
        have := grow none [] [] 0 σ hs rfl (fun w' _ => by simp [Builtin.firstCells]) (by simp; omega) (by simpa using hc.1) (by simpa using hc.2)
        simpa using this
      · cases h
    · rename_i s' es r
      split at h
      · rename_i hc
        obtain ⟨rfl, hby, hmax⟩ := hc
        obtain ⟨b, o, cap, rfl, hes, hr⟩ := hvs.slc
        obtain ⟨olds, g1, g2⟩ := hes.to_e
        have hold : ∀ w' : World, w'.heap = w.heap → (Builtin.firstCells i.size es.length (.slice (some ⟨b, o, none⟩) es.length cap)).run P w' = .ok olds.toArray w' := by
          intro w' hw'
          refine run_firstCells_some w' i.size es.length _ _ _ olds g1.length (fun j v hj => ?_)
          rw [addr_add]
          have := hs.imm _ _ _ (g2 j v hj)
          simpa [World.cell?, hw'] using this
        split at h <;> (try (cases h; done))
        · simp only [Option.some.injEq, Prod.mk.injEq] at h; obtain ⟨rfl, rfl⟩ := h
          simp only [RoomR] at hr
          exact grow _ es olds cap σ hs g1 hold (by omega) hby hmax
        · rename_i tk
          split at h <;> (try (cases h; done))
          rename_i htk
          simp only [Option.some.injEq, Prod.mk.injEq] at h; obtain ⟨rfl, rfl⟩ := h
          obtain ⟨k, hk1, hk2, hk3⟩ := hr
          by_cases hroom : xs.length ≤ k
          · -- there is room
            have hk0 : k ≠ 0 := by omega
            have htl := hk2 hk0
            have hfit : news.length ≤ k * i.size := by rw [n1.length]; exact Nat.mul_le_mul_right _ hroom
            obtain ⟨⟨μ', k1, k2, k3, k4⟩, k5, k6⟩ := hs.take htk htl news hfit
            have himm : ImmAt μ' b o (olds ++ news) := (g2.mono k1).append (by rw [g1.length]; exact k3)
            refine ⟨μ', _, _, k1, k2, VR.mk_slc (cap := cap) (n := es.length + xs.length) (by simp) (CRes.of_e ((g1.append n1).mono k1) himm) ?_, ?_⟩
            · refine ⟨k - xs.length, by simp; omega, fun _ => ?_, hk3⟩
              rw [k4, n1.length, ← Nat.sub_mul]
              simp [Nat.add_mul, Nat.add_assoc]
            · exact append_room t tx ty e i dx ht hx hdx hi b o es.length cap vx xs.length news n2 (n3 w rfl) (by omega) k5 k6 (by simpa [List.all_eq_true] using n1.oneCell)
          · -- none: a new row, and the old one's room is nobody's
            have hs' : Sim μ (σ.put tk none) w := by
              refine ⟨hs.imm, fun j cs hj => ?_, fun t' ht' => ?_, hs.blk, fun j hj => ?_, hs.bel, hs.tyOf (Mu.le.refl μ) (put_ty (by simp)) (rows_same fun _ _ => rfl)⟩
              · by_cases hjt : j = tk
                · subst hjt; simp [St.put] at hj
                · exact hs.obj j cs (by simpa [St.put, hjt] using hj)
              · by_cases hjt : t' = tk
                · subst hjt; simp [St.put] at ht'
                · exact hs.tok t' (by simpa [St.put, hjt] using ht')
              · have := hs.nxt j hj
                by_cases hjt : j = tk
                · subst hjt; rw [htk] at this; simp at this
                · simpa [St.put, hjt] using this
            exact grow _ es olds cap (σ.put tk none) hs' g1 hold (by omega) hby hmax
      · cases h


theorem CRe.flat {sz : Nat} : ∀ {es cs : List D} {vs : List Value}, CRe μ sz es vs → Id.flat es = some cs → CRl μ cs vs
  | [], cs, vs, h, hf => by
    simp only [Id.flat, Option.some.injEq] at hf
    subst hf
    simp only [CRe] at h
    simp [h, CRl]
  | e :: es, cs, vs, h, hf => by
    obtain ⟨us, ws, rfl, h2, h3, h4, h5⟩ := h
    simp only [Id.flat] at hf
    split at hf <;> (try (cases hf; done))
    rename_i c r hc hr
    simp only [Option.some.injEq] at hf
    subst hf
    exact (h4.cells hc).append (h5.flat hr)

/-- The cells of a variable, all of them. -/
theorem Sim.vals (hs : Sim μ σ w) {j : Nat} {cs : List D} (hj : σ.obj j = some (.cells cs)) {b o : Nat} (hl : μ.loc j = some (b, o)) :
    ∃ vs, CRl μ cs vs ∧ ∀ i v, vs[i]? = some v → w.cell? ⟨b, o + i, none⟩ = some v := by
  obtain ⟨b', o', h1, _, _, h4⟩ := hs.obj j cs hj
  rw [hl] at h1
  simp only [Option.some.injEq, Prod.mk.injEq] at h1
  obtain ⟨rfl, rfl⟩ := h1
  have key : ∀ (n : Nat), n ≤ cs.length → ∃ vs, vs.length = n ∧ CRl μ (cs.take n) vs ∧ ∀ i v, vs[i]? = some v → w.cell? ⟨b, o + i, none⟩ = some v := by
    intro n
    induction n with
    | zero => intro _; exact ⟨[], rfl, by simp [CRl], by simp⟩
    | succ n ih =>
      intro hn
      obtain ⟨vs, g1, g2, g3⟩ := ih (by omega)
      obtain ⟨_, _, v, k3, k4⟩ := h4 n (cs[n]'(by omega)) (List.getElem?_eq_getElem (by omega))
      refine ⟨vs ++ [v], by simp [g1], ?_, fun i u hu => ?_⟩
      · rw [List.take_succ_eq_append_getElem (by omega)]
        refine g2.append ?_
        simp only [CRl]
        exact ⟨v, [], rfl, k4, rfl⟩
      · rw [List.getElem?_append] at hu
        split at hu
        · exact g3 i u hu
        · rename_i hi
          have hi0 : i - vs.length = 0 := by
            rcases Nat.eq_zero_or_pos (i - vs.length) with h | h
            · exact h
            · rw [List.getElem?_eq_none (by simp; omega)] at hu; cases hu
          rw [hi0] at hu
          simp only [List.getElem?_cons_zero, Option.some.injEq] at hu
          subst hu
          rw [show i = n by omega]
          exact k3
  obtain ⟨vs, _, g2, g3⟩ := key cs.length (Nat.le_refl _)
  exact ⟨vs, by simpa using g2, g3⟩

theorem iappendR_sound (hs : Sim μ σ w) {t tx ty e : TypeId} {i : TypeInfo} {z : Value} {dx : TypeDesc} (ht : P.underlying t = some (.slice e)) (hx : P.underlying tx = some dx) (hdx : ∀ k, dx ≠ .int k)
    (hi : P.info? e = some i) (hz : i.zero = some z) (hzs : (vcells z).length = i.size) {s x d : D} {vs vx : Value} (hvs : VR μ s vs) (hvx : VR μ x vx) {σ' : St}
    (h : iappendR i.size i.bytes s x σ = some (d, σ')) : Does P μ (Builtin.append_ #[t, tx] ty #[vs, vx]) w d σ' := by
  unfold iappendR at h
  split at h
  · cases h
  rename_i xs hxs
  obtain ⟨news, n1, n2, n3⟩ := elems_sound (P := P) hvx hxs hs
  have hzsz : z.cells.size = i.size := by rw [← Array.length_toList, vcells_eq, hzs]
  split at h
  · rename_i h0
    rw [h0] at n2 n3
    obtain rfl : xs = [] := List.eq_nil_of_length_eq_zero h0
    have hn : news = [] := by simpa [CRe] using n1
    subst hn
    split at h <;> (try (cases h; done))
    · simp only [Option.some.injEq, Prod.mk.injEq] at h; obtain ⟨rfl, rfl⟩ := h
      obtain rfl := hvs.nils
      exact Does.of hs VR.mk_nils (append_none t tx ty e i dx ht hx hdx hi none 0 0 vx n2 (n3 w rfl) (Nat.le_refl _))
    · split at h
      · simp only [Option.some.injEq, Prod.mk.injEq] at h; obtain ⟨rfl, rfl⟩ := h
        have hvs' := hvs
        obtain ⟨b, o, cap, rfl, _, hr⟩ := hvs.slc
        exact Does.of hs hvs' (append_none t tx ty e i dx ht hx hdx hi _ _ _ vx n2 (n3 w rfl) hr.le)
      · cases h
    · split at h
      · simp only [Option.some.injEq, Prod.mk.injEq] at h; obtain ⟨rfl, rfl⟩ := h
        have hvs' := hvs
        obtain ⟨b, o, cap, _, rfl, hr⟩ := hvs.rslc
        exact Does.of hs hvs' (append_none t tx ty e i dx ht hx hdx hi _ _ _ vx n2 (n3 w rfl) hr.le)
      · cases h
  rename_i h0
  split at h <;> (try (cases h; done))
  rename_i n cs σ₁ ds hold hds
  split at h <;> (try (cases h; done))
  rename_i hc
  obtain ⟨hby, hmax⟩ := hc
  simp only [Option.some.injEq, Prod.mk.injEq] at h; obtain ⟨rfl, rfl⟩ := h
  have hdl := n1.flat hds
  have grow : ∀ (base : Option Addr) (olds : List Value) (cap : Nat), Sim μ σ₁ w → CRl μ cs olds → olds.length = n * i.size →
      (∀ w' : World, w'.heap = w.heap → (Builtin.firstCells i.size n (.slice base n cap)).run P w' = .ok olds.toArray w') → cap < n + xs.length →
      Does P μ (Builtin.append_ #[t, tx] ty #[.slice base n cap, vx]) w (.rslc σ₁.next 0 i.size (n + xs.length) (.opened (σ₁.next + 1))) ((σ₁.alloc (.cells (cs ++ ds))).alloc .tok) := by
    intro base olds cap hs₁ he hlen hold hcap
    have hgc := grownCap_ge w (n + xs.length) cap e
    obtain ⟨μ', k1, k2, k3, k4⟩ := (hs₁.drawn (w.drawn + 1)).pushRowR (olds ++ news).toArray (Builtin.zeroCells z.cells (grownCap w (n + xs.length) cap e - (n + xs.length))) e (cs ++ ds) (by simpa using he.append hdl)
    refine ⟨μ', _, _, k1, k2, VR.mk_rslc (off := 0) (len := n + xs.length) (cap := grownCap w (n + xs.length) cap e) k3 ?_, ?_⟩
    · refine ⟨grownCap w (n + xs.length) cap e - (n + xs.length), by omega, fun _ => ?_, grownCap_le_maxLen w _ _ _ hmax⟩
      rw [k4]
      simp only [size_zeroCells, hzsz, List.size_toArray, List.length_append, hlen, n1.length, Nat.zero_add, ← Nat.add_mul]
    · rw [append_grow t tx ty e i z dx ht hx hdx hi hz base n cap olds (hold _ rfl) vx xs.length news n2 (n3 _ rfl) hcap
        (by simp only [maxLen] at hmax; omega) (growslice_fits hcap hby)]
      congr 1
      simp only [World.drew, World.alloc]
      congr 2
      simp
  unfold iold at hold
  split at hold <;> (try (cases hold; done))
  · simp only [Option.some.injEq, Prod.mk.injEq] at hold
    obtain ⟨rfl, rfl, rfl⟩ := hold
    obtain rfl := hvs.nils
    exact grow none [] 0 hs (by simp [CRl]) (by simp) (fun w' _ => by simp [Builtin.firstCells]) (by omega)
  · rename_i s' es
    split at hold <;> (try (cases hold; done))
    rename_i hs'
    subst hs'
    simp only [Option.map_eq_some_iff, Prod.mk.injEq] at hold
    obtain ⟨cs', hfl, rfl, rfl, rfl⟩ := hold
    obtain ⟨b, o, cap, rfl, hes, hr⟩ := hvs.slc
    obtain ⟨olds, g1, g2⟩ := hes.to_e
    simp only [RoomR] at hr
    refine grow _ olds cap hs (g1.flat hfl) g1.length (fun w' hw' => ?_) (by omega)
    refine run_firstCells_some w' _ es.length _ _ _ olds g1.length (fun j v hj => ?_)
    rw [addr_add]
    have := hs.imm _ _ _ (g2 j v hj)
    simpa [World.cell?, hw'] using this
  · rename_i j off s' len tk
    split at hold <;> (try (cases hold; done))
    rename_i hs'
    subst hs'
    split at hold <;> (try (cases hold; done))
    rename_i cs' hj htk
    split at hold <;> (try (cases hold; done))
    rename_i hcc
    simp only [Option.some.injEq, Prod.mk.injEq] at hold
    obtain ⟨rfl, rfl, rfl⟩ := hold
    obtain ⟨rfl, hcl⟩ := hcc
    obtain ⟨b, o, cap, hlj, rfl, hr⟩ := hvs.rslc
    obtain ⟨k, hk1, hk2, hk3⟩ := hr
    obtain ⟨olds, g1, g2⟩ := hs.vals hj hlj
    have hjn : j < σ.next := by
      rcases Nat.lt_or_ge j σ.next with hh | hh
      · exact hh
      · rw [(hs.nxt j hh).1] at hj; cases hj
    have htn : tk < σ.next := by
      rcases Nat.lt_or_ge tk σ.next with hh | hh
      · exact hh
      · rw [(hs.nxt tk hh).1] at htk; cases htk
    simp only [Nat.add_zero] at hk2 ⊢
    by_cases hroom : xs.length ≤ k
    · have hk0 : k ≠ 0 := by omega
      have htl := hk2 hk0
      have hfit : news.length ≤ k * i.size := by rw [n1.length]; exact Nat.mul_le_mul_right _ hroom
      obtain ⟨⟨μ', k1, k2, k3, k4⟩, k5, k6⟩ := hs.takeR htk hj hlj htl (by rw [hcl]) ds news hdl hfit
      refine ⟨μ', _, _, k1, k2, VR.mk_rslc (off := 0) (len := len + xs.length) (cap := cap) k3 ?_, ?_⟩
      · refine ⟨k - xs.length, by omega, fun _ => ?_, hk3⟩
        have : ((σ.put j none).put tk none).next = σ.next := rfl
        rw [this, k4, n1.length, ← Nat.sub_mul]
        simp [Nat.add_mul, Nat.add_assoc]
      · exact append_room t tx ty e i dx ht hx hdx hi b o len cap vx xs.length news n2 (n3 w rfl) (by omega) k5 k6 (by simpa [List.all_eq_true] using n1.oneCell)
    · have hk' := (hs.kill j hjn).kill tk (by simpa [St.put] using htn)
      refine grow _ olds cap hk' g1 (by rw [g1.length, hcl]) (fun w' hw' => ?_) (by omega)
      refine run_firstCells_some w' i.size len _ _ _ olds (by rw [g1.length, hcl]) (fun j v hj => ?_)
      rw [addr_add]
      have := g2 j v hj
      simpa [World.cell?, hw'] using this

/-- A row of elements of type 'e' in a block of its own, of which nothing is frozen. -/
def RowAt (μ : Mu) (w : World) (j : Nat) (e : TypeId) : Prop := ∃ (b : Nat) (cur : Array Value), μ.loc j = some (b, 0) ∧ w.heap[b]? = some (Obj.cells cur e (0, 0))
def DoesRow (P : Program) (μ : Mu) (s : Sem Value) (w : World) (d : D) (σ σ' : St) (e : TypeId) : Prop :=
  ∃ μ' v w', μ.le μ' ∧ Sim μ' σ' w' ∧ VR μ' d v ∧ s.run P w = .ok v w' ∧ (σ'.next ≠ σ.next → RowAt μ' w' σ.next e)
theorem DoesRow.of (hs : Sim μ σ w) {s : Sem Value} {d : D} {v : Value} {e : TypeId} (hv : VR μ d v) (hr : s.run P w = .ok v w) : DoesRow P μ s w d σ σ e :=
  ⟨μ, v, w, Mu.le.refl μ, hs, hv, hr, fun h => absurd rfl h⟩
theorem iappendR_row (hs : Sim μ σ w) {t tx ty e : TypeId} {i : TypeInfo} {z : Value} {dx : TypeDesc} (ht : P.underlying t = some (.slice e)) (hx : P.underlying tx = some dx) (hdx : ∀ k, dx ≠ .int k)
    (hi : P.info? e = some i) (hz : i.zero = some z) (hzs : (vcells z).length = i.size) {s x d : D} {vs vx : Value} (hvs : VR μ s vs) (hvx : VR μ x vx) {σ' : St}
    (hrow : ∀ j off s' len tk, s = .rslc j off s' len (.opened tk) → RowAt μ w j e)
    (h : iappendR i.size i.bytes s x σ = some (d, σ')) : DoesRow P μ (Builtin.append_ #[t, tx] ty #[vs, vx]) w d σ σ' e := by
  unfold iappendR at h
  split at h
  · cases h
  rename_i xs hxs
  obtain ⟨news, n1, n2, n3⟩ := elems_sound (P := P) hvx hxs hs
  have hzsz : z.cells.size = i.size := by rw [← Array.length_toList, vcells_eq, hzs]
  split at h
  · rename_i h0
    rw [h0] at n2 n3
    obtain rfl : xs = [] := List.eq_nil_of_length_eq_zero h0
    have hn : news = [] := by simpa [CRe] using n1
    subst hn
    split at h <;> (try (cases h; done))
    · simp only [Option.some.injEq, Prod.mk.injEq] at h; obtain ⟨rfl, rfl⟩ := h
      obtain rfl := hvs.nils
      exact DoesRow.of hs VR.mk_nils (append_none t tx ty e i dx ht hx hdx hi none 0 0 vx n2 (n3 w rfl) (Nat.le_refl _))
    · split at h
      · simp only [Option.some.injEq, Prod.mk.injEq] at h; obtain ⟨rfl, rfl⟩ := h
        have hvs' := hvs
        obtain ⟨b, o, cap, rfl, _, hr⟩ := hvs.slc
        exact DoesRow.of hs hvs' (append_none t tx ty e i dx ht hx hdx hi _ _ _ vx n2 (n3 w rfl) hr.le)
      · cases h
    · split at h
      · simp only [Option.some.injEq, Prod.mk.injEq] at h; obtain ⟨rfl, rfl⟩ := h
        have hvs' := hvs
        obtain ⟨b, o, cap, _, rfl, hr⟩ := hvs.rslc
        exact DoesRow.of hs hvs' (append_none t tx ty e i dx ht hx hdx hi _ _ _ vx n2 (n3 w rfl) hr.le)
      · cases h
  rename_i h0
  split at h <;> (try (cases h; done))
  rename_i n cs σ₁ ds hold hds
  split at h <;> (try (cases h; done))
  rename_i hc
  obtain ⟨hby, hmax⟩ := hc
  simp only [Option.some.injEq, Prod.mk.injEq] at h; obtain ⟨rfl, rfl⟩ := h
  have hdl := n1.flat hds
  have grow : ∀ (base : Option Addr) (olds : List Value) (cap : Nat), Sim μ σ₁ w → CRl μ cs olds → olds.length = n * i.size →
      (∀ w' : World, w'.heap = w.heap → (Builtin.firstCells i.size n (.slice base n cap)).run P w' = .ok olds.toArray w') → cap < n + xs.length →
      σ₁.next = σ.next → DoesRow P μ (Builtin.append_ #[t, tx] ty #[.slice base n cap, vx]) w (.rslc σ₁.next 0 i.size (n + xs.length) (.opened (σ₁.next + 1))) σ ((σ₁.alloc (.cells (cs ++ ds))).alloc .tok) e := by
    intro base olds cap hs₁ he hlen hold hcap hnx
    have hgc := grownCap_ge w (n + xs.length) cap e
    obtain ⟨μ', k1, k2, k3, k4⟩ := (hs₁.drawn (w.drawn + 1)).pushRowR (olds ++ news).toArray (Builtin.zeroCells z.cells (grownCap w (n + xs.length) cap e - (n + xs.length))) e (cs ++ ds) (by simpa using he.append hdl)
    refine ⟨μ', _, _, k1, k2, VR.mk_rslc (off := 0) (len := n + xs.length) (cap := grownCap w (n + xs.length) cap e) k3 ?_, ?_, fun _ => ?_⟩
    · refine ⟨grownCap w (n + xs.length) cap e - (n + xs.length), by omega, fun _ => ?_, grownCap_le_maxLen w _ _ _ hmax⟩
      rw [k4]
      simp only [size_zeroCells, hzsz, List.size_toArray, List.length_append, hlen, n1.length, Nat.zero_add, ← Nat.add_mul]
    · rw [append_grow t tx ty e i z dx ht hx hdx hi hz base n cap olds (hold _ rfl) vx xs.length news n2 (n3 _ rfl) hcap
        (by simp only [maxLen] at hmax; omega) (growslice_fits hcap hby)]
      congr 1
      simp only [World.drew, World.alloc]
      congr 2
      simp
    · rw [← hnx]
      exact ⟨w.heap.size, _, k3, Array.getElem?_push_size⟩
  unfold iold at hold
  split at hold <;> (try (cases hold; done))
  · simp only [Option.some.injEq, Prod.mk.injEq] at hold
    obtain ⟨rfl, rfl, rfl⟩ := hold
    obtain rfl := hvs.nils
    exact grow none [] 0 hs (by simp [CRl]) (by simp) (fun w' _ => by simp [Builtin.firstCells]) (by omega) rfl
  · rename_i s' es
    split at hold <;> (try (cases hold; done))
    rename_i hs'
    subst hs'
    simp only [Option.map_eq_some_iff, Prod.mk.injEq] at hold
    obtain ⟨cs', hfl, rfl, rfl, rfl⟩ := hold
    obtain ⟨b, o, cap, rfl, hes, hr⟩ := hvs.slc
    obtain ⟨olds, g1, g2⟩ := hes.to_e
    simp only [RoomR] at hr
    refine grow _ olds cap hs (g1.flat hfl) g1.length (fun w' hw' => ?_) (by omega) rfl
    refine run_firstCells_some w' _ es.length _ _ _ olds g1.length (fun j v hj => ?_)
    rw [addr_add]
    have := hs.imm _ _ _ (g2 j v hj)
    simpa [World.cell?, hw'] using this
  · rename_i j off s' len tk
    split at hold <;> (try (cases hold; done))
    rename_i hs'
    subst hs'
    split at hold <;> (try (cases hold; done))
    rename_i cs' hj htk
    split at hold <;> (try (cases hold; done))
    rename_i hcc
    simp only [Option.some.injEq, Prod.mk.injEq] at hold
    obtain ⟨rfl, rfl, rfl⟩ := hold
    obtain ⟨rfl, hcl⟩ := hcc
    obtain ⟨b, o, cap, hlj, rfl, hr⟩ := hvs.rslc
    obtain ⟨k, hk1, hk2, hk3⟩ := hr
    obtain ⟨olds, g1, g2⟩ := hs.vals hj hlj
    have hjn : j < σ.next := by
      rcases Nat.lt_or_ge j σ.next with hh | hh
      · exact hh
      · rw [(hs.nxt j hh).1] at hj; cases hj
    have htn : tk < σ.next := by
      rcases Nat.lt_or_ge tk σ.next with hh | hh
      · exact hh
      · rw [(hs.nxt tk hh).1] at htk; cases htk
    simp only [Nat.add_zero] at hk2 ⊢
    by_cases hroom : xs.length ≤ k
    · have hk0 : k ≠ 0 := by omega
      have htl := hk2 hk0
      have hfit : news.length ≤ k * i.size := by rw [n1.length]; exact Nat.mul_le_mul_right _ hroom
      obtain ⟨⟨μ', k1, k2, k3, k4⟩, k5, k6⟩ := hs.takeR htk hj hlj htl (by rw [hcl]) ds news hdl hfit
      refine ⟨μ', _, _, k1, k2, VR.mk_rslc (off := 0) (len := len + xs.length) (cap := cap) k3 ?_, ?_, fun _ => ?_⟩
      · refine ⟨k - xs.length, by omega, fun _ => ?_, hk3⟩
        have : ((σ.put j none).put tk none).next = σ.next := rfl
        rw [this, k4, n1.length, ← Nat.sub_mul]
        simp [Nat.add_mul, Nat.add_assoc]
      · exact append_room t tx ty e i dx ht hx hdx hi b o len cap vx xs.length news n2 (n3 w rfl) (by omega) k5 k6 (by simpa [List.all_eq_true] using n1.oneCell)
      · obtain ⟨b2, cur, q1, q2⟩ := hrow _ _ _ _ _ rfl
        rw [hlj] at q1
        simp only [Option.some.injEq, Prod.mk.injEq] at q1
        obtain ⟨rfl, rfl⟩ := q1
        obtain ⟨cur', q3, _⟩ := rows_setCells b news _ w b cur e q2
        exact ⟨b, cur', k3, q3⟩
    · have hk' := (hs.kill j hjn).kill tk (by simpa [St.put] using htn)
      refine grow _ olds cap hk' g1 (by rw [g1.length, hcl]) (fun w' hw' => ?_) (by omega) rfl
      refine run_firstCells_some w' i.size len _ _ _ olds (by rw [g1.length, hcl]) (fun j v hj => ?_)
      rw [addr_add]
      have := g2 j v hj
      simpa [World.cell?, hw'] using this

theorem iappendR_next {sz bytes : Nat} {s x d : D} {σ' : St} (h : iappendR sz bytes s x σ = some (d, σ')) : σ'.next = σ.next ∨ σ'.next = σ.next + 2 := by
  unfold iappendR at h
  split at h
  · cases h
  split at h
  · left
    split at h <;> (try (cases h; done)) <;> (try split at h) <;> (try (cases h; done)) <;> (simp only [Option.some.injEq, Prod.mk.injEq] at h; rw [← h.2])
  right
  split at h <;> (try (cases h; done))
  rename_i n cs σ₁ ds hold hds
  split at h <;> (try (cases h; done))
  simp only [Option.some.injEq, Prod.mk.injEq] at h
  rw [← h.2]
  have : σ₁.next = σ.next := by
    unfold iold at hold
    split at hold <;> (try (cases hold; done))
    · simp only [Option.some.injEq, Prod.mk.injEq] at hold; rw [← hold.2.2]
    · split at hold <;> (try (cases hold; done))
      simp only [Option.map_eq_some_iff, Prod.mk.injEq] at hold
      obtain ⟨_, _, _, _, h3⟩ := hold
      rw [← h3]
    · split at hold <;> (try (cases hold; done))
      split at hold <;> (try (cases hold; done))
      split at hold <;> (try (cases hold; done))
      simp only [Option.some.injEq, Prod.mk.injEq] at hold; rw [← hold.2.2]; rfl
  show σ₁.next + 1 + 1 = _
  rw [this]
theorem iappendR_more {sz bytes : Nat} {s x d : D} {σ' : St} {xs : List D} (hx : elems sz x σ = some xs) (h0 : xs.length ≠ 0) (h : iappendR sz bytes s x σ = some (d, σ')) : σ'.next ≠ σ.next := by
  unfold iappendR at h
  rw [hx] at h
  simp only [] at h
  rw [if_neg h0] at h
  split at h <;> (try (cases h; done))
  rename_i n cs σ₁ ds hold hds
  split at h <;> (try (cases h; done))
  simp only [Option.some.injEq, Prod.mk.injEq] at h
  rw [← h.2]
  have : σ₁.next = σ.next := by
    unfold iold at hold
    split at hold <;> (try (cases hold; done))
    · simp only [Option.some.injEq, Prod.mk.injEq] at hold; rw [← hold.2.2]
    · split at hold <;> (try (cases hold; done))
      simp only [Option.map_eq_some_iff, Prod.mk.injEq] at hold
      obtain ⟨_, _, _, _, h3⟩ := hold
      rw [← h3]
    · split at hold <;> (try (cases hold; done))
      split at hold <;> (try (cases hold; done))
      split at hold <;> (try (cases hold; done))
      simp only [Option.some.injEq, Prod.mk.injEq] at hold; rw [← hold.2.2]; rfl
  show σ₁.next + 1 + 1 ≠ _
  omega
theorem elems_put {sz k : Nat} {x : D} {o : Option Ob} : elems sz x (σ.put k o) = elems sz x σ := by cases x <;> rfl
theorem iappendT_sound (hs : Sim μ σ w) {t tx ty e : TypeId} {i : TypeInfo} {z : Value} {dx : TypeDesc} (ht : P.underlying t = some (.slice e)) (hx : P.underlying tx = some dx) (hdx : ∀ k, dx ≠ .int k)
    (hi : P.info? e = some i) (hz : i.zero = some z) (hzs : (vcells z).length = i.size) {s x d : D} {vs vx : Value} (hvs : VR μ s vs) (hvx : VR μ x vx) {σ' : St}
    (h : iappendT i.size i.bytes e s x σ = some (d, σ')) : Does P μ (Builtin.append_ #[t, tx] ty #[vs, vx]) w d σ' := by
  unfold iappendT at h
  split at h
  · cases h
  rename_i xs hxs
  split at h
  · exact iappendR_sound hs ht hx hdx hi hz hzs hvs hvx h
  rename_i h0
  split at h <;> (try (cases h; done))
  · split at h <;> (try (cases h; done))
    rename_i d1 σ1 h1
    simp only [Option.some.injEq, Prod.mk.injEq] at h
    obtain ⟨rfl, rfl⟩ := h
    obtain ⟨μ', v, w', k1, k2, k3, k4, k5⟩ := iappendR_row (ty := ty) hs ht hx hdx hi hz hzs hvs hvx (fun _ _ _ _ _ h => by cases h) h1
    obtain ⟨b, cur, g1, g2⟩ := k5 (iappendR_more hxs h0 h1)
    exact ⟨μ', v, w', k1, k2.know ⟨b, cur, g1, g2, fun _ h => by cases h⟩, k3, k4⟩
  · split at h <;> (try (cases h; done))
    rename_i d1 σ1 h1
    simp only [Option.some.injEq, Prod.mk.injEq] at h
    obtain ⟨rfl, rfl⟩ := h
    obtain ⟨μ', v, w', k1, k2, k3, k4, k5⟩ := iappendR_row (ty := ty) hs ht hx hdx hi hz hzs hvs hvx (fun _ _ _ _ _ h => by cases h) h1
    obtain ⟨b, cur, g1, g2⟩ := k5 (iappendR_more hxs h0 h1)
    exact ⟨μ', v, w', k1, k2.know ⟨b, cur, g1, g2, fun _ h => by cases h⟩, k3, k4⟩
  · rename_i j off s' len tk
    split at h <;> (try (cases h; done))
    rename_i j' T hf
    split at h <;> (try (cases h; done))
    rename_i hc
    obtain ⟨rfl, rfl⟩ := hc
    split at h <;> (try (cases h; done))
    rename_i d1 σ1 h1
    simp only [Option.some.injEq, Prod.mk.injEq] at h
    obtain ⟨rfl, rfl⟩ := h
    obtain ⟨b, cur, g1, g2, _⟩ := hs.ty _ _ _ _ hf
    have hjn : j' + 2 < σ.next := by
      rcases Nat.lt_or_ge (j' + 2) σ.next with hh | hh
      · exact hh
      · rw [(hs.nxt _ hh).1] at hf; cases hf
    have hk := hs.kill (j' + 2) hjn
    obtain ⟨μ', v, w', k1, k2, k3, k4, k5⟩ := iappendR_row (ty := ty) hk ht hx hdx hi hz hzs hvs hvx (fun _ _ _ _ _ h => by cases h; exact ⟨b, cur, g1, g2⟩) h1
    obtain ⟨b', cur', q1, q2⟩ := k5 (iappendR_more (by rw [elems_put]; exact hxs) h0 h1)
    exact ⟨μ', v, w', k1, k2.know ⟨b', cur', q1, q2, fun _ h => by cases h⟩, k3, k4⟩
/-- The cells of a row are frozen: it is no variable any more. -/
theorem Sim.cleanRow (h : Sim μ σ w) {j : Nat} {cs : List D} (hj : σ.obj j = some (.cells cs)) (hcs : cs ≠ []) {b : Nat} {cur : Array Value} {T : TypeId} (hl : μ.loc j = some (b, 0)) (hb : w.heap[b]? = some (Obj.cells cur T (0, 0))) :
    Sim μ (σ.clean j) (w.freeze ⟨b, 0, none⟩ cs.length) := by
  have hlen : cs.length ≠ 0 := by simpa using hcs
  obtain ⟨b1, o1, h1, h2, h3, h4⟩ := h.obj j cs hj
  rw [hl] at h1
  simp only [Option.some.injEq, Prod.mk.injEq] at h1
  obtain ⟨rfl, rfl⟩ := h1
  simp only [Nat.zero_add] at h4
  have hown : ∀ p, p < cs.length → μ.own b p = .obj j := fun p hp => (h4 p cs[p] (by simp [hp])).1
  have heap_b : (w.freeze ⟨b, 0, none⟩ cs.length).heap[b]? = some (Obj.cells cur T (0, cs.length)) := by
    simp only [World.freeze, if_neg hlen, Array.getElem?_modify, hb, if_true, Option.map_some]
    simp
  have heap_o : ∀ b', b' ≠ b → (w.freeze ⟨b, 0, none⟩ cs.length).heap[b']? = w.heap[b']? := fun b' hne => by
    simp only [World.freeze, if_neg hlen, Array.getElem?_modify]
    rw [if_neg (fun hh => hne hh.symm)]
  have hsize : (w.freeze ⟨b, 0, none⟩ cs.length).heap.size = w.heap.size := by
    simp only [World.freeze, if_neg hlen, Array.size_modify]
  have hcell : ∀ b' o', (w.freeze ⟨b, 0, none⟩ cs.length).cell? ⟨b', o', none⟩ = w.cell? ⟨b', o', none⟩ := fun b' o' => by
    by_cases hbb : b' = b
    · subst hbb; simp only [World.cell?, heap_b, hb]
    · simp only [World.cell?, heap_o b' hbb]
  have hfro : ∀ b' o', w.frozen? ⟨b', o', none⟩ = false → (b' = b → cs.length ≤ o') → (w.freeze ⟨b, 0, none⟩ cs.length).frozen? ⟨b', o', none⟩ = false := fun b' o' hw hge => by
    by_cases hbb : b' = b
    · subst hbb
      simp only [World.frozen?, heap_b]
      have := hge rfl
      simp; omega
    · simpa only [World.frozen?, heap_o b' hbb] using hw
  have far : ∀ b' o', μ.own b' o' ≠ .obj j → b' = b → cs.length ≤ o' := fun b' o' hne hbb => by
    subst hbb
    exact Nat.le_of_not_lt fun hlt => hne (hown o' hlt)
  have clean_cells : ∀ i cs', (σ.clean j).obj i = some (.cells cs') → i ≠ j ∧ σ.obj i = some (.cells cs') := fun i cs' e => by
    simp only [St.clean] at e
    split at e
    · cases e
    rename_i hne
    split at e
    · split at e
      · cases e
      · split at e <;> simp at e
    · exact ⟨fun hh => hne (.inl hh), e⟩
  have clean_tok : ∀ i, (σ.clean j).obj i = some .tok → σ.obj i = some .tok := fun i e => by
    simp only [St.clean] at e
    split at e
    · cases e
    split at e
    · split at e
      · cases e
      · split at e <;> simp at e
    · exact e
  refine ⟨fun b' o' v e => by rw [hcell]; exact h.imm _ _ _ e, fun i cs' e => ?_, fun t e => ?_, fun b' o' hle => h.blk _ _ (by rw [hsize] at hle; exact hle), fun i hi => ?_, Lib.below_freeze h.bel h2 _, fun f j' T' n e => ?_⟩
  · obtain ⟨hij, hi⟩ := clean_cells i cs' e
    obtain ⟨b', o', g1, g2, g3, g4⟩ := h.obj i cs' hi
    refine ⟨b', o', g1, g2, by rw [hsize]; exact g3, fun x d hd => ?_⟩
    obtain ⟨q1, q2, v, q3, q4⟩ := g4 x d hd
    exact ⟨q1, hfro _ _ q2 (far _ _ (by rw [q1]; intro hh; exact hij (by simpa using hh))), v, by rw [hcell]; exact q3, q4⟩
  · obtain ⟨b', o', k, g1, g2, g3, g4⟩ := h.tok t (clean_tok t e)
    refine ⟨b', o', k, g1, g2, by rw [hsize]; exact g3, fun x hx => ?_⟩
    obtain ⟨q1, q2, v, q3⟩ := g4 x hx
    exact ⟨q1, hfro _ _ q2 (far _ _ (by rw [q1]; simp)), v, by rw [hcell]; exact q3⟩
  · obtain ⟨g1, g2, g3⟩ := h.nxt i hi
    refine ⟨?_, g2, g3⟩
    simp only [St.clean, g1]
    split <;> rfl
  · have hk : σ.obj f = some (.ty j' T' n) ∧ j' ≠ j ∧ ∃ c r, σ.obj j' = some (.cells (c :: r)) := by
      simp only [St.clean] at e
      split at e
      · cases e
      split at e
      · rename_i j2 T2 n2 hf
        split at e
        · cases e
        rename_i hne
        split at e <;> (try (cases e; done))
        rename_i c r hc
        simp only [Option.some.injEq, Ob.ty.injEq] at e
        obtain ⟨rfl, rfl, rfl⟩ := e
        exact ⟨hf, hne, c, r, hc⟩
      · rename_i hno
        exact absurd e (hno _ _ _)
    obtain ⟨hf, hne, c, r, hc⟩ := hk
    obtain ⟨b', cur', g1, g2, g3⟩ := h.ty f j' T' n hf
    obtain ⟨b2, o2, q1, _, _, q4⟩ := h.obj j' _ hc
    rw [g1] at q1
    simp only [Option.some.injEq, Prod.mk.injEq] at q1
    obtain ⟨rfl, rfl⟩ := q1
    have hbb : b' ≠ b := fun hh => by
      subst hh
      have w1 := (q4 0 c rfl).1
      have w2 := hown 0 (by omega)
      simp only [Nat.zero_add] at w1
      rw [w1] at w2
      exact hne (by simpa using w2)
    exact ⟨b', cur', g1, by rw [heap_o b' hbb]; exact g2, g3⟩
theorem bytesOf_cells {μ : Mu} : ∀ (cs : List D) (vs : List Value) (bs : List UInt8), cs.all okByte = true → bytesOf cs = some bs → CRl μ cs vs → bs.length = cs.length ∧ ∀ (j : Nat) (x : UInt8), bs[j]? = some x → vs[j]? = some (Value.int .u8 x.toNat)
  | [], vs, bs, _, h, hc => by
    simp only [bytesOf, Option.some.injEq] at h
    subst h
    refine ⟨rfl, fun j x hj => ?_⟩
    simp at hj
  | d :: r, vs, bs, hok, h, hc => by
    simp only [List.all_cons, Bool.and_eq_true] at hok
    unfold bytesOf at h
    split at h <;> (try (cases h; done))
    · rename_i heq; cases heq
    rename_i n r' heq
    simp only [List.cons.injEq] at heq
    obtain ⟨rfl, rfl⟩ := heq
    split at h <;> (try (cases h; done))
    rename_i bs' hbs
    simp only [Option.some.injEq] at h
    subst h
    simp only [CRl] at hc
    obtain ⟨v, ws, rfl, hv, hr⟩ := hc
    obtain ⟨h1, h2⟩ := bytesOf_cells r ws bs' hok.2 hbs hr
    refine ⟨by simp [h1], fun j x hj => ?_⟩
    have hn := hok.1
    simp only [okByte, decide_eq_true_eq] at hn
    cases j with
    | zero =>
      simp only [List.getElem?_cons_zero, Option.some.injEq] at hj ⊢
      subst hj
      simp only [CR, List.cons.injEq, and_true] at hv
      rw [hv]
      congr 1
      simp only [UInt8.toNat_ofNat']
      omega
    | succ j =>
      simp only [List.getElem?_cons_succ] at hj ⊢
      exact h2 j x hj
theorem unsStr_sound (hs : Sim μ σ w) {pt it ty pe : TypeId} (hp : P.underlying pt = some (.pointer pe)) {tbl : List Nat} (ht : tbl.all (fun T => decide (T = pe) && decide (P.cellsOf T = 1)) = true) {x n d : D} {vx vn : Value} (hx : VR μ x vx) (hn : VR μ n vn) {σ' : St}
    (h : iunsStr tbl x n σ = some (d, σ')) : Does P μ (Builtin.unsafeString_ #[pt, it] ty #[vx, vn]) w d σ' := by
  unfold iunsStr at h
  split at h <;> (try (cases h; done))
  · simp only [Option.some.injEq, Prod.mk.injEq] at h
    obtain ⟨rfl, rfl⟩ := h
    obtain rfl := hx.nilp
    obtain rfl := hn.int
    exact Does.of hs (VR.mk_str []) (Lib.run_unsafeString_none w pt it ty none)
  · rename_i j m
    split at h <;> (try (cases h; done))
    rename_i cs j' T hj htok hf
    split at h <;> (try (cases h; done))
    rename_i hc
    obtain ⟨rfl, hT, rfl, hne, h63, hok⟩ := hc
    split at h <;> (try (cases h; done))
    rename_i bs hbs
    simp only [Option.some.injEq, Prod.mk.injEq] at h
    obtain ⟨rfl, rfl⟩ := h
    obtain ⟨b, cur, g1, g2, _⟩ := hs.ty _ _ _ _ hf
    obtain ⟨b', o', g3, rfl⟩ := hx.ref
    rw [g1] at g3
    simp only [Option.some.injEq, Prod.mk.injEq] at g3
    obtain ⟨rfl, rfl⟩ := g3
    obtain rfl := hn.int
    obtain ⟨vals, v1, v2⟩ := hs.vals hj g1
    obtain ⟨hbl, hbc⟩ := bytesOf_cells cs vals bs hok hbs v1
    have hTT := List.all_eq_true.1 ht T (by simpa using hT)
    simp only [Bool.and_eq_true, decide_eq_true_eq] at hTT
    obtain ⟨rfl, hcell1⟩ := hTT
    have hcells : ∀ k x, bs[k]? = some x → w.cell? ⟨b, k, none⟩ = some (.int .u8 x.toNat) := fun k x hk => by
      have := v2 k _ (hbc k x hk)
      simpa using this
    have hle : cs.length ≤ cur.size := by
      have hpos : 0 < cs.length := List.length_pos_iff.2 hne
      have := hcells (cs.length - 1) (bs[cs.length - 1]'(by omega)) (by simp)
      simp only [World.cell?, g2] at this
      have := (Array.getElem?_eq_some_iff.1 (by simpa using this)).1
      omega
    refine ⟨μ, _, _, Mu.le.refl μ, hs.cleanRow hj hne g1 g2, VR.mk_str bs, ?_⟩
    have := Lib.run_unsafeString_row (P := P) w pt it ty T hp hcell1 b cur.size (by simp only [World.shape?, g2]) bs (by intro hh; rw [hh] at hbl; simp at hbl; exact hne (List.eq_nil_of_length_eq_zero hbl.symm)) (by omega) (by omega) (fun k x hk => by rw [addr_add]; simpa using hcells k x hk)
    rw [hbl] at this
    simpa using this
theorem sliceData_sound (hs : Sim μ σ w) {ts : Array TypeId} {ty : TypeId} {x d : D} {vx : Value} (hx : VR μ x vx) (h : isliceData x = some d) : Does P μ (Builtin.unsafeSliceData_ ts ty #[vx]) w d σ := by
  unfold isliceData at h
  split at h <;> (try (cases h; done))
  · simp only [Option.some.injEq] at h; subst h
    obtain rfl := hx.nils
    exact Does.of hs ⟨rfl, by simp [CR, vcells]⟩ (Lib.run_unsafeSliceData_nil w ts ty 0 0)
  · split at h <;> (try (cases h; done))
    rename_i hlen
    simp only [Option.some.injEq] at h; subst h
    obtain ⟨b, o, cap, h1, rfl, hr⟩ := hx.rslc
    have hle := hr.le
    exact Does.of hs (VR.mk_ref h1) (Lib.run_unsafeSliceData_row w ts ty _ _ cap (by omega))
theorem toUns_sound (hs : Sim μ σ w) {src dst t : TypeId} {i : TypeInfo} (h1 : P.underlying src = some (.pointer t)) (h2 : P.underlying dst = some .unsafePointer) (hi : P.info? t = some i) (hz : i.size ≠ 0) {x d : D} {vx : Value} (hx : VR μ x vx) (h : itoUns x σ = some d) :
    Does P μ (convert src dst vx) w d σ := by
  unfold itoUns at h
  split at h <;> (try (cases h; done))
  · simp only [Option.some.injEq] at h; subst h
    obtain rfl := hx.nilp
    exact Does.of hs hx (by simp [convert, run_underlying h1, run_underlying h2, Conv.unsafePointer])
  · rename_i j o
    split at h <;> (try (cases h; done))
    rename_i cs hj
    split at h <;> (try (cases h; done))
    rename_i ho
    simp only [Option.some.injEq] at h; subst h
    have hx' := hx
    obtain ⟨b, o', g1, rfl⟩ := hx.ref
    obtain ⟨b2, o2, q1, q2, q3, q4⟩ := hs.obj j cs hj
    rw [g1] at q1
    simp only [Option.some.injEq, Prod.mk.injEq] at q1
    obtain ⟨rfl, rfl⟩ := q1
    obtain ⟨_, _, v, hv, _⟩ := q4 o cs[o] (by simp [ho])
    simp only [World.cell?] at hv
    split at hv <;> (try (cases hv; done))
    rename_i cur T fr hb
    have hlt : o' + o < cur.size := (Array.getElem?_eq_some_iff.1 (by simpa using hv)).1
    exact Does.of hs hx' (Lib.run_to_unsafe (P := P) w ⟨b, o' + o, none⟩ h1 h2 hi hz (e := T) (cells := cur.size) (by simp only [World.shape?, hb]) hlt)
theorem ofUns_sound (hs : Sim μ σ w) {src dst u : TypeId} {i : TypeInfo} (h1 : P.underlying src = some .unsafePointer) (h2 : P.underlying dst = some (.pointer u)) (hi : P.info? u = some i) {tbl : List (Nat × Nat × Nat)}
    (ht : tbl.all (fun q => liesAt P P.depth q.1 (q.2.1 / P.cellsOf q.1) q.2.2 u 1) = true) {x d : D} {vx : Value} (hx : VR μ x vx) (h : iofUns tbl x σ = some d) : Does P μ (convert src dst vx) w d σ := by
  unfold iofUns at h
  split at h <;> (try (cases h; done))
  · simp only [Option.some.injEq] at h; subst h
    obtain rfl := hx.nilp
    exact Does.of hs hx (by simp [convert, run_underlying h1, run_underlying h2, Conv.unsafePointer])
  · rename_i j o
    split at h <;> (try (cases h; done))
    rename_i j' T n hf
    split at h <;> (try (cases h; done))
    rename_i hc
    obtain ⟨rfl, hT⟩ := hc
    simp only [Option.some.injEq] at h; subst h
    have hx' := hx
    obtain ⟨b, o', g1, rfl⟩ := hx.ref
    obtain ⟨b2, cur, q1, q2, q3⟩ := hs.ty _ _ _ _ hf
    rw [g1] at q1
    simp only [Option.some.injEq, Prod.mk.injEq] at q1
    obtain ⟨rfl, rfl⟩ := q1
    have hl := List.all_eq_true.1 ht (T, n, o) (by simpa using hT)
    have hn := q3 n rfl
    refine Does.of hs hx' (Lib.run_from_unsafe (P := P) w ⟨b, 0 + o, none⟩ h1 h2 hi (e := T) (cells := cur.size) (by simp only [World.shape?, q2]) ?_)
    rw [hn]
    simpa using hl
theorem sliceArr_sound (hs : Sim μ σ w) {t e : TypeId} {len : Nat} (ht : P.underlying t = some (.array len e)) {ie : TypeInfo} (hie : P.info? e = some ie) {x : D} {v : Value} (hv : VR μ x v) {lo hi : Option D} {vlo vhi : Option Value}
    (hlo : BR μ lo vlo) (hhi : BR μ hi vhi) {d : D} (h : isliceArr len ie.size x lo hi = some d) : Does P μ (Instr.sliceAt t v vlo vhi none) w d σ := by
  unfold isliceArr at h
  split at h <;> (try (cases h; done))
  rename_i j off
  obtain ⟨b, o, hl0, rfl⟩ := hv.ref
  split at h
  · cases h
  rename_i n hn
  split at h
  · cases h
  rename_i l hl
  split at h <;> (try (cases h; done))
  rename_i hlt
  simp only [Option.some.injEq] at h; subst h
  have hb := run_bounds2 (P := P) (w := w) false (Nat.le_refl len) hlo hhi hn hl
  have hnle := ibound_le hn (Nat.le_refl _)
  have hlle := ibound_le hl (Nat.zero_le _)
  refine Does.of hs (v := .slice (some ⟨b, o + (off + l * ie.size), none⟩) (n - l) (len - l)) (VR.mk_rslc hl0 (by simp only [RoomR]; omega)) ?_
  simp only [Instr.sliceAt, Sem.run_bind, run_underlying ht, Result.andThen_ok, Instr.sureAddr, Sem.run_pure, hb, run_sizeOf' hie, addr_add]
  rw [if_neg (by omega), Nat.add_assoc]

theorem bytesOf_sound : ∀ {cs : List D} {vs : List Value} {bs : List UInt8}, CRl μ cs vs → bytesOf cs = some bs → ∃ ns : List Int, vs = ns.map (Value.int .u8) ∧ bs = ns.map fun n => UInt8.ofNat n.toNat
  | [], vs, bs, h, hb => by
    simp only [bytesOf, Option.some.injEq] at hb
    subst hb
    simp only [CRl] at h
    subst h
    exact ⟨[], rfl, rfl⟩
  | d :: cs, vs, bs, h, hb => by
    simp only [CRl] at h
    obtain ⟨v, ws, rfl, h2, h3⟩ := h
    unfold bytesOf at hb
    split at hb <;> (try (cases hb; done))
    · rename_i hh; cases hh
    · rename_i n r hh
      simp only [List.cons.injEq] at hh
      obtain ⟨rfl, rfl⟩ := hh
      split at hb <;> (try (cases hb; done))
      rename_i bs' hbs
      simp only [Option.some.injEq] at hb
      subst hb
      simp only [CR, List.cons.injEq, and_true] at h2
      subst h2
      obtain ⟨ns, rfl, rfl⟩ := bytesOf_sound h3 hbs
      exact ⟨n :: ns, rfl, rfl⟩

theorem foldl_push : ∀ (ns : List Int) (s : ByteArray), ns.foldl (fun r n => r.push (UInt8.ofNat n.toNat)) s = ⟨s.data ++ (ns.map fun n => UInt8.ofNat n.toNat).toArray⟩
  | [], s => by simp
  | n :: ns, s => by
    rw [List.foldl_cons, foldl_push ns]
    simp [ByteArray.push]

theorem bytesStr_sound (hs : Sim μ σ w) {src dst e : TypeId} (h1 : P.underlying src = some (.slice e)) (he : P.underlying e = some (.int .u8)) (h2 : P.underlying dst = some .string) {x d : D} {v : Value} (hv : VR μ x v)
    (h : ibytesStr x σ = some d) : Does P μ (convert src dst v) w d σ := by
  have run : ∀ (b o len cap : Nat) (cs : List D) (vs : List Value) (bs : List UInt8), CRl μ cs vs → bytesOf cs = some bs → vs.length = len → (∀ i v, vs[i]? = some v → w.cell? ⟨b, o + i, none⟩ = some v) →
      (convert src dst (.slice (some ⟨b, o, none⟩) len cap)).run P w = .ok (.string ⟨bs.toArray⟩) w := by
    intro b o len cap cs vs bs hc hb hl hcell
    obtain ⟨ns, rfl, rfl⟩ := bytesOf_sound hc hb
    rw [run_convert_bytes_string w src dst e _ _ _ h1 he h2, run_bytesToString w _ len cap ns]
    · rw [foldl_push]; simp
    · rw [← hl]
      exact run_loadCells_list w ⟨b, o, none⟩ _ (fun j u hj => by rw [addr_add]; exact hcell j u hj)
  unfold ibytesStr at h
  split at h <;> (try (cases h; done))
  · simp only [Option.some.injEq] at h; subst h
    obtain rfl := hv.nils
    refine Does.of hs (VR.mk_str []) ?_
    rw [run_convert_bytes_string w src dst e _ _ _ h1 he h2]
    rfl
  · rename_i sz es r
    split at h <;> (try (cases h; done))
    rename_i hsz
    subst hsz
    simp only [Option.map_eq_some_iff] at h
    obtain ⟨bs, hb, rfl⟩ := h
    obtain ⟨b, o, cap, rfl, hes, _⟩ := hv.slc
    obtain ⟨vs, g1, g2⟩ := hes.to_e
    have hfl : CRl μ es vs := by
      have hc : ∀ (es : List D) (vs : List Value), CRe μ 1 es vs → (bytesOf es).isSome = true → CRl μ es vs := by
        intro es
        induction es with
        | nil => intro vs hh _; simp only [CRe] at hh; simp [hh, CRl]
        | cons x es ih =>
          intro vs hh hbo
          obtain ⟨us, ws, rfl, q2, q3, q4, q5⟩ := hh
          unfold bytesOf at hbo
          split at hbo <;> (try (cases hbo; done))
          · rename_i hx; cases hx
          · rename_i n r hx
            simp only [List.cons.injEq] at hx
            obtain ⟨rfl, rfl⟩ := hx
            split at hbo <;> (try (cases hbo; done))
            rename_i bs' hbs
            have q4' := q4
            simp only [CR] at q4
            subst q4
            simp only [CRl]
            exact ⟨_, ws, rfl, q4', ih ws q5 (by rw [hbs]; rfl)⟩
      exact hc es vs g1 (by rw [hb]; rfl)
    refine Does.of hs (VR.mk_str bs) (run b o _ cap es vs bs hfl hb (by simpa using g1.length) (fun i v hi => hs.imm _ _ _ (g2 i v hi)))
  · rename_i j off sz len r
    split at h <;> (try (cases h; done))
    rename_i hsz
    subst hsz
    split at h <;> (try (cases h; done))
    rename_i cs hj
    split at h <;> (try (cases h; done))
    rename_i hle
    simp only [Option.map_eq_some_iff] at h
    obtain ⟨bs, hb, rfl⟩ := h
    obtain ⟨b, o, cap, hl, rfl, _⟩ := hv.rslc
    obtain ⟨vs, g1, g2⟩ := hs.vals hj hl
    refine Does.of hs (VR.mk_str bs) (run b (o + off) _ cap _ _ bs ((g1.drop off).take len) hb (by simp [g1.length]; omega) (fun i v hi => ?_))
    rw [List.getElem?_take] at hi
    split at hi
    · rw [List.getElem?_drop] at hi
      rw [Nat.add_assoc]
      exact g2 _ _ hi
    · cases hi

end
end Go.Id

/-
  THE IDEAL LAYER, PART J: the resolution of an operation, and that the resolved one says what the model's does.
-/
namespace Go.Id
open Go.RowKit
set_option linter.unusedVariables false
set_option linter.unusedSimpArgs false

inductive IXop where
  | v (o : IOp)
  | call (f : Opd) (args : List Opd)
  | panic (x : Opd)
  | defer (f : Opd) (args : List Opd)
  | recover
  | ext (g : FuncId) (args : List Opd)
  | inv (x : Opd) (name : String) (args : List Opd)

structure IOper where
  dst : Option Nat
  op : IXop
  guard : Option (Nat × Bool)

def ropdO : Option Operand → Option (Option Opd)
  | none => some none
  | some x => (ropd x).map some

def ifaceT (P : Program) (t : TypeId) : Bool :=
  match P.underlying t with
  | some (.interface _) => true
  | _ => false

def sliceKind (P : Program) (t : TypeId) : Option (Option Nat) :=
  match P.underlying t with
  | some .string => some none
  | some (.slice e) => (P.info? e).map fun i => some i.size
  | _ => none

def rbin (P : Program) (op : BinOp) (t : TypeId) (x y : Operand) : Option IOp := do
  let ox ← ropd x
  let oy ← ropd y
  if op = .eql ∨ op = .neq then
    match eqKOf P t with
    | some k => some (.eq (decide (op = .neq)) k ox oy)
    | none => if ifaceT P t = true ∧ (isC x = true ∨ isC y = true) then some (.eq (decide (op = .neq)) .iface ox oy) else some (.bin op ox oy)
  else some (.bin op ox oy)

/-- Where, in the blocks whose shape is kept in mind, a variable of type 'u' lies. -/
def shapes (P : Program) (pol : TypeId → Bool) (u : TypeId) : List (Nat × Nat × Nat) :=
  ((List.range P.types.size).filter fun T => pol (1000000 + T)).flatMap fun T => match P.info? T with
    | some i => match i.zero with
      | some z => (List.range (vcells z).length).filterMap fun o => if liesAt P P.depth T ((vcells z).length / P.cellsOf T) o u 1 then some (T, (vcells z).length, o) else none
      | none => []
    | none => []
theorem shapes_ok {P : Program} {pol : TypeId → Bool} {u : TypeId} : (shapes P pol u).all (fun q => liesAt P P.depth q.1 (q.2.1 / P.cellsOf q.1) q.2.2 u 1) = true := by
  refine List.all_eq_true.2 fun q hq => ?_
  obtain ⟨T, _, hT⟩ := List.mem_flatMap.1 hq
  split at hT
  · split at hT
    · obtain ⟨o, _, ho⟩ := List.mem_filterMap.1 hT
      split at ho
      · rename_i hl
        simp only [Option.some.injEq] at ho
        subst ho; exact hl
      · cases ho
    · cases hT
  · cases hT
/-- The method that a type has by a name, not promoted. -/
def methD (P : Program) (t : TypeId) (name : String) : Option FuncId :=
  match P.info? t with
  | some i => match i.methods.find? (·.name == name) with
    | some m => if m.path.isEmpty then match m.func, P.underlying t with
        | some (g, true), some (.pointer _) => some g
        | some (_, true), _ => none
        | some (_, false), some (.pointer _) => none
        | some (g, false), some _ => some g
        | _, _ => none
      else none
    | none => none
  | none => none
/-- The methods of the types that are marked. -/
def meths (P : Program) (pol : TypeId → Bool) : List (Nat × String) :=
  ((List.range P.types.size).filter fun t => pol (3000000 + t)).flatMap fun t => match P.info? t with
    | some i => (i.methods.toList.map (·.name)).filterMap fun nm => if (methD P t nm).isSome then some (t, nm) else none
    | none => []
theorem meths_ok {P : Program} {pol : TypeId → Bool} {t : Nat} {name : String} (h : (meths P pol).any (fun q => Nat.beq q.1 t && q.2 == name) = true) : ∃ g, methD P t name = some g := by
  obtain ⟨q, hq, he⟩ := List.any_eq_true.1 h
  simp only [Bool.and_eq_true, Nat.beq_eq_true_eq, beq_iff_eq] at he
  obtain ⟨he1, he2⟩ := he
  obtain ⟨T, _, hT⟩ := List.mem_flatMap.1 hq
  split at hT
  · obtain ⟨nm, _, hn⟩ := List.mem_filterMap.1 hT
    split at hn
    · rename_i hs
      simp only [Option.some.injEq] at hn
      subst hn
      simp only at he1 he2
      subst he2
      have : T = t := Nat.eq_of_beq_eq_true he1
      subst this
      exact Option.isSome_iff_exists.1 hs
    · cases hn
  · cases hT
theorem run_nilAhead_of {P : Program} {t : TypeId} {name : String} {g : FuncId} (hm : methD P t name = some g) (n : Nat) (u : Value) (w : World) : (nilAhead (n + 1) t u name).run P w = .ok (some false) w := by
  unfold methD at hm
  split at hm <;> (try (cases hm; done))
  rename_i i hi
  split at hm <;> (try (cases hm; done))
  rename_i m hf
  split at hm <;> (try (cases hm; done))
  rename_i hp
  have hp2 : m.path.toList = [] := by simpa [Array.isEmpty] using hp
  split at hm <;> (try (cases hm; done))
  · rename_i g' el hfn hu
    simp [nilAhead, typeInfo, hi, hf, hp2, followBlind, hfn, underlying, hu, Sem.run]
  · rename_i g' ds hnp hfn hu
    cases ds <;> first | exact (hnp _ rfl).elim | simp [nilAhead, typeInfo, hi, hf, hp2, followBlind, hfn, underlying, hu, Sem.run]
/-- The operation with all that types say laid in. 'pol': of which types what is boxed is written no more. -/
def rop (P : Program) (pol : TypeId → Bool) (o : Oper) : Option IOp :=
  match o.op with
  | .move x | .assign x => (ropd x).map .mov
  | .pick c a b => do some (.pick (← ropd c) (← ropd a) (← ropd b))
  | .alloc t => do
    let i ← P.info? t
    let z ← i.zero
    some (if pol (1000000 + t) then .allocT ((vcells z).map ofS) t else .alloc ((vcells z).map ofS))
  | .box t x => do
    let o ← ropd x
    some (if pol (1000000 + t) then .boxT t o else if pol t then .boxV o else .box o)
  | .build t parts => do
    let (z, place) ← placesOf P t
    let ps ← placed place parts.toList
    some (.build ((vcells z).map ofS) ps)
  | .buildSlice t len parts =>
    match P.underlying t with
    | some (.slice el) => do
      let ie ← P.info? el
      let _ ← ie.zero
      let os ← (parts.toList.map (·.2)).mapM ropd
      if parts.size = len ∧ inOrder 0 parts.toList = true ∧ len * ie.size ≤ 16777216 then some (.buildSlice ie.size os) else none
    | _ => none
  | .load t x => do some (.load (← aggN P t) (← ropd x))
  | .store t a x => do some (.store (← P.info? t).size (← ropd a) (← ropd x))
  | .nilCheck x => do
    let ox ← ropd x
    some (if (meths P pol).isEmpty then .nilCheck ox else .nilMeth (meths P pol) ox)
  | .binOp op t x y _ => rbin P op t x y
  | .unOp op _ x => do some (.un op (← ropd x))
  | .convert src dst x =>
    match P.underlying src, P.underlying dst with
    | some _, some (.int k) => do some (.toInt k (← ropd x))
    | some (.slice e), some .string =>
      match P.underlying e with
      | some (.int .u8) => do some (.bytesStr (← ropd x))
      | _ => none
    | some _, some .string => do some (.toStr (← ropd x))
    | some (.pointer t), some .unsafePointer => do
      let i ← P.info? t
      if i.size ≠ 0 then some (.toUns (← ropd x)) else none
    | some .unsafePointer, some (.pointer u) => do
      let _ ← P.info? u
      some (.ofUns (shapes P pol u) (← ropd x))
    | _, _ => none
  | .makeInterface t x =>
    match P.underlying t with
    | some (.interface _) => none
    | some _ => do some (.mkIface t (← ropd x))
    | none => none
  | .makeFunc f first captured => do some (.mkFunc f (← first.toList.mapM ropd) (← captured.toList.mapM ropd))
  | .slice t x lo hi mx =>
    match P.underlying t with
    | some (.array n e) => do
      let ie ← P.info? e
      if mx.isNone then some (.sliceArr n ie.size (← ropd x) (← ropdO lo) (← ropdO hi)) else none
    | _ => do
    let ox ← ropd x
    let ol ← ropdO lo
    let oh ← ropdO hi
    let om ← ropdO mx
    match ← sliceKind P t with
    | none => if mx.isNone then some (.sliceStr ox ol oh) else none
    | some sz => some (.sliceSlc sz ox ol oh om)
  | .fieldAddr s x k =>
    match P.underlying s with
    | some (.struct fs) => do
      let f ← fs[k]?
      let i ← P.info? f.type
      if i.size ≠ 0 then some (.fieldAddr f.offset (← ropd x)) else none
    | _ => none
  | .field s x k =>
    match P.underlying s with
    | some (.struct fs) => do
      let f ← fs[k]?
      some (.field f.offset (← aggN P f.type) (← ropd x))
    | _ => none
  | .indexAddr t x i =>
    match P.underlying t with
    | some (.slice e) => do some (.idxAddrS (← P.info? e).size (← ropd x) (← ropd i))
    | some (.array n e) => do some (.idxAddrA n (← P.info? e).size (← ropd x) (← ropd i))
    | _ => none
  | .index t x i =>
    match P.underlying t with
    | some .string => do some (.idxStr (← ropd x) (← ropd i))
    | some (.array n e) => do some (.idxArr n (← P.info? e).size (← aggN P e) (← ropd x) (← ropd i))
    | _ => none
  | .extract x i => do some (.extract i (← ropd x))
  | .typeAssert x _ t true =>
    match P.underlying t with
    | some (.interface _) => none
    | some _ => do
      let i ← P.info? t
      let z ← i.zero
      some (.assert t (ofV z) (← ropd x))
    | none => none
  | .call { callee := .builtin .len, args, argTypes } =>
    match args.toList, argTypes.toList with
    | [x], [t] =>
      match P.underlying t with
      | some .string => do some (.lenStr (← ropd x))
      | some (.slice _) => do some (.lenSlc (← ropd x))
      | _ => none
    | _, _ => none
  | .call { callee := .builtin .append, args, argTypes } =>
    match args.toList, argTypes.toList with
    | [s, x], [t, tx] =>
      match P.underlying t, P.underlying tx with
      | some (.slice _), some (.int _) => none
      | some (.slice e), some _ => do
        let i ← P.info? e
        let z ← i.zero
        let os ← ropd s
        let ox ← ropd x
        if (vcells z).length = i.size then some (if pol (2000000 + t) then .appendT i.size i.bytes e os ox else if pol t then .appendR i.size i.bytes os ox else .append i.size i.bytes os ox) else none
      | _, _ => none
    | _, _ => none
  | .call { callee := .builtin .unsafeSliceData, args, .. } =>
    match args.toList with
    | [x] => do some (.sliceData (← ropd x))
    | _ => none
  | .call { callee := .builtin .unsafeString, args, argTypes } =>
    match args.toList, argTypes.toList with
    | [x, n], [pt, _] =>
      match P.underlying pt with
      | some (.pointer pe) => do some (.unsStr (if P.cellsOf pe = 1 then [pe] else []) (← ropd x) (← ropd n))
      | _ => none
    | _, _ => none
  | .call { callee := .builtin .min, args, .. } =>
    match args.toList with
    | [x, y] => do some (.mm false (← ropd x) (← ropd y))
    | _ => none
  | .call { callee := .builtin .max, args, .. } =>
    match args.toList with
    | [x, y] => do some (.mm true (← ropd x) (← ropd y))
    | _ => none
  | _ => none

/-- What the model's operation does, against the ideal's answer. -/
def DoesN (P : Program) (μ : Mu) (s : Sem Next) (w : World) (d : D) (σ : St) : Prop :=
  ∃ μ' v w', μ.le μ' ∧ Sim μ' σ w' ∧ VR μ' d v ∧ (s.run P w = .ok (.value v) w' ∨ s.run P w = .ok .skip w' ∧ v = undef)

section
variable {P : Program} {μ : Mu} {σ : St} {w : World}

theorem Does.value {s : Sem Value} {d : D} (h : Does P μ s w d σ) : DoesN P μ (do pure (.value (← s))) w d σ := by
  obtain ⟨μ', v, w', h1, h2, h3, h4⟩ := h
  exact ⟨μ', v, w', h1, h2, h3, .inl (by simp [h4])⟩

theorem bound_sound {e : List D} {a : Act} (he : ER μ e a) {x : Option Operand} {o : Option Opd} (h : ropdO x = some o) : BR μ (evO e o) (x.map a.eval) := by
  cases x with
  | none => simp [ropdO] at h; subst h; trivial
  | some x =>
    simp only [ropdO, Option.map_eq_some_iff] at h
    obtain ⟨y, h1, rfl⟩ := h
    exact ropd_sound he h1

theorem imm2_sound (mx : Bool) {x y d : D} {vx vy : Value} (hx : VR μ x vx) (hy : VR μ y vy) (h : imm2 mx x y = some d) :
    ∃ v, ((if mx = true then Builtin.max2 vx vy else Builtin.min2 vx vy) : Sem Value).run P w = .ok v w ∧ VR μ d v := by
  unfold imm2 at h
  split at h <;> (try (cases h; done))
  rename_i k a k' b
  simp only [Option.some.injEq] at h
  subst h
  rw [hx.int, hy.int]
  refine ⟨_, ?_, VR.mk_int _ _⟩
  cases mx <;> simp [Builtin.max2, Builtin.min2]
theorem rop_sound {pol : TypeId → Bool} {o : Oper} {io : IOp} (hr : rop P pol o = some io) {e : List D} {a : Act} (he : ER μ e a) (hs : Sim μ σ w) {d : D} {σ' : St}
    (h : iop io e σ = some (d, σ')) : DoesN P μ (execOp a.eval o) w d σ' := by
  unfold rop at hr
  unfold execOp
  split at hr <;> rename_i hop <;> simp only [hop]
  · -- move
    simp only [Option.map_eq_some_iff] at hr
    obtain ⟨ox, h1, rfl⟩ := hr
    simp only [iop, Option.some.injEq, Prod.mk.injEq] at h
    obtain ⟨rfl, rfl⟩ := h
    exact ⟨μ, _, w, Mu.le.refl μ, hs, ropd_sound he h1, .inl rfl⟩
  · simp only [Option.map_eq_some_iff] at hr
    obtain ⟨ox, h1, rfl⟩ := hr
    simp only [iop, Option.some.injEq, Prod.mk.injEq] at h
    obtain ⟨rfl, rfl⟩ := h
    exact ⟨μ, _, w, Mu.le.refl μ, hs, ropd_sound he h1, .inl rfl⟩
  · -- pick
    simp only [Option.bind_eq_bind, Option.bind_eq_some_iff, Option.some.injEq] at hr
    obtain ⟨oc, h1, oa, h2, ob, h3, rfl⟩ := hr
    simp only [iop] at h
    split at h <;> (try (cases h; done))
    rename_i t ht
    simp only [Option.some.injEq, Prod.mk.injEq] at h
    obtain ⟨rfl, rfl⟩ := h
    have hc := ropd_sound he h1
    rw [ht] at hc
    rename_i pc pa pb _
    refine ⟨μ, if t then a.eval pa else a.eval pb, w, Mu.le.refl μ, hs, ?_, .inl ?_⟩
    · cases t
      · exact ropd_sound he h3
      · exact ropd_sound he h2
    · rw [hc.bool]; simp [asBool]
  · -- alloc
    simp only [Option.bind_eq_bind, Option.bind_eq_some_iff, Option.some.injEq] at hr
    obtain ⟨i, h1, z, h2, rfl⟩ := hr
    split at h
    · simp only [iop, Option.some.injEq, Prod.mk.injEq] at h
      obtain ⟨rfl, rfl⟩ := h
      exact (allocT_sound hs h1 h2).value
    simp only [iop, Option.some.injEq, Prod.mk.injEq] at h
    obtain ⟨rfl, rfl⟩ := h
    exact (alloc_sound hs h1 h2).value
  · -- box
    simp only [Option.bind_eq_bind, Option.bind_eq_some_iff, Option.some.injEq] at hr
    obtain ⟨ox, h1, rfl⟩ := hr
    split at h
    · simp only [iop] at h
      split at h <;> (try (cases h; done))
      rename_i cs hc
      simp only [Option.some.injEq, Prod.mk.injEq] at h
      obtain ⟨rfl, rfl⟩ := h
      exact (boxT_sound hs _ (ropd_sound he h1) hc).value
    split at h
    · simp only [iop] at h
      split at h <;> (try (cases h; done))
      rename_i cs hc
      simp only [Option.some.injEq, Prod.mk.injEq] at h
      obtain ⟨rfl, rfl⟩ := h
      exact (boxV_sound hs _ (ropd_sound he h1) hc).value
    · simp only [iop] at h
      split at h <;> (try (cases h; done))
      rename_i cs hc
      simp only [Option.some.injEq, Prod.mk.injEq] at h
      obtain ⟨rfl, rfl⟩ := h
      exact (box_sound hs _ (ropd_sound he h1) hc).value
  · -- build
    simp only [Option.bind_eq_bind, Option.bind_eq_some_iff, Option.some.injEq] at hr
    obtain ⟨⟨z, place⟩, h1, ps, h2, rfl⟩ := hr
    simp only [iop] at h
    split at h <;> (try (cases h; done))
    rename_i cs hc
    simp only [Option.some.injEq, Prod.mk.injEq] at h
    obtain ⟨rfl, rfl⟩ := h
    exact (build_sound he hs h1 h2 hc).value
  · -- buildSlice
    split at hr <;> (try (cases hr; done))
    rename_i el hu
    simp only [Option.bind_eq_bind, Option.bind_eq_some_iff] at hr
    obtain ⟨ie, h1, z, h2, os, h3, hr⟩ := hr
    split at hr <;> (try (cases hr; done))
    rename_i hc
    simp only [Option.some.injEq] at hr
    subst hr
    simp only [iop] at h
    split at h <;> (try (cases h; done))
    rename_i hall
    simp only [Option.some.injEq, Prod.mk.injEq] at h
    obtain ⟨rfl, rfl⟩ := h
    exact (buildSlice_sound he hs hu h1 h2 hc.1 hc.2.1 hc.2.2 h3 hall).value
  · -- load
    simp only [Option.bind_eq_bind, Option.bind_eq_some_iff, Option.some.injEq] at hr
    obtain ⟨n, h1, ox, h2, rfl⟩ := hr
    simp only [iop] at h
    split at h <;> (try (cases h; done))
    rename_i x hx
    simp only [Option.some.injEq, Prod.mk.injEq] at h
    obtain ⟨rfl, rfl⟩ := h
    obtain ⟨u, g1, g2⟩ := iload_sound hs h1 (ropd_sound he h2) hx
    exact ⟨μ, u, w, Mu.le.refl μ, hs, g2, .inl (by simp [g1])⟩
  · -- store
    simp only [Option.bind_eq_bind, Option.bind_eq_some_iff, Option.some.injEq] at hr
    obtain ⟨i, h1, oa, h2, ox, h3, rfl⟩ := hr
    simp only [iop] at h
    split at h <;> (try (cases h; done))
    rename_i σ1 hx
    simp only [Option.some.injEq, Prod.mk.injEq] at h
    obtain ⟨rfl, rfl⟩ := h
    obtain ⟨w', g1, g2⟩ := istore_sound hs h1 (ropd_sound he h2) (ropd_sound he h3) hx
    exact ⟨μ, undef, w', Mu.le.refl μ, g2, VR.junk _, .inr ⟨by simp [g1], rfl⟩⟩
  · -- nilCheck
    simp only [Option.bind_eq_bind, Option.bind_eq_some_iff, Option.some.injEq] at hr
    obtain ⟨ox, h1, hr⟩ := hr
    have hv := ropd_sound he h1
    have key : (∀ dd, inilM (meths P pol) (ox.ev e) = some dd → DoesN P μ (match a.eval ‹Operand› with
        | .pointer none | .nilIface | .nilFunc => runtimePanic .nilDeref
        | .func (.method name) first captured =>
          match (first[0]? : Option Value) with
          | some .nilIface => runtimePanic .nilDeref
          | some (.iface t w) => do
            if (← nilAhead ((← program).types.size + Made.depth) t w name) != some false then
              unsupported (.noEntry "op/nilCheck.the method's receiver behind this interface value is a nil pointer, or cannot be seen to be none, and the arguments act or may panic (ledger 612)")
            pure (.value (.func (.method name) first captured))
          | _ => pure (.value (.func (.method name) first captured))
        | x => pure (.value x)) w dd σ) := by
      intro dd hd
      unfold inilM at hd
      split at hd <;> (try (cases hd; done))
      · rename_i hx
        simp only [Option.some.injEq] at hd; subst hd
        rw [hx] at hv
        have hv' := hv
        obtain ⟨b, o, h2, _⟩ := hv.box
        rw [h2] at hv' ⊢
        exact ⟨μ, _, w, Mu.le.refl μ, hs, hv', .inl rfl⟩
      · rename_i hx
        simp only [Option.some.injEq] at hd; subst hd
        rw [hx] at hv
        have hv' := hv
        obtain ⟨b, o, _, h2⟩ := hv.ref
        rw [h2] at hv' ⊢
        exact ⟨μ, _, w, Mu.le.refl μ, hs, hv', .inl rfl⟩
      · rename_i hx
        simp only [Option.some.injEq] at hd; subst hd
        rw [hx] at hv
        have hv' := hv
        obtain ⟨fs, cs, h2, _⟩ := hv.func
        rw [h2] at hv' ⊢
        exact ⟨μ, _, w, Mu.le.refl μ, hs, hv', .inl rfl⟩
      · rename_i name t d b hx
        split at hd <;> (try (cases hd; done))
        rename_i htb
        simp only [Option.some.injEq] at hd; subst hd
        obtain ⟨g, hg⟩ := meths_ok htb
        rw [hx] at hv
        have hv' := hv
        obtain ⟨fs, cs, h2, c1, _⟩ := hv.func
        simp only [CRt] at c1
        obtain ⟨v0, ws, rfl, ho, hc, rfl⟩ := c1
        obtain ⟨u, hu, _⟩ := VR.iface (show VR μ (.iface t d) v0 from ⟨ho, hc⟩)
        subst hu
        rw [h2] at hv' ⊢
        have hd' : P.types.size + Made.depth = (P.types.size + (Made.depth - 1)) + 1 := by have : Made.depth ≠ 0 := by decide
                                                                                           omega
        refine ⟨μ, _, w, Mu.le.refl μ, hs, hv', .inl ?_⟩
        have h0 : (⟨[Value.iface t u]⟩ : Array Value)[0]? = some (Value.iface t u) := rfl
        simp [run_nilAhead_of hg, hd', h0]
    split at hr
    · subst hr
      simp only [iop] at h
      split at h <;> (try (cases h; done)) <;> rename_i hx <;> simp only [Option.some.injEq, Prod.mk.injEq] at h <;> obtain ⟨rfl, rfl⟩ := h <;> exact key _ (by rw [hx]; rfl)
    · subst hr
      simp only [iop] at h
      split at h <;> (try (cases h; done))
      rename_i dd hd
      simp only [Option.some.injEq, Prod.mk.injEq] at h
      obtain ⟨rfl, rfl⟩ := h
      exact key _ hd
  · -- binOp
    rename_i op t x y _
    unfold rbin at hr
    simp only [Option.bind_eq_bind, Option.bind_eq_some_iff] at hr
    obtain ⟨ox, h1, oy, h2, hr⟩ := hr
    have hx := ropd_sound he h1
    have hy := ropd_sound he h2
    split at hr
    · rename_i ho
      have hneg : ∀ b, (if (decide (op = BinOp.neq)) = true then !b else b) = (if op = .neq then !b else b) := by intro b; simp
      split at hr
      · rename_i k hk
        simp only [Option.some.injEq] at hr; subst hr
        simp only [iop] at h
        split at h <;> (try (cases h; done))
        rename_i b hb
        simp only [Option.some.injEq, Prod.mk.injEq] at h
        obtain ⟨rfl, rfl⟩ := h
        rw [hneg]
        exact (ieq_sound hs ho hk x y hx hy hb).value
      · split at hr
        · rename_i hc
          simp only [Option.some.injEq] at hr; subst hr
          simp only [iop] at h
          split at h <;> (try (cases h; done))
          rename_i b hb
          simp only [Option.some.injEq, Prod.mk.injEq] at h
          obtain ⟨rfl, rfl⟩ := h
          rw [hneg]
          obtain ⟨hi, hcc⟩ := hc
          unfold ifaceT at hi
          split at hi <;> (try (cases hi; done))
          rename_i ms hu
          exact (ieqI_sound hs ho hu x y hcc hx hy hb).value
        · simp only [Option.some.injEq] at hr; subst hr
          simp only [iop] at h
          split at h <;> (try (cases h; done))
          rename_i r hb
          simp only [Option.some.injEq, Prod.mk.injEq] at h
          obtain ⟨rfl, rfl⟩ := h
          exact (ibin_sound hs op t x y hx hy hb).value
    · simp only [Option.some.injEq] at hr; subst hr
      simp only [iop] at h
      split at h <;> (try (cases h; done))
      rename_i r hb
      simp only [Option.some.injEq, Prod.mk.injEq] at h
      obtain ⟨rfl, rfl⟩ := h
      exact (ibin_sound hs op t x y hx hy hb).value
  · -- unOp
    simp only [Option.bind_eq_bind, Option.bind_eq_some_iff, Option.some.injEq] at hr
    obtain ⟨ox, h1, rfl⟩ := hr
    simp only [iop] at h
    split at h <;> (try (cases h; done))
    rename_i r hb
    simp only [Option.some.injEq, Prod.mk.injEq] at h
    obtain ⟨rfl, rfl⟩ := h
    exact (iun_sound hs _ (ropd_sound he h1) hb).value
  · -- convert
    split at hr <;> (try (cases hr; done))
    · rename_i h1 h2
      simp only [Option.bind_eq_bind, Option.bind_eq_some_iff, Option.some.injEq] at hr
      obtain ⟨ox, h3, rfl⟩ := hr
      simp only [iop] at h
      split at h <;> (try (cases h; done))
      rename_i hx
      simp only [Option.some.injEq, Prod.mk.injEq] at h
      obtain ⟨rfl, rfl⟩ := h
      have hv := ropd_sound he h3
      rw [hx] at hv
      exact (toInt_sound hs h1 h2 hv).value
    · rename_i h1 h2
      split at hr <;> (try (cases hr; done))
      rename_i hel
      simp only [Option.bind_eq_bind, Option.bind_eq_some_iff, Option.some.injEq] at hr
      obtain ⟨ox, h3, rfl⟩ := hr
      simp only [iop] at h
      split at h <;> (try (cases h; done))
      rename_i r hx
      simp only [Option.some.injEq, Prod.mk.injEq] at h
      obtain ⟨rfl, rfl⟩ := h
      exact (bytesStr_sound hs h1 hel h2 (ropd_sound he h3) hx).value
    · rename_i h1 h2 _
      simp only [Option.bind_eq_bind, Option.bind_eq_some_iff, Option.some.injEq] at hr
      obtain ⟨ox, h3, rfl⟩ := hr
      simp only [iop] at h
      split at h <;> (try (cases h; done))
      rename_i hx
      simp only [Option.some.injEq, Prod.mk.injEq] at h
      obtain ⟨rfl, rfl⟩ := h
      have hv := ropd_sound he h3
      rw [hx] at hv
      first | exact (toStr_sound hs h1 h2 hv).value | exact (toStr_sound hs ‹_› h1 hv).value | exact (toStr_sound hs ‹_› ‹_› hv).value
    · rename_i h1 h2
      simp only [Option.bind_eq_bind, Option.bind_eq_some_iff] at hr
      obtain ⟨i, h3, hr⟩ := hr
      split at hr <;> (try (cases hr; done))
      rename_i hz
      simp only [Option.bind_eq_some_iff, Option.some.injEq] at hr
      obtain ⟨ox, h4, rfl⟩ := hr
      simp only [iop] at h
      split at h <;> (try (cases h; done))
      rename_i hx
      simp only [Option.some.injEq, Prod.mk.injEq] at h
      obtain ⟨rfl, rfl⟩ := h
      exact (toUns_sound hs h1 h2 h3 hz (ropd_sound he h4) hx).value
    · rename_i h1 h2
      simp only [Option.bind_eq_bind, Option.bind_eq_some_iff, Option.some.injEq] at hr
      obtain ⟨i, h3, ox, h4, rfl⟩ := hr
      simp only [iop] at h
      split at h <;> (try (cases h; done))
      rename_i hx
      simp only [Option.some.injEq, Prod.mk.injEq] at h
      obtain ⟨rfl, rfl⟩ := h
      exact (ofUns_sound hs h1 h2 h3 shapes_ok (ropd_sound he h4) hx).value
  · -- makeInterface
    split at hr <;> (try (cases hr; done))
    rename_i dsc hne hu
    simp only [Option.bind_eq_bind, Option.bind_eq_some_iff, Option.some.injEq] at hr
    obtain ⟨ox, h1, rfl⟩ := hr
    simp only [iop, Option.some.injEq, Prod.mk.injEq] at h
    obtain ⟨rfl, rfl⟩ := h
    exact (mkIface_sound hs hu (fun ms hm => hne ms hm) (ropd_sound he h1)).value
  · -- makeFunc
    simp only [Option.bind_eq_bind, Option.bind_eq_some_iff, Option.some.injEq] at hr
    obtain ⟨fo, h1, co, h2, rfl⟩ := hr
    simp only [iop, Option.some.injEq, Prod.mk.injEq] at h
    obtain ⟨rfl, rfl⟩ := h
    exact (mkFunc_sound hs he h1 h2).value
  · -- slice
    split at hr
    · rename_i n el hu
      simp only [Option.bind_eq_bind, Option.bind_eq_some_iff] at hr
      obtain ⟨ie, h1, hr⟩ := hr
      split at hr <;> (try (cases hr; done))
      rename_i hmx
      simp only [Option.bind_eq_some_iff, Option.some.injEq] at hr
      obtain ⟨ox, h2, ol, h3, oh, h4, rfl⟩ := hr
      simp only [iop] at h
      split at h <;> (try (cases h; done))
      rename_i r hb
      simp only [Option.some.injEq, Prod.mk.injEq] at h
      obtain ⟨rfl, rfl⟩ := h
      have := (sliceArr_sound hs hu h1 (ropd_sound he h2) (bound_sound he h3) (bound_sound he h4) hb).value
      simp only [Option.isNone_iff_eq_none] at hmx
      subst hmx
      exact this
    simp only [Option.bind_eq_bind, Option.bind_eq_some_iff] at hr
    obtain ⟨ox, h1, ol, h2, oh, h3, om, h4, sk, h5, hr⟩ := hr
    have hx := ropd_sound he h1
    have hl := bound_sound he h2
    have hh := bound_sound he h3
    have hm := bound_sound he h4
    unfold sliceKind at h5
    split at h5 <;> (try (cases h5; done))
    · rename_i hu
      simp only [Option.some.injEq] at h5; subst h5
      simp only at hr
      split at hr <;> (try (cases hr; done))
      rename_i hmx
      simp only [Option.some.injEq] at hr; subst hr
      simp only [iop] at h
      split at h <;> (try (cases h; done))
      rename_i s hsx
      split at h <;> (try (cases h; done))
      rename_i r hb
      simp only [Option.some.injEq, Prod.mk.injEq] at h
      obtain ⟨rfl, rfl⟩ := h
      rw [hsx] at hx
      have := (sliceStr_sound hs hu hx hl hh hb).value
      simp only [Option.isNone_iff_eq_none] at hmx
      subst hmx
      exact this
    · rename_i el hu
      simp only [Option.map_eq_some_iff] at h5
      obtain ⟨ie, h6, rfl⟩ := h5
      simp only [Option.some.injEq] at hr; subst hr
      simp only [iop] at h
      split at h <;> (try (cases h; done))
      rename_i r hb
      simp only [Option.some.injEq, Prod.mk.injEq] at h
      obtain ⟨rfl, rfl⟩ := h
      exact (sliceSlc_sound hs hu h6 hx hl hh hm hb).value
  · -- fieldAddr
    split at hr <;> (try (cases hr; done))
    rename_i fs hu
    simp only [Option.bind_eq_bind, Option.bind_eq_some_iff] at hr
    obtain ⟨f, h1, i, h2, hr⟩ := hr
    split at hr <;> (try (cases hr; done))
    rename_i h0
    simp only [Option.bind_eq_some_iff, Option.some.injEq] at hr
    obtain ⟨ox, h3, rfl⟩ := hr
    have hv := ropd_sound he h3
    simp only [iop] at h
    split at h <;> (try (cases h; done)) <;> rename_i hx <;> simp only [Option.some.injEq, Prod.mk.injEq] at h <;> obtain ⟨rfl, rfl⟩ := h <;> rw [hx] at hv
    · exact (fieldAddr_sound hs hu h1 h2 h0 hv rfl).value
    · exact (fieldAddr_sound hs hu h1 h2 h0 hv rfl).value
  · -- field
    split at hr <;> (try (cases hr; done))
    rename_i fs hu
    simp only [Option.bind_eq_bind, Option.bind_eq_some_iff, Option.some.injEq] at hr
    obtain ⟨f, h1, n, h2, ox, h3, rfl⟩ := hr
    have hv := ropd_sound he h3
    simp only [iop] at h
    split at h <;> (try (cases h; done))
    rename_i cs hx
    split at h <;> (try (cases h; done))
    rename_i r hb
    simp only [Option.some.injEq, Prod.mk.injEq] at h
    obtain ⟨rfl, rfl⟩ := h
    rw [hx] at hv
    exact (field_sound hs hu h1 h2 hv hb).value
  · -- indexAddr
    split at hr <;> (try (cases hr; done)) <;> rename_i hu <;> simp only [Option.bind_eq_bind, Option.bind_eq_some_iff, Option.some.injEq] at hr <;> obtain ⟨ie, h1, ox, h2, oi, h3, rfl⟩ := hr <;>
      simp only [iop] at h <;> split at h <;> (try (cases h; done)) <;> rename_i r hb <;> simp only [Option.some.injEq, Prod.mk.injEq] at h <;> obtain ⟨rfl, rfl⟩ := h
    · exact (idxAddrS_sound hs hu h1 (ropd_sound he h2) (ropd_sound he h3) hb).value
    · exact (idxAddrA_sound hs hu h1 (ropd_sound he h2) (ropd_sound he h3) hb).value
  · -- index
    split at hr <;> (try (cases hr; done)) <;> rename_i hu <;> simp only [Option.bind_eq_bind, Option.bind_eq_some_iff, Option.some.injEq] at hr
    · obtain ⟨ox, h2, oi, h3, rfl⟩ := hr
      simp only [iop] at h
      split at h <;> (try (cases h; done))
      rename_i r hb
      simp only [Option.some.injEq, Prod.mk.injEq] at h
      obtain ⟨rfl, rfl⟩ := h
      exact (idxStr_sound hs hu (ropd_sound he h2) (ropd_sound he h3) hb).value
    · obtain ⟨ie, h1, m, h4, ox, h2, oi, h3, rfl⟩ := hr
      simp only [iop] at h
      split at h <;> (try (cases h; done))
      rename_i cs k n hx hi
      split at h <;> (try (cases h; done))
      rename_i hc
      split at h <;> (try (cases h; done))
      rename_i r hb
      simp only [Option.some.injEq, Prod.mk.injEq] at h
      obtain ⟨rfl, rfl⟩ := h
      have hvx := ropd_sound he h2
      have hvi := ropd_sound he h3
      rw [hx] at hvx
      rw [hi] at hvi
      exact (idxArr_sound hs hu h1 h4 hvx hvi hc.1 hc.2 hb).value
  · -- extract
    simp only [Option.bind_eq_bind, Option.bind_eq_some_iff, Option.some.injEq] at hr
    obtain ⟨ox, h1, rfl⟩ := hr
    have hv := ropd_sound he h1
    simp only [iop] at h
    split at h <;> (try (cases h; done))
    rename_i ds hx
    split at h <;> (try (cases h; done))
    rename_i r hb
    simp only [Option.some.injEq, Prod.mk.injEq] at h
    obtain ⟨rfl, rfl⟩ := h
    rw [hx] at hv
    exact (extract_sound hs hv hb).value
  · -- typeAssert
    rename_i px pxt pt
    split at hr <;> (try (cases hr; done))
    rename_i dsc hne hu
    simp only [Option.bind_eq_bind, Option.bind_eq_some_iff, Option.some.injEq] at hr
    obtain ⟨i, h1, z, h2, ox, h3, rfl⟩ := hr
    have hv := ropd_sound he h3
    simp only [iop] at h
    split at h <;> (try (cases h; done))
    rename_i r hb
    simp only [Option.some.injEq, Prod.mk.injEq] at h
    obtain ⟨rfl, rfl⟩ := h
    exact (assert_sound hs hu (fun ms hm => hne ms hm) h1 h2 hv hb).value
  · -- len
    rename_i args argTypes
    split at hr <;> (try (cases hr; done))
    rename_i x t hargs hts
    have ha : args = #[x] := by apply Array.ext'; simp [hargs]
    have hat : argTypes = #[t] := by apply Array.ext'; simp [hts]
    subst ha; subst hat
    have hrun : ∀ (s : Sem Value), (Builtin.len_ #[t] o.type #[a.eval x]) = s → DoesN P μ (do pure (.value (← s))) w d σ' →
        DoesN P μ (do let d ← resolve a.eval { callee := .builtin .len, args := #[x], argTypes := #[t] } o.type; invoke d.target d.args) w d σ' := by
      rintro s rfl hh
      simpa [DoesN, resolve, invoke, builtin] using hh
    split at hr <;> (try (cases hr; done)) <;> rename_i hu <;> simp only [Option.bind_eq_bind, Option.bind_eq_some_iff, Option.some.injEq] at hr <;> obtain ⟨ox, h1, rfl⟩ := hr <;>
      simp only [iop] at h <;> split at h <;> (try (cases h; done))
    · rename_i s hx
      simp only [Option.some.injEq, Prod.mk.injEq] at h
      obtain ⟨rfl, rfl⟩ := h
      have hv := ropd_sound he h1
      rw [hx] at hv
      exact hrun _ rfl (lenStr_sound hs hu hv).value
    · rename_i r hx
      simp only [Option.some.injEq, Prod.mk.injEq] at h
      obtain ⟨rfl, rfl⟩ := h
      exact hrun _ rfl (lenSlc_sound hs hu (ropd_sound he h1) hx).value
  · -- append
    rename_i args argTypes
    split at hr <;> (try (cases hr; done))
    rename_i s x t tx hargs hts
    have ha : args = #[s, x] := by apply Array.ext'; simp [hargs]
    have hat : argTypes = #[t, tx] := by apply Array.ext'; simp [hts]
    subst ha; subst hat
    split at hr <;> (try (cases hr; done))
    rename_i el dx hne h1 h2
    simp only [Option.bind_eq_bind, Option.bind_eq_some_iff] at hr
    obtain ⟨i, h3, z, h4, os, h5, ox, h6, hr⟩ := hr
    split at hr <;> (try (cases hr; done))
    rename_i hz
    simp only [Option.some.injEq] at hr
    subst hr
    split at h
    · simp only [iop] at h
      have := (iappendT_sound (ty := o.type) hs h1 h2 (fun k hk => hne k hk) h3 h4 hz (ropd_sound he h5) (ropd_sound he h6) h).value
      simpa [DoesN, resolve, invoke, builtin] using this
    split at h
    · simp only [iop] at h
      have := (iappendR_sound (ty := o.type) hs h1 h2 (fun k hk => hne k hk) h3 h4 hz (ropd_sound he h5) (ropd_sound he h6) h).value
      simpa [DoesN, resolve, invoke, builtin] using this
    simp only [iop] at h
    have := (iappend_sound (ty := o.type) hs h1 h2 (fun k hk => hne k hk) h3 h4 hz (ropd_sound he h5) (ropd_sound he h6) h).value
    simpa [DoesN, resolve, invoke, builtin] using this
  · -- unsafe.SliceData
    rename_i args ts
    split at hr <;> (try (cases hr; done))
    rename_i x hargs
    have ha : args = #[x] := by apply Array.ext'; simp [hargs]
    subst ha
    simp only [Option.bind_eq_bind, Option.bind_eq_some_iff, Option.some.injEq] at hr
    obtain ⟨ox, h1, rfl⟩ := hr
    simp only [iop] at h
    split at h <;> (try (cases h; done))
    rename_i hx
    simp only [Option.some.injEq, Prod.mk.injEq] at h
    obtain ⟨rfl, rfl⟩ := h
    have := (sliceData_sound (P := P) (ts := ts) (ty := o.type) hs (ropd_sound he h1) hx).value
    simpa [DoesN, resolve, invoke, builtin] using this
  · -- unsafe.String
    rename_i args ts
    split at hr <;> (try (cases hr; done))
    rename_i x n pt it hargs hts
    have ha : args = #[x, n] := by apply Array.ext'; simp [hargs]
    have hat : ts = #[pt, it] := by apply Array.ext'; simp [hts]
    subst ha; subst hat
    split at hr <;> (try (cases hr; done))
    rename_i pe hp
    simp only [Option.bind_eq_bind, Option.bind_eq_some_iff, Option.some.injEq] at hr
    obtain ⟨ox, h1, on, h2, rfl⟩ := hr
    simp only [iop] at h
    have := (unsStr_sound (P := P) (it := it) (ty := o.type) hs hp (by split <;> simp_all) (ropd_sound he h1) (ropd_sound he h2) h).value
    simpa [DoesN, resolve, invoke, builtin] using this
  · -- min
    rename_i args ts
    split at hr <;> (try (cases hr; done))
    rename_i x y hargs
    have ha : args = #[x, y] := by apply Array.ext'; simp [hargs]
    subst ha
    simp only [Option.bind_eq_bind, Option.bind_eq_some_iff, Option.some.injEq] at hr
    obtain ⟨ox, h1, oy, h2, rfl⟩ := hr
    simp only [iop] at h
    split at h <;> (try (cases h; done))
    rename_i dd hx
    simp only [Option.some.injEq, Prod.mk.injEq] at h
    obtain ⟨rfl, rfl⟩ := h
    obtain ⟨u, g1, g2⟩ := imm2_sound (w := w) (P := P) false (ropd_sound he h1) (ropd_sound he h2) hx
    refine ⟨μ, u, w, Mu.le.refl μ, hs, g2, .inl ?_⟩
    simp only [if_true, if_false, Bool.false_eq_true] at g1
    simp [resolve, invoke, builtin, Builtin.min_, g1]
  · -- max
    rename_i args ts
    split at hr <;> (try (cases hr; done))
    rename_i x y hargs
    have ha : args = #[x, y] := by apply Array.ext'; simp [hargs]
    subst ha
    simp only [Option.bind_eq_bind, Option.bind_eq_some_iff, Option.some.injEq] at hr
    obtain ⟨ox, h1, oy, h2, rfl⟩ := hr
    simp only [iop] at h
    split at h <;> (try (cases h; done))
    rename_i dd hx
    simp only [Option.some.injEq, Prod.mk.injEq] at h
    obtain ⟨rfl, rfl⟩ := h
    obtain ⟨u, g1, g2⟩ := imm2_sound (w := w) (P := P) true (ropd_sound he h1) (ropd_sound he h2) hx
    refine ⟨μ, u, w, Mu.le.refl μ, hs, g2, .inl ?_⟩
    simp only [if_true, if_false, Bool.false_eq_true] at g1
    simp [resolve, invoke, builtin, Builtin.max_, g1]
  · cases hr

end
end Go.Id
