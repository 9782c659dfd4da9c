/-
  SLICES, PART 1: 'slices.Insert' at variables, by contents.
-/
import Derived.Test.YthiidchbaicfgaaGreatDoorZ0
namespace Go.Proofs.YthiidchbaicfgaaGreatDoor
open Go Go.RowKit Go.Lib Go.Id
set_option linter.unusedVariables false
set_option linter.unusedSimpArgs false

/-- A world that reads alike bears the same relation. -/
theorem sim_alike {μ : Mu} {σ : St} {w1 w2 : World} (h : Sim μ σ w1) (hc : ∀ b o, w2.cell? ⟨b, o, none⟩ = w1.cell? ⟨b, o, none⟩) (hf : ∀ b o, w2.frozen? ⟨b, o, none⟩ = w1.frozen? ⟨b, o, none⟩) (hs : w2.heap.size = w1.heap.size)
    (hb : Below μ.w0.heap.size μ.w0 w2) (hty : ∀ f j T n, σ.obj f = some (.ty j T n) → ∃ (b : Nat) (cur : Array Value), μ.loc j = some (b, 0) ∧ w2.heap[b]? = some (Obj.cells cur T (0, 0)) ∧ ∀ k, n = some k → cur.size = k) : Sim μ σ w2 := by
  refine ⟨fun b o v e => by rw [hc]; exact h.imm b o v e, fun j cs e => ?_, fun t e => ?_, fun b o hle => h.blk b o (by rw [hs] at hle; exact hle), h.nxt, hb, hty⟩
  · obtain ⟨b, o, h1, h2, h3, h4⟩ := h.obj j cs e
    exact ⟨b, o, h1, h2, by rw [hs]; exact h3, fun i d hd => by rw [hf, hc]; exact h4 i d hd⟩
  · obtain ⟨b, o, k, h1, h2, h3, h4⟩ := h.tok t e
    exact ⟨b, o, k, h1, h2, by rw [hs]; exact h3, fun i hi => by rw [hf, hc]; exact h4 i hi⟩
theorem cell_set (b : Nat) (vs : List Value) (o : Nat) (w : World) (hs : ∀ j, j < vs.length → (w.cell? ⟨b, o + j, none⟩).isSome = true) (b' x : Nat) :
    (w.setCells b o vs).cell? ⟨b', x, none⟩ = if b' = b ∧ o ≤ x ∧ x < o + vs.length then vs[x - o]? else w.cell? ⟨b', x, none⟩ := by
  split
  · rename_i h
    obtain ⟨rfl, h1, h2⟩ := h
    have := World.cell?_setCells_in b' vs o w hs (x - o) (by omega)
    rw [show o + (x - o) = x by omega] at this
    rw [this, List.getElem?_eq_getElem (by omega)]
  · rename_i h
    exact World.cell?_setCells_out b vs o w ⟨b', x, none⟩ (fun h1 _ => by simp only at h1 ⊢; omega)
theorem some_set (b : Nat) (vs : List Value) (o : Nat) (w : World) (hs : ∀ j, j < vs.length → (w.cell? ⟨b, o + j, none⟩).isSome = true) {b' x : Nat} (hx : (w.cell? ⟨b', x, none⟩).isSome = true) : ((w.setCells b o vs).cell? ⟨b', x, none⟩).isSome = true := by
  rw [cell_set b vs o w hs]
  split
  · rw [List.getElem?_eq_getElem (by omega)]; rfl
  · exact hx
/-- What is there behind. -/
def insL {α : Type} (cs vs : List α) (k : Nat) : List α := cs.take (k * 2) ++ vs ++ cs.drop (k * 2)
theorem insL_len {α : Type} {cs vs : List α} {k n : Nat} (hk : k ≤ n) (hl : cs.length = n * 2) (hv : vs.length = 2) : (insL cs vs k).length = n * 2 + 2 := by
  simp only [insL, List.length_append, List.length_take, List.length_drop]; omega
theorem insL_at {α : Type} {cs vs : List α} {k n : Nat} (hk : k ≤ n) (hl : cs.length = n * 2) (hv : vs.length = 2) (y : Nat) :
    (insL cs vs k)[y]? = if y < k * 2 then cs[y]? else if y < k * 2 + 2 then vs[y - k * 2]? else cs[y - 2]? := by
  have hlt : (cs.take (k * 2)).length = k * 2 := by rw [List.length_take]; omega
  simp only [insL, List.append_assoc]
  rw [List.getElem?_append, hlt]
  split
  · rename_i h; rw [List.getElem?_take, if_pos h]
  · rename_i h
    rw [List.getElem?_append, hv]
    split
    · rw [if_pos (by omega)]
    · rw [if_neg (by omega), List.getElem?_drop]
      congr 1; omega
theorem crl_ins {μ : Mu} {cs ds : List D} {vs ws : List Value} (h1 : CRl μ cs vs) (h2 : CRl μ ds ws) (k : Nat) : CRl μ (insL cs ds k) (insL vs ws k) := ((h1.take _).append h2).append (h1.drop _)
theorem setAt_all {X Y : List D} (h : X.length = Y.length) : setAt X 0 Y = Y := by
  apply List.ext_getElem?
  intro n
  rw [setAt_get Y X 0 (by omega)]
  by_cases hn : n < Y.length
  · rw [if_pos (by omega)]; simp
  · rw [if_neg (by omega), List.getElem?_eq_none (by omega), List.getElem?_eq_none (by omega)]

/-- The state behind an insertion. -/
def insSt (σ : St) (j t : Nat) (F : List D) : St := (((((σ.put (j + 2) none).put j none).put t none).alloc (.cells F)).alloc .tok).alloc (.ty σ.next 57 none)
theorem insert_in {μ : Mu} {σ : St} {w : World} (hs : Sim μ σ w) {j t len k b o cap kk : Nat} {cs : List D} {va vc : D} {olds vs : List Value} {vb vo vcap : Nat}
    (hj : σ.obj j = some (.cells cs)) (ht : σ.obj t = some .tok) (hf : σ.obj (j + 2) = some (.ty j 57 none)) (hl : cs.length = len * 2) (hk : k < len)
    (hlj : μ.loc j = some (b, o)) (hcap : cap = len + kk) (hkk : kk ≠ 0) (htl : μ.tl t = some (b, o + len * 2, kk * 2)) (hc63 : cap ≤ maxLen)
    (h1 : CRl μ cs olds) (h2 : ∀ i v, olds[i]? = some v → w.cell? ⟨b, o + i, none⟩ = some v) (h1c : ∀ v ∈ olds, v.oneCell' = true)
    (h3 : CRl μ [va, vc] vs) (h4 : ImmAt μ vb vo vs) (h1v : ∀ v ∈ vs, v.oneCell' = true) :
    Calls Tryz.prog 25 #[.slice (some ⟨b, o, none⟩) len cap, .int .i64 k, .slice (some ⟨vb, vo, none⟩) 1 vcap] w fun e w' =>
      ∃ μ', μ.le μ' ∧ Sim μ' (insSt σ j t (insL cs [va, vc] k)) w' ∧ VR μ' (.rslc σ.next 0 2 (len + 1) (.opened (σ.next + 1))) (.slice (some ⟨b, o, none⟩) (len + 1) cap) ∧ e = .returned (.slice (some ⟨b, o, none⟩) (len + 1) cap) := by
  have hol : olds.length = len * 2 := by rw [h1.length, hl]
  have hvl : vs.length = 2 := by rw [h3.length]; rfl
  obtain ⟨b2, cur, g1, g2, _⟩ := hs.ty _ _ _ _ hf
  rw [hlj] at g1
  simp only [Option.some.injEq, Prod.mk.injEq] at g1
  obtain ⟨rfl, rfl⟩ := g1
  simp only [Nat.zero_add] at h2 htl
  obtain ⟨b3, o3, q1, q2, q3, q4⟩ := hs.obj j cs hj
  rw [hlj] at q1
  simp only [Option.some.injEq, Prod.mk.injEq] at q1
  obtain ⟨rfl, rfl⟩ := q1
  obtain ⟨b4, e4, k4, r1, r2, r3, r4⟩ := hs.tok t ht
  rw [htl] at r1
  simp only [Option.some.injEq, Prod.mk.injEq] at r1
  obtain ⟨rfl, rfl, rfl⟩ := r1
  have hcells : ∀ y, y < len * 2 + 2 → (w.cell? ⟨b, y, none⟩).isSome = true ∧ (∀ v, μ.own b y = .imm v → False) := fun y hy => by
    by_cases hlt : y < len * 2
    · obtain ⟨c1, c2, v, c3, c4⟩ := q4 y cs[y] (List.getElem?_eq_getElem (by omega))
      simp only [Nat.zero_add] at c1 c3
      exact ⟨by rw [c3]; rfl, fun v hv => by rw [c1] at hv; cases hv⟩
    · obtain ⟨c1, c2, v, c3⟩ := r4 (y - len * 2) (by omega)
      rw [show len * 2 + (y - len * 2) = y by omega] at c1 c3
      exact ⟨by rw [c3]; rfl, fun v hv => by rw [c1] at hv; cases hv⟩
  have hfz : ∀ y, w.frozen? ⟨b, y, none⟩ = false := fun y => by simp [World.frozen?, g2]
  have hvcell : ∀ i v, vs[i]? = some v → w.cell? ⟨vb, vo + i, none⟩ = some v := fun i v hv => hs.imm _ _ _ (h4 i v hv)
  have hdis : ∀ i, i < 2 → vb = b → ¬ (0 ≤ vo + i ∧ vo + i < 0 + (len * 2 + 2)) := fun i hi hb hh => by
    have := h4 i vs[i] (List.getElem?_eq_getElem (by omega))
    rw [hb] at this
    exact (hcells (vo + i) (by omega)).2 _ this
  obtain ⟨curv, Tv, frv, hvb⟩ : ∃ (curv : Array Value) (Tv : TypeId) (frv : Nat × Nat), w.heap[vb]? = some (Obj.cells curv Tv frv) ∧ curv.size ≠ 0 := by
    have := hvcell 0 vs[0] (List.getElem?_eq_getElem (by omega))
    simp only [World.cell?] at this
    split at this
    · rename_i c T fr hh
      refine ⟨c, T, fr, hh, ?_⟩
      intro h0
      have := (Array.getElem?_eq_some_iff.1 (by simpa using this)).1
      omega
    · cases this
  have hov : ∀ cb, (callFunc 47 #[.slice (some ⟨vb, vo, none⟩) 1 vcap, .slice (some ⟨b, 0 + (k + 1) * 2, none⟩) (len - k) cb]).run Tryz.prog w = .ok (.value (.bool false)) w := fun cb => by
    rw [run_callFunc_extern Tryz.func47 (by kernel_rfl) (by kernel_rfl) (by kernel_rfl) (e := Extern.SlicesOverlaps.overlaps #[22, 22] #[4]) (by kernel_rfl)]
    rw [run_overlaps_row w 22 4 57 Tryz.underlying22 2 (fun w => by
      obtain ⟨i0, hi0, _, hzs, _⟩ := vinfo
      simp [sizeOf, typeInfo, hi0, hzs, Sem.run]) ⟨vb, vo, none⟩ ⟨b, 0 + (k + 1) * 2, none⟩ 1 vcap (len - k) cb Tv curv.size (by simp only [World.shape?, hvb.1]) hvb.2 cur 57 g2 (fun hb => by
        have d0 := hdis 0 (by omega) hb
        have d1 := hdis 1 (by omega) hb
        simp only
        omega)]
    rfl
  refine (ins_shift b 0 len cap k vb vo vcap olds vs w hk (by omega) (by unfold maxLen at hc63; omega) hdis hol hvl (fun i v hv => by rw [Nat.zero_add]; exact h2 i v hv) (fun y hy => by rw [Nat.zero_add]; exact (hcells y hy).1) (fun y _ => hfz _) hvcell h1c h1v hov).mono ?_
  rintro e w' ⟨rfl, rfl⟩
  simp only [Nat.zero_add]
  -- the last element goes into the room, then all is told anew
  have hF : CRl μ (insL cs [va, vc] k) (insL olds vs k) := crl_ins h1 h3 k
  have hFl : (insL olds vs k).length = len * 2 + 2 := insL_len (Nat.le_of_lt hk) hol hvl
  have hFd : (insL cs [va, vc] k).length = len * 2 + 2 := insL_len (Nat.le_of_lt hk) hl rfl
  have hkill : j + 2 < σ.next := by
    rcases Nat.lt_or_ge (j + 2) σ.next with hh | hh
    · exact hh
    · rw [(hs.nxt _ hh).1] at hf; cases hf
  have hs1 : Sim μ (σ.put (j + 2) none) w.drew := (hs.kill (j + 2) hkill).drawn (w.drawn + 1)
  have hjt : t ≠ j + 2 := fun h => by subst h; rw [hf] at ht; cases ht
  obtain ⟨⟨μ', k1, k2, k3, k4⟩, k5, k6⟩ := hs1.takeR (t := t) (j := j) (by simp only [St.put]; rw [if_neg hjt]; exact ht) (by simp only [St.put]; rw [if_neg (by omega)]; exact hj) hlj htl (by rw [hl, Nat.zero_add]) ((insL cs [va, vc] k).drop (len * 2)) ((insL olds vs k).drop (len * 2)) (hF.drop _) (by rw [List.length_drop, hFl]; omega)
  have hnx : (σ.put (j + 2) none).next = σ.next := rfl
  have hlast : ((insL olds vs k).drop (len * 2)).length = 2 := by rw [List.length_drop, hFl]; omega
  obtain ⟨s1, _, _⟩ := Sim.storeL (insL cs [va, vc] k) (insL olds vs k) (cs ++ (insL cs [va, vc] k).drop (len * 2)) 0 k2 (j := σ.next) (by simp [St.alloc, St.put]) k3 (by rw [List.length_append, List.length_drop, hFd, hl]; omega) (CRl.mono k1 _ _ hF)
  rw [setAt_all (by rw [List.length_append, List.length_drop, hFd, hl]; omega)] at s1
  have hst : (((((((σ.put (j + 2) none).put j none).put t none).alloc (.cells (cs ++ (insL cs [va, vc] k).drop (len * 2)))).alloc .tok).put σ.next (some (.cells (insL cs [va, vc] k)))) : St) = (((((σ.put (j + 2) none).put j none).put t none).alloc (.cells (insL cs [va, vc] k))).alloc .tok) := by
    simp only [St.alloc, St.put, St.mk.injEq, and_true]
    funext x
    by_cases h1 : x = σ.next
    · subst h1; simp
    · by_cases h2 : x = σ.next + 1
      · subst h2; simp
      · simp [h1, h2]
  rw [hst] at s1
  have hold : (olds.drop (k * 2)).length = (len - k) * 2 := by rw [List.length_drop, hol, Nat.sub_mul]
  have hs2 : ∀ y, y < len * 2 + 2 → (w.drew.cell? ⟨b, y, none⟩).isSome = true := fun y hy => (hcells y hy).1
  have rows : RowsStay w ((w.drew.setCells b ((k + 1) * 2) (olds.drop (k * 2))).setCells b (k * 2) vs) := fun b' c' T' hb' => by
    obtain ⟨c1, e1, e2⟩ := rows_setCells b (olds.drop (k * 2)) ((k + 1) * 2) w.drew b' c' T' hb'
    obtain ⟨c2, e3, e4⟩ := rows_setCells b vs (k * 2) _ b' c1 T' e1
    exact ⟨c2, e3, e4.trans e2⟩
  have hfin : Sim μ' (((((σ.put (j + 2) none).put j none).put t none).alloc (.cells (insL cs [va, vc] k))).alloc .tok) ((w.drew.setCells b ((k + 1) * 2) (olds.drop (k * 2))).setCells b (k * 2) vs) := by
    refine sim_alike s1 (fun b' x => ?_) (fun b' x => ?_) ?_ ?_ (hs.tyOf k1 (fun f j' T n hh => put_ty (by simp) _ _ _ _ (put_ty (by simp) _ _ _ _ (put_ty (by simp) _ _ _ _ (alloc_ty (by simp) _ _ _ _ (alloc_ty (by simp) _ _ _ _ hh))))) rows)
    · rw [cell_set b vs _ _ (fun i hi => some_set b _ _ _ (fun i hi => hs2 _ (by rw [hold] at hi; omega)) (hs2 _ (by omega))), cell_set b (olds.drop (k * 2)) _ _ (fun i hi => hs2 _ (by rw [hold] at hi; omega)),
        cell_set b (insL olds vs k) _ _ (fun i hi => some_set b _ _ _ (fun i hi => hs2 _ (by rw [hlast] at hi; omega)) (hs2 _ (by rw [hFl] at hi; omega))), cell_set b _ _ _ (fun i hi => hs2 _ (by rw [hlast] at hi; omega))]
      by_cases hb : b' = b
      · subst hb
        simp only [true_and, Nat.zero_add, Nat.zero_le, hvl, hold, hFl, hlast, Nat.sub_zero]
        rw [insL_at (Nat.le_of_lt hk) hol hvl]
        by_cases c1 : x < k * 2
        · rw [if_neg (by omega), if_neg (by omega), if_pos (by omega), if_pos c1, List.getElem?_eq_getElem (by omega)]
          exact h2 x _ (List.getElem?_eq_getElem (by omega))
        · by_cases c2 : x < k * 2 + 2
          · rw [if_pos (by omega), if_pos (by omega), if_neg c1, if_pos c2]
          · by_cases c3 : x < len * 2 + 2
            · rw [if_neg (by omega), if_pos (by omega), if_pos (by omega), if_neg c1, if_neg c2, List.getElem?_drop]
              congr 1; omega
            · rw [if_neg (by omega), if_neg (by omega), if_neg (by omega), if_neg (by omega)]
      · simp only [hb, false_and, if_false]
    · simp only [World.frozen?_setCells]
    · simp only [setCells_size]
    · rw [k1.w0]
      exact below_setCells q2 _ _ _ (below_setCells q2 _ _ _ (hs.drawn (w.drawn + 1)).bel)
  obtain ⟨c2, e1, _⟩ := rows b cur 57 g2
  refine ⟨μ', k1, hfin.know ⟨b, c2, k3, e1, fun _ h => by cases h⟩, ?_, trivial⟩
  exact VR.mk_rslc (off := 0) (len := len + 1) (cap := cap) k3 ⟨kk - 1, by omega, fun _ => by
    rw [show σ.next + 1 = (σ.put (j + 2) none).next + 1 from rfl, k4, hlast, show len * 2 + 2 = 0 + 0 + (len + 1) * 2 by omega, show kk * 2 - 2 = (kk - 1) * 2 by omega], hc63⟩
theorem insert_new {μ : Mu} {σ : St} {w : World} (hs : Sim μ σ w) {j t len k b o : Nat} {cs : List D} {va vc : D} {olds vs : List Value} {vb vo vcap : Nat}
    (hj : σ.obj j = some (.cells cs)) (ht : σ.obj t = some .tok) (hf : σ.obj (j + 2) = some (.ty j 57 none)) (hl : cs.length = len * 2) (hk : k < len)
    (hlj : μ.loc j = some (b, o)) (hbig : (len + 1) * 32 ≤ 140737488355328)
    (h1 : CRl μ cs olds) (h2 : ∀ i v, olds[i]? = some v → w.cell? ⟨b, o + i, none⟩ = some v) (h1c : ∀ v ∈ olds, v.oneCell' = true)
    (h3 : CRl μ [va, vc] vs) (h4 : ImmAt μ vb vo vs) (h1v : ∀ v ∈ vs, v.oneCell' = true) :
    Calls Tryz.prog 25 #[.slice (some ⟨b, o, none⟩) len len, .int .i64 k, .slice (some ⟨vb, vo, none⟩) 1 vcap] w fun e w' =>
      ∃ μ' v, μ.le μ' ∧ Sim μ' (insSt σ j t (insL cs [va, vc] k)) w' ∧ VR μ' (.rslc σ.next 0 2 (len + 1) (.opened (σ.next + 1))) v ∧ e = .returned v := by
  have hol : olds.length = len * 2 := by rw [h1.length, hl]
  have hvl : vs.length = 2 := by rw [h3.length]; rfl
  have hvcell : ∀ i v, vs[i]? = some v → w.cell? ⟨vb, vo + i, none⟩ = some v := fun i v hv => hs.imm _ _ _ (h4 i v hv)
  refine (ins_grow b o len len k vb vo vcap olds vs w hk (Nat.le_refl _) (Nat.lt_succ_self _) hbig hol hvl h2 hvcell h1c h1v).mono ?_
  rintro e w' ⟨rfl, rfl⟩
  have hGn := grownCap_ge w (len + 1) len 57
  have hGm := grownCap_le_maxLen w (len + 1) len 57 (by unfold maxLen; omega)
  generalize grownCap w (len + 1) len 57 = G at *
  have hF : CRl μ (insL cs [va, vc] k) (insL olds vs k) := crl_ins h1 h3 k
  have hFl : (insL olds vs k).length = len * 2 + 2 := insL_len (Nat.le_of_lt hk) hol hvl
  have below : ∀ x, σ.obj x ≠ none → x < σ.next := fun x hx => by
    rcases Nat.lt_or_ge x σ.next with hh | hh
    · exact hh
    · exact absurd (hs.nxt _ hh).1 hx
  have hs1 : Sim μ (((σ.put (j + 2) none).put j none).put t none) { w with drawn := w.drawn + 1 } := (((hs.kill (j + 2) (below _ (by rw [hf]; simp))).kill j (below _ (by rw [hj]; simp))).kill t (below _ (by rw [ht]; simp))).drawn (w.drawn + 1)
  obtain ⟨μ', k1, k2, k3, k4⟩ := hs1.pushRowR (insL olds vs k).toArray (Builtin.zeroCells vz.cells (G - (len + 1))) 57 (insL cs [va, vc] k) (by simpa using hF)
  have hz : ∀ n, (Builtin.zeroCells vz.cells n).size = n * 2 := fun n => by simp [Builtin.zeroCells, vz, Value.cells]
  generalize hROW : ((olds.take (k * 2)).toArray ++ Builtin.zeroCells vz.cells (len + 1 - k) ++ Builtin.zeroCells vz.cells (G - (len + 1)) : Array Value) = ROW
  have htk : (olds.take (k * 2)).length = k * 2 := by rw [List.length_take]; omega
  have hRs : ROW.size = G * 2 := by
    rw [← hROW]; simp only [Array.size_append, List.size_toArray, htk, hz]; omega
  have hdl : (olds.drop (k * 2)).length = (len - k) * 2 := by rw [List.length_drop, hol, Nat.sub_mul]
  have p0 : ∀ x, ((w.alloc (.cells ROW 57)).drew).cell? ⟨w.heap.size, x, none⟩ = ROW[x]? := fun x => by
    have := cell_push w ROW 57 (0, 0) w.heap.size x
    rw [if_pos rfl] at this
    exact this
  have s0 : ∀ x, x < len * 2 + 2 → (((w.alloc (.cells ROW 57)).drew).cell? ⟨w.heap.size, x, none⟩).isSome = true := fun x hx => by
    rw [p0, Array.getElem?_eq_getElem (by omega)]; rfl
  have s1 : ∀ x, x < len * 2 + 2 → (((((w.alloc (.cells ROW 57)).drew).setCells w.heap.size (k * 2) vs).drew).cell? ⟨w.heap.size, x, none⟩).isSome = true := fun x hx =>
    some_set w.heap.size vs (k * 2) ((w.alloc (.cells ROW 57)).drew) (fun i hi => s0 _ (by omega)) (s0 x hx)
  have rows0 : RowsStay (w.alloc (.cells ROW 57)) (((((w.alloc (.cells ROW 57)).drew).setCells w.heap.size (k * 2) vs).drew).setCells w.heap.size ((k + 1) * 2) (olds.drop (k * 2))) := fun b' c' T' hb' => by
    obtain ⟨c1, e1, e2⟩ := rows_setCells w.heap.size vs (k * 2) (w.alloc (.cells ROW 57)).drew b' c' T' hb'
    obtain ⟨c2, e3, e4⟩ := rows_setCells w.heap.size (olds.drop (k * 2)) ((k + 1) * 2) ((((w.alloc (.cells ROW 57)).drew).setCells w.heap.size (k * 2) vs).drew) b' c1 T' e1
    exact ⟨c2, e3, e4.trans e2⟩
  have rows : RowsStay w (((((w.alloc (.cells ROW 57)).drew).setCells w.heap.size (k * 2) vs).drew).setCells w.heap.size ((k + 1) * 2) (olds.drop (k * 2))) := fun b' c' T' hb' => by
    obtain ⟨c1, e1, e2⟩ := rows_push w (.cells ROW 57) b' c' T' hb'
    obtain ⟨c2, e3, e4⟩ := rows0 b' c1 T' e1
    exact ⟨c2, e3, e4.trans e2⟩
  have hfin : Sim μ' (((((σ.put (j + 2) none).put j none).put t none).alloc (.cells (insL cs [va, vc] k))).alloc .tok) (((((w.alloc (.cells ROW 57)).drew).setCells w.heap.size (k * 2) vs).drew).setCells w.heap.size ((k + 1) * 2) (olds.drop (k * 2))) := by
    refine sim_alike k2 (fun b' x => ?_) (fun b' x => ?_) ?_ ?_ (hs.tyOf k1 (fun f j' T n hh => put_ty (by simp) _ _ _ _ (put_ty (by simp) _ _ _ _ (put_ty (by simp) _ _ _ _ (alloc_ty (by simp) _ _ _ _ (alloc_ty (by simp) _ _ _ _ hh))))) rows)
    · rw [cell_set w.heap.size (olds.drop (k * 2)) _ _ (fun i hi => s1 _ (by rw [hdl] at hi; omega))]
      rw [show ((((w.alloc (.cells ROW 57)).drew).setCells w.heap.size (k * 2) vs).drew).cell? ⟨b', x, none⟩ = (((w.alloc (.cells ROW 57)).drew).setCells w.heap.size (k * 2) vs).cell? ⟨b', x, none⟩ from rfl]
      rw [cell_set w.heap.size vs _ _ (fun i hi => s0 _ (by omega))]
      have e3 := cell_push ({ w with drawn := w.drawn + 1 } : World) ((insL olds vs k).toArray ++ Builtin.zeroCells vz.cells (G - (len + 1))) 57 (0, 0) b' x
      rw [e3]
      by_cases hb : b' = w.heap.size
      · subst hb
        rw [p0, if_pos rfl]
        simp only [true_and, hvl, hdl]
        rw [← hROW]
        simp only [Array.getElem?_append, Array.size_append, List.size_toArray, hz, htk, hFl, List.getElem?_toArray]
        rw [insL_at (Nat.le_of_lt hk) hol hvl, List.getElem?_take]
        by_cases c1 : x < k * 2
        · rw [if_neg (by omega), if_neg (by omega), if_pos (by omega), if_pos c1, if_pos c1, if_pos (by omega), if_pos c1]
        · by_cases c2 : x < k * 2 + 2
          · rw [if_neg (by omega), if_pos (by omega), if_pos (by omega), if_neg c1, if_pos c2]
          · by_cases c3 : x < len * 2 + 2
            · rw [if_pos (by omega), if_pos c3, if_neg c1, if_neg c2, List.getElem?_drop]
              congr 1; omega
            · rw [if_neg (by omega), if_neg (by omega), if_neg (by omega), if_neg (by omega)]
              congr 1; omega
      · have e4 := cell_push w ROW 57 (0, 0) b' x
        rw [if_neg hb] at e4
        simp only [hb, false_and, if_false]
        exact e4
    · have e3 := frozen_push ({ w with drawn := w.drawn + 1 } : World) ((insL olds vs k).toArray ++ Builtin.zeroCells vz.cells (G - (len + 1))) 57 (0, 0) b' x
      have e4 := frozen_push w ROW 57 (0, 0) b' x
      rw [World.frozen?_setCells, show ((((w.alloc (.cells ROW 57)).drew).setCells w.heap.size (k * 2) vs).drew).frozen? ⟨b', x, none⟩ = (((w.alloc (.cells ROW 57)).drew).setCells w.heap.size (k * 2) vs).frozen? ⟨b', x, none⟩ from rfl, World.frozen?_setCells, e3]
      exact e4
    · rw [setCells_size]
      show (((w.alloc (.cells ROW 57)).drew).setCells w.heap.size (k * 2) vs).heap.size = _
      rw [setCells_size]
      show (w.heap.push _).size = (w.heap.push _).size
      simp only [Array.size_push]
    · rw [k1.w0]
      have hb0 : Below μ.w0.heap.size μ.w0 (w.alloc (.cells ROW 57)) := below_push hs.bel hs.low _
      exact below_setCells hs.low _ _ _ (Below.drew (below_setCells hs.low _ _ _ (Below.drew hb0)))
  obtain ⟨c2, e1, _⟩ := rows0 w.heap.size ROW 57 (by show (w.heap.push _)[w.heap.size]? = _; exact Array.getElem?_push_size)
  refine ⟨μ', _, k1, hfin.know ⟨w.heap.size, c2, k3, e1, fun _ h => by cases h⟩, ?_, rfl⟩
  refine VR.mk_rslc (off := 0) (len := len + 1) (cap := G) k3 ⟨G - (len + 1), by omega, fun _ => ?_, hGm⟩
  have k4' : μ'.tl (σ.next + 1) = _ := k4
  have hsz : (insL olds vs k).toArray.size = len * 2 + 2 := by rw [List.size_toArray]; exact hFl
  rw [k4', hsz, hz, show len * 2 + 2 = 0 + 0 + (len + 1) * 2 by omega]
end Go.Proofs.YthiidchbaicfgaaGreatDoor
