/-
  SLICES, PART 2: 'slices.Insert' at variables: its contract.
-/
import Derived.Test.YthiidchbaicfgaaGreatDoorZ1
namespace Go.Proofs.YthiidchbaicfgaaGreatDoor
open Go Go.RowKit Go.Lib Go.Id
set_option linter.unusedVariables false
set_option linter.unusedSimpArgs false

theorem append_ty (ts : Array TypeId) (ty ty' : TypeId) (args : Array Value) : Builtin.append_ ts ty args = Builtin.append_ ts ty' args := rfl
theorem open_one {μ : Mu} {va vc : D} {r : Room} {v : Value} (h : VR μ (.slc 2 [.agg [va, vc]] r) v) (ha : scal va = true) (hc : scal vc = true) :
    ∃ vb vo vcap vs, v = .slice (some ⟨vb, vo, none⟩) 1 vcap ∧ CRl μ [va, vc] vs ∧ ImmAt μ vb vo vs ∧ ∀ x ∈ vs, x.oneCell' = true := by
  obtain ⟨b, o, cap, h1, h2, _⟩ := h.slc
  simp only [CRes] at h2
  obtain ⟨⟨vs, g0, g1, g2, g3⟩, _⟩ := h2
  refine ⟨b, o, cap, vs, h1, by simpa only [CR] using g3, g2, fun x hx => ?_⟩
  exact List.all_eq_true.1 g1 x hx
theorem insert_nil {σ : St} {va vc : D} {r : Room} (ha : scal va = true) (hc : scal vc = true) :
    Ok Tryz.prog 25 [.nils, .int .i64 0, .slc 2 [.agg [va, vc]] r] σ (fun o s' => o = .ret (.rslc σ.next 0 2 1 (.opened (σ.next + 1))) ∧ s' = ((σ.alloc (.cells [va, vc])).alloc .tok).alloc (.ty σ.next 57 none)) := by
  intro μ w vs hs hcr
  simp only [CRt] at hcr
  obtain ⟨v1, w1, rfl, a1, b1, v2, w2, rfl, a2, b2, v3, w3, rfl, a3, b3, rfl⟩ := hcr
  obtain rfl := VR.nils ⟨a1, b1⟩
  obtain rfl := VR.int ⟨a2, b2⟩
  obtain ⟨vb, vo, vcap, us, rfl, g1, g2, g3⟩ := open_one ⟨a3, b3⟩ ha hc
  obtain ⟨i0, hi0, hz0, hzs, hzb⟩ := vinfo
  have hap : iappendT i0.size i0.bytes 57 .nils (.slc 2 [.agg [va, vc]] r) σ = some (.rslc σ.next 0 2 1 (.opened (σ.next + 1)), ((σ.alloc (.cells [va, vc])).alloc .tok).alloc (.ty σ.next 57 none)) := by
    rw [hzs, hzb]
    simp [iappendT, elems, iappendR, iold, flat, dcells, ha, hc, maxLen]
  obtain ⟨μ', v, w', k1, k2, k3, k4⟩ := iappendT_sound (ty := 0) hs Tryz.underlying22 Tryz.underlying22 (fun k h => by cases h) hi0 hz0 (by rw [hzs]; rfl) (VR.mk_nils) (show VR μ _ _ from ⟨a3, b3⟩) hap
  refine (ins_end none 0 0 vb vo vcap w w' v (fun ty => by rw [append_ty _ ty 0]; exact k4)).mono ?_
  rintro e w'' ⟨rfl, rfl⟩
  exact ⟨μ', _, .ret _, k1, k2, k3, rfl, rfl⟩
theorem insert_ok {σ : St} {j t len k : Nat} {cs : List D} {va vc : D} {r : Room} (hj : σ.obj j = some (.cells cs)) (ht : σ.obj t = some .tok) (hf : σ.obj (j + 2) = some (.ty j 57 none)) (hl : cs.length = len * 2) (hsc : cs.all scal = true)
    (ha : scal va = true) (hc : scal vc = true) (hk : k ≤ len) (hbig : (len + 1) * 32 ≤ 140737488355328) :
    Ok Tryz.prog 25 [.rslc j 0 2 len (.opened t), .int .i64 k, .slc 2 [.agg [va, vc]] r] σ (fun o s' => o = .ret (.rslc σ.next 0 2 (len + 1) (.opened (σ.next + 1))) ∧ s' = insSt σ j t (insL cs [va, vc] k)) := by
  intro μ w vs hs hcr
  simp only [CRt] at hcr
  obtain ⟨v1, w1, rfl, a1, b1, v2, w2, rfl, a2, b2, v3, w3, rfl, a3, b3, rfl⟩ := hcr
  obtain rfl := VR.int ⟨a2, b2⟩
  obtain ⟨vb, vo, vcap, us, rfl, g1, g2, g3⟩ := open_one ⟨a3, b3⟩ ha hc
  obtain ⟨b, o, cap, hlj, rfl, hr⟩ := VR.rslc ⟨a1, b1⟩
  obtain ⟨olds, o1, o2⟩ := hs.vals hj hlj
  have h1c : ∀ v ∈ olds, v.oneCell' = true := fun v hv => List.all_eq_true.1 (o1.oneCell hsc) v hv
  obtain ⟨kk, hcap, htl, hcm⟩ := hr
  simp only [Nat.add_zero] at hlj htl ⊢
  have hjt : t ≠ j + 2 := fun h => by subst h; rw [hf] at ht; cases ht
  by_cases hkl : k = len
  · subst hkl
    obtain ⟨i0, hi0, hz0, hzs, hzb⟩ := vinfo
    have hap : iappendT i0.size i0.bytes 57 (.rslc j 0 2 k (.opened t)) (.slc 2 [.agg [va, vc]] r) σ = some (.rslc σ.next 0 2 (k + 1) (.opened (σ.next + 1)), insSt σ j t (insL cs [va, vc] k)) := by
      rw [hzs, hzb]
      have hins : insL cs [va, vc] k = cs ++ [va, vc] := by
        simp only [insL]
        rw [List.take_of_length_le (by omega), List.drop_eq_nil_of_le (by omega), List.append_nil]
      have hp1 : (σ.put (j + 2) none).obj j = some (.cells cs) := by simp only [St.put]; rw [if_neg (by omega)]; exact hj
      have hp2 : (σ.put (j + 2) none).obj t = some .tok := by simp only [St.put]; rw [if_neg hjt]; exact ht
      simp only [iappendT, elems, if_true, List.length_cons, List.length_nil, Nat.zero_add, hf, and_self, iappendR, iold, hp1, hp2, hl, true_and, flat, dcells, List.all_cons, List.all_nil, ha, hc, Bool.and_self, List.append_nil, hins, insSt]
      rw [if_neg (by omega), if_neg (by omega), if_pos (by unfold maxLen; omega)]
      rfl
    have hv1 : VR μ (.rslc j 0 2 k (.opened t)) (.slice (some ⟨b, o, none⟩) k cap) := ⟨a1, by simpa using b1⟩
    obtain ⟨μ', v, w', k1, k2, k3, k4⟩ := iappendT_sound (ty := 0) hs Tryz.underlying22 Tryz.underlying22 (fun k h => by cases h) hi0 hz0 (by rw [hzs]; rfl) hv1 (show VR μ _ _ from ⟨a3, b3⟩) hap
    refine (ins_end (some ⟨b, o, none⟩) k cap vb vo vcap w w' v (fun ty => by rw [append_ty _ ty 0]; exact k4)).mono ?_
    rintro e w'' ⟨rfl, rfl⟩
    exact ⟨μ', _, .ret _, k1, k2, k3, rfl, rfl⟩
  · by_cases hk0 : kk = 0
    · subst hk0
      obtain rfl : cap = len := by omega
      refine (insert_new (vcap := vcap) hs hj ht hf hl (by omega) hlj hbig o1 o2 h1c g1 g2 g3).mono ?_
      rintro e w' ⟨μ', v, k1, k2, k3, rfl⟩
      exact ⟨μ', _, .ret _, k1, k2, k3, rfl, rfl⟩
    · refine (insert_in (vcap := vcap) (cap := cap) (kk := kk) hs hj ht hf hl (by omega) hlj hcap hk0 (htl hk0) hcm o1 o2 h1c g1 g2 g3).mono ?_
      rintro e w' ⟨μ', k1, k2, k3, rfl⟩
      exact ⟨μ', _, .ret _, k1, k2, k3, rfl, rfl⟩
end Go.Proofs.YthiidchbaicfgaaGreatDoor
