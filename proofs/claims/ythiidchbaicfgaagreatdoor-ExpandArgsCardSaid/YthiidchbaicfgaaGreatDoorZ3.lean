/-
  THE CHAPTER'S EXAMPLES, layer 13: a run that the kernel reckons; the entries without a body; insertion.
-/
import Derived.Test.YthiidchbaicfgaaGreatDoorC0
import Derived.Test.YthiidchbaicfgaaGreatDoorZ2
import Derived.Lib.Bytealg
namespace Go.Proofs.YthiidchbaicfgaaGreatDoor
open Go Go.RowKit Go.Lib Go.Id
set_option linter.unusedVariables false
set_option linter.unusedSimpArgs false
set_option maxRecDepth 100000

/-- The entries. -/
def cmpD (a b : List UInt8) : D := .int .i64 (Extern.BytealgCompare.cmp ⟨a.toArray⟩ ⟨b.toArray⟩)
theorem ext_cmp (a b : List UInt8) (σ : St) : ExtOk Tryz.prog 77 [.str a, .str b] σ (fun d s => d = cmpD a b ∧ s = σ) := by
  intro μ w vs hs hc
  simp only [CRt] at hc
  obtain ⟨v1, w1, rfl, a1, b1, v2, w2, rfl, a2, b2, rfl⟩ := hc
  obtain rfl := VR.str ⟨a1, b1⟩
  obtain rfl := VR.str ⟨a2, b2⟩
  refine ⟨_, w, μ, σ, cmpD a b, ?_, Mu.le.refl μ, hs, VR.mk_int _ _, rfl, rfl⟩
  rw [run_callFunc_extern Tryz.func77 (by kernel_rfl) (by kernel_rfl) (by kernel_rfl) (e := Extern.BytealgCompare.compare) (by kernel_rfl)]
  have hd : Extern.BytealgCompare.compare #[Value.string ⟨a.toArray⟩, Value.string ⟨b.toArray⟩] = (do pure (goInt (Extern.BytealgCompare.cmp (← Extern.Bytes.bytesOf (.string ⟨a.toArray⟩)) (← Extern.Bytes.bytesOf (.string ⟨b.toArray⟩))))) := rfl
  rw [hd]
  simp [Extern.Bytes.bytesOf, goInt]
theorem ext_same (x : D) (σ : St) : ExtOk Tryz.prog 97 [x] σ (fun d s => d = x ∧ s = σ) := by
  intro μ w vs hs hc
  simp only [CRt] at hc
  obtain ⟨v1, w1, rfl, a1, b1, rfl⟩ := hc
  refine ⟨v1, w, μ, σ, x, ?_, Mu.le.refl μ, hs, ⟨a1, b1⟩, rfl, rfl⟩
  rw [run_callFunc_extern Tryz.func97 (by kernel_rfl) (by kernel_rfl) (by kernel_rfl) (e := Extern.AbiNoEscape.same) (by kernel_rfl)]
  rfl
theorem ext_idx (s : List UInt8) (c : Int) (σ : St) : ExtOk Tryz.prog 93 [.str s, .int .u8 c] σ (fun d t => d = .int .i64 (Lib.indexByte s c.toNat.toUInt8) ∧ t = σ) := by
  intro μ w vs hs hc
  simp only [CRt] at hc
  obtain ⟨v1, w1, rfl, a1, b1, v2, w2, rfl, a2, b2, rfl⟩ := hc
  obtain rfl := VR.str ⟨a1, b1⟩
  obtain rfl := VR.int ⟨a2, b2⟩
  refine ⟨_, w, μ, σ, .int .i64 (Lib.indexByte s c.toNat.toUInt8), ?_, Mu.le.refl μ, hs, VR.mk_int _ _, rfl, rfl⟩
  rw [run_callFunc_extern Tryz.func93 (by kernel_rfl) (by kernel_rfl) (by kernel_rfl) (e := Extern.BytealgIndexByte.indexByte) (by kernel_rfl), Lib.run_indexByteString]
  rfl
def xo : Ext := fun g ys σ =>
  if Nat.beq g 77 then match ys with
    | [.str a, .str b] => some (cmpD a b, σ)
    | _ => none
  else if Nat.beq g 97 then match ys with
    | [x] => some (x, σ)
    | _ => none
  else if Nat.beq g 93 then match ys with
    | [.str s, .int .u8 c] => some (.int .i64 (Lib.indexByte s c.toNat.toUInt8), σ)
    | _ => none
  else none
theorem xo_sound : SoundX Tryz.prog xo := by
  intro g ys σ d σ' h
  unfold xo at h
  split at h
  · rename_i hg
    obtain rfl := Nat.eq_of_beq_eq_true hg
    split at h <;> (try (cases h; done))
    simp only [Option.some.injEq, Prod.mk.injEq] at h
    obtain ⟨rfl, rfl⟩ := h
    exact ext_cmp _ _ _
  split at h
  · rename_i hg
    obtain rfl := Nat.eq_of_beq_eq_true hg
    split at h <;> (try (cases h; done))
    simp only [Option.some.injEq, Prod.mk.injEq] at h
    obtain ⟨rfl, rfl⟩ := h
    exact ext_same _ _
  split at h
  · rename_i hg
    obtain rfl := Nat.eq_of_beq_eq_true hg
    split at h <;> (try (cases h; done))
    simp only [Option.some.injEq, Prod.mk.injEq] at h
    obtain ⟨rfl, rfl⟩ := h
    exact ext_idx _ _ _
  · cases h

/-- An insertion, by contents. -/
def iinsert (s i v : D) (σ : St) : Option (D × St) :=
  match i, v with
  | .int .i64 k, .slc 2 [.agg [a, b]] _ => if scal a = true ∧ scal b = true then (match s with
    | .nils => if k = 0 then some (.rslc σ.next 0 2 1 (.opened (σ.next + 1)), ((σ.alloc (.cells [a, b])).alloc .tok).alloc (.ty σ.next 57 none)) else none
    | .rslc j 0 2 len (.opened t) => match σ.obj j, σ.obj t, σ.obj (j + 2) with
      | some (.cells cs), some .tok, some (.ty j' T none) => if j' = j ∧ T = 57 ∧ cs.length = len * 2 ∧ cs.all scal = true ∧ 0 ≤ k ∧ k.toNat ≤ len ∧ (len + 1) * 32 ≤ 140737488355328 then
          some (.rslc σ.next 0 2 (len + 1) (.opened (σ.next + 1)), insSt σ j t (insL cs [a, b] k.toNat)) else none
      | _, _, _ => none
    | _ => none) else none
  | _, _ => none
def nat : Go.Id.Call := fun f ys σ => if Nat.beq f 25 then match ys with
    | [s, i, v] => match iinsert s i v σ with
      | some (d, σ') => some (.ret d, σ')
      | none => none
    | _ => none
  else none
theorem nat_sound : Sound Tryz.prog nat := by
  intro f ys σ o σ' h
  unfold nat at h
  split at h <;> (try (cases h; done))
  rename_i hg
  obtain rfl := Nat.eq_of_beq_eq_true hg
  split at h <;> (try (cases h; done))
  rename_i s i v
  split at h <;> (try (cases h; done))
  rename_i d τ hi
  simp only [Option.some.injEq, Prod.mk.injEq] at h
  obtain ⟨rfl, rfl⟩ := h
  unfold iinsert at hi
  split at hi <;> (try (cases hi; done))
  rename_i k a b r
  split at hi <;> (try (cases hi; done))
  rename_i hab
  split at hi <;> (try (cases hi; done))
  · split at hi <;> (try (cases hi; done))
    rename_i hk
    subst hk
    simp only [Option.some.injEq, Prod.mk.injEq] at hi
    obtain ⟨rfl, rfl⟩ := hi
    exact insert_nil hab.1 hab.2
  · rename_i j len t
    split at hi <;> (try (cases hi; done))
    rename_i cs j' T h1 h2 h3
    split at hi <;> (try (cases hi; done))
    rename_i hc
    obtain ⟨rfl, rfl, c1, c2, c3, c4, c5⟩ := hc
    simp only [Option.some.injEq, Prod.mk.injEq] at hi
    obtain ⟨rfl, rfl⟩ := hi
    have := insert_ok (r := r) h1 h2 h3 c1 c2 hab.1 hab.2 c4 c5
    rwa [show ((k.toNat : Nat) : Int) = k by omega] at this
set_option maxHeartbeats 4000000 in
theorem awake_ran : tells Tryz.prog pol xo nat 2000 60 10 [] (.bool true) = true := by kernel_rfl
theorem awake_ok (σ : St) : Ok Tryz.prog 10 [] σ (fun o s => o = .ret (.bool true) ∧ s = σ) := Ok.ran mixedz xo_sound nat_sound 2000 60 rfl rfl awake_ran
end Go.Proofs.YthiidchbaicfgaaGreatDoor
