/-
  THE WALKS, layer 13, PART 37: 'strings.Join', by the shelf's contract (laid by the kit's lay-shelf.mjs and lay-plain.mjs at this program: the table of numbers, the structure, the two contracts).
-/
import Derived.Shelf.Strings.OnBuilder
import Derived.Test.YthiidchbaicfgaaGreatDoorYE
namespace Go.Proofs
open Go.Shelf
def Tryz.lays156_ren : Go.Shelf.Ren := ⟨fun | 156 => 73 | 165 => 95 | 166 => 57 | 169 => 30 | 240 => 75 | 241 => 112 | 276 => 97 | 277 => 129 | n => n, fun | 31 => 24 | 9 => 9 | 3 => 3 | 4 => 4 | 0 => 0 | 20 => 20 | 72 => 81 | 76 => 117 | 70 => 78 | 37 => 79 | 75 => 115 | 127 => 112 | 164 => 153 | 5 => 5 | 80 => 84 | n => n, fun | n => n⟩
theorem Tryz.lays156 : Go.Proofs.Lays.n156 Tryz.prog Tryz.lays156_ren := {
  mixed := by kernel_rfl
  f156 := Tryz.func73.trans (congrArg some (by kernel_rfl))
  f165 := Tryz.func95.trans (congrArg some (by kernel_rfl))
  f166 := Tryz.func57.trans (congrArg some (by kernel_rfl))
  f169 := Tryz.func30.trans (congrArg some (by kernel_rfl))
  f240 := Tryz.func75.trans (congrArg some (by kernel_rfl))
  f241 := Tryz.func112.trans (congrArg some (by kernel_rfl))
  f276 := Tryz.func97.trans (congrArg some (by kernel_rfl))
  f277 := Tryz.func129.trans (congrArg some (by kernel_rfl))
  t0 := Tryz.underlying0
  a0 := Tryz.isAgg0
  z0 := Tryz.sizeOf0
  v0 := Tryz.zeroValue0
  t3 := Tryz.underlying3
  a3 := Tryz.isAgg3
  z3 := Tryz.sizeOf3
  v3 := Tryz.zeroValue3
  t4 := Tryz.underlying4
  a4 := Tryz.isAgg4
  z4 := Tryz.sizeOf4
  v4 := Tryz.zeroValue4
  t9 := Tryz.underlying9
  a9 := Tryz.isAgg9
  z9 := Tryz.sizeOf9
  v9 := Tryz.zeroValue9
  t20 := Tryz.underlying20
  a20 := Tryz.isAgg20
  z20 := Tryz.sizeOf20
  v20 := Tryz.zeroValue20
  t31 := Tryz.underlying24
  a31 := Tryz.isAgg24
  z31 := Tryz.sizeOf24
  v31 := Tryz.zeroValue24
  t37 := Tryz.underlying79
  a37 := Tryz.isAgg79
  z37 := Tryz.sizeOf79
  v37 := Tryz.zeroValue79
  t70 := Tryz.underlying78
  a70 := Tryz.isAgg78
  z70 := Tryz.sizeOf78
  v70 := Tryz.zeroValue78
  t72 := Tryz.underlying81
  a72 := Tryz.isAgg81
  z72 := Tryz.sizeOf81
  v72 := Tryz.zeroValue81
  t75 := Tryz.underlying115
  a75 := Tryz.isAgg115
  z75 := Tryz.sizeOf115
  v75 := Tryz.zeroValue115
  t76 := Tryz.underlying117
  a76 := Tryz.isAgg117
  z76 := Tryz.sizeOf117
  v76 := Tryz.zeroValue117
  t127 := Tryz.underlying112
  a127 := Tryz.isAgg112
  z127 := Tryz.sizeOf112
  v127 := Tryz.zeroValue112
  t164 := Tryz.underlying153
  a164 := Tryz.isAgg153
  z164 := Tryz.sizeOf153
  v164 := Tryz.zeroValue153 }
theorem Tryz.Builder_Extra_156 : Builder.Extra Tryz.prog Tryz.lays156_ren := {
  sizeBuilder := by kernel_rfl
  liesBuilder := by kernel_rfl
  t5 := Tryz.underlying5
  a5 := Tryz.isAgg5
  z5 := Tryz.sizeOf5
  v5 := Tryz.zeroValue5
  infoByte := by kernel_rfl
  cellsByte := by kernel_rfl
  sizeByte := by kernel_rfl
  neB5 := by decide }
open Go.RowKit in
/-- No element: the empty string; the world is as it was. (Whatever the slice's address and capacity: a nil slice too.) (LAID: no walk: one application.) -/
theorem Tryz.strings_Join_none (a : Option Addr) (c : Nat) (sep : ByteArray) (w : World) :
    Calls Tryz.prog 73 #[.slice a 0 c, .string sep] w fun e w' => e = .returned (.string ⟨#[]⟩) ∧ w' = w := Any.strings_Join_none Tryz.lays156 Tryz.Builder_Extra_156 a c sep w
open Go.RowKit in
/-- strings.Join: "Join concatenates the elements of its first argument to create a single string. The separator string sep is placed between elements in the resulting string.": HOWEVER MANY ELEMENTS. Below the heap's end the world is as it was. (LAID: no walk: one application.) -/
theorem Tryz.strings_Join (bk o c : Nat) (xs : List ByteArray) (sep : ByteArray) (w : World) (hcells : ∀ (j : Nat) x, xs[j]? = some x → w.cell? ⟨bk, o + j, none⟩ = some (.string x)) (hbk : bk < w.heap.size) (hN : xs.length ≤ 140737488355328) (hcap : xs.length ≤ c) (hlen : (Lib.join (xs.map (·.data.toList)) sep.data.toList).length ≤ 140737488355328) :
    Calls Tryz.prog 73 #[.slice (some ⟨bk, o, none⟩) xs.length c, .string sep] w fun e w' => e = .returned (.string ⟨(Lib.join (xs.map (·.data.toList)) sep.data.toList).toArray⟩) ∧ Below w.heap.size w w' := Any.strings_Join Tryz.lays156 Tryz.Builder_Extra_156 bk o c xs sep w hcells hbk hN hcap hlen
end Go.Proofs

namespace Go.Id
open Go.RowKit
/-- A world that has grown. -/
theorem Sim.grown {μ : Mu} {σ : St} {w w' : World} (h : Sim μ σ w) (hB : Below w.heap.size w w') : Sim μ σ w' := by
  refine ⟨fun b o v e => ?_, fun j cs e => ?_, fun t e => ?_, fun b o hb => ?_, h.nxt, h.bel.trans (hB.mono h.bel.size), fun f j T n e => ?_⟩
  · have h1 := h.imm b o v e
    have h2 : b < w.heap.size := block_lt_of_cell h1
    rw [hB.cell (p := ⟨b, o, none⟩) h2]; exact h1
  · obtain ⟨b, o, h1, h2, h3, h4⟩ := h.obj j cs e
    refine ⟨b, o, h1, h2, Nat.lt_of_lt_of_le h3 hB.size, fun i d hd => ?_⟩
    obtain ⟨g1, g2, v, g3, g4⟩ := h4 i d hd
    exact ⟨g1, by rw [hB.frozen (p := ⟨b, o + i, none⟩) h3]; exact g2, v, by rw [hB.cell (p := ⟨b, o + i, none⟩) h3]; exact g3, g4⟩
  · obtain ⟨b, e', k, h1, h2, h3, h4⟩ := h.tok t e
    refine ⟨b, e', k, h1, h2, Nat.lt_of_lt_of_le h3 hB.size, fun i hi => ?_⟩
    obtain ⟨g1, g2, v, g3⟩ := h4 i hi
    exact ⟨g1, by rw [hB.frozen (p := ⟨b, e' + i, none⟩) h3]; exact g2, v, by rw [hB.cell (p := ⟨b, e' + i, none⟩) h3]; exact g3⟩
  · exact h.blk b o (Nat.le_trans hB.size hb)
  · obtain ⟨b, cur, h1, h2, h3⟩ := h.ty f j T n e
    have h4 : b < w.heap.size := by
      obtain ⟨h5, _⟩ := Array.getElem?_eq_some_iff.1 h2
      exact h5
    exact ⟨b, cur, h1, by rw [hB.block b h4]; exact h2, h3⟩
theorem CRes_strs {μ : Mu} : ∀ (l : List (List UInt8)) (b o : Nat), CRes μ 1 (l.map .str) b o → ∀ (j : Nat) x, l[j]? = some x → μ.own b (o + j) = .imm (.string ⟨x.toArray⟩)
  | [], _, _, _, j, x, h => by simp at h
  | s :: r, b, o, hc, j, x, h => by
    simp only [List.map_cons, CRes] at hc
    obtain ⟨⟨vs, g0, g1, g2, g3⟩, h2⟩ := hc
    cases j with
    | zero =>
      simp at h; subst h
      simp only [CR] at g3
      subst g3
      exact g2 0 _ rfl
    | succ j =>
      have := CRes_strs r b (o + 1) h2 j x (by simpa using h)
      rw [show o + (j + 1) = o + 1 + j by omega]; exact this
end Go.Id
namespace Go.Proofs.YthiidchbaicfgaaGreatDoor
open Go Go.Id Go.RowKit
set_option linter.unusedSimpArgs false
set_option linter.unusedVariables false
set_option maxRecDepth 100000
set_option maxHeartbeats 8000000

theorem jn_join (sep : List UInt8) : ∀ l : List (List UInt8), Lib.join l sep = jn sep l
  | [] => rfl
  | [t] => by rw [Lib.join_one]; rfl
  | t :: u :: r => by
    have ih := jn_join sep (u :: r)
    rw [Lib.join_cons] at ih ⊢
    rw [jn, ← ih]
    simp [Lib.joinTail, List.append_assoc]
theorem join73 {x : D} {l : List (List UInt8)} (hx : Strs x l) (sep : List UInt8) (hl : l.length ≤ 1000000) (hj : (jn sep l).length ≤ 1000000000) (σ : St) : Ok Tryz.prog 73 [x, .str sep] σ (fun o s => o = .ret (.str (jn sep l)) ∧ s = σ) := by
  intro μ w vs hs hcr
  simp only [CRt] at hcr
  obtain ⟨v1, w1, rfl, a1, b1, v2, w2, rfl, a2, b2, rfl⟩ := hcr
  obtain rfl := VR.str ⟨a2, b2⟩
  have nojoin : ∀ a c, l = [] → v1 = .slice a 0 c → Calls Tryz.prog 73 #[v1, .string ⟨sep.toArray⟩] w fun e w'' => e = .returned (.string ⟨(jn sep l).toArray⟩) ∧ Below w.heap.size w w'' := fun a c h1 h2 => by
    subst h1; subst h2
    exact (Tryz.strings_Join_none a c _ w).mono fun e w' ⟨he, hw⟩ => ⟨he, hw ▸ Below.refl _ _⟩
  have main : Calls Tryz.prog 73 #[v1, .string ⟨sep.toArray⟩] w fun e w'' => e = .returned (.string ⟨(jn sep l).toArray⟩) ∧ Below w.heap.size w w'' := by
    cases hx with
    | snil =>
      obtain rfl := VR.nils ⟨a1, b1⟩
      exact nojoin _ _ rfl rfl
    | ssome l r =>
      obtain ⟨b, o, cap, rfl, h2, h3⟩ := VR.slc ⟨a1, b1⟩
      by_cases h0 : l = []
      · subst h0; exact nojoin _ _ rfl rfl
      have hcell : ∀ (j : Nat) y, (l.map fun s => (⟨s.toArray⟩ : ByteArray))[j]? = some y → w.cell? ⟨b, o + j, .none⟩ = some (.string y) := fun j y hy => by
        rw [List.getElem?_map, Option.map_eq_some_iff] at hy
        obtain ⟨s, h4, rfl⟩ := hy
        exact hs.imm _ _ _ (CRes_strs l b o h2 j s h4)
      have hbk : b < w.heap.size := by
        have hpos : 0 < l.length := List.length_pos_iff.2 h0
        exact block_lt_of_cell (hcell 0 ⟨(l[0]).toArray⟩ (by simp [List.getElem?_map, hpos]))
      have hcap : l.length ≤ cap := by
        unfold RoomR at h3
        split at h3
        · simp at h3; omega
        · simpa using h3
        · obtain ⟨k, h4, _⟩ := h3
          simp at h4; omega
      have e1 : ((l.map fun s => (⟨s.toArray⟩ : ByteArray)).map (·.data.toList)) = l := by rw [List.map_map]; exact (List.map_congr_left fun s _ => rfl).trans (List.map_id l)
      have := Tryz.strings_Join b o cap (l.map fun s => ⟨s.toArray⟩) ⟨sep.toArray⟩ w hcell hbk (by simp; omega) (by simpa using hcap) (by rw [e1, jn_join]; show (jn sep l).length ≤ _; omega)
      rw [e1, jn_join] at this
      simpa using this
  refine main.mono fun e w' ⟨he, hB⟩ => ?_
  subst he
  exact ⟨μ, σ, .ret (.str (jn sep l)), Mu.le.refl μ, hs.grown hB, VR.mk_str _, rfl, rfl⟩
end Go.Proofs.YthiidchbaicfgaaGreatDoor
