/-
  THE LAW OF WHAT ISN'T RECKONED: the plain law, and the walk.
-/
import Derived.Test.YtkjgadanaknleaaW20
namespace Go.Proofs.Ytkjgadanaknleaa
open Go Go.Id
set_option linter.unusedSimpArgs false
set_option linter.unusedVariables false
set_option maxRecDepth 100000
set_option maxHeartbeats 4000000

theorem ev_and_no {x y : Nd} {l l' : List V} (hx : evalF x l = .ok (0, l')) : evalF (nT [38, 38] x y) l = .ok (0, l') := by simp [nT, evalF, hx]
theorem ev_and_yes {x y : Nd} {l l' l'' : List V} {a b : Int} (hx : evalF x l = .ok (a, l')) (ha : a ≠ 0) (hy : evalF y l' = .ok (b, l'')) : evalF (nT [38, 38] x y) l = .ok (flagI (b != 0), l'') := by simp [nT, evalF, hx, hy, ha]
theorem ev_or_yes {x y : Nd} {l l' : List V} {a : Int} (hx : evalF x l = .ok (a, l')) (ha : a ≠ 0) : evalF (nT [124, 124] x y) l = .ok (1, l') := by simp [nT, evalF, hx, ha]
theorem ev_or_no {x y : Nd} {l l' l'' : List V} {b : Int} (hx : evalF x l = .ok (0, l')) (hy : evalF y l' = .ok (b, l'')) : evalF (nT [124, 124] x y) l = .ok (flagI (b != 0), l'') := by simp [nT, evalF, hx, hy]
def nG (s : List UInt8) (x : Nd) : Nd := .gives ⟨[61], [], 0⟩ ⟨[], s, 0⟩ x
def nC (x y z : Nd) : Nd := .cond ⟨[63], [], 0⟩ x y z
theorem ev_nG {s : List UInt8} {x : Nd} {l l' l'' : List V} {v : Int} (hx : evalF x l = .ok (v, l')) (hs : setF s v l' = .ok l'') : evalF (nG s x) l = .ok (v, l'') := by simp [nG, evalF, hx, giveF, hs]
theorem ev_nG_err {s : List UInt8} {x : Nd} {l : List V} {e : Int} (hx : evalF x l = .error e) : evalF (nG s x) l = .error e := by simp [nG, evalF, hx]
theorem ev_nC_yes {x y z : Nd} {l l' : List V} {a : Int} {R : Except Int (Int × List V)} (hx : evalF x l = .ok (a, l')) (ha : a ≠ 0) (hy : evalF y l' = R) : evalF (nC x y z) l = R := by simp [nC, evalF, hx, hy, ha]
theorem ev_nC_no {x y z : Nd} {l l' : List V} {R : Except Int (Int × List V)} (hx : evalF x l = .ok (0, l')) (hz : evalF z l' = R) : evalF (nC x y z) l = R := by simp [nC, evalF, hx, hz]
theorem ev_nT_err {s : List UInt8} {x y : Nd} {l l' l'' : List V} {a b e : Int} (h1 : (s == [38, 38]) = false) (h2 : (s == [124, 124]) = false) (hx : evalF x l = .ok (a, l')) (hy : evalF y l' = .ok (b, l'')) (h : twoF s a b = .error e) : evalF (nT s x y) l = .error e := by
  simp only [nT, evalF, hx, hy, h1, h2, h, Bool.false_and, Bool.or_self, Bool.false_eq_true, if_false]

def lzA : List UInt8 := [40, 97, 33, 61, 48, 41, 38, 38, 40, 120, 61, 49, 47, 97, 41]
def lzB : List UInt8 := [97, 61, 61, 48, 124, 124, 49, 47, 97, 61, 61, 50]
def lzC : List UInt8 := [97, 32, 63, 32, 55, 32, 58, 32, 40, 121, 61, 49, 47, 97, 41]
theorem q0 : parsed lzA = some (nT [38, 38] (nT [33, 61] (nV [97]) (nN 0)) (nG [120] (nT [47] (nN 1) (nV [97])))) := by kernel_rfl
theorem q1 : parsed lzB = some (nT [124, 124] (nT [61, 61] (nV [97]) (nN 0)) (nT [61, 61] (nT [47] (nN 1) (nV [97])) (nN 2))) := by kernel_rfl
theorem q2 : parsed lzC = some (nC (nV [97]) (nN 7) (nG [121] (nT [47] (nN 1) (nV [97])))) := by kernel_rfl
def aV (a : Int) : List V := [⟨[97], textF a⟩]
theorem aA {a : Int} (ha : I64 a) : evalF (nV [97]) (aV a) = .ok (a, aV a) := ev_nV (by decide) (get_hit (num_text a ha))
theorem aLen (a : Int) : (aV a).length ≤ 64 := by simp [aV]
theorem lazy0 : arithF lzA (aV 0) = .ok (0, aV 0) ∧ arithF lzB (aV 0) = .ok (1, aV 0) ∧ arithF lzC (aV 0) = .error 42 := by
  have ha : I64 0 := by unfold I64; omega
  refine ⟨(arith_of q0 (by decide) (aLen 0)).trans (ev_and_no (ev_nT rfl rfl (aA ha) (ev_nN 0 _) rfl)), (arith_of q1 (by decide) (aLen 0)).trans (ev_or_yes (ev_nT rfl rfl (aA ha) (ev_nN 0 _) (v := 1) rfl) (by decide)), (arith_of q2 (by decide) (aLen 0)).trans (ev_nC_no (aA ha) (ev_nG_err (ev_nT_err rfl rfl (ev_nN 1 _) (aA ha) rfl)))⟩
theorem div_one (a : Int) : (a = 1 ∧ (1 : Int).tdiv a = 1) ∨ (a = -1 ∧ (1 : Int).tdiv a = -1) ∨ (a ≠ 1 ∧ a ≠ -1 ∧ (1 : Int).tdiv a = 0) := by
  by_cases h1 : a = 1
  · left; subst h1; exact ⟨rfl, rfl⟩
  · by_cases h2 : a = -1
    · right; left; subst h2; exact ⟨rfl, rfl⟩
    · right; right
      refine ⟨h1, h2, ?_⟩
      have h := Int.natAbs_tdiv 1 a
      by_cases h0 : a = 0
      · subst h0; rfl
      · have h3 : (Int.natAbs 1).div a.natAbs = 0 := Nat.div_eq_of_lt (by show 1 < a.natAbs; omega)
        rw [h3] at h
        omega
theorem lazy1 {a : Int} (ha : I64 a) (h0 : a ≠ 0) : (∃ l, l.length = 2 ∧ arithF lzA (aV a) = .ok (if a = 1 ∨ a = -1 then 1 else 0, l)) ∧ arithF lzB (aV a) = .ok (0, aV a) ∧ arithF lzC (aV a) = .ok (7, aV a) := by
  have hz : (a == 0) = false := by simpa using h0
  have hd : twoF [47] 1 a = .ok (IntKind.i64.wrap ((1 : Int).tdiv a)) := by
    show (if a == 0 then _ else _) = _
    rw [hz]; rfl
  have hne : twoF [33, 61] a 0 = .ok 1 := by
    show Except.ok (flagI (a != 0)) = _
    have : (a != 0) = true := by simpa using h0
    rw [this]; rfl
  have heq : twoF [61, 61] a 0 = .ok 0 := by
    show Except.ok (flagI (a == 0)) = _
    rw [hz]; rfl
  have e1 := ev_nT (s := [47]) rfl rfl (ev_nN 1 (aV a)) (aA ha) hd
  refine ⟨?_, ?_, (arith_of q2 (by decide) (aLen a)).trans (ev_nC_yes (aA ha) h0 (ev_nN 7 _))⟩
  · have hs : setF [120] (IntKind.i64.wrap ((1 : Int).tdiv a)) (aV a) = .ok [⟨[97], textF a⟩, ⟨[120], textF (IntKind.i64.wrap ((1 : Int).tdiv a))⟩] := by
      simp [setF, findV, aV, putV]
    refine ⟨[⟨[97], textF a⟩, ⟨[120], textF (IntKind.i64.wrap ((1 : Int).tdiv a))⟩], rfl, (arith_of q0 (by decide) (aLen a)).trans ((ev_and_yes (ev_nT rfl rfl (aA ha) (ev_nN 0 _) hne) (by decide) (ev_nG e1 hs)).trans ?_)⟩
    congr 2
    rcases div_one a with ⟨h1, h2⟩ | ⟨h1, h2⟩ | ⟨h1, h2, h3⟩
    · rw [h2, if_pos (.inl h1)]; rfl
    · rw [h2, if_pos (.inr h1)]; rfl
    · rw [h3, if_neg (by omega)]; rfl
  · refine (arith_of q1 (by decide) (aLen a)).trans ((ev_or_no (ev_nT rfl rfl (aA ha) (ev_nN 0 _) heq) (ev_nT (s := [61, 61]) (v := flagI (IntKind.i64.wrap ((1 : Int).tdiv a) == 2)) rfl rfl e1 (ev_nN 2 _) rfl)).trans ?_)
    congr 2
    rcases div_one a with ⟨h1, h2⟩ | ⟨h1, h2⟩ | ⟨h1, h2, h3⟩
    · rw [h2]; rfl
    · rw [h2]; rfl
    · rw [h3]; rfl
end Go.Proofs.Ytkjgadanaknleaa
