/-
  THE PLAIN LAW, PART 20: texts that are known, with variables whose numbers are known.
-/
import Derived.Test.YtkjgadanaknleaaW19
namespace Go.Proofs.Ytkjgadanaknleaa
open Go Go.Id
set_option linter.unusedSimpArgs false
set_option linter.unusedVariables false
set_option maxRecDepth 100000
set_option maxHeartbeats 4000000

/-- What a text is read as. -/
def parsed (s : List UInt8) : Option Nd := match tokensF s.length s [] with
  | .error _ => none
  | .ok ts => if ts = [] then none else match exprF (4 * ts.length + 4) ts 0 with
    | .error _ => none
    | .ok x => if x.rest = [] then some x.nd else none
theorem arith_of {s : List UInt8} {nd : Nd} {l : List V} (h : parsed s = some nd) (hs : s.length ≤ 8192) (hl : l.length ≤ 64) : arithF s l = evalF nd l := by
  rw [arithF, if_neg (by omega)]
  unfold parsed at h
  split at h
  · cases h
  · rename_i ts hts
    rw [hts]
    simp only []
    split at h
    · cases h
    · rename_i hne
      rw [if_neg hne]
      split at h
      · cases h
      · rename_i x hx
        rw [hx]
        simp only []
        split at h
        · rename_i hr; rw [if_pos hr]; cases h; rfl
        · cases h
def nV (s : List UInt8) : Nd := .leaf ⟨[], s, 0⟩
def nN (n : Int) : Nd := .leaf ⟨[], [], n⟩
def nT (s : List UInt8) (x y : Nd) : Nd := .two ⟨s, [], 0⟩ x y
def nO (s : List UInt8) (x : Nd) : Nd := .one ⟨s, [], 0⟩ x
theorem ev_nV {s : List UInt8} {l : List V} {n : Int} (hs : s ≠ []) (h : getF s l = .ok n) : evalF (nV s) l = .ok (n, l) := by
  simp only [nV, evalF, h]
  rw [if_neg (by simpa using hs)]
theorem ev_nN (n : Int) (l : List V) : evalF (nN n) l = .ok (n, l) := rfl
theorem ev_nO {s : List UInt8} {x : Nd} {l l' : List V} {n : Int} (h : evalF x l = .ok (n, l')) : evalF (nO s x) l = .ok (oneF s n, l') := by simp only [nO, evalF, h]
theorem ev_nT {s : List UInt8} {x y : Nd} {l l' l'' : List V} {a b v : Int} (h1 : (s == [38, 38]) = false) (h2 : (s == [124, 124]) = false) (hx : evalF x l = .ok (a, l')) (hy : evalF y l' = .ok (b, l'')) (h : twoF s a b = .ok v) : evalF (nT s x y) l = .ok (v, l'') := by
  simp only [nT, evalF, hx, hy, h1, h2, h, Bool.false_and, Bool.or_self, Bool.false_eq_true, if_false]
theorem get_hit {s v : List UInt8} {l : List V} {n : Int} (h : numF v = .ok n) : getF s (⟨s, v⟩ :: l) = .ok n := by
  simp [getF, findV, h]
theorem get_miss {s t v : List UInt8} {l : List V} (h : (t == s) = false) : getF s (⟨t, v⟩ :: l) = getF s l := by
  simp only [getF, findV, List.find?_cons, h]

/-! Numbers that go round. -/
theorem wrap_mod (x y : Int) (h : (x - y) % 18446744073709551616 = 0) : IntKind.i64.wrap x = IntKind.i64.wrap y := by
  rw [IntKind.wrap_i64, IntKind.wrap_i64]; omega
theorem wrap_k (x : Int) : ∃ k : Int, IntKind.i64.wrap x = x + k * 18446744073709551616 := by
  rw [IntKind.wrap_i64]
  exact ⟨-((x + 9223372036854775808) / 18446744073709551616), by omega⟩
theorem wrap_add_k (x k : Int) : IntKind.i64.wrap (x + k * 18446744073709551616) = IntKind.i64.wrap x := wrap_mod _ _ (by omega)
theorem xor_ones (n : Int) (h : I64 n) : ibits .xor .i64 (-1) n = -1 - n := by
  unfold I64 at h
  have e1 : (BitVec.ofInt 64 (-1)) = BitVec.allOnes 64 := by decide
  show IntKind.i64.wrap (((BitVec.ofInt 64 (-1)) ^^^ (BitVec.ofInt 64 n)).toNat : Int) = -1 - n
  rw [e1, BitVec.allOnes_xor]
  rw [BitVec.toNat_not, BitVec.toNat_ofInt, IntKind.wrap_i64]
  have : (2 : Int) ^ 64 = 18446744073709551616 := by decide
  omega

/-- The chapter's groups. -/
def groupL : List (List UInt8) := [[40, 97, 43, 98, 41, 43, 99], [97, 43, 40, 99, 43, 98, 41], [97, 42, 98, 42, 99], [99, 42, 40, 97, 42, 98, 41], [97, 42, 40, 98, 43, 99, 41], [97, 42, 98, 43, 97, 42, 99], [97, 45, 40, 98, 45, 99, 41], [97, 45, 98, 43, 99], [45, 97], [126, 97, 43, 49]]
theorem p0 : parsed [40, 97, 43, 98, 41, 43, 99] = some (nT [43] (nT [43] (nV [97]) (nV [98])) (nV [99])) := by kernel_rfl
theorem p1 : parsed [97, 43, 40, 99, 43, 98, 41] = some (nT [43] (nV [97]) (nT [43] (nV [99]) (nV [98]))) := by kernel_rfl
theorem p2 : parsed [97, 42, 98, 42, 99] = some (nT [42] (nT [42] (nV [97]) (nV [98])) (nV [99])) := by kernel_rfl
theorem p3 : parsed [99, 42, 40, 97, 42, 98, 41] = some (nT [42] (nV [99]) (nT [42] (nV [97]) (nV [98]))) := by kernel_rfl
theorem p4 : parsed [97, 42, 40, 98, 43, 99, 41] = some (nT [42] (nV [97]) (nT [43] (nV [98]) (nV [99]))) := by kernel_rfl
theorem p5 : parsed [97, 42, 98, 43, 97, 42, 99] = some (nT [43] (nT [42] (nV [97]) (nV [98])) (nT [42] (nV [97]) (nV [99]))) := by kernel_rfl
theorem p6 : parsed [97, 45, 40, 98, 45, 99, 41] = some (nT [45] (nV [97]) (nT [45] (nV [98]) (nV [99]))) := by kernel_rfl
theorem p7 : parsed [97, 45, 98, 43, 99] = some (nT [43] (nT [45] (nV [97]) (nV [98])) (nV [99])) := by kernel_rfl
theorem p8 : parsed [45, 97] = some (nO [45] (nV [97])) := by kernel_rfl
theorem p9 : parsed [126, 97, 43, 49] = some (nT [43] (nO [126] (nV [97])) (nN 1)) := by kernel_rfl
section
variable {a b c : Int}
def gV (a b c : Int) : List V := [⟨[97], textF a⟩, ⟨[98], textF b⟩, ⟨[99], textF c⟩]
theorem gA (ha : I64 a) : evalF (nV [97]) (gV a b c) = .ok (a, gV a b c) := ev_nV (by decide) (get_hit (num_text a ha))
theorem gB (hb : I64 b) : evalF (nV [98]) (gV a b c) = .ok (b, gV a b c) := ev_nV (by decide) (by rw [gV, get_miss (by decide)]; exact get_hit (num_text b hb))
theorem gC (hc : I64 c) : evalF (nV [99]) (gV a b c) = .ok (c, gV a b c) := ev_nV (by decide) (by rw [gV, get_miss (by decide), get_miss (by decide)]; exact get_hit (num_text c hc))
theorem t_add (x y : Int) : twoF [43] x y = .ok (IntKind.i64.wrap (x + y)) := rfl
theorem t_sub (x y : Int) : twoF [45] x y = .ok (IntKind.i64.wrap (x - y)) := rfl
theorem t_mul (x y : Int) : twoF [42] x y = .ok (IntKind.i64.wrap (x * y)) := rfl
theorem ev_add {x y : Nd} {l l' l'' : List V} {a b : Int} (hx : evalF x l = .ok (a, l')) (hy : evalF y l' = .ok (b, l'')) : evalF (nT [43] x y) l = .ok (IntKind.i64.wrap (a + b), l'') := ev_nT rfl rfl hx hy (t_add a b)
theorem ev_sub {x y : Nd} {l l' l'' : List V} {a b : Int} (hx : evalF x l = .ok (a, l')) (hy : evalF y l' = .ok (b, l'')) : evalF (nT [45] x y) l = .ok (IntKind.i64.wrap (a - b), l'') := ev_nT rfl rfl hx hy (t_sub a b)
theorem ev_mul {x y : Nd} {l l' l'' : List V} {a b : Int} (hx : evalF x l = .ok (a, l')) (hy : evalF y l' = .ok (b, l'')) : evalF (nT [42] x y) l = .ok (IntKind.i64.wrap (a * b), l'') := ev_nT rfl rfl hx hy (t_mul a b)
theorem groups (ha : I64 a) (hb : I64 b) (hc : I64 c) (j : Nat) (hj : j < 5) : ∃ n, arithF (groupL.getD (2 * j) []) (gV a b c) = .ok (n, gV a b c) ∧ arithF (groupL.getD (2 * j + 1) []) (gV a b c) = .ok (n, gV a b c) := by
  have ga := gA (b := b) (c := c) ha
  have gb := gB (a := a) (c := c) hb
  have gc := gC (a := a) (b := b) hc
  have hl : (gV a b c).length ≤ 64 := by simp [gV]
  have : j = 0 ∨ j = 1 ∨ j = 2 ∨ j = 3 ∨ j = 4 := by omega
  rcases this with h | h | h | h | h <;> subst h
  · refine ⟨_, (arith_of p0 (by decide) hl).trans (ev_add (ev_add ga gb) gc), (arith_of p1 (by decide) hl).trans ((ev_add ga (ev_add gc gb)).trans ?_)⟩
    obtain ⟨k, hk⟩ := wrap_k (c + b)
    obtain ⟨k', hk'⟩ := wrap_k (a + b)
    rw [hk, hk']
    congr 2
    exact wrap_mod _ _ (by omega)
  · refine ⟨_, (arith_of p2 (by decide) hl).trans (ev_mul (ev_mul ga gb) gc), (arith_of p3 (by decide) hl).trans ((ev_mul gc (ev_mul ga gb)).trans ?_)⟩
    rw [Int.mul_comm c]
  · refine ⟨_, (arith_of p4 (by decide) hl).trans (ev_mul ga (ev_add gb gc)), (arith_of p5 (by decide) hl).trans ((ev_add (ev_mul ga gb) (ev_mul ga gc)).trans ?_)⟩
    obtain ⟨k, hk⟩ := wrap_k (b + c)
    obtain ⟨k1, hk1⟩ := wrap_k (a * b)
    obtain ⟨k2, hk2⟩ := wrap_k (a * c)
    rw [hk, hk1, hk2]
    congr 2
    have e : a * (b + c + k * 18446744073709551616) = a * (b + c) + (a * k) * 18446744073709551616 := by rw [Int.mul_add, Int.mul_assoc]
    rw [e, Int.mul_add]
    exact wrap_mod _ _ (by omega)
  · refine ⟨_, (arith_of p6 (by decide) hl).trans (ev_sub ga (ev_sub gb gc)), (arith_of p7 (by decide) hl).trans ((ev_add (ev_sub ga gb) gc).trans ?_)⟩
    obtain ⟨k, hk⟩ := wrap_k (b - c)
    obtain ⟨k', hk'⟩ := wrap_k (a - b)
    rw [hk, hk']
    congr 2
    exact wrap_mod _ _ (by omega)
  · refine ⟨_, (arith_of p8 (by decide) hl).trans (ev_nO ga), (arith_of p9 (by decide) hl).trans ((ev_add (ev_nO ga) (ev_nN 1 _)).trans ?_)⟩
    have e1 : oneF [45] a = IntKind.i64.wrap (0 - a) := rfl
    have e2 : oneF [126] a = ibits .xor .i64 (-1) a := rfl
    rw [e1, e2, xor_ones a ha]
    congr 2
    exact wrap_mod _ _ (by omega)
end
end Go.Proofs.Ytkjgadanaknleaa
