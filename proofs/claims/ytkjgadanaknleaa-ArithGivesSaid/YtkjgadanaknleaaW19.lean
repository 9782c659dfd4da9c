/-
  THE PLAIN LAW, PART 19: a number's text is that number.
-/
import Derived.Test.YtkjgadanaknleaaW18
namespace Go.Proofs.Ytkjgadanaknleaa
open Go Go.Id
set_option linter.unusedSimpArgs false
set_option linter.unusedVariables false
set_option maxRecDepth 100000
set_option maxHeartbeats 4000000

theorem dig_of (k : Nat) (h : k < 10) : digitOf (digB k) = k := by
  have : k = 0 ∨ k = 1 ∨ k = 2 ∨ k = 3 ∨ k = 4 ∨ k = 5 ∨ k = 6 ∨ k = 7 ∨ k = 8 ∨ k = 9 := by omega
  rcases this with h | h | h | h | h | h | h | h | h | h <;> subst h <;> rfl
theorem read_digit (most : Int) (c : Nat) (n : Nat) (rest : List UInt8) (hc : c < 10) (hm : most ≤ 18446744073709551615) (hn : 10 * (n : Int) + c ≤ most) :
    readGo 10 most (digB c :: rest) n false = readGo 10 most rest ((10 * n + c : Nat) : Int) false := by
  rw [readGo, dig_of c hc]
  rw [if_neg (by simp; omega)]
  have e1 : IntKind.u64.wrap ((n : Int) * 10) = (n : Int) * 10 := wru64 _ (by omega)
  have e2 : IntKind.u64.wrap ((n : Int) * 10 + c) = (n : Int) * 10 + c := wru64 _ (by omega)
  have e3 : ((most - c).tdiv 10) = (most - c) / 10 := Int.tdiv_eq_ediv_of_nonneg (by omega)
  have e4 : IntKind.u64.wrap ((most - c) / 10) = (most - c) / 10 := wru64 _ (by omega)
  have e5 : decide ((n : Int) > (most - c) / 10) = false := by
    rw [decide_eq_false_iff_not]; omega
  rw [e1, e2, e3, e4, e5]
  congr 1
  push_cast
  omega
theorem read_rb (most : Int) (hm : most ≤ 18446744073709551615) : ∀ (f n : Nat) (rest : List UInt8), n < 10 ^ f → 1 ≤ f → (n : Int) ≤ most → readGo 10 most (rbF 10 f n ++ rest) 0 false = readGo 10 most rest n false
  | 0, _, _, _, h, _ => by omega
  | f + 1, n, rest, hn, _, hmost => by
    rw [rbF]
    by_cases h : n < 10
    · rw [if_pos h]
      have := read_digit most n 0 rest h hm (by omega)
      simpa using this
    · rw [if_neg h]
      have hf : 1 ≤ f := by
        rcases Nat.eq_zero_or_pos f with h2 | h2
        · subst h2; simp at hn; omega
        · exact h2
      have hlt : n / 10 < 10 ^ f := by
        rw [Nat.div_lt_iff_lt_mul (by decide)]
        rw [Nat.pow_succ] at hn; exact hn
      rw [List.append_assoc, read_rb most hm f (n / 10) _ hlt hf (by omega)]
      have := read_digit most (n % 10) (n / 10) rest (Nat.mod_lt _ (by decide)) hm (by omega)
      rw [show [digB (n % 10)] ++ rest = digB (n % 10) :: rest from rfl, this]
      congr 1
      omega
theorem rb_ne (b : Nat) : ∀ (f n : Nat), 1 ≤ f → rbF b f n ≠ []
  | f + 1, n, _ => by rw [rbF]; split <;> simp
theorem base_read (n : Nat) (most : Int) (hm : most ≤ 18446744073709551615) (hn : (n : Int) ≤ most) : readF (baseF 10 n) 10 most = ((n : Int), 0) := by
  rw [baseF_rb 10 n (by decide), readF, if_neg (rb_ne _ _ _ (by decide))]
  have hlt : n < 10 ^ 64 := by
    have : n < 18446744073709551616 := by omega
    exact Nat.lt_trans this (by decide)
  have := read_rb most hm 64 n [] hlt (by decide) hn
  rw [List.append_nil] at this
  rw [this]
  simp [readGo]
/-- What a text of digits begins with. -/
theorem digB_mem (k : Nat) : digB k ∈ digs ∨ digB k = 0 := by
  unfold digB
  rcases Nat.lt_or_ge k digs.length with h | h
  · left; rw [List.getD_eq_getElem?_getD, List.getElem?_eq_getElem h]; exact List.getElem_mem h
  · right; rw [List.getD_eq_getElem?_getD, List.getElem?_eq_none h]; rfl
theorem rb_head (b : Nat) : ∀ (f n : Nat) (x : UInt8), x ∈ rbF b f n → x ∈ digs ∨ x = 0
  | 0, _, x, h => by simp [rbF] at h
  | f + 1, n, x, h => by
    rw [rbF] at h
    split at h
    · rw [List.mem_singleton.1 h]; exact digB_mem n
    · rcases List.mem_append.1 h with h | h
      · exact rb_head b f _ x h
      · rw [List.mem_singleton.1 h]; exact digB_mem _
theorem hasPre_one (s : List UInt8) (c : UInt8) (h : ∀ x ∈ s, x ≠ c) : hasPre s [c] = false := by
  cases s with
  | nil => rfl
  | cons a r =>
    have := h a (List.mem_cons_self ..)
    simp [hasPre, this]
theorem base_pre (n : Nat) (c : UInt8) (hc : c ∉ digs) (h0 : c ≠ 0) : hasPre (baseF 10 n) [c] = false := by
  refine hasPre_one _ _ fun x hx => ?_
  rw [baseF_rb 10 n (by decide)] at hx
  rintro rfl
  rcases rb_head _ _ _ _ hx with h | h
  · exact hc h
  · exact h0 h
theorem dec_text (n : Int) (h : I64 n) : decimalF (textF n) = (n, 0) := by
  unfold I64 at h
  unfold textF
  by_cases hn : n < 0
  · rw [if_pos hn]
    have e : cutPre (45 :: baseF 10 n.natAbs) [45] = (baseF 10 n.natAbs, true) := by
      have : hasPre (45 :: baseF 10 n.natAbs) [45] = true := by simp [hasPre]; omega
      simp [cutPre, this]
    rw [decimalF, e]
    simp only [if_true]
    rw [base_read n.natAbs 9223372036854775808 (by omega) (by omega)]
    have e2 : IntKind.u64.wrap (0 - (n.natAbs : Int)) = n + 18446744073709551616 := by
      have : IntKind.u64.wrap (0 - (n.natAbs : Int)) = (0 - (n.natAbs : Int)) % 18446744073709551616 := by simp [IntKind.wrap, IntKind.bits, IntKind.signed]
      rw [this]; omega
    simp only [e2]
    rw [IntKind.wrap_i64]
    congr 1
    omega
  · rw [if_neg hn]
    have e : cutPre (baseF 10 n.natAbs) [45] = (baseF 10 n.natAbs, false) := by rw [cutPre, base_pre _ 45 (by decide) (by decide)]; rfl
    have e3 : cutPre (baseF 10 n.natAbs) [43] = (baseF 10 n.natAbs, false) := by rw [cutPre, base_pre _ 43 (by decide) (by decide)]; rfl
    rw [decimalF, e, e3]
    simp only [Bool.false_eq_true, if_false]
    rw [base_read n.natAbs 9223372036854775807 (by omega) (by omega)]
    simp only []
    rw [wr64 _ (by omega)]
    congr 1
    omega
theorem text_ne (n : Int) : textF n ≠ [] := by
  unfold textF; split
  · simp
  · rw [baseF_rb 10 _ (by decide)]; exact rb_ne _ _ _ (by decide)
/-- A number's text is that number. -/
theorem num_text (n : Int) (h : I64 n) : numF (textF n) = .ok n := by
  rw [numF, dec_text n h]
  have : (textF n == []) = false := by simpa using text_ne n
  simp [this]
end Go.Proofs.Ytkjgadanaknleaa
