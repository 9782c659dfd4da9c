/-
  THE IDEAL LAYER, PART G: numbers, texts, slices, append.
-/
import Derived.Test.YthiidchbaicfgaaGreatDoorIdF
import Derived.Laws.Append
namespace Go.Id
open Go.RowKit
set_option linter.unusedVariables false
set_option linter.unusedSimpArgs false

section
variable {P : Program} {μ : Mu} {σ : St} {w : World}

theorem eqGuard_plain (op : BinOp) (t : TypeId) (x y : Operand) {a b : Value} (h : ∀ c, a ≠ .agg c) (h' : a ≠ .nilIface) : (eqGuard op t x y a b).run P w = .ok () w := by
  unfold eqGuard
  cases op <;> simp <;> cases a <;> simp_all

theorem ibin_sound (hs : Sim μ σ w) (op : BinOp) (t : TypeId) (ox oy : Operand) {x y d : D} {vx vy : Value} (hx : VR μ x vx) (hy : VR μ y vy) (h : ibin op x y = some d) :
    Does P μ (do eqGuard op t ox oy vx vy; binOp op t vx vy) w d σ := by
  unfold ibin at h
  split at h
  · rename_i k a k' b
    obtain rfl := hx.int
    obtain rfl := hy.int
    have hg := eqGuard_plain (P := P) (w := w) op t ox oy (a := .int k a) (b := .int k' b) (by simp) (by simp)
    split at h
    · rename_i hsh
      unfold ishift at h
      split at h
      · cases h
      · rename_i hb
        cases op <;> simp [isShift] at hsh <;> simp only [Option.some.injEq] at h <;> subst h <;> refine Does.of hs (VR.mk_int _ _) ?_ <;>
          simp only [Sem.run_bind, hg, Result.andThen_ok] <;> simp [binOp, Op.shift, hb]
    · rename_i hsh
      split at h
      · rename_i hk
        subst hk
        cases op <;> (try (simp [isShift] at hsh; done)) <;> simp only [ibinInt] at h
        case quo | rem =>
          split at h
          · cases h
          · rename_i hb
            simp only [Option.some.injEq] at h; subst h
            refine Does.of hs (VR.mk_int _ _) ?_
            simp only [Sem.run_bind, hg, Result.andThen_ok]
            simp [binOp, Op.intDiv, hb]
        case add | sub | mul | and | or | xor | andNot =>
          simp only [Option.some.injEq] at h; subst h
          refine Does.of hs (VR.mk_int _ _) ?_
          simp only [Sem.run_bind, hg, Result.andThen_ok]
          simp [binOp, Op.intArith, Op.intBits, ibits]
        all_goals
          simp only [Option.some.injEq] at h; subst h
          refine Does.of hs (VR.mk_bool _) ?_
          simp only [Sem.run_bind, hg, Result.andThen_ok]
          simp [binOp, Op.intCmp]
      · cases h
  · rename_i a b
    obtain rfl := hx.str
    obtain rfl := hy.str
    have hg := eqGuard_plain (P := P) (w := w) op t ox oy (a := .string ⟨a.toArray⟩) (b := .string ⟨b.toArray⟩) (by simp) (by simp)
    cases op <;> simp only [ibinStr] at h <;> (try (cases h; done))
    case add =>
      split at h
      · rename_i hl
        simp only [Option.some.injEq] at h; subst h
        refine Does.of hs (VR.mk_str _) ?_
        simp only [Sem.run_bind, hg, Result.andThen_ok]
        have hl' : ¬ (((a.length + b.length : Nat) : Int) > IntKind.i64.max) := by
          have : (IntKind.i64.max : Int) = 9223372036854775807 := by decide
          omega
        simp only [binOp, Op.stringOp, ba_size, ba_append]
        rw [if_neg hl']
        rfl
      · cases h
    all_goals
      simp only [Option.some.injEq] at h; subst h
      refine Does.of hs (VR.mk_bool _) ?_
      simp only [Sem.run_bind, hg, Result.andThen_ok]
      simp [binOp, Op.stringOp]
  · cases h

theorem iun_sound (hs : Sim μ σ w) (op : UnOp) {x d : D} {v : Value} (hx : VR μ x v) (h : iun op x = some d) : Does P μ (Op.unary op v) w d σ := by
  unfold iun at h
  split at h
  · rename_i k n
    obtain rfl := hx.int
    simp only [Option.some.injEq] at h; subst h
    exact Does.of hs (VR.mk_int _ _) (by simp [Op.unary, Op.intArith])
  · rename_i k n
    obtain rfl := hx.int
    simp only [Option.some.injEq] at h; subst h
    exact Does.of hs (VR.mk_int _ _) (by simp [Op.unary, Op.intBits, ibits])
  · rename_i b
    obtain rfl := hx.bool
    simp only [Option.some.injEq] at h; subst h
    exact Does.of hs (VR.mk_bool _) (by simp [Op.unary])
  · cases h

/-- What kind of comparison a type asks for. -/
def fkOf (P : Program) (t : TypeId) : Option FK :=
  match P.underlying t with
  | some .bool => some .bool
  | some (.int _) => some .int
  | some .string => some .str
  | _ => none

def flatOf (P : Program) : Nat → List Field → Option (List FK)
  | _, [] => some []
  | n, f :: fs => if f.name ≠ "_" ∧ f.offset = n then match fkOf P f.type, flatOf P (n + 1) fs with
      | some k, some ks => some (k :: ks)
      | _, _ => none
    else none

def eqKOf (P : Program) (t : TypeId) : Option EqK :=
  match P.underlying t with
  | some .bool => some .bool
  | some (.pointer e) => if (P.info? e).isSome then some .ptr else none
  | some (.slice _) => some .slice
  | some (.map _ _) => some .map
  | some (.func _ _ _) => some .func
  | some (.struct fs) => if P.stoodInHeld t = false ∧ P.eqGuardType P.depth t = false then (flatOf P 0 fs.toList).map .flat else none
  | _ => none

theorem eqFields_sound {d : Nat} : ∀ (fs : List Field) (n : Nat) (ks : List FK) (xs ys : List D) (vx vy : List Value) (b : Bool), flatOf P n fs = some ks → CRl μ xs (vx.drop n) → CRl μ ys (vy.drop n) →
    eqFlat ks xs ys = some b → (Op.eqFields (d + 1) ⟨vx⟩ ⟨vy⟩ fs).run P w = .ok b w
  | [], n, ks, xs, ys, vx, vy, b, hf, hx, hy, h => by
    simp only [flatOf, Option.some.injEq] at hf
    subst hf
    cases xs <;> cases ys <;> simp [eqFlat] at h
    subst h
    simp [Op.eqFields]
  | f :: fs, n, ks, xs, ys, vx, vy, b, hf, hx, hy, h => by
    simp only [flatOf] at hf
    split at hf
    · rename_i hc
      split at hf
      · rename_i k ks' h1 h2
        simp only [Option.some.injEq] at hf
        subst hf
        cases xs <;> cases ys <;> simp only [eqFlat] at h <;> (try (cases h; done))
        rename_i x xs y ys
        split at h
        · rename_i e1 e2 g1 g2
          simp only [Option.some.injEq] at h
          subst h
          simp only [CRl] at hx hy
          obtain ⟨v, us, hv1, hv2, hv3⟩ := hx
          obtain ⟨u, ws, hu1, hu2, hu3⟩ := hy
          have dv : vx.drop (n + 1) = us := by rw [← List.drop_drop, hv1]; rfl
          have du : vy.drop (n + 1) = ws := by rw [← List.drop_drop, hu1]; rfl
          have gv : vx[n]? = some v := by have := congrArg (·[0]?) hv1; simpa using this
          have gu : vy[n]? = some u := by have := congrArg (·[0]?) hu1; simpa using this
          have ih := eqFields_sound (d := d) fs (n + 1) ks' xs ys vx vy e2 h2 (by rw [dv]; exact hv3) (by rw [du]; exact hu3) g2
          have hpart : ∀ (z : Value) (l : List Value), l[n]? = some z → (part f.type ⟨l⟩ f.offset).run P w = .ok z w := by
            intro z l hz
            unfold fkOf at h1
            split at h1 <;> (try (cases h1; done)) <;> rename_i hu <;> simp [part, isAgg, run_underlying hu, hc.2, hz]
          have heq : (Op.equalIn (d + 1) f.type v u).run P w = .ok e1 w := by
            unfold fkOf at h1
            split at h1 <;> (try (cases h1; done)) <;> rename_i hu <;> simp only [Option.some.injEq] at h1 <;> subst h1 <;>
              (unfold eqScal at g1; split at g1 <;> (try (cases g1; done)) <;> (try (simp at *; done)))
            · simp only [CR, List.cons.injEq, and_true] at hv2 hu2
              subst hv2; subst hu2
              simp only [Option.some.injEq] at g1; subst g1
              exact run_equalIn_bool' w d f.type _ _ hu
            · simp only [CR, List.cons.injEq, and_true] at hv2 hu2
              subst hv2; subst hu2
              split at g1 <;> (try (cases g1; done))
              rename_i hk
              subst hk
              simp only [Option.some.injEq] at g1; subst g1
              exact run_equalIn_int w d f.type _ _ _ _ hu
            · simp only [CR, List.cons.injEq, and_true] at hv2 hu2
              subst hv2; subst hu2
              simp only [Option.some.injEq] at g1; subst g1
              rw [run_equalIn_string w d f.type _ _ hu]
              simp
          simp only [Op.eqFields, if_pos hc.1, Sem.run_bind, hpart v vx gv, hpart u vy gu, Result.andThen_ok, heq, Sem.run_ite, ih]
          cases e1 <;> simp
        · cases h
      · cases hf
    · cases hf

section small
variable (d : Nat) (t e : TypeId)
theorem eqIn_ptr_nil (h : P.underlying t = some (.pointer e)) (b : Option Addr) : (Op.equalIn (d + 1) t (.pointer none) (.pointer b)).run P w = .ok b.isNone w := by
  simp [Op.equalIn, run_underlying h]
theorem eqIn_ptr_nil' (h : P.underlying t = some (.pointer e)) (b : Addr) : (Op.equalIn (d + 1) t (.pointer (some b)) (.pointer none)).run P w = .ok false w := by
  simp [Op.equalIn, run_underlying h]
theorem eqIn_ptr_same {j : TypeInfo} (h : P.underlying t = some (.pointer e)) (hj : P.info? e = some j) (a : Addr) : (Op.equalIn (d + 1) t (.pointer (some a)) (.pointer (some a))).run P w = .ok true w := by
  have hs : (sameAddr a a).run P w = .ok true w := by simp [sameAddr]
  simp [Op.equalIn, run_underlying h, sizeOf, typeInfo, hj, hs]
theorem eqIn_slc_nil (h : P.underlying t = some (.slice e)) (b : Option Addr) (n c n' c' : Nat) : (Op.equalIn (d + 1) t (.slice none n c) (.slice b n' c')).run P w = .ok b.isNone w := by
  simp [Op.equalIn, run_underlying h]
theorem eqIn_slc_nil' (h : P.underlying t = some (.slice e)) (b : Addr) (n c n' c' : Nat) : (Op.equalIn (d + 1) t (.slice (some b) n c) (.slice none n' c')).run P w = .ok false w := by
  simp [Op.equalIn, run_underlying h]
theorem eqIn_map_nil (k : TypeId) (h : P.underlying t = some (.map k e)) (b : Option Nat) : (Op.equalIn (d + 1) t (.map none) (.map b)).run P w = .ok b.isNone w := by
  simp [Op.equalIn, run_underlying h]
theorem eqIn_map_nil' (k : TypeId) (h : P.underlying t = some (.map k e)) (b : Nat) : (Op.equalIn (d + 1) t (.map (some b)) (.map none)).run P w = .ok false w := by
  simp [Op.equalIn, run_underlying h]
theorem eqIn_fn_nn (a b : Array TypeId) (c : Bool) (h : P.underlying t = some (.func a b c)) : (Op.equalIn (d + 1) t .nilFunc .nilFunc).run P w = .ok true w := by
  simp [Op.equalIn, run_underlying h]
theorem eqIn_fn_nf (a b : Array TypeId) (c : Bool) (h : P.underlying t = some (.func a b c)) (f : Fn) (x y : Array Value) : (Op.equalIn (d + 1) t .nilFunc (.func f x y)).run P w = .ok false w := by
  simp [Op.equalIn, run_underlying h]
theorem eqIn_fn_fn (a b : Array TypeId) (c : Bool) (h : P.underlying t = some (.func a b c)) (f : Fn) (x y : Array Value) : (Op.equalIn (d + 1) t (.func f x y) .nilFunc).run P w = .ok false w := by
  simp [Op.equalIn, run_underlying h]
end small

theorem ieq_equal {t : TypeId} {k : EqK} (hk : eqKOf P t = some k) {x y : D} {vx vy : Value} (hx : VR μ x vx) (hy : VR μ y vy) {b : Bool} (h : ieq k x y = some b) :
    (Op.equalIn (9998 + 1 + 1) t vx vy).run P w = .ok b w ∧ (∀ op ox oy, (eqGuard op t ox oy vx vy).run P w = .ok () w) ∧
    (∀ op, op = .eql ∨ op = .neq → (binOp op t vx vy).run P w = ((Op.equalIn (9998 + 1 + 1) t vx vy).run P w).andThen fun r w' => .ok (.bool (if op = .neq then !r else r)) w') := by
  have pl : ∀ {a b : Value}, (∀ c, a ≠ .agg c) → a ≠ .nilIface → ∀ op ox oy, (eqGuard op t ox oy a b).run P w = .ok () w := fun h1 h2 op ox oy => eqGuard_plain op t ox oy h1 h2
  unfold eqKOf at hk
  cases hu : P.underlying t with
  | none => simp [hu] at hk
  | some d =>
    cases d <;> simp only [hu] at hk <;> (try (cases hk; done))
    case bool =>
      simp only [Option.some.injEq] at hk; subst hk
      cases x <;> cases y <;> simp only [ieq] at h <;> (try (cases h; done))
      simp only [Option.some.injEq] at h; subst h
      obtain rfl := hx.bool
      obtain rfl := hy.bool
      exact ⟨run_equalIn_bool' w _ t _ _ hu, pl (by simp) (by simp), by rintro op (rfl | rfl) <;> simp [binOp, Op.equal, Op.maxDepth]⟩
    case pointer pe =>
      split at hk <;> (try (cases hk; done))
      rename_i hinf
      simp only [Option.some.injEq] at hk; subst hk
      obtain ⟨jj, hj⟩ := Option.isSome_iff_exists.1 hinf
      cases x <;> cases y <;> simp only [ieq] at h <;> (try (cases h; done)) <;> (try (simp only [Option.some.injEq] at h; subst h))
      · obtain rfl := hx.nilp
        obtain rfl := hy.nilp
        exact ⟨eqIn_ptr_nil _ t _ hu _, pl (by simp) (by simp), by rintro op (rfl | rfl) <;> simp [binOp, Op.equal, Op.maxDepth]⟩
      · obtain rfl := hx.nilp
        obtain ⟨b, o, rfl, _⟩ := hy.box
        exact ⟨eqIn_ptr_nil _ t _ hu _, pl (by simp) (by simp), by rintro op (rfl | rfl) <;> simp [binOp, Op.equal, Op.maxDepth]⟩
      · obtain rfl := hx.nilp
        obtain ⟨b, o, _, rfl⟩ := hy.ref
        exact ⟨eqIn_ptr_nil _ t _ hu _, pl (by simp) (by simp), by rintro op (rfl | rfl) <;> simp [binOp, Op.equal, Op.maxDepth]⟩
      · obtain rfl := hy.nilp
        obtain ⟨b, o, rfl, _⟩ := hx.box
        exact ⟨eqIn_ptr_nil' _ t _ hu _, pl (by simp) (by simp), by rintro op (rfl | rfl) <;> simp [binOp, Op.equal, Op.maxDepth]⟩
      · obtain rfl := hy.nilp
        obtain ⟨b, o, _, rfl⟩ := hx.ref
        exact ⟨eqIn_ptr_nil' _ t _ hu _, pl (by simp) (by simp), by rintro op (rfl | rfl) <;> simp [binOp, Op.equal, Op.maxDepth]⟩
      · split at h
        · rename_i hjo
          obtain ⟨rfl, rfl⟩ := hjo
          simp only [Option.some.injEq] at h; subst h
          obtain ⟨b, o, h1, rfl⟩ := hx.ref
          obtain ⟨b', o', h2, rfl⟩ := hy.ref
          rw [h1] at h2
          simp only [Option.some.injEq, Prod.mk.injEq] at h2
          obtain ⟨rfl, rfl⟩ := h2
          exact ⟨eqIn_ptr_same _ t pe hu hj _, pl (by simp) (by simp), by rintro op (rfl | rfl) <;> simp [binOp, Op.equal, Op.maxDepth]⟩
        · cases h
    case slice =>
      simp only [Option.some.injEq] at hk; subst hk
      cases x <;> cases y <;> simp only [ieq] at h <;> (try (cases h; done)) <;> simp only [Option.some.injEq] at h <;> subst h
      · obtain rfl := hx.nils
        obtain rfl := hy.nils
        exact ⟨eqIn_slc_nil _ t _ hu _ _ _ _ _, pl (by simp) (by simp), by rintro op (rfl | rfl) <;> simp [binOp, Op.equal, Op.maxDepth]⟩
      · obtain rfl := hx.nils
        obtain ⟨b, o, cap, rfl, _, _⟩ := hy.slc
        exact ⟨eqIn_slc_nil _ t _ hu _ _ _ _ _, pl (by simp) (by simp), by rintro op (rfl | rfl) <;> simp [binOp, Op.equal, Op.maxDepth]⟩
      · obtain rfl := hx.nils
        obtain ⟨b, o, cap, _, rfl, _⟩ := hy.rslc
        exact ⟨eqIn_slc_nil _ t _ hu _ _ _ _ _, pl (by simp) (by simp), by rintro op (rfl | rfl) <;> simp [binOp, Op.equal, Op.maxDepth]⟩
      · obtain rfl := hy.nils
        obtain ⟨b, o, cap, rfl, _, _⟩ := hx.slc
        exact ⟨eqIn_slc_nil' _ t _ hu _ _ _ _ _, pl (by simp) (by simp), by rintro op (rfl | rfl) <;> simp [binOp, Op.equal, Op.maxDepth]⟩
      · obtain rfl := hy.nils
        obtain ⟨b, o, cap, _, rfl, _⟩ := hx.rslc
        exact ⟨eqIn_slc_nil' _ t _ hu _ _ _ _ _, pl (by simp) (by simp), by rintro op (rfl | rfl) <;> simp [binOp, Op.equal, Op.maxDepth]⟩
    case map =>
      simp only [Option.some.injEq] at hk; subst hk
      cases x <;> cases y <;> simp only [ieq] at h <;> (try (cases h; done)) <;> simp only [Option.some.injEq] at h <;> subst h
      · obtain rfl := hx.nilm
        obtain rfl := hy.nilm
        exact ⟨eqIn_map_nil _ t _ _ hu _, pl (by simp) (by simp), by rintro op (rfl | rfl) <;> simp [binOp, Op.equal, Op.maxDepth]⟩
      · obtain rfl := hx.nilm
        obtain ⟨b, _, rfl⟩ := hy.map
        exact ⟨eqIn_map_nil _ t _ _ hu _, pl (by simp) (by simp), by rintro op (rfl | rfl) <;> simp [binOp, Op.equal, Op.maxDepth]⟩
      · obtain rfl := hy.nilm
        obtain ⟨b, _, rfl⟩ := hx.map
        exact ⟨eqIn_map_nil' _ t _ _ hu _, pl (by simp) (by simp), by rintro op (rfl | rfl) <;> simp [binOp, Op.equal, Op.maxDepth]⟩
    case func =>
      simp only [Option.some.injEq] at hk; subst hk
      cases x <;> cases y <;> simp only [ieq] at h <;> (try (cases h; done)) <;> simp only [Option.some.injEq] at h <;> subst h
      · obtain rfl := hx.nilf
        obtain rfl := hy.nilf
        exact ⟨eqIn_fn_nn _ t _ _ _ hu, pl (by simp) (by simp), by rintro op (rfl | rfl) <;> simp [binOp, Op.equal, Op.maxDepth]⟩
      · obtain rfl := hx.nilf
        obtain ⟨fs, cs, rfl, _, _⟩ := hy.func
        exact ⟨eqIn_fn_nf _ t _ _ _ hu _ _ _, pl (by simp) (by simp), by rintro op (rfl | rfl) <;> simp [binOp, Op.equal, Op.maxDepth]⟩
      · obtain rfl := hy.nilf
        obtain ⟨fs, cs, rfl, _, _⟩ := hx.func
        exact ⟨eqIn_fn_fn _ t _ _ _ hu _ _ _, pl (by simp) (by simp), by rintro op (rfl | rfl) <;> simp [binOp, Op.equal, Op.maxDepth]⟩
    case struct fs =>
      split at hk
      · rename_i hc
        simp only [Option.map_eq_some_iff] at hk
        obtain ⟨ks, hf, rfl⟩ := hk
        cases x <;> cases y <;> simp only [ieq] at h <;> (try (cases h; done))
        obtain ⟨vs, rfl, hvx⟩ := hx.agg
        obtain ⟨ws, rfl, hvy⟩ := hy.agg
        have hfo : P.fieldsOf t = fs := by simp [Program.fieldsOf, hu]
        refine ⟨?_, fun op ox oy => run_eqGuard_agg w op t ox oy _ _ hc.2, by rintro op (rfl | rfl) <;> simp [binOp, Op.equal, Op.maxDepth]⟩
        rw [run_equalIn_struct w _ t _ _ (by rw [hfo]; exact hu) hc.1, hfo]
        exact eqFields_sound fs.toList 0 ks _ _ vs ws b hf (by simpa using hvx) (by simpa using hvy) h
      · cases hk

def isC : Operand → Bool
  | .const _ => true
  | _ => false

theorem eqIn_if_nn (d : Nat) (t : TypeId) (ms : Array (String × TypeId)) (h : P.underlying t = some (.interface ms)) : (Op.equalIn (d + 1) t .nilIface .nilIface).run P w = .ok true w := by
  simp [Op.equalIn, run_underlying h]
theorem eqIn_if_ni (d : Nat) (t : TypeId) (ms : Array (String × TypeId)) (h : P.underlying t = some (.interface ms)) (u : TypeId) (v : Value) : (Op.equalIn (d + 1) t .nilIface (.iface u v)).run P w = .ok false w := by
  simp [Op.equalIn, run_underlying h]
theorem eqIn_if_in (d : Nat) (t : TypeId) (ms : Array (String × TypeId)) (h : P.underlying t = some (.interface ms)) (u : TypeId) (v : Value) : (Op.equalIn (d + 1) t (.iface u v) .nilIface).run P w = .ok false w := by
  simp [Op.equalIn, run_underlying h]

theorem ieqI_sound (hs : Sim μ σ w) {op : BinOp} (ho : op = .eql ∨ op = .neq) {t : TypeId} {ms : Array (String × TypeId)} (ht : P.underlying t = some (.interface ms)) (ox oy : Operand) (hc : isC ox = true ∨ isC oy = true) {x y : D} {vx vy : Value}
    (hx : VR μ x vx) (hy : VR μ y vy) {b : Bool} (h : ieq .iface x y = some b) :
    Does P μ (do eqGuard op t ox oy vx vy; binOp op t vx vy) w (.bool (if op = .neq then !b else b)) σ := by
  have g0 : (eqGuard op t ox oy .nilIface .nilIface).run P w = .ok () w := by
    rcases hc with hc | hc <;> rcases ho with rfl | rfl <;> cases ox <;> cases oy <;> simp_all [eqGuard, isC]
  have g1 : ∀ u v, (eqGuard op t ox oy .nilIface (.iface u v)).run P w = .ok () w := by
    intro u v
    rcases ho with rfl | rfl <;> simp [eqGuard]
  have g2 : ∀ u v, (eqGuard op t ox oy (.iface u v) .nilIface).run P w = .ok () w := by
    intro u v
    rcases ho with rfl | rfl <;> simp [eqGuard]
  refine Does.of hs (VR.mk_bool _) ?_
  cases x <;> cases y <;> simp only [ieq] at h <;> (try (cases h; done)) <;> simp only [Option.some.injEq] at h <;> subst h
  · obtain rfl := hx.nili
    obtain rfl := hy.nili
    simp only [Sem.run_bind, g0, Result.andThen_ok]
    have := eqIn_if_nn (P := P) (w := w) 9999 t ms ht
    rcases ho with rfl | rfl <;> simp [binOp, Op.equal, Op.maxDepth, this]
  · obtain rfl := hx.nili
    obtain ⟨v, rfl, _⟩ := hy.iface
    simp only [Sem.run_bind, g1, Result.andThen_ok]
    have := eqIn_if_ni (P := P) (w := w) 9999 t ms ht
    rcases ho with rfl | rfl <;> simp [binOp, Op.equal, Op.maxDepth, this]
  · obtain rfl := hy.nili
    obtain ⟨v, rfl, _⟩ := hx.iface
    simp only [Sem.run_bind, g2, Result.andThen_ok]
    have := eqIn_if_in (P := P) (w := w) 9999 t ms ht
    rcases ho with rfl | rfl <;> simp [binOp, Op.equal, Op.maxDepth, this]

theorem ieq_sound (hs : Sim μ σ w) {op : BinOp} (ho : op = .eql ∨ op = .neq) {t : TypeId} {k : EqK} (hk : eqKOf P t = some k) (ox oy : Operand) {x y : D} {vx vy : Value} (hx : VR μ x vx) (hy : VR μ y vy)
    {b : Bool} (h : ieq k x y = some b) :
    Does P μ (do eqGuard op t ox oy vx vy; binOp op t vx vy) w (.bool (if op = .neq then !b else b)) σ := by
  obtain ⟨h1, h2, h3⟩ := ieq_equal (w := w) hk hx hy h
  refine Does.of hs (VR.mk_bool _) ?_
  simp only [Sem.run_bind, h2, Result.andThen_ok]
  rw [h3 op ho, h1]
  rfl

end
end Go.Id

/-
  THE IDEAL LAYER, PART H: slices of texts and slices, append, conversions, interfaces.
-/
namespace Go.Id
open Go.RowKit
set_option linter.unusedVariables false
set_option linter.unusedSimpArgs false

section
variable {P : Program} {μ : Mu} {σ : St} {w : World}

theorem toInt_sound (hs : Sim μ σ w) {src dst : TypeId} {ds : TypeDesc} {k : IntKind} (h1 : P.underlying src = some ds) (h2 : P.underlying dst = some (.int k)) {k' : IntKind} {n : Int} {v : Value} (hx : VR μ (.int k' n) v) :
    Does P μ (convert src dst v) w (.int k (k.wrap n)) σ := by
  obtain rfl := hx.int
  exact Does.of hs (VR.mk_int _ _) (by simp [convert, run_underlying h1, run_underlying h2, Conv.intToInt])

theorem toStr_sound (hs : Sim μ σ w) {src dst : TypeId} {ds : TypeDesc} (h1 : P.underlying src = some ds) (h2 : P.underlying dst = some .string) {s : List UInt8} {v : Value} (hx : VR μ (.str s) v) :
    Does P μ (convert src dst v) w (.str s) σ := by
  obtain rfl := hx.str
  refine Does.of hs (VR.mk_str _) ?_
  simp only [convert, Sem.run_bind, run_underlying h1, run_underlying h2, Result.andThen_ok]
  cases ds <;> simp

theorem mkIface_sound (hs : Sim μ σ w) {t : TypeId} {d : TypeDesc} (h : P.underlying t = some d) (hd : ∀ ms, d ≠ .interface ms) {x : D} {v : Value} (hx : VR μ x v) :
    Does P μ (Instr.makeInterface t v) w (.iface t x) σ := by
  refine Does.of hs (VR.mk_iface hx) ?_
  simp only [Instr.makeInterface, Sem.run_bind, run_underlying h, Result.andThen_ok]
  cases d <;> simp_all

theorem CRt.of_ops {e : List D} {a : Act} (he : ER μ e a) : ∀ (xs : List Operand) (os : List Opd), xs.mapM ropd = some os → CRt μ (os.map (·.ev e)) (xs.map a.eval)
  | [], os, h => by simp at h; subst h; simp [CRt]
  | x :: xs, os, h => by
    simp only [List.mapM_cons, Option.bind_eq_bind, Option.bind_eq_some_iff, Option.pure_def, Option.some.injEq] at h
    obtain ⟨o, h1, os', h2, rfl⟩ := h
    have hv := ropd_sound he h1
    simp only [List.map_cons, CRt]
    exact ⟨_, _, rfl, hv.1, hv.2, CRt.of_ops he xs os' h2⟩

theorem mkFunc_sound (hs : Sim μ σ w) {e : List D} {a : Act} (he : ER μ e a) {f : Fn} {first captured : Array Operand} {fo co : List Opd} (h1 : first.toList.mapM ropd = some fo) (h2 : captured.toList.mapM ropd = some co) :
    Does P μ (Instr.makeFunc f (first.map a.eval) (captured.map a.eval)) w (.func f (fo.map (·.ev e)) (co.map (·.ev e))) σ := by
  have g1 := CRt.of_ops he first.toList fo h1
  have g2 := CRt.of_ops he captured.toList co h2
  have := VR.mk_func (f := f) g1 g2
  refine Does.of hs this ?_
  simp only [Instr.makeFunc, Sem.run_pure, Result.ok.injEq, and_true]
  congr 1 <;> (apply Array.ext'; simp)

/-- An optional bound. -/
def BR (μ : Mu) : Option D → Option Value → Prop
  | none, none => True
  | some d, some v => VR μ d v
  | _, _ => False

theorem run_bound {lim lim' : Nat} {d : D} {v : Value} {n dflt : Nat} (hv : VR μ d v) (h : ibound (some d) dflt lim = some n) (hl : lim ≤ lim') (code : BoundsCode) :
    (Instr.sliceBound v lim' code).run P w = .ok n w ∧ n ≤ lim := by
  unfold ibound at h
  split at h
  · rename_i e; cases e
  · rename_i k i e
    simp only [Option.some.injEq] at e; subst e
    split at h
    · rename_i hc
      simp only [Option.some.injEq] at h; subst h
      obtain rfl := hv.int
      refine ⟨?_, by omega⟩
      have : 0 ≤ i ∧ i ≤ (lim' : Int) := ⟨hc.1, by omega⟩
      simp [Instr.sliceBound, asIntOf, this]
    · cases h
  · cases h

theorem run_bounds2 (b : Bool) {len cap lim : Nat} (hc : lim ≤ cap) {lo hi : Option D} {vlo vhi : Option Value} (hlo : BR μ lo vlo) (hhi : BR μ hi vhi) {n l : Nat}
    (hn : ibound hi len lim = some n) (hl : ibound lo 0 n = some l) : (Instr.sliceBounds b len cap vlo vhi none).run P w = .ok (l, n, cap) w := by
  unfold Instr.sliceBounds
  cases hi <;> cases vhi <;> simp only [BR] at hhi <;> cases lo <;> cases vlo <;> simp only [BR] at hlo
  · simp only [ibound, Option.some.injEq] at hn hl; subst hn; subst hl; simp
  · simp only [ibound, Option.some.injEq] at hn; subst hn; simp [(run_bound (P := P) (w := w) hlo hl (Nat.le_refl _) _).1]
  · simp only [ibound, Option.some.injEq] at hl; subst hl; simp [(run_bound (P := P) (w := w) hhi hn hc _).1]
  · simp [(run_bound (P := P) (w := w) hhi hn hc _).1, (run_bound (P := P) (w := w) hlo hl (Nat.le_refl _) _).1]

theorem run_bounds3 (b : Bool) {len cap lim : Nat} (hc : lim ≤ cap) {lo : Option D} {hi mx : D} {vlo : Option Value} {vhi vmx : Value} (hlo : BR μ lo vlo) (hhi : VR μ hi vhi) (hmx : VR μ mx vmx) {m n l : Nat}
    (hm : ibound (some mx) 0 lim = some m) (hn : ibound (some hi) len m = some n) (hl : ibound lo 0 n = some l) : (Instr.sliceBounds b len cap vlo (some vhi) (some vmx)).run P w = .ok (l, n, m) w := by
  unfold Instr.sliceBounds
  cases lo <;> cases vlo <;> simp only [BR] at hlo
  · simp only [ibound, Option.some.injEq] at hl; subst hl
    simp [(run_bound (P := P) (w := w) hmx hm hc _).1, (run_bound (P := P) (w := w) hhi hn (Nat.le_refl _) _).1]
  · simp [(run_bound (P := P) (w := w) hmx hm hc _).1, (run_bound (P := P) (w := w) hhi hn (Nat.le_refl _) _).1, (run_bound (P := P) (w := w) hlo hl (Nat.le_refl _) _).1]

theorem sliceStr_sound (hs : Sim μ σ w) {t : TypeId} (ht : P.underlying t = some .string) {s : List UInt8} {v : Value} (hv : VR μ (.str s) v) {lo hi : Option D} {vlo vhi : Option Value}
    (hlo : BR μ lo vlo) (hhi : BR μ hi vhi) {d : D} (h : isliceStr s lo hi = some d) : Does P μ (Instr.sliceAt t v vlo vhi none) w d σ := by
  obtain rfl := hv.str
  unfold isliceStr at h
  split at h
  · cases h
  · rename_i n hn
    split at h
    · cases h
    · rename_i l hl
      simp only [Option.some.injEq] at h; subst h
      refine Does.of hs (VR.mk_str _) ?_
      have := run_bounds2 (P := P) (w := w) false (Nat.le_refl s.length) hlo hhi hn hl
      simp [Instr.sliceAt, run_underlying ht, Instr.slice, ba_size, this, ba_extract]

theorem CRes.drop {sz : Nat} : ∀ {es : List D} {b o : Nat} (l : Nat), CRes μ sz es b o → CRes μ sz (es.drop l) b (o + l * sz)
  | es, b, o, 0, h => by simpa using h
  | [], b, o, l + 1, h => by simp [CRes]
  | e :: es, b, o, l + 1, h => by
    simp only [CRes] at h
    have := CRes.drop l h.2
    simp only [List.drop_succ_cons]
    rwa [show o + sz + l * sz = o + (l + 1) * sz by rw [Nat.add_mul]; omega] at this
theorem CRes.take {sz : Nat} : ∀ {es : List D} {b o : Nat} (l : Nat), CRes μ sz es b o → CRes μ sz (es.take l) b o
  | _, _, _, 0, _ => by simp [CRes]
  | [], b, o, l + 1, h => by simp [CRes]
  | e :: es, b, o, l + 1, h => by
    simp only [CRes] at h
    simp only [List.take_succ_cons, CRes]
    exact ⟨h.1, h.2.take l⟩

theorem RoomR.le {r : Room} {b e n cap sz : Nat} (h : RoomR μ r b e n cap sz) : n ≤ cap := by
  cases r with
  | exact => simp only [RoomR] at h; omega
  | closed => simpa only [RoomR] using h
  | opened t => obtain ⟨k, h, _⟩ := h; omega

theorem BR.some_left {d : D} {v : Option Value} (h : BR μ (some d) v) : ∃ u, v = some u ∧ VR μ d u := by
  cases v <;> simp only [BR] at h
  exact ⟨_, rfl, h⟩
theorem BR.none_left {v : Option Value} (h : BR μ none v) : v = none := by
  cases v <;> simp_all [BR]

theorem ibound_le {x : Option D} {dflt lim n : Nat} (h : ibound x dflt lim = some n) (hd : dflt ≤ lim) : n ≤ lim := by
  unfold ibound at h
  split at h
  · simp only [Option.some.injEq] at h; omega
  · split at h
    · simp only [Option.some.injEq] at h; omega
    · cases h
  · cases h

theorem sliceSlc_sound (hs : Sim μ σ w) {t e : TypeId} (ht : P.underlying t = some (.slice e)) {ie : TypeInfo} (hie : P.info? e = some ie) {x : D} {v : Value} (hv : VR μ x v) {lo hi mx : Option D} {vlo vhi vmx : Option Value}
    (hlo : BR μ lo vlo) (hhi : BR μ hi vhi) (hmx : BR μ mx vmx) {d : D} (h : isliceSlc ie.size x lo hi mx = some d) : Does P μ (Instr.sliceAt t v vlo vhi vmx) w d σ := by
  have hrun : ∀ (a : Option Addr) (len cap l n m : Nat), (Instr.sliceBounds true len cap vlo vhi vmx).run P w = .ok (l, n, m) w →
      (Instr.sliceAt t (.slice a len cap) vlo vhi vmx).run P w = .ok (.slice (if m = l then a else a.map (·.add (l * ie.size))) (n - l) (m - l)) w := by
    intro a len cap l n m hb
    simp only [Instr.sliceAt, Sem.run_bind, run_underlying ht, Result.andThen_ok, Instr.slice, hb, run_sizeOf' hie]
    rfl
  unfold isliceSlc at h
  split at h
  · -- by contents, no third bound
    rename_i s es r
    obtain rfl := hmx.none_left
    split at h
    case' isFalse => cases h
    rename_i hsz
    subst hsz
    obtain ⟨b, o, cap, rfl, hes, hr⟩ := hv.slc
    have hcap := hr.le
    split at h
    · cases h
    rename_i n hn
    split at h
    · cases h
    rename_i l hl
    simp only [Option.some.injEq] at h; subst h
    have hnle := ibound_le hn (Nat.le_refl _)
    have hlle := ibound_le hl (Nat.zero_le _)
    have hb := run_bounds2 (P := P) (w := w) true hcap hlo hhi hn hl
    refine Does.of hs ?_ (hrun _ _ _ _ _ _ hb)
    have hlen : ((es.drop l).take (n - l)).length = n - l := by simp; omega
    by_cases hml : cap = l
    · -- all is gone
      rw [if_pos hml]
      have hln : l = n ∧ n = es.length ∧ cap = n := by omega
      have he : (es.drop l).take (n - l) = [] := List.eq_nil_of_length_eq_zero (by omega)
      rw [he]
      refine VR.mk_slc (by simp; omega) (by simp [CRes]) ?_
      simp only [cutRoom, hln.2.1, if_true]
      cases r with
      | exact => simp only [RoomR, List.length_nil]; omega
      | closed => simp only [RoomR, List.length_nil]; omega
      | opened t =>
        obtain ⟨_, _, _, h3⟩ := hr
        exact ⟨0, by simp; omega, by simp, by omega⟩
    · rw [if_neg hml]
      simp only [Option.map_some, addr_add]
      refine VR.mk_slc hlen.symm ((hes.drop l).take _) ?_
      rw [hlen]
      unfold cutRoom
      split
      · rename_i hne
        subst hne
        cases r with
        | exact => simp only [RoomR] at hr ⊢; omega
        | closed => simp only [RoomR] at hr ⊢; omega
        | opened t =>
          obtain ⟨k, h1, h2, h3⟩ := hr
          refine ⟨k, by omega, fun hk => ?_, by omega⟩
          rw [h2 hk, Nat.add_assoc, ← Nat.add_mul, show l + (es.length - l) = es.length by omega]
      · simp only [RoomR]; omega
  · rename_i s es r m
    obtain ⟨vm, rfl, hm⟩ := hmx.some_left
    split at h
    case' isFalse => cases h
    rename_i hsz
    subst hsz
    obtain ⟨b, o, cap, rfl, hes, hr⟩ := hv.slc
    have hcap := hr.le
    split at h
    · cases h
    rename_i m' hm'
    split at h
    · cases h
    rename_i n hn
    split at h
    · cases h
    rename_i l hl
    split at h
    case' isFalse => cases h
    rename_i hc
    simp only [Option.some.injEq] at h; subst h
    obtain ⟨rfl, hc2⟩ := hc
    cases hi with
    | none => simp at hc2
    | some hi =>
    obtain ⟨vh, rfl, hh⟩ := hhi.some_left
    have hnle := ibound_le hm' (Nat.zero_le _)
    have hlle := ibound_le hl (Nat.zero_le _)
    have hb := run_bounds3 (P := P) (w := w) true hcap hlo hh hm hm' hn hl
    refine Does.of hs ?_ (hrun _ _ _ _ _ _ hb)
    have hlen : ((es.drop l).take (n - l)).length = n - l := by simp; omega
    by_cases hml : n = l
    · rw [if_pos hml]
      have he : (es.drop l).take (n - l) = [] := List.eq_nil_of_length_eq_zero (by omega)
      rw [he]
      exact VR.mk_slc (by simp; omega) (by simp [CRes]) (by simp only [RoomR, List.length_nil]; omega)
    · rw [if_neg hml]
      simp only [Option.map_some, addr_add]
      exact VR.mk_slc hlen.symm ((hes.drop l).take _) (by rw [hlen]; simp only [RoomR])
  · rename_i j off s len r
    obtain rfl := hmx.none_left
    split at h
    case' isFalse => cases h
    rename_i hsz
    subst hsz
    obtain ⟨b, o, cap, hl0, rfl, hr⟩ := hv.rslc
    have hcap := hr.le
    split at h
    · cases h
    rename_i n hn
    split at h
    · cases h
    rename_i l hl
    split at h
    case' isFalse => cases h
    rename_i hlt
    simp only [Option.some.injEq] at h; subst h
    have hnle := ibound_le hn (Nat.le_refl _)
    have hb := run_bounds2 (P := P) (w := w) true hcap hlo hhi hn hl
    refine Does.of hs ?_ (hrun _ _ _ _ _ _ hb)
    rw [if_neg (by omega)]
    simp only [Option.map_some, addr_add, Nat.add_assoc]
    refine VR.mk_rslc hl0 ?_
    unfold cutRoom
    split
    · rename_i hne
      subst hne
      cases r with
      | exact => simp only [RoomR] at hr ⊢; omega
      | closed => simp only [RoomR] at hr ⊢; omega
      | opened t =>
        obtain ⟨k, h1, h2, h3⟩ := hr
        refine ⟨k, by omega, fun hk => ?_, by omega⟩
        rw [h2 hk]
        simp only [Nat.add_assoc]
        rw [← Nat.add_mul, show l + (n - l) = n by omega]
    · simp only [RoomR]; omega
  · obtain rfl := hmx.none_left
    obtain rfl := hv.nils
    split at h
    · cases h
    rename_i n hn
    split at h
    · cases h
    rename_i l hl
    simp only [Option.some.injEq] at h; subst h
    have hnle := ibound_le hn (Nat.le_refl _)
    have hlle := ibound_le hl (Nat.zero_le _)
    obtain rfl : n = 0 := by omega
    obtain rfl : l = 0 := by omega
    have hb := run_bounds2 (P := P) (w := w) true (Nat.le_refl 0) hlo hhi hn hl
    exact Does.of hs VR.mk_nils (hrun _ _ _ _ _ _ hb)
  · rename_i m
    obtain ⟨vm, rfl, hm⟩ := hmx.some_left
    obtain rfl := hv.nils
    split at h
    · cases h
    rename_i m' hm'
    split at h
    · cases h
    rename_i n hn
    split at h
    · cases h
    rename_i l hl
    split at h
    case' isFalse => cases h
    rename_i hc2
    simp only [Option.some.injEq] at h; subst h
    cases hi with
    | none => simp at hc2
    | some hi =>
    obtain ⟨vh, rfl, hh⟩ := hhi.some_left
    have hmle := ibound_le hm' (Nat.zero_le _)
    obtain rfl : m' = 0 := by omega
    have hnle := ibound_le hn (Nat.le_refl _)
    have hlle := ibound_le hl (Nat.zero_le _)
    obtain rfl : n = 0 := by omega
    obtain rfl : l = 0 := by omega
    have hb := run_bounds3 (P := P) (w := w) true (Nat.le_refl 0) hlo hh hm hm' hn hl
    exact Does.of hs VR.mk_nils (hrun _ _ _ _ _ _ hb)
  · cases h

theorem lenSlc_sound (hs : Sim μ σ w) {t e ty : TypeId} (ht : P.underlying t = some (.slice e)) {x d : D} {v : Value} (hv : VR μ x v) (h : ilen x = some d) : Does P μ (Builtin.len_ #[t] ty #[v]) w d σ := by
  have hrun : ∀ a n c, (Builtin.len_ #[t] ty #[.slice a n c]).run P w = .ok (.int .i64 n) w := by
    intro a n c
    simp [Builtin.len_, run_underlying ht, goInt]
  cases x <;> simp [ilen] at h <;> subst h
  · obtain rfl := hv.nils
    exact Does.of hs (VR.mk_int _ _) (hrun _ _ _)
  · obtain ⟨b, o, cap, rfl, _, _⟩ := hv.slc
    exact Does.of hs (VR.mk_int _ _) (hrun _ _ _)
  · obtain ⟨b, o, cap, _, rfl, _⟩ := hv.rslc
    exact Does.of hs (VR.mk_int _ _) (hrun _ _ _)

theorem lenStr_sound (hs : Sim μ σ w) {t ty : TypeId} (ht : P.underlying t = some .string) {s : List UInt8} {v : Value} (hv : VR μ (.str s) v) : Does P μ (Builtin.len_ #[t] ty #[v]) w (.int .i64 s.length) σ := by
  obtain rfl := hv.str
  refine Does.of hs (VR.mk_int _ _) ?_
  simp [Builtin.len_, run_underlying ht, goInt, ba_size]

theorem assert_sound (hs : Sim μ σ w) {xt t : TypeId} {d : TypeDesc} (hd : P.underlying t = some d) (hn : ∀ ms, d ≠ .interface ms) {i : TypeInfo} (hi : P.info? t = some i) {z : Value} (hz : i.zero = some z) {x r : D} {v : Value} (hv : VR μ x v)
    (h : iassert t (ofV z) x = some r) : Does P μ (Instr.typeAssert v xt t true) w r σ := by
  have zz : VR μ (.tuple [ofV z, .bool false]) (.tuple ⟨[z, .bool false]⟩) := by
    refine VR.mk_tuple ?_
    simp only [CRt]
    exact ⟨z, [.bool false], rfl, (VR.ofV (μ := μ) z).1, (VR.ofV (μ := μ) z).2, .bool false, [], rfl, rfl, by simp [CR, vcells], rfl⟩
  have hzr : (zeroValue t).run P w = .ok z w := by simp [zeroValue, typeInfo, hi, hz]
  cases x <;> simp only [iassert] at h <;> (try (cases h; done))
  · simp only [Option.some.injEq] at h; subst h
    obtain rfl := hv.nili
    refine Does.of hs zz ?_
    simp only [Instr.typeAssert, Sem.run_bind, run_underlying hd, Result.andThen_ok]
    cases d <;> simp_all
  · rename_i u x
    obtain ⟨y, rfl, hy⟩ := hv.iface
    split at h
    · rename_i hu
      subst hu
      simp only [Option.some.injEq] at h; subst h
      refine Does.of hs (v := .tuple ⟨[y, .bool true]⟩) (VR.mk_tuple ?_) ?_
      · simp only [CRt]
        exact ⟨y, [.bool true], rfl, hy.1, hy.2, .bool true, [], rfl, rfl, by simp [CR, vcells], rfl⟩
      · simp only [Instr.typeAssert, Sem.run_bind, run_underlying hd, Result.andThen_ok]
        cases d <;> simp_all
    · rename_i hu
      simp only [Option.some.injEq] at h; subst h
      refine Does.of hs zz ?_
      simp only [Instr.typeAssert, Sem.run_bind, run_underlying hd, Result.andThen_ok]
      cases d <;> simp_all

end
end Go.Id
