/-
  THE IDEAL LAYER, PART G: numbers, texts, slices, append.
-/
import Derived.Test.YtkjgadanaknleaaIdF
import Derived.Laws.Append
namespace Go.Id
open Go.RowKit
set_option linter.unusedVariables false
set_option linter.unusedSimpArgs false

section
variable {P : Program} {μ : Mu} {σ : St} {w : World}

theorem eqGuard_plain (op : BinOp) (t : TypeId) (x y : Operand) {a b : Value} (h : ∀ c, a ≠ .agg c) (h' : a ≠ .nilIface) : (eqGuard op t x y a b).run P w = .ok () w := by
  unfold eqGuard
  cases op <;> simp <;> cases a <;> simp_all

theorem ibin_sound (hs : Sim μ σ w) (op : BinOp) (t : TypeId) (ox oy : Operand) {x y d : D} {vx vy : Value} (hx : VR μ x vx) (hy : VR μ y vy) (h : ibin op x y = some d) :
    Does P μ (do eqGuard op t ox oy vx vy; binOp op t vx vy) w d σ := by
  unfold ibin at h
  split at h
  · rename_i k a k' b
    obtain rfl := hx.int
    obtain rfl := hy.int
    have hg := eqGuard_plain (P := P) (w := w) op t ox oy (a := .int k a) (b := .int k' b) (by simp) (by simp)
    split at h
    · rename_i hsh
      unfold ishift at h
      split at h
      · cases h
      · rename_i hb
        cases op <;> simp [isShift] at hsh <;> simp only [Option.some.injEq] at h <;> subst h <;> refine Does.of hs (VR.mk_int _ _) ?_ <;>
          simp only [Sem.run_bind, hg, Result.andThen_ok] <;> simp [binOp, Op.shift, hb]
    · rename_i hsh
      split at h
      · rename_i hk
        subst hk
        cases op <;> (try (simp [isShift] at hsh; done)) <;> simp only [ibinInt] at h
        case quo | rem =>
          split at h
          · cases h
          · rename_i hb
            simp only [Option.some.injEq] at h; subst h
            refine Does.of hs (VR.mk_int _ _) ?_
            simp only [Sem.run_bind, hg, Result.andThen_ok]
            simp [binOp, Op.intDiv, hb]
        case add | sub | mul | and | or | xor | andNot =>
          simp only [Option.some.injEq] at h; subst h
          refine Does.of hs (VR.mk_int _ _) ?_
          simp only [Sem.run_bind, hg, Result.andThen_ok]
          simp [binOp, Op.intArith, Op.intBits, ibits]
        all_goals
          simp only [Option.some.injEq] at h; subst h
          refine Does.of hs (VR.mk_bool _) ?_
          simp only [Sem.run_bind, hg, Result.andThen_ok]
          simp [binOp, Op.intCmp]
      · cases h
  · rename_i a b
    obtain rfl := hx.str
    obtain rfl := hy.str
    have hg := eqGuard_plain (P := P) (w := w) op t ox oy (a := .string ⟨a.toArray⟩) (b := .string ⟨b.toArray⟩) (by simp) (by simp)
    cases op <;> simp only [ibinStr] at h <;> (try (cases h; done))
    case add =>
      split at h
      · rename_i hl
        simp only [Option.some.injEq] at h; subst h
        refine Does.of hs (VR.mk_str _) ?_
        simp only [Sem.run_bind, hg, Result.andThen_ok]
        have hl' : ¬ (((a.length + b.length : Nat) : Int) > IntKind.i64.max) := by
          have : (IntKind.i64.max : Int) = 9223372036854775807 := by decide
          omega
        simp only [binOp, Op.stringOp, ba_size, ba_append]
        rw [if_neg hl']
        rfl
      · cases h
    all_goals
      simp only [Option.some.injEq] at h; subst h
      refine Does.of hs (VR.mk_bool _) ?_
      simp only [Sem.run_bind, hg, Result.andThen_ok]
      simp [binOp, Op.stringOp]
  · cases h

theorem iun_sound (hs : Sim μ σ w) (op : UnOp) {x d : D} {v : Value} (hx : VR μ x v) (h : iun op x = some d) : Does P μ (Op.unary op v) w d σ := by
  unfold iun at h
  split at h
  · rename_i k n
    obtain rfl := hx.int
    simp only [Option.some.injEq] at h; subst h
    exact Does.of hs (VR.mk_int _ _) (by simp [Op.unary, Op.intArith])
  · rename_i k n
    obtain rfl := hx.int
    simp only [Option.some.injEq] at h; subst h
    exact Does.of hs (VR.mk_int _ _) (by simp [Op.unary, Op.intBits, ibits])
  · rename_i b
    obtain rfl := hx.bool
    simp only [Option.some.injEq] at h; subst h
    exact Does.of hs (VR.mk_bool _) (by simp [Op.unary])
  · cases h

/-- What kind of comparison a type asks for. -/
def fkOf (P : Program) (t : TypeId) : Option FK :=
  match P.underlying t with
  | some .bool => some .bool
  | some (.int _) => some .int
  | some .string => some .str
  | _ => none

def flatOf (P : Program) : Nat → List Field → Option (List FK)
  | _, [] => some []
  | n, f :: fs => if f.name ≠ "_" ∧ f.offset = n then match fkOf P f.type, flatOf P (n + 1) fs with
      | some k, some ks => some (k :: ks)
      | _, _ => none
    else none

def eqKOf (P : Program) (t : TypeId) : Option EqK :=
  match P.underlying t with
  | some .bool => some .bool
  | some (.pointer _) => some .ptr
  | some (.slice _) => some .slice
  | some (.map _ _) => some .map
  | some (.func _ _ _) => some .func
  | some (.struct fs) => if P.stoodInHeld t = false ∧ P.eqGuardType P.depth t = false then (flatOf P 0 fs.toList).map .flat else none
  | _ => none

theorem eqFields_sound {d : Nat} : ∀ (fs : List Field) (n : Nat) (ks : List FK) (xs ys : List D) (vx vy : List Value) (b : Bool), flatOf P n fs = some ks → CRl μ xs (vx.drop n) → CRl μ ys (vy.drop n) →
    eqFlat ks xs ys = some b → (Op.eqFields (d + 1) ⟨vx⟩ ⟨vy⟩ fs).run P w = .ok b w
  | [], n, ks, xs, ys, vx, vy, b, hf, hx, hy, h => by
    simp only [flatOf, Option.some.injEq] at hf
    subst hf
    cases xs <;> cases ys <;> simp [eqFlat] at h
    subst h
    simp [Op.eqFields]
  | f :: fs, n, ks, xs, ys, vx, vy, b, hf, hx, hy, h => by
    simp only [flatOf] at hf
    split at hf
    · rename_i hc
      split at hf
      · rename_i k ks' h1 h2
        simp only [Option.some.injEq] at hf
        subst hf
        cases xs <;> cases ys <;> simp only [eqFlat] at h <;> (try (cases h; done))
        rename_i x xs y ys
        split at h
        · rename_i e1 e2 g1 g2
          simp only [Option.some.injEq] at h
          subst h
          simp only [CRl] at hx hy
          obtain ⟨v, us, hv1, hv2, hv3⟩ := hx
          obtain ⟨u, ws, hu1, hu2, hu3⟩ := hy
          have dv : vx.drop (n + 1) = us := by rw [← List.drop_drop, hv1]; rfl
          have du : vy.drop (n + 1) = ws := by rw [← List.drop_drop, hu1]; rfl
          have gv : vx[n]? = some v := by have := congrArg (·[0]?) hv1; simpa using this
          have gu : vy[n]? = some u := by have := congrArg (·[0]?) hu1; simpa using this
          have ih := eqFields_sound (d := d) fs (n + 1) ks' xs ys vx vy e2 h2 (by rw [dv]; exact hv3) (by rw [du]; exact hu3) g2
          have hpart : ∀ (z : Value) (l : List Value), l[n]? = some z → (part f.type ⟨l⟩ f.offset).run P w = .ok z w := by
            intro z l hz
            unfold fkOf at h1
            split at h1 <;> (try (cases h1; done)) <;> rename_i hu <;> simp [part, isAgg, run_underlying hu, hc.2, hz]
          have heq : (Op.equalIn (d + 1) f.type v u).run P w = .ok e1 w := by
            unfold fkOf at h1
            split at h1 <;> (try (cases h1; done)) <;> rename_i hu <;> simp only [Option.some.injEq] at h1 <;> subst h1 <;>
              (unfold eqScal at g1; split at g1 <;> (try (cases g1; done)) <;> (try (simp at *; done)))
            · simp only [CR, List.cons.injEq, and_true] at hv2 hu2
              subst hv2; subst hu2
              simp only [Option.some.injEq] at g1; subst g1
              exact run_equalIn_bool' w d f.type _ _ hu
            · simp only [CR, List.cons.injEq, and_true] at hv2 hu2
              subst hv2; subst hu2
              split at g1 <;> (try (cases g1; done))
              rename_i hk
              subst hk
              simp only [Option.some.injEq] at g1; subst g1
              exact run_equalIn_int w d f.type _ _ _ _ hu
            · simp only [CR, List.cons.injEq, and_true] at hv2 hu2
              subst hv2; subst hu2
              simp only [Option.some.injEq] at g1; subst g1
              rw [run_equalIn_string w d f.type _ _ hu]
              simp
          simp only [Op.eqFields, if_pos hc.1, Sem.run_bind, hpart v vx gv, hpart u vy gu, Result.andThen_ok, heq, Sem.run_ite, ih]
          cases e1 <;> simp
        · cases h
      · cases hf
    · cases hf

section small
variable (d : Nat) (t e : TypeId)
theorem eqIn_ptr_nil (h : P.underlying t = some (.pointer e)) (b : Option Addr) : (Op.equalIn (d + 1) t (.pointer none) (.pointer b)).run P w = .ok b.isNone w := by
  simp [Op.equalIn, run_underlying h]
theorem eqIn_ptr_nil' (h : P.underlying t = some (.pointer e)) (b : Addr) : (Op.equalIn (d + 1) t (.pointer (some b)) (.pointer none)).run P w = .ok false w := by
  simp [Op.equalIn, run_underlying h]
theorem eqIn_slc_nil (h : P.underlying t = some (.slice e)) (b : Option Addr) (n c n' c' : Nat) : (Op.equalIn (d + 1) t (.slice none n c) (.slice b n' c')).run P w = .ok b.isNone w := by
  simp [Op.equalIn, run_underlying h]
theorem eqIn_slc_nil' (h : P.underlying t = some (.slice e)) (b : Addr) (n c n' c' : Nat) : (Op.equalIn (d + 1) t (.slice (some b) n c) (.slice none n' c')).run P w = .ok false w := by
  simp [Op.equalIn, run_underlying h]
theorem eqIn_map_nil (k : TypeId) (h : P.underlying t = some (.map k e)) (b : Option Nat) : (Op.equalIn (d + 1) t (.map none) (.map b)).run P w = .ok b.isNone w := by
  simp [Op.equalIn, run_underlying h]
theorem eqIn_map_nil' (k : TypeId) (h : P.underlying t = some (.map k e)) (b : Nat) : (Op.equalIn (d + 1) t (.map (some b)) (.map none)).run P w = .ok false w := by
  simp [Op.equalIn, run_underlying h]
theorem eqIn_fn_nn (a b : Array TypeId) (c : Bool) (h : P.underlying t = some (.func a b c)) : (Op.equalIn (d + 1) t .nilFunc .nilFunc).run P w = .ok true w := by
  simp [Op.equalIn, run_underlying h]
theorem eqIn_fn_nf (a b : Array TypeId) (c : Bool) (h : P.underlying t = some (.func a b c)) (f : Fn) (x y : Array Value) : (Op.equalIn (d + 1) t .nilFunc (.func f x y)).run P w = .ok false w := by
  simp [Op.equalIn, run_underlying h]
theorem eqIn_fn_fn (a b : Array TypeId) (c : Bool) (h : P.underlying t = some (.func a b c)) (f : Fn) (x y : Array Value) : (Op.equalIn (d + 1) t (.func f x y) .nilFunc).run P w = .ok false w := by
  simp [Op.equalIn, run_underlying h]
end small

theorem ieq_equal {t : TypeId} {k : EqK} (hk : eqKOf P t = some k) {x y : D} {vx vy : Value} (hx : VR μ x vx) (hy : VR μ y vy) {b : Bool} (h : ieq k x y = some b) :
    (Op.equalIn (9998 + 1 + 1) t vx vy).run P w = .ok b w ∧ (∀ op ox oy, (eqGuard op t ox oy vx vy).run P w = .ok () w) ∧
    (∀ op, op = .eql ∨ op = .neq → (binOp op t vx vy).run P w = ((Op.equalIn (9998 + 1 + 1) t vx vy).run P w).andThen fun r w' => .ok (.bool (if op = .neq then !r else r)) w') := by
  have pl : ∀ {a b : Value}, (∀ c, a ≠ .agg c) → a ≠ .nilIface → ∀ op ox oy, (eqGuard op t ox oy a b).run P w = .ok () w := fun h1 h2 op ox oy => eqGuard_plain op t ox oy h1 h2
  unfold eqKOf at hk
  cases hu : P.underlying t with
  | none => simp [hu] at hk
  | some d =>
    cases d <;> simp only [hu] at hk <;> (try (cases hk; done))
    case bool =>
      simp only [Option.some.injEq] at hk; subst hk
      cases x <;> cases y <;> simp only [ieq] at h <;> (try (cases h; done))
      simp only [Option.some.injEq] at h; subst h
      obtain rfl := hx.bool
      obtain rfl := hy.bool
      exact ⟨run_equalIn_bool' w _ t _ _ hu, pl (by simp) (by simp), by rintro op (rfl | rfl) <;> simp [binOp, Op.equal, Op.maxDepth]⟩
    case pointer =>
      simp only [Option.some.injEq] at hk; subst hk
      cases x <;> cases y <;> simp only [ieq] at h <;> (try (cases h; done)) <;> simp only [Option.some.injEq] at h <;> subst h
      · obtain rfl := hx.nilp
        obtain rfl := hy.nilp
        exact ⟨eqIn_ptr_nil _ t _ hu _, pl (by simp) (by simp), by rintro op (rfl | rfl) <;> simp [binOp, Op.equal, Op.maxDepth]⟩
      · obtain rfl := hx.nilp
        obtain ⟨b, o, rfl, _⟩ := hy.box
        exact ⟨eqIn_ptr_nil _ t _ hu _, pl (by simp) (by simp), by rintro op (rfl | rfl) <;> simp [binOp, Op.equal, Op.maxDepth]⟩
      · obtain rfl := hx.nilp
        obtain ⟨b, o, _, rfl⟩ := hy.ref
        exact ⟨eqIn_ptr_nil _ t _ hu _, pl (by simp) (by simp), by rintro op (rfl | rfl) <;> simp [binOp, Op.equal, Op.maxDepth]⟩
      · obtain rfl := hy.nilp
        obtain ⟨b, o, rfl, _⟩ := hx.box
        exact ⟨eqIn_ptr_nil' _ t _ hu _, pl (by simp) (by simp), by rintro op (rfl | rfl) <;> simp [binOp, Op.equal, Op.maxDepth]⟩
      · obtain rfl := hy.nilp
        obtain ⟨b, o, _, rfl⟩ := hx.ref
        exact ⟨eqIn_ptr_nil' _ t _ hu _, pl (by simp) (by simp), by rintro op (rfl | rfl) <;> simp [binOp, Op.equal, Op.maxDepth]⟩
    case slice =>
      simp only [Option.some.injEq] at hk; subst hk
      cases x <;> cases y <;> simp only [ieq] at h <;> (try (cases h; done)) <;> simp only [Option.some.injEq] at h <;> subst h
      · obtain rfl := hx.nils
        obtain rfl := hy.nils
        exact ⟨eqIn_slc_nil _ t _ hu _ _ _ _ _, pl (by simp) (by simp), by rintro op (rfl | rfl) <;> simp [binOp, Op.equal, Op.maxDepth]⟩
      · obtain rfl := hx.nils
        obtain ⟨b, o, cap, rfl, _, _⟩ := hy.slc
        exact ⟨eqIn_slc_nil _ t _ hu _ _ _ _ _, pl (by simp) (by simp), by rintro op (rfl | rfl) <;> simp [binOp, Op.equal, Op.maxDepth]⟩
      · obtain rfl := hx.nils
        obtain ⟨b, o, cap, _, rfl, _⟩ := hy.rslc
        exact ⟨eqIn_slc_nil _ t _ hu _ _ _ _ _, pl (by simp) (by simp), by rintro op (rfl | rfl) <;> simp [binOp, Op.equal, Op.maxDepth]⟩
      · obtain rfl := hy.nils
        obtain ⟨b, o, cap, rfl, _, _⟩ := hx.slc
        exact ⟨eqIn_slc_nil' _ t _ hu _ _ _ _ _, pl (by simp) (by simp), by rintro op (rfl | rfl) <;> simp [binOp, Op.equal, Op.maxDepth]⟩
      · obtain rfl := hy.nils
        obtain ⟨b, o, cap, _, rfl, _⟩ := hx.rslc
        exact ⟨eqIn_slc_nil' _ t _ hu _ _ _ _ _, pl (by simp) (by simp), by rintro op (rfl | rfl) <;> simp [binOp, Op.equal, Op.maxDepth]⟩
    case map =>
      simp only [Option.some.injEq] at hk; subst hk
      cases x <;> cases y <;> simp only [ieq] at h <;> (try (cases h; done)) <;> simp only [Option.some.injEq] at h <;> subst h
      · obtain rfl := hx.nilm
        obtain rfl := hy.nilm
        exact ⟨eqIn_map_nil _ t _ _ hu _, pl (by simp) (by simp), by rintro op (rfl | rfl) <;> simp [binOp, Op.equal, Op.maxDepth]⟩
      · obtain rfl := hx.nilm
        obtain ⟨b, _, rfl⟩ := hy.map
        exact ⟨eqIn_map_nil _ t _ _ hu _, pl (by simp) (by simp), by rintro op (rfl | rfl) <;> simp [binOp, Op.equal, Op.maxDepth]⟩
      · obtain rfl := hy.nilm
        obtain ⟨b, _, rfl⟩ := hx.map
        exact ⟨eqIn_map_nil' _ t _ _ hu _, pl (by simp) (by simp), by rintro op (rfl | rfl) <;> simp [binOp, Op.equal, Op.maxDepth]⟩
    case func =>
      simp only [Option.some.injEq] at hk; subst hk
      cases x <;> cases y <;> simp only [ieq] at h <;> (try (cases h; done)) <;> simp only [Option.some.injEq] at h <;> subst h
      · obtain rfl := hx.nilf
        obtain rfl := hy.nilf
        exact ⟨eqIn_fn_nn _ t _ _ _ hu, pl (by simp) (by simp), by rintro op (rfl | rfl) <;> simp [binOp, Op.equal, Op.maxDepth]⟩
      · obtain rfl := hx.nilf
        obtain ⟨fs, cs, rfl, _, _⟩ := hy.func
        exact ⟨eqIn_fn_nf _ t _ _ _ hu _ _ _, pl (by simp) (by simp), by rintro op (rfl | rfl) <;> simp [binOp, Op.equal, Op.maxDepth]⟩
      · obtain rfl := hy.nilf
        obtain ⟨fs, cs, rfl, _, _⟩ := hx.func
        exact ⟨eqIn_fn_fn _ t _ _ _ hu _ _ _, pl (by simp) (by simp), by rintro op (rfl | rfl) <;> simp [binOp, Op.equal, Op.maxDepth]⟩
    case struct fs =>
      split at hk
      · rename_i hc
        simp only [Option.map_eq_some_iff] at hk
        obtain ⟨ks, hf, rfl⟩ := hk
        cases x <;> cases y <;> simp only [ieq] at h <;> (try (cases h; done))
        obtain ⟨vs, rfl, hvx⟩ := hx.agg
        obtain ⟨ws, rfl, hvy⟩ := hy.agg
        have hfo : P.fieldsOf t = fs := by simp [Program.fieldsOf, hu]
        refine ⟨?_, fun op ox oy => run_eqGuard_agg w op t ox oy _ _ hc.2, by rintro op (rfl | rfl) <;> simp [binOp, Op.equal, Op.maxDepth]⟩
        rw [run_equalIn_struct w _ t _ _ (by rw [hfo]; exact hu) hc.1, hfo]
        exact eqFields_sound fs.toList 0 ks _ _ vs ws b hf (by simpa using hvx) (by simpa using hvy) h
      · cases hk

def isC : Operand → Bool
  | .const _ => true
  | _ => false

theorem eqIn_if_nn (d : Nat) (t : TypeId) (ms : Array (String × TypeId)) (h : P.underlying t = some (.interface ms)) : (Op.equalIn (d + 1) t .nilIface .nilIface).run P w = .ok true w := by
  simp [Op.equalIn, run_underlying h]
theorem eqIn_if_ni (d : Nat) (t : TypeId) (ms : Array (String × TypeId)) (h : P.underlying t = some (.interface ms)) (u : TypeId) (v : Value) : (Op.equalIn (d + 1) t .nilIface (.iface u v)).run P w = .ok false w := by
  simp [Op.equalIn, run_underlying h]
theorem eqIn_if_in (d : Nat) (t : TypeId) (ms : Array (String × TypeId)) (h : P.underlying t = some (.interface ms)) (u : TypeId) (v : Value) : (Op.equalIn (d + 1) t (.iface u v) .nilIface).run P w = .ok false w := by
  simp [Op.equalIn, run_underlying h]

theorem ieqI_sound (hs : Sim μ σ w) {op : BinOp} (ho : op = .eql ∨ op = .neq) {t : TypeId} {ms : Array (String × TypeId)} (ht : P.underlying t = some (.interface ms)) (ox oy : Operand) (hc : isC ox = true ∨ isC oy = true) {x y : D} {vx vy : Value}
    (hx : VR μ x vx) (hy : VR μ y vy) {b : Bool} (h : ieq .iface x y = some b) :
    Does P μ (do eqGuard op t ox oy vx vy; binOp op t vx vy) w (.bool (if op = .neq then !b else b)) σ := by
  have g0 : (eqGuard op t ox oy .nilIface .nilIface).run P w = .ok () w := by
    rcases hc with hc | hc <;> rcases ho with rfl | rfl <;> cases ox <;> cases oy <;> simp_all [eqGuard, isC]
  have g1 : ∀ u v, (eqGuard op t ox oy .nilIface (.iface u v)).run P w = .ok () w := by
    intro u v
    rcases ho with rfl | rfl <;> simp [eqGuard]
  have g2 : ∀ u v, (eqGuard op t ox oy (.iface u v) .nilIface).run P w = .ok () w := by
    intro u v
    rcases ho with rfl | rfl <;> simp [eqGuard]
  refine Does.of hs (VR.mk_bool _) ?_
  cases x <;> cases y <;> simp only [ieq] at h <;> (try (cases h; done)) <;> simp only [Option.some.injEq] at h <;> subst h
  · obtain rfl := hx.nili
    obtain rfl := hy.nili
    simp only [Sem.run_bind, g0, Result.andThen_ok]
    have := eqIn_if_nn (P := P) (w := w) 9999 t ms ht
    rcases ho with rfl | rfl <;> simp [binOp, Op.equal, Op.maxDepth, this]
  · obtain rfl := hx.nili
    obtain ⟨v, rfl, _⟩ := hy.iface
    simp only [Sem.run_bind, g1, Result.andThen_ok]
    have := eqIn_if_ni (P := P) (w := w) 9999 t ms ht
    rcases ho with rfl | rfl <;> simp [binOp, Op.equal, Op.maxDepth, this]
  · obtain rfl := hy.nili
    obtain ⟨v, rfl, _⟩ := hx.iface
    simp only [Sem.run_bind, g2, Result.andThen_ok]
    have := eqIn_if_in (P := P) (w := w) 9999 t ms ht
    rcases ho with rfl | rfl <;> simp [binOp, Op.equal, Op.maxDepth, this]

theorem ieq_sound (hs : Sim μ σ w) {op : BinOp} (ho : op = .eql ∨ op = .neq) {t : TypeId} {k : EqK} (hk : eqKOf P t = some k) (ox oy : Operand) {x y : D} {vx vy : Value} (hx : VR μ x vx) (hy : VR μ y vy)
    {b : Bool} (h : ieq k x y = some b) :
    Does P μ (do eqGuard op t ox oy vx vy; binOp op t vx vy) w (.bool (if op = .neq then !b else b)) σ := by
  obtain ⟨h1, h2, h3⟩ := ieq_equal (w := w) hk hx hy h
  refine Does.of hs (VR.mk_bool _) ?_
  simp only [Sem.run_bind, h2, Result.andThen_ok]
  rw [h3 op ho, h1]
  rfl

end
end Go.Id
