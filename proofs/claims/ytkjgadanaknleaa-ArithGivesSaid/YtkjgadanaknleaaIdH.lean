/-
  THE IDEAL LAYER, PART H: slices of texts and slices, append, conversions, interfaces.
-/
import Derived.Test.YtkjgadanaknleaaIdG
namespace Go.Id
open Go.RowKit
set_option linter.unusedVariables false
set_option linter.unusedSimpArgs false

section
variable {P : Program} {μ : Mu} {σ : St} {w : World}

theorem toInt_sound (hs : Sim μ σ w) {src dst : TypeId} {ds : TypeDesc} {k : IntKind} (h1 : P.underlying src = some ds) (h2 : P.underlying dst = some (.int k)) {k' : IntKind} {n : Int} {v : Value} (hx : VR μ (.int k' n) v) :
    Does P μ (convert src dst v) w (.int k (k.wrap n)) σ := by
  obtain rfl := hx.int
  exact Does.of hs (VR.mk_int _ _) (by simp [convert, run_underlying h1, run_underlying h2, Conv.intToInt])

theorem toStr_sound (hs : Sim μ σ w) {src dst : TypeId} {ds : TypeDesc} (h1 : P.underlying src = some ds) (h2 : P.underlying dst = some .string) {s : List UInt8} {v : Value} (hx : VR μ (.str s) v) :
    Does P μ (convert src dst v) w (.str s) σ := by
  obtain rfl := hx.str
  refine Does.of hs (VR.mk_str _) ?_
  simp only [convert, Sem.run_bind, run_underlying h1, run_underlying h2, Result.andThen_ok]
  cases ds <;> simp

theorem mkIface_sound (hs : Sim μ σ w) {t : TypeId} {d : TypeDesc} (h : P.underlying t = some d) (hd : ∀ ms, d ≠ .interface ms) {x : D} {v : Value} (hx : VR μ x v) :
    Does P μ (Instr.makeInterface t v) w (.iface t x) σ := by
  refine Does.of hs (VR.mk_iface hx) ?_
  simp only [Instr.makeInterface, Sem.run_bind, run_underlying h, Result.andThen_ok]
  cases d <;> simp_all

theorem CRt.of_ops {e : List D} {a : Act} (he : ER μ e a) : ∀ (xs : List Operand) (os : List Opd), xs.mapM ropd = some os → CRt μ (os.map (·.ev e)) (xs.map a.eval)
  | [], os, h => by simp at h; subst h; simp [CRt]
  | x :: xs, os, h => by
    simp only [List.mapM_cons, Option.bind_eq_bind, Option.bind_eq_some_iff, Option.pure_def, Option.some.injEq] at h
    obtain ⟨o, h1, os', h2, rfl⟩ := h
    have hv := ropd_sound he h1
    simp only [List.map_cons, CRt]
    exact ⟨_, _, rfl, hv.1, hv.2, CRt.of_ops he xs os' h2⟩

theorem mkFunc_sound (hs : Sim μ σ w) {e : List D} {a : Act} (he : ER μ e a) {f : Fn} {first captured : Array Operand} {fo co : List Opd} (h1 : first.toList.mapM ropd = some fo) (h2 : captured.toList.mapM ropd = some co) :
    Does P μ (Instr.makeFunc f (first.map a.eval) (captured.map a.eval)) w (.func f (fo.map (·.ev e)) (co.map (·.ev e))) σ := by
  have g1 := CRt.of_ops he first.toList fo h1
  have g2 := CRt.of_ops he captured.toList co h2
  have := VR.mk_func (f := f) g1 g2
  refine Does.of hs this ?_
  simp only [Instr.makeFunc, Sem.run_pure, Result.ok.injEq, and_true]
  congr 1 <;> (apply Array.ext'; simp)

/-- An optional bound. -/
def BR (μ : Mu) : Option D → Option Value → Prop
  | none, none => True
  | some d, some v => VR μ d v
  | _, _ => False

theorem run_bound {lim lim' : Nat} {d : D} {v : Value} {n dflt : Nat} (hv : VR μ d v) (h : ibound (some d) dflt lim = some n) (hl : lim ≤ lim') (code : BoundsCode) :
    (Instr.sliceBound v lim' code).run P w = .ok n w ∧ n ≤ lim := by
  unfold ibound at h
  split at h
  · rename_i e; cases e
  · rename_i k i e
    simp only [Option.some.injEq] at e; subst e
    split at h
    · rename_i hc
      simp only [Option.some.injEq] at h; subst h
      obtain rfl := hv.int
      refine ⟨?_, by omega⟩
      have : 0 ≤ i ∧ i ≤ (lim' : Int) := ⟨hc.1, by omega⟩
      simp [Instr.sliceBound, asIntOf, this]
    · cases h
  · cases h

theorem run_bounds2 (b : Bool) {len cap lim : Nat} (hc : lim ≤ cap) {lo hi : Option D} {vlo vhi : Option Value} (hlo : BR μ lo vlo) (hhi : BR μ hi vhi) {n l : Nat}
    (hn : ibound hi len lim = some n) (hl : ibound lo 0 n = some l) : (Instr.sliceBounds b len cap vlo vhi none).run P w = .ok (l, n, cap) w := by
  unfold Instr.sliceBounds
  cases hi <;> cases vhi <;> simp only [BR] at hhi <;> cases lo <;> cases vlo <;> simp only [BR] at hlo
  · simp only [ibound, Option.some.injEq] at hn hl; subst hn; subst hl; simp
  · simp only [ibound, Option.some.injEq] at hn; subst hn; simp [(run_bound (P := P) (w := w) hlo hl (Nat.le_refl _) _).1]
  · simp only [ibound, Option.some.injEq] at hl; subst hl; simp [(run_bound (P := P) (w := w) hhi hn hc _).1]
  · simp [(run_bound (P := P) (w := w) hhi hn hc _).1, (run_bound (P := P) (w := w) hlo hl (Nat.le_refl _) _).1]

theorem run_bounds3 (b : Bool) {len cap lim : Nat} (hc : lim ≤ cap) {lo : Option D} {hi mx : D} {vlo : Option Value} {vhi vmx : Value} (hlo : BR μ lo vlo) (hhi : VR μ hi vhi) (hmx : VR μ mx vmx) {m n l : Nat}
    (hm : ibound (some mx) 0 lim = some m) (hn : ibound (some hi) len m = some n) (hl : ibound lo 0 n = some l) : (Instr.sliceBounds b len cap vlo (some vhi) (some vmx)).run P w = .ok (l, n, m) w := by
  unfold Instr.sliceBounds
  cases lo <;> cases vlo <;> simp only [BR] at hlo
  · simp only [ibound, Option.some.injEq] at hl; subst hl
    simp [(run_bound (P := P) (w := w) hmx hm hc _).1, (run_bound (P := P) (w := w) hhi hn (Nat.le_refl _) _).1]
  · simp [(run_bound (P := P) (w := w) hmx hm hc _).1, (run_bound (P := P) (w := w) hhi hn (Nat.le_refl _) _).1, (run_bound (P := P) (w := w) hlo hl (Nat.le_refl _) _).1]

theorem sliceStr_sound (hs : Sim μ σ w) {t : TypeId} (ht : P.underlying t = some .string) {s : List UInt8} {v : Value} (hv : VR μ (.str s) v) {lo hi : Option D} {vlo vhi : Option Value}
    (hlo : BR μ lo vlo) (hhi : BR μ hi vhi) {d : D} (h : isliceStr s lo hi = some d) : Does P μ (Instr.sliceAt t v vlo vhi none) w d σ := by
  obtain rfl := hv.str
  unfold isliceStr at h
  split at h
  · cases h
  · rename_i n hn
    split at h
    · cases h
    · rename_i l hl
      simp only [Option.some.injEq] at h; subst h
      refine Does.of hs (VR.mk_str _) ?_
      have := run_bounds2 (P := P) (w := w) false (Nat.le_refl s.length) hlo hhi hn hl
      simp [Instr.sliceAt, run_underlying ht, Instr.slice, ba_size, this, ba_extract]

theorem CRes.drop {sz : Nat} : ∀ {es : List D} {b o : Nat} (l : Nat), CRes μ sz es b o → CRes μ sz (es.drop l) b (o + l * sz)
  | es, b, o, 0, h => by simpa using h
  | [], b, o, l + 1, h => by simp [CRes]
  | e :: es, b, o, l + 1, h => by
    simp only [CRes] at h
    have := CRes.drop l h.2
    simp only [List.drop_succ_cons]
    rwa [show o + sz + l * sz = o + (l + 1) * sz by rw [Nat.add_mul]; omega] at this
theorem CRes.take {sz : Nat} : ∀ {es : List D} {b o : Nat} (l : Nat), CRes μ sz es b o → CRes μ sz (es.take l) b o
  | _, _, _, 0, _ => by simp [CRes]
  | [], b, o, l + 1, h => by simp [CRes]
  | e :: es, b, o, l + 1, h => by
    simp only [CRes] at h
    simp only [List.take_succ_cons, CRes]
    exact ⟨h.1, h.2.take l⟩

theorem RoomR.le {r : Room} {b e n cap sz : Nat} (h : RoomR μ r b e n cap sz) : n ≤ cap := by
  cases r with
  | exact => simp only [RoomR] at h; omega
  | closed => simpa only [RoomR] using h
  | opened t => obtain ⟨k, h, _⟩ := h; omega

theorem BR.some_left {d : D} {v : Option Value} (h : BR μ (some d) v) : ∃ u, v = some u ∧ VR μ d u := by
  cases v <;> simp only [BR] at h
  exact ⟨_, rfl, h⟩
theorem BR.none_left {v : Option Value} (h : BR μ none v) : v = none := by
  cases v <;> simp_all [BR]

theorem ibound_le {x : Option D} {dflt lim n : Nat} (h : ibound x dflt lim = some n) (hd : dflt ≤ lim) : n ≤ lim := by
  unfold ibound at h
  split at h
  · simp only [Option.some.injEq] at h; omega
  · split at h
    · simp only [Option.some.injEq] at h; omega
    · cases h
  · cases h

theorem sliceSlc_sound (hs : Sim μ σ w) {t e : TypeId} (ht : P.underlying t = some (.slice e)) {ie : TypeInfo} (hie : P.info? e = some ie) {x : D} {v : Value} (hv : VR μ x v) {lo hi mx : Option D} {vlo vhi vmx : Option Value}
    (hlo : BR μ lo vlo) (hhi : BR μ hi vhi) (hmx : BR μ mx vmx) {d : D} (h : isliceSlc ie.size x lo hi mx = some d) : Does P μ (Instr.sliceAt t v vlo vhi vmx) w d σ := by
  have hrun : ∀ (a : Option Addr) (len cap l n m : Nat), (Instr.sliceBounds true len cap vlo vhi vmx).run P w = .ok (l, n, m) w →
      (Instr.sliceAt t (.slice a len cap) vlo vhi vmx).run P w = .ok (.slice (if m = l then a else a.map (·.add (l * ie.size))) (n - l) (m - l)) w := by
    intro a len cap l n m hb
    simp only [Instr.sliceAt, Sem.run_bind, run_underlying ht, Result.andThen_ok, Instr.slice, hb, run_sizeOf' hie]
    rfl
  unfold isliceSlc at h
  split at h
  · -- by contents, no third bound
    rename_i s es r
    obtain rfl := hmx.none_left
    split at h
    case' isFalse => cases h
    rename_i hsz
    subst hsz
    obtain ⟨b, o, cap, rfl, hes, hr⟩ := hv.slc
    have hcap := hr.le
    split at h
    · cases h
    rename_i n hn
    split at h
    · cases h
    rename_i l hl
    simp only [Option.some.injEq] at h; subst h
    have hnle := ibound_le hn (Nat.le_refl _)
    have hlle := ibound_le hl (Nat.zero_le _)
    have hb := run_bounds2 (P := P) (w := w) true hcap hlo hhi hn hl
    refine Does.of hs ?_ (hrun _ _ _ _ _ _ hb)
    have hlen : ((es.drop l).take (n - l)).length = n - l := by simp; omega
    by_cases hml : cap = l
    · -- all is gone
      rw [if_pos hml]
      have hln : l = n ∧ n = es.length ∧ cap = n := by omega
      have he : (es.drop l).take (n - l) = [] := List.eq_nil_of_length_eq_zero (by omega)
      rw [he]
      refine VR.mk_slc (by simp; omega) (by simp [CRes]) ?_
      simp only [cutRoom, hln.2.1, if_true]
      cases r with
      | exact => simp only [RoomR, List.length_nil]; omega
      | closed => simp only [RoomR, List.length_nil]; omega
      | opened t => exact ⟨0, by simp; omega, by simp⟩
    · rw [if_neg hml]
      simp only [Option.map_some, addr_add]
      refine VR.mk_slc hlen.symm ((hes.drop l).take _) ?_
      rw [hlen]
      unfold cutRoom
      split
      · rename_i hne
        subst hne
        cases r with
        | exact => simp only [RoomR] at hr ⊢; omega
        | closed => simp only [RoomR] at hr ⊢; omega
        | opened t =>
          obtain ⟨k, h1, h2⟩ := hr
          refine ⟨k, by omega, fun hk => ?_⟩
          rw [h2 hk, Nat.add_assoc, ← Nat.add_mul, show l + (es.length - l) = es.length by omega]
      · simp only [RoomR]; omega
  · rename_i s es r m
    obtain ⟨vm, rfl, hm⟩ := hmx.some_left
    split at h
    case' isFalse => cases h
    rename_i hsz
    subst hsz
    obtain ⟨b, o, cap, rfl, hes, hr⟩ := hv.slc
    have hcap := hr.le
    split at h
    · cases h
    rename_i m' hm'
    split at h
    · cases h
    rename_i n hn
    split at h
    · cases h
    rename_i l hl
    split at h
    case' isFalse => cases h
    rename_i hc
    simp only [Option.some.injEq] at h; subst h
    obtain ⟨rfl, hc2⟩ := hc
    cases hi with
    | none => simp at hc2
    | some hi =>
    obtain ⟨vh, rfl, hh⟩ := hhi.some_left
    have hnle := ibound_le hm' (Nat.zero_le _)
    have hlle := ibound_le hl (Nat.zero_le _)
    have hb := run_bounds3 (P := P) (w := w) true hcap hlo hh hm hm' hn hl
    refine Does.of hs ?_ (hrun _ _ _ _ _ _ hb)
    have hlen : ((es.drop l).take (n - l)).length = n - l := by simp; omega
    by_cases hml : n = l
    · rw [if_pos hml]
      have he : (es.drop l).take (n - l) = [] := List.eq_nil_of_length_eq_zero (by omega)
      rw [he]
      exact VR.mk_slc (by simp; omega) (by simp [CRes]) (by simp only [RoomR, List.length_nil]; omega)
    · rw [if_neg hml]
      simp only [Option.map_some, addr_add]
      exact VR.mk_slc hlen.symm ((hes.drop l).take _) (by rw [hlen]; simp only [RoomR])
  · rename_i j off s len r
    obtain rfl := hmx.none_left
    split at h
    case' isFalse => cases h
    rename_i hsz
    subst hsz
    obtain ⟨b, o, cap, hl0, rfl, hr⟩ := hv.rslc
    have hcap := hr.le
    split at h
    · cases h
    rename_i n hn
    split at h
    · cases h
    rename_i l hl
    split at h
    case' isFalse => cases h
    rename_i hlt
    simp only [Option.some.injEq] at h; subst h
    have hnle := ibound_le hn (Nat.le_refl _)
    have hb := run_bounds2 (P := P) (w := w) true hcap hlo hhi hn hl
    refine Does.of hs ?_ (hrun _ _ _ _ _ _ hb)
    rw [if_neg (by omega)]
    simp only [Option.map_some, addr_add, Nat.add_assoc]
    refine VR.mk_rslc hl0 ?_
    unfold cutRoom
    split
    · rename_i hne
      subst hne
      cases r with
      | exact => simp only [RoomR] at hr ⊢; omega
      | closed => simp only [RoomR] at hr ⊢; omega
      | opened t =>
        obtain ⟨k, h1, h2⟩ := hr
        refine ⟨k, by omega, fun hk => ?_⟩
        rw [h2 hk]
        simp only [Nat.add_assoc]
        rw [← Nat.add_mul, show l + (n - l) = n by omega]
    · simp only [RoomR]; omega
  · obtain rfl := hmx.none_left
    obtain rfl := hv.nils
    split at h
    · cases h
    rename_i n hn
    split at h
    · cases h
    rename_i l hl
    simp only [Option.some.injEq] at h; subst h
    have hnle := ibound_le hn (Nat.le_refl _)
    have hlle := ibound_le hl (Nat.zero_le _)
    obtain rfl : n = 0 := by omega
    obtain rfl : l = 0 := by omega
    have hb := run_bounds2 (P := P) (w := w) true (Nat.le_refl 0) hlo hhi hn hl
    exact Does.of hs VR.mk_nils (hrun _ _ _ _ _ _ hb)
  · rename_i m
    obtain ⟨vm, rfl, hm⟩ := hmx.some_left
    obtain rfl := hv.nils
    split at h
    · cases h
    rename_i m' hm'
    split at h
    · cases h
    rename_i n hn
    split at h
    · cases h
    rename_i l hl
    split at h
    case' isFalse => cases h
    rename_i hc2
    simp only [Option.some.injEq] at h; subst h
    cases hi with
    | none => simp at hc2
    | some hi =>
    obtain ⟨vh, rfl, hh⟩ := hhi.some_left
    have hmle := ibound_le hm' (Nat.zero_le _)
    obtain rfl : m' = 0 := by omega
    have hnle := ibound_le hn (Nat.le_refl _)
    have hlle := ibound_le hl (Nat.zero_le _)
    obtain rfl : n = 0 := by omega
    obtain rfl : l = 0 := by omega
    have hb := run_bounds3 (P := P) (w := w) true (Nat.le_refl 0) hlo hh hm hm' hn hl
    exact Does.of hs VR.mk_nils (hrun _ _ _ _ _ _ hb)
  · cases h

theorem lenSlc_sound (hs : Sim μ σ w) {t e ty : TypeId} (ht : P.underlying t = some (.slice e)) {x d : D} {v : Value} (hv : VR μ x v) (h : ilen x = some d) : Does P μ (Builtin.len_ #[t] ty #[v]) w d σ := by
  have hrun : ∀ a n c, (Builtin.len_ #[t] ty #[.slice a n c]).run P w = .ok (.int .i64 n) w := by
    intro a n c
    simp [Builtin.len_, run_underlying ht, goInt]
  cases x <;> simp [ilen] at h <;> subst h
  · obtain rfl := hv.nils
    exact Does.of hs (VR.mk_int _ _) (hrun _ _ _)
  · obtain ⟨b, o, cap, rfl, _, _⟩ := hv.slc
    exact Does.of hs (VR.mk_int _ _) (hrun _ _ _)
  · obtain ⟨b, o, cap, _, rfl, _⟩ := hv.rslc
    exact Does.of hs (VR.mk_int _ _) (hrun _ _ _)

theorem lenStr_sound (hs : Sim μ σ w) {t ty : TypeId} (ht : P.underlying t = some .string) {s : List UInt8} {v : Value} (hv : VR μ (.str s) v) : Does P μ (Builtin.len_ #[t] ty #[v]) w (.int .i64 s.length) σ := by
  obtain rfl := hv.str
  refine Does.of hs (VR.mk_int _ _) ?_
  simp [Builtin.len_, run_underlying ht, goInt, ba_size]

theorem assert_sound (hs : Sim μ σ w) {xt t : TypeId} {d : TypeDesc} (hd : P.underlying t = some d) (hn : ∀ ms, d ≠ .interface ms) {i : TypeInfo} (hi : P.info? t = some i) {z : Value} (hz : i.zero = some z) {x r : D} {v : Value} (hv : VR μ x v)
    (h : iassert t (ofV z) x = some r) : Does P μ (Instr.typeAssert v xt t true) w r σ := by
  have zz : VR μ (.tuple [ofV z, .bool false]) (.tuple ⟨[z, .bool false]⟩) := by
    refine VR.mk_tuple ?_
    simp only [CRt]
    exact ⟨z, [.bool false], rfl, (VR.ofV (μ := μ) z).1, (VR.ofV (μ := μ) z).2, .bool false, [], rfl, rfl, by simp [CR, vcells], rfl⟩
  have hzr : (zeroValue t).run P w = .ok z w := by simp [zeroValue, typeInfo, hi, hz]
  cases x <;> simp only [iassert] at h <;> (try (cases h; done))
  · simp only [Option.some.injEq] at h; subst h
    obtain rfl := hv.nili
    refine Does.of hs zz ?_
    simp only [Instr.typeAssert, Sem.run_bind, run_underlying hd, Result.andThen_ok]
    cases d <;> simp_all
  · rename_i u x
    obtain ⟨y, rfl, hy⟩ := hv.iface
    split at h
    · rename_i hu
      subst hu
      simp only [Option.some.injEq] at h; subst h
      refine Does.of hs (v := .tuple ⟨[y, .bool true]⟩) (VR.mk_tuple ?_) ?_
      · simp only [CRt]
        exact ⟨y, [.bool true], rfl, hy.1, hy.2, .bool true, [], rfl, rfl, by simp [CR, vcells], rfl⟩
      · simp only [Instr.typeAssert, Sem.run_bind, run_underlying hd, Result.andThen_ok]
        cases d <;> simp_all
    · rename_i hu
      simp only [Option.some.injEq] at h; subst h
      refine Does.of hs zz ?_
      simp only [Instr.typeAssert, Sem.run_bind, run_underlying hd, Result.andThen_ok]
      cases d <;> simp_all

end
end Go.Id
