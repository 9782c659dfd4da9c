/-
  THE IDEAL LAYER, PART J: the resolution of an operation, and that the resolved one says what the model's does.
-/
import Derived.Test.YtkjgadanaknleaaIdI
namespace Go.Id
open Go.RowKit
set_option linter.unusedVariables false
set_option linter.unusedSimpArgs false

inductive IXop where
  | v (o : IOp)
  | call (f : Opd) (args : List Opd)
  | panic (x : Opd)
  | defer (f : Opd) (args : List Opd)
  | recover

structure IOper where
  dst : Option Nat
  op : IXop
  guard : Option (Nat × Bool)

def ropdO : Option Operand → Option (Option Opd)
  | none => some none
  | some x => (ropd x).map some

def ifaceT (P : Program) (t : TypeId) : Bool :=
  match P.underlying t with
  | some (.interface _) => true
  | _ => false

def sliceKind (P : Program) (t : TypeId) : Option (Option Nat) :=
  match P.underlying t with
  | some .string => some none
  | some (.slice e) => (P.info? e).map fun i => some i.size
  | _ => none

def rbin (P : Program) (op : BinOp) (t : TypeId) (x y : Operand) : Option IOp := do
  let ox ← ropd x
  let oy ← ropd y
  if op = .eql ∨ op = .neq then
    match eqKOf P t with
    | some k => some (.eq (decide (op = .neq)) k ox oy)
    | none => if ifaceT P t = true ∧ (isC x = true ∨ isC y = true) then some (.eq (decide (op = .neq)) .iface ox oy) else some (.bin op ox oy)
  else some (.bin op ox oy)

/-- The operation with all that types say laid in. 'pol': of which types what is boxed is written no more. -/
def rop (P : Program) (pol : TypeId → Bool) (o : Oper) : Option IOp :=
  match o.op with
  | .move x | .assign x => (ropd x).map .mov
  | .pick c a b => do some (.pick (← ropd c) (← ropd a) (← ropd b))
  | .alloc t => do
    let i ← P.info? t
    let z ← i.zero
    some (.alloc ((vcells z).map ofS))
  | .box t x => do
    let o ← ropd x
    some (if pol t then .boxV o else .box o)
  | .build t parts => do
    let (z, place) ← placesOf P t
    let ps ← placed place parts.toList
    some (.build ((vcells z).map ofS) ps)
  | .buildSlice t len parts =>
    match P.underlying t with
    | some (.slice el) => do
      let ie ← P.info? el
      let _ ← ie.zero
      let os ← (parts.toList.map (·.2)).mapM ropd
      if parts.size = len ∧ inOrder 0 parts.toList = true ∧ len * ie.size ≤ 16777216 then some (.buildSlice ie.size os) else none
    | _ => none
  | .load t x => do some (.load (← aggN P t) (← ropd x))
  | .store t a x => do some (.store (← P.info? t).size (← ropd a) (← ropd x))
  | .nilCheck x => do some (.nilCheck (← ropd x))
  | .binOp op t x y _ => rbin P op t x y
  | .unOp op _ x => do some (.un op (← ropd x))
  | .convert src dst x =>
    match P.underlying src, P.underlying dst with
    | some _, some (.int k) => do some (.toInt k (← ropd x))
    | some (.slice e), some .string =>
      match P.underlying e with
      | some (.int .u8) => do some (.bytesStr (← ropd x))
      | _ => none
    | some _, some .string => do some (.toStr (← ropd x))
    | _, _ => none
  | .makeInterface t x =>
    match P.underlying t with
    | some (.interface _) => none
    | some _ => do some (.mkIface t (← ropd x))
    | none => none
  | .makeFunc f first captured => do some (.mkFunc f (← first.toList.mapM ropd) (← captured.toList.mapM ropd))
  | .slice t x lo hi mx =>
    match P.underlying t with
    | some (.array n e) => do
      let ie ← P.info? e
      if mx.isNone then some (.sliceArr n ie.size (← ropd x) (← ropdO lo) (← ropdO hi)) else none
    | _ => do
    let ox ← ropd x
    let ol ← ropdO lo
    let oh ← ropdO hi
    let om ← ropdO mx
    match ← sliceKind P t with
    | none => if mx.isNone then some (.sliceStr ox ol oh) else none
    | some sz => some (.sliceSlc sz ox ol oh om)
  | .fieldAddr s x k =>
    match P.underlying s with
    | some (.struct fs) => do
      let f ← fs[k]?
      let i ← P.info? f.type
      if i.size ≠ 0 then some (.fieldAddr f.offset (← ropd x)) else none
    | _ => none
  | .field s x k =>
    match P.underlying s with
    | some (.struct fs) => do
      let f ← fs[k]?
      some (.field f.offset (← aggN P f.type) (← ropd x))
    | _ => none
  | .indexAddr t x i =>
    match P.underlying t with
    | some (.slice e) => do some (.idxAddrS (← P.info? e).size (← ropd x) (← ropd i))
    | some (.array n e) => do some (.idxAddrA n (← P.info? e).size (← ropd x) (← ropd i))
    | _ => none
  | .index t x i =>
    match P.underlying t with
    | some .string => do some (.idxStr (← ropd x) (← ropd i))
    | some (.array n e) => do some (.idxArr n (← P.info? e).size (← aggN P e) (← ropd x) (← ropd i))
    | _ => none
  | .extract x i => do some (.extract i (← ropd x))
  | .typeAssert x _ t true =>
    match P.underlying t with
    | some (.interface _) => none
    | some _ => do
      let i ← P.info? t
      let z ← i.zero
      some (.assert t (ofV z) (← ropd x))
    | none => none
  | .call { callee := .builtin .len, args, argTypes } =>
    match args.toList, argTypes.toList with
    | [x], [t] =>
      match P.underlying t with
      | some .string => do some (.lenStr (← ropd x))
      | some (.slice _) => do some (.lenSlc (← ropd x))
      | _ => none
    | _, _ => none
  | .call { callee := .builtin .append, args, argTypes } =>
    match args.toList, argTypes.toList with
    | [s, x], [t, tx] =>
      match P.underlying t, P.underlying tx with
      | some (.slice _), some (.int _) => none
      | some (.slice e), some _ => do
        let i ← P.info? e
        let z ← i.zero
        let os ← ropd s
        let ox ← ropd x
        if (vcells z).length = i.size then some (if pol t then .appendR i.size i.bytes os ox else .append i.size i.bytes os ox) else none
      | _, _ => none
    | _, _ => none
  | _ => none

/-- What the model's operation does, against the ideal's answer. -/
def DoesN (P : Program) (μ : Mu) (s : Sem Next) (w : World) (d : D) (σ : St) : Prop :=
  ∃ μ' v w', μ.le μ' ∧ Sim μ' σ w' ∧ VR μ' d v ∧ (s.run P w = .ok (.value v) w' ∨ s.run P w = .ok .skip w' ∧ v = undef)

section
variable {P : Program} {μ : Mu} {σ : St} {w : World}

theorem Does.value {s : Sem Value} {d : D} (h : Does P μ s w d σ) : DoesN P μ (do pure (.value (← s))) w d σ := by
  obtain ⟨μ', v, w', h1, h2, h3, h4⟩ := h
  exact ⟨μ', v, w', h1, h2, h3, .inl (by simp [h4])⟩

theorem bound_sound {e : List D} {a : Act} (he : ER μ e a) {x : Option Operand} {o : Option Opd} (h : ropdO x = some o) : BR μ (evO e o) (x.map a.eval) := by
  cases x with
  | none => simp [ropdO] at h; subst h; trivial
  | some x =>
    simp only [ropdO, Option.map_eq_some_iff] at h
    obtain ⟨y, h1, rfl⟩ := h
    exact ropd_sound he h1

theorem rop_sound {pol : TypeId → Bool} {o : Oper} {io : IOp} (hr : rop P pol o = some io) {e : List D} {a : Act} (he : ER μ e a) (hs : Sim μ σ w) {d : D} {σ' : St}
    (h : iop io e σ = some (d, σ')) : DoesN P μ (execOp a.eval o) w d σ' := by
  unfold rop at hr
  unfold execOp
  split at hr <;> rename_i hop <;> simp only [hop]
  · -- move
    simp only [Option.map_eq_some_iff] at hr
    obtain ⟨ox, h1, rfl⟩ := hr
    simp only [iop, Option.some.injEq, Prod.mk.injEq] at h
    obtain ⟨rfl, rfl⟩ := h
    exact ⟨μ, _, w, Mu.le.refl μ, hs, ropd_sound he h1, .inl rfl⟩
  · simp only [Option.map_eq_some_iff] at hr
    obtain ⟨ox, h1, rfl⟩ := hr
    simp only [iop, Option.some.injEq, Prod.mk.injEq] at h
    obtain ⟨rfl, rfl⟩ := h
    exact ⟨μ, _, w, Mu.le.refl μ, hs, ropd_sound he h1, .inl rfl⟩
  · -- pick
    simp only [Option.bind_eq_bind, Option.bind_eq_some_iff, Option.some.injEq] at hr
    obtain ⟨oc, h1, oa, h2, ob, h3, rfl⟩ := hr
    simp only [iop] at h
    split at h <;> (try (cases h; done))
    rename_i t ht
    simp only [Option.some.injEq, Prod.mk.injEq] at h
    obtain ⟨rfl, rfl⟩ := h
    have hc := ropd_sound he h1
    rw [ht] at hc
    rename_i pc pa pb _
    refine ⟨μ, if t then a.eval pa else a.eval pb, w, Mu.le.refl μ, hs, ?_, .inl ?_⟩
    · cases t
      · exact ropd_sound he h3
      · exact ropd_sound he h2
    · rw [hc.bool]; simp [asBool]
  · -- alloc
    simp only [Option.bind_eq_bind, Option.bind_eq_some_iff, Option.some.injEq] at hr
    obtain ⟨i, h1, z, h2, rfl⟩ := hr
    simp only [iop, Option.some.injEq, Prod.mk.injEq] at h
    obtain ⟨rfl, rfl⟩ := h
    exact (alloc_sound hs h1 h2).value
  · -- box
    simp only [Option.bind_eq_bind, Option.bind_eq_some_iff, Option.some.injEq] at hr
    obtain ⟨ox, h1, rfl⟩ := hr
    split at h
    · simp only [iop] at h
      split at h <;> (try (cases h; done))
      rename_i cs hc
      simp only [Option.some.injEq, Prod.mk.injEq] at h
      obtain ⟨rfl, rfl⟩ := h
      exact (boxV_sound hs _ (ropd_sound he h1) hc).value
    · simp only [iop] at h
      split at h <;> (try (cases h; done))
      rename_i cs hc
      simp only [Option.some.injEq, Prod.mk.injEq] at h
      obtain ⟨rfl, rfl⟩ := h
      exact (box_sound hs _ (ropd_sound he h1) hc).value
  · -- build
    simp only [Option.bind_eq_bind, Option.bind_eq_some_iff, Option.some.injEq] at hr
    obtain ⟨⟨z, place⟩, h1, ps, h2, rfl⟩ := hr
    simp only [iop] at h
    split at h <;> (try (cases h; done))
    rename_i cs hc
    simp only [Option.some.injEq, Prod.mk.injEq] at h
    obtain ⟨rfl, rfl⟩ := h
    exact (build_sound he hs h1 h2 hc).value
  · -- buildSlice
    split at hr <;> (try (cases hr; done))
    rename_i el hu
    simp only [Option.bind_eq_bind, Option.bind_eq_some_iff] at hr
    obtain ⟨ie, h1, z, h2, os, h3, hr⟩ := hr
    split at hr <;> (try (cases hr; done))
    rename_i hc
    simp only [Option.some.injEq] at hr
    subst hr
    simp only [iop] at h
    split at h <;> (try (cases h; done))
    rename_i hall
    simp only [Option.some.injEq, Prod.mk.injEq] at h
    obtain ⟨rfl, rfl⟩ := h
    exact (buildSlice_sound he hs hu h1 h2 hc.1 hc.2.1 hc.2.2 h3 hall).value
  · -- load
    simp only [Option.bind_eq_bind, Option.bind_eq_some_iff, Option.some.injEq] at hr
    obtain ⟨n, h1, ox, h2, rfl⟩ := hr
    simp only [iop] at h
    split at h <;> (try (cases h; done))
    rename_i x hx
    simp only [Option.some.injEq, Prod.mk.injEq] at h
    obtain ⟨rfl, rfl⟩ := h
    obtain ⟨u, g1, g2⟩ := iload_sound hs h1 (ropd_sound he h2) hx
    exact ⟨μ, u, w, Mu.le.refl μ, hs, g2, .inl (by simp [g1])⟩
  · -- store
    simp only [Option.bind_eq_bind, Option.bind_eq_some_iff, Option.some.injEq] at hr
    obtain ⟨i, h1, oa, h2, ox, h3, rfl⟩ := hr
    simp only [iop] at h
    split at h <;> (try (cases h; done))
    rename_i σ1 hx
    simp only [Option.some.injEq, Prod.mk.injEq] at h
    obtain ⟨rfl, rfl⟩ := h
    obtain ⟨w', g1, g2⟩ := istore_sound hs h1 (ropd_sound he h2) (ropd_sound he h3) hx
    exact ⟨μ, undef, w', Mu.le.refl μ, g2, VR.junk _, .inr ⟨by simp [g1], rfl⟩⟩
  · -- nilCheck
    simp only [Option.bind_eq_bind, Option.bind_eq_some_iff, Option.some.injEq] at hr
    obtain ⟨ox, h1, rfl⟩ := hr
    simp only [iop] at h
    have hv := ropd_sound he h1
    split at h <;> (try (cases h; done)) <;> rename_i hx <;> simp only [Option.some.injEq, Prod.mk.injEq] at h <;> obtain ⟨rfl, rfl⟩ := h <;> rw [hx] at hv
    · have hv' := hv
      obtain ⟨b, o, h2, _⟩ := hv.box
      rw [h2] at hv' ⊢
      exact ⟨μ, _, w, Mu.le.refl μ, hs, hv', .inl rfl⟩
    · have hv' := hv
      obtain ⟨b, o, _, h2⟩ := hv.ref
      rw [h2] at hv' ⊢
      exact ⟨μ, _, w, Mu.le.refl μ, hs, hv', .inl rfl⟩
    · have hv' := hv
      obtain ⟨fs, cs, h2, _⟩ := hv.func
      rw [h2] at hv' ⊢
      exact ⟨μ, _, w, Mu.le.refl μ, hs, hv', .inl rfl⟩
  · -- binOp
    rename_i op t x y _
    unfold rbin at hr
    simp only [Option.bind_eq_bind, Option.bind_eq_some_iff] at hr
    obtain ⟨ox, h1, oy, h2, hr⟩ := hr
    have hx := ropd_sound he h1
    have hy := ropd_sound he h2
    split at hr
    · rename_i ho
      have hneg : ∀ b, (if (decide (op = BinOp.neq)) = true then !b else b) = (if op = .neq then !b else b) := by intro b; simp
      split at hr
      · rename_i k hk
        simp only [Option.some.injEq] at hr; subst hr
        simp only [iop] at h
        split at h <;> (try (cases h; done))
        rename_i b hb
        simp only [Option.some.injEq, Prod.mk.injEq] at h
        obtain ⟨rfl, rfl⟩ := h
        rw [hneg]
        exact (ieq_sound hs ho hk x y hx hy hb).value
      · split at hr
        · rename_i hc
          simp only [Option.some.injEq] at hr; subst hr
          simp only [iop] at h
          split at h <;> (try (cases h; done))
          rename_i b hb
          simp only [Option.some.injEq, Prod.mk.injEq] at h
          obtain ⟨rfl, rfl⟩ := h
          rw [hneg]
          obtain ⟨hi, hcc⟩ := hc
          unfold ifaceT at hi
          split at hi <;> (try (cases hi; done))
          rename_i ms hu
          exact (ieqI_sound hs ho hu x y hcc hx hy hb).value
        · simp only [Option.some.injEq] at hr; subst hr
          simp only [iop] at h
          split at h <;> (try (cases h; done))
          rename_i r hb
          simp only [Option.some.injEq, Prod.mk.injEq] at h
          obtain ⟨rfl, rfl⟩ := h
          exact (ibin_sound hs op t x y hx hy hb).value
    · simp only [Option.some.injEq] at hr; subst hr
      simp only [iop] at h
      split at h <;> (try (cases h; done))
      rename_i r hb
      simp only [Option.some.injEq, Prod.mk.injEq] at h
      obtain ⟨rfl, rfl⟩ := h
      exact (ibin_sound hs op t x y hx hy hb).value
  · -- unOp
    simp only [Option.bind_eq_bind, Option.bind_eq_some_iff, Option.some.injEq] at hr
    obtain ⟨ox, h1, rfl⟩ := hr
    simp only [iop] at h
    split at h <;> (try (cases h; done))
    rename_i r hb
    simp only [Option.some.injEq, Prod.mk.injEq] at h
    obtain ⟨rfl, rfl⟩ := h
    exact (iun_sound hs _ (ropd_sound he h1) hb).value
  · -- convert
    split at hr <;> (try (cases hr; done))
    · rename_i h1 h2
      simp only [Option.bind_eq_bind, Option.bind_eq_some_iff, Option.some.injEq] at hr
      obtain ⟨ox, h3, rfl⟩ := hr
      simp only [iop] at h
      split at h <;> (try (cases h; done))
      rename_i hx
      simp only [Option.some.injEq, Prod.mk.injEq] at h
      obtain ⟨rfl, rfl⟩ := h
      have hv := ropd_sound he h3
      rw [hx] at hv
      exact (toInt_sound hs h1 h2 hv).value
    · rename_i h1 h2
      split at hr <;> (try (cases hr; done))
      rename_i hel
      simp only [Option.bind_eq_bind, Option.bind_eq_some_iff, Option.some.injEq] at hr
      obtain ⟨ox, h3, rfl⟩ := hr
      simp only [iop] at h
      split at h <;> (try (cases h; done))
      rename_i r hx
      simp only [Option.some.injEq, Prod.mk.injEq] at h
      obtain ⟨rfl, rfl⟩ := h
      exact (bytesStr_sound hs h1 hel h2 (ropd_sound he h3) hx).value
    · rename_i h1 h2 _
      simp only [Option.bind_eq_bind, Option.bind_eq_some_iff, Option.some.injEq] at hr
      obtain ⟨ox, h3, rfl⟩ := hr
      simp only [iop] at h
      split at h <;> (try (cases h; done))
      rename_i hx
      simp only [Option.some.injEq, Prod.mk.injEq] at h
      obtain ⟨rfl, rfl⟩ := h
      have hv := ropd_sound he h3
      rw [hx] at hv
      first | exact (toStr_sound hs h1 h2 hv).value | exact (toStr_sound hs ‹_› h1 hv).value | exact (toStr_sound hs ‹_› ‹_› hv).value
  · -- makeInterface
    split at hr <;> (try (cases hr; done))
    rename_i dsc hne hu
    simp only [Option.bind_eq_bind, Option.bind_eq_some_iff, Option.some.injEq] at hr
    obtain ⟨ox, h1, rfl⟩ := hr
    simp only [iop, Option.some.injEq, Prod.mk.injEq] at h
    obtain ⟨rfl, rfl⟩ := h
    exact (mkIface_sound hs hu (fun ms hm => hne ms hm) (ropd_sound he h1)).value
  · -- makeFunc
    simp only [Option.bind_eq_bind, Option.bind_eq_some_iff, Option.some.injEq] at hr
    obtain ⟨fo, h1, co, h2, rfl⟩ := hr
    simp only [iop, Option.some.injEq, Prod.mk.injEq] at h
    obtain ⟨rfl, rfl⟩ := h
    exact (mkFunc_sound hs he h1 h2).value
  · -- slice
    split at hr
    · rename_i n el hu
      simp only [Option.bind_eq_bind, Option.bind_eq_some_iff] at hr
      obtain ⟨ie, h1, hr⟩ := hr
      split at hr <;> (try (cases hr; done))
      rename_i hmx
      simp only [Option.bind_eq_some_iff, Option.some.injEq] at hr
      obtain ⟨ox, h2, ol, h3, oh, h4, rfl⟩ := hr
      simp only [iop] at h
      split at h <;> (try (cases h; done))
      rename_i r hb
      simp only [Option.some.injEq, Prod.mk.injEq] at h
      obtain ⟨rfl, rfl⟩ := h
      have := (sliceArr_sound hs hu h1 (ropd_sound he h2) (bound_sound he h3) (bound_sound he h4) hb).value
      simp only [Option.isNone_iff_eq_none] at hmx
      subst hmx
      exact this
    simp only [Option.bind_eq_bind, Option.bind_eq_some_iff] at hr
    obtain ⟨ox, h1, ol, h2, oh, h3, om, h4, sk, h5, hr⟩ := hr
    have hx := ropd_sound he h1
    have hl := bound_sound he h2
    have hh := bound_sound he h3
    have hm := bound_sound he h4
    unfold sliceKind at h5
    split at h5 <;> (try (cases h5; done))
    · rename_i hu
      simp only [Option.some.injEq] at h5; subst h5
      simp only at hr
      split at hr <;> (try (cases hr; done))
      rename_i hmx
      simp only [Option.some.injEq] at hr; subst hr
      simp only [iop] at h
      split at h <;> (try (cases h; done))
      rename_i s hsx
      split at h <;> (try (cases h; done))
      rename_i r hb
      simp only [Option.some.injEq, Prod.mk.injEq] at h
      obtain ⟨rfl, rfl⟩ := h
      rw [hsx] at hx
      have := (sliceStr_sound hs hu hx hl hh hb).value
      simp only [Option.isNone_iff_eq_none] at hmx
      subst hmx
      exact this
    · rename_i el hu
      simp only [Option.map_eq_some_iff] at h5
      obtain ⟨ie, h6, rfl⟩ := h5
      simp only [Option.some.injEq] at hr; subst hr
      simp only [iop] at h
      split at h <;> (try (cases h; done))
      rename_i r hb
      simp only [Option.some.injEq, Prod.mk.injEq] at h
      obtain ⟨rfl, rfl⟩ := h
      exact (sliceSlc_sound hs hu h6 hx hl hh hm hb).value
  · -- fieldAddr
    split at hr <;> (try (cases hr; done))
    rename_i fs hu
    simp only [Option.bind_eq_bind, Option.bind_eq_some_iff] at hr
    obtain ⟨f, h1, i, h2, hr⟩ := hr
    split at hr <;> (try (cases hr; done))
    rename_i h0
    simp only [Option.bind_eq_some_iff, Option.some.injEq] at hr
    obtain ⟨ox, h3, rfl⟩ := hr
    have hv := ropd_sound he h3
    simp only [iop] at h
    split at h <;> (try (cases h; done)) <;> rename_i hx <;> simp only [Option.some.injEq, Prod.mk.injEq] at h <;> obtain ⟨rfl, rfl⟩ := h <;> rw [hx] at hv
    · exact (fieldAddr_sound hs hu h1 h2 h0 hv rfl).value
    · exact (fieldAddr_sound hs hu h1 h2 h0 hv rfl).value
  · -- field
    split at hr <;> (try (cases hr; done))
    rename_i fs hu
    simp only [Option.bind_eq_bind, Option.bind_eq_some_iff, Option.some.injEq] at hr
    obtain ⟨f, h1, n, h2, ox, h3, rfl⟩ := hr
    have hv := ropd_sound he h3
    simp only [iop] at h
    split at h <;> (try (cases h; done))
    rename_i cs hx
    split at h <;> (try (cases h; done))
    rename_i r hb
    simp only [Option.some.injEq, Prod.mk.injEq] at h
    obtain ⟨rfl, rfl⟩ := h
    rw [hx] at hv
    exact (field_sound hs hu h1 h2 hv hb).value
  · -- indexAddr
    split at hr <;> (try (cases hr; done)) <;> rename_i hu <;> simp only [Option.bind_eq_bind, Option.bind_eq_some_iff, Option.some.injEq] at hr <;> obtain ⟨ie, h1, ox, h2, oi, h3, rfl⟩ := hr <;>
      simp only [iop] at h <;> split at h <;> (try (cases h; done)) <;> rename_i r hb <;> simp only [Option.some.injEq, Prod.mk.injEq] at h <;> obtain ⟨rfl, rfl⟩ := h
    · exact (idxAddrS_sound hs hu h1 (ropd_sound he h2) (ropd_sound he h3) hb).value
    · exact (idxAddrA_sound hs hu h1 (ropd_sound he h2) (ropd_sound he h3) hb).value
  · -- index
    split at hr <;> (try (cases hr; done)) <;> rename_i hu <;> simp only [Option.bind_eq_bind, Option.bind_eq_some_iff, Option.some.injEq] at hr
    · obtain ⟨ox, h2, oi, h3, rfl⟩ := hr
      simp only [iop] at h
      split at h <;> (try (cases h; done))
      rename_i r hb
      simp only [Option.some.injEq, Prod.mk.injEq] at h
      obtain ⟨rfl, rfl⟩ := h
      exact (idxStr_sound hs hu (ropd_sound he h2) (ropd_sound he h3) hb).value
    · obtain ⟨ie, h1, m, h4, ox, h2, oi, h3, rfl⟩ := hr
      simp only [iop] at h
      split at h <;> (try (cases h; done))
      rename_i cs k n hx hi
      split at h <;> (try (cases h; done))
      rename_i hc
      split at h <;> (try (cases h; done))
      rename_i r hb
      simp only [Option.some.injEq, Prod.mk.injEq] at h
      obtain ⟨rfl, rfl⟩ := h
      have hvx := ropd_sound he h2
      have hvi := ropd_sound he h3
      rw [hx] at hvx
      rw [hi] at hvi
      exact (idxArr_sound hs hu h1 h4 hvx hvi hc.1 hc.2 hb).value
  · -- extract
    simp only [Option.bind_eq_bind, Option.bind_eq_some_iff, Option.some.injEq] at hr
    obtain ⟨ox, h1, rfl⟩ := hr
    have hv := ropd_sound he h1
    simp only [iop] at h
    split at h <;> (try (cases h; done))
    rename_i ds hx
    split at h <;> (try (cases h; done))
    rename_i r hb
    simp only [Option.some.injEq, Prod.mk.injEq] at h
    obtain ⟨rfl, rfl⟩ := h
    rw [hx] at hv
    exact (extract_sound hs hv hb).value
  · -- typeAssert
    rename_i px pxt pt
    split at hr <;> (try (cases hr; done))
    rename_i dsc hne hu
    simp only [Option.bind_eq_bind, Option.bind_eq_some_iff, Option.some.injEq] at hr
    obtain ⟨i, h1, z, h2, ox, h3, rfl⟩ := hr
    have hv := ropd_sound he h3
    simp only [iop] at h
    split at h <;> (try (cases h; done))
    rename_i r hb
    simp only [Option.some.injEq, Prod.mk.injEq] at h
    obtain ⟨rfl, rfl⟩ := h
    exact (assert_sound hs hu (fun ms hm => hne ms hm) h1 h2 hv hb).value
  · -- len
    rename_i args argTypes
    split at hr <;> (try (cases hr; done))
    rename_i x t hargs hts
    have ha : args = #[x] := by apply Array.ext'; simp [hargs]
    have hat : argTypes = #[t] := by apply Array.ext'; simp [hts]
    subst ha; subst hat
    have hrun : ∀ (s : Sem Value), (Builtin.len_ #[t] o.type #[a.eval x]) = s → DoesN P μ (do pure (.value (← s))) w d σ' →
        DoesN P μ (do let d ← resolve a.eval { callee := .builtin .len, args := #[x], argTypes := #[t] } o.type; invoke d.target d.args) w d σ' := by
      rintro s rfl hh
      simpa [DoesN, resolve, invoke, builtin] using hh
    split at hr <;> (try (cases hr; done)) <;> rename_i hu <;> simp only [Option.bind_eq_bind, Option.bind_eq_some_iff, Option.some.injEq] at hr <;> obtain ⟨ox, h1, rfl⟩ := hr <;>
      simp only [iop] at h <;> split at h <;> (try (cases h; done))
    · rename_i s hx
      simp only [Option.some.injEq, Prod.mk.injEq] at h
      obtain ⟨rfl, rfl⟩ := h
      have hv := ropd_sound he h1
      rw [hx] at hv
      exact hrun _ rfl (lenStr_sound hs hu hv).value
    · rename_i r hx
      simp only [Option.some.injEq, Prod.mk.injEq] at h
      obtain ⟨rfl, rfl⟩ := h
      exact hrun _ rfl (lenSlc_sound hs hu (ropd_sound he h1) hx).value
  · -- append
    rename_i args argTypes
    split at hr <;> (try (cases hr; done))
    rename_i s x t tx hargs hts
    have ha : args = #[s, x] := by apply Array.ext'; simp [hargs]
    have hat : argTypes = #[t, tx] := by apply Array.ext'; simp [hts]
    subst ha; subst hat
    split at hr <;> (try (cases hr; done))
    rename_i el dx hne h1 h2
    simp only [Option.bind_eq_bind, Option.bind_eq_some_iff] at hr
    obtain ⟨i, h3, z, h4, os, h5, ox, h6, hr⟩ := hr
    split at hr <;> (try (cases hr; done))
    rename_i hz
    simp only [Option.some.injEq] at hr
    subst hr
    split at h
    · simp only [iop] at h
      have := (iappendR_sound (ty := o.type) hs h1 h2 (fun k hk => hne k hk) h3 h4 hz (ropd_sound he h5) (ropd_sound he h6) h).value
      simpa [DoesN, resolve, invoke, builtin] using this
    simp only [iop] at h
    have := (iappend_sound (ty := o.type) hs h1 h2 (fun k hk => hne k hk) h3 h4 hz (ropd_sound he h5) (ropd_sound he h6) h).value
    simpa [DoesN, resolve, invoke, builtin] using this
  · cases hr

end
end Go.Id
