/-
  THE IDEAL LAYER, PART C: the operations, with all that types say laid in, and what they come to by contents.
-/
import Derived.Test.YtkjgadanaknleaaIdB
import Derived.Lib.Strings
import Derived.Laws.Strings
namespace Go.Id
open Go.RowKit
set_option linter.unusedVariables false
set_option linter.unusedSimpArgs false

/-- A datum that fills just one cell. -/
def scal : D → Bool
  | .junk | .agg _ | .tuple _ => false
  | _ => true

/-- The cells that a datum fills. -/
def dcells : D → Option (List D)
  | .agg cs => if cs.all scal then some cs else none
  | .junk | .tuple _ => none
  | d => some [d]

/-- A constant of the program as a datum: one cell. -/
def ofS : Value → D
  | .bool b => .bool b
  | .int k n => .int k n
  | .string s => .str s.data.toList
  | .pointer none => .nilp
  | .slice none 0 0 => .nils
  | .map none => .nilm
  | .nilIface => .nili
  | .nilFunc => .nilf
  | _ => .junk

def ofV : Value → D
  | .agg cs => .agg (cs.toList.map ofS)
  | .tuple ⟨[]⟩ => .tuple []
  | v => ofS v

inductive Opd where
  | t (n : Nat)
  | c (d : D)

def Opd.ev (e : List D) : Opd → D
  | .t n => e.getD n .junk
  | .c d => d

inductive FK where
  | bool | int | str
  deriving DecidableEq

inductive EqK where
  | bool | ptr | slice | map | func | iface | flat (fs : List FK)
  deriving DecidableEq

inductive IOp where
  | mov (x : Opd)
  | pick (c a b : Opd)
  | alloc (zero : List D)
  | box (x : Opd)
  | boxV (x : Opd)
  | build (zero : List D) (parts : List (Nat × Nat × Opd))
  | buildSlice (sz : Nat) (parts : List Opd)
  | load (n : Option Nat) (x : Opd)
  | store (sz : Nat) (a x : Opd)
  | nilCheck (x : Opd)
  | bin (op : BinOp) (x y : Opd)
  | eq (neg : Bool) (k : EqK) (x y : Opd)
  | un (op : UnOp) (x : Opd)
  | toInt (k : IntKind) (x : Opd)
  | toStr (x : Opd)
  | mkIface (t : TypeId) (x : Opd)
  | mkFunc (f : Fn) (first captured : List Opd)
  | sliceStr (x : Opd) (lo hi : Option Opd)
  | sliceSlc (sz : Nat) (x : Opd) (lo hi mx : Option Opd)
  | fieldAddr (off : Nat) (x : Opd)
  | field (off : Nat) (n : Option Nat) (x : Opd)
  | idxAddrS (sz : Nat) (x i : Opd)
  | idxAddrA (n sz : Nat) (x i : Opd)
  | idxStr (x i : Opd)
  | idxArr (n sz : Nat) (m : Option Nat) (x i : Opd)
  | extract (i : Nat) (x : Opd)
  | lenStr (x : Opd)
  | lenSlc (x : Opd)
  | append (sz bytes : Nat) (s x : Opd)
  | appendR (sz bytes : Nat) (s x : Opd)
  | sliceArr (n sz : Nat) (x : Opd) (lo hi : Option Opd)
  | bytesStr (x : Opd)
  | assert (t : TypeId) (zero : D) (x : Opd)

def cellsAt (c : List D) (off : Nat) : Option Nat → Option D
  | none => match c[off]? with
    | some d => if scal d = true then some d else none
    | none => none
  | some n => if off + n ≤ c.length then some (.agg ((c.drop off).take n)) else none

def iload (n : Option Nat) (x : D) (σ : St) : Option D :=
  match x with
  | .box c off => cellsAt c off n
  | .ref j off => match σ.obj j with
    | some (.cells cs) => cellsAt cs off n
    | _ => none
  | _ => none

def istore (sz : Nat) (a x : D) (σ : St) : Option St :=
  match a with
  | .ref j off => match σ.obj j with
    | some (.cells cs) => match dcells x with
      | some ds => if ds.length = sz ∧ off + ds.length ≤ cs.length then some (σ.put j (some (.cells (setAt cs off ds)))) else none
      | none => none
    | _ => none
  | _ => none

def ibuild : List D → List (Nat × Nat × D) → Option (List D)
  | cs, [] => some cs
  | cs, (off, size, d) :: rest => match dcells d with
    | some ds => if ds.length = size ∧ off + ds.length ≤ cs.length then ibuild (setAt cs off ds) rest else none
    | none => none

def allOf (sz : Nat) : List D → Bool
  | [] => true
  | d :: ds => (match dcells d with | some cs => cs.length == sz | none => false) && allOf sz ds

def ibits (op : BinOp) (k : IntKind) (x y : Int) : Int :=
  let a := BitVec.ofInt k.bits x
  let b := BitVec.ofInt k.bits y
  k.wrap (match op with
    | .and => (a &&& b).toNat
    | .or => (a ||| b).toNat
    | .xor => (a ^^^ b).toNat
    | _ => (a &&& ~~~b).toNat)

def ibinInt (op : BinOp) (k : IntKind) (a b : Int) : Option D :=
  match op with
  | .add => some (.int k (k.wrap (a + b)))
  | .sub => some (.int k (k.wrap (a - b)))
  | .mul => some (.int k (k.wrap (a * b)))
  | .quo => if b = 0 then none else some (.int k (k.wrap (a.tdiv b)))
  | .rem => if b = 0 then none else some (.int k (a.tmod b))
  | .and | .or | .xor | .andNot => some (.int k (ibits op k a b))
  | .eql => some (.bool (a == b))
  | .neq => some (.bool (a != b))
  | .lss => some (.bool (decide (a < b)))
  | .leq => some (.bool (decide (a ≤ b)))
  | .gtr => some (.bool (decide (a > b)))
  | .geq => some (.bool (decide (a ≥ b)))
  | _ => none

def ishift (op : BinOp) (k : IntKind) (a b : Int) : Option D :=
  if b < 0 then none else
  match op with
  | .shl => some (.int k (k.wrap (a * 2 ^ min b.toNat k.bits)))
  | .shr => some (.int k (a.fdiv (2 ^ min b.toNat k.bits)))
  | _ => none

def ibinStr (op : BinOp) (a b : List UInt8) : Option D :=
  match op with
  | .add => if a.length + b.length ≤ 9223372036854775807 then some (.str (a ++ b)) else none
  | .eql => some (.bool (a == b))
  | .neq => some (.bool (!(a == b)))
  | .lss => some (.bool (Op.bytesLess a b))
  | .leq => some (.bool (Op.bytesLess a b || a == b))
  | .gtr => some (.bool (!(Op.bytesLess a b || a == b)))
  | .geq => some (.bool (!Op.bytesLess a b))
  | _ => none

def isShift : BinOp → Bool
  | .shl | .shr => true
  | _ => false

def ibin (op : BinOp) (x y : D) : Option D :=
  match x, y with
  | .int k a, .int k' b => if isShift op then ishift op k a b else if k = k' then ibinInt op k a b else none
  | .str a, .str b => ibinStr op a b
  | _, _ => none

def eqScal : FK → D → D → Option Bool
  | .bool, .bool a, .bool b => some (a == b)
  | .int, .int k a, .int k' b => if k = k' then some (a == b) else none
  | .str, .str a, .str b => some (a == b)
  | _, _, _ => none

def eqFlat : List FK → List D → List D → Option Bool
  | [], [], [] => some true
  | f :: fs, x :: xs, y :: ys => match eqScal f x y, eqFlat fs xs ys with
    | some a, some b => some (a && b)
    | _, _ => none
  | _, _, _ => none

def ieq (k : EqK) (x y : D) : Option Bool :=
  match k, x, y with
  | .bool, .bool a, .bool b => some (a == b)
  | .ptr, .nilp, .nilp => some true
  | .ptr, .nilp, .box _ _ | .ptr, .nilp, .ref _ _ | .ptr, .box _ _, .nilp | .ptr, .ref _ _, .nilp => some false
  | .slice, .nils, .nils => some true
  | .slice, .nils, .slc _ _ _ | .slice, .nils, .rslc _ _ _ _ _ | .slice, .slc _ _ _, .nils | .slice, .rslc _ _ _ _ _, .nils => some false
  | .map, .nilm, .nilm => some true
  | .map, .nilm, .map _ | .map, .map _, .nilm => some false
  | .func, .nilf, .nilf => some true
  | .func, .nilf, .func _ _ _ | .func, .func _ _ _, .nilf => some false
  | .iface, .nili, .nili => some true
  | .iface, .nili, .iface _ _ | .iface, .iface _ _, .nili => some false
  | .flat fs, .agg xs, .agg ys => eqFlat fs xs ys
  | _, _, _ => none

def iun (op : UnOp) (x : D) : Option D :=
  match op, x with
  | .neg, .int k n => some (.int k (k.wrap (0 - n)))
  | .xor, .int k n => some (.int k (ibits .xor k (if k.signed then -1 else k.max) n))
  | .not, .bool b => some (.bool (!b))
  | _, _ => none

/-- A bound of a slice expression: absent, or an int from 0 up to the limit. -/
def ibound (x : Option D) (dflt lim : Nat) : Option Nat :=
  match x with
  | none => some dflt
  | some (.int _ i) => if 0 ≤ i ∧ i ≤ lim then some i.toNat else none
  | _ => none

def isliceStr (s : List UInt8) (lo hi : Option D) : Option D :=
  match ibound hi s.length s.length with
  | none => none
  | some h => match ibound lo 0 h with
    | none => none
    | some l => some (.str ((s.drop l).take (h - l)))

/-- What is behind a slice of a slice: up to its end, as before; else nothing that may be written. -/
def cutRoom (r : Room) (h n : Nat) : Room := if h = n then r else .closed

def isliceSlc (sz : Nat) (x : D) (lo hi mx : Option D) : Option D :=
  match x, mx with
  | .slc s es r, none => if s = sz then
      match ibound hi es.length es.length with
      | none => none
      | some h => match ibound lo 0 h with
        | none => none
        | some l => some (.slc sz ((es.drop l).take (h - l)) (cutRoom r h es.length))
    else none
  | .slc s es r, some m => if s = sz then
      match ibound (some m) 0 es.length with
      | none => none
      | some m => match ibound hi es.length m with
        | none => none
        | some h => match ibound lo 0 h with
          | none => none
          | some l => if h = m ∧ hi.isSome then some (.slc sz ((es.drop l).take (h - l)) .exact) else none
    else none
  | .rslc j off s len r, none => if s = sz then
      match ibound hi len len with
      | none => none
      | some h => match ibound lo 0 h with
        | none => none
        | some l => if l < h then some (.rslc j (off + l * sz) sz (h - l) (cutRoom r h len)) else none
    else none
  | .nils, none => match ibound hi 0 0 with
      | none => none
      | some h => match ibound lo 0 h with
        | none => none
        | some l => some .nils
  | .nils, some m => match ibound (some m) 0 0 with
      | none => none
      | some m => match ibound hi 0 m with
        | none => none
        | some h => match ibound lo 0 h with
          | none => none
          | some l => if hi.isSome then some .nils else none
  | _, _ => none

def idxAddrS (sz : Nat) (x i : D) : Option D :=
  match x, i with
  | .slc s es r, .int _ n => if s = sz ∧ 0 ≤ n then (es[n.toNat]?).bind fun e => (dcells e).map fun c => .box c 0 else none
  | .rslc j off s len r, .int _ n => if s = sz ∧ 0 ≤ n ∧ n < len then some (.ref j (off + n.toNat * sz)) else none
  | _, _ => none

def idxAddrA (len sz : Nat) (x i : D) : Option D :=
  match x, i with
  | .box c off, .int _ n => if 0 ≤ n ∧ n < len then some (.box c (off + n.toNat * sz)) else none
  | .ref j off, .int _ n => if 0 ≤ n ∧ n < len then some (.ref j (off + n.toNat * sz)) else none
  | _, _ => none

def idxStr (x i : D) : Option D :=
  match x, i with
  | .str s, .int _ n => if 0 ≤ n then (s[n.toNat]?).map fun b => .int .u8 b.toNat else none
  | _, _ => none

def ilen (x : D) : Option D :=
  match x with
  | .nils => some (.int .i64 0)
  | .slc _ es _ => some (.int .i64 es.length)
  | .rslc _ _ _ len _ => some (.int .i64 len)
  | _ => none

def chunks (sz : Nat) : Nat → List D → List D
  | 0, _ => []
  | n + 1, cs => (if sz = 1 then cs.headD .junk else .agg (cs.take sz)) :: chunks sz n (cs.drop sz)

/-- The elements of a slice (a string's bytes). -/
def elems (sz : Nat) (x : D) (σ : St) : Option (List D) :=
  match x with
  | .nils => some []
  | .slc s es _ => if s = sz then some es else none
  | .str s => if sz = 1 then some (s.map fun b => .int .u8 b.toNat) else none
  | _ => none

def iappend (sz bytes : Nat) (s x : D) (σ : St) : Option (D × St) :=
  match elems sz x σ with
  | none => none
  | some xs =>
    if xs.length = 0 then (match s with | .nils => some (s, σ) | .slc s' _ _ => if s' = sz then some (s, σ) else none | _ => none) else
    match s with
    | .nils => if xs.length * bytes ≤ 140737488355328 ∧ xs.length ≤ maxLen then some (.slc sz xs (.opened σ.next), σ.alloc .tok) else none
    | .slc s' es r =>
      if s' = sz ∧ (es.length + xs.length) * bytes ≤ 140737488355328 ∧ es.length + xs.length ≤ maxLen then
        match r with
        | .exact => some (.slc sz (es ++ xs) (.opened σ.next), σ.alloc .tok)
        | .opened t => match σ.obj t with
          | some .tok => some (.slc sz (es ++ xs) (.opened σ.next), (σ.put t none).alloc .tok)
          | _ => none
        | .closed => none
      else none
    | _ => none

def iassert (t : TypeId) (zero x : D) : Option D :=
  match x with
  | .iface u v => if u = t then some (.tuple [v, .bool true]) else some (.tuple [zero, .bool false])
  | .nili => some (.tuple [zero, .bool false])
  | _ => none

/-- A slice of an array that is a variable. -/
def isliceArr (n sz : Nat) (x : D) (lo hi : Option D) : Option D :=
  match x with
  | .ref j off =>
    match ibound hi n n with
    | none => none
    | some h => match ibound lo 0 h with
      | none => none
      | some l => if l < n then some (.rslc j (off + l * sz) sz (h - l) .closed) else none
  | _ => none

def bytesOf : List D → Option (List UInt8)
  | [] => some []
  | .int .u8 n :: r => match bytesOf r with
    | some bs => some (UInt8.ofNat n.toNat :: bs)
    | none => none
  | _ => none

def ibytesStr (x : D) (σ : St) : Option D :=
  match x with
  | .nils => some (.str [])
  | .slc sz es _ => if sz = 1 then (bytesOf es).map .str else none
  | .rslc j off sz len _ => if sz = 1 then (match σ.obj j with
    | some (.cells cs) => if off + len ≤ cs.length then (bytesOf ((cs.drop off).take len)).map .str else none
    | _ => none) else none
  | _ => none

/-- The cells of elements. -/
def flat : List D → Option (List D)
  | [] => some []
  | e :: es => match dcells e, flat es with
    | some cs, some r => some (cs ++ r)
    | _, _ => none

/-- The cells that a slice to be appended to has now: by contents, or as a variable that dies. -/
def iold (sz : Nat) (s : D) (σ : St) : Option (Nat × List D × St) :=
  match s with
  | .nils => some (0, [], σ)
  | .slc s' es .exact => if s' = sz then (flat es).map fun cs => (es.length, cs, σ) else none
  | .rslc j off s' len (.opened t) => if s' = sz then (match σ.obj j, σ.obj t with
    | some (.cells cs), some .tok => if off = 0 ∧ cs.length = len * sz then some (len, cs, (σ.put j none).put t none) else none
    | _, _ => none) else none
  | _ => none

/-- An append whose result may be written. -/
def iappendR (sz bytes : Nat) (s x : D) (σ : St) : Option (D × St) :=
  match elems sz x σ with
  | none => none
  | some xs =>
    if xs.length = 0 then (match s with | .nils => some (s, σ) | .slc s' _ _ => if s' = sz then some (s, σ) else none | .rslc _ _ s' _ _ => if s' = sz then some (s, σ) else none | _ => none) else
    match iold sz s σ, flat xs with
    | some (n, cs, σ'), some ds =>
      if (n + xs.length) * bytes ≤ 140737488355328 ∧ n + xs.length ≤ maxLen then
        some (.rslc σ'.next 0 sz (n + xs.length) (.opened (σ'.next + 1)), (σ'.alloc (.cells (cs ++ ds))).alloc .tok)
      else none
    | _, _ => none

def evO (e : List D) : Option Opd → Option D
  | none => none
  | some x => some (x.ev e)

/-- What an operation comes to: a value, and the store behind. -/
def iop : IOp → List D → St → Option (D × St)
  | .mov x, e, σ => some (x.ev e, σ)
  | .pick c a b, e, σ => match c.ev e with
    | .bool t => some (if t then a.ev e else b.ev e, σ)
    | _ => none
  | .alloc zero, e, σ => some (.ref σ.next 0, σ.alloc (.cells zero))
  | .box x, e, σ => match dcells (x.ev e) with
    | some cs => some (.ref σ.next 0, σ.alloc (.cells cs))
    | none => none
  | .boxV x, e, σ => match dcells (x.ev e) with
    | some cs => some (.box cs 0, σ)
    | none => none
  | .build zero parts, e, σ => match ibuild zero (parts.map fun p => (p.1, p.2.1, p.2.2.ev e)) with
    | some cs => some (.agg cs, σ)
    | none => none
  | .buildSlice sz parts, e, σ => if allOf sz (parts.map (·.ev e)) then some (.slc sz (parts.map (·.ev e)) .exact, σ) else none
  | .load n x, e, σ => match iload n (x.ev e) σ with
    | some d => some (d, σ)
    | none => none
  | .store sz a x, e, σ => match istore sz (a.ev e) (x.ev e) σ with
    | some σ' => some (.junk, σ')
    | none => none
  | .nilCheck x, e, σ => match x.ev e with
    | .box c o => some (.box c o, σ)
    | .ref j o => some (.ref j o, σ)
    | .func (.func f) a b => some (.func (.func f) a b, σ)
    | _ => none
  | .bin op x y, e, σ => match ibin op (x.ev e) (y.ev e) with
    | some d => some (d, σ)
    | none => none
  | .eq neg k x y, e, σ => match ieq k (x.ev e) (y.ev e) with
    | some b => some (.bool (if neg then !b else b), σ)
    | none => none
  | .un op x, e, σ => match iun op (x.ev e) with
    | some d => some (d, σ)
    | none => none
  | .toInt k x, e, σ => match x.ev e with
    | .int _ n => some (.int k (k.wrap n), σ)
    | _ => none
  | .toStr x, e, σ => match x.ev e with
    | .str s => some (.str s, σ)
    | _ => none
  | .mkIface t x, e, σ => some (.iface t (x.ev e), σ)
  | .mkFunc f first captured, e, σ => some (.func f (first.map (·.ev e)) (captured.map (·.ev e)), σ)
  | .sliceStr x lo hi, e, σ => match x.ev e with
    | .str s => match isliceStr s (evO e lo) (evO e hi) with
      | some d => some (d, σ)
      | none => none
    | _ => none
  | .sliceSlc sz x lo hi mx, e, σ => match isliceSlc sz (x.ev e) (evO e lo) (evO e hi) (evO e mx) with
    | some d => some (d, σ)
    | none => none
  | .fieldAddr off x, e, σ => match x.ev e with
    | .box c o => some (.box c (o + off), σ)
    | .ref j o => some (.ref j (o + off), σ)
    | _ => none
  | .field off n x, e, σ => match x.ev e with
    | .agg cs => match cellsAt cs off n with
      | some d => some (d, σ)
      | none => none
    | _ => none
  | .idxAddrS sz x i, e, σ => match idxAddrS sz (x.ev e) (i.ev e) with
    | some d => some (d, σ)
    | none => none
  | .idxAddrA n sz x i, e, σ => match idxAddrA n sz (x.ev e) (i.ev e) with
    | some d => some (d, σ)
    | none => none
  | .idxStr x i, e, σ => match idxStr (x.ev e) (i.ev e) with
    | some d => some (d, σ)
    | none => none
  | .idxArr len sz m x i, e, σ => match x.ev e, i.ev e with
    | .agg cs, .int _ n => if 0 ≤ n ∧ n < len then (match cellsAt cs (n.toNat * sz) m with
        | some d => some (d, σ)
        | none => none) else none
    | _, _ => none
  | .extract i x, e, σ => match x.ev e with
    | .tuple ds => match ds[i]? with
      | some d => some (d, σ)
      | none => none
    | _ => none
  | .lenStr x, e, σ => match x.ev e with
    | .str s => some (.int .i64 s.length, σ)
    | _ => none
  | .lenSlc x, e, σ => match ilen (x.ev e) with
    | some d => some (d, σ)
    | none => none
  | .append sz bytes s x, e, σ => iappend sz bytes (s.ev e) (x.ev e) σ
  | .appendR sz bytes s x, e, σ => iappendR sz bytes (s.ev e) (x.ev e) σ
  | .sliceArr n sz x lo hi, e, σ => match isliceArr n sz (x.ev e) (evO e lo) (evO e hi) with
    | some d => some (d, σ)
    | none => none
  | .bytesStr x, e, σ => match ibytesStr (x.ev e) σ with
    | some d => some (d, σ)
    | none => none
  | .assert t zero x, e, σ => match iassert t zero (x.ev e) with
    | some d => some (d, σ)
    | none => none

/-! The equations, made here once for all texts behind. -/
example := @iop.eq_1
example := @ibin.eq_1
example := @ibinInt.eq_1
example := @ibinStr.eq_1
example := @ishift.eq_1
example := @isShift.eq_1
example := @ibits.eq_1
example := @ieq.eq_1
example := @eqScal.eq_1
example := @eqFlat.eq_1
example := @iun.eq_1
example := @iload.eq_1
example := @istore.eq_1
example := @cellsAt.eq_1
example := @dcells.eq_1
example := @scal.eq_1
example := @ibuild.eq_1
example := @allOf.eq_1
example := @idxAddrS.eq_1
example := @idxAddrA.eq_1
example := @idxStr.eq_1
example := @ilen.eq_1
example := @isliceStr.eq_1
example := @isliceSlc.eq_1
example := @isliceArr.eq_1
example := @ibound.eq_1
example := @iassert.eq_1
example := @Opd.ev.eq_1
example := @evO.eq_1
example := @elems.eq_1
example := @iappend.eq_1
example := @iappendR.eq_1
example := @iold.eq_1
example := @flat.eq_1
example := @bytesOf.eq_1
example := @ibytesStr.eq_1
example := @cutRoom.eq_1

end Go.Id
