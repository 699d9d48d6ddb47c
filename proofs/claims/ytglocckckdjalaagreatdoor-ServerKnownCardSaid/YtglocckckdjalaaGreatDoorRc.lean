/-
  The model's code, turned into the abstract machine's: plain definitions.
-/
import Derived.Orders
import Derived.Test.YtglocckckdjalaaGreatDoorRb
set_option linter.unusedVariables false
namespace Go.Ra
noncomputable section

/-! ### The model's code, turned -/
/-- Are all surely one cell? -/
def AV.ones : AV → Bool
  | .cs h t => h.one && t.ones
  | .nl => true
  | _ => false
mutual
def absV : Value → Option AV
  | .bool b => some (.bool b)
  | .int k n => some (.int k n)
  | .string s => some (.str s.data.toList.length (packL s.data.toList))
  | .pointer none => some .nilptr
  | .slice none 0 0 => some .nilslice
  | .map none => some .nilmap
  | .nilFunc => some .nilfunc
  | .nilIface => some .nilIface
  | .agg ⟨l⟩ => match absL l with
    | some a => if a.ones then some (.agg a) else none
    | none => none
  | .tuple ⟨l⟩ => (absL l).map .tuple
  | _ => none
def absL : List Value → Option AV
  | [] => some .nl
  | v :: l => match absV v, absL l with
    | some a, some b => some (.cs a b)
    | _, _ => none
end

variable (P : Program) (nt : Nat)

/-- How deep the tree of a function's slots is. -/
def lev (n : Nat) : Nat := if n ≤ 8 then 1 else if n ≤ 64 then 2 else if n ≤ 512 then 3 else 4
/-- A path, worked out whole. -/
def pthK : Nat → Nat → (Pth → Option Pth) → Option Pth
  | 0, _, k => k .e
  | l + 1, n, k => match Nat.mod n 8 with
    | 0 => pthK l (Nat.div n 8) fun q => k (.c0 q)
    | 1 => pthK l (Nat.div n 8) fun q => k (.c1 q)
    | 2 => pthK l (Nat.div n 8) fun q => k (.c2 q)
    | 3 => pthK l (Nat.div n 8) fun q => k (.c3 q)
    | 4 => pthK l (Nat.div n 8) fun q => k (.c4 q)
    | 5 => pthK l (Nat.div n 8) fun q => k (.c5 q)
    | 6 => pthK l (Nat.div n 8) fun q => k (.c6 q)
    | _ => pthK l (Nat.div n 8) fun q => k (.c7 q)
theorem pthK_eq : ∀ (l n : Nat) (k : Pth → Option Pth), pthK l n k = k (pth l n) := by
  intro l
  induction l with
  | zero => intro n k; rfl
  | succ l ih =>
    intro n k
    unfold pthK pth
    split <;> simp_all
def cT (t : Nat) : Option Pth := if t < nt then pthK (lev nt) t some else none
theorem cT_eq (t : Nat) : cT nt t = if t < nt then some (pth (lev nt) t) else none := by
  unfold cT
  rw [pthK_eq]
def cO : Operand → Option AO
  | .tmp t => (cT nt t).map .t
  | .const v => (absV v).map .c
  | .global g => if g < 8 then some (.c (.ptr (bid g) 0)) else none
  | .func f => if f < 8 ^ D then some (.c (.func (bid f) .nl .nl)) else none
def cOs : List Operand → Option AOs
  | [] => some .nil
  | x :: l => match cO nt x, cOs l with
    | some a, some b => some (.cons a b)
    | _, _ => none
def cOo : Option Operand → Option (Option AO)
  | none => some none
  | some x => (cO nt x).map some
def aggD : TypeDesc → Bool
  | .struct _ | .array _ _ => true
  | _ => false
/-- A type's cells: how many, and whether a value of it is a row of them. -/
def tyOf (t : TypeId) : Option (Nat × Bool) := do
  let i ← P.info? t
  let d ← P.underlying t
  if aggD d || i.size == 1 then some (i.size, aggD d) else none
def zeroOf (t : TypeId) : Option AV := do
  let i ← P.info? t
  let z ← i.zero
  absV z
/-- The cells of a type's zero. -/
def zeroCells (t : TypeId) : Option AV :=
  match zeroOf P t with
  | some v => match v.cells with
    | some l => if l.ones then some l else none
    | none => none
  | none => none
def cParts (place : Nat → Option (Nat × Nat)) : List (Nat × Operand) → Option APs
  | [] => some .nil
  | (i, x) :: l => do
    let (off, n) ← place i
    let a ← cO nt x
    let r ← cParts place l
    some (.cons off n a r)
/-- Where a struct's fields lie, and how many cells each has. -/
def fieldPlaces : List Field → Option (List (Nat × Nat))
  | [] => some []
  | f :: l => match P.info? f.type, fieldPlaces l with
    | some j, some r => some ((f.offset, j.size) :: r)
    | _, _ => none
/-- The cells of an element's zero, if they are as many as the element has. -/
def elemZero (e : TypeId) (n : Nat) : Option AV :=
  match zeroCells P e with
  | some z => if z.len = n then some z else none
  | none => none
/-- The cells of an element's zero, where a row has any. -/
def rowZero (e : TypeId) (n : Nat) : Option AV := if n = 0 then some .nl else zeroCells P e
def isSliceOf (t : TypeId) : Option TypeId := do
  match ← P.underlying t with
  | .slice e => some e
  | _ => none
/-- The kind of a type's values: number, text, bool. -/
def kdTy (t : TypeId) : Option Nat :=
  match P.underlying t with
  | some (.int _) => some 0
  | some .string => some 1
  | some .bool => some 2
  | _ => none
/-- The places and kinds of a struct's fields, if each is a number, a text, or a bool, with a name. -/
def offsOf : List Field → Option (List (Nat × Nat))
  | [] => some []
  | f :: l => match kdTy P f.type, offsOf l with
    | some k, some r => if f.name ≠ "_" then some ((f.offset, k) :: r) else none
    | _, _ => none
def nilIfaceC : Operand → Bool
  | .const .nilIface => true
  | _ => false

/-- A comparison (n: whether it asks for unlike; lit: whether one side is the literal nil of an interface). -/
def cEq (t : TypeId) (d : TypeDesc) (op : BinOp) (n : Bool) (a b : AO) (lit : Bool) : Option AOp :=
  match d with
  | .int _ | .string => some (.bin op a b)
  | .bool => some (.eqbool n a b)
  | .pointer e => do
    let j ← P.info? e
    if j.size ≠ 0 then some (.eqnil 1 n a b) else none
  | .slice _ => some (.eqnil 2 n a b)
  | .map _ _ => some (.eqnil 3 n a b)
  | .func _ _ _ => some (.eqnil 4 n a b)
  | .interface _ => if lit then some (.eqnil 5 n a b) else none
  | .struct fs => if !(P.eqGuardType P.depth t) && !(P.stoodInHeld t) then (offsOf P fs.toList).map fun l => .eqagg l n a b else none
  | .array c e => if !(P.eqGuardType P.depth t) && (P.info? e).isSome then (kdTy P e).map fun k => .eqagg ((List.range c).map fun i => (i * P.cellsOf e, k)) n a b else none
  | _ => none
/-- The places of a type's variables in variables of other types, one step deep. -/
def placesOf (u : TypeId) : List (TypeId × Nat × Nat) :=
  (P.types.toList.zipIdx.flatMap fun (i, e) =>
    if e == u then [(e, 0, i.size)] else match i.desc with
      | .struct fs => (fs.toList.filter fun f => f.type == u).map fun f => (e, f.offset, i.size)
      | .named _ q => match P.info? q with
        | some j => match j.desc with
          | .struct fs => (fs.toList.filter fun f => f.type == u).map fun f => (e, f.offset, i.size)
          | _ => []
        | none => []
      | _ => []).filter fun (e, off, n) => n != 0 && n == P.cellsOf e && liesAt P P.depth e 1 off u 1

def cOpS (o : Oper) : Option AOp :=
  match o.op with
  | .move x | .assign x => (cO nt x).map .mv
  | .pick c a b => do some (.pick (← cO nt c) (← cO nt a) (← cO nt b))
  | .alloc e => do
    let z ← zeroCells P e
    some (.alloc e z.len (Tr.sets z 0 .leaf))
  | .box e x => do some (.box e (← cO nt x))
  | .build t ps => do
    let z ← zeroCells P t
    match ← P.underlying t with
    | .struct fs => do
      let pl ← fieldPlaces P fs.toList
      let l ← cParts nt (fun i => pl[i]?) ps.toList
      some (.build z l)
    | .array _ e => do
      let j ← P.info? e
      let l ← cParts nt (fun i => some (i * j.size, j.size)) ps.toList
      some (.build z l)
    | _ => none
  | .buildSlice t len ps => do
    let e ← isSliceOf P t
    let j ← P.info? e
    let z ← rowZero P e (len * j.size)
    if len * j.size ≤ 1048576 && (len ≤ 1048576 && (len * j.size == 0 || z.len == j.size)) then
      let l ← cParts nt (fun i => some (i * j.size, j.size)) ps.toList
      some (.bslice e j.size len (z.reps len) l)
    else none
  | .load t a => do
    let (n, agg) ← tyOf P t
    let x ← cO nt a
    some (if agg then .ldn n x else .ld1 x)
  | .store t a x => do
    let (n, _) ← tyOf P t
    some (.st n (← cO nt a) (← cO nt x))
  | .nilCheck x => (cO nt x).map .nilck
  | .binOp op t x y _ => do
    let a ← cO nt x
    let b ← cO nt y
    let d ← P.underlying t
    match op with
    | .eql => cEq P t d .eql false a b (nilIfaceC x || nilIfaceC y)
    | .neq => cEq P t d .neq true a b (nilIfaceC x || nilIfaceC y)
    | _ => match d with
      | .int _ | .string => some (.bin op a b)
      | _ => none
  | .unOp op _ x => (cO nt x).map (.un op)
  | .convert s d x => do
    let a ← cO nt x
    match ← P.underlying s, ← P.underlying d with
    | .int _, .int k => some (.cvi k a)
    | .string, .string => some (.cvs a)
    | .string, .slice e => do
      match ← P.underlying e with
      | .int .u8 => some (.s2b e a)
      | _ => none
    | .slice e, .string => do
      match ← P.underlying e with
      | .int .u8 => some (.b2s a)
      | _ => none
    | .pointer t, .unsafePointer => do
      let j ← P.info? t
      if j.size ≠ 0 then some (.cvp0 a) else none
    | .unsafePointer, .pointer u => do
      let j ← P.info? u
      if j.size ≠ 0 then some (.cvp1 (placesOf P u) a) else none
    | _, _ => none
  | .makeInterface t x => do
    match ← P.underlying t with
    | .interface _ => none
    | _ => some (.mkif t (← cO nt x))
  | .makeFunc (.func f) a b => do
    if f < 8 ^ D then some (.mkfunc (bid f) (← cOs nt a.toList) (← cOs nt b.toList)) else none
  | .makeMap t none => do
    match ← P.underlying t with
    | .map _ _ => some .mkmap
    | _ => none
  | .makeMap t (some (.const (.int _ _))) => do
    match ← P.underlying t with
    | .map _ _ => some .mkmap
    | _ => none
  | .makeSlice t l c => do
    let e ← isSliceOf P t
    let j ← P.info? e
    let z ← zeroCells P e
    if z.len == j.size then some (.mkslice e j.size j.bytes z (← cO nt l) (← cO nt c)) else none
  | .slice t x lo hi mx => do
    let a ← cO nt x
    let l ← cOo nt lo
    let h ← cOo nt hi
    let m ← cOo nt mx
    match ← P.underlying t with
    | .string => if m.isNone then some (.slstr a l h) else none
    | .slice e => do
      let j ← P.info? e
      some (.slsl j.size a l h m)
    | .array n e => do
      let j ← P.info? e
      if m.isNone && decide (n ≤ 9223372036854775807) then some (.slarr n j.size a l h) else none
    | _ => none
  | .fieldAddr t x f => do
    match ← P.underlying t with
    | .struct fs => do
      let f ← fs[f]?
      let j ← P.info? f.type
      if j.size ≠ 0 then some (.faddr f.offset (← cO nt x)) else none
    | _ => none
  | .field t x f => do
    match ← P.underlying t with
    | .struct fs => do
      let f ← fs[f]?
      let (n, agg) ← tyOf P f.type
      some (.field f.offset n agg (← cO nt x))
    | _ => none
  | .indexAddr t x i => do
    let a ← cO nt x
    let b ← cO nt i
    match ← P.underlying t with
    | .array n e => do
      let j ← P.info? e
      some (.iaarr n j.size a b)
    | .slice e => do
      let j ← P.info? e
      some (.iasl j.size a b)
    | _ => none
  | .index t x i => do
    let a ← cO nt x
    let b ← cO nt i
    match ← P.underlying t with
    | .array n e => do
      let (k, agg) ← tyOf P e
      some (.ixarr n k agg a b)
    | .string => some (.ixstr a b)
    | _ => none
  | .lookup t x i ok => do
    match ← P.underlying t with
    | .map k e => do
      let z ← zeroOf P e
      let s ← kdTy P k
      some (.lookup s z (← cO nt x) (← cO nt i) ok)
    | _ => none
  | .mapUpdate t m k x | .insert t m k x => do
    match ← P.underlying t with
    | .map kt _ => do
      let s ← kdTy P kt
      some (.mapupd s (← cO nt m) (← cO nt k) (← cO nt x))
    | _ => none
  | .range t x => do
    match ← P.underlying t with
    | .string => (cO nt x).map .rng
    | _ => none
  | .next x true => (cO nt x).map .next
  | .extract x i => (cO nt x).map fun a => .extract a i
  | .call { callee := .value (.func f), args, .. } => do
    if f < 8 ^ D then some (.callf (bid f) (← cOs nt args.toList)) else none
  | .call { callee := .value x, args, .. } => do some (.callv (← cO nt x) (← cOs nt args.toList))
  | .call { callee := .builtin b, args, argTypes } =>
    match b with
    | .len => do
      let t ← argTypes[0]?
      let x ← args[0]?
      match ← P.underlying t with
      | .array n _ => some (.lenc n)
      | .pointer u => match ← P.underlying u with
        | .array n _ => some (.lenc n)
        | _ => none
      | .string => (cO nt x).map (.len 0)
      | .slice _ => (cO nt x).map (.len 1)
      | .map _ _ => (cO nt x).map (.len 2)
      | _ => none
    | .cap => do
      let t ← argTypes[0]?
      let x ← args[0]?
      match ← P.underlying t with
      | .array n _ => some (.lenc n)
      | .slice _ => (cO nt x).map .cap
      | _ => none
    | .append => do
      let t ← argTypes[0]?
      let e ← isSliceOf P t
      let j ← P.info? e
      let z ← elemZero P e j.size
      let s ← args[0]?
      let x ← args[1]?
      let u ← argTypes[1]?
      match ← P.underlying u with
      | .int _ => some (.appz e j.size j.bytes z (← cO nt s) (← cO nt x))
      | .string => if j.size = 1 then some (.append e j.size j.bytes (← cO nt s) (← cO nt x)) else none
      | _ => some (.append e j.size j.bytes (← cO nt s) (← cO nt x))
    | .copy => do
      let t ← argTypes[0]?
      let e ← isSliceOf P t
      let j ← P.info? e
      let d ← args[0]?
      let s ← args[1]?
      some (.copy j.size (← cO nt d) (← cO nt s))
    | .max => do
      let x ← args[0]?
      some (.mm true (← cO nt x) (← cOs nt (args.toList.drop 1)))
    | .min => do
      let x ← args[0]?
      some (.mm false (← cO nt x) (← cOs nt (args.toList.drop 1)))
    | .clear => do
      let t ← argTypes[0]?
      let x ← args[0]?
      match ← P.underlying t with
      | .slice e => do some (.clear (← zeroCells P e) (← cO nt x))
      | _ => none
    | .delete => do
      let t ← argTypes[0]?
      let m ← args[0]?
      let k ← args[1]?
      match ← P.underlying t with
      | .map kt _ => do
        let s ← kdTy P kt
        some (.del s (← cO nt m) (← cO nt k))
      | _ => none
    | .unsafeSliceData => do
      let x ← args[0]?
      if args.size == 1 then some (.usd (← cO nt x)) else none
    | .unsafeString => do
      let t ← argTypes[0]?
      let p ← args[0]?
      let n ← args[1]?
      match ← P.underlying t with
      | .pointer e => do
        match ← P.underlying e with
        | .int .u8 => if args.size == 2 && P.cellsOf e == 1 then some (.ustr e (← cO nt p) (← cO nt n)) else none
        | _ => none
      | _ => none
    | _ => none
  | _ => none
def oPick (P : Program) (nt : Nat) (c : Operand) (a : Operand) (b : Operand) : Option AOp := do some (.pick (← cO nt c) (← cO nt a) (← cO nt b))
def oAlloc (P : Program) (nt : Nat) (e : TypeId) : Option AOp := do
    let z ← zeroCells P e
    some (.alloc e z.len (Tr.sets z 0 .leaf))
def oBox (P : Program) (nt : Nat) (e : TypeId) (x : Operand) : Option AOp := do some (.box e (← cO nt x))
def oBuild (P : Program) (nt : Nat) (t : TypeId) (ps : Array (Nat × Operand)) : Option AOp := do
    let z ← zeroCells P t
    match ← P.underlying t with
    | .struct fs => do
      let pl ← fieldPlaces P fs.toList
      let l ← cParts nt (fun i => pl[i]?) ps.toList
      some (.build z l)
    | .array _ e => do
      let j ← P.info? e
      let l ← cParts nt (fun i => some (i * j.size, j.size)) ps.toList
      some (.build z l)
    | _ => none
def oBuildSlice (P : Program) (nt : Nat) (t : TypeId) (len : Nat) (ps : Array (Nat × Operand)) : Option AOp := do
    let e ← isSliceOf P t
    let j ← P.info? e
    let z ← rowZero P e (len * j.size)
    if len * j.size ≤ 1048576 && (len ≤ 1048576 && (len * j.size == 0 || z.len == j.size)) then
      let l ← cParts nt (fun i => some (i * j.size, j.size)) ps.toList
      some (.bslice e j.size len (z.reps len) l)
    else none
def oLoad (P : Program) (nt : Nat) (t : TypeId) (a : Operand) : Option AOp := do
    let (n, agg) ← tyOf P t
    let x ← cO nt a
    some (if agg then .ldn n x else .ld1 x)
def oStore (P : Program) (nt : Nat) (t : TypeId) (a : Operand) (x : Operand) : Option AOp := do
    let (n, _) ← tyOf P t
    some (.st n (← cO nt a) (← cO nt x))
def oBinOp (P : Program) (nt : Nat) (op : BinOp) (t : TypeId) (x : Operand) (y : Operand) : Option AOp := do
    let a ← cO nt x
    let b ← cO nt y
    let d ← P.underlying t
    match op with
    | .eql => cEq P t d .eql false a b (nilIfaceC x || nilIfaceC y)
    | .neq => cEq P t d .neq true a b (nilIfaceC x || nilIfaceC y)
    | _ => match d with
      | .int _ | .string => some (.bin op a b)
      | _ => none
def oConvert (P : Program) (nt : Nat) (s : TypeId) (d : TypeId) (x : Operand) : Option AOp := do
    let a ← cO nt x
    match ← P.underlying s, ← P.underlying d with
    | .int _, .int k => some (.cvi k a)
    | .string, .string => some (.cvs a)
    | .string, .slice e => do
      match ← P.underlying e with
      | .int .u8 => some (.s2b e a)
      | _ => none
    | .slice e, .string => do
      match ← P.underlying e with
      | .int .u8 => some (.b2s a)
      | _ => none
    | .pointer t, .unsafePointer => do
      let j ← P.info? t
      if j.size ≠ 0 then some (.cvp0 a) else none
    | .unsafePointer, .pointer u => do
      let j ← P.info? u
      if j.size ≠ 0 then some (.cvp1 (placesOf P u) a) else none
    | _, _ => none
def oMakeInterface (P : Program) (nt : Nat) (t : TypeId) (x : Operand) : Option AOp := do
    match ← P.underlying t with
    | .interface _ => none
    | _ => some (.mkif t (← cO nt x))
def oMakeFunc (P : Program) (nt : Nat) (f : Nat) (a : Array Operand) (b : Array Operand) : Option AOp := do
    if f < 8 ^ D then some (.mkfunc (bid f) (← cOs nt a.toList) (← cOs nt b.toList)) else none
def oMakeMap (P : Program) (nt : Nat) (t : TypeId) : Option AOp := do
    match ← P.underlying t with
    | .map _ _ => some .mkmap
    | _ => none
def oMakeSlice (P : Program) (nt : Nat) (t : TypeId) (l : Operand) (c : Operand) : Option AOp := do
    let e ← isSliceOf P t
    let j ← P.info? e
    let z ← zeroCells P e
    if z.len == j.size then some (.mkslice e j.size j.bytes z (← cO nt l) (← cO nt c)) else none
def oSlice (P : Program) (nt : Nat) (t : TypeId) (x : Operand) (lo : Option Operand) (hi : Option Operand) (mx : Option Operand) : Option AOp := do
    let a ← cO nt x
    let l ← cOo nt lo
    let h ← cOo nt hi
    let m ← cOo nt mx
    match ← P.underlying t with
    | .string => if m.isNone then some (.slstr a l h) else none
    | .slice e => do
      let j ← P.info? e
      some (.slsl j.size a l h m)
    | .array n e => do
      let j ← P.info? e
      if m.isNone && decide (n ≤ 9223372036854775807) then some (.slarr n j.size a l h) else none
    | _ => none
def oFieldAddr (P : Program) (nt : Nat) (t : TypeId) (x : Operand) (f : Nat) : Option AOp := do
    match ← P.underlying t with
    | .struct fs => do
      let f ← fs[f]?
      let j ← P.info? f.type
      if j.size ≠ 0 then some (.faddr f.offset (← cO nt x)) else none
    | _ => none
def oField (P : Program) (nt : Nat) (t : TypeId) (x : Operand) (f : Nat) : Option AOp := do
    match ← P.underlying t with
    | .struct fs => do
      let f ← fs[f]?
      let (n, agg) ← tyOf P f.type
      some (.field f.offset n agg (← cO nt x))
    | _ => none
def oIndexAddr (P : Program) (nt : Nat) (t : TypeId) (x : Operand) (i : Operand) : Option AOp := do
    let a ← cO nt x
    let b ← cO nt i
    match ← P.underlying t with
    | .array n e => do
      let j ← P.info? e
      some (.iaarr n j.size a b)
    | .slice e => do
      let j ← P.info? e
      some (.iasl j.size a b)
    | _ => none
def oIndex (P : Program) (nt : Nat) (t : TypeId) (x : Operand) (i : Operand) : Option AOp := do
    let a ← cO nt x
    let b ← cO nt i
    match ← P.underlying t with
    | .array n e => do
      let (k, agg) ← tyOf P e
      some (.ixarr n k agg a b)
    | .string => some (.ixstr a b)
    | _ => none
def oLookup (P : Program) (nt : Nat) (t : TypeId) (x : Operand) (i : Operand) (ok : Bool) : Option AOp := do
    match ← P.underlying t with
    | .map k e => do
      let z ← zeroOf P e
      let s ← kdTy P k
      some (.lookup s z (← cO nt x) (← cO nt i) ok)
    | _ => none
def oMapUpdate (P : Program) (nt : Nat) (t : TypeId) (m : Operand) (k : Operand) (x : Operand) : Option AOp := do
    match ← P.underlying t with
    | .map kt _ => do
      let s ← kdTy P kt
      some (.mapupd s (← cO nt m) (← cO nt k) (← cO nt x))
    | _ => none
def oRange (P : Program) (nt : Nat) (t : TypeId) (x : Operand) : Option AOp := do
    match ← P.underlying t with
    | .string => (cO nt x).map .rng
    | _ => none
def oCallF (P : Program) (nt : Nat) (f : Nat) (args : Array Operand) : Option AOp := do
    if f < 8 ^ D then some (.callf (bid f) (← cOs nt args.toList)) else none
def oCallV (P : Program) (nt : Nat) (x : Operand) (args : Array Operand) : Option AOp := do some (.callv (← cO nt x) (← cOs nt args.toList))
def bLen (P : Program) (nt : Nat) (args : Array Operand) (argTypes : Array TypeId) : Option AOp := do
      let t ← argTypes[0]?
      let x ← args[0]?
      match ← P.underlying t with
      | .array n _ => some (.lenc n)
      | .pointer u => match ← P.underlying u with
        | .array n _ => some (.lenc n)
        | _ => none
      | .string => (cO nt x).map (.len 0)
      | .slice _ => (cO nt x).map (.len 1)
      | .map _ _ => (cO nt x).map (.len 2)
      | _ => none
def bCap (P : Program) (nt : Nat) (args : Array Operand) (argTypes : Array TypeId) : Option AOp := do
      let t ← argTypes[0]?
      let x ← args[0]?
      match ← P.underlying t with
      | .array n _ => some (.lenc n)
      | .slice _ => (cO nt x).map .cap
      | _ => none
def bAppend (P : Program) (nt : Nat) (args : Array Operand) (argTypes : Array TypeId) : Option AOp := do
      let t ← argTypes[0]?
      let e ← isSliceOf P t
      let j ← P.info? e
      let z ← elemZero P e j.size
      let s ← args[0]?
      let x ← args[1]?
      let u ← argTypes[1]?
      match ← P.underlying u with
      | .int _ => some (.appz e j.size j.bytes z (← cO nt s) (← cO nt x))
      | .string => if j.size = 1 then some (.append e j.size j.bytes (← cO nt s) (← cO nt x)) else none
      | _ => some (.append e j.size j.bytes (← cO nt s) (← cO nt x))
def bCopy (P : Program) (nt : Nat) (args : Array Operand) (argTypes : Array TypeId) : Option AOp := do
      let t ← argTypes[0]?
      let e ← isSliceOf P t
      let j ← P.info? e
      let d ← args[0]?
      let s ← args[1]?
      some (.copy j.size (← cO nt d) (← cO nt s))
def bMax (P : Program) (nt : Nat) (args : Array Operand) (argTypes : Array TypeId) : Option AOp := do
      let x ← args[0]?
      some (.mm true (← cO nt x) (← cOs nt (args.toList.drop 1)))
def bMin (P : Program) (nt : Nat) (args : Array Operand) (argTypes : Array TypeId) : Option AOp := do
      let x ← args[0]?
      some (.mm false (← cO nt x) (← cOs nt (args.toList.drop 1)))
def bClear (P : Program) (nt : Nat) (args : Array Operand) (argTypes : Array TypeId) : Option AOp := do
      let t ← argTypes[0]?
      let x ← args[0]?
      match ← P.underlying t with
      | .slice e => do some (.clear (← zeroCells P e) (← cO nt x))
      | _ => none
def bDelete (P : Program) (nt : Nat) (args : Array Operand) (argTypes : Array TypeId) : Option AOp := do
      let t ← argTypes[0]?
      let m ← args[0]?
      let k ← args[1]?
      match ← P.underlying t with
      | .map kt _ => do
        let s ← kdTy P kt
        some (.del s (← cO nt m) (← cO nt k))
      | _ => none
def bUnsafeSliceData (P : Program) (nt : Nat) (args : Array Operand) (argTypes : Array TypeId) : Option AOp := do
      let x ← args[0]?
      if args.size == 1 then some (.usd (← cO nt x)) else none
def bUnsafeString (P : Program) (nt : Nat) (args : Array Operand) (argTypes : Array TypeId) : Option AOp := do
      let t ← argTypes[0]?
      let p ← args[0]?
      let n ← args[1]?
      match ← P.underlying t with
      | .pointer e => do
        match ← P.underlying e with
        | .int .u8 => if args.size == 2 && P.cellsOf e == 1 then some (.ustr e (← cO nt p) (← cO nt n)) else none
        | _ => none
      | _ => none
def oBuiltin (P : Program) (nt : Nat) (b : Builtin) (args : Array Operand) (argTypes : Array TypeId) : Option AOp :=
    match b with
    | .len => bLen P nt args argTypes
    | .cap => bCap P nt args argTypes
    | .append => bAppend P nt args argTypes
    | .copy => bCopy P nt args argTypes
    | .max => bMax P nt args argTypes
    | .min => bMin P nt args argTypes
    | .clear => bClear P nt args argTypes
    | .delete => bDelete P nt args argTypes
    | .unsafeSliceData => bUnsafeSliceData P nt args argTypes
    | .unsafeString => bUnsafeString P nt args argTypes
    | _ => none
def cOp (o : Oper) : Option AOp :=
  match o.op with
  | .move x | .assign x => (cO nt x).map .mv
  | .pick c a b => oPick P nt c a b
  | .alloc e => oAlloc P nt e
  | .box e x => oBox P nt e x
  | .build t ps => oBuild P nt t ps
  | .buildSlice t len ps => oBuildSlice P nt t len ps
  | .load t a => oLoad P nt t a
  | .store t a x => oStore P nt t a x
  | .nilCheck x => (cO nt x).map .nilck
  | .binOp op t x y _ => oBinOp P nt op t x y
  | .unOp op _ x => (cO nt x).map (.un op)
  | .convert s d x => oConvert P nt s d x
  | .makeInterface t x => oMakeInterface P nt t x
  | .makeFunc (.func f) a b => oMakeFunc P nt f a b
  | .makeMap t none => oMakeMap P nt t
  | .makeMap t (some (.const (.int _ _))) => oMakeMap P nt t
  | .makeSlice t l c => oMakeSlice P nt t l c
  | .slice t x lo hi mx => oSlice P nt t x lo hi mx
  | .fieldAddr t x f => oFieldAddr P nt t x f
  | .field t x f => oField P nt t x f
  | .indexAddr t x i => oIndexAddr P nt t x i
  | .index t x i => oIndex P nt t x i
  | .lookup t x i ok => oLookup P nt t x i ok
  | .mapUpdate t m k x | .insert t m k x => oMapUpdate P nt t m k x
  | .range t x => oRange P nt t x
  | .next x true => (cO nt x).map .next
  | .extract x i => (cO nt x).map fun a => .extract a i
  | .call { callee := .value (.func f), args, .. } => oCallF P nt f args
  | .call { callee := .value x, args, .. } => oCallV P nt x args
  | .call { callee := .builtin b, args, argTypes } => oBuiltin P nt b args argTypes
  | _ => none
theorem cOp_eq (o : Oper) : cOp P nt o = cOpS P nt o := by
  obtain ⟨dst, op, ty, pos, after, guard⟩ := o
  cases op
  case call c =>
    obtain ⟨callee, args, ats⟩ := c
    cases callee with
    | value f => cases f <;> rfl
    | invoke r n => rfl
    | builtin b => cases b <;> rfl
  case makeFunc f a b => cases f <;> rfl
  case makeMap t r =>
    cases r with
    | none => rfl
    | some x => cases x with
      | const v => cases v <;> rfl
      | _ => rfl
  case next x b => cases b <;> rfl
  all_goals rfl
/-- An operation that nobody comes to stands as a read of nothing. -/
def deadOp : AOp := .nilck (.c .undef)
def mkOper (g : AG) (d : ADst) (o : AOp) : AOper :=
  match g, d with
  | .no, .to p => match o with
    | .mv x => .mv p x
    | o => .op p o
  | g, d => .mk g d o
def cDst (o : Oper) : Option ADst :=
  match o.dst with
  | none => some .no
  | some t => (cT nt t).map .to
def cGuard (ops : Array Oper) (o : Oper) : Option AG :=
  match o.guard with
  | none => some .no
  | some (j, want) => do
    let t ← (ops[j]?).bind (·.dst)
    (cT nt t).map fun p => .yes p want
def cOper (ops : Array Oper) (o : Oper) : Option AOper := do
  let d ← cDst nt o
  let g ← cGuard nt ops o
  some (mkOper g d ((cOp P nt o).getD deadOp))
def cRg (ops : Array Oper) : List Oper → Option ARg
  | [] => some .nil
  | o :: l => do some (.cons (← cOper P nt ops o) (← cRg ops l))

/-! A region that draws its order -/
/-- Which operations stand directly ahead of one. -/
def dirs (o : Oper) : List Nat := o.after.toList.filterMap fun e => if Region.binds .any e then some e.on else none
/-- Those that stand ahead of each, directly or not, as bits. -/
def befores : List Oper → List Nat → List Nat
  | [], acc => acc
  | o :: l, acc => befores l (acc ++ [(dirs o).foldl (fun s j => s ||| (2 ^ j ||| (acc[j]?).getD 0)) 0])
/-- What a class of operations is run by: 0 looks, 1 makes, 2 acts. -/
def AOp.cls : AOp → Nat
  | .alloc .. | .box .. | .bslice .. | .s2b .. | .mkmap | .mkslice .. | .rng _ => 1
  | .callf .. | .callv .. | .st .. | .mapupd .. | .del .. | .next _ | .append .. | .appz .. | .copy .. | .clear .. | .ustr .. => 2
  | _ => 0
/-- Does it look at blocks? -/
def AOp.looks : AOp → Bool
  | .ld1 _ | .ldn .. | .b2s _ | .lookup .. | .len _ _ | .slarr .. | .cvp0 _ | .cvp1 .. => true
  | _ => false
def AOs.list : AOs → List AO
  | .nil => []
  | .cons x l => x :: l.list
def APs.list : APs → List AO
  | .nil => []
  | .cons _ _ x l => x :: l.list
def AOp.opers : AOp → List AO
  | .mv x | .box _ x | .ld1 x | .ldn _ x | .nilck x | .un _ x | .cvi _ x | .cvs x | .s2b _ x | .b2s x | .cvp0 x | .cvp1 _ x | .mkif _ x | .faddr _ x | .field _ _ _ x | .rng x | .next x | .extract x _ | .len _ x | .cap x | .clear _ x | .usd x => [x]
  | .pick a b c | .mapupd _ a b c => [a, b, c]
  | .del _ a b => [a, b]
  | .st _ a b | .bin _ a b | .eqnil _ _ a b | .eqbool _ a b | .eqagg _ _ a b | .mkslice _ _ _ _ a b | .iaarr _ _ a b | .iasl _ a b | .ixarr _ _ _ a b | .ixstr a b | .lookup _ _ a b _ | .append _ _ _ a b | .appz _ _ _ _ a b | .copy _ a b | .ustr _ a b => [a, b]
  | .slstr x l h => x :: (l.toList ++ h.toList)
  | .slsl _ x l h m => x :: (l.toList ++ (h.toList ++ m.toList))
  | .slarr _ _ x l h => x :: (l.toList ++ h.toList)
  | .build _ l | .bslice _ _ _ _ l => l.list
  | .mkfunc _ a b => a.list ++ b.list
  | .callf _ l => l.list
  | .callv x l => x :: l.list
  | .mm _ x l => x :: l.list
  | .alloc .. | .mkmap | .lenc _ => []
def AO.path : AO → List Pth
  | .t p => [p]
  | .c _ => []
def AG.path : AG → List Pth
  | .no => []
  | .yes p _ => [p]
def ADst.path : ADst → List Pth
  | .no => []
  | .to p => [p]
def ADr.dsts : ADr → List Pth
  | .nil => []
  | .cons _ _ o l => o.dst.path ++ l.dsts
def ADr.idx : ADr → List Nat
  | .nil => []
  | .cons i _ _ l => i :: l.idx
def ADr.acts : ADr → List Nat
  | .nil => []
  | .cons i .acts _ l => i :: l.acts
  | .cons _ _ _ l => l.acts
def hasP (p : Pth) (l : List Pth) : Bool := l.any fun q => p.beq q
def apart (l m : List Pth) : Bool := l.all fun p => m.all fun q => !p.beq q
def ACl.isAct : ACl → Bool
  | .acts => true
  | _ => false
/-- The slots that are written by what doesn't act. -/
def ADr.calmDsts : ADr → List Pth
  | .nil => []
  | .cons _ c o l => (if c.isAct then [] else o.dst.path) ++ l.calmDsts
def ADr.actDsts : ADr → List (Nat × List Pth)
  | .nil => []
  | .cons i c o l => if c.isAct then (i, o.dst.path) :: l.actDsts else l.actDsts
/-- Does i stand ahead of j? -/
def isPre (pre : List Nat) (i j : Nat) : Bool := ((pre[j]?).getD 0).testBit i
/-- What is written by what doesn't act (N) is written once, and ahead of what reads it; no act that may come ahead of an operation writes what that one reads. rd: the slots that an operation reads. -/
def ADr.calmly (pre : List Nat) (rd : Nat → List Pth) (N : List Pth) : ADr → Bool
  | .nil => true
  | .cons i c o l =>
    ((rd i).all fun p => !hasP p N || apart [p] (o.dst.path ++ l.dsts)) &&
    ((if c.isAct then apart o.dst.path N else apart o.dst.path l.dsts && l.actDsts.all fun (j, d) => isPre pre i j || apart d (rd i)) && l.calmly pre rd N)
def ACl.fits (c : ACl) (o : AOp) : Bool :=
  match c with
  | .calm => o.cls == 0 && !o.looks
  | .reads _ _ => o.cls == 0
  | .makes => o.cls == 1
  | .acts => true
/-- Does operation i come behind the first b acts? -/
def behindA (pre all : List Nat) (i b : Nat) : Bool := b == 0 || (match all[b - 1]? with | some j => isPre pre j i | none => false)
/-- b: how many acts stand ahead in the list; all: the acts. -/
def ADr.staged (pre : List Nat) (all : List Nat) : ADr → Nat → Bool
  | .nil, _ => true
  | .cons i c o l, b =>
    behindA pre all i b && (c.fits o.aop && ((match c with
      | .reads x y => behindA pre all i x && (match all[y]? with | some j => isPre pre i j | none => true)
      | _ => true) && l.staged pre all (if c.isAct then b + 1 else b)))
/-- What an operation reads of another one that doesn't act, that one stands ahead of it. -/
def dataOk (ops : Array Oper) (pre acts : List Nat) : Bool :=
  ops.toList.zipIdx.all fun (o, i) => (o.looksAt ops).all fun t => ops.toList.zipIdx.all fun (o', j) => o'.dst != some t || (acts.contains j || isPre pre j i)
def nodupN : List Nat → Bool
  | [] => true
  | a :: l => !l.contains a && nodupN l
/-- The slots that an operation reads. -/
def readsOf (ops : Array Oper) (i : Nat) : List Pth :=
  match ops[i]? with
  | some o => (o.looksAt ops).filterMap (cT nt)
  | none => []
def drawOk (ops : Array Oper) (l : ADr) : Bool :=
  let pre := befores ops.toList []
  nodupN l.idx && ((List.range ops.size).all (fun i => l.idx.contains i) && (l.idx.all (· < ops.size) && (l.calmly pre (readsOf nt ops) l.calmDsts && (l.staged pre l.acts 0 && (dataOk ops pre l.acts && ops.toList.zipIdx.all fun (o, i) => (dirs o).all (· < i))))))
def cDrL (ops : Array Oper) (cl : Nat → AOper → ACl) : List Nat → Option ADr
  | [] => some .nil
  | i :: l => do
    let o ← ops[i]?
    let a ← cOper P nt ops o
    some (.cons i (cl i a) a (← cDrL ops cl l))
def cDr0 (ops : Array Oper) : Option ADr := do
  let l := ops.toList.map fun o => (cOp P nt o).getD deadOp
  let pre := befores ops.toList []
  let act (i : Nat) : Bool := match ops[i]?, l[i]? with
    | some o, some a => a.cls == 2 || (match o.op with | .assign _ => true | _ => false)
    | _, _ => false
  let acts := (List.range ops.size).filter act
  let kmin (i : Nat) : Nat := (acts.filter fun j => isPre pre j i).length
  let kmax (i : Nat) : Nat := (acts.takeWhile fun j => !isPre pre i j).length
  let cl (i : Nat) (o : AOper) : ACl := if act i then .acts else if o.aop.cls == 1 then .makes else if o.aop.looks then .reads (kmin i) (kmax i) else .calm
  let stage (s : Nat) : List Nat := (List.range ops.size).filter fun i => !act i && kmin i == s
  let order := (List.range (acts.length + 1)).flatMap fun s => (if s = 0 then [] else (acts[s - 1]?).toList) ++ stage s
  cDrL P nt ops cl order
def cDr (ops : Array Oper) : Option ADr := do
  let r ← cDr0 P nt ops
  if drawOk nt ops r then some r else none

def cCode : Code → Option ACode
  | .skip => some .skip
  | .region _ ops false => (cRg P nt ops ops.toList).map .region
  | .region _ ops true => (cDr P nt ops).map .drawn
  | .seq a b => do some (.seq (← cCode a) (← cCode b))
  | .cond x a b => do some (.cond (← cO nt x) (← cCode a) (← cCode b))
  | .block id a => do some (.block id (← cCode a))
  | .loop a => do some (.loop (← cCode a))
  | .rangeFunc x ps as bd => do some (.range (← cO nt x) (← ps.toList.mapM (cT nt)) (← cCode as) (← cCode bd))
  | .exit id => some (.exit id)
  | .ret => some .ret
  | .scope a => do some (.scope (← cCode a))
  | .label _ => some .skip
  | .goto _ | .refuse _ => some .bad
/-- .. with the checks of drawn regions left out. -/
def cCodeU : Code → Option ACode
  | .skip => some .skip
  | .region _ ops false => (cRg P nt ops ops.toList).map .region
  | .region _ ops true => (cDr0 P nt ops).map .drawn
  | .seq a b => do some (.seq (← cCodeU a) (← cCodeU b))
  | .cond x a b => do some (.cond (← cO nt x) (← cCodeU a) (← cCodeU b))
  | .block id a => do some (.block id (← cCodeU a))
  | .loop a => do some (.loop (← cCodeU a))
  | .rangeFunc x ps as bd => do some (.range (← cO nt x) (← ps.toList.mapM (cT nt)) (← cCodeU as) (← cCodeU bd))
  | .exit id => some (.exit id)
  | .ret => some .ret
  | .scope a => do some (.scope (← cCodeU a))
  | .label _ => some .skip
  | .goto _ | .refuse _ => some .bad
/-- Do the checks of drawn regions hold? -/
def okCode : Code → Bool
  | .region _ ops true => match cDr0 P nt ops with
    | some r => drawOk nt ops r
    | none => true
  | .seq a b => okCode a && okCode b
  | .cond _ a b => okCode a && okCode b
  | .block _ a => okCode a
  | .loop a => okCode a
  | .rangeFunc _ _ as bd => okCode as && okCode bd
  | .scope a => okCode a
  | _ => true
def cRes : ResultVar → Option ARes
  | .tmp t => (cT nt t).map .tmp
  | .cell a t => do
    let (n, agg) ← tyOf P t
    let p ← cT nt a
    some (if agg then .celln p n else .cell1 p)
def cExt (P : Program) (fn : Func) : Option AFn :=
  if fn.origin != "" then none
  else if fn.name == "internal/abi.NoEscape" then some (.ext .same)
  else if fn.name == "internal/bytealg.IndexByteString" then some (.ext .indexByte)
  else if fn.name == "internal/bytealg.CountString" then some (.ext .count)
  else if fn.name == "internal/bytealg.MakeNoZero" then do
    let t ← fn.resultTypes[0]?
    let e ← isSliceOf P t
    some (.ext (.makeNoZero e))
  else none
def cFn (P : Program) (fn : Func) : Option AFn :=
  match fn.body with
  | none => cExt P fn
  | some c => if fn.ntmps ≤ 4096 && fn.params.size + fn.nfree ≤ fn.ntmps then do
      let code ← cCode P fn.ntmps c
      let res ← fn.results.toList.mapM (cRes P fn.ntmps)
      some (.fn ((List.range (fn.params.size + fn.nfree)).map (pth (lev fn.ntmps))) code res)
    else none
def cFnU (P : Program) (fn : Func) : Option AFn :=
  match fn.body with
  | none => cExt P fn
  | some c => if fn.ntmps ≤ 4096 && fn.params.size + fn.nfree ≤ fn.ntmps then do
      let code ← cCodeU P fn.ntmps c
      let res ← fn.results.toList.mapM (cRes P fn.ntmps)
      some (.fn ((List.range (fn.params.size + fn.nfree)).map (pth (lev fn.ntmps))) code res)
    else none
/-- The parts of a function that catches: a region; one that makes a closure and defers its call; a region; one that ends with a call of what raises; the rest; the named result. -/
structure TrapS where
  i0 : Nat
  o0 : Array Oper
  i1 : Nat
  x : Oper
  y : Oper
  i2 : Nat
  o2 : Array Oper
  i3 : Nat
  l3 : List Oper
  z : Oper
  d : Code
  s : Tmp
  ty : TypeId
  t : Tmp
  tc : Tmp
  c : Nat
def TrapS.code (T : TrapS) : Code := .seq (.region T.i0 T.o0 false) (.seq (.region T.i1 #[T.x, T.y] false) (.seq (.region T.i2 T.o2 false) (.seq (.region T.i3 (T.l3 ++ [T.z]).toArray false) T.d)))
/-- The same, for the abstract machine. v: what is returned where the test fails. -/
def cTrap (P : Program) (fn : Func) (T : TrapS) (v : AV) (g : GL) : Option AFn := do
  let a0 ← cRg P fn.ntmps T.o0 T.o0.toList
  let a1 ← cRg P fn.ntmps #[T.x, T.y] [T.x]
  let a2 ← cRg P fn.ntmps T.o2 T.o2.toList
  let a3 ← cRg P fn.ntmps (T.l3 ++ [T.z]).toArray T.l3
  let rest ← cCodeU P fn.ntmps T.d
  let res ← [ResultVar.cell T.s T.ty].mapM (cRes P fn.ntmps)
  let ps ← cT fn.ntmps T.s
  let pt ← cT fn.ntmps T.t
  let d ← cDst fn.ntmps T.z
  let tc ← cT fn.ntmps T.tc
  some (.trap ((List.range (fn.params.size + fn.nfree)).map (pth (lev fn.ntmps))) a0 a1 a2 a3 pt d rest res ps tc (bid T.c) v g)
/-- The parts, out of a function's code. -/
def trapS (fn : Func) : Option TrapS :=
  match fn.body with
  | some (.seq (.region i0 o0 false) (.seq (.region i1 o1 false) (.seq (.region i2 o2 false) (.seq (.region i3 o3 false) d)))) =>
    match o1.toList, o3.toList.getLast?, fn.results.toList with
    | [x, y], some z, [.cell s ty] => match z.op with
      | .call ⟨_, args, _⟩ => match args.toList, x.dst, x.op with
        | [.tmp t], some tc, .makeFunc (.func c) _ _ => some ⟨i0, o0, i1, x, y, i2, o2, i3, o3.toList.dropLast, z, d, s, ty, t, tc, c⟩
        | _, _, _ => none
      | _ => none
    | _, _, _ => none
  | _ => none
def okFn (P : Program) (fn : Func) : Bool :=
  match fn.body with
  | none => true
  | some c => okCode P fn.ntmps c
theorem cCode_of (P : Program) (nt : Nat) : ∀ (c : Code), okCode P nt c = true → cCode P nt c = cCodeU P nt c := by
  intro c
  induction c with
  | region i ops b =>
    intro h
    cases b with
    | false => rfl
    | true =>
      show (cDr P nt ops).map _ = (cDr0 P nt ops).map _
      unfold cDr
      replace h : (match cDr0 P nt ops with | some r => drawOk nt ops r | none => true) = true := h
      cases hc : cDr0 P nt ops with
      | none => rfl
      | some r =>
        rw [hc] at h
        simp [h]
  | seq a b iha ihb =>
    intro h
    obtain ⟨h1, h2⟩ := (Bool.and_eq_true _ _).mp (show (okCode P nt a && okCode P nt b) = true from h)
    simp only [cCode, cCodeU, iha h1, ihb h2]
  | cond x a b iha ihb =>
    intro h
    obtain ⟨h1, h2⟩ := (Bool.and_eq_true _ _).mp (show (okCode P nt a && okCode P nt b) = true from h)
    simp only [cCode, cCodeU, iha h1, ihb h2]
  | block i a ih => intro h; simp only [cCode, cCodeU, ih h]
  | loop a ih => intro h; simp only [cCode, cCodeU, ih h]
  | rangeFunc x ps a b iha ihb =>
    intro h
    obtain ⟨h1, h2⟩ := (Bool.and_eq_true _ _).mp (show (okCode P nt a && okCode P nt b) = true from h)
    simp only [cCode, cCodeU, iha h1, ihb h2]
  | scope a ih => intro h; simp only [cCode, cCodeU, ih h]
  | _ => intro _; rfl
theorem cFn_of (P : Program) (fn : Func) (h : okFn P fn = true) : cFn P fn = cFnU P fn := by
  unfold okFn at h
  unfold cFn cFnU
  cases hb : fn.body with
  | none => rfl
  | some c =>
    rw [hb] at h
    simp only [cCode_of P fn.ntmps c h]
end
end Go.Ra
