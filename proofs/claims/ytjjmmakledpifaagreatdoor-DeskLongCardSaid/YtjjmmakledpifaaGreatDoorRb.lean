/-
  A reflective abstract machine for closed runs: its values, its memory, its code, and how it runs. Plain definitions, made for the kernel's evaluation (recursors with closed premises); nothing is claimed here.
-/
import GoSem.Step
set_option linter.unusedVariables false
namespace Go.Ra
noncomputable section

/-- Paths of base 8. -/
inductive Pth where
  | e
  | c0 (p : Pth) | c1 (p : Pth) | c2 (p : Pth) | c3 (p : Pth) | c4 (p : Pth) | c5 (p : Pth) | c6 (p : Pth) | c7 (p : Pth)
  deriving DecidableEq

/-- Abstract values; 'nl', 'cs' make lists of them; 'undef' stands for any value. -/
inductive AV where
  | undef
  | nl
  | cs (h t : AV)
  | bool (b : Bool)
  | int (k : IntKind) (n : Int)
  | icap (lo : Nat)
  | aint
  | ilt (hi : Nat)
  | text (lo hi : Nat)
  | str (len n : Nat)
  | ptr (id : Pth) (off : Nat)
  | nilptr
  | slice (id : Pth) (off len lo : Nat) (ex : Bool) (k : Nat)
  | nilslice
  | map (id : Pth)
  | nilmap
  | func (f : Pth) (first cap : AV)
  | yield (id : Pth)
  | nilfunc
  | iface (t : TypeId) (v : AV)
  | nilIface
  | agg (l : AV)
  | tuple (l : AV)

abbrev OA := Option AV

/-- Binary trees: cells by their number. -/
inductive Tr where
  | leaf
  | node (v : AV) (l r : Tr)

inductive PJ where
  | ret
  | exit (id : Nat)

inductive AO where
  | t (p : Pth)
  | c (v : AV)

inductive AOs where
  | nil
  | cons (x : AO) (l : AOs)

inductive APs where
  | nil
  | cons (off n : Nat) (x : AO) (l : APs)

/-- What is asked of the globals: the global's number, its type, how many cells, their values. -/
inductive GL where
  | nil
  | cons (g : Nat) (elem : TypeId) (n : Nat) (c : AV) (l : GL)

inductive Ext where
  | same | indexByte | count | makeNoZero (elem : TypeId) | index (g : Nat) | truth (l : GL) | overlaps | sorted (keys1 : Pth) (elem : TypeId) | known (l : GL) (a v : AV)

inductive AOp where
  | mv (x : AO)
  | pick (c a b : AO)
  | alloc (elem : TypeId) (n : Nat) (t : Tr)
  | box (elem : TypeId) (x : AO)
  | build (z : AV) (l : APs)
  | bslice (elem : TypeId) (k len : Nat) (z : AV) (l : APs)
  | ld1 (x : AO)
  | ldn (n : Nat) (x : AO)
  | st (n : Nat) (a x : AO)
  | nilck (x : AO)
  | bin (op : BinOp) (x y : AO)
  | eqnil (sort : Nat) (neg : Bool) (x y : AO)
  | eqbool (neg : Bool) (x y : AO)
  | eqagg (offs : List (Nat × Nat)) (neg : Bool) (x y : AO)
  | un (op : UnOp) (x : AO)
  | cvi (k : IntKind) (x : AO)
  | cvs (x : AO)
  | s2b (elem : TypeId) (x : AO)
  | b2s (x : AO)
  | cvp0 (x : AO)
  | cvp1 (tab : List (TypeId × Nat × Nat)) (x : AO)
  | mkif (t : TypeId) (x : AO)
  | mkfunc (f : Pth) (first cap : AOs)
  | mkmap
  | mkslice (elem : TypeId) (k bytes : Nat) (z : AV) (l c : AO)
  | slstr (x : AO) (lo hi : Option AO)
  | slsl (k : Nat) (x : AO) (lo hi mx : Option AO)
  | slarr (n k : Nat) (x : AO) (lo hi : Option AO)
  | faddr (off : Nat) (x : AO)
  | field (off n : Nat) (agg : Bool) (x : AO)
  | iaarr (n k : Nat) (x i : AO)
  | iasl (k : Nat) (x i : AO)
  | ixarr (n k : Nat) (agg : Bool) (x i : AO)
  | ixstr (x i : AO)
  | lookup (kd : Nat) (z : AV) (x i : AO) (ok : Bool)
  | mapupd (kd : Nat) (m k v : AO)
  | del (kd : Nat) (m k : AO)
  | rng (x : AO)
  | next (x : AO)
  | extract (x : AO) (i : Nat)
  | callf (f : Pth) (args : AOs)
  | callv (x : AO) (args : AOs)
  | lenc (n : Nat)
  | len (sort : Nat) (x : AO)
  | cap (x : AO)
  | append (elem : TypeId) (k bytes : Nat) (s x : AO)
  | appz (elem : TypeId) (k bytes : Nat) (w : AV) (s x : AO)
  | copy (k : Nat) (d s : AO)
  | mm (isMax : Bool) (x : AO) (l : AOs)
  | clear (z : AV) (x : AO)
  | usd (x : AO)
  | ustr (elem : TypeId) (p n : AO)
  deriving Inhabited

inductive AG where
  | no
  | yes (t : Pth) (want : Bool)

inductive ADst where
  | no
  | to (p : Pth)

/-- What a drawn region asks of an operation: it looks at nothing but its operands; it reads, at each stage from one to another; it makes a block and nothing else; it acts. -/
inductive ACl where
  | calm
  | reads (a b : Nat)
  | makes
  | acts

inductive AOper where
  | mv (d : Pth) (x : AO)
  | op (d : Pth) (o : AOp)
  | mk (g : AG) (d : ADst) (o : AOp)

inductive ARg where
  | nil
  | cons (o : AOper) (l : ARg)

inductive ADr where
  | nil
  | cons (i : Nat) (c : ACl) (o : AOper) (l : ADr)

inductive ACode where
  | skip
  | region (l : ARg)
  | drawn (l : ADr)
  | seq (a b : ACode)
  | cond (x : AO) (a b : ACode)
  | block (id : Nat) (a : ACode)
  | loop (a : ACode)
  | range (x : AO) (ps : List Pth) (assign body : ACode)
  | exit (id : Nat)
  | ret
  | scope (a : ACode)
  | bad

inductive ARes where
  | tmp (p : Pth)
  | cell1 (p : Pth)
  | celln (p : Pth) (n : Nat)

inductive AFn where
  | no
  | fn (ps : List Pth) (code : ACode) (res : List ARes)
  | ext (e : Ext)
  | trap (ps : List Pth) (a0 a1 a2 a3 : ARg) (t : Pth) (d : ADst) (rest : ACode) (res : List ARes) (s tc c : Pth) (v : AV) (g : GL)

inductive ME where
  | nil
  | cons (k v : AV) (born : Nat) (l : ME)

/-- Trees with eight branches: slots, blocks, functions by their paths. A leaf stands for all that lies below it. -/
inductive TV where
  | leaf (a : AV)
  | node (x0 x1 x2 x3 x4 x5 x6 x7 : TV)

/-- Blocks: of cells those from lo to hi are known of; those from fz - 1 on are surely not frozen (fz = 0: none is, but for a mark behind the cells). -/
inductive AB where
  | dead
  | cells (fz : Nat) (elem : TypeId) (lo hi : Nat) (t : Tr)
  | map (es : ME) (clock : Nat)
  | siter (len n pos : Nat)
  | loop (st : LoopState) (pend : Option PJ) (z : TV) (ps : List Pth) (assign body : ACode)

inductive TB where
  | leaf (a : AB)
  | node (x0 x1 x2 x3 x4 x5 x6 x7 : TB)

inductive TF where
  | leaf (a : AFn)
  | node (x0 x1 x2 x3 x4 x5 x6 x7 : TF)

inductive R where
  | fail
  | norm (z : TV) (h : TB) (nx : Nat)
  | exit (id : Nat) (z : TV) (h : TB) (nx : Nat)
  | ret (z : TV) (h : TB) (nx : Nat)

/-- What a call, or an act, comes to. -/
inductive CR where
  | fail
  | ok (v : AV) (h : TB) (nx : Nat)

def tick {α : Type} (a : α) : α := a
namespace TV
def val (t : TV) : AV := (TV.rec (motive := fun _ => AV) (fun a => a) (fun x0 x1 x2 x3 x4 x5 x6 x7 _ _ _ _ _ _ _ _ => .undef)) t
def k0 (t : TV) : TV := (TV.rec (motive := fun _ => TV) (fun a => .leaf a) (fun x0 x1 x2 x3 x4 x5 x6 x7 _ _ _ _ _ _ _ _ => x0)) t
def k1 (t : TV) : TV := (TV.rec (motive := fun _ => TV) (fun a => .leaf a) (fun x0 x1 x2 x3 x4 x5 x6 x7 _ _ _ _ _ _ _ _ => x1)) t
def k2 (t : TV) : TV := (TV.rec (motive := fun _ => TV) (fun a => .leaf a) (fun x0 x1 x2 x3 x4 x5 x6 x7 _ _ _ _ _ _ _ _ => x2)) t
def k3 (t : TV) : TV := (TV.rec (motive := fun _ => TV) (fun a => .leaf a) (fun x0 x1 x2 x3 x4 x5 x6 x7 _ _ _ _ _ _ _ _ => x3)) t
def k4 (t : TV) : TV := (TV.rec (motive := fun _ => TV) (fun a => .leaf a) (fun x0 x1 x2 x3 x4 x5 x6 x7 _ _ _ _ _ _ _ _ => x4)) t
def k5 (t : TV) : TV := (TV.rec (motive := fun _ => TV) (fun a => .leaf a) (fun x0 x1 x2 x3 x4 x5 x6 x7 _ _ _ _ _ _ _ _ => x5)) t
def k6 (t : TV) : TV := (TV.rec (motive := fun _ => TV) (fun a => .leaf a) (fun x0 x1 x2 x3 x4 x5 x6 x7 _ _ _ _ _ _ _ _ => x6)) t
def k7 (t : TV) : TV := (TV.rec (motive := fun _ => TV) (fun a => .leaf a) (fun x0 x1 x2 x3 x4 x5 x6 x7 _ _ _ _ _ _ _ _ => x7)) t
def r0 (t : TV) : TV → TV := (TV.rec (motive := fun _ => TV → TV) (fun a => fun x => .node x (.leaf a) (.leaf a) (.leaf a) (.leaf a) (.leaf a) (.leaf a) (.leaf a)) (fun x0 x1 x2 x3 x4 x5 x6 x7 _ _ _ _ _ _ _ _ => fun x => .node x x1 x2 x3 x4 x5 x6 x7)) t
def r1 (t : TV) : TV → TV := (TV.rec (motive := fun _ => TV → TV) (fun a => fun x => .node (.leaf a) x (.leaf a) (.leaf a) (.leaf a) (.leaf a) (.leaf a) (.leaf a)) (fun x0 x1 x2 x3 x4 x5 x6 x7 _ _ _ _ _ _ _ _ => fun x => .node x0 x x2 x3 x4 x5 x6 x7)) t
def r2 (t : TV) : TV → TV := (TV.rec (motive := fun _ => TV → TV) (fun a => fun x => .node (.leaf a) (.leaf a) x (.leaf a) (.leaf a) (.leaf a) (.leaf a) (.leaf a)) (fun x0 x1 x2 x3 x4 x5 x6 x7 _ _ _ _ _ _ _ _ => fun x => .node x0 x1 x x3 x4 x5 x6 x7)) t
def r3 (t : TV) : TV → TV := (TV.rec (motive := fun _ => TV → TV) (fun a => fun x => .node (.leaf a) (.leaf a) (.leaf a) x (.leaf a) (.leaf a) (.leaf a) (.leaf a)) (fun x0 x1 x2 x3 x4 x5 x6 x7 _ _ _ _ _ _ _ _ => fun x => .node x0 x1 x2 x x4 x5 x6 x7)) t
def r4 (t : TV) : TV → TV := (TV.rec (motive := fun _ => TV → TV) (fun a => fun x => .node (.leaf a) (.leaf a) (.leaf a) (.leaf a) x (.leaf a) (.leaf a) (.leaf a)) (fun x0 x1 x2 x3 x4 x5 x6 x7 _ _ _ _ _ _ _ _ => fun x => .node x0 x1 x2 x3 x x5 x6 x7)) t
def r5 (t : TV) : TV → TV := (TV.rec (motive := fun _ => TV → TV) (fun a => fun x => .node (.leaf a) (.leaf a) (.leaf a) (.leaf a) (.leaf a) x (.leaf a) (.leaf a)) (fun x0 x1 x2 x3 x4 x5 x6 x7 _ _ _ _ _ _ _ _ => fun x => .node x0 x1 x2 x3 x4 x x6 x7)) t
def r6 (t : TV) : TV → TV := (TV.rec (motive := fun _ => TV → TV) (fun a => fun x => .node (.leaf a) (.leaf a) (.leaf a) (.leaf a) (.leaf a) (.leaf a) x (.leaf a)) (fun x0 x1 x2 x3 x4 x5 x6 x7 _ _ _ _ _ _ _ _ => fun x => .node x0 x1 x2 x3 x4 x5 x x7)) t
def r7 (t : TV) : TV → TV := (TV.rec (motive := fun _ => TV → TV) (fun a => fun x => .node (.leaf a) (.leaf a) (.leaf a) (.leaf a) (.leaf a) (.leaf a) (.leaf a) x) (fun x0 x1 x2 x3 x4 x5 x6 x7 _ _ _ _ _ _ _ _ => fun x => .node x0 x1 x2 x3 x4 x5 x6 x)) t
def gt (p : Pth) : TV → AV := (Pth.rec (motive := fun _ => TV → AV) (val) (fun p ih => fun t => ih t.k0) (fun p ih => fun t => ih t.k1) (fun p ih => fun t => ih t.k2) (fun p ih => fun t => ih t.k3) (fun p ih => fun t => ih t.k4) (fun p ih => fun t => ih t.k5) (fun p ih => fun t => ih t.k6) (fun p ih => fun t => ih t.k7)) p
def set (p : Pth) : AV → TV → TV := (Pth.rec (motive := fun _ => AV → TV → TV) (fun v _ => .leaf v) (fun p ih => fun v t => t.r0 (ih v t.k0)) (fun p ih => fun v t => t.r1 (ih v t.k1)) (fun p ih => fun v t => t.r2 (ih v t.k2)) (fun p ih => fun v t => t.r3 (ih v t.k3)) (fun p ih => fun v t => t.r4 (ih v t.k4)) (fun p ih => fun v t => t.r5 (ih v t.k5)) (fun p ih => fun v t => t.r6 (ih v t.k6)) (fun p ih => fun v t => t.r7 (ih v t.k7))) p
def get (p : Pth) (t : TV) : AV := gt p t
end TV
namespace TB
def val (t : TB) : AB := (TB.rec (motive := fun _ => AB) (fun a => a) (fun x0 x1 x2 x3 x4 x5 x6 x7 _ _ _ _ _ _ _ _ => .dead)) t
def k0 (t : TB) : TB := (TB.rec (motive := fun _ => TB) (fun a => .leaf a) (fun x0 x1 x2 x3 x4 x5 x6 x7 _ _ _ _ _ _ _ _ => x0)) t
def k1 (t : TB) : TB := (TB.rec (motive := fun _ => TB) (fun a => .leaf a) (fun x0 x1 x2 x3 x4 x5 x6 x7 _ _ _ _ _ _ _ _ => x1)) t
def k2 (t : TB) : TB := (TB.rec (motive := fun _ => TB) (fun a => .leaf a) (fun x0 x1 x2 x3 x4 x5 x6 x7 _ _ _ _ _ _ _ _ => x2)) t
def k3 (t : TB) : TB := (TB.rec (motive := fun _ => TB) (fun a => .leaf a) (fun x0 x1 x2 x3 x4 x5 x6 x7 _ _ _ _ _ _ _ _ => x3)) t
def k4 (t : TB) : TB := (TB.rec (motive := fun _ => TB) (fun a => .leaf a) (fun x0 x1 x2 x3 x4 x5 x6 x7 _ _ _ _ _ _ _ _ => x4)) t
def k5 (t : TB) : TB := (TB.rec (motive := fun _ => TB) (fun a => .leaf a) (fun x0 x1 x2 x3 x4 x5 x6 x7 _ _ _ _ _ _ _ _ => x5)) t
def k6 (t : TB) : TB := (TB.rec (motive := fun _ => TB) (fun a => .leaf a) (fun x0 x1 x2 x3 x4 x5 x6 x7 _ _ _ _ _ _ _ _ => x6)) t
def k7 (t : TB) : TB := (TB.rec (motive := fun _ => TB) (fun a => .leaf a) (fun x0 x1 x2 x3 x4 x5 x6 x7 _ _ _ _ _ _ _ _ => x7)) t
def r0 (t : TB) : TB → TB := (TB.rec (motive := fun _ => TB → TB) (fun a => fun x => .node x (.leaf a) (.leaf a) (.leaf a) (.leaf a) (.leaf a) (.leaf a) (.leaf a)) (fun x0 x1 x2 x3 x4 x5 x6 x7 _ _ _ _ _ _ _ _ => fun x => .node x x1 x2 x3 x4 x5 x6 x7)) t
def r1 (t : TB) : TB → TB := (TB.rec (motive := fun _ => TB → TB) (fun a => fun x => .node (.leaf a) x (.leaf a) (.leaf a) (.leaf a) (.leaf a) (.leaf a) (.leaf a)) (fun x0 x1 x2 x3 x4 x5 x6 x7 _ _ _ _ _ _ _ _ => fun x => .node x0 x x2 x3 x4 x5 x6 x7)) t
def r2 (t : TB) : TB → TB := (TB.rec (motive := fun _ => TB → TB) (fun a => fun x => .node (.leaf a) (.leaf a) x (.leaf a) (.leaf a) (.leaf a) (.leaf a) (.leaf a)) (fun x0 x1 x2 x3 x4 x5 x6 x7 _ _ _ _ _ _ _ _ => fun x => .node x0 x1 x x3 x4 x5 x6 x7)) t
def r3 (t : TB) : TB → TB := (TB.rec (motive := fun _ => TB → TB) (fun a => fun x => .node (.leaf a) (.leaf a) (.leaf a) x (.leaf a) (.leaf a) (.leaf a) (.leaf a)) (fun x0 x1 x2 x3 x4 x5 x6 x7 _ _ _ _ _ _ _ _ => fun x => .node x0 x1 x2 x x4 x5 x6 x7)) t
def r4 (t : TB) : TB → TB := (TB.rec (motive := fun _ => TB → TB) (fun a => fun x => .node (.leaf a) (.leaf a) (.leaf a) (.leaf a) x (.leaf a) (.leaf a) (.leaf a)) (fun x0 x1 x2 x3 x4 x5 x6 x7 _ _ _ _ _ _ _ _ => fun x => .node x0 x1 x2 x3 x x5 x6 x7)) t
def r5 (t : TB) : TB → TB := (TB.rec (motive := fun _ => TB → TB) (fun a => fun x => .node (.leaf a) (.leaf a) (.leaf a) (.leaf a) (.leaf a) x (.leaf a) (.leaf a)) (fun x0 x1 x2 x3 x4 x5 x6 x7 _ _ _ _ _ _ _ _ => fun x => .node x0 x1 x2 x3 x4 x x6 x7)) t
def r6 (t : TB) : TB → TB := (TB.rec (motive := fun _ => TB → TB) (fun a => fun x => .node (.leaf a) (.leaf a) (.leaf a) (.leaf a) (.leaf a) (.leaf a) x (.leaf a)) (fun x0 x1 x2 x3 x4 x5 x6 x7 _ _ _ _ _ _ _ _ => fun x => .node x0 x1 x2 x3 x4 x5 x x7)) t
def r7 (t : TB) : TB → TB := (TB.rec (motive := fun _ => TB → TB) (fun a => fun x => .node (.leaf a) (.leaf a) (.leaf a) (.leaf a) (.leaf a) (.leaf a) (.leaf a) x) (fun x0 x1 x2 x3 x4 x5 x6 x7 _ _ _ _ _ _ _ _ => fun x => .node x0 x1 x2 x3 x4 x5 x6 x)) t
def gt (p : Pth) : TB → AB := (Pth.rec (motive := fun _ => TB → AB) (val) (fun p ih => fun t => ih t.k0) (fun p ih => fun t => ih t.k1) (fun p ih => fun t => ih t.k2) (fun p ih => fun t => ih t.k3) (fun p ih => fun t => ih t.k4) (fun p ih => fun t => ih t.k5) (fun p ih => fun t => ih t.k6) (fun p ih => fun t => ih t.k7)) p
def set (p : Pth) : AB → TB → TB := (Pth.rec (motive := fun _ => AB → TB → TB) (fun v _ => .leaf v) (fun p ih => fun v t => t.r0 (ih v t.k0)) (fun p ih => fun v t => t.r1 (ih v t.k1)) (fun p ih => fun v t => t.r2 (ih v t.k2)) (fun p ih => fun v t => t.r3 (ih v t.k3)) (fun p ih => fun v t => t.r4 (ih v t.k4)) (fun p ih => fun v t => t.r5 (ih v t.k5)) (fun p ih => fun v t => t.r6 (ih v t.k6)) (fun p ih => fun v t => t.r7 (ih v t.k7))) p
def get (t : TB) (p : Pth) : AB := gt p t
end TB
namespace TF
def val (t : TF) : AFn := (TF.rec (motive := fun _ => AFn) (fun a => a) (fun x0 x1 x2 x3 x4 x5 x6 x7 _ _ _ _ _ _ _ _ => .no)) t
def k0 (t : TF) : TF := (TF.rec (motive := fun _ => TF) (fun a => .leaf a) (fun x0 x1 x2 x3 x4 x5 x6 x7 _ _ _ _ _ _ _ _ => x0)) t
def k1 (t : TF) : TF := (TF.rec (motive := fun _ => TF) (fun a => .leaf a) (fun x0 x1 x2 x3 x4 x5 x6 x7 _ _ _ _ _ _ _ _ => x1)) t
def k2 (t : TF) : TF := (TF.rec (motive := fun _ => TF) (fun a => .leaf a) (fun x0 x1 x2 x3 x4 x5 x6 x7 _ _ _ _ _ _ _ _ => x2)) t
def k3 (t : TF) : TF := (TF.rec (motive := fun _ => TF) (fun a => .leaf a) (fun x0 x1 x2 x3 x4 x5 x6 x7 _ _ _ _ _ _ _ _ => x3)) t
def k4 (t : TF) : TF := (TF.rec (motive := fun _ => TF) (fun a => .leaf a) (fun x0 x1 x2 x3 x4 x5 x6 x7 _ _ _ _ _ _ _ _ => x4)) t
def k5 (t : TF) : TF := (TF.rec (motive := fun _ => TF) (fun a => .leaf a) (fun x0 x1 x2 x3 x4 x5 x6 x7 _ _ _ _ _ _ _ _ => x5)) t
def k6 (t : TF) : TF := (TF.rec (motive := fun _ => TF) (fun a => .leaf a) (fun x0 x1 x2 x3 x4 x5 x6 x7 _ _ _ _ _ _ _ _ => x6)) t
def k7 (t : TF) : TF := (TF.rec (motive := fun _ => TF) (fun a => .leaf a) (fun x0 x1 x2 x3 x4 x5 x6 x7 _ _ _ _ _ _ _ _ => x7)) t
def r0 (t : TF) : TF → TF := (TF.rec (motive := fun _ => TF → TF) (fun a => fun x => .node x (.leaf a) (.leaf a) (.leaf a) (.leaf a) (.leaf a) (.leaf a) (.leaf a)) (fun x0 x1 x2 x3 x4 x5 x6 x7 _ _ _ _ _ _ _ _ => fun x => .node x x1 x2 x3 x4 x5 x6 x7)) t
def r1 (t : TF) : TF → TF := (TF.rec (motive := fun _ => TF → TF) (fun a => fun x => .node (.leaf a) x (.leaf a) (.leaf a) (.leaf a) (.leaf a) (.leaf a) (.leaf a)) (fun x0 x1 x2 x3 x4 x5 x6 x7 _ _ _ _ _ _ _ _ => fun x => .node x0 x x2 x3 x4 x5 x6 x7)) t
def r2 (t : TF) : TF → TF := (TF.rec (motive := fun _ => TF → TF) (fun a => fun x => .node (.leaf a) (.leaf a) x (.leaf a) (.leaf a) (.leaf a) (.leaf a) (.leaf a)) (fun x0 x1 x2 x3 x4 x5 x6 x7 _ _ _ _ _ _ _ _ => fun x => .node x0 x1 x x3 x4 x5 x6 x7)) t
def r3 (t : TF) : TF → TF := (TF.rec (motive := fun _ => TF → TF) (fun a => fun x => .node (.leaf a) (.leaf a) (.leaf a) x (.leaf a) (.leaf a) (.leaf a) (.leaf a)) (fun x0 x1 x2 x3 x4 x5 x6 x7 _ _ _ _ _ _ _ _ => fun x => .node x0 x1 x2 x x4 x5 x6 x7)) t
def r4 (t : TF) : TF → TF := (TF.rec (motive := fun _ => TF → TF) (fun a => fun x => .node (.leaf a) (.leaf a) (.leaf a) (.leaf a) x (.leaf a) (.leaf a) (.leaf a)) (fun x0 x1 x2 x3 x4 x5 x6 x7 _ _ _ _ _ _ _ _ => fun x => .node x0 x1 x2 x3 x x5 x6 x7)) t
def r5 (t : TF) : TF → TF := (TF.rec (motive := fun _ => TF → TF) (fun a => fun x => .node (.leaf a) (.leaf a) (.leaf a) (.leaf a) (.leaf a) x (.leaf a) (.leaf a)) (fun x0 x1 x2 x3 x4 x5 x6 x7 _ _ _ _ _ _ _ _ => fun x => .node x0 x1 x2 x3 x4 x x6 x7)) t
def r6 (t : TF) : TF → TF := (TF.rec (motive := fun _ => TF → TF) (fun a => fun x => .node (.leaf a) (.leaf a) (.leaf a) (.leaf a) (.leaf a) (.leaf a) x (.leaf a)) (fun x0 x1 x2 x3 x4 x5 x6 x7 _ _ _ _ _ _ _ _ => fun x => .node x0 x1 x2 x3 x4 x5 x x7)) t
def r7 (t : TF) : TF → TF := (TF.rec (motive := fun _ => TF → TF) (fun a => fun x => .node (.leaf a) (.leaf a) (.leaf a) (.leaf a) (.leaf a) (.leaf a) (.leaf a) x) (fun x0 x1 x2 x3 x4 x5 x6 x7 _ _ _ _ _ _ _ _ => fun x => .node x0 x1 x2 x3 x4 x5 x6 x)) t
def gt (p : Pth) : TF → AFn := (Pth.rec (motive := fun _ => TF → AFn) (val) (fun p ih => fun t => ih t.k0) (fun p ih => fun t => ih t.k1) (fun p ih => fun t => ih t.k2) (fun p ih => fun t => ih t.k3) (fun p ih => fun t => ih t.k4) (fun p ih => fun t => ih t.k5) (fun p ih => fun t => ih t.k6) (fun p ih => fun t => ih t.k7)) p
def set (p : Pth) : AFn → TF → TF := (Pth.rec (motive := fun _ => AFn → TF → TF) (fun v _ => .leaf v) (fun p ih => fun v t => t.r0 (ih v t.k0)) (fun p ih => fun v t => t.r1 (ih v t.k1)) (fun p ih => fun v t => t.r2 (ih v t.k2)) (fun p ih => fun v t => t.r3 (ih v t.k3)) (fun p ih => fun v t => t.r4 (ih v t.k4)) (fun p ih => fun v t => t.r5 (ih v t.k5)) (fun p ih => fun v t => t.r6 (ih v t.k6)) (fun p ih => fun v t => t.r7 (ih v t.k7))) p
def get (p : Pth) (t : TF) : AFn := gt p t
end TF


namespace Tr
def get (t : Tr) : Nat → AV := (Tr.rec (motive := fun _ => Nat → AV) (fun _ => .undef) (fun v l r gl gr => fun n => Bool.rec (Bool.rec (gr (Nat.pred (Nat.div n 2))) (gl (Nat.div n 2)) (Nat.beq (Nat.mod n 2) 1)) v (Nat.beq n 0))) t
def set1 (f : Nat) : AV → Nat → Tr := (Nat.rec (motive := fun _ => AV → Nat → Tr) (fun _ _ => .leaf) (fun _ s => fun a n => Bool.rec (Bool.rec (.node .undef .leaf (s a (Nat.pred (Nat.div n 2)))) (.node .undef (s a (Nat.div n 2)) .leaf) (Nat.beq (Nat.mod n 2) 1)) (.node a .leaf .leaf) (Nat.beq n 0))) f
def set (t : Tr) : AV → Nat → Tr := (Tr.rec (motive := fun _ => AV → Nat → Tr) (set1 64) (fun v l r gl gr => fun a n => Bool.rec (Bool.rec (.node v l (gr a (Nat.pred (Nat.div n 2)))) (.node v (gl a (Nat.div n 2)) r) (Nat.beq (Nat.mod n 2) 1)) (.node a l r) (Nat.beq n 0))) t
/-- The values of a list become the cells from number n on. -/
def sets (l : AV) : Nat → Tr → Tr := (AV.rec (motive := fun _ => Nat → Tr → Tr) (fun _ t => t) (fun _ t => t) (fun h t ih iht => fun n t => iht (Nat.succ n) (t.set h n)) (fun _ => fun _ t => t) (fun _ _ => fun _ t => t) (fun _ => fun _ t => t) (fun _ t => t) (fun _ => fun _ t => t) (fun _ _ => fun _ t => t) (fun _ _ => fun _ t => t) (fun _ _ => fun _ t => t) (fun _ t => t) (fun _ _ _ _ _ _ => fun _ t => t) (fun _ t => t) (fun _ => fun _ t => t) (fun _ t => t) (fun _ _ _ _ _ => fun _ t => t) (fun _ => fun _ t => t) (fun _ t => t) (fun _ _ _ => fun _ t => t) (fun _ t => t) (fun _ _ => fun _ t => t) (fun _ _ => fun _ t => t)) l
end Tr

/-- n cells from number o on, as a list. -/
def cellsOf (t : Tr) (n : Nat) : Nat → AV := Nat.rec (motive := fun _ => Nat → AV) (fun _ => .nl) (fun _ ih o => .cs (t.get o) (ih (Nat.succ o))) n

namespace AV
def len (v : AV) : Nat := (AV.rec (motive := fun _ => Nat) (0) (0) (fun h t ih iht => Nat.succ iht) (fun _ => 0) (fun _ _ => 0) (fun _ => 0) (0) (fun _ => 0) (fun _ _ => 0) (fun _ _ => 0) (fun _ _ => 0) (0) (fun _ _ _ _ _ _ => 0) (0) (fun _ => 0) (0) (fun _ _ _ _ _ => 0) (fun _ => 0) (0) (fun _ _ _ => 0) (0) (fun _ _ => 0) (fun _ _ => 0)) v
def hd (v : AV) : AV := (AV.rec (motive := fun _ => AV) (.undef) (.undef) (fun h t _ _ => h) (fun _ => .undef) (fun _ _ => .undef) (fun _ => .undef) (.undef) (fun _ => .undef) (fun _ _ => .undef) (fun _ _ => .undef) (fun _ _ => .undef) (.undef) (fun _ _ _ _ _ _ => .undef) (.undef) (fun _ => .undef) (.undef) (fun _ _ _ _ _ => .undef) (fun _ => .undef) (.undef) (fun _ _ _ => .undef) (.undef) (fun _ _ => .undef) (fun _ _ => .undef)) v
def tl (v : AV) : AV := (AV.rec (motive := fun _ => AV) (.nl) (.nl) (fun h t _ _ => t) (fun _ => .nl) (fun _ _ => .nl) (fun _ => .nl) (.nl) (fun _ => .nl) (fun _ _ => .nl) (fun _ _ => .nl) (fun _ _ => .nl) (.nl) (fun _ _ _ _ _ _ => .nl) (.nl) (fun _ => .nl) (.nl) (fun _ _ _ _ _ => .nl) (fun _ => .nl) (.nl) (fun _ _ _ => .nl) (.nl) (fun _ _ => .nl) (fun _ _ => .nl)) v
def app (v : AV) : AV → AV := (AV.rec (motive := fun _ => AV → AV) (fun b => b) (fun b => b) (fun h t ih iht => fun b => .cs h (iht b)) (fun _ => fun b => b) (fun _ _ => fun b => b) (fun _ => fun b => b) (fun b => b) (fun _ => fun b => b) (fun _ _ => fun b => b) (fun _ _ => fun b => b) (fun _ _ => fun b => b) (fun b => b) (fun _ _ _ _ _ _ => fun b => b) (fun b => b) (fun _ => fun b => b) (fun b => b) (fun _ _ _ _ _ => fun b => b) (fun _ => fun b => b) (fun b => b) (fun _ _ _ => fun b => b) (fun b => b) (fun _ _ => fun b => b) (fun _ _ => fun b => b)) v
def nth (v : AV) (n : Nat) : AV := Nat.rec (motive := fun _ => AV → AV) hd (fun _ ih v => ih v.tl) n v
def drop (v : AV) (n : Nat) : AV := Nat.rec (motive := fun _ => AV → AV) (fun v => v) (fun _ ih v => ih v.tl) n v
def take (v : AV) (n : Nat) : AV := Nat.rec (motive := fun _ => AV → AV) (fun _ => .nl) (fun _ ih v => .cs v.hd (ih v.tl)) n v
/-- A segment of a list is replaced. -/
def seg (v : AV) (n : Nat) (l : AV) : AV := Nat.rec (motive := fun _ => AV → AV → AV) (fun v l => l.app (v.drop l.len)) (fun _ ih v l => .cs v.hd (ih v.tl l)) n v l
/-- A list, n times. -/
def reps (w : AV) (n : Nat) : AV := Nat.rec (motive := fun _ => AV) .nl (fun _ ih => w.app ih) n
/-- Is it surely one cell? -/
def one (v : AV) : Bool := (AV.rec (motive := fun _ => Bool) (false) (false) (fun h t _ _ => false) (fun _ => true) (fun _ _ => true) (fun _ => true) (true) (fun _ => true) (fun _ _ => true) (fun _ _ => true) (fun _ _ => true) (true) (fun _ _ _ _ _ _ => true) (true) (fun _ => true) (true) (fun _ _ _ _ _ => true) (fun _ => true) (true) (fun _ _ _ => true) (true) (fun l _ => false) (fun l _ => false)) v
def cells (v : AV) : OA := (AV.rec (motive := fun _ => AV → OA) (fun _ => none) (fun _ => none) (fun h t _ _ => fun _ => none) (fun _ => fun v => some (.cs v .nl)) (fun _ _ => fun v => some (.cs v .nl)) (fun _ => fun v => some (.cs v .nl)) (fun v => some (.cs v .nl)) (fun _ => fun v => some (.cs v .nl)) (fun _ _ => fun v => some (.cs v .nl)) (fun _ _ => fun v => some (.cs v .nl)) (fun _ _ => fun v => some (.cs v .nl)) (fun v => some (.cs v .nl)) (fun _ _ _ _ _ _ => fun v => some (.cs v .nl)) (fun v => some (.cs v .nl)) (fun _ => fun v => some (.cs v .nl)) (fun v => some (.cs v .nl)) (fun _ _ _ _ _ => fun v => some (.cs v .nl)) (fun _ => fun v => some (.cs v .nl)) (fun v => some (.cs v .nl)) (fun _ _ _ => fun v => some (.cs v .nl)) (fun v => some (.cs v .nl)) (fun l _ => fun _ => some l) (fun l _ => fun _ => none)) v v

def onBool (v : AV) : (Bool → OA) → OA := (AV.rec (motive := fun _ => (Bool → OA) → OA) (fun _ => none) (fun _ => none) (fun _ _ _ _ => fun _ => none) (fun b => fun f => f b) (fun _ _ => fun _ => none) (fun _ => fun _ => none) (fun _ => none) (fun _ => fun _ => none) (fun _ _ => fun _ => none) (fun _ _ => fun _ => none) (fun _ _ => fun _ => none) (fun _ => none) (fun _ _ _ _ _ _ => fun _ => none) (fun _ => none) (fun _ => fun _ => none) (fun _ => none) (fun _ _ _ _ _ => fun _ => none) (fun _ => fun _ => none) (fun _ => none) (fun _ _ _ => fun _ => none) (fun _ => none) (fun _ _ => fun _ => none) (fun _ _ => fun _ => none)) v
def onInt (v : AV) : (IntKind → Int → OA) → OA := (AV.rec (motive := fun _ => (IntKind → Int → OA) → OA) (fun _ => none) (fun _ => none) (fun _ _ _ _ => fun _ => none) (fun _ => fun _ => none) (fun k n => fun f => f k n) (fun _ => fun _ => none) (fun _ => none) (fun _ => fun _ => none) (fun _ _ => fun _ => none) (fun _ _ => fun _ => none) (fun _ _ => fun _ => none) (fun _ => none) (fun _ _ _ _ _ _ => fun _ => none) (fun _ => none) (fun _ => fun _ => none) (fun _ => none) (fun _ _ _ _ _ => fun _ => none) (fun _ => fun _ => none) (fun _ => none) (fun _ _ _ => fun _ => none) (fun _ => none) (fun _ _ => fun _ => none) (fun _ _ => fun _ => none)) v
def onStr (v : AV) : (Nat → Nat → OA) → OA := (AV.rec (motive := fun _ => (Nat → Nat → OA) → OA) (fun _ => none) (fun _ => none) (fun _ _ _ _ => fun _ => none) (fun _ => fun _ => none) (fun _ _ => fun _ => none) (fun _ => fun _ => none) (fun _ => none) (fun _ => fun _ => none) (fun _ _ => fun _ => none) (fun l n => fun f => f l n) (fun _ _ => fun _ => none) (fun _ => none) (fun _ _ _ _ _ _ => fun _ => none) (fun _ => none) (fun _ => fun _ => none) (fun _ => none) (fun _ _ _ _ _ => fun _ => none) (fun _ => fun _ => none) (fun _ => none) (fun _ _ _ => fun _ => none) (fun _ => none) (fun _ _ => fun _ => none) (fun _ _ => fun _ => none)) v
def onTxt (v : AV) : (Nat → Nat → OA) → (Nat → Nat → OA) → OA := (AV.rec (motive := fun _ => (Nat → Nat → OA) → (Nat → Nat → OA) → OA) (fun _ _ => none) (fun _ _ => none) (fun _ _ _ _ => fun _ _ => none) (fun _ => fun _ _ => none) (fun _ _ => fun _ _ => none) (fun _ => fun _ _ => none) (fun _ _ => none) (fun _ => fun _ _ => none) (fun a b => fun _ g => g a b) (fun l n => fun f _ => f l n) (fun _ _ => fun _ _ => none) (fun _ _ => none) (fun _ _ _ _ _ _ => fun _ _ => none) (fun _ _ => none) (fun _ => fun _ _ => none) (fun _ _ => none) (fun _ _ _ _ _ => fun _ _ => none) (fun _ => fun _ _ => none) (fun _ _ => none) (fun _ _ _ => fun _ _ => none) (fun _ _ => none) (fun _ _ => fun _ _ => none) (fun _ _ => fun _ _ => none)) v
def onPtr (v : AV) : (Pth → Nat → OA) → OA := (AV.rec (motive := fun _ => (Pth → Nat → OA) → OA) (fun _ => none) (fun _ => none) (fun _ _ _ _ => fun _ => none) (fun _ => fun _ => none) (fun _ _ => fun _ => none) (fun _ => fun _ => none) (fun _ => none) (fun _ => fun _ => none) (fun _ _ => fun _ => none) (fun _ _ => fun _ => none) (fun p o => fun f => f p o) (fun _ => none) (fun _ _ _ _ _ _ => fun _ => none) (fun _ => none) (fun _ => fun _ => none) (fun _ => none) (fun _ _ _ _ _ => fun _ => none) (fun _ => fun _ => none) (fun _ => none) (fun _ _ _ => fun _ => none) (fun _ => none) (fun _ _ => fun _ => none) (fun _ _ => fun _ => none)) v
def onSlice (v : AV) : (Pth → Nat → Nat → Nat → Bool → Nat → OA) → OA := (AV.rec (motive := fun _ => (Pth → Nat → Nat → Nat → Bool → Nat → OA) → OA) (fun _ => none) (fun _ => none) (fun _ _ _ _ => fun _ => none) (fun _ => fun _ => none) (fun _ _ => fun _ => none) (fun _ => fun _ => none) (fun _ => none) (fun _ => fun _ => none) (fun _ _ => fun _ => none) (fun _ _ => fun _ => none) (fun _ _ => fun _ => none) (fun _ => none) (fun p o l c e k => fun f => f p o l c e k) (fun _ => none) (fun _ => fun _ => none) (fun _ => none) (fun _ _ _ _ _ => fun _ => none) (fun _ => fun _ => none) (fun _ => none) (fun _ _ _ => fun _ => none) (fun _ => none) (fun _ _ => fun _ => none) (fun _ _ => fun _ => none)) v
def onAgg (v : AV) : (AV → OA) → OA := (AV.rec (motive := fun _ => (AV → OA) → OA) (fun _ => none) (fun _ => none) (fun _ _ _ _ => fun _ => none) (fun _ => fun _ => none) (fun _ _ => fun _ => none) (fun _ => fun _ => none) (fun _ => none) (fun _ => fun _ => none) (fun _ _ => fun _ => none) (fun _ _ => fun _ => none) (fun _ _ => fun _ => none) (fun _ => none) (fun _ _ _ _ _ _ => fun _ => none) (fun _ => none) (fun _ => fun _ => none) (fun _ => none) (fun _ _ _ _ _ => fun _ => none) (fun _ => fun _ => none) (fun _ => none) (fun _ _ _ => fun _ => none) (fun _ => none) (fun l _ => fun f => f l) (fun _ _ => fun _ => none)) v
def onTuple (v : AV) : (AV → OA) → OA := (AV.rec (motive := fun _ => (AV → OA) → OA) (fun _ => none) (fun _ => none) (fun _ _ _ _ => fun _ => none) (fun _ => fun _ => none) (fun _ _ => fun _ => none) (fun _ => fun _ => none) (fun _ => none) (fun _ => fun _ => none) (fun _ _ => fun _ => none) (fun _ _ => fun _ => none) (fun _ _ => fun _ => none) (fun _ => none) (fun _ _ _ _ _ _ => fun _ => none) (fun _ => none) (fun _ => fun _ => none) (fun _ => none) (fun _ _ _ _ _ => fun _ => none) (fun _ => fun _ => none) (fun _ => none) (fun _ _ _ => fun _ => none) (fun _ => none) (fun _ _ => fun _ => none) (fun l _ => fun f => f l)) v
/-- A number that is no less than 0. -/
def onNat (v : AV) : (Nat → OA) → OA := (AV.rec (motive := fun _ => (Nat → OA) → OA) (fun _ => none) (fun _ => none) (fun _ _ _ _ => fun _ => none) (fun _ => fun _ => none) (fun k n => (Int.rec (motive := fun _ => (Nat → OA) → OA) (fun n => fun f => f n) (fun _ => fun _ => none)) n) (fun _ => fun _ => none) (fun _ => none) (fun _ => fun _ => none) (fun _ _ => fun _ => none) (fun _ _ => fun _ => none) (fun _ _ => fun _ => none) (fun _ => none) (fun _ _ _ _ _ _ => fun _ => none) (fun _ => none) (fun _ => fun _ => none) (fun _ => none) (fun _ _ _ _ _ => fun _ => none) (fun _ => fun _ => none) (fun _ => none) (fun _ _ _ => fun _ => none) (fun _ => none) (fun _ _ => fun _ => none) (fun _ _ => fun _ => none)) v
def natOf (v : AV) : Option Nat := (AV.rec (motive := fun _ => Option Nat) (none) (none) (fun _ _ _ _ => none) (fun _ => none) (fun k n => (Int.rec (motive := fun _ => Option Nat) (fun n => some n) (fun _ => none)) n) (fun _ => none) (none) (fun _ => none) (fun _ _ => none) (fun _ _ => none) (fun _ _ => none) (none) (fun _ _ _ _ _ _ => none) (none) (fun _ => none) (none) (fun _ _ _ _ _ => none) (fun _ => none) (none) (fun _ _ _ => none) (none) (fun _ _ => none) (fun _ _ => none)) v
def ptrC (v : AV) : (Pth → Nat → CR) → CR := (AV.rec (motive := fun _ => (Pth → Nat → CR) → CR) (fun _ => .fail) (fun _ => .fail) (fun _ _ _ _ => fun _ => .fail) (fun _ => fun _ => .fail) (fun _ _ => fun _ => .fail) (fun _ => fun _ => .fail) (fun _ => .fail) (fun _ => fun _ => .fail) (fun _ _ => fun _ => .fail) (fun _ _ => fun _ => .fail) (fun p o => fun f => f p o) (fun _ => .fail) (fun _ _ _ _ _ _ => fun _ => .fail) (fun _ => .fail) (fun _ => fun _ => .fail) (fun _ => .fail) (fun _ _ _ _ _ => fun _ => .fail) (fun _ => fun _ => .fail) (fun _ => .fail) (fun _ _ _ => fun _ => .fail) (fun _ => .fail) (fun _ _ => fun _ => .fail) (fun _ _ => fun _ => .fail)) v
/-- The kind of a key: number, text, bool. -/
def kd (v : AV) : Nat := (AV.rec (motive := fun _ => Nat) (9) (9) (fun _ _ _ _ => 9) (fun b => 2) (fun k n => 0) (fun _ => 9) (9) (fun _ => 9) (fun _ _ => 9) (fun l n => 1) (fun _ _ => 9) (9) (fun _ _ _ _ _ _ => 9) (9) (fun _ => 9) (9) (fun _ _ _ _ _ => 9) (fun _ => 9) (9) (fun _ _ _ => 9) (9) (fun _ _ => 9) (fun _ _ => 9)) v
def key (s : Nat) (v : AV) : Bool := Nat.beq v.kd s
/-- .. of those that are known by bounds, too. -/
def kdW (v : AV) : Nat := (AV.rec (motive := fun _ => Nat) (9) (9) (fun _ _ _ _ => 9) (fun b => 2) (fun k n => 0) (fun lo => 0) (0) (fun hi => 0) (fun a b => 1) (fun l n => 1) (fun _ _ => 9) (9) (fun _ _ _ _ _ _ => 9) (9) (fun _ => 9) (9) (fun _ _ _ _ _ => 9) (fun _ => 9) (9) (fun _ _ _ => 9) (9) (fun _ _ => 9) (fun _ _ => 9)) v
def keyW (s : Nat) (v : AV) : Bool := Nat.beq v.kdW s
end AV

namespace AB
def onCells (b : AB) : (Nat → TypeId → Nat → Nat → Tr → OA) → OA := (AB.rec (motive := fun _ => (Nat → TypeId → Nat → Nat → Tr → OA) → OA) (fun _ => none) (fun fz e lo hi t => fun f => f fz e lo hi t) (fun _ _ => fun _ => none) (fun _ _ _ => fun _ => none) (fun _ _ _ _ _ _ => fun _ => none)) b
def cellsC (b : AB) : (Nat → TypeId → Nat → Nat → Tr → CR) → CR := (AB.rec (motive := fun _ => (Nat → TypeId → Nat → Nat → Tr → CR) → CR) (fun _ => .fail) (fun fz e lo hi t => fun f => f fz e lo hi t) (fun _ _ => fun _ => .fail) (fun _ _ _ => fun _ => .fail) (fun _ _ _ _ _ _ => fun _ => .fail)) b
end AB

def AO.ev (x : AO) : TV → AV := (AO.rec (motive := fun _ => TV → AV) (fun p => TV.get p) (fun v => fun _ => v)) x
def AOs.ev (x : AOs) : TV → AV := (AOs.rec (motive := fun _ => TV → AV) (fun _ => .nl) (fun x l ih => fun z => .cs (x.ev z) (ih z))) x

/-- If a test holds, a value. -/
def whenA (b : Bool) (v : OA) : OA := Bool.rec none v b
def whenC (b : Bool) (v : CR) : CR := Bool.rec .fail v b

def D : Nat := 5
/-- The path of a block's number. -/
def pth : Nat → Nat → Pth
  | 0, _ => .e
  | l + 1, n =>
    let q := pth l (Nat.div n 8)
    match Nat.mod n 8 with
    | 0 => .c0 q | 1 => .c1 q | 2 => .c2 q | 3 => .c3 q | 4 => .c4 q | 5 => .c5 q | 6 => .c6 q | _ => .c7 q
def bid (n : Nat) : Pth := pth D n

/-! ### Numbers -/
def maxN (k : IntKind) : Nat := (IntKind.rec (motive := fun _ => Nat) (127) (32767) (2147483647) (9223372036854775807) (255) (65535) (4294967295) (18446744073709551615)) k
def kN (k : IntKind) : Nat := (IntKind.rec (motive := fun _ => Nat) (0) (1) (2) (3) (4) (5) (6) (7)) k
def sameK (k k' : IntKind) : Bool := Nat.beq (kN k) (kN k')
/-- A number that is no less than 0, wrapped. -/
def wrapN (k : IntKind) (n : Nat) : Int := Bool.rec (k.wrap (.ofNat n)) (.ofNat n) (Nat.ble n (maxN k))
def addI (k : IntKind) (x y : Int) : Int := (Int.rec (motive := fun _ => IntKind → Int → Int) (fun a => fun k y => (Int.rec (motive := fun _ => IntKind → Nat → Int) (fun b => fun k a => wrapN k (Nat.add a b)) (fun b => fun k a => k.wrap (.ofNat a + .negSucc b))) y k a) (fun a => fun k y => k.wrap (.negSucc a + y))) x k y
def subN (k : IntKind) (a b : Nat) : Int := Bool.rec (k.wrap (Int.negSucc (Nat.pred (Nat.sub b a)))) (wrapN k (Nat.sub a b)) (Nat.ble b a)
def subI (k : IntKind) (x y : Int) : Int := (Int.rec (motive := fun _ => IntKind → Int → Int) (fun a => fun k y => (Int.rec (motive := fun _ => IntKind → Nat → Int) (fun b => fun k a => subN k a b) (fun b => fun k a => k.wrap (.ofNat a - .negSucc b))) y k a) (fun a => fun k y => k.wrap (.negSucc a - y))) x k y
def mulI (k : IntKind) (x y : Int) : Int := (Int.rec (motive := fun _ => IntKind → Int → Int) (fun a => fun k y => (Int.rec (motive := fun _ => IntKind → Nat → Int) (fun b => fun k a => wrapN k (Nat.mul a b)) (fun b => fun k a => k.wrap (.ofNat a * .negSucc b))) y k a) (fun a => fun k y => k.wrap (.negSucc a * y))) x k y
def eqI (x y : Int) : Bool := (Int.rec (motive := fun _ => Int → Bool) (fun a => fun y => (Int.rec (motive := fun _ => Nat → Bool) (fun b => fun a => Nat.beq a b) (fun b => fun _ => false)) y a) (fun a => fun y => (Int.rec (motive := fun _ => Nat → Bool) (fun b => fun _ => false) (fun b => fun a => Nat.beq a b)) y a)) x y
def leI (x y : Int) : Bool := (Int.rec (motive := fun _ => Int → Bool) (fun a => fun y => (Int.rec (motive := fun _ => Nat → Bool) (fun b => fun a => Nat.ble a b) (fun b => fun _ => false)) y a) (fun a => fun y => (Int.rec (motive := fun _ => Nat → Bool) (fun b => fun _ => true) (fun b => fun a => Nat.ble b a)) y a)) x y
def inK (k : IntKind) (a b : Nat) : Bool := Bool.rec false (Nat.ble b (maxN k)) (Nat.ble a (maxN k))
abbrev IOp := IntKind → Int → Int → OA
/-- An operation of two numbers that are no less than 0. -/
def onNats (f : IntKind → Nat → Nat → OA) (k : IntKind) (x y : Int) : OA := (Int.rec (motive := fun _ => Int → (IntKind → Nat → Nat → OA) → IntKind → OA) (fun a => fun y f k => (Int.rec (motive := fun _ => (IntKind → Nat → Nat → OA) → IntKind → Nat → OA) (fun b => fun f k a => f k a b) (fun b => fun _ _ _ => none)) y f k a) (fun a => fun _ _ _ => none)) x y f k
def oAdd : IOp := fun k x y => some (.int k (addI k x y))
def oSub : IOp := fun k x y => some (.int k (subI k x y))
def oMul : IOp := fun k x y => some (.int k (mulI k x y))
def oQuo : IOp := onNats fun k a b => Bool.rec (some (.int k (wrapN k (Nat.div a b)))) none (Nat.beq b 0)
def oRem : IOp := onNats fun k a b => Bool.rec (some (.int k (.ofNat (Nat.mod a b)))) none (Nat.beq b 0)
def oAnd : IOp := onNats fun k a b => whenA (inK k a b) (some (.int k (wrapN k (Nat.land a b))))
def oOr : IOp := onNats fun k a b => whenA (inK k a b) (some (.int k (wrapN k (Nat.lor a b))))
def oXor : IOp := onNats fun k a b => whenA (inK k a b) (some (.int k (wrapN k (Nat.xor a b))))
def oAndNot : IOp := onNats fun k a b => whenA (inK k a b) (some (.int k (wrapN k (Nat.xor a (Nat.land a b)))))
def oEql : IOp := fun _ x y => some (.bool (eqI x y))
def oNeq : IOp := fun _ x y => some (.bool (not (eqI x y)))
def oLss : IOp := fun _ x y => some (.bool (not (leI y x)))
def oLeq : IOp := fun _ x y => some (.bool (leI x y))
def oGtr : IOp := fun _ x y => some (.bool (not (leI x y)))
def oGeq : IOp := fun _ x y => some (.bool (leI y x))
def oNo : IOp := fun _ _ _ => none
def shlU (k : IntKind) (a n : Nat) : Int := (IntKind.rec (motive := fun _ => Nat → Int) (fun m => wrapN .i8 m) (fun m => wrapN .i16 m) (fun m => wrapN .i32 m) (fun m => wrapN .i64 m) (fun m => .ofNat (Nat.mod m 256)) (fun m => .ofNat (Nat.mod m 65536)) (fun m => .ofNat (Nat.mod m 4294967296)) (fun m => .ofNat (Nat.mod m 18446744073709551616))) k (Nat.mul a (Nat.pow 2 n))
def bitsN (k : IntKind) : Nat := (IntKind.rec (motive := fun _ => Nat) (8) (16) (32) (64) (8) (16) (32) (64)) k
def minN (a b : Nat) : Nat := Bool.rec b a (Nat.ble a b)
def oShl : IOp := onNats fun k a b => some (.int k (shlU k a (minN b (bitsN k))))
def oShr : IOp := onNats fun k a b => some (.int k (.ofNat (Nat.div a (Nat.pow 2 (minN b (bitsN k))))))
/-- Of two numbers of one kind (shifts: of any two). -/
def intOp (op : BinOp) : IOp := (BinOp.rec (motive := fun _ => IOp) (oAdd) (oSub) (oMul) (oQuo) (oRem) (oAnd) (oOr) (oXor) (oNo) (oNo) (oAndNot) (oEql) (oNeq) (oLss) (oLeq) (oGtr) (oGeq)) op
def isSh (op : BinOp) : Bool := (BinOp.rec (motive := fun _ => Bool) (false) (false) (false) (false) (false) (false) (false) (false) (true) (true) (false) (false) (false) (false) (false) (false) (false)) op
def shOp (op : BinOp) : IOp := (BinOp.rec (motive := fun _ => IOp) (oNo) (oNo) (oNo) (oNo) (oNo) (oNo) (oNo) (oNo) (oShl) (oShr) (oNo) (oNo) (oNo) (oNo) (oNo) (oNo) (oNo)) op

/-! ### Texts: a text of len bytes is the number whose digits of base 256 they are, the first one the lowest. -/
def byteAt (n i : Nat) : Nat := Nat.mod (Nat.shiftRight n (Nat.mul 8 i)) 256
def subStr (n lo hi : Nat) : AV := .str (Nat.sub hi lo) (Nat.mod (Nat.shiftRight n (Nat.mul 8 lo)) (Nat.pow 2 (Nat.mul 8 (Nat.sub hi lo))))
/-- The first place from i on, among f, where a byte is c. -/
def findB (n c f : Nat) : Nat → Option Nat := Nat.rec (motive := fun _ => Nat → Option Nat) (fun _ => none) (fun _ ih i => Bool.rec (tick ih (Nat.succ i)) (some i) (Nat.beq (byteAt n i) c)) f
/-- Where a text begins in another one. -/
def findS (n q ls len p f : Nat) : Nat → Option Nat := Nat.rec (motive := fun _ => Nat → Option Nat) (fun _ => none) (fun _ ih i => Bool.rec (tick ih (Nat.succ i)) (some i) (Bool.rec false (Nat.beq (Nat.mod (Nat.div n (Nat.pow 2 (Nat.mul 8 i))) p) q) (Nat.ble (Nat.add i ls) len))) f
def countB (n c f : Nat) : Nat → Nat → Nat := Nat.rec (motive := fun _ => Nat → Nat → Nat) (fun _ acc => acc) (fun _ ih i acc => Bool.rec (tick ih (Nat.succ i) acc) (tick ih (Nat.succ i) (Nat.succ acc)) (Nat.beq (byteAt n i) c)) f
/-- The bytes of a text as cells. -/
def bytesL (n f : Nat) : Nat → AV := Nat.rec (motive := fun _ => Nat → AV) (fun _ => .nl) (fun _ ih i => .cs (.int .u8 (.ofNat (byteAt n i))) (ih (Nat.succ i))) f
/-- Cells that are bytes, packed: how many, and the number. -/
def packA (v : AV) : Option (Nat × Nat) := (AV.rec (motive := fun _ => Option (Nat × Nat)) (none) (some (0, 0)) (fun h t ih iht => (AV.rec (motive := fun _ => Option (Nat × Nat) → Option (Nat × Nat)) (fun _ => none) (fun _ => none) (fun _ _ _ _ => fun _ => none) (fun _ => fun _ => none) (fun k n => (IntKind.rec (motive := fun _ => Int → Option (Nat × Nat) → Option (Nat × Nat)) (fun _ _ => none) (fun _ _ => none) (fun _ _ => none) (fun _ _ => none) (fun n r => (Int.rec (motive := fun _ => Option (Nat × Nat) → Option (Nat × Nat)) (fun b => fun r => Bool.rec none (r.map fun q => (Nat.succ q.1, Nat.add b (Nat.mul 256 q.2))) (Nat.ble b 255)) (fun b => fun _ => none)) n r) (fun _ _ => none) (fun _ _ => none) (fun _ _ => none)) k n) (fun _ => fun _ => none) (fun _ => none) (fun _ => fun _ => none) (fun _ _ => fun _ => none) (fun _ _ => fun _ => none) (fun _ _ => fun _ => none) (fun _ => none) (fun _ _ _ _ _ _ => fun _ => none) (fun _ => none) (fun _ => fun _ => none) (fun _ => none) (fun _ _ _ _ _ => fun _ => none) (fun _ => fun _ => none) (fun _ => none) (fun _ _ _ => fun _ => none) (fun _ => none) (fun _ _ => fun _ => none) (fun _ _ => fun _ => none)) h iht) (fun _ => none) (fun _ _ => none) (fun _ => none) (none) (fun _ => none) (fun _ _ => none) (fun _ _ => none) (fun _ _ => none) (none) (fun _ _ _ _ _ _ => none) (none) (fun _ => none) (none) (fun _ _ _ _ _ => none) (fun _ => none) (none) (fun _ _ _ => none) (none) (fun _ _ => none) (fun _ _ => none)) v
def packL : List UInt8 → Nat
  | [] => 0
  | b :: l => Nat.add b.toNat (Nat.mul 256 (packL l))
def packB (s : ByteArray) : AV := .str s.data.toList.length (packL s.data.toList)
abbrev SOp := Nat → Nat → Nat → Nat → OA
def eqS (la a lb b : Nat) : Bool := Bool.rec false (Nat.beq a b) (Nat.beq la lb)
def sAdd : SOp := fun la a lb b => whenA (Nat.ble (Nat.add la lb) 4611686018427387904) (some (.str (Nat.add la lb) (Nat.add a (Nat.mul b (Nat.pow 2 (Nat.mul 8 la))))))
def sEql : SOp := fun la a lb b => some (.bool (eqS la a lb b))
def sNeq : SOp := fun la a lb b => some (.bool (not (eqS la a lb b)))
def sNo : SOp := fun _ _ _ _ => none
def strOp (op : BinOp) : SOp := (BinOp.rec (motive := fun _ => SOp) (sAdd) (sNo) (sNo) (sNo) (sNo) (sNo) (sNo) (sNo) (sNo) (sNo) (sNo) (sEql) (sNeq) (sNo) (sNo) (sNo) (sNo)) op
/-- A rune and its width (as the model's decode). -/
def decodeA (len n i : Nat) : Nat × Nat :=
  let at' (k : Nat) : Nat := byteAt n (i + k)
  let cont (k : Nat) : Bool := i + k < len && at' k / 64 == 2
  let b0 := at' 0
  if b0 / 32 == 6 && cont 1 then
    let c := (b0 % 32) * 64 + at' 1 % 64
    if c ≥ 0x80 then (c, 2) else (Utf8.runeError, 1)
  else if b0 / 16 == 14 && cont 1 && cont 2 then
    let c := (b0 % 16) * 4096 + (at' 1 % 64) * 64 + at' 2 % 64
    if c ≥ 0x800 && Utf8.valid c then (c, 3) else (Utf8.runeError, 1)
  else if b0 / 8 == 30 && cont 1 && cont 2 && cont 3 then
    let c := (b0 % 8) * 262144 + (at' 1 % 64) * 4096 + (at' 2 % 64) * 64 + at' 3 % 64
    if c ≥ 0x10000 && Utf8.valid c then (c, 4) else (Utf8.runeError, 1)
  else (Utf8.runeError, 1)

/-- A number of which only a lower bound is known (a capacity), against another one. -/
abbrev COp := Nat → Nat → OA
def cEql : COp := fun lo b => whenA (Nat.ble (Nat.succ b) lo) (some (.bool false))
def cNeq : COp := fun lo b => whenA (Nat.ble (Nat.succ b) lo) (some (.bool true))
def cLss : COp := fun lo b => whenA (Nat.ble b lo) (some (.bool false))
def cLeq : COp := fun lo b => whenA (Nat.ble (Nat.succ b) lo) (some (.bool false))
def cGtr : COp := fun lo b => whenA (Nat.ble (Nat.succ b) lo) (some (.bool true))
def cGeq : COp := fun lo b => whenA (Nat.ble b lo) (some (.bool true))
def cSub : COp := fun lo b => whenA (Nat.ble b lo) (some (.icap (Nat.sub lo b)))
def cNo : COp := fun _ _ => none
def capOp (op : BinOp) : COp := (BinOp.rec (motive := fun _ => COp) (cNo) (cSub) (cNo) (cNo) (cNo) (cNo) (cNo) (cNo) (cNo) (cNo) (cNo) (cEql) (cNeq) (cLss) (cLeq) (cGtr) (cGeq)) op
def opCap (op : BinOp) : COp := (BinOp.rec (motive := fun _ => COp) (cNo) (cNo) (cNo) (cNo) (cNo) (cNo) (cNo) (cNo) (cNo) (cNo) (cNo) (cEql) (cNeq) (cGtr) (cGeq) (cLss) (cLeq)) op
def isI64 (k : IntKind) : Bool := (IntKind.rec (motive := fun _ => Bool) (false) (false) (false) (true) (false) (false) (false) (false)) k
def binI (op : BinOp) (k : IntKind) (a : Int) (y : AV) : OA := (AV.rec (motive := fun _ => BinOp → IntKind → Int → OA) (fun _ _ _ => none) (fun _ _ _ => none) (fun _ _ _ _ => fun _ _ _ => none) (fun _ => fun _ _ _ => none) (fun k' b => fun op k a => Bool.rec (whenA (sameK k k') (intOp op k a b)) (shOp op k a b) (isSh op)) (fun lo => fun op k a => whenA (isI64 k) ((Int.rec (motive := fun _ => BinOp → Nat → OA) (fun a => fun op lo => opCap op lo a) (fun a => fun _ _ => none)) a op lo)) (fun _ _ _ => none) (fun _ => fun _ _ _ => none) (fun _ _ => fun _ _ _ => none) (fun _ _ => fun _ _ _ => none) (fun _ _ => fun _ _ _ => none) (fun _ _ _ => none) (fun _ _ _ _ _ _ => fun _ _ _ => none) (fun _ _ _ => none) (fun _ => fun _ _ _ => none) (fun _ _ _ => none) (fun _ _ _ _ _ => fun _ _ _ => none) (fun _ => fun _ _ _ => none) (fun _ _ _ => none) (fun _ _ _ => fun _ _ _ => none) (fun _ _ _ => none) (fun _ _ => fun _ _ _ => none) (fun _ _ => fun _ _ _ => none)) y op k a
def binC (op : BinOp) (lo : Nat) (y : AV) : OA := (AV.rec (motive := fun _ => BinOp → Nat → OA) (fun _ _ => none) (fun _ _ => none) (fun _ _ _ _ => fun _ _ => none) (fun _ => fun _ _ => none) (fun k b => fun op lo => whenA (isI64 k) ((Int.rec (motive := fun _ => BinOp → Nat → OA) (fun b => fun op lo => capOp op lo b) (fun b => fun _ _ => none)) b op lo)) (fun _ => fun _ _ => none) (fun _ _ => none) (fun _ => fun _ _ => none) (fun _ _ => fun _ _ => none) (fun _ _ => fun _ _ => none) (fun _ _ => fun _ _ => none) (fun _ _ => none) (fun _ _ _ _ _ _ => fun _ _ => none) (fun _ _ => none) (fun _ => fun _ _ => none) (fun _ _ => none) (fun _ _ _ _ _ => fun _ _ => none) (fun _ => fun _ _ => none) (fun _ _ => none) (fun _ _ _ => fun _ _ => none) (fun _ _ => none) (fun _ _ => fun _ _ => none) (fun _ _ => fun _ _ => none)) y op lo
/-- A number of which only an upper bound is known, against another one. -/
def lGe : COp := fun hi b => whenA (Nat.ble hi b) (some (.bool false))
def lGt : COp := fun hi b => whenA (Nat.ble hi (Nat.succ b)) (some (.bool false))
def lLt : COp := fun hi b => whenA (Nat.ble hi b) (some (.bool true))
def lLe : COp := fun hi b => whenA (Nat.ble hi (Nat.succ b)) (some (.bool true))
def iltOp (op : BinOp) : COp := (BinOp.rec (motive := fun _ => COp) (cNo) (cNo) (cNo) (cNo) (cNo) (cNo) (cNo) (cNo) (cNo) (cNo) (cNo) (cNo) (cNo) (lLt) (lLe) (lGt) (lGe)) op
def binL (op : BinOp) (hi : Nat) (y : AV) : OA := (AV.rec (motive := fun _ => BinOp → Nat → OA) (fun _ _ => none) (fun _ _ => none) (fun _ _ _ _ => fun _ _ => none) (fun _ => fun _ _ => none) (fun k b => fun op hi => whenA (isI64 k) ((Int.rec (motive := fun _ => BinOp → Nat → OA) (fun b => fun op hi => iltOp op hi b) (fun b => fun _ _ => none)) b op hi)) (fun _ => fun _ _ => none) (fun _ _ => none) (fun _ => fun _ _ => none) (fun _ _ => fun _ _ => none) (fun _ _ => fun _ _ => none) (fun _ _ => fun _ _ => none) (fun _ _ => none) (fun _ _ _ _ _ _ => fun _ _ => none) (fun _ _ => none) (fun _ => fun _ _ => none) (fun _ _ => none) (fun _ _ _ _ _ => fun _ _ => none) (fun _ => fun _ _ => none) (fun _ _ => none) (fun _ _ _ => fun _ _ => none) (fun _ _ => none) (fun _ _ => fun _ _ => none) (fun _ _ => fun _ _ => none)) y op hi
/-- Texts of which only bounds are known, joined. -/
def addT (op : BinOp) (v : OA) : OA := (BinOp.rec (motive := fun _ => OA → OA) (fun v => v) (fun _ => none) (fun _ => none) (fun _ => none) (fun _ => none) (fun _ => none) (fun _ => none) (fun _ => none) (fun _ => none) (fun _ => none) (fun _ => none) (fun _ => none) (fun _ => none) (fun _ => none) (fun _ => none) (fun _ => none) (fun _ => none)) op v
def binS (op : BinOp) (l n : Nat) (y : AV) : OA := (AV.rec (motive := fun _ => BinOp → Nat → Nat → OA) (fun _ _ _ => none) (fun _ _ _ => none) (fun _ _ _ _ => fun _ _ _ => none) (fun _ => fun _ _ _ => none) (fun _ _ => fun _ _ _ => none) (fun _ => fun _ _ _ => none) (fun _ _ _ => none) (fun _ => fun _ _ _ => none) (fun a b => fun op l n => addT op (whenA (Nat.ble (Nat.add l b) 4611686018427387904) (some (.text (Nat.add l a) (Nat.add l b))))) (fun l' n' => fun op l n => strOp op l n l' n') (fun _ _ => fun _ _ _ => none) (fun _ _ _ => none) (fun _ _ _ _ _ _ => fun _ _ _ => none) (fun _ _ _ => none) (fun _ => fun _ _ _ => none) (fun _ _ _ => none) (fun _ _ _ _ _ => fun _ _ _ => none) (fun _ => fun _ _ _ => none) (fun _ _ _ => none) (fun _ _ _ => fun _ _ _ => none) (fun _ _ _ => none) (fun _ _ => fun _ _ _ => none) (fun _ _ => fun _ _ _ => none)) y op l n
def binT (op : BinOp) (lo hi : Nat) (y : AV) : OA := (AV.rec (motive := fun _ => BinOp → Nat → Nat → OA) (fun _ _ _ => none) (fun _ _ _ => none) (fun _ _ _ _ => fun _ _ _ => none) (fun _ => fun _ _ _ => none) (fun _ _ => fun _ _ _ => none) (fun _ => fun _ _ _ => none) (fun _ _ _ => none) (fun _ => fun _ _ _ => none) (fun a b => fun op lo hi => addT op (whenA (Nat.ble (Nat.add hi b) 4611686018427387904) (some (.text (Nat.add lo a) (Nat.pred (Nat.add hi b)))))) (fun l' n' => fun op lo hi => addT op (whenA (Nat.ble (Nat.add hi l') 4611686018427387904) (some (.text (Nat.add lo l') (Nat.add hi l'))))) (fun _ _ => fun _ _ _ => none) (fun _ _ _ => none) (fun _ _ _ _ _ _ => fun _ _ _ => none) (fun _ _ _ => none) (fun _ => fun _ _ _ => none) (fun _ _ _ => none) (fun _ _ _ _ _ => fun _ _ _ => none) (fun _ => fun _ _ _ => none) (fun _ _ _ => none) (fun _ _ _ => fun _ _ _ => none) (fun _ _ _ => none) (fun _ _ => fun _ _ _ => none) (fun _ _ => fun _ _ _ => none)) y op lo hi
def binA (op : BinOp) (x y : AV) : OA := (AV.rec (motive := fun _ => BinOp → AV → OA) (fun _ _ => none) (fun _ _ => none) (fun _ _ _ _ => fun _ _ => none) (fun _ => fun _ _ => none) (fun k a => fun op y => binI op k a y) (fun lo => fun op y => binC op lo y) (fun _ _ => none) (fun hi => fun op y => binL op hi y) (fun lo hi => fun op y => binT op lo hi y) (fun l n => fun op y => binS op l n y) (fun _ _ => fun _ _ => none) (fun _ _ => none) (fun _ _ _ _ _ _ => fun _ _ => none) (fun _ _ => none) (fun _ => fun _ _ => none) (fun _ _ => none) (fun _ _ _ _ _ => fun _ _ => none) (fun _ => fun _ _ => none) (fun _ _ => none) (fun _ _ _ => fun _ _ => none) (fun _ _ => none) (fun _ _ => fun _ _ => none) (fun _ _ => fun _ _ => none)) x op y
def unXor (k : IntKind) (n : Int) : OA := (Int.rec (motive := fun _ => IntKind → OA) (fun n => fun k => (IntKind.rec (motive := fun _ => Nat → OA) (fun _ => none) (fun _ => none) (fun _ => none) (fun n => whenA (Nat.ble n 9223372036854775807) (some (.int .i64 (.negSucc n)))) (fun n => whenA (Nat.ble n 255) (some (.int .u8 (.ofNat (Nat.sub 255 n))))) (fun n => whenA (Nat.ble n 65535) (some (.int .u16 (.ofNat (Nat.sub 65535 n))))) (fun n => whenA (Nat.ble n 4294967295) (some (.int .u32 (.ofNat (Nat.sub 4294967295 n))))) (fun n => whenA (Nat.ble n 18446744073709551615) (some (.int .u64 (.ofNat (Nat.sub 18446744073709551615 n)))))) k n) (fun n => fun k => (IntKind.rec (motive := fun _ => Nat → OA) (fun _ => none) (fun _ => none) (fun _ => none) (fun n => whenA (Nat.ble n 9223372036854775807) (some (.int .i64 (.ofNat n)))) (fun _ => none) (fun _ => none) (fun _ => none) (fun _ => none)) k n)) n k
def unA (op : UnOp) (x : AV) : OA := (UnOp.rec (motive := fun _ => AV → OA) (fun x => x.onInt fun k n => some (.int k (subI k (.ofNat 0) n))) (fun x => x.onInt unXor) (fun x => x.onBool fun b => some (.bool (not b))) (fun _ => none)) op x
def cvI (k : IntKind) (x : AV) : OA := x.onInt fun _ n => some (.int k ((Int.rec (motive := fun _ => IntKind → Int) (fun n => fun k => wrapN k n) (fun n => fun k => k.wrap (.negSucc n))) n k))
/-- Same cell? Of numbers, texts, bools alone. -/
def sameC (x y : AV) : Option Bool := (AV.rec (motive := fun _ => AV → Option Bool) (fun _ => none) (fun _ => none) (fun _ _ _ _ => fun _ => none) (fun b => fun y => (AV.rec (motive := fun _ => Bool → Option Bool) (fun _ => none) (fun _ => none) (fun _ _ _ _ => fun _ => none) (fun c => fun b => some (b == c)) (fun _ _ => fun _ => none) (fun _ => fun _ => none) (fun _ => none) (fun _ => fun _ => none) (fun _ _ => fun _ => none) (fun _ _ => fun _ => none) (fun _ _ => fun _ => none) (fun _ => none) (fun _ _ _ _ _ _ => fun _ => none) (fun _ => none) (fun _ => fun _ => none) (fun _ => none) (fun _ _ _ _ _ => fun _ => none) (fun _ => fun _ => none) (fun _ => none) (fun _ _ _ => fun _ => none) (fun _ => none) (fun _ _ => fun _ => none) (fun _ _ => fun _ => none)) y b) (fun k a => fun y => (AV.rec (motive := fun _ => IntKind → Int → Option Bool) (fun _ _ => none) (fun _ _ => none) (fun _ _ _ _ => fun _ _ => none) (fun _ => fun _ _ => none) (fun k' b => fun k a => Bool.rec none (some (eqI a b)) (sameK k k')) (fun _ => fun _ _ => none) (fun _ _ => none) (fun _ => fun _ _ => none) (fun _ _ => fun _ _ => none) (fun _ _ => fun _ _ => none) (fun _ _ => fun _ _ => none) (fun _ _ => none) (fun _ _ _ _ _ _ => fun _ _ => none) (fun _ _ => none) (fun _ => fun _ _ => none) (fun _ _ => none) (fun _ _ _ _ _ => fun _ _ => none) (fun _ => fun _ _ => none) (fun _ _ => none) (fun _ _ _ => fun _ _ => none) (fun _ _ => none) (fun _ _ => fun _ _ => none) (fun _ _ => fun _ _ => none)) y k a) (fun _ => fun _ => none) (fun _ => none) (fun _ => fun _ => none) (fun _ _ => fun _ => none) (fun l n => fun y => (AV.rec (motive := fun _ => Nat → Nat → Option Bool) (fun _ _ => none) (fun _ _ => none) (fun _ _ _ _ => fun _ _ => none) (fun _ => fun _ _ => none) (fun _ _ => fun _ _ => none) (fun _ => fun _ _ => none) (fun _ _ => none) (fun _ => fun _ _ => none) (fun _ _ => fun _ _ => none) (fun l' n' => fun l n => some (eqS l n l' n')) (fun _ _ => fun _ _ => none) (fun _ _ => none) (fun _ _ _ _ _ _ => fun _ _ => none) (fun _ _ => none) (fun _ => fun _ _ => none) (fun _ _ => none) (fun _ _ _ _ _ => fun _ _ => none) (fun _ => fun _ _ => none) (fun _ _ => none) (fun _ _ _ => fun _ _ => none) (fun _ _ => none) (fun _ _ => fun _ _ => none) (fun _ _ => fun _ _ => none)) y l n) (fun _ _ => fun _ => none) (fun _ => none) (fun _ _ _ _ _ _ => fun _ => none) (fun _ => none) (fun _ => fun _ => none) (fun _ => none) (fun _ _ _ _ _ => fun _ => none) (fun _ => fun _ => none) (fun _ => none) (fun _ _ _ => fun _ => none) (fun _ => none) (fun _ _ => fun _ => none) (fun _ _ => fun _ => none)) x y
/-- Are the cells at some places the same, of some kinds? -/
def sameOffs (a b : AV) : List (Nat × Nat) → Option Bool
  | [] => some true
  | (o, s) :: l => bif (a.nth o).key s && (b.nth o).key s then match sameC (a.nth o) (b.nth o) with
      | some true => sameOffs a b l
      | some false => some false
      | none => none
    else none
/-- Is it nil? -/
def isNil (v : AV) : Option Bool := (AV.rec (motive := fun _ => Option Bool) (none) (none) (fun _ _ _ _ => none) (fun _ => none) (fun _ _ => none) (fun _ => none) (none) (fun _ => none) (fun _ _ => none) (fun _ _ => none) (fun p o => some false) (some true) (fun p o l c e k => some false) (some true) (fun p => some false) (some true) (fun f a b _ _ => some false) (fun p => some false) (some true) (fun t v _ => some false) (some true) (fun _ _ => none) (fun _ _ => none)) v
/-- Which sort of thing may be nil. -/
def nilSort (v : AV) : Nat := (AV.rec (motive := fun _ => Nat) (0) (0) (fun _ _ _ _ => 0) (fun _ => 0) (fun _ _ => 0) (fun _ => 0) (0) (fun _ => 0) (fun _ _ => 0) (fun _ _ => 0) (fun p o => 1) (1) (fun p o l c e k => 2) (2) (fun p => 3) (3) (fun f a b _ _ => 4) (fun p => 4) (4) (fun t v _ => 5) (5) (fun _ _ => 0) (fun _ _ => 0)) v
def Pth.beq : Pth → Pth → Bool
  | .e, .e => true
  | .c0 p, .c0 q | .c1 p, .c1 q | .c2 p, .c2 q | .c3 p, .c3 q | .c4 p, .c4 q | .c5 p, .c5 q | .c6 p, .c6 q | .c7 p, .c7 q => p.beq q
  | _, _ => false
/-- Equality where one side is nil, or both are places of one block. -/
def eqNil (s : Nat) (x y : AV) : Option Bool :=
  bif Nat.beq (nilSort x) s && Nat.beq (nilSort y) s then
    match isNil x, isNil y with
    | some true, some b => some b
    | some false, some true => some false
    | _, _ => match x, y with
      | .ptr p a, .ptr q b => bif p.beq q then some (Nat.beq a b) else none
      | _, _ => none
  else none
def neg (n : Bool) (b : Bool) : AV := .bool (Bool.rec b (not b) n)

def optNat (x : Option AO) (d : Nat) (z : TV) : Option Nat :=
  match x with
  | none => some d
  | some x => (x.ev z).natOf
def APs.fill (l : APs) (z : TV) (acc : AV) : OA :=
  match l with
  | .nil => some acc
  | .cons off n x l => match (x.ev z).cells with
    | some c => bif Nat.beq c.len n && Nat.ble (Nat.add off n) acc.len then l.fill z (acc.seg off c) else none
    | none => none
def cellTr (v : AV) : Option (Nat × Tr) := (AV.rec (motive := fun _ => AV → Option (Nat × Tr)) (fun _ => none) (fun _ => none) (fun h t _ _ => fun _ => none) (fun _ => fun v => some (1, .node v .leaf .leaf)) (fun _ _ => fun v => some (1, .node v .leaf .leaf)) (fun _ => fun v => some (1, .node v .leaf .leaf)) (fun v => some (1, .node v .leaf .leaf)) (fun _ => fun v => some (1, .node v .leaf .leaf)) (fun _ _ => fun v => some (1, .node v .leaf .leaf)) (fun _ _ => fun v => some (1, .node v .leaf .leaf)) (fun _ _ => fun v => some (1, .node v .leaf .leaf)) (fun v => some (1, .node v .leaf .leaf)) (fun _ _ _ _ _ _ => fun v => some (1, .node v .leaf .leaf)) (fun v => some (1, .node v .leaf .leaf)) (fun _ => fun v => some (1, .node v .leaf .leaf)) (fun v => some (1, .node v .leaf .leaf)) (fun _ _ _ _ _ => fun v => some (1, .node v .leaf .leaf)) (fun _ => fun v => some (1, .node v .leaf .leaf)) (fun v => some (1, .node v .leaf .leaf)) (fun _ _ _ => fun v => some (1, .node v .leaf .leaf)) (fun v => some (1, .node v .leaf .leaf)) (fun l _ => fun _ => some (l.len, Tr.sets l 0 .leaf)) (fun l _ => fun _ => none)) v v

/-! ### Operations that make nothing and change nothing -/
/-- The cells behind a place. -/
def cellsAt (h : TB) (id : Pth) (off n : Nat) : OA := (h.get id).onCells fun _ _ lo hi t => whenA (Nat.ble lo off && Nat.ble (Nat.add off n) hi) (some (cellsOf t n off))
def ME.isNil : ME → Bool
  | .nil => true
  | .cons _ _ _ _ => false
def ME.find (k : AV) : ME → Option OA
  | .nil => some none
  | .cons k' v _ l => match sameC k k' with
    | some true => some (some v)
    | some false => l.find k
    | none => none
def ME.has (k : AV) : ME → Option (Option Nat)
  | .nil => some none
  | .cons k' _ b l => match sameC k k' with
    | some true => some (some b)
    | some false => l.has k
    | none => none
def ME.put (k v : AV) (b : Nat) : ME → ME
  | .nil => .cons k v b .nil
  | .cons k' v' b' l => match sameC k k' with
    | some true => .cons k v b' l
    | _ => .cons k' v' b' (l.put k v b)
def ME.len : ME → Nat
  | .nil => 0
  | .cons _ _ _ l => l.len + 1
def mm2 (isMax : Bool) (x y : AV) : OA := x.onInt fun k a => y.onInt fun _ b => some (.int k (Bool.rec (Bool.rec b a (leI a b)) (Bool.rec b a (leI b a)) isMax))
def mmL (isMax : Bool) (x : AV) : AV → OA
  | .nl => some x
  | .cs y l => match mm2 isMax x y with
    | some v => mmL isMax v l
    | none => none
  | _ => none
/-- Does a table hold a type and an offset, for blocks of enough cells? -/
def tabHas : List (TypeId × Nat × Nat) → TypeId → Nat → Nat → Bool
  | [], _, _, _ => false
  | (e', off', n) :: l, e, off, hi => bif Nat.beq e e' && (Nat.beq off off' && Nat.ble n hi) then true else tabHas l e off hi

def pPick (c a b : AO) (z : TV) (h : TB) : OA := (AV.rec (motive := fun _ => AO → AO → TV → OA) (fun _ _ _ => none) (fun _ _ _ => none) (fun _ _ _ _ => fun _ _ _ => none) (fun t => fun a b z => some (Bool.rec (b.ev z) (a.ev z) t)) (fun _ _ => fun _ _ _ => none) (fun _ => fun _ _ _ => none) (fun _ _ _ => none) (fun _ => fun _ _ _ => none) (fun _ _ => fun _ _ _ => none) (fun _ _ => fun _ _ _ => none) (fun _ _ => fun _ _ _ => none) (fun _ _ _ => none) (fun _ _ _ _ _ _ => fun _ _ _ => none) (fun _ _ _ => none) (fun _ => fun _ _ _ => none) (fun _ _ _ => none) (fun _ _ _ _ _ => fun _ _ _ => none) (fun _ => fun _ _ _ => none) (fun _ _ _ => none) (fun _ _ _ => fun _ _ _ => none) (fun _ _ _ => none) (fun _ _ => fun _ _ _ => none) (fun _ _ => fun _ _ _ => none)) (c.ev z) a b z
def pLd1 (x : AO) (z : TV) (h : TB) : OA := (x.ev z).onPtr fun id off => (h.get id).onCells fun _ _ lo hi t => whenA (Nat.ble lo off && Nat.ble (Nat.succ off) hi) (some (t.get off))
def pLdn (n : Nat) (x : AO) (z : TV) (h : TB) : OA := (x.ev z).onPtr fun id off => (cellsAt h id off n).map .agg
def pNilck (x : AO) (z : TV) (h : TB) : OA := (AV.rec (motive := fun _ => AV → OA) (fun _ => none) (fun _ => none) (fun _ _ _ _ => fun _ => none) (fun _ => fun _ => none) (fun _ _ => fun _ => none) (fun _ => fun _ => none) (fun _ => none) (fun _ => fun _ => none) (fun _ _ => fun _ => none) (fun _ _ => fun _ => none) (fun id off => some) (fun _ => none) (fun _ _ _ _ _ _ => fun _ => none) (fun _ => none) (fun _ => fun _ => none) (fun _ => none) (fun f a b _ _ => some) (fun id => some) (fun _ => none) (fun _ _ _ => fun _ => none) (fun _ => none) (fun _ _ => fun _ => none) (fun _ _ => fun _ => none)) (x.ev z) (x.ev z)
def pEqbool (n : Bool) (x y : AO) (z : TV) (h : TB) : OA := (x.ev z).onBool fun a => (y.ev z).onBool fun b => some (neg n (a == b))
def pEqagg (offs : List (Nat × Nat)) (n : Bool) (x y : AO) (z : TV) (h : TB) : OA := (x.ev z).onAgg fun a => (y.ev z).onAgg fun b => (sameOffs a b offs).map (neg n)
def pCvs (x : AO) (z : TV) (h : TB) : OA := (x.ev z).onStr fun l n => some (.str l n)
def pB2s (x : AO) (z : TV) (h : TB) : OA :=
  match x.ev z with
  | .nilslice => some (.str 0 0)
  | .slice id off len _ _ k => bif Nat.beq k 1 then bif Nat.beq len 0 then some (.str 0 0) else match cellsAt h id off len with
    | some c => (packA c).map fun q => .str q.1 q.2
    | none => none
    else none
  | _ => none
def pCvp0 (x : AO) (z : TV) (h : TB) : OA :=
  match x.ev z with
  | .nilptr => some .nilptr
  | .ptr id off => (h.get id).onCells fun _ _ lo hi _ => whenA (Nat.ble lo off && Nat.ble (Nat.succ off) hi) (some (.ptr id off))
  | _ => none
def pCvp1 (tab : List (TypeId × Nat × Nat)) (x : AO) (z : TV) (h : TB) : OA :=
  match x.ev z with
  | .nilptr => some .nilptr
  | .ptr id off => (h.get id).onCells fun _ e lo hi _ => whenA (Nat.beq lo 0 && tabHas tab e off hi) (some (.ptr id off))
  | _ => none
def slStr (lo hi : Option AO) (z : TV) (len n : Nat) : OA :=
  match optNat hi len z with
  | none => none
  | some u => match optNat lo 0 z with
    | none => none
    | some l => whenA (Nat.ble l u && Nat.ble u len) (some (subStr n l u))
def slTxt (lo hi : Option AO) (z : TV) (a b : Nat) : OA :=
  match lo with
  | some _ => none
  | none => match hi with
    | none => none
    | some y => (y.ev z).onNat fun u => whenA (Nat.ble u a) (some (.text u (Nat.succ u)))
def pSlstr (x : AO) (lo hi : Option AO) (z : TV) (h : TB) : OA := (x.ev z).onTxt (slStr lo hi z) (slTxt lo hi z)
def pSlsl (k : Nat) (x : AO) (lo hi mx : Option AO) (z : TV) (h : TB) : OA :=
  match x.ev z with
  | .nilslice => match optNat lo 0 z, optNat hi 0 z, optNat mx 0 z with
    | some l, some u, some m => whenA ((mx.isNone || hi.isSome) && (Nat.beq l 0 && (Nat.beq u 0 && Nat.beq m 0))) (some .nilslice)
    | _, _, _ => none
  | .slice id off len c ex k' =>
    match mx with
    | none => match optNat hi len z with
      | none => none
      | some u => match optNat lo 0 z with
        | none => none
        | some l => whenA (Nat.beq k k' && (Nat.ble l u && Nat.ble u c)) (some (.slice id (Nat.add off (Nat.mul l k)) (Nat.sub u l) (Nat.sub c l) ex k))
    | some m => match (m.ev z).natOf, hi, optNat lo 0 z with
      | some m, some u, some l => match (u.ev z).natOf with
        | some u => whenA (Nat.beq k k' && (Nat.ble l u && (Nat.ble u m && Nat.ble m c))) (some (.slice id (Nat.add off (Nat.mul l k)) (Nat.sub u l) (Nat.sub m l) true k))
        | none => none
      | _, _, _ => none
  | _ => none
def pSlarr (n k : Nat) (x : AO) (lo hi : Option AO) (z : TV) (h : TB) : OA := (x.ev z).onPtr fun id off =>
  match optNat hi n z with
  | none => none
  | some u => match optNat lo 0 z with
    | none => none
    | some l => (h.get id).onCells fun _ _ lo' hi' _ => whenA (Nat.ble l u && (Nat.ble u n && (Nat.ble lo' off && Nat.ble (Nat.add off (Nat.mul n k)) hi')))
        (some (.slice id (Nat.add off (Nat.mul l k)) (Nat.sub u l) (Nat.sub n l) true k))
def pFaddr (f : Nat) (x : AO) (z : TV) (h : TB) : OA := (x.ev z).onPtr fun id off => some (.ptr id (Nat.add off f))
def partA (l : AV) (off n : Nat) (agg : Bool) : AV := Bool.rec (l.nth off) (.agg ((l.drop off).take n)) agg
def pField (off n : Nat) (agg : Bool) (x : AO) (z : TV) (h : TB) : OA := (x.ev z).onAgg fun l => whenA (Nat.ble (Nat.add off n) l.len) (some (partA l off n agg))
def pIaarr (n k : Nat) (x i : AO) (z : TV) (h : TB) : OA := (x.ev z).onPtr fun id off => (i.ev z).onNat fun i => whenA (Nat.ble (Nat.succ i) n) (some (.ptr id (Nat.add off (Nat.mul i k))))
def pIasl (k : Nat) (x i : AO) (z : TV) (h : TB) : OA := (x.ev z).onSlice fun id off len _ _ k' => (i.ev z).onNat fun i => whenA (Nat.ble (Nat.succ i) len && Nat.beq k k') (some (.ptr id (Nat.add off (Nat.mul i k))))
def pIxarr (n k : Nat) (agg : Bool) (x i : AO) (z : TV) (h : TB) : OA := (x.ev z).onAgg fun l => (i.ev z).onNat fun i => whenA (Nat.ble (Nat.succ i) n && Nat.ble (Nat.mul n k) l.len) (some (partA l (Nat.mul i k) k agg))
def pIxstr (x i : AO) (z : TV) (h : TB) : OA := (x.ev z).onStr fun len n => (i.ev z).onNat fun i => whenA (Nat.ble (Nat.succ i) len) (some (.int .u8 (.ofNat (byteAt n i))))
def okA (ok : Bool) (v : AV) (t : Bool) : AV := Bool.rec v (.tuple (.cs v (.cs (.bool t) .nl))) ok
def pLookup (kd : Nat) (w : AV) (x i : AO) (ok : Bool) (z : TV) (h : TB) : OA :=
  match x.ev z with
  | .nilmap => whenA ((i.ev z).keyW kd) (some (okA ok w false))
  | .map id => whenA ((i.ev z).keyW kd) (match h.get id with
    | .map es _ => bif (i.ev z).key kd || es.isNil then match es.find (i.ev z) with
      | some (some v) => some (okA ok v true)
      | some none => some (okA ok w false)
      | none => none
      else none
    | _ => none)
  | _ => none
def pExtract (x : AO) (i : Nat) (z : TV) (h : TB) : OA := (x.ev z).onTuple fun l => whenA (Nat.ble (Nat.succ i) l.len) (some (l.nth i))
def lenV (n : Nat) : OA := some (.int .i64 (.ofNat n))
/-- How long a text is of which only bounds are known. -/
def lenT (lo hi : Nat) : OA := Bool.rec (whenA (Nat.ble hi 9223372036854775808) (some (.icap lo))) (some (.ilt hi)) (Nat.ble hi 70001)
def pLen (s : Nat) (x : AO) (z : TV) (h : TB) : OA := (AV.rec (motive := fun _ => Nat → TB → OA) (fun _ _ => none) (fun _ _ => none) (fun _ _ _ _ => fun _ _ => none) (fun _ => fun _ _ => none) (fun _ _ => fun _ _ => none) (fun _ => fun _ _ => none) (fun _ _ => none) (fun _ => fun _ _ => none) (fun lo hi => fun s _ => whenA (Nat.beq s 0) (lenT lo hi)) (fun l n => fun s _ => whenA (Nat.beq s 0) (lenV l)) (fun _ _ => fun _ _ => none) (fun _ _ => none) (fun p o l c e k => fun s _ => whenA (Nat.beq s 1) (lenV l)) (fun s _ => whenA (Nat.beq s 1) (lenV 0)) (fun id => fun s h => whenA (Nat.beq s 2) ((AB.rec (motive := fun _ => OA) (none) (fun _ _ _ _ _ => none) (fun es c => lenV es.len) (fun _ _ _ => none) (fun _ _ _ _ _ _ => none)) (h.get id))) (fun s _ => whenA (Nat.beq s 2) (lenV 0)) (fun _ _ _ _ _ => fun _ _ => none) (fun _ => fun _ _ => none) (fun _ _ => none) (fun _ _ _ => fun _ _ => none) (fun _ _ => none) (fun _ _ => fun _ _ => none) (fun _ _ => fun _ _ => none)) (x.ev z) s h
def pCap (x : AO) (z : TV) (h : TB) : OA :=
  match x.ev z with
  | .slice _ _ _ c ex _ => some (Bool.rec (.icap c) (.int .i64 (.ofNat c)) ex)
  | .nilslice => some (.int .i64 (.ofNat 0))
  | _ => none
def pUsd (x : AO) (z : TV) (h : TB) : OA :=
  match x.ev z with
  | .nilslice => some .nilptr
  | .slice id off _ c _ _ => whenA (Nat.ble 1 c) (some (.ptr id off))
  | _ => none

/-- Operations that only look. -/
def pev (o : AOp) (z : TV) (h : TB) : OA :=
  match o with
  | .mv x => some (x.ev z)
  | .pick c a b => pPick c a b z h
  | .build w l => (l.fill z w).map .agg
  | .ld1 x => pLd1 x z h
  | .ldn n x => pLdn n x z h
  | .nilck x => pNilck x z h
  | .bin op x y => binA op (x.ev z) (y.ev z)
  | .eqnil s n x y => (eqNil s (x.ev z) (y.ev z)).map (neg n)
  | .eqbool n x y => pEqbool n x y z h
  | .eqagg l n x y => pEqagg l n x y z h
  | .un op x => unA op (x.ev z)
  | .cvi k x => cvI k (x.ev z)
  | .cvs x => pCvs x z h
  | .b2s x => pB2s x z h
  | .cvp0 x => pCvp0 x z h
  | .cvp1 tab x => pCvp1 tab x z h
  | .mkif t x => some (.iface t (x.ev z))
  | .mkfunc f a b => some (.func f (a.ev z) (b.ev z))
  | .slstr x lo hi => pSlstr x lo hi z h
  | .slsl k x lo hi mx => pSlsl k x lo hi mx z h
  | .slarr n k x lo hi => pSlarr n k x lo hi z h
  | .faddr f x => pFaddr f x z h
  | .field off n agg x => pField off n agg x z h
  | .iaarr n k x i => pIaarr n k x i z h
  | .iasl k x i => pIasl k x i z h
  | .ixarr n k agg x i => pIxarr n k agg x i z h
  | .ixstr x i => pIxstr x i z h
  | .lookup s w x i ok => pLookup s w x i ok z h
  | .extract x i => pExtract x i z h
  | .lenc n => some (.int .i64 (.ofNat n))
  | .len s x => pLen s x z h
  | .cap x => pCap x z h
  | .mm m x l => mmL m (x.ev z) (l.ev z)
  | .usd x => pUsd x z h
  | _ => none

/-- Operations that make one block: the value, by the block's name, and the block. -/
def fBox (elem : TypeId) (x : AO) (z : TV) (id : Pth) : Option (AV × AB) := (cellTr (x.ev z)).map fun q => (.ptr id 0, .cells 1 elem 0 q.1 q.2)
def fBslice (elem : TypeId) (k len : Nat) (w : AV) (l : APs) (z : TV) (id : Pth) : Option (AV × AB) := (l.fill z w).map fun c => (.slice id 0 len len true k, .cells 1 elem 0 (Nat.mul len k) (Tr.sets c 0 .leaf))
def fS2b (elem : TypeId) (x : AO) (z : TV) (id : Pth) : Option (AV × AB) :=
  match x.ev z with
  | .str len n => bif Nat.ble len 4611686018427387904 then some (.slice id 0 len len false 1, .cells 0 elem 0 len (Tr.sets (bytesL n len 0) 0 .leaf)) else none
  | _ => none
def fMkslice (elem : TypeId) (k bytes : Nat) (w : AV) (l c : AO) (z : TV) (id : Pth) : Option (AV × AB) :=
  match (l.ev z).natOf, (c.ev z).natOf with
  | some l, some c => bif Nat.ble l c && Nat.ble (Nat.mul c (Nat.succ bytes)) 281474976710656 then some (.slice id 0 l c true k, .cells 1 elem 0 (Nat.mul c k) (Tr.sets (w.reps c) 0 .leaf)) else none
  | _, _ => none
def fRng (x : AO) (z : TV) (id : Pth) : Option (AV × AB) :=
  match x.ev z with
  | .str len n => some (.ptr id 0, .siter len n 0)
  | _ => none
def fev (o : AOp) (z : TV) (id : Pth) : Option (AV × AB) :=
  match o with
  | .alloc elem n t => some (.ptr id 0, .cells 1 elem 0 n t)
  | .box elem x => fBox elem x z id
  | .bslice elem k len w l => fBslice elem k len w l z id
  | .s2b elem x => fS2b elem x z id
  | .mkmap => some (.map id, .map .nil 0)
  | .mkslice elem k bytes w l c => fMkslice elem k bytes w l c z id
  | .rng x => fRng x z id
  | _ => none

/-- An append of n elements (their cells c) to a slice. -/
def append1 (elem k bytes : Nat) (s : AV) (n : Nat) (c : AV) (h : TB) (nx : Nat) : CR :=
  bif Nat.beq n 0 then
    match s with
    | .nilslice => .ok s h nx
    | .slice .. => .ok s h nx
    | _ => .fail
  else
  match s with
  | .nilslice => bif Nat.ble (Nat.mul (Nat.add (Nat.mul 2 n) 192) bytes) 281474976710656 && (Nat.ble 1 bytes && Nat.ble nx 32767) then
      .ok (.slice (bid nx) 0 n n false k) (TB.set (bid nx) (.cells 1 elem 0 (Nat.mul n k) (Tr.sets c 0 .leaf)) h) (Nat.succ nx) else .fail
  | .slice id off len cp ex k' =>
    match h.get id with
    | .cells fz elem' lo hi t =>
      let need := Nat.add len n
      let from' := Nat.add off (Nat.mul len k)
      let upto := Nat.add off (Nat.mul need k)
      bif Nat.beq k k' && (Nat.ble lo off && (Nat.ble from' hi && (Nat.ble (Nat.mul (Nat.add (Nat.mul 2 need) 192) bytes) 281474976710656 && (Nat.ble 1 bytes && (Nat.ble nx 32767 && Nat.ble 1 k))))) then
        bif Nat.ble need cp then
          bif Nat.ble fz (Nat.succ from') then .ok (.slice id off need cp ex k) (TB.set id (.cells fz elem' lo (bif Nat.ble hi upto then upto else hi) (Tr.sets c from' t)) h) nx else .fail
        else bif ex then
          .ok (.slice (bid nx) off need need false k) (TB.set (bid nx) (.cells 1 elem off upto (Tr.sets c from' t)) h) (Nat.succ nx)
        else bif Nat.ble fz (Nat.succ from') && Nat.beq elem elem' then
          .ok (.slice (bid nx) off need need false k) (TB.set (bid nx) (.cells fz elem off upto (Tr.sets c from' t)) (TB.set id .dead h)) (Nat.succ nx)
        else .fail
      else .fail
    | _ => .fail
  | _ => .fail

/-- Cells are stored into a block. -/
def put (h : TB) (id : Pth) (off : Nat) (c : AV) (v : AV) (nx : Nat) : CR := (h.get id).cellsC fun fz elem lo hi t =>
  whenC (Nat.ble lo off && (Nat.ble fz (Nat.succ off) && Nat.ble (Nat.add off c.len) hi)) (.ok v (TB.set id (.cells fz elem lo hi (Tr.sets c off t)) h) nx)

def eSt (n : Nat) (a x : AO) (z : TV) (h : TB) (nx : Nat) : CR := (a.ev z).ptrC fun id off => Option.rec .fail (fun c => whenC (Nat.beq c.len n) (put h id off c (.tuple .nl) nx)) (x.ev z).cells
/-- A map without a key. -/
def ME.del (k : AV) : ME → Option ME
  | .nil => some .nil
  | .cons k' v b l => match sameC k k' with
    | some true => some l
    | some false => match l.del k with
      | some l' => some (.cons k' v b l')
      | none => none
    | none => none
def eDel (s : Nat) (m k : AO) (z : TV) (h : TB) (nx : Nat) : CR :=
  match m.ev z with
  | .nilmap => bif (k.ev z).key s then .ok (.tuple .nl) h nx else .fail
  | .map id => bif (k.ev z).key s then match h.get id with
    | .map es clock => match es.del (k.ev z) with
      | some es' => .ok (.tuple .nl) (TB.set id (.map es' clock) h) nx
      | none => .fail
    | _ => .fail
    else .fail
  | _ => .fail
def eMapupd (kd : Nat) (m k v : AO) (z : TV) (h : TB) (nx : Nat) : CR :=
  match m.ev z with
  | .map id => bif (k.ev z).key kd then match h.get id with
    | .map es clock => match es.has (k.ev z) with
      | some (some _) => .ok (.tuple .nl) (TB.set id (.map (es.put (k.ev z) (v.ev z) clock) clock) h) nx
      | some none => .ok (.tuple .nl) (TB.set id (.map (es.put (k.ev z) (v.ev z) clock) (Nat.succ clock)) h) nx
      | none => .fail
    | _ => .fail
    else .fail
  | _ => .fail
def eNext (x : AO) (z : TV) (h : TB) (nx : Nat) : CR :=
  match x.ev z with
  | .ptr id off => bif Nat.beq off 0 then match h.get id with
    | .siter len n pos => bif Nat.ble (Nat.succ pos) len then
        bif Nat.ble (byteAt n pos) 127 then .ok (.tuple (.cs (.bool true) (.cs (.int .i64 (.ofNat pos)) (.cs (.int .i32 (.ofNat (byteAt n pos))) .nl)))) (TB.set id (.siter len n (Nat.succ pos)) h) nx
        else .ok (.tuple (.cs (.bool true) (.cs (.int .i64 (.ofNat pos)) (.cs (.int .i32 (.ofNat (decodeA len n pos).1)) .nl)))) (TB.set id (.siter len n (Nat.add pos (decodeA len n pos).2)) h) nx
      else .ok (.tuple (.cs (.bool false) .nl)) h nx
    | _ => .fail
    else .fail
  | _ => .fail
def eAppend (elem k bytes : Nat) (s x : AO) (z : TV) (h : TB) (nx : Nat) : CR :=
  match x.ev z with
  | .str l n => bif Nat.beq k 1 then append1 elem k bytes (s.ev z) l (bytesL n l 0) h nx else .fail
  | .nilslice => append1 elem k bytes (s.ev z) 0 .nl h nx
  | .slice id off len _ _ k' => bif Nat.beq k k' then
      bif Nat.beq len 0 then append1 elem k bytes (s.ev z) 0 .nl h nx else
      match cellsAt h id off (Nat.mul len k) with
      | some c => append1 elem k bytes (s.ev z) len c h nx
      | none => .fail
    else .fail
  | _ => .fail
/-- An append of n elements that are zero. -/
def eAppz (elem k bytes : Nat) (w : AV) (s x : AO) (z : TV) (h : TB) (nx : Nat) : CR :=
  match x.ev z with
  | .int _ (.ofNat n) => bif Nat.ble n 9223372036854775807 && (Nat.ble (Nat.mul n bytes) 281474976710656 && Nat.beq w.len k) then append1 elem k bytes (s.ev z) n (w.reps n) h nx else .fail
  | _ => .fail
def eCopy (k : Nat) (d s : AO) (z : TV) (h : TB) (nx : Nat) : CR :=
  match d.ev z with
  | .nilslice => match s.ev z with
    | .nilslice | .slice .. | .str .. => .ok (.int .i64 (.ofNat 0)) h nx
    | _ => .fail
  | .slice id off len _ _ k' => bif Nat.beq k k' then
      match s.ev z with
      | .nilslice => .ok (.int .i64 (.ofNat 0)) h nx
      | .str l n => bif Nat.beq k 1 then bif Nat.beq (minN l len) 0 then .ok (.int .i64 (.ofNat 0)) h nx else put h id off (bytesL n (minN l len) 0) (.int .i64 (.ofNat (minN l len))) nx else .fail
      | .slice id' off' len' _ _ k'' => bif Nat.beq k k'' then
          bif Nat.beq (minN len' len) 0 then .ok (.int .i64 (.ofNat 0)) h nx else
          match cellsAt h id' off' (Nat.mul (minN len' len) k) with
          | some c => put h id off c (.int .i64 (.ofNat (minN len' len))) nx
          | none => .fail
        else .fail
      | _ => .fail
    else .fail
  | _ => .fail
def eClear (w : AV) (x : AO) (z : TV) (h : TB) (nx : Nat) : CR :=
  match x.ev z with
  | .nilslice | .nilmap => .ok (.tuple .nl) h nx
  | .slice id off len _ _ k => bif Nat.beq len 0 then .ok (.tuple .nl) h nx else bif Nat.beq w.len k then put h id off (w.reps len) (.tuple .nl) nx else .fail
  | .map id => match h.get id with
    | .map _ clock => .ok (.tuple .nl) (TB.set id (.map .nil clock) h) nx
    | _ => .fail
  | _ => .fail
def eUstr (elem : TypeId) (p n : AO) (z : TV) (h : TB) (nx : Nat) : CR :=
  match p.ev z, (n.ev z).natOf with
  | .nilptr, some n => bif Nat.beq n 0 then .ok (.str 0 0) h nx else .fail
  | .ptr id off, some n => bif Nat.beq n 0 then .ok (.str 0 0) h nx else
    match h.get id with
    | .cells fz elem' lo hi t => bif Nat.beq elem elem' && (Nat.ble lo off && (Nat.ble (Nat.add off n) hi && (Nat.ble 1 fz && (Nat.ble (Nat.succ fz) 18446744073709551616 && Nat.ble n 9223372036854775807)))) then match packA (cellsOf t n off) with
      | some q => .ok (.str q.1 q.2) (TB.set id (.cells (bif Nat.ble fz (Nat.succ (Nat.add off n)) then Nat.succ (Nat.add off n) else fz) elem' lo hi t) h) nx
      | none => .fail
      else .fail
    | _ => .fail
  | _, _ => .fail

/-- Operations that act, calls apart. -/
def eev (o : AOp) (z : TV) (h : TB) (nx : Nat) : CR :=
  match o with
  | .st n a x => eSt n a x z h nx
  | .mapupd s m k v => eMapupd s m k v z h nx
  | .del s m k => eDel s m k z h nx
  | .next x => eNext x z h nx
  | .append elem k bytes s x => eAppend elem k bytes s x z h nx
  | .appz elem k bytes w s x => eAppz elem k bytes w s x z h nx
  | .copy k d s => eCopy k d s z h nx
  | .clear w x => eClear w x z h nx
  | .ustr elem p n => eUstr elem p n z h nx
  | _ => .fail

/-- Equal values, as far as it is to be seen. -/
def AV.beq : AV → AV → Bool
  | .undef, .undef | .nl, .nl | .nilptr, .nilptr | .nilslice, .nilslice | .nilmap, .nilmap | .nilfunc, .nilfunc | .nilIface, .nilIface => true
  | .cs a b, .cs c d => a.beq c && b.beq d
  | .bool a, .bool b => a == b
  | .int k a, .int k' b => sameK k k' && eqI a b
  | .icap a, .icap b => Nat.beq a b
  | .aint, .aint => true
  | .ilt a, .ilt b => Nat.beq a b
  | .text a b, .text c d => Nat.beq a c && Nat.beq b d
  | .str a b, .str c d => Nat.beq a c && Nat.beq b d
  | .ptr p a, .ptr q b => p.beq q && Nat.beq a b
  | .slice p a b c d e, .slice p' a' b' c' d' e' => p.beq p' && (Nat.beq a a' && (Nat.beq b b' && (Nat.beq c c' && (d == d' && Nat.beq e e'))))
  | .map p, .map q | .yield p, .yield q => p.beq q
  | .func f a b, .func g c d => f.beq g && (a.beq c && b.beq d)
  | .iface t v, .iface u w => Nat.beq t u && v.beq w
  | .agg a, .agg b | .tuple a, .tuple b => a.beq b
  | _, _ => false

def glFit (h : TB) : GL → Bool
  | .nil => true
  | .cons g el n c l => (match h.get (bid g) with
    | .cells fz e lo hi t => Nat.beq fz 18446744073709551616 && (Nat.beq e el && (Nat.beq lo 0 && (Nat.beq n hi && AV.beq (cellsOf t n 0) c)))
    | _ => false) && glFit h l
/-- A number into a row of numbers that ascend. -/
def insI (a : Int) : AV → AV
  | .cs (.int k b) l => bif leI a b then .cs (.int .i64 a) (.cs (.int k b) l) else .cs (.int k b) (insI a l)
  | _ => .cs (.int .i64 a) .nl
/-- Does a row of numbers hold one? -/
def hasI (a : Int) : AV → Bool
  | .cs (.int _ b) l => eqI a b || hasI a l
  | _ => false
/-- A map's keys, ascending: numbers no less than 0, each once, born one behind the other ahead of the clock. -/
def keysI (ck : Nat) : Nat → ME → Option AV
  | lo, .nil => bif Nat.ble lo ck then some .nl else none
  | lo, .cons (.int .i64 (.ofNat a)) _ b l => bif Nat.ble a 9223372036854775807 && Nat.ble lo b then match keysI ck (Nat.succ b) l with
    | some v => bif hasI (.ofNat a) v then none else some (insI (.ofNat a) v)
    | none => none
    else none
  | _, _ => none
def extA (e : Ext) (args : AV) (h : TB) (nx : Nat) : CR :=
  match e, args with
  | .same, .cs x .nl => .ok x h nx
  | .indexByte, .cs (.str len n) (.cs (.int .u8 (.ofNat c)) .nl) => bif Nat.ble c 255 then
      match findB n c len 0 with
      | some i => .ok (.int .i64 (.ofNat i)) h nx
      | none => .ok (.int .i64 (.negSucc 0)) h nx
    else .fail
  | .count, .cs (.str len n) (.cs (.int .u8 (.ofNat c)) .nl) => bif Nat.ble c 255 then .ok (.int .i64 (.ofNat (countB n c len 0 0))) h nx else .fail
  | .makeNoZero elem, .cs (.int .i64 (.ofNat n)) .nl => bif Nat.ble n 281474976710656 && Nat.ble nx 32767 then
      .ok (.slice (bid nx) 0 n n false 1) (TB.set (bid nx) (.cells 1 elem 0 n .leaf) h) (Nat.succ nx) else .fail
  | .index g, .cs (.str len n) (.cs (.str ls q) .nl) => bif Nat.ble 1 ls && Nat.ble len 4294967280 then
      match h.get (bid g) with
      | .cells _ _ lo hi t => bif Nat.beq lo 0 && Nat.ble 1 hi then match t.get 0 with
        | .aint => match findS n q ls len (Nat.pow 2 (Nat.mul 8 ls)) len 0 with
          | some i => .ok (.int .i64 (.ofNat i)) h nx
          | none => .ok (.int .i64 (.negSucc 0)) h nx
        | _ => .fail
        else .fail
      | _ => .fail
    else .fail
  | .truth l, .nl => bif glFit h l then .ok (.bool true) h nx else .fail
  | .overlaps, .cs (.slice p o l _ _ k) (.cs (.slice q o' l' _ _ k') .nl) => match h.get p, h.get q with
    | .cells fz _ lo hi _, .cells _ _ lo' hi' _ => bif !p.beq q && (Nat.ble 1 fz && (Nat.ble fz (Nat.succ o) && (Nat.ble lo o && (Nat.ble (Nat.succ o) hi && (Nat.ble (Nat.succ lo') hi' && (Nat.ble 1 l && Nat.ble 1 l')))))) then .ok (.bool false) h nx else .fail
    | _, _ => .fail
  | .sorted keys1 elem, .cs (.func f .nl (.cs (.ptr id off) .nl)) .nl => bif f.beq keys1 && (Nat.beq off 0 && Nat.ble nx 32767) then
      match (h.get id).onCells fun _ _ lo hi t => whenA (Nat.beq lo 0 && Nat.ble 1 hi) (some (t.get 0)) with
      | some (.map mid) => match h.get mid with
        | .map es ck => match keysI ck 0 es with
          | some .nl => .ok .nilslice h nx
          | some l => bif Nat.ble l.len 1000 then .ok (.slice (bid nx) 0 l.len l.len false 1) (TB.set (bid nx) (.cells 1 elem 0 l.len (Tr.sets l 0 .leaf)) h) (Nat.succ nx) else .fail
          | none => .fail
        | _ => .fail
      | _ => .fail
    else .fail
  | .known l a v, args => bif AV.beq args a && glFit h l then .ok v h nx else .fail
  | _, _ => .fail

/-! ### Running -/
def setD (d : ADst) : AV → TV → TV := (ADst.rec (motive := fun _ => AV → TV → TV) (fun _ z => z) (fun p => TV.set p)) d
/-- The arguments' slots are filled. -/
def fillP (ps : List Pth) : AV → TV → TV := (List.rec (motive := fun _ => AV → TV → TV) (fun _ z => z) (fun p l ih => fun a z => ih a.tl (TV.set p a.hd z))) ps
def resA (l : List ARes) (z : TV) (h : TB) : OA :=
  match l with
  | [] => some .nl
  | .tmp p :: l => (resA l z h).map (.cs (TV.get p z))
  | .cell1 p :: l => match pLd1 (.t p) z h with
    | some v => (resA l z h).map (.cs v)
    | none => none
  | .celln p n :: l => match pLdn n (.t p) z h with
    | some v => (resA l z h).map (.cs v)
    | none => none
def resV (l : AV) : AV := (AV.rec (motive := fun _ => AV → AV) (fun l => .tuple l) (fun l => .tuple l) (fun h t _ _ => fun l => (AV.rec (motive := fun _ => AV → AV → AV) (fun _ l => .tuple l) (fun h _ => h) (fun _ _ _ _ => fun _ l => .tuple l) (fun _ => fun _ l => .tuple l) (fun _ _ => fun _ l => .tuple l) (fun _ => fun _ l => .tuple l) (fun _ l => .tuple l) (fun _ => fun _ l => .tuple l) (fun _ _ => fun _ l => .tuple l) (fun _ _ => fun _ l => .tuple l) (fun _ _ => fun _ l => .tuple l) (fun _ l => .tuple l) (fun _ _ _ _ _ _ => fun _ l => .tuple l) (fun _ l => .tuple l) (fun _ => fun _ l => .tuple l) (fun _ l => .tuple l) (fun _ _ _ _ _ => fun _ l => .tuple l) (fun _ => fun _ l => .tuple l) (fun _ l => .tuple l) (fun _ _ _ => fun _ l => .tuple l) (fun _ l => .tuple l) (fun _ _ => fun _ l => .tuple l) (fun _ _ => fun _ l => .tuple l)) t h l) (fun _ => fun l => .tuple l) (fun _ _ => fun l => .tuple l) (fun _ => fun l => .tuple l) (fun l => .tuple l) (fun _ => fun l => .tuple l) (fun _ _ => fun l => .tuple l) (fun _ _ => fun l => .tuple l) (fun _ _ => fun l => .tuple l) (fun l => .tuple l) (fun _ _ _ _ _ _ => fun l => .tuple l) (fun l => .tuple l) (fun _ => fun l => .tuple l) (fun l => .tuple l) (fun _ _ _ _ _ => fun l => .tuple l) (fun _ => fun l => .tuple l) (fun l => .tuple l) (fun _ _ _ => fun l => .tuple l) (fun l => .tuple l) (fun _ _ => fun l => .tuple l) (fun _ _ => fun l => .tuple l)) l l

abbrev Exec := ACode → TV → TB → Nat → R
abbrev Kont := AV → TB → Nat → R

def doneA (res : List ARes) (z : TV) (h : TB) (nx : Nat) : CR := Option.rec .fail (fun l => .ok (resV l) h nx) (resA res z h)
/-- What a function's body comes to, as a call's end. -/
def endA (r : R) : List ARes → CR := (R.rec (motive := fun _ => List ARes → CR) (fun _ => .fail) (fun z h nx => fun res => doneA res z h nx) (fun _ _ _ _ => fun _ => .fail) (fun z h nx => fun res => doneA res z h nx)) r
/-- A function that catches what a test's failing raises: four regions; if slot t says true, rest; else the value v lies in the cell to which slot s leads. -/
def goR (r : R) : (TV → TB → Nat → CR) → CR := (R.rec (motive := fun _ => (TV → TB → Nat → CR) → CR) (fun _ => .fail) (fun z h nx => fun k => k z h nx) (fun _ _ _ _ => fun _ => .fail) (fun _ _ _ => fun _ => .fail)) r
def trapF (c : CR) : List ARes → TV → CR := (CR.rec (motive := fun _ => List ARes → TV → CR) (fun _ _ => .fail) (fun u h nx => fun res z => doneA res z h nx)) c
def trapB (b : AV) : Exec → ADst → ACode → List ARes → Pth → AV → GL → AV → TV → TB → Nat → CR := (AV.rec (motive := fun _ => Exec → ADst → ACode → List ARes → Pth → AV → GL → AV → TV → TB → Nat → CR) (fun _ _ _ _ _ _ _ _ _ _ _ => .fail) (fun _ _ _ _ _ _ _ _ _ _ _ => .fail) (fun _ _ _ _ => fun _ _ _ _ _ _ _ _ _ _ _ => .fail) (fun b => fun ex d rest res s v g p z h nx => Bool.rec (Bool.rec .fail (Bool.rec .fail (trapF (eSt 1 (.t s) (.c v) z h nx) res z) (AV.beq (TV.get s z) p)) (glFit h g)) (endA (ex rest (setD d .undef z) h nx) res) b) (fun _ _ => fun _ _ _ _ _ _ _ _ _ _ _ => .fail) (fun _ => fun _ _ _ _ _ _ _ _ _ _ _ => .fail) (fun _ _ _ _ _ _ _ _ _ _ _ => .fail) (fun _ => fun _ _ _ _ _ _ _ _ _ _ _ => .fail) (fun _ _ => fun _ _ _ _ _ _ _ _ _ _ _ => .fail) (fun _ _ => fun _ _ _ _ _ _ _ _ _ _ _ => .fail) (fun _ _ => fun _ _ _ _ _ _ _ _ _ _ _ => .fail) (fun _ _ _ _ _ _ _ _ _ _ _ => .fail) (fun _ _ _ _ _ _ => fun _ _ _ _ _ _ _ _ _ _ _ => .fail) (fun _ _ _ _ _ _ _ _ _ _ _ => .fail) (fun _ => fun _ _ _ _ _ _ _ _ _ _ _ => .fail) (fun _ _ _ _ _ _ _ _ _ _ _ => .fail) (fun _ _ _ _ _ => fun _ _ _ _ _ _ _ _ _ _ _ => .fail) (fun _ => fun _ _ _ _ _ _ _ _ _ _ _ => .fail) (fun _ _ _ _ _ _ _ _ _ _ _ => .fail) (fun _ _ _ => fun _ _ _ _ _ _ _ _ _ _ _ => .fail) (fun _ _ _ _ _ _ _ _ _ _ _ => .fail) (fun _ _ => fun _ _ _ _ _ _ _ _ _ _ _ => .fail) (fun _ _ => fun _ _ _ _ _ _ _ _ _ _ _ => .fail)) b
def trapA (ex : Exec) (a0 a1 a2 a3 : ARg) (t : Pth) (d : ADst) (rest : ACode) (res : List ARes) (s tc c : Pth) (v : AV) (g : GL) (z : TV) (h : TB) (nx : Nat) : CR :=
  goR (ex (.region a0) z h nx) fun z h nx => goR (ex (.region a1) z h nx) fun z1 h nx => Bool.rec .fail (goR (ex (.region a2) z1 h nx) fun z h nx => goR (ex (.region a3) z h nx) fun z h nx => trapB (TV.get t z) ex d rest res s v g (TV.get s z1) z h nx) (AV.beq (TV.get tc z1) (.func c .nl (.cs (TV.get s z1) .nl)))
/-- A call of a function. -/
def callA (ft : TF) (ex : Exec) (f : Pth) (args : AV) (h : TB) (nx : Nat) : CR :=
  (AFn.rec (motive := fun _ => Exec → AV → TB → Nat → CR) (fun _ _ _ _ => .fail) (fun ps code res => fun ex args h nx => endA (ex code (fillP ps args (.leaf .undef)) h nx) res) (fun e => fun _ args h nx => extA e args h nx) (fun ps a0 a1 a2 a3 t d rest res s tc c v g => fun ex args h nx => trapA ex a0 a1 a2 a3 t d rest res s tc c v g (fillP ps args (.leaf .undef)) h nx)) (TF.get f ft) ex args h nx

def roundEnd (id : Pth) (r : R) : CR :=
  match r with
  | .norm _ h nx => match h.get id with
    | .loop _ _ z ps assign body => .ok (.bool true) (TB.set id (.loop .ready none z ps assign body) h) nx
    | _ => .fail
  | .ret _ h nx => match h.get id with
    | .loop _ _ z ps assign body => .ok (.bool false) (TB.set id (.loop .done (some .ret) z ps assign body) h) nx
    | _ => .fail
  | .exit e _ h nx => match h.get id with
    | .loop _ _ z ps assign body => .ok (.bool false) (TB.set id (.loop .done (some (.exit e)) z ps assign body) h) nx
    | _ => .fail
  | .fail => .fail
def roundGo (ex : Exec) (id : Pth) (body : ACode) (r : R) : CR :=
  match r with
  | .norm z' h nx =>
    match h.get id with
    | .loop .ready pd z ps as bd => roundEnd id (ex body z' (TB.set id (.loop .busy pd z ps as bd) h) nx)
    | _ => .fail
  | _ => .fail
/-- A round of a loop over a function. -/
def roundA (ex : Exec) (id : Pth) (args : AV) (h : TB) (nx : Nat) : CR :=
  match h.get id with
  | .loop .ready _ z ps assign body => bif Nat.beq args.len ps.length then roundGo ex id body (ex assign (fillP ps args z) h nx) else .fail
  | _ => .fail

def callV (ft : TF) (ex : Exec) (f : AV) (args : AV) (h : TB) (nx : Nat) : CR :=
  match f with
  | .func f a b => callA ft ex f (a.app (args.app b)) h nx
  | .yield id => roundA ex id args h nx
  | _ => .fail

def goC (c : CR) : Kont → R := (CR.rec (motive := fun _ => Kont → R) (fun _ => .fail) (fun v h nx => fun k => k v h nx)) c
/-- A pure operation, then what comes behind it. -/
def runP (v : OA) (h : TB) (nx : Nat) (k : Kont) : R := (Option.rec (motive := fun _ => TB → Nat → Kont → R) (fun _ _ _ => .fail) (fun v => fun h nx k => k v h nx)) v h nx k
def liftP (f : TV → TB → OA) (_ : TF) (_ : Exec) (z : TV) (h : TB) (nx : Nat) (k : Kont) : R := runP (f z h) h nx k
def liftF (f : TV → Pth → Option (AV × AB)) (_ : TF) (_ : Exec) (z : TV) (h : TB) (nx : Nat) (k : Kont) : R := Bool.rec .fail (Option.rec .fail (fun q => k q.1 (TB.set (bid nx) q.2 h) (Nat.succ nx)) (f z (bid nx))) (Nat.ble nx 32767)
def liftE (f : TV → TB → Nat → CR) (_ : TF) (_ : Exec) (z : TV) (h : TB) (nx : Nat) (k : Kont) : R := goC (f z h nx) k
abbrev Run := TF → Exec → TV → TB → Nat → Kont → R
/-- One operation; then what comes behind it. -/
def opA (o : AOp) : Run := (AOp.rec (motive := fun _ => Run) (fun x => fun _ _ z h nx k => k (x.ev z) h nx) (fun c a b => liftP (pPick c a b)) (fun e n t => fun _ _ _ h nx k => Bool.rec .fail (k (.ptr (bid nx) 0) (TB.set (bid nx) (.cells 1 e 0 n t) h) (Nat.succ nx)) (Nat.ble nx 32767)) (fun e x => liftF (fBox e x)) (fun w l => liftP (fun z _ => (l.fill z w).map .agg)) (fun e k n w l => liftF (fBslice e k n w l)) (fun x => liftP (pLd1 x)) (fun n x => liftP (pLdn n x)) (fun n a x => liftE (eSt n a x)) (fun x => liftP (pNilck x)) (fun op x y => fun _ _ z h nx k => runP (binA op (x.ev z) (y.ev z)) h nx k) (fun s n x y => liftP (fun z _ => (eqNil s (x.ev z) (y.ev z)).map (neg n))) (fun n x y => liftP (pEqbool n x y)) (fun l n x y => liftP (pEqagg l n x y)) (fun op x => liftP (fun z _ => unA op (x.ev z))) (fun k x => liftP (fun z _ => cvI k (x.ev z))) (fun x => liftP (pCvs x)) (fun e x => liftF (fS2b e x)) (fun x => liftP (pB2s x)) (fun x => liftP (pCvp0 x)) (fun t x => liftP (pCvp1 t x)) (fun t x => fun _ _ z h nx k => k (.iface t (x.ev z)) h nx) (fun f a b => fun _ _ z h nx k => k (.func f (a.ev z) (b.ev z)) h nx) (fun _ _ _ h nx k => Bool.rec .fail (k (.map (bid nx)) (TB.set (bid nx) (.map .nil 0) h) (Nat.succ nx)) (Nat.ble nx 32767)) (fun e k b w l c => liftF (fMkslice e k b w l c)) (fun x l u => liftP (pSlstr x l u)) (fun k x l u m => liftP (pSlsl k x l u m)) (fun n k x l u => liftP (pSlarr n k x l u)) (fun f x => liftP (pFaddr f x)) (fun o n a x => liftP (pField o n a x)) (fun n k x i => liftP (pIaarr n k x i)) (fun k x i => liftP (pIasl k x i)) (fun n k a x i => liftP (pIxarr n k a x i)) (fun x i => liftP (pIxstr x i)) (fun s w x i ok => liftP (pLookup s w x i ok)) (fun s m k v => liftE (eMapupd s m k v)) (fun s m k => liftE (eDel s m k)) (fun x => liftF (fRng x)) (fun x => liftE (eNext x)) (fun x i => liftP (pExtract x i)) (fun f args => fun ft ex z h nx k => goC (callA ft ex f (args.ev z) h nx) k) (fun x args => fun ft ex z h nx k => goC (callV ft ex (x.ev z) (args.ev z) h nx) k) (fun n => fun _ _ _ h nx k => k (.int .i64 (.ofNat n)) h nx) (fun s x => liftP (pLen s x)) (fun x => liftP (pCap x)) (fun e k b s x => liftE (eAppend e k b s x)) (fun e k b w s x => liftE (eAppz e k b w s x)) (fun k d s => liftE (eCopy k d s)) (fun m x l => liftP (fun z _ => mmL m (x.ev z) (l.ev z))) (fun w x => liftE (eClear w x)) (fun x => liftP (pUsd x)) (fun e p n => liftE (eUstr e p n))) o

def wantA (g : AG) (z : TV) : Option Bool :=
  match g with
  | .no => some true
  | .yes t w => match TV.get t z with
    | .bool b => some (b == w)
    | .tuple _ => some false
    | _ => none
/-- A guarded operation: told whether it is wanted. -/
def wanted (w : Option Bool) (d : ADst) (o : AOp) (ft : TF) (ex : Exec) (z : TV) (h : TB) (nx : Nat) (k : TV → TB → Nat → R) : R :=
  match w with
  | some true => opA o ft ex z h nx fun v h nx => k (setD d v z) h nx
  | some false => k (setD d (.tuple .nl) z) h nx
  | none => .fail
def operA (o : AOper) : TF → Exec → TV → TB → Nat → (TV → TB → Nat → R) → R := (AOper.rec (motive := fun _ => TF → Exec → TV → TB → Nat → (TV → TB → Nat → R) → R) (fun d x => fun _ _ z h nx k => k (TV.set d (x.ev z) z) h nx) (fun d o => fun ft ex z h nx k => opA o ft ex z h nx fun v h nx => k (TV.set d v z) h nx) (fun g d o => fun ft ex z h nx k => (AG.rec (motive := fun _ => ADst → AOp → TF → Exec → TV → TB → Nat → (TV → TB → Nat → R) → R) (fun d o ft ex z h nx k => opA o ft ex z h nx fun v h nx => k (setD d v z) h nx) (fun t w => fun d o ft ex z h nx k => wanted (wantA (.yes t w) z) d o ft ex z h nx k)) g d o ft ex z h nx k)) o
def regA (l : ARg) : TF → Exec → TV → TB → Nat → R := (ARg.rec (motive := fun _ => TF → Exec → TV → TB → Nat → R) (fun _ _ z h nx => .norm z h nx) (fun o l ih => fun ft ex z h nx => operA o ft ex z h nx (tick ih ft ex))) l

/-- The slots and the blocks at the end of each stage of a drawn region, the last one first. -/
inductive SL where
  | nil
  | cons (z : TV) (h : TB) (l : SL)
def SL.len : SL → Nat
  | .nil => 0
  | .cons _ _ l => l.len + 1
/-- A drawn region in its own order. -/
def drawA (ft : TF) (ex : Exec) : ADr → TV → TB → Nat → SL → (TV → TB → Nat → SL → R) → R
  | .nil, z, h, nx, hs, k => k z h nx (.cons z h hs)
  | .cons _ .acts o l, z, h, nx, hs, k => operA o ft ex z h nx fun z' h' nx => drawA ft ex l z' h' nx (.cons z h hs) k
  | .cons _ _ o l, z, h, nx, hs, k => operA o ft ex z h nx fun z h nx => drawA ft ex l z h nx hs k

def AOper.guard : AOper → AG
  | .mv _ _ | .op _ _ => .no
  | .mk g _ _ => g
def AOper.dst : AOper → ADst
  | .mv d _ | .op d _ => .to d
  | .mk _ d _ => d
def AOper.aop : AOper → AOp
  | .mv _ x => .mv x
  | .op _ o | .mk _ _ o => o
/-- Does an operation read at a stage what it read? (zf: the slots at the end.) -/
def sameOne (o : AOper) (zf : TV) (z : TV) (h : TB) : Bool :=
  match o.dst with
  | .to p => match wantA o.guard z with
    | some true => match pev o.aop z h with
      | some v => AV.beq v (TV.get p zf)
      | none => false
    | some false => true
    | none => false
  | .no => false
/-- .. at all stages from number a to b. -/
def sameAt (o : AOper) (zf : TV) (a b : Nat) : SL → Bool
  | .nil => true
  | .cons z h hs => bif Nat.ble a hs.len && Nat.ble hs.len b then sameOne o zf z h && sameAt o zf a b hs else sameAt o zf a b hs
def drawChk (zf : TV) (hs : SL) : ADr → Bool
  | .nil => true
  | .cons _ (.reads a b) o l => sameAt o zf a b hs && drawChk zf hs l
  | .cons _ _ _ l => drawChk zf hs l
def drawEnd (l : ADr) (z : TV) (h : TB) (nx : Nat) (hs : SL) : R := Bool.rec .fail (.norm z h nx) (drawChk z hs l)

/-- Has a function a body? -/
def isFn (x : AFn) : Bool := (AFn.rec (motive := fun _ => Bool) (false) (fun ps c r => true) (fun _ => false) (fun _ _ _ _ _ _ _ _ _ _ _ _ _ _ => false)) x
def rangeEnd (id : Pth) (z : TV) (c : CR) : R :=
  match c with
  | .fail => .fail
  | .ok _ h nx =>
    match h.get id with
    | .loop st pd z' ps as bd =>
      match st with
      | .busy => .fail
      | _ => match pd with
        | none => .norm z (TB.set id (.loop .exhausted pd z' ps as bd) h) nx
        | some .ret => .ret z (TB.set id (.loop .exhausted pd z' ps as bd) h) nx
        | some (.exit e) => .exit e z (TB.set id (.loop .exhausted pd z' ps as bd) h) nx
    | _ => .fail
def rangeA (ft : TF) (ex : Exec) (f : AV) (ps : List Pth) (as bd : ACode) (z : TV) (h : TB) (nx : Nat) : R :=
  match f with
  | .func f a b => Bool.rec .fail (Bool.rec .fail (rangeEnd (bid nx) z (callA ft ex f (a.app (.cs (.yield (bid nx)) b)) (TB.set (bid nx) (.loop .ready none z ps as bd) h) (Nat.succ nx))) (isFn (TF.get f ft))) (Nat.ble nx 32767)
  | _ => .fail

def seqR (r : R) : Exec → ACode → R := (R.rec (motive := fun _ => Exec → ACode → R) (fun _ _ => .fail) (fun z h nx => fun ih b => ih b z h nx) (fun e z h nx => fun _ _ => .exit e z h nx) (fun z h nx => fun _ _ => .ret z h nx)) r
def blockR (r : R) : Nat → R := (R.rec (motive := fun _ => Nat → R) (fun _ => .fail) (fun z h nx => fun _ => .norm z h nx) (fun e z h nx => fun id => Bool.rec (.exit e z h nx) (.norm z h nx) (Nat.beq e id)) (fun z h nx => fun _ => .ret z h nx)) r
def condR (v : AV) : ACode → ACode → Exec → TV → TB → Nat → R := (AV.rec (motive := fun _ => ACode → ACode → Exec → TV → TB → Nat → R) (fun _ _ _ _ _ _ => .fail) (fun _ _ _ _ _ _ => .fail) (fun _ _ _ _ => fun _ _ _ _ _ _ => .fail) (fun t => fun a b ih z h nx => Bool.rec (ih b z h nx) (ih a z h nx) t) (fun _ _ => fun _ _ _ _ _ _ => .fail) (fun _ => fun _ _ _ _ _ _ => .fail) (fun _ _ _ _ _ _ => .fail) (fun _ => fun _ _ _ _ _ _ => .fail) (fun _ _ => fun _ _ _ _ _ _ => .fail) (fun _ _ => fun _ _ _ _ _ _ => .fail) (fun _ _ => fun _ _ _ _ _ _ => .fail) (fun _ _ _ _ _ _ => .fail) (fun _ _ _ _ _ _ => fun _ _ _ _ _ _ => .fail) (fun _ _ _ _ _ _ => .fail) (fun _ => fun _ _ _ _ _ _ => .fail) (fun _ _ _ _ _ _ => .fail) (fun _ _ _ _ _ => fun _ _ _ _ _ _ => .fail) (fun _ => fun _ _ _ _ _ _ => .fail) (fun _ _ _ _ _ _ => .fail) (fun _ _ _ => fun _ _ _ _ _ _ => .fail) (fun _ _ _ _ _ _ => .fail) (fun _ _ => fun _ _ _ _ _ _ => .fail) (fun _ _ => fun _ _ _ _ _ _ => .fail)) v
def execB (ft : TF) (ih : Exec) (c : ACode) (z : TV) (h : TB) (nx : Nat) : R :=
  (ACode.rec (motive := fun _ => TF → Exec → TV → TB → Nat → R) (fun _ _ z h nx => .norm z h nx) (fun l => fun ft ih z h nx => regA l ft ih z h nx) (fun l => fun ft ih z h nx => drawA ft ih l z h nx .nil (drawEnd l)) (fun a b _ _ => fun _ ih z h nx => seqR (ih a z h nx) ih b) (fun x a b _ _ => fun _ ih z h nx => condR (x.ev z) a b ih z h nx) (fun id a _ => fun _ ih z h nx => blockR (ih a z h nx) id) (fun a _ => fun _ ih z h nx => seqR (ih a z h nx) ih (.loop a)) (fun x ps as bd _ _ => fun ft ih z h nx => rangeA ft ih (x.ev z) ps as bd z h nx) (fun id => fun _ _ z h nx => .exit id z h nx) (fun _ _ z h nx => .ret z h nx) (fun a _ => fun _ ih z h nx => ih a z h nx) (fun _ _ _ _ _ => .fail)) c ft ih z h nx
def exec (ft : TF) (n : Nat) : Exec := Nat.rec (motive := fun _ => Exec) (fun _ _ _ _ => .fail) (fun _ ih => execB ft ih) n

/-- Does a call yield true? -/
def saysTrue (c : CR) : Bool := (CR.rec (motive := fun _ => Bool) (false) (fun v h nx => (AV.rec (motive := fun _ => Bool) (false) (false) (fun _ _ _ _ => false) (fun b => b) (fun _ _ => false) (fun _ => false) (false) (fun _ => false) (fun _ _ => false) (fun _ _ => false) (fun _ _ => false) (false) (fun _ _ _ _ _ _ => false) (false) (fun _ => false) (false) (fun _ _ _ _ _ => false) (fun _ => false) (false) (fun _ _ _ => false) (false) (fun _ _ => false) (fun _ _ => false)) v)) c
end
end Go.Ra
