/-
  A program's functions, turned when they are asked for; where a run starts.
-/
import Derived.Test.YtjjmmakledpifaaGreatDoorRc
set_option linter.unusedVariables false
namespace Go.Ra
section
/-- Functions that stand as things of their own, by their numbers. -/
noncomputable def lookO (k : Nat) (d : AFn) (l : List (Nat × AFn)) : AFn := List.rec d (fun a _ ih => Bool.rec ih a.2 (Nat.beq k a.1)) l
variable (P : Program) (ov : List (Nat × AFn))
noncomputable def fnAt (k : Nat) : AFn := lookO k (Option.rec .no (fun fn => Option.rec .no (fun a => a) (cFnU P fn)) P.funcs[k]?) ov
noncomputable def tabL (l : Nat) : Nat → Nat → TF := Nat.rec (motive := fun _ => Nat → Nat → TF) (fun acc _ => .leaf (fnAt P ov acc)) (fun _ ih acc wt => .node (ih acc (Nat.mul 8 wt)) (ih (Nat.add acc wt) (Nat.mul 8 wt)) (ih (Nat.add acc (Nat.mul 2 wt)) (Nat.mul 8 wt)) (ih (Nat.add acc (Nat.mul 3 wt)) (Nat.mul 8 wt)) (ih (Nat.add acc (Nat.mul 4 wt)) (Nat.mul 8 wt)) (ih (Nat.add acc (Nat.mul 5 wt)) (Nat.mul 8 wt)) (ih (Nat.add acc (Nat.mul 6 wt)) (Nat.mul 8 wt)) (ih (Nat.add acc (Nat.mul 7 wt)) (Nat.mul 8 wt))) l
/-- The table. -/
noncomputable def tab : TF := tabL P ov D 0 1
end
/-- A start's blocks. -/
noncomputable def glH : GL → TB
  | .nil => .leaf .dead
  | .cons g el n c l => TB.set (bid g) (.cells 18446744073709551616 el 0 n (Tr.sets c 0 .leaf)) (glH l)
/-- Does a call yield a value? -/
noncomputable def saysV (v : AV) (c : CR) : Bool := match c with
  | .ok u _ _ => AV.beq u v
  | .fail => false
/-- Equal entries of maps. -/
noncomputable def ME.beq : ME → ME → Bool
  | .nil, .nil => true
  | .cons k v n l, .cons k' v' n' l' => AV.beq k k' && (AV.beq v v' && (Nat.beq n n' && l.beq l'))
  | _, _ => false
/-- A block, told: its number; from cell lo to hi its values; or a map's entries. -/
inductive HI where
  | c (n fz elem lo hi : Nat) (L : AV)
  | m (n : Nat) (es : ME) (clock : Nat)
def HI.num : HI → Nat
  | .c n .. => n
  | .m n .. => n
noncomputable def HI.ab : HI → AB
  | .c _ fz e lo hi L => .cells fz e lo hi (Tr.sets L lo .leaf)
  | .m _ es ck => .map es ck
noncomputable def HI.fits (h : TB) : HI → Bool
  | .c n fz e lo hi L => match h.get (bid n) with
    | .cells fz' e' lo' hi' t => Nat.beq fz' fz && (Nat.beq e' e && (Nat.beq lo' lo && (Nat.beq hi' hi && AV.beq (cellsOf t (Nat.sub hi' lo') lo') L)))
    | _ => false
  | .m n es ck => match h.get (bid n) with
    | .map es' ck' => ME.beq es' es && Nat.beq ck' ck
    | _ => false
noncomputable def hFits (h : TB) : List HI → Bool
  | [] => true
  | x :: l => x.fits h && hFits h l
noncomputable def hOf : List HI → TB
  | [] => .leaf .dead
  | x :: l => TB.set (bid x.num) x.ab (hOf l)
noncomputable def zFits (z : TV) : List (Pth × AV) → Bool
  | [] => true
  | x :: l => AV.beq (TV.get x.1 z) x.2 && zFits z l
noncomputable def zOf : List (Pth × AV) → TV
  | [] => .leaf .undef
  | x :: l => TV.set x.1 x.2 (zOf l)
/-- Does a part of a run end in a state? -/
noncomputable def cutAt (r : R) (zl : List (Pth × AV)) (hl : List HI) (nx : Nat) : Bool := match r with
  | .norm z h nx' => Nat.beq nx' nx && (zFits z zl && hFits h hl)
  | _ => false
/-- Pieces of code, one behind the other. -/
noncomputable def execs (ft : TF) (n : Nat) : List ACode → TV → TB → Nat → R
  | [], z, h, nx => .norm z h nx
  | c :: l, z, h, nx => match exec ft n c z h nx with
    | .norm z h nx => execs ft n l z h nx
    | _ => .fail
end Go.Ra
