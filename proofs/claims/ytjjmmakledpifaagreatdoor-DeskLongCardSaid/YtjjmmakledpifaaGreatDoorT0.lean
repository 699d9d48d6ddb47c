/-
  A program's functions, turned when they are asked for; where a run starts.
-/
import Derived.Test.YtjjmmakledpifaaGreatDoorRc
set_option linter.unusedVariables false
namespace Go.Ra
section
variable (P : Program) (ix g : Nat) (ts : List Nat) (gl : GL) (tp : Nat) (tf : AFn)
/-- ts: functions that stand as things of their own; tp: one that catches. -/
noncomputable def memN (k : Nat) (l : List Nat) : Bool := List.rec false (fun a _ ih => Bool.rec ih true (Nat.beq k a)) l
noncomputable def fnAt (k : Nat) : AFn := Bool.rec (Bool.rec (Bool.rec (Option.rec .no (fun fn => Option.rec .no (fun a => a) (cFnU P fn)) P.funcs[k]?) tf (Nat.beq k tp)) (.ext (.truth gl)) (memN k ts)) (.ext (.index g)) (Nat.beq k ix)
noncomputable def tabL (l : Nat) : Nat → Nat → TF := Nat.rec (motive := fun _ => Nat → Nat → TF) (fun acc _ => .leaf (fnAt P ix g ts gl tp tf acc)) (fun _ ih acc wt => .node (ih acc (Nat.mul 8 wt)) (ih (Nat.add acc wt) (Nat.mul 8 wt)) (ih (Nat.add acc (Nat.mul 2 wt)) (Nat.mul 8 wt)) (ih (Nat.add acc (Nat.mul 3 wt)) (Nat.mul 8 wt)) (ih (Nat.add acc (Nat.mul 4 wt)) (Nat.mul 8 wt)) (ih (Nat.add acc (Nat.mul 5 wt)) (Nat.mul 8 wt)) (ih (Nat.add acc (Nat.mul 6 wt)) (Nat.mul 8 wt)) (ih (Nat.add acc (Nat.mul 7 wt)) (Nat.mul 8 wt))) l
/-- The table. -/
noncomputable def tab : TF := tabL P ix g ts gl tp tf D 0 1
end
/-- A start's blocks. -/
noncomputable def glH : GL → TB
  | .nil => .leaf .dead
  | .cons g el n c l => TB.set (bid g) (.cells 18446744073709551616 el 0 n (Tr.sets c 0 .leaf)) (glH l)
/-- Does a call yield a value? -/
noncomputable def saysV (v : AV) (c : CR) : Bool := match c with
  | .ok u _ _ => AV.beq u v
  | .fail => false
end Go.Ra
