/-
  Plain laws of the opening handshake: no program in sight.
-/
import Derived.Test.YtheihlalgekojaaGreatDoorP16
import Derived.Test.YtheihlalgekojaaGreatDoorP5
import Derived.Test.YtheihlalgekojaaGreatDoorP2
import Derived.Test.YtheihlalgekojaaGreatDoorG
namespace Go.Proofs.YtheihlalgekojaaGreatDoor
def kHost : List UInt8 := [72, 111, 115, 116]
def kKey : List UInt8 := [83, 101, 99, 45, 87, 101, 98, 83, 111, 99, 107, 101, 116, 45, 75, 101, 121]
def kVer : List UInt8 := [83, 101, 99, 45, 87, 101, 98, 83, 111, 99, 107, 101, 116, 45, 86, 101, 114, 115, 105, 111, 110]
def kUpg : List UInt8 := [85, 112, 103, 114, 97, 100, 101]
def kWs : List UInt8 := [119, 101, 98, 115, 111, 99, 107, 101, 116]
def kConn : List UInt8 := [67, 111, 110, 110, 101, 99, 116, 105, 111, 110]
def kupg : List UInt8 := [117, 112, 103, 114, 97, 100, 101]
def k13 : List UInt8 := [49, 51]
def kGET : List UInt8 := [71, 69, 84]
def asksB (fs : List (List UInt8 × List UInt8)) (name word : List UInt8) : Bool := fs.any fun f => alikeB f.1 name && hasB f.2 word
/-- The value of the only field of a name; false: there is none, or several. -/
def oneB (fs : List (List UInt8 × List UInt8)) (name : List UInt8) : List UInt8 × Bool := ((getB fs name).1, (getB fs name).2 == 1)
def checkB (r : Rq) : List UInt8 × Nat :=
  if (r.m != kGET || (r.v != 11 || (!(oneB r.fs kHost).2 || (!(oneB r.fs kKey).2 || !(oneB r.fs kVer).2)))) then ([], 400)
  else if (!asksB r.fs kUpg kWs || !asksB r.fs kConn kupg) then ([], 400)
  else match decL (oneB r.fs kKey).1 with
    | none => ([], 400)
    | some t => if t.length ≠ 16 then ([], 400) else if (oneB r.fs kVer).1 ≠ k13 then ([], 426) else (acceptL (oneB r.fs kKey).1, 101)
def kAcc : List UInt8 := [83, 101, 99, 45, 87, 101, 98, 83, 111, 99, 107, 101, 116, 45, 65, 99, 99, 101, 112, 116]
def kBadV : List UInt8 := [98, 97, 100, 32, 118, 101, 114, 115, 105, 111, 110]
def kBadH : List UInt8 := [98, 97, 100, 32, 104, 97, 110, 100, 115, 104, 97, 107, 101]
def answerB (x : List UInt8 × Nat) : Rp × Bool :=
  if x.2 = 101 then (⟨101, [(kUpg, kWs), (kConn, kUpg), (kAcc, x.1)], []⟩, true)
  else if x.2 = 426 then (⟨426, [(kVer, k13)], kBadV⟩, false) else (⟨x.2, [], kBadH⟩, false)
theorem check_code (r : Rq) : (checkB r).2 = 400 ∨ (checkB r).2 = 426 ∨ (checkB r).2 = 101 := by
  unfold checkB
  split
  · exact .inl rfl
  · split
    · exact .inl rfl
    · split
      · exact .inl rfl
      · split
        · exact .inl rfl
        · split
          · exact .inr (.inl rfl)
          · exact .inr (.inr rfl)
end Go.Proofs.YtheihlalgekojaaGreatDoor
