/-
  Plain laws of the opening handshake by the document: many fields, a word in one of them; no program in sight.
-/
import Derived.Test.YtheihlalgekojaaGreatDoorP19
import Derived.Test.YtheihlalgekojaaGreatDoorP26
namespace Go.Proofs.YtheihlalgekojaaGreatDoor
def khost : List UInt8 := [104, 111, 115, 116]
def kkey : List UInt8 := [115, 101, 99, 45, 119, 101, 98, 115, 111, 99, 107, 101, 116, 45, 107, 101, 121]
def kver : List UInt8 := [115, 101, 99, 45, 119, 101, 98, 115, 111, 99, 107, 101, 116, 45, 118, 101, 114, 115, 105, 111, 110]
def kconn : List UInt8 := [99, 111, 110, 110, 101, 99, 116, 105, 111, 110]
def manyB (fs : List (List UInt8 × List UInt8)) (name : List UInt8) : List (List UInt8) := (fs.filter fun f => alikeB f.1 name).map (·.2)
def hasAny (l : List (List UInt8)) (word : List UInt8) : Bool := l.any fun v => hasB v word
theorem alike_l (a : List UInt8) : alikeB a khost = alikeB a kHost ∧ alikeB a kkey = alikeB a kKey ∧ alikeB a kver = alikeB a kVer ∧ alikeB a kconn = alikeB a kConn ∧ alikeB a kupg = alikeB a kUpg := by
  have e1 : khost.map lower = kHost.map lower := by decide +kernel
  have e2 : kkey.map lower = kKey.map lower := by decide +kernel
  have e3 : kver.map lower = kVer.map lower := by decide +kernel
  have e4 : kconn.map lower = kConn.map lower := by decide +kernel
  have e5 : kupg.map lower = kUpg.map lower := by decide +kernel
  unfold alikeB
  rw [e1, e2, e3, e4, e5]
  exact ⟨rfl, rfl, rfl, rfl, rfl⟩
theorem many_has (fs : List (List UInt8 × List UInt8)) (name word : List UInt8) : hasAny (manyB fs name) word = asksB fs name word := by
  unfold hasAny manyB asksB
  rw [List.any_map, List.any_filter]
  rfl
theorem many_one (fs : List (List UInt8 × List UInt8)) (name : List UInt8) : ((manyB fs name).length == 1) = (oneB fs name).2 ∧ (manyB fs name).headD [] = (oneB fs name).1 := by
  unfold manyB oneB getB
  rw [List.length_map]
  refine ⟨rfl, ?_⟩
  cases fs.filter fun f => alikeB f.1 name <;> rfl
theorem many_names (fs : List (List UInt8 × List UInt8)) : manyB fs khost = manyB fs kHost ∧ manyB fs kkey = manyB fs kKey ∧ manyB fs kver = manyB fs kVer ∧ manyB fs kconn = manyB fs kConn ∧ manyB fs kupg = manyB fs kUpg := by
  have e : ∀ a b : List UInt8, (∀ x, alikeB x a = alikeB x b) → manyB fs a = manyB fs b := fun a b h => by
    unfold manyB
    rw [show (fun f : List UInt8 × List UInt8 => alikeB f.1 a) = fun f => alikeB f.1 b from funext fun f => h f.1]
  exact ⟨e _ _ fun x => (alike_l x).1, e _ _ fun x => (alike_l x).2.1, e _ _ fun x => (alike_l x).2.2.1, e _ _ fun x => (alike_l x).2.2.2.1, e _ _ fun x => (alike_l x).2.2.2.2⟩
/-- Check by the document. -/
def refCk (r : Rq) : List UInt8 × Nat :=
  if (r.m != kGET || (r.v != 11 || (manyB r.fs khost).length != 1)) then ([], 400)
  else if (!hasAny (manyB r.fs kupg) kWs || !hasAny (manyB r.fs kconn) kupg) then ([], 400)
  else if ((manyB r.fs kkey).length != 1 || (manyB r.fs kver).length != 1) then ([], 400)
  else match decL ((manyB r.fs kkey).headD []) with
    | none => ([], 400)
    | some t => if t.length ≠ 16 then ([], 400) else if (manyB r.fs kver).headD [] ≠ k13 then ([], 426) else (acceptL ((manyB r.fs kkey).headD []), 101)
theorem refCk_eq (r : Rq) : refCk r = checkB r := by
  obtain ⟨n1, n2, n3, n4, n5⟩ := many_names r.fs
  obtain ⟨o1, _⟩ := many_one r.fs kHost
  obtain ⟨o2, p2⟩ := many_one r.fs kKey
  obtain ⟨o3, p3⟩ := many_one r.fs kVer
  unfold refCk checkB bne
  rw [n1, n2, n3, n4, n5, many_has, many_has, p2, p3, o1, o2, o3]
  cases (r.m == kGET) <;> cases (r.v == 11) <;> cases (oneB r.fs kHost).2 <;> cases asksB r.fs kUpg kWs <;> cases asksB r.fs kConn kupg <;> cases (oneB r.fs kKey).2 <;> cases (oneB r.fs kVer).2 <;> rfl
end Go.Proofs.YtheihlalgekojaaGreatDoor
