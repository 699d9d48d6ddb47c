/-
  The wake of the statements of package field.
  Requests and replies as values.
-/
import Derived.Test.YtpncfeaaffgkfaaGreatDoorG
import Derived.Test.YtpncfeaaffgkfaaGreatDoorH
import Derived.Test.YtpncfeaaffgkfaaGreatDoorChecked
import Derived.Test.YtpncfeaaffgkfaaGreatDoorSp
namespace Go.Proofs.YtpncfeaaffgkfaaGreatDoor
open Go.RowKit

theorem parse_is (l n v : List UInt8) (ok : Bool) (h : parseB l = (n, v, ok)) (w : World) (hG : G w) (hl : l.length < 4294967281) :
    Calls Tryz.prog 32 #[.string ⟨l.toArray⟩] w fun e w' => e = .returned (.tuple #[.agg #[.string ⟨n.toArray⟩, .string ⟨v.toArray⟩], .bool ok]) ∧ Gr w w' := by
  have := parse_any l w hG hl
  rwa [h] at this
theorem get_is (v : Value) (fs : List Fl) (name r : List UInt8) (n : Nat) (h : getB fs name = (r, n)) (w : World) (hG : G w) (hf : FieldsAt w v fs) (hn : fs.length ≤ 9223372036854775807)
    (hl : ∀ f ∈ fs, f.1.length ≤ 9223372036854775807) (hln : name.length ≤ 9223372036854775807) :
    Calls Tryz.prog 76 #[v, .string ⟨name.toArray⟩] w fun e w' => e = .returned (.tuple #[.string ⟨r.toArray⟩, .int .i64 n]) ∧ Gr w w' := by
  have := get_any v fs name w hG hf hn hl hln
  rwa [h] at this
theorem alike_is (a b : List UInt8) (r : Bool) (h : alikeB a b = r) (w : World) (hG : G w) (hla : a.length ≤ 9223372036854775807) (hlb : b.length ≤ 9223372036854775807) :
    Calls Tryz.prog 33 #[.string ⟨a.toArray⟩, .string ⟨b.toArray⟩] w fun e w' => e = .returned (.bool r) ∧ Gr w w' := h ▸ alike_any a b w hG hla hlb
theorem has_is (l word : List UInt8) (r : Bool) (h : hasB l word = r) (w : World) (hG : G w) (hl : l.length ≤ 4611686018427387904) (hw : word.length ≤ 9223372036854775807) :
    Calls Tryz.prog 78 #[.string ⟨l.toArray⟩, .string ⟨word.toArray⟩] w fun e w' => e = .returned (.bool r) ∧ Gr w w' := h ▸ has_any l word w hG hl hw

theorem cAw1 : parseB [72, 111, 115, 116, 58, 32, 97, 32, 98, 32] = ([72, 111, 115, 116], [97, 32, 98], true) := by decide +kernel
theorem cAw2 : getB [([72, 111, 115, 116], [97, 32, 98]), ([72, 79, 83, 84], [121])] [104, 111, 115, 116] = ([97, 32, 98], 2) := by decide +kernel
theorem cAw3 : tokB [72, 111, 115, 116] = true := by decide +kernel
theorem cAw4 : alikeB [104, 79, 83, 84] [72, 111, 115, 116] = true := by decide +kernel
theorem cAw5 : hasB [107, 101, 101, 112, 45, 97, 108, 105, 118, 101, 44, 32, 85, 112, 103, 114, 97, 100, 101] [117, 112, 103, 114, 97, 100, 101] = true := by decide +kernel

end Go.Proofs.YtpncfeaaffgkfaaGreatDoor
namespace Go.Proofs.YtpncfeaaffgkfaaGreatDoor
/-- A reply as a value; t: its fields'. -/
def Rp.V (x : Rp) (t : Value) : Value := .agg #[.int .i64 x.code, t, .string ⟨x.b.toArray⟩]
/-- A request as a value. -/
def Rq.V (r : Rq) (s : Value) : Value := .agg #[.string ⟨r.m.toArray⟩, .string ⟨r.p.toArray⟩, .string ⟨r.q.toArray⟩, .int .i64 r.v, s, .string ⟨r.b.toArray⟩, .bool r.c]
end Go.Proofs.YtpncfeaaffgkfaaGreatDoor
