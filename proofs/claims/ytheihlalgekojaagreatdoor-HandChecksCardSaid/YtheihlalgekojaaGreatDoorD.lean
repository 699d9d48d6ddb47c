/-
  Walks over package field: a line's field.
-/
import Derived.Test.YtheihlalgekojaaGreatDoorGd
import Derived.Shelf.Strings.SlTrimAscii
namespace Go.Proofs.YtheihlalgekojaaGreatDoor
open Go.RowKit

theorem trim_any (l : List UInt8) (w : World) (hl : l.length ≤ 9223372036854775807) :
    Calls Tryz.prog 59 #[.string ⟨l.toArray⟩, .string ⟨#[32, 9]⟩] w fun e w' => e = .returned (.string ⟨(trimB l).toArray⟩) ∧ Gr w w' :=
  Any.strings_Trim_laid Tryz.lays160 (by kernel_rfl) ⟨l.toArray⟩ ⟨#[32, 9]⟩ w (by rw [size_mk]; exact hl) (by decide) (ascii_of_all (by decide))

/-- The result of Parse. -/
def pVal (r : List UInt8 × List UInt8 × Bool) : Value := .tuple #[.agg #[.string ⟨r.1.toArray⟩, .string ⟨r.2.1.toArray⟩], .bool r.2.2]

end Go.Proofs.YtheihlalgekojaaGreatDoor
