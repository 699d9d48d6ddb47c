/-
  Walks over package chunk: a byte of a line. (printed by mk_kh.py)
-/
import Derived.Test.YtpncfeaaffgkfaaGreatDoorKe
namespace Go.Proofs.YtpncfeaaffgkfaaGreatDoor
open Go.RowKit
attribute [local go_sem] Oper.semAt_some

theorem crB_snoc (L : List UInt8) (x : UInt8) : crB (L ++ [x]) = ((x.toNat : Int) == 13) := by
  unfold crB
  rw [List.getLast?_append, Bool.eq_iff_iff]
  simp only [List.getLast?_singleton, Option.some_or, beq_iff_eq, Option.some.injEq]
  constructor
  · intro e; rw [e]; rfl
  · intro e; exact UInt8.toNat_inj.1 (by show x.toNat = 13; omega)
theorem ten_eq (d : UInt8) : ((d.toNat : Int) == 10) = (d == 10) := by
  rw [Bool.eq_iff_iff, beq_iff_eq, beq_iff_eq]
  constructor
  · intro e; exact UInt8.toNat_inj.1 (by show d.toNat = 10; omega)
  · intro e; rw [e]; rfl
end Go.Proofs.YtpncfeaaffgkfaaGreatDoor
