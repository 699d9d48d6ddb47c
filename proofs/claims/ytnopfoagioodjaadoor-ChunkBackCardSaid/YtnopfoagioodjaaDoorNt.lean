/-
  What the rows' lists give of the table of math/bits.
-/
import Derived.Test.YtnopfoagioodjaaDoorNl
import Derived.Test.YtnopfoagioodjaaDoorKw
namespace Go.Proofs.YtnopfoagioodjaaDoor
open Go.RowKit Go.Lib
def bruijn64 : List Int := [0, 1, 56, 2, 57, 49, 28, 3, 61, 58, 42, 50, 38, 29, 17, 4, 62, 47, 59, 36, 45, 43, 51, 22, 53, 39, 33, 30, 24, 18, 12, 5, 63, 55, 48, 27, 60, 41, 37, 16, 46, 35, 44, 21, 52, 32, 23, 11, 54, 26, 40, 15, 34, 20, 31, 10, 25, 14, 19, 9, 13, 8, 7, 6]
theorem br_eq : (Rows.laid_math_bits_deBruijn64tab : DataW Unit) = Lib.tabData .u8 bruijn64 := by kernel_rfl
theorem gBr : Tryd.prog.globalNamed "math/bits.deBruijn64tab" = some 3 := by kernel_rfl
theorem gBrT : (Tryd.prog.globals[3]?).map (·.type) = some 105 := by kernel_rfl
theorem cellsU8 : Tryd.prog.cellsOf 5 = 1 := by kernel_rfl
theorem cells64 : Tryd.prog.cellsOf 105 = 64 := by kernel_rfl
theorem T_of {W : World} (hL : laidMetH Tryd.prog laidL W) : Tz W := by
  have hM : laidMet Tryd.prog laidL W := hL
  have h3 := hM.tail
  rw [br_eq] at h3
  have h0 := World.var?_cell gBr (Lib.tabIs_of_head gBr gBrT Tryd.underlying105 Tryd.underlying5 cellsU8 cells64 h3) 15
  unfold Tz; simpa [bruijn64] using h0
end Go.Proofs.YtnopfoagioodjaaDoor
