/-
  An argument that is a field, opened.
-/
import Derived.Test.YtfcokldbpjkjpaaGreatDoorNw
namespace Go.Proofs.YtfcokldbpjkjpaaGreatDoor
open Go.RowKit Go.Lib Go.Joins
section
open Go.ChangeShapes Go.WideShapes Go.Deep
variable {H : Type} {enc : TypeId × Value → H}
theorem fieldCells2 : Tryz.prog.cellsOf 41 = 2 := by kernel_rfl
set_option maxRecDepth 100000 in
/-- An argument that is a field. -/
theorem field_all {W : World} {base : Nat} {v : Value} {d : DataW H} {p : List MemPlace} (hv : Value.okWide Tryz.prog W .any base 41 v) (h : DataW.Trod enc Tryz.prog W 0 (fun _ => true) true 41 v d p) :
    ∃ x : Fl, v = .agg #[.string ⟨x.1.toArray⟩, .string ⟨x.2.toArray⟩] ∧ x.1.length ≤ 9223372036854775807 ∧ x.2.length ≤ 9223372036854775807 := by
  obtain ⟨f0, f1, hs, ht0, ht1, hone⟩ := fieldStruct
  obtain ⟨v0, v1, y0, y1, n, rfl, _, _, h0, h1⟩ := open_agg2 hs hone fieldCells2 hv h
  rw [ht0] at h0
  rw [ht1] at h1
  obtain ⟨a, rfl, ha⟩ := str_in h0
  obtain ⟨b, rfl, hb⟩ := str_in h1
  exact ⟨(a, b), rfl, ha, hb⟩
end
end Go.Proofs.YtfcokldbpjkjpaaGreatDoor
