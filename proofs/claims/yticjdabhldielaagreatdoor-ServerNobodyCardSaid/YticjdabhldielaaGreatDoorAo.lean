/-
  An act, opened.
-/
import Derived.Test.YticjdabhldielaaGreatDoorN
import Derived.Lib.SmallJoins
namespace Go.Proofs.YticjdabhldielaaGreatDoor
open Go.RowKit Go.Lib Go.Joins
section
open Go.ChangeShapes Go.WideShapes Go.Deep
variable {H : Type} {enc : TypeId × Value → H}
theorem mk_text (s : ByteArray) : (⟨s.data.toList.toArray⟩ : ByteArray) = s := by cases s; simp
theorem actStruct : ∃ f0 f1 f2 f3, Tryz.prog.underlying 23 = some (.struct #[f0, f1, f2, f3]) ∧ f0.type = 5 ∧ f1.type = 3 ∧ f2.type = 3 ∧ f3.type = 9 ∧ oneCellFields Tryz.prog #[f0, f1, f2, f3] = true := ⟨_, _, _, _, Tryz.underlying23, rfl, rfl, rfl, rfl, by kernel_rfl⟩
theorem actCells : Tryz.prog.cellsOf 23 = 4 := by kernel_rfl
set_option maxRecDepth 100000 in
theorem act_of {W : World} {base : Nat} {v : Value} {d : DataW H} {p : List MemPlace} (hv : Value.okWide Tryz.prog W .any base 23 v) (h : DataW.Trod enc Tryz.prog W 0 (fun _ => true) true 23 v d p) :
    ∃ (k m n : Int) (s : ByteArray), v = .agg #[.int .u8 k, .int .i64 m, .int .i64 n, .string s] ∧ s.data.toList.length ≤ 9223372036854775807 := by
  obtain ⟨f0, f1, f2, f3, hs, ht0, ht1, ht2, ht3, hone⟩ := actStruct
  obtain ⟨v0, v1, v2, v3, y0, y1, y2, y3, n, rfl, _, _, h0, h1, h2, h3⟩ := open_agg4 hs hone actCells hv h
  rw [ht0] at h0
  rw [ht1] at h1
  rw [ht2] at h2
  rw [ht3] at h3
  obtain ⟨k, e0, _⟩ := DataW.trod_int Tryz.underlying5 h0
  obtain ⟨a, e1, _⟩ := DataW.trod_int Tryz.underlying3 h1
  obtain ⟨b, e2, _⟩ := DataW.trod_int Tryz.underlying3 h2
  obtain ⟨s, e3, _, hl⟩ := DataW.trod_string Tryz.underlying9 h3
  rw [List.cons.injEq] at e0 e1 e2 e3
  obtain ⟨rfl, _⟩ := e0
  obtain ⟨rfl, _⟩ := e1
  obtain ⟨rfl, _⟩ := e2
  obtain ⟨rfl, _⟩ := e3
  exact ⟨k, a, b, s, rfl, by rw [Array.length_toList]; exact hl⟩
end
end Go.Proofs.YticjdabhldielaaGreatDoor
