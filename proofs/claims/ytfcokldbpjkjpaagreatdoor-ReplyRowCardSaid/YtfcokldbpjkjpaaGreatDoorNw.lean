/-
  Arguments that are replies, fields, marks, opened with their bounds.
-/
import Derived.Test.YtfcokldbpjkjpaaGreatDoorN
import Derived.Test.YtfcokldbpjkjpaaGreatDoorNf
import Derived.Test.YtfcokldbpjkjpaaGreatDoorVr
import Derived.Test.YtfcokldbpjkjpaaGreatDoorOb
import Derived.Lib.SmallJoins
import Derived.OpenShut
namespace Go.Proofs.YtfcokldbpjkjpaaGreatDoor
open Go.RowKit Go.Lib Go.Joins
section
open Go.ChangeShapes Go.WideShapes Go.Deep
variable {H : Type} {enc : TypeId × Value → H}
theorem str_in {W : World} {fuel : Nat} {v : Value} {x : DataW H × List MemPlace} (h : DataW.trod enc Tryz.prog W 0 (fun _ => true) true fuel 9 [v] = some x) :
    ∃ l : List UInt8, v = .string ⟨l.toArray⟩ ∧ l.length ≤ 9223372036854775807 := by
  obtain ⟨s, e, _, hl⟩ := DataW.trod_string Tryz.underlying9 h
  rw [List.cons.injEq] at e
  refine ⟨s.data.toList, by rw [e.1, show (⟨(s.data.toList).toArray⟩ : ByteArray) = s from Lib.mk_data s], ?_⟩
  have := size_mk s.data.toList
  rw [show (⟨(s.data.toList).toArray⟩ : ByteArray) = s from Lib.mk_data s] at this
  rw [← this]; exact hl
theorem int_in {W : World} {fuel : Nat} {v : Value} {x : DataW H × List MemPlace} (h : DataW.trod enc Tryz.prog W 0 (fun _ => true) true fuel 3 [v] = some x) :
    ∃ n : Int, v = .int .i64 n ∧ -9223372036854775808 ≤ n ∧ n ≤ 9223372036854775807 := by
  obtain ⟨n, e, hx, hw⟩ := DataW.trod_int Tryz.underlying3 h
  rw [List.cons.injEq] at e
  refine ⟨n, e.1, ?_⟩
  simpa [Lit.wf, IntKind.min, IntKind.max, IntKind.signed, IntKind.bits] using hw
theorem replyStruct2 : ∃ f0 f1 f2, Tryz.prog.underlying 24 = some (.struct #[f0, f1, f2]) ∧ f0.type = 3 ∧ f1.type = 22 ∧ f2.type = 9 ∧ oneCellFields Tryz.prog #[f0, f1, f2] = true := ⟨_, _, _, Tryz.underlying24, rfl, rfl, rfl, by kernel_rfl⟩
theorem replyCells2 : Tryz.prog.cellsOf 24 = 3 := by kernel_rfl
set_option maxRecDepth 100000 in
/-- An argument that is a reply. -/
theorem reply_all {W : World} {base : Nat} {v : Value} {d : DataW H} {p : List MemPlace} (hv : Value.okWide Tryz.prog W .any base 24 v) (h : DataW.Trod enc Tryz.prog W 0 (fun _ => true) true 24 v d p) :
    ∃ (x : Rp) (t : Value), v = x.V t ∧ FieldsAt W t x.fs ∧ x.fs.length ≤ 9223372036854775807 ∧ x.b.length ≤ 9223372036854775807 ∧ (∀ f ∈ x.fs, f.1.length ≤ 9223372036854775807 ∧ f.2.length ≤ 9223372036854775807) ∧ (-9223372036854775808 ≤ x.code ∧ x.code ≤ 9223372036854775807) := by
  obtain ⟨f0, f1, f2, hs, ht0, ht1, ht2, hone⟩ := replyStruct2
  obtain ⟨v0, v1, v2, y0, y1, y2, n, rfl, _, _, h0, h1, h2⟩ := open_agg3 hs hone replyCells2 hv h
  rw [ht0] at h0
  rw [ht1] at h1
  rw [ht2] at h2
  obtain ⟨c, rfl, hc⟩ := int_in h0
  obtain ⟨fs, hf, hl, hls⟩ := fields_at h1
  obtain ⟨b, rfl, hlb⟩ := str_in h2
  exact ⟨⟨c, fs, b⟩, v1, rfl, hf, hl, hlb, hls, hc⟩
end
end Go.Proofs.YtfcokldbpjkjpaaGreatDoor
