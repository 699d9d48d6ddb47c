/-
  The walk over Get, of package field.
-/
import Derived.Test.YtfcokldbpjkjpaaGreatDoorD
import Derived.Test.YtfcokldbpjkjpaaGreatDoorC
namespace Go.Proofs.YtfcokldbpjkjpaaGreatDoor
open Go.RowKit

abbrev Fl := List UInt8 × List UInt8
/-- A slice value that holds these fields. -/
def FieldsAt (w : World) (v : Value) (fs : List Fl) : Prop :=
  ∃ p cap, v = .slice p fs.length cap ∧ ∀ i, (hi : i < fs.length) → ∃ b off, p = some ⟨b, off, none⟩ ∧ w.cell? ⟨b, off + i * 2, none⟩ = some (.string ⟨fs[i].1.toArray⟩) ∧ w.cell? ⟨b, off + i * 2 + 1, none⟩ = some (.string ⟨fs[i].2.toArray⟩)
theorem FieldsAt.gr {w w' : World} {v : Value} {fs : List Fl} (h : FieldsAt w v fs) (hb : Gr w w') : FieldsAt w' v fs := by
  obtain ⟨p, cap, hv, hc⟩ := h
  exact ⟨p, cap, hv, fun i hi => let ⟨b, off, hp, h1, h2⟩ := hc i hi; ⟨b, off, hp, hb.cell h1, hb.cell h2⟩⟩

/-- The first field of a name, and how many there are. -/
def getB (fs : List Fl) (name : List UInt8) : List UInt8 × Nat :=
  (((fs.filter fun f => alikeB f.1 name).head?.map (·.2)).getD [], (fs.filter fun f => alikeB f.1 name).length)

theorem getB_snoc_f (l : List Fl) (f : Fl) (name : List UInt8) (h : alikeB f.1 name = false) : getB (l ++ [f]) name = getB l name := by
  unfold getB; rw [List.filter_append]; simp [h]
theorem getB_snoc_0 (l : List Fl) (f : Fl) (name : List UInt8) (h : alikeB f.1 name = true) (h0 : (getB l name).2 = 0) : getB (l ++ [f]) name = (f.2, 1) := by
  have h1 : l.filter (fun f => alikeB f.1 name) = [] := List.eq_nil_of_length_eq_zero h0
  unfold getB; rw [List.filter_append, h1]; simp [h]
theorem getB_snoc_s (l : List Fl) (f : Fl) (name : List UInt8) (h : alikeB f.1 name = true) (h0 : (getB l name).2 ≠ 0) : getB (l ++ [f]) name = ((getB l name).1, (getB l name).2 + 1) := by
  unfold getB at h0 ⊢
  simp only [List.filter_append]
  cases hl : l.filter (fun f => alikeB f.1 name) with
  | nil => simp [hl] at h0
  | cons x t => simp [h]
theorem getB_le (l : List Fl) (name : List UInt8) : (getB l name).2 ≤ l.length := List.length_filter_le _ _
theorem getB_cons_t (l : List Fl) (f : Fl) (name : List UInt8) (h : alikeB f.1 name = true) : getB (f :: l) name = (f.2, (getB l name).2 + 1) := by
  unfold getB; simp [h]
theorem getB_cons_f (l : List Fl) (f : Fl) (name : List UInt8) (h : alikeB f.1 name = false) : getB (f :: l) name = getB l name := by
  unfold getB; simp [h]

end Go.Proofs.YtfcokldbpjkjpaaGreatDoor
