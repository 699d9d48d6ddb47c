/-
  Fields in memory that was made anew.
-/
import Derived.Test.YtheihlalgekojaaDoorG
import Derived.Test.YtheihlalgekojaaDoorRw
import Derived.Test.YtheihlalgekojaaDoorOb
namespace Go.Proofs.YtheihlalgekojaaDoor
open Go.RowKit
def fcell (f : Fl) : List Value := [.string ⟨f.1.toArray⟩, .string ⟨f.2.toArray⟩]
theorem fieldsAt_new (W : World) (fs : List Fl) (t : TypeId) (cap : Nat) : FieldsAt (W.alloc (.cells (rcells fcell fs).toArray t)) (.slice (some ⟨W.heap.size, 0, none⟩) fs.length cap) fs := by
  refine ⟨_, cap, rfl, fun i hi => ⟨W.heap.size, 0, rfl, ?_, ?_⟩⟩
  · rw [Nat.zero_add]
    exact cell_new7 W _ t (i * 2) _ ((rcells_get (f := fcell) (k := 2) (fun _ => rfl) fs i 0 hi (by decide)).trans rfl)
  · rw [Nat.zero_add]
    exact cell_new7 W _ t (i * 2 + 1) _ ((rcells_get (f := fcell) (k := 2) (fun _ => rfl) fs i 1 hi (by decide)).trans rfl)
theorem FieldsAt.put {W : World} {p : Addr} {n cap : Nat} {fs : List Fl} (h : FieldsAt W (.slice (some p) n cap) fs) {a : Addr} (ha : p.block ≠ a.block) (u : Value) : FieldsAt (W.setCell a u) (.slice (some p) n cap) fs := by
  obtain ⟨q, c, e, hc⟩ := h
  injection e with e1 e2 e3
  refine ⟨q, c, by rw [← e1, e2, e3], fun i hi => ?_⟩
  obtain ⟨b, off, hp, h1, h2⟩ := hc i hi
  have hb : b ≠ a.block := by
    rw [hp] at e1
    injection e1 with e1
    rw [e1] at ha
    exact ha
  exact ⟨b, off, hp, cell_set_other h1 (fun e => hb e.symm), cell_set_other h2 (fun e => hb e.symm)⟩
theorem fieldsAt_none (W : World) (cap : Nat) : FieldsAt W (.slice none 0 cap) [] := ⟨none, cap, rfl, fun i hi => absurd hi (Nat.not_lt_zero _)⟩
end Go.Proofs.YtheihlalgekojaaDoor
