/-
  What the library reads of the world.
-/
import Derived.Test.YtnopfoagioodjaaDoorA
import Derived.Test.YtnopfoagioodjaaDoorRf
import Derived.Shelf.Strings.MapGrows
import Derived.Lib.LaidTab
namespace Go.Proofs.YtnopfoagioodjaaDoor
open Go.RowKit

/-- What the library reads of the world. -/
structure G (w : World) : Prop where
  max : ∃ m, w.cell? ⟨1, 0, none⟩ = some (.int .i64 m)
theorem G.gr {w w' : World} (h : G w) (hb : Gr w w') : G w' := ⟨h.max.imp fun _ hm => hb.cell hm⟩
theorem G.ch {w w' : World} (h : G w) {T : Nat → Prop} (hc : Ch T w w') (hT : ¬ T 1) : G w' :=
  ⟨h.max.imp fun _ hm => (hc.cell (p := ⟨1, 0, none⟩) (cell_lt hm) hT).trans hm⟩
end Go.Proofs.YtnopfoagioodjaaDoor
