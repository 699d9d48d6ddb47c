/-
  What the library reads of the world.
-/
import Derived.Test.YtolpphmgobeocaaDoorA
import Derived.Test.YtolpphmgobeocaaDoorRf
namespace Go.Proofs.YtolpphmgobeocaaDoor
open Go.RowKit

/-- What the library reads of the world. -/
def G (w : World) : Prop := (∃ m, w.cell? ⟨0, 0, none⟩ = some (.int .i64 m)) ∧ Lib.Utf8Tabs 1 2 w
theorem G.gr {w w' : World} (h : G w) (hb : Gr w w') : G w' := ⟨h.1.imp fun _ hm => hb.cell hm, Utf8Tabs_below h.2 hb⟩
theorem G.max {w : World} (h : G w) : ∃ m, w.cell? ⟨0, 0, none⟩ = some (.int .i64 m) := h.1
theorem G.utf {w : World} (h : G w) : Lib.Utf8Tabs 1 2 w := h.2
end Go.Proofs.YtolpphmgobeocaaDoor
