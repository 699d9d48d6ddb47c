/-
  What the library reads of the world.
-/
import Derived.Test.YtfcokldbpjkjpaaGreatDoorA
import Derived.Test.YtfcokldbpjkjpaaGreatDoorRf
import Derived.Shelf.Strings.MapGrows
import Derived.Lib.LaidTab
import Derived.Lib.ItoaNum
import Derived.Lib.AppendIntMem
namespace Go.Proofs.YtfcokldbpjkjpaaGreatDoor
open Go.RowKit

/-- What the library reads of the world. -/
structure G (w : World) : Prop where
  max : ∃ m, w.cell? ⟨0, 0, none⟩ = some (.int .i64 m)
  utf : Lib.Utf8Tabs 2 3 w
  pow : Lib.TabIs Tryz.prog w "internal/strconv.uint64pow10" .u64 Lib.pow10Tab
  syn : ∃ te pe, w.cell? ⟨4, 0, none⟩ = some (.iface te pe)
  rng : ∃ te pe, w.cell? ⟨5, 0, none⟩ = some (.iface te pe)
theorem G.gr {w w' : World} (h : G w) (hb : Gr w w') : G w' :=
  ⟨h.max.imp fun _ hm => hb.cell hm, Utf8Tabs_below h.utf hb, Lib.tabBelow_of_tabIs h.pow w' hb, let ⟨te, pe, hs⟩ := h.syn; ⟨te, pe, hb.cell hs⟩, let ⟨te, pe, hs⟩ := h.rng; ⟨te, pe, hb.cell hs⟩⟩
end Go.Proofs.YtfcokldbpjkjpaaGreatDoor
