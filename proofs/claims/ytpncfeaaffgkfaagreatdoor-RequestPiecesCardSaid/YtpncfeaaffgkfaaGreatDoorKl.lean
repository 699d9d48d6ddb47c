/-
  A slice of bytes in memory.
-/
import Derived.Test.YtpncfeaaffgkfaaGreatDoorKi
namespace Go.Proofs.YtpncfeaaffgkfaaGreatDoor
open Go.RowKit

/-- A slice of bytes in memory. -/
def CutsAt (w : World) (v : Value) (l : List UInt8) : Prop := ∃ p cap, v = .slice p l.length cap ∧ ∀ i (hi : i < l.length), ∃ g off, p = some ⟨g, off, none⟩ ∧ w.cell? ⟨g, off + i, none⟩ = some (.int .u8 (l[i].toNat : Int))
theorem CutsAt.gr {w w' : World} {v : Value} {l : List UInt8} (h : CutsAt w v l) (hb : Gr w w') : CutsAt w' v l := by
  obtain ⟨p, cap, hv, hc⟩ := h
  exact ⟨p, cap, hv, fun i hi => let ⟨g, off, hp, hx⟩ := hc i hi; ⟨g, off, hp, hb.cell hx⟩⟩
end Go.Proofs.YtpncfeaaffgkfaaGreatDoor
