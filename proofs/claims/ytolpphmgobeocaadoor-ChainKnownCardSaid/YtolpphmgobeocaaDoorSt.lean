/-
  Slices of texts in memory.
-/
import Derived.Test.YtolpphmgobeocaaDoorRf
namespace Go.Proofs.YtolpphmgobeocaaDoor
open Go.RowKit

/-- A slice value that holds these texts. -/
def StrsAt (w : World) (v : Value) (xs : List (List UInt8)) : Prop :=
  ∃ p cap, v = .slice p xs.length cap ∧ ∀ i, (hi : i < xs.length) → ∃ b off, p = some ⟨b, off, none⟩ ∧ w.cell? ⟨b, off + i, none⟩ = some (.string ⟨xs[i].toArray⟩)
theorem StrsAt.gr {w w' : World} {v : Value} {xs : List (List UInt8)} (h : StrsAt w v xs) (hb : Gr w w') : StrsAt w' v xs := by
  obtain ⟨p, cap, hv, hc⟩ := h
  exact ⟨p, cap, hv, fun i hi => let ⟨b, off, hp, h1⟩ := hc i hi; ⟨b, off, hp, hb.cell h1⟩⟩
end Go.Proofs.YtolpphmgobeocaaDoor
