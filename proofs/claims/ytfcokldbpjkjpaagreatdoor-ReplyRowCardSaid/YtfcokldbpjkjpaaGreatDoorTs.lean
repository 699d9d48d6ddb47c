/-
  A store of what is there changes nothing.
-/
import Derived.Test.YtfcokldbpjkjpaaGreatDoorRf
namespace Go.Proofs.YtfcokldbpjkjpaaGreatDoor
open Go.RowKit
theorem setCell_self {w : World} {b o : Nat} {v : Value} (h : w.cell? ⟨b, o, none⟩ = some v) : w.setCell ⟨b, o, none⟩ v = w := by
  have hm : w.heap.modify b (fun
      | .cells c elem frozen => .cells (if (⟨b, o, none⟩ : Addr).spot.isSome then c else c.setIfInBounds o v) elem frozen
      | x => x) = w.heap := by
    refine Array.ext (by simp) fun i h1 h2 => ?_
    rw [Array.getElem_modify]
    split
    · rename_i e
      subst e
      unfold World.cell? at h
      have hb : w.heap[b]? = some w.heap[b] := Array.getElem?_eq_getElem h2
      rw [hb] at h
      revert h
      cases w.heap[b] with
      | cells c t f =>
        intro h
        simp at h
        simp only [Obj.cells.injEq, and_true]
        refine Array.ext (by simp) fun j h3 h4 => ?_
        simp only [Option.isSome_none, Bool.false_eq_true, if_false]
        rw [Array.getElem_setIfInBounds]
        split
        · rename_i e
          subst e
          rw [Array.getElem?_eq_getElem h4] at h
          exact (Option.some.inj h).symm
        · rfl
      | _ => intro _; rfl
    · rfl
  exact congrArg (fun h => ({ w with heap := h } : World)) hm
theorem set3_self {w : World} {b : Nat} {u0 u1 u2 : Value} (h0 : w.cell? ⟨b, 0, none⟩ = some u0) (h1 : w.cell? ⟨b, 1, none⟩ = some u1) (h2 : w.cell? ⟨b, 2, none⟩ = some u2) :
    ((w.setCell ⟨b, 0, none⟩ u0).setCell ⟨b, 1, none⟩ u1).setCell ⟨b, 2, none⟩ u2 = w := by
  rw [setCell_self h0, setCell_self h1, setCell_self h2]
end Go.Proofs.YtfcokldbpjkjpaaGreatDoor
