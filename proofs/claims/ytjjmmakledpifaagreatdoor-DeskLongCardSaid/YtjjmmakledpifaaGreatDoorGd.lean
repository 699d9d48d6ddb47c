/-
  What the closed runs read of the world.
-/
import Derived.Test.YtjjmmakledpifaaGreatDoorUv
import Derived.Lib.LaidTab
import Derived.Lib.ItoaNum
import Derived.Below
namespace Go.Proofs.YtjjmmakledpifaaGreatDoor
open Go.Ra
/-- Nothing that lay has changed; there may be more. -/
def Gr (w0 w' : World) : Prop := Go.RowKit.Below w0.heap.size w0 w'
/-- What the runs read of the world: the globals lie there; one holds a number, one the powers of ten. -/
structure G (w : World) : Prop where
  size : 8 ≤ w.heap.size
  max : ∃ (m : Int) (cs : Array Value), w.heap[0]? = some (.cells cs 3 (0, 0)) ∧ cs = #[.int .i64 m]
  pow : w.heap[5]? = some (.cells ((Lib.pow10Tab.map fun z => Value.int .u64 z).toArray) 274 (0, 0))
theorem avs_rel {m : Mp} (k : IntKind) (l : List Int) : VRels m (avs k l) (l.map fun z => Value.int k z) := by
  induction l with
  | nil => exact .nil
  | cons z l ih => exact .cons _ _ _ _ (.int k z) ih
theorem pow_len : Lib.pow10Tab.length = 20 := Lib.pow10Tab_length
theorem pows_eq : pows = Lib.pow10Tab := by decide
theorem G.holds {W : World} (hG : G W) : GlW W gl := by
  refine ⟨⟨_, (0, 0), hG.pow, ?_, fun v hv => ?_, fun h => absurd rfl h, ?_, ?_⟩, ⟨?_, trivial⟩⟩
  · rw [List.size_toArray, List.length_map, pow_len]; omega
  · have hv := List.mem_of_mem_take hv
    rw [List.toList_toArray] at hv
    obtain ⟨z, _, rfl⟩ := List.mem_map.1 hv
    rfl
  · rw [List.size_toArray, List.length_map, pow_len]; omega
  · have h20 : ((Lib.pow10Tab.map fun z => Value.int .u64 z) : List Value).take 20 = Lib.pow10Tab.map fun z => Value.int .u64 z := List.take_of_length_le (by rw [List.length_map, pow_len]; omega)
    show VRels _ (avs .u64 pows) (List.take 20 _)
    rw [h20, pows_eq]
    exact avs_rel .u64 Lib.pow10Tab
  · obtain ⟨m, cs, hw, rfl⟩ := hG.max
    refine ⟨_, (0, 0), hw, by show (1 : Nat) < 18446744073709551616; omega, fun v hv => ?_, fun h => absurd rfl h, Nat.le_refl 1, .cons _ _ _ _ (.aint m) .nil⟩
    simp at hv
    subst hv
    rfl
theorem G.inv {W : World} (hG : G W) : Inv Tryz.prog (glo (szW W)) (glH gl) 1000 W := start_gl gl_flat hG.size hG.holds (by omega) (by omega)
end Go.Proofs.YtjjmmakledpifaaGreatDoor
