/-
  What the closed runs read of the world.
-/
import Derived.Test.YticjdabhldielaaGreatDoorUa
import Derived.Lib.LaidTab
import Derived.Below
namespace Go.Proofs.YticjdabhldielaaGreatDoor
open Go.Ra
/-- Nothing that lay has changed; there may be more. -/
def Gr (w0 w' : World) : Prop := Go.RowKit.Below w0.heap.size w0 w'
/-- The globals' sizes. -/
def sz (g : Nat) : Nat := if g = 0 then 1 else if g = 3 then 20 else 0
noncomputable def kb (g : Nat) : AB := if g = 0 then maxA else if g = 3 then powA else .dead
/-- What the runs read of the world: the globals lie there; one holds a number, one the powers of ten. -/
structure G (w : World) : Prop where
  size : 8 ≤ w.heap.size
  max : ∃ (m : Int) (cs : Array Value), w.heap[0]? = some (.cells cs 3 (0, 0)) ∧ cs = #[.int .i64 m]
  pow : w.heap[3]? = some (.cells ((Lib.pow10Tab.map fun z => Value.int .u64 z).toArray) 467 (0, 0))
theorem avs_rel {m : Mp} (k : IntKind) (l : List Int) : VRels m (avs k l) (l.map fun z => Value.int k z) := by
  induction l with
  | nil => exact .nil
  | cons z l ih => exact .cons _ _ _ _ (.int k z) ih
theorem pow_len : Lib.pow10Tab.length = 20 := Lib.pow10Tab_length
theorem G.inv {W : World} (hG : G W) : Inv Tryz.prog (glo sz) h0 1000 W := by
  have hset : ∀ g, g < 8 → h0.get (bid g) = kb g := by
    intro g hg
    unfold h0 kb
    rw [TB.get_set (by rw [plen_bid, plen_bid]), TB.get_set (by rw [plen_bid, plen_bid]), show (TB.leaf AB.dead).get (bid g) = .dead from TB.gt_leaf _ _]
    by_cases h1 : g = 0
    · subst h1
      rw [if_neg (fun e => by have := bid_inj (by omega) (by omega) e; omega), if_pos rfl, if_pos rfl]
    · rw [if_neg h1]
      by_cases h2 : g = 3
      · subst h2
        rw [if_pos rfl, if_pos rfl]
      · rw [if_neg h2, if_neg (fun e => h2 (bid_inj (by omega) (by omega) e)), if_neg (fun e => h1 (bid_inj (by omega) (by omega) e))]
  refine start_inv (sz := sz) (kb := kb) hset (fun g hg => ?_) (fun g hg => ?_) hG.size (by omega) (by omega)
  · unfold kb
    by_cases h1 : g = 0
    · subst h1
      rw [if_pos rfl]
      obtain ⟨m, cs, hw, rfl⟩ := hG.max
      refine ⟨#[.int .i64 m], (0, 0), hw, ⟨rfl, Nat.le_refl _, by show (1 : Nat) ≤ 0 + 1; omega, fun v hv => ?_, fun o _ ho => ?_, fun o _ _ _ => by simp, fun _ h => absurd rfl h⟩⟩
      · simp at hv; subst hv; rfl
      · obtain rfl : o = 0 := by omega
        exact ⟨_, rfl, .aint m⟩
    · rw [if_neg h1]
      by_cases h2 : g = 3
      · subst h2
        rw [if_pos rfl]
        have hlen : ((Lib.pow10Tab.map fun z => Value.int .u64 z) : List Value).length = 20 := by rw [List.length_map, pow_len]
        have hrow := row_new (e := ⟨3, 0, 20, true⟩) (avs_rel (m := glo sz) .u64 Lib.pow10Tab) (fun v hv => by
          obtain ⟨z, _, rfl⟩ := List.mem_map.1 hv; rfl) (elem := 467) (rest := []) (by simp) rfl (by show 20 = _; rw [hlen]; rfl) (fr := (0, 0)) (fun o _ => by simp) (fz := 18446744073709551616) (fun _ => rfl)
        rw [List.append_nil, (avs_rel (m := glo sz) .u64 Lib.pow10Tab).len, hlen] at hrow
        exact ⟨_, (0, 0), hG.pow, hrow⟩
      · rw [if_neg h2]
        trivial
  · unfold kb sz
    by_cases h1 : g = 0
    · rw [if_pos h1, if_pos h1]
      exact ⟨by show 0 + 1 < 18446744073709551616; omega, Nat.le_refl _⟩
    · rw [if_neg h1, if_neg h1]
      by_cases h2 : g = 3
      · rw [if_pos h2, if_pos h2]
        exact ⟨by show 0 + 20 < 18446744073709551616; omega, Nat.le_refl _⟩
      · rw [if_neg h2, if_neg h2]
        trivial
end Go.Proofs.YticjdabhldielaaGreatDoor
