/-
  The table of this program's functions, for the abstract machine.
-/
import Derived.Test.YtjjmmakledpifaaGreatDoorU0
import Derived.Test.YtjjmmakledpifaaGreatDoorU2
import Derived.Test.YtjjmmakledpifaaGreatDoorU4
import Derived.Test.YtjjmmakledpifaaGreatDoorU5
import Derived.Test.YtjjmmakledpifaaGreatDoorSh
import Derived.Test.YtjjmmakledpifaaGreatDoorUr
import Derived.KernelRfl
namespace Go.Proofs.YtjjmmakledpifaaGreatDoor
open Go.Ra
theorem funcs_size : Tryz.prog.funcs.size = 569 := by kernel_rfl
theorem regions (k : Nat) (fn : Func) (h : Tryz.prog.funcs[k]? = some fn) : okFn Tryz.prog fn = true := by
  have hk := (Array.getElem?_eq_some_iff.1 h).1
  rw [funcs_size] at hk
  refine okAt_fn (k := k) ?_ h
  rcases (show k < 85 ∨ (85 ≤ k ∧ k < 170) ∨ (170 ≤ k ∧ k < 255) ∨ (255 ≤ k ∧ k < 340) ∨ (340 ≤ k ∧ k < 425) ∨ (425 ≤ k ∧ k < 510) ∨ (510 ≤ k ∧ k < 569) by omega) with h | ⟨h, h'⟩ | ⟨h, h'⟩ | ⟨h, h'⟩ | ⟨h, h'⟩ | ⟨h, h'⟩ | ⟨h, h'⟩
  · exact okFrom_at _ _ regions0 k (Nat.zero_le _) (by omega)
  · exact okFrom_at _ _ regions1 k h (by omega)
  · exact okFrom_at _ _ regions2 k h (by omega)
  · exact okFrom_at _ _ regions3 k h (by omega)
  · exact okFrom_at _ _ regions4 k h (by omega)
  · exact okFrom_at _ _ regions5 k h (by omega)
  · exact okFrom_at _ _ regions6 k h (by omega)
theorem named : (Tryz.prog.funcs.toList.all fun fn => fn.name != "runtime.NumGoroutine") = true := by kernel_rfl
theorem named_at (k : Nat) (fn : Func) (h : Tryz.prog.funcs[k]? = some fn) : fn.name ≠ "runtime.NumGoroutine" := by
  have := List.all_eq_true.1 named fn (by
    have := Array.mem_of_getElem? h
    simpa using this)
  simpa using this
theorem index_ok : IndexOk Tryz.prog 117 0 := by
  refine ⟨by decide, fun l w => ?_, fun s sub k w hs hm => Tryz.stringslite_Index s sub k w hs hm⟩
  have hb : (Tryz.f117).body.isSome = true := by kernel_rfl
  obtain ⟨c, hc⟩ := Option.isSome_iff_exists.1 hb
  exact callFunc_enter Tryz.func117 (named_at _ _ Tryz.func117) hc
theorem gl_flat : gl.flat = true := by decide +kernel
theorem mixed : Tryz.prog.follows .mixedOrders = true := by kernel_rfl
theorem enter_at {k : Nat} {fn : Func} (h : Tryz.prog.funcs[k]? = some fn) (hb : fn.body.isSome = true) (a : Array Value) (w : World) : (callFunc k a).run Tryz.prog w = .ok (.enter k a) w := by
  obtain ⟨c, hc⟩ := Option.isSome_iff_exists.1 hb
  exact callFunc_enter h (named_at _ _ h) hc
theorem ftN_ok : FtOk Tryz.prog ftN := tab_ok regions named_at fun p hp => by
  obtain rfl := List.mem_singleton.1 hp
  exact .inr (.inr (.inl ⟨_, rfl, index_ok⟩))
theorem accept_ok : KnownOk Tryz.prog 473 .nil keyA accA := known_ok mixed ftN_ok rfl (by omega) (by omega) (by decide) (enter_at Tryz.func473 (by kernel_rfl)) accept_fn (by decide) (by decide) accept_run
end Go.Proofs.YtjjmmakledpifaaGreatDoor
