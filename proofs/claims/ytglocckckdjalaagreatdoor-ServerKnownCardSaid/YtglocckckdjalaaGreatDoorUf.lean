/-
  The tables of this program's functions, for the abstract machine.
-/
import Derived.Test.YtglocckckdjalaaGreatDoorU0
import Derived.Test.YtglocckckdjalaaGreatDoorU2
import Derived.Test.YtglocckckdjalaaGreatDoorU4
import Derived.Test.YtglocckckdjalaaGreatDoorSh
import Derived.Test.YtglocckckdjalaaGreatDoorSo
import Derived.Test.YtglocckckdjalaaGreatDoorUi
import Derived.Test.YtglocckckdjalaaGreatDoorUb
import Derived.Test.YtglocckckdjalaaGreatDoorUw
import Derived.Test.YtglocckckdjalaaGreatDoorUr
import Derived.Test.YtglocckckdjalaaGreatDoorUq
import Derived.Test.YtglocckckdjalaaGreatDoorUs
import Derived.KernelRfl
namespace Go.Proofs.YtglocckckdjalaaGreatDoor
open Go.Ra
theorem funcs_size : Tryz.prog.funcs.size = 522 := by kernel_rfl
theorem regions (k : Nat) (fn : Func) (h : Tryz.prog.funcs[k]? = some fn) : okFn Tryz.prog fn = true := by
  have hk := (Array.getElem?_eq_some_iff.1 h).1
  rw [funcs_size] at hk
  refine okAt_fn (k := k) ?_ h
  rcases (show k < 85 ∨ (85 ≤ k ∧ k < 170) ∨ (170 ≤ k ∧ k < 255) ∨ (255 ≤ k ∧ k < 340) ∨ (340 ≤ k ∧ k < 425) ∨ (425 ≤ k ∧ k < 522) by omega) with h | ⟨h, h'⟩ | ⟨h, h'⟩ | ⟨h, h'⟩ | ⟨h, h'⟩ | ⟨h, h'⟩
  · exact okFrom_at _ _ regions0 k (Nat.zero_le _) (by omega)
  · exact okFrom_at _ _ regions1 k h (by omega)
  · exact okFrom_at _ _ regions2 k h (by omega)
  · exact okFrom_at _ _ regions3 k h (by omega)
  · exact okFrom_at _ _ regions4 k h (by omega)
  · exact okFrom_at _ _ regions5 k h (by omega)
theorem named : (Tryz.prog.funcs.toList.all fun fn => fn.name != "runtime.NumGoroutine") = true := by kernel_rfl
theorem named_at (k : Nat) (fn : Func) (h : Tryz.prog.funcs[k]? = some fn) : fn.name ≠ "runtime.NumGoroutine" := by
  have := List.all_eq_true.1 named fn (by
    have := Array.mem_of_getElem? h
    simpa using this)
  simpa using this
theorem index_ok : IndexOk Tryz.prog 304 0 := by
  refine ⟨by decide, fun l w => ?_, fun s sub k w hs hm => Tryz.stringslite_Index s sub k w hs hm⟩
  have hb : (Tryz.f304).body.isSome = true := by kernel_rfl
  obtain ⟨c, hc⟩ := Option.isSome_iff_exists.1 hb
  exact callFunc_enter Tryz.func304 (named_at _ _ Tryz.func304) hc
theorem enter_at {k : Nat} {fn : Func} (h : Tryz.prog.funcs[k]? = some fn) (hb : fn.body.isSome = true) (a : Array Value) (w : World) : (callFunc k a).run Tryz.prog w = .ok (.enter k a) w := by
  obtain ⟨c, hc⟩ := Option.isSome_iff_exists.1 hb
  exact callFunc_enter h (named_at _ _ h) hc
theorem over_ok : OverOk Tryz.prog 210 :=
  ⟨_, 87, 207, 2, 4, Tryz.func210, named_at _ _ Tryz.func210, by kernel_rfl, by kernel_rfl, by kernel_rfl, by kernel_rfl, fun _ => by kernel_rfl⟩
theorem gl_flat : gl.flat = true := by decide +kernel
theorem mixed : Tryz.prog.follows .mixedOrders = true := by kernel_rfl
theorem ftN_ok : FtOk Tryz.prog ftN := tab_ok regions named_at fun p hp => by
  obtain rfl := List.mem_singleton.1 hp
  exact .inr (.inr (.inl ⟨_, rfl, index_ok⟩))
theorem accept_ok : KnownOk Tryz.prog 402 .nil keyA accA := known_ok mixed ftN_ok rfl (by omega) (by omega) (by decide) (enter_at Tryz.func402 (by kernel_rfl)) accept_fn (by decide) (by decide) accept_run
theorem ov0_ok (p : Nat × AFn) (hp : p ∈ ov0) : FnOk Tryz.prog p.1 p.2 := by
  simp only [ov0, List.mem_cons, List.not_mem_nil, or_false] at hp
  rcases hp with rfl | rfl | rfl | rfl
  · exact .inr (.inr (.inl ⟨_, rfl, index_ok⟩))
  · exact .inr (.inr (.inr (.inr (.inr (.inl ⟨_, _, rfl, sorted_ok⟩)))))
  · exact .inr (.inr (.inr (.inr (.inl ⟨rfl, over_ok⟩))))
  · exact .inr (.inr (.inr (.inr (.inr (.inr (.inl ⟨_, _, _, rfl, accept_ok⟩))))))
theorem ft0_ok : FtOk Tryz.prog ft0 := tab_ok regions named_at ov0_ok
/-! publishes, in parts -/
theorem pub_ntmps : Tryz.f18.ntmps ≤ 4096 := by decide +kernel
theorem pub_body : Tryz.f18.body = some (chain pub1 (chain pub2 pubR2)) := by kernel_rfl
theorem pub_ok1 : pub1.mapM (cCode Tryz.prog Tryz.f18.ntmps) = some (acs pub1) := by kernel_rfl
theorem pub_ok2 : pub2.mapM (cCode Tryz.prog Tryz.f18.ntmps) = some (acs pub2) := by kernel_rfl
theorem pub_ok3 : cCode Tryz.prog Tryz.f18.ntmps pubR2 = some pubA := by kernel_rfl
theorem pub_res : Tryz.f18.results.toList.mapM (cRes Tryz.prog Tryz.f18.ntmps) = some pubL := by kernel_rfl
theorem pub_z1 : pubZ1.all (fun q => q.1.plen == lev Tryz.f18.ntmps) = true := by decide +kernel
theorem pub_z2 : pubZ2.all (fun q => q.1.plen == lev Tryz.f18.ntmps) = true := by decide +kernel
theorem publishes_ok : TruthOk Tryz.prog 18 gl :=
  goes_truth gl_flat (nx := 1000) (by omega) (by omega) Tryz.func18 (named_at _ _ Tryz.func18) pub_body pub_ntmps
    (goes_cut mixed ft0_ok pub_ntmps pub_ok1 pub_run1 pub_z1 (goes_cut mixed ft0_ok pub_ntmps pub_ok2 pub_run2 pub_z2 (goes_end mixed ft0_ok pub_ntmps pub_ok3 pub_res pub_run3)))
theorem idles_ok : TruthOk Tryz.prog 17 gl := truth_run mixed ft0_ok gl_flat (by omega) (by omega) (by decide) (enter_at Tryz.func17 (by kernel_rfl)) idles_fn idles_run
theorem breaks_ok : TruthOk Tryz.prog 19 gl := truth_run mixed ft0_ok gl_flat (by omega) (by omega) (by decide) (enter_at Tryz.func19 (by kernel_rfl)) breaks_fn breaks_run
theorem refuses_ok : TruthOk Tryz.prog 20 gl := truth_run mixed ft0_ok gl_flat (by omega) (by omega) (by decide) (enter_at Tryz.func20 (by kernel_rfl)) refuses_fn refuses_run
theorem wakes_ok : TruthOk Tryz.prog 21 gl := truth_run mixed ft0_ok gl_flat (by omega) (by omega) (by decide) (enter_at Tryz.func21 (by kernel_rfl)) wakes_fn wakes_run
theorem ft1_ok : FtOk Tryz.prog ft1 := tab_ok regions named_at fun p hp => by
  unfold ov1 at hp
  simp only [List.mem_cons] at hp
  rcases hp with rfl | rfl | rfl | rfl | rfl | hp
  · exact .inr (.inr (.inr (.inl ⟨_, rfl, idles_ok⟩)))
  · exact .inr (.inr (.inr (.inl ⟨_, rfl, publishes_ok⟩)))
  · exact .inr (.inr (.inr (.inl ⟨_, rfl, breaks_ok⟩)))
  · exact .inr (.inr (.inr (.inl ⟨_, rfl, refuses_ok⟩)))
  · exact .inr (.inr (.inr (.inl ⟨_, rfl, wakes_ok⟩)))
  · exact ov0_ok p hp
theorem server_ok : TruthOk Tryz.prog 3 gl := truth_run mixed ft1_ok gl_flat (by omega) (by omega) (by decide) (enter_at Tryz.func3 (by kernel_rfl)) known_fn known_run1
end Go.Proofs.YtglocckckdjalaaGreatDoor
