/-
  The tables with the function that catches; wakes as a thing of its own.
-/
import Derived.Test.YtjjmmakledpifaaGreatDoorUt
import Derived.Test.YtjjmmakledpifaaGreatDoorUw
namespace Go.Proofs.YtjjmmakledpifaaGreatDoor
open Go.Ra
theorem doesT_c : doesT.c = 22 := by kernel_rfl
theorem doesT_ty : doesT.ty = 9 := by kernel_rfl
theorem does_ok : TrapOk Tryz.prog 11 doesF Tryz.f11 doesT 23 pv ⟨#[101, 114, 114, 111, 114, 32, 49, 48, 48]⟩ gl := {
  func := Tryz.func11
  name := named_at _ _ Tryz.func11
  size := by constructor <;> decide +kernel
  body := by kernel_rfl
  res := by kernel_rfl
  y := ⟨⟨#[], by kernel_rfl⟩, by kernel_rfl, by kernel_rfl⟩
  z := ⟨⟨#[4], by kernel_rfl⟩, by kernel_rfl⟩
  ok := by kernel_rfl
  ty := by kernel_rfl
  c := by rw [doesT_c]; decide
  q := by kernel_rfl
  flat := gl_flat
  need := enter_at Tryz.func23 (by kernel_rfl)
  clo := by rw [doesT_c]; exact enter_at Tryz.func22 (by kernel_rfl)
  yes := need_true
  no := need_false
  back := by rw [doesT_c]; exact clo_back
  catch_ := by rw [doesT_c, doesT_ty]; exact clo_catch }
set_option maxRecDepth 100000 in
theorem ov0_ok (p : Nat × AFn) (hp : p ∈ ov0) : FnOk Tryz.prog p.1 p.2 := by
  simp only [ov0, List.mem_cons, List.not_mem_nil, or_false] at hp
  rcases hp with rfl | rfl | rfl
  · exact .inr (.inr (.inl ⟨_, rfl, index_ok⟩))
  · exact .inr (.inr (.inr (.inr (.inr (.inr (.inl ⟨_, _, _, rfl, accept_ok⟩))))))
  · exact (show FnOk Tryz.prog 11 doesF from .inr (.inl ⟨Tryz.f11, doesT, 23, pv, _, gl, does_ok⟩))
theorem ft0_ok : FtOk Tryz.prog ft0 := tab_ok regions named_at ov0_ok
theorem wakes_ok : TruthOk Tryz.prog 5 gl := truth_run mixed ft0_ok gl_flat (by omega) (by omega) (by decide) (enter_at Tryz.func5 (by kernel_rfl)) wakes_fn wakes_run
theorem ft1_ok : FtOk Tryz.prog ft1 := tab_ok regions named_at fun p hp => by
  unfold ov1 at hp
  rcases List.mem_cons.1 hp with rfl | hp
  · exact .inr (.inr (.inr (.inl ⟨_, rfl, wakes_ok⟩)))
  · exact ov0_ok p hp
end Go.Proofs.YtjjmmakledpifaaGreatDoor
