/-
  The tables with the function that catches; wakes as a thing of its own.
-/
import Derived.Test.YtjjmmakledpifaaGreatDoorUt
import Derived.Test.YtjjmmakledpifaaGreatDoorUw
namespace Go.Proofs.YtjjmmakledpifaaGreatDoor
open Go.Ra
theorem doesT_c : doesT.c = 22 := by kernel_rfl
theorem doesT_ty : doesT.ty = 9 := by kernel_rfl
theorem does_ok : TrapOk Tryz.prog 11 doesF Tryz.f11 doesT 23 pv ⟨#[101, 114, 114, 111, 114, 32, 49, 48, 48]⟩ gl := {
  func := Tryz.func11
  name := named_at _ _ Tryz.func11
  size := by constructor <;> decide +kernel
  body := by kernel_rfl
  res := by kernel_rfl
  y := ⟨⟨#[], by kernel_rfl⟩, by kernel_rfl, by kernel_rfl⟩
  z := ⟨⟨#[4], by kernel_rfl⟩, by kernel_rfl⟩
  ok := by kernel_rfl
  ty := by kernel_rfl
  c := by rw [doesT_c]; decide
  q := by kernel_rfl
  flat := gl_flat
  need := enter_at Tryz.func23 (by kernel_rfl)
  clo := by rw [doesT_c]; exact enter_at Tryz.func22 (by kernel_rfl)
  yes := need_true
  no := need_false
  back := by rw [doesT_c]; exact clo_back
  catch_ := by rw [doesT_c, doesT_ty]; exact clo_catch }
theorem ft0_ok : FtOk Tryz.prog ft0 := tab_ok regions named_at index_ok (fun _ h => by cases h) (fun _ => ⟨_, _, _, _, _, _, does_ok⟩)
theorem wakes_ok : TruthOk Tryz.prog 5 gl := by
  have hb : (Tryz.f5).body.isSome = true := by kernel_rfl
  obtain ⟨c, hc⟩ := Option.isSome_iff_exists.1 hb
  exact truth_run mixed ft0_ok gl_flat (by omega) (by omega) (by decide) (fun _ _ => callFunc_enter Tryz.func5 (named_at _ _ Tryz.func5) hc) wakes_fn wakes_run
theorem ft1_ok : FtOk Tryz.prog ft1 := tab_ok regions named_at index_ok (fun f h => by
  obtain rfl := List.mem_singleton.1 h
  exact wakes_ok) (fun _ => ⟨_, _, _, _, _, _, does_ok⟩)
end Go.Proofs.YtjjmmakledpifaaGreatDoor
