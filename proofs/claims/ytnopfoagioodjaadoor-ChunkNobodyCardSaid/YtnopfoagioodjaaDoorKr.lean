/-
  Walks over package chunk: what a nil reader answers.
-/
import Derived.Test.YtnopfoagioodjaaDoorKk
namespace Go.Proofs.YtnopfoagioodjaaDoor
open Go.RowKit
attribute [local go_sem] Oper.semAt_some

set_option maxHeartbeats 2000000 in
theorem nfeed_any (s : ByteArray) (W : World) : Calls Tryd.prog 12 #[.pointer none, .string s] W fun e W' => e = .returned (.int .i64 0) ∧ W = W' := by
  go_enter Tryd.func12, Tryd.ntmps12
  go_wp2
  refine bodyPost_ret (v := .int .i64 0) (by simp [results, Tryd.results12, go_sem]) rfl ⟨rfl, rfl⟩
set_option maxHeartbeats 2000000 in
theorem ndata_any (W : World) : Calls Tryd.prog 14 #[.pointer none] W fun e W' => e = .returned (.string ⟨#[]⟩) ∧ W = W' := by
  go_enter Tryd.func14, Tryd.ntmps14
  go_wp2
  refine bodyPost_ret (v := .string ⟨#[]⟩) (by simp [results, Tryd.results14, go_sem]) rfl ⟨rfl, rfl⟩
set_option maxHeartbeats 2000000 in
theorem ndone_any (W : World) : Calls Tryd.prog 15 #[.pointer none] W fun e W' => e = .returned (.bool false) ∧ W = W' := by
  go_enter Tryd.func15, Tryd.ntmps15
  go_wp2
  refine bodyPost_ret (v := .bool false) (by simp [results, Tryd.results15, go_sem]) rfl ⟨rfl, rfl⟩
set_option maxHeartbeats 2000000 in
theorem nbad_any (W : World) : Calls Tryd.prog 16 #[.pointer none] W fun e W' => e = .returned (.int .i64 400) ∧ W = W' := by
  go_enter Tryd.func16, Tryd.ntmps16
  go_wp2
  refine bodyPost_ret (v := .int .i64 400) (by simp [results, Tryd.results16, go_sem]) rfl ⟨rfl, rfl⟩
end Go.Proofs.YtnopfoagioodjaaDoor
