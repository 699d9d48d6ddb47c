/-
  The function that catches, and what it is made of.
-/
import Derived.Test.YtjjmmakledpifaaGreatDoorUf
import Derived.WalkKit
import Derived.WalkLawsBesides
import Derived.RecoverIn
set_option linter.unusedVariables false
set_option linter.unusedSimpArgs false
namespace Go.Proofs.YtjjmmakledpifaaGreatDoor
open Go.Ra Go.RowKit
theorem need_true (w : World) (h : 8 ≤ w.heap.size) : Calls Tryz.prog 23 #[.bool true] w fun e w' => (∃ v, e = .returned v) ∧ Below w.heap.size w w' := by
  refine (known_run mixed ftN_ok (l := .nil) rfl (by omega) (by omega) (by decide) (vs := [.bool true]) (fun m => .cons _ _ _ _ (.bool _) .nil) need_fn need_run w h trivial).mono fun e w' he => ?_
  obtain ⟨⟨v', _, rfl, _⟩, hb⟩ := he
  exact ⟨⟨v', rfl⟩, hb⟩
theorem itoa_100 (w : World) (h : 8 ≤ w.heap.size) (hG : GlW w gl) : Calls Tryz.prog 61 #[.int .i64 100] w fun e w' => e = .returned (.string ⟨#[49, 48, 48]⟩) ∧ Below w.heap.size w w' := by
  refine (known_run mixed ftN_ok (l := gl) gl_flat (by omega) (by omega) (by decide) (vs := [.int .i64 100]) (fun m => .cons _ _ _ _ (.int _ _) .nil) itoa_fn itoa_run w h hG).mono fun e w' he => ?_
  obtain ⟨⟨v', _, rfl, hv⟩, hb⟩ := he
  exact ⟨by rw [str_is hv (s := ⟨#[49, 48, 48]⟩) rfl], hb⟩
/-- What is raised. -/
def pv : Value := .iface 51 (.string ⟨#[101, 114, 114, 111, 114, 32, 49, 48, 48]⟩)
theorem fail_100 (w : World) (h : 8 ≤ w.heap.size) (hG : GlW w gl) : Calls Tryz.prog 69 #[.int .i64 100] w fun e w' => e = .panicked [{ v := pv, recovered := false }] ∧ Below w.heap.size w w' := by
  go_enter Tryz.func69, Tryz.ntmps69
  go_wp2_with fail
  refine (itoa_100 w h hG).mono ?_
  rintro e w1 ⟨rfl, hb⟩
  go_wp2
  exact ⟨rfl, rfl, hb⟩
theorem need_false (w : World) (h : 8 ≤ w.heap.size) (hG : GlW w gl) : Calls Tryz.prog 23 #[.bool false] w fun e w' => e = .panicked [{ v := pv, recovered := false }] ∧ Below w.heap.size w w' := by
  have hnot : ∀ (x : Bool) (w : World), (Op.unary .not (.bool x)).run Tryz.prog w = .ok (.bool (!x)) w := fun _ _ => rfl
  go_enter Tryz.func23, Tryz.ntmps23
  go_wp2_with fail
  refine (fail_100 w h hG).mono ?_
  rintro e w1 ⟨rfl, hb⟩
  exact ⟨rfl, rfl, hb⟩
theorem clo_back (w : World) (x : Value) : CallsDIn Fence.wide 0 Tryz.prog 22 #[x] .returning w fun e u w' => (∃ v, e = .returned v) ∧ settle u = .returning ∧ Below w.heap.size w w' := by
  refine callsDIn_of_wpSIn Tryz.func22 rfl trivial fun c₀ cs hu => ?_
  apply wpSIn_seq
  apply wpSIn_region
  simp [wpOpsSIn, go_sem, recoverD, hu, Tryz.ntmps22, Exit.thenS]
  apply wpSIn_seq
  apply wpSIn_region
  simp [wpOpsSIn, go_sem, Exit.thenS, Array.replicate]
  refine wpSIn_cond (t := false) (by simp [Act.eval, Array.replicate]) ?_
  simp only [Bool.false_eq_true, if_false]
  refine wpSIn_of_wpIn rfl (wpIn_skip ?_)
  refine ⟨rfl, .returning, ?_, .tuple #[], ?_, ⟨_, rfl⟩, rfl, Below.refl _ _⟩
  · cases c₀
    simp only at hu
    rw [hu]
  · simp [results, Tryz.results22]
theorem clo_catch (w w' : World) (x : Value) (h : (Instr.storeAt 9 x (.string ⟨#[101, 114, 114, 111, 114, 32, 49, 48, 48]⟩)).run Tryz.prog w = .ok () w') :
    CallsDIn Fence.wide 0 Tryz.prog 22 #[x] (.panicking [{ v := pv, recovered := false }]) w fun e u w'' => (∃ v, e = .returned v) ∧ settle u = .returning ∧ w'' = w' := by
  have hta : ∀ w, (Instr.typeAssert pv 20 51 true).run Tryz.prog w = .ok (.tuple #[.string ⟨#[101, 114, 114, 111, 114, 32, 49, 48, 48]⟩, .bool true]) w := fun w => by kernel_rfl
  have hnot : ∀ (x : Bool) (w : World), (Op.unary .not (.bool x)).run Tryz.prog w = .ok (.bool (!x)) w := fun _ _ => rfl
  unfold pv at hta
  refine callsDIn_of_wpSIn Tryz.func22 rfl trivial fun c₀ cs hu => ?_
  apply wpSIn_seq
  apply wpSIn_region
  simp [wpOpsSIn, go_sem, recoverD, hu, pv, Tryz.ntmps22, Exit.thenS]
  apply wpSIn_seq
  apply wpSIn_region
  simp [wpOpsSIn, go_sem, Exit.thenS, Array.replicate]
  refine wpSIn_cond (t := true) (by simp [Act.eval, Array.replicate]) ?_
  simp only [if_true]
  apply wpSIn_seq
  apply wpSIn_region
  simp [wpOpsSIn, go_sem, Exit.thenS, Array.replicate, hta]
  apply wpSIn_seq
  apply wpSIn_seq
  apply wpSIn_region
  simp [wpOpsSIn, go_sem, Exit.thenS, Array.replicate, hnot]
  refine wpSIn_cond (t := false) (by simp [Act.eval, Array.replicate]) ?_
  simp only [Bool.false_eq_true, if_false]
  refine wpSIn_of_wpIn rfl (wpIn_skip ?_)
  simp only [Exit.thenS]
  apply wpSIn_region
  simp [wpOpsSIn, Region.wanted, execOp, Act.eval, Act.put, Sem.run_bind, Sem.run_pure, Result.andThen_ok, h, List.range_succ]
  refine ⟨fun _ _ => trivial, fun _ _ => trivial, rfl, _, rfl, .tuple #[], ?_, ⟨_, rfl⟩, rfl, rfl⟩
  simp [results, Tryz.results22]
end Go.Proofs.YtjjmmakledpifaaGreatDoor
