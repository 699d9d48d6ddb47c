/-
  The walk over ChainNobody.
-/
import Derived.Test.YtolpphmgobeocaaDoorCz
namespace Go.Proofs.YtolpphmgobeocaaDoor
open Go.RowKit Go.Shelf
attribute [local go_sem] Oper.semAt_some

set_option maxHeartbeats 2000000 in
set_option maxRecDepth 100000 in
theorem nobody_any (lv : Value) (ss : List Stp) (w : World) (hG : G w) (hx : StepsAt w lv ss) (hls : ss.length ≤ 9223372036854775807) :
    Calls Tryd.prog 4 #[lv] w fun e w' => e = .returned (.bool true) ∧ Gr w w' := by
  have hgr := Lib.hid (great_any lv (.slice none 0 0) ss ⟨[], [], [], 0, [], [], false⟩ w hx (fieldsAt_nil w) hls (by decide) (by decide) (by decide))
  obtain ⟨p, cap, rfl, _⟩ := hx
  have hG' := Lib.hid hG
  clear hG
  have hnf := fun (w : World) => run_eql_nil_nil (P := Tryd.prog) w Tryd.underlying40
  go_enter Tryd.func4, Tryd.ntmps4
  go_wp2_with fail
  refine hgr.out.mono ?_
  rintro e w1 ⟨b, rfl, _, hb1⟩
  have hg1 := Lib.hid hb1
  clear hb1
  cases b
  · go_wp2_with fail
    refine (wrap_nil _ _ _ _).mono ?_
    rintro e w2 ⟨rfl, hb2⟩
    have hg2 := Lib.hid (hg1.out.trans hb2)
    clear hb2
    go_wp2_with fail
    refine (wakes_any _ (hG'.out.gr hg2.out)).mono ?_
    rintro e w3 ⟨rfl, hb3⟩
    have hg3 := Lib.hid (hg2.out.trans hb3)
    clear hb3
    go_wp2
    go_ret
    exact ⟨rfl, hg3.out⟩
  · go_wp2_with fail
    refine (wakes_any _ (hG'.out.gr hg1.out)).mono ?_
    rintro e w3 ⟨rfl, hb3⟩
    have hg3 := Lib.hid (hg1.out.trans hb3)
    clear hb3
    go_wp2
    go_ret
    exact ⟨rfl, hg3.out⟩
end Go.Proofs.YtolpphmgobeocaaDoor
