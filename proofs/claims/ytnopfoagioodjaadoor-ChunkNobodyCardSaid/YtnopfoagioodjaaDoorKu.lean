/-
  The walk over ChunkNobody.
-/
import Derived.Test.YtnopfoagioodjaaDoorKt
import Derived.Test.YtnopfoagioodjaaDoorKr
namespace Go.Proofs.YtnopfoagioodjaaDoor
open Go.RowKit
attribute [local go_sem] Oper.semAt_some

theorem Rd.fresh (W : World) (t : TypeId) : Rd W.heap.size (W.alloc (.cells #[.int .i64 0, .slice none 0 0, .int .i64 0, .slice none 0 0, .int .i64 0, .int .i64 0, .int .i64 0] t)) ck0 (.slice none 0 0) (.slice none 0 0) :=
  ⟨cell_new7 _ [.int .i64 0, .slice none 0 0, .int .i64 0, .slice none 0 0, .int .i64 0, .int .i64 0, .int .i64 0] _ 0 _ rfl, cell_new7 _ [.int .i64 0, .slice none 0 0, .int .i64 0, .slice none 0 0, .int .i64 0, .int .i64 0, .int .i64 0] _ 1 _ rfl, cell_new7 _ [.int .i64 0, .slice none 0 0, .int .i64 0, .slice none 0 0, .int .i64 0, .int .i64 0, .int .i64 0] _ 2 _ rfl, cell_new7 _ [.int .i64 0, .slice none 0 0, .int .i64 0, .slice none 0 0, .int .i64 0, .int .i64 0, .int .i64 0] _ 3 _ rfl, cell_new7 _ [.int .i64 0, .slice none 0 0, .int .i64 0, .slice none 0 0, .int .i64 0, .int .i64 0, .int .i64 0] _ 4 _ rfl, cell_new7 _ [.int .i64 0, .slice none 0 0, .int .i64 0, .slice none 0 0, .int .i64 0, .int .i64 0, .int .i64 0] _ 5 _ rfl, cell_new7 _ [.int .i64 0, .slice none 0 0, .int .i64 0, .slice none 0 0, .int .i64 0, .int .i64 0, .int .i64 0] _ 6 _ rfl, fun o => World.frozen?_alloc_at _ _ _ _ rfl, OwnB.nil _ _, OwnB.nil _ _, fun k hk => by cases hk⟩

set_option maxHeartbeats 4000000 in
set_option maxRecDepth 20000 in
theorem nobody_law (s : List UInt8) (w : World) (hG : G w) (hs : s.length ≤ 9223372036854775807) :
    Calls Tryd.prog 4 #[.string ⟨s.toArray⟩] w fun e w' => e = .returned (.bool true) ∧ Gr w w' := by
  have hG' := Lib.hid hG
  clear hG
  by_cases hl : s.length ≤ 2000
  · obtain ⟨⟨n, c'⟩, hx⟩ : ∃ x, feedC ck0 s = x := ⟨_, rfl⟩
    obtain ⟨d, hd⟩ : ∃ d, c'.data = d := ⟨_, rfl⟩
    obtain ⟨f, hf⟩ : ∃ f, decide (c'.st = 4 ∧ c'.bad = 0) = f := ⟨_, rfl⟩
    obtain ⟨b, hb⟩ : ∃ b, c'.bad = b := ⟨_, rfl⟩
    have hrd := Lib.hid (fun W => rreads_is s d n b f (by rw [hx, ← hd, ← hf, ← hb]; rfl) (by omega) W)
    have hx' := Lib.hid hx
    have hd' := Lib.hid hd
    have hf' := Lib.hid hf
    have hb' := Lib.hid hb
    clear hx hd hf hb
    go_enter Tryd.func4, Tryd.ntmps4
    go_wp2_with fail
    refine (awake_any _ hG'.out).mono ?_
    rintro e w0 ⟨rfl, hg⟩
    have g0 := Lib.hid hg
    have hbb := Lib.hid (show w.heap.size ≤ w0.heap.size from g0.out.size)
    clear hg
    go_wp2_with fail
    refine (done_is w0.heap.size ck0 false (by decide) _ _ _ (Rd.fresh w0 _)).mono ?_
    rintro e w1 ⟨rfl, hw1⟩
    have hR1 := Lib.hid (hw1 ▸ Rd.fresh w0 _ : Rd w0.heap.size w1 ck0 (.slice none 0 0) (.slice none 0 0))
    have g1 := Lib.hid (hw1 ▸ g0.out.trans (Gr.alloc w0 _) : Gr w w1)
    clear hw1
    go_wp2_with fail
    refine (bad_is w0.heap.size ck0 0 rfl _ _ w1 hR1.out).mono ?_
    rintro e w2 ⟨rfl, rfl⟩
    go_wp2_with fail
    refine (data_is w0.heap.size ck0 [] rfl _ _ w1 hR1.out).mono ?_
    rintro e w2 ⟨rfl, rfl⟩
    go_wp2_with fail
    refine (cfeed_is w0.heap.size ck0 c' s n hx'.out _ _ w1 (hG'.out.gr g1.out) (by have := hG'.out.lt; have := hbb.out; omega) hR1.out ck0_ok (by omega)).mono ?_
    rintro e w2 ⟨rfl, hp⟩
    have g2 := Lib.hid (hp.made hR1.out hbb.out g1.out)
    obtain ⟨lv, dv, hR, _, _⟩ := hp
    have hR2 := Lib.hid hR
    clear hR
    go_wp2_with fail
    refine (hrd.out _).mono ?_
    rintro e w3 ⟨rfl, hg⟩
    have hR3 := Lib.hid (hR2.out.gr hg)
    have g3 := Lib.hid (g2.out.trans hg)
    clear hg
    go_wp2_with fail
    refine (nfeed_any _ w3).mono ?_
    rintro e w4 ⟨rfl, rfl⟩
    go_wp2_with fail
    refine (ndata_any w3).mono ?_
    rintro e w4 ⟨rfl, rfl⟩
    go_wp2_with fail
    refine (ndone_any w3).mono ?_
    rintro e w4 ⟨rfl, rfl⟩
    go_wp2_with fail
    refine (nbad_any w3).mono ?_
    rintro e w4 ⟨rfl, rfl⟩
    go_wp2_with fail
    refine (data_is _ c' _ hd'.out _ _ w3 hR3.out).mono ?_
    rintro e w4 ⟨rfl, rfl⟩
    go_wp2_with fail
    refine (done_is _ c' _ hf'.out _ _ w3 hR3.out).mono ?_
    rintro e w4 ⟨rfl, rfl⟩
    go_wp2_with fail
    refine (bad_is _ c' _ hb'.out _ _ w3 hR3.out).mono ?_
    rintro e w4 ⟨rfl, rfl⟩
    go_wp2
    go_ret
    exact ⟨rfl, g3.out⟩
  · have hlI : ¬ (s.length : Int) ≤ 2000 := by omega
    go_enter Tryd.func4, Tryd.ntmps4
    go_wp2_with fail
    refine (awake_any _ hG'.out).mono ?_
    rintro e w0 ⟨rfl, hg⟩
    have g0 := Lib.hid hg
    clear hg
    go_wp2
    go_ret
    exact ⟨rfl, g0.out⟩
end Go.Proofs.YtnopfoagioodjaaDoor
