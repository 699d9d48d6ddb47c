/-
  The walk over ChunkReads.
-/
import Derived.Test.YtnopfoagioodjaaDoorKk
import Derived.Test.YtnopfoagioodjaaDoorKs
namespace Go.Proofs.YtnopfoagioodjaaDoor
open Go.RowKit
attribute [local go_sem] Oper.semAt_some

theorem rreads_is (s d : List UInt8) (n b : Nat) (f : Bool) (h : resC (feedC ck0 s) = (n, d, f, b)) (hl : s.length ≤ 1000000) (w : World) :
    Calls Tryd.prog 13 #[.string ⟨s.toArray⟩] w fun e w' => e = .returned (.tuple #[.int .i64 n, .string ⟨d.toArray⟩, .bool f, .int .i64 b]) ∧ Gr w w' := by
  have := rreads_any s hl w; rw [h] at this; exact this

set_option maxHeartbeats 4000000 in
set_option maxRecDepth 20000 in
theorem reads_law (s : List UInt8) (w : World) (hG : G w) (hs : s.length ≤ 9223372036854775807) :
    Calls Tryd.prog 3 #[.string ⟨s.toArray⟩] w fun e w' => e = .returned (.bool true) ∧ Gr w w' := by
  have hG' := Lib.hid hG
  clear hG
  by_cases hl : s.length ≤ 10000
  · obtain ⟨⟨n, c'⟩, hx⟩ : ∃ x, feedC ck0 s = x := ⟨_, rfl⟩
    obtain ⟨d, hd⟩ : ∃ d, c'.data = d := ⟨_, rfl⟩
    obtain ⟨f, hf⟩ : ∃ f, decide (c'.st = 4 ∧ c'.bad = 0) = f := ⟨_, rfl⟩
    obtain ⟨b, hb⟩ : ∃ b, c'.bad = b := ⟨_, rfl⟩
    have hrd := Lib.hid (fun W => rreads_is s d n b f (by rw [hx, ← hd, ← hf, ← hb]; rfl) (by omega) W)
    have hx' := Lib.hid hx
    have hd' := Lib.hid hd
    have hf' := Lib.hid hf
    have hb' := Lib.hid hb
    clear hx hd hf hb
    go_enter Tryd.func3, Tryd.ntmps3
    go_wp2_with fail
    refine (awake_any _ hG'.out).mono ?_
    rintro e w0 ⟨rfl, hg⟩
    have g0 := Lib.hid hg
    clear hg
    go_wp2_with fail
    refine (new_any _).mono ?_
    rintro e w1 ⟨rfl, hR, hg⟩
    have hR1 := Lib.hid hR
    have g1 := Lib.hid (g0.out.trans hg)
    have hbb := Lib.hid (show w.heap.size ≤ w0.heap.size from g0.out.size)
    clear hR hg
    go_wp2_with fail
    refine (cfeed_is w0.heap.size ck0 c' s n hx'.out _ _ w1 (hG'.out.gr g1.out) (by have := hG'.out.lt; have := hbb.out; omega) hR1.out ck0_ok (by omega)).mono ?_
    rintro e w2 ⟨rfl, hp⟩
    have g2 := Lib.hid (hp.made hR1.out hbb.out g1.out)
    obtain ⟨lv, dv, hR, _, _⟩ := hp
    have hR2 := Lib.hid hR
    clear hR
    go_wp2_with fail
    refine (hrd.out _).mono ?_
    rintro e w3 ⟨rfl, hg⟩
    have hR3 := Lib.hid (hR2.out.gr hg)
    have g3 := Lib.hid (g2.out.trans hg)
    clear hg
    go_wp2_with fail
    refine (data_is _ c' _ hd'.out _ _ w3 hR3.out).mono ?_
    rintro e w4 ⟨rfl, rfl⟩
    go_wp2_with fail
    refine (done_is _ c' _ hf'.out _ _ w3 hR3.out).mono ?_
    rintro e w4 ⟨rfl, rfl⟩
    go_wp2_with fail
    refine (bad_is _ c' _ hb'.out _ _ w3 hR3.out).mono ?_
    rintro e w4 ⟨rfl, rfl⟩
    go_wp2
    go_ret
    exact ⟨rfl, g3.out⟩
  · have hlI : ¬ (s.length : Int) ≤ 10000 := by omega
    go_enter Tryd.func3, Tryd.ntmps3
    go_wp2_with fail
    refine (awake_any _ hG'.out).mono ?_
    rintro e w0 ⟨rfl, hg⟩
    have g0 := Lib.hid hg
    clear hg
    go_wp2
    go_ret
    exact ⟨rfl, g0.out⟩
end Go.Proofs.YtnopfoagioodjaaDoor
