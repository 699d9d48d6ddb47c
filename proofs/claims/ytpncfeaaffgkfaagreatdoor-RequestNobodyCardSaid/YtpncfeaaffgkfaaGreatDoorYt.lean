/-
  Requests: the walk over RequestNobody.
-/
import Derived.Test.YtpncfeaaffgkfaaGreatDoorYr
namespace Go.Proofs.YtpncfeaaffgkfaaGreatDoor
open Go.RowKit
attribute [local go_sem] Oper.semAt_some

theorem psl_made {w W : World} (hg : Gr w W) (hG : G W) : PsL w W.heap.size (fun k => k = W.heap.size) ps0 (W.alloc (.cells #[.string ⟨#[]⟩, .string ⟨#[]⟩, .bool false, .string ⟨#[]⟩, .string ⟨#[]⟩, .string ⟨#[]⟩, .int .i64 0, .slice none 0 0, .string ⟨#[]⟩, .bool false, .int .i64 0, .pointer none, .int .i64 0] 32)) :=
  ⟨⟨_, _, cell_new7 _ _ _ 0 _ rfl, cell_new7 _ _ _ 1 _ rfl, cell_new7 _ _ _ 2 _ rfl, cell_new7 _ _ _ 3 _ rfl, cell_new7 _ _ _ 4 _ rfl, cell_new7 _ _ _ 5 _ rfl, cell_new7 _ _ _ 6 _ rfl, cell_new7 _ _ _ 7 _ rfl, cell_new7 _ _ _ 8 _ rfl, cell_new7 _ _ _ 9 _ rfl, cell_new7 _ _ _ 10 _ rfl, cell_new7 _ _ _ 11 _ rfl, cell_new7 _ _ _ 12 _ rfl,
    fun o => World.frozen?_alloc_at _ _ _ _ rfl, ⟨none, 0, rfl, fun i hi => absurd hi (Nat.not_lt_zero _)⟩, fun a n c e => (by cases e), rfl, rfl, fun k hk => (by subst hk; exact ⟨Nat.le_refl _, by simp⟩), hG.lt, fun a n c e => (by cases e)⟩, hg.alloc1 _, Below.size hg⟩
set_option maxHeartbeats 16000000 in
set_option maxRecDepth 100000 in
theorem qnobody_any (s : List UInt8) (w : World) (hG : G w) :
    Calls Tryz.prog 3 #[.string ⟨s.toArray⟩] w fun e w' => e = .returned (.bool true) ∧ Gr w w' := by
  have hG' := Lib.hid hG
  clear hG
  go_enter Tryz.func3, Tryz.ntmps3
  go_wp2_with fail
  refine (awake9_any w hG'.out).mono ?_
  rintro e w1 ⟨rfl, hb⟩
  have g1 := Lib.hid hb
  clear hb
  by_cases hlt : s.length ≤ 3000
  · have hltI : ¬ (3000 : Int) < s.length := by omega
    have hltN : ¬ 3000 < s.length := by omega
    go_wp2_with fail
    refine (nfeedq_any s w1).mono ?_
    rintro e w2 ⟨rfl, rfl⟩
    go_wp2_with fail
    refine (nnextq_any w1).mono ?_
    rintro e w2 ⟨rfl, hb⟩
    rw [show rq0.V (.slice none 0 0) = .agg #[.string ⟨#[]⟩, .string ⟨#[]⟩, .string ⟨#[]⟩, .int .i64 0, .slice none 0 0, .string ⟨#[]⟩, .bool false] from rfl]
    have g3 := Lib.hid ((g1.out.trans hb).alloc1 (.cells #[.string ⟨#[]⟩, .string ⟨#[]⟩, .string ⟨#[]⟩, .int .i64 0, .slice none 0 0, .string ⟨#[]⟩, .bool false] 27))
    clear hb g1
    go_upto_region 8 with (fail)
    generalize (w2.alloc (.cells #[.string ⟨#[]⟩, .string ⟨#[]⟩, .string ⟨#[]⟩, .int .i64 0, .slice none 0 0, .string ⟨#[]⟩, .bool false] 27)) = w3 at g3 ⊢
    go_upto_region 9 with (fail)
    have h3' := Lib.hid (psl_made g3.out (hG'.out.gr g3.out))
    obtain ⟨B, hB⟩ : ∃ x, w3.heap.size = x := ⟨_, rfl⟩
    rw [hB] at h3' ⊢
    generalize (w3.alloc (.cells #[.string ⟨#[]⟩, .string ⟨#[]⟩, .bool false, .string ⟨#[]⟩, .string ⟨#[]⟩, .string ⟨#[]⟩, .int .i64 0, .slice none 0 0, .string ⟨#[]⟩, .bool false, .int .i64 0, .pointer none, .int .i64 0] 32)) = w4 at h3' ⊢
    clear hB g3
    go_wp2_with fail
    refine (h3'.out.idle true rfl).mono ?_
    rintro e w5 ⟨rfl, rfl⟩
    go_wp2_with fail
    refine (h3'.out.bad 0 rfl).mono ?_
    rintro e w5 ⟨rfl, rfl⟩
    go_wp2_with fail
    refine (h3'.out.rest [] ps0 rfl (by decide)).mono ?_
    rintro e w5 ⟨rfl, T5, h5, _, _⟩
    have h5' := Lib.hid h5
    clear h5 h3'
    go_wp2_with fail
    refine (h5'.out.feed s (by show 0 + s.length ≤ _; omega)).mono ?_
    rintro e w6 ⟨rfl, T6, h6, _, _⟩
    rw [feed0] at h6
    have h6' := Lib.hid h6
    clear h6 h5'
    go_wp2_with fail
    refine (rall_any s w6 (by omega)).mono ?_
    rintro e w7 ⟨l, c, t, lv, hA, rfl, hR, hll, hb⟩
    have hR7 := Lib.hid hR.here
    have hS7 := Lib.hid (show ∀ j, (w6.heap.size ≤ j ∧ j < w7.heap.size) → ¬ T6 j ∧ j < w7.heap.size from fun j hj => ⟨fun e => by have := h6'.out.lt j e; omega, hj.2⟩)
    have h7' := Lib.hid (h6'.out.gr hb)
    have hA' := Lib.hid hA
    clear hb hR hA hll h6'
    go_wp2_with fail
    refine (nbadq_any w7).mono ?_
    rintro e w8 ⟨rfl, rfl⟩
    go_wp2_with fail
    refine (nidleq_any w7).mono ?_
    rintro e w8 ⟨rfl, rfl⟩
    go_wp2_with fail
    refine (nrestq_any w7).mono ?_
    rintro e w8 ⟨rfl, rfl⟩
    go_wp2_with fail
    refine (gets_any w B T6 _ s _ lv l c t w7 hG'.out h7'.out (.fresh rfl) rfl hA'.out (by omega) hR7.out hS7.out).mono ?_
    rintro e w8 ⟨rfl, T8, p8, s8, h8, hs8, hb8, hl8, ht8⟩
    have h8' := Lib.hid h8
    have hb8' := Lib.hid hb8
    clear h8 h7' hR7 hS7 hA' hs8 hb8 hl8 ht8
    go_wp2_with fail
    refine (h8'.out.bad c hb8'.out).mono ?_
    rintro e w9 ⟨rfl, rfl⟩
    have hg := Lib.hid h8'.out.g
    clear h8'
    go_wp2
    go_ret
    exact ⟨rfl, hg.out⟩
  · have hltI : (3000 : Int) < s.length := by omega
    go_wp2
    go_ret
    exact ⟨rfl, g1.out⟩
end Go.Proofs.YtpncfeaaffgkfaaGreatDoor
