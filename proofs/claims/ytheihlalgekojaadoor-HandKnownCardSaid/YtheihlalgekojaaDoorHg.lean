/-
  The chapter's first examples.
-/
import Derived.Test.YtheihlalgekojaaDoorHf
namespace Go.Proofs.YtheihlalgekojaaDoor
open Go.RowKit
attribute [local go_sem] Oper.semAt_some

theorem short_ask (key ver : List UInt8) (h1 : key.length ≤ 800000) (h2 : ver.length ≤ 800000) : Short (askFs key ver) := by
  refine ⟨by simp [askFs], fun f hf => ?_⟩
  simp only [askFs, List.mem_cons, List.not_mem_nil, or_false] at hf
  rcases hf with rfl | rfl | rfl | rfl | rfl
  · exact ⟨by decide, by decide⟩
  · exact ⟨by decide, by decide⟩
  · exact ⟨by decide, by decide⟩
  · exact ⟨by show kKey.length ≤ _; decide, h1⟩
  · exact ⟨by show kVer.length ≤ _; decide, h2⟩
theorem check_is {r : Rq} {x : List UInt8 × Nat} (h : checkB r = x) (t : Value) (w : World) (hG : G w) (hf : FieldsAt w t r.fs) (hs : Short r.fs) :
    Calls Tryd.prog 13 #[r.V t] w fun e w' => e = .returned (ckV x) ∧ Gr w w' := h ▸ check_any r t w hG hf hs
theorem answer_is {r : Rq} {x : Rp × Bool} (h : answerB (checkB r) = x) (t : Value) (w : World) (hG : G w) (hf : FieldsAt w t r.fs) (hs : Short r.fs) :
    Calls Tryd.prog 16 #[r.V t] w (AnsPost w x) := h ▸ answer_any r t w hG hf hs
theorem accept_is {k a : List UInt8} (h : acceptL k = a) (hk : k.length ≤ 800000) (w : World) : Calls Tryd.prog 8 #[.string ⟨k.toArray⟩] w fun e w' => e = .returned (.string ⟨a.toArray⟩) ∧ Gr w w' := h ▸ accept_any k hk w
set_option maxHeartbeats 8000000 in
set_option maxRecDepth 20000 in
theorem wakes_any (w : World) (hG : G w) : Calls Tryd.prog 10 #[] w fun e w' => e = .returned (.bool true) ∧ Gr w w' := by
  have hG' := Lib.hid hG
  clear hG
  go_enter Tryd.func10, Tryd.ntmps10
  go_wp2_with fail
  refine (asks_made _).mono ?_
  rintro e w1 ⟨b1, hb1, rfl, hf1, _, _, g1⟩
  go_wp2_with fail
  refine (check_is check_key _ _ (hG'.out.gr g1) (hf1.at 5) (short_ask _ _ (by decide) (by decide))).mono ?_
  rintro e w2 ⟨rfl, g2⟩
  have g2' := Lib.hid (g1.trans g2)
  clear hf1 g1 g2 hb1
  unfold ckV
  go_wp2_with fail
  refine (asks_made _).mono ?_
  rintro e w3 ⟨b3, hb3, rfl, hf3, _, _, g3⟩
  go_wp2_with fail
  refine (answer_is answer_key _ _ (hG'.out.gr (g2'.out.trans g3)) (hf3.at 5) (short_ask _ _ (by decide) (by decide))).mono ?_
  rintro e w4 ⟨t4, rfl, hf4, g4⟩
  have g4' := Lib.hid (g2'.out.trans (g3.trans g4))
  clear hf3 g3 g4 hb3 g2'
  obtain ⟨p4, cap4, rfl, _⟩ := hf4
  unfold Rp.V
  dsimp only [List.length_cons, List.length_nil, Nat.zero_add, Nat.reduceAdd]
  go_wp2_with fail
  have k0 : (w4.alloc (.cells #[.int .i64 101, .slice p4 3 cap4, .string ⟨#[]⟩] 40)).cell? ⟨w4.heap.size, 0, none⟩ = some (.int .i64 101) := by simp [go_sem]
  have k1 : (w4.alloc (.cells #[.int .i64 101, .slice p4 3 cap4, .string ⟨#[]⟩] 40)).cell? ⟨w4.heap.size, 1, none⟩ = some (.slice p4 3 cap4) := by simp [go_sem]
  refine (check_is check_post (.slice none 0 0) _ (hG'.out.gr (g4'.out.alloc1 _)) (fieldsAt_none _ _) ⟨Nat.zero_le _, fun f hf => absurd hf (List.not_mem_nil)⟩).mono ?_
  rintro e w5 ⟨rfl, g5⟩
  replace k0 := g5.cell k0
  replace k1 := g5.cell k1
  have g5' := Lib.hid ((g4'.out.alloc1 _).trans g5)
  clear g5
  unfold ckV
  go_wp2_with fail
  refine (accept_is accept_key (by decide) _).mono ?_
  rintro e w6 ⟨rfl, g6⟩
  go_wp2
  go_ret
  exact ⟨rfl, g5'.out.trans g6⟩
end Go.Proofs.YtheihlalgekojaaDoor
