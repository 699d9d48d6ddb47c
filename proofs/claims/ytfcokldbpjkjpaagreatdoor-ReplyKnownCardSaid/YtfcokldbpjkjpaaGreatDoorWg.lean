/-
  Replies: the walk over ReplyKnown. (Printed by mk_wg.py.)
-/
import Derived.Test.YtfcokldbpjkjpaaGreatDoorWa
namespace Go.Proofs.YtfcokldbpjkjpaaGreatDoor
open Go.RowKit
attribute [local go_sem] Oper.semAt_some
def kS1 : List UInt8 := List.append [72, 84, 84, 80, 47, 49, 46, 49, 32, 49, 48, 49, 32, 83, 119, 105, 116, 99, 104, 105, 110, 103, 32, 80, 114, 111, 116, 111, 99, 111, 108, 115, 13, 10, 85, 112, 103, 114] [97, 100, 101, 58, 32, 119, 101, 98, 115, 111, 99, 107, 101, 116, 13, 10, 67, 111, 110, 110, 101, 99, 116, 105, 111, 110, 58, 32, 85, 112, 103, 114, 97, 100, 101, 13, 10, 13, 10]
def kS6 : List UInt8 := [72, 84, 84, 80, 47, 49, 46, 49, 32, 50, 48, 52, 32, 83, 116, 97, 116, 117, 115, 13, 10, 67, 111, 110, 110, 101, 99, 116, 105, 111, 110, 58, 32, 99, 108, 111, 115, 101, 13, 10, 13, 10]
theorem read_lines (ls : List (List UInt8)) (h0 : ls ≠ []) (h : ∀ l ∈ ls, LineOk l) (x : List UInt8) (head : Bool) : readR (joinE ls ++ (eol2 ++ x)) head = match partsR ls with
    | none => .bad 8
    | some (c, fs, close, n) => if x.length < (if head then 0 else n.getD 0) then .bad 7 else .good ⟨c, fs, x.take (if head then 0 else n.getD 0)⟩ close ((joinE ls).length + 4 + (if head then 0 else n.getD 0)) := by
  rw [readR_at (index_join ls x h0 h), List.take_left' rfl, split_join ls h0 h]
  cases partsR ls with
  | none => rfl
  | some y =>
    obtain ⟨c, fs, close, n⟩ := y
    dsimp only
    obtain ⟨K, hK⟩ : ∃ K, (if head = true then 0 else n.getD 0) = K := ⟨_, rfl⟩
    rw [hK]
    have hl : (joinE ls ++ (eol2 ++ x)).length = (joinE ls).length + 4 + x.length := by rw [List.length_append, List.length_append]; show _ + (4 + _) = _; omega
    have hd : (joinE ls ++ (eol2 ++ x)).drop ((joinE ls).length + 4) = x := by
      rw [← List.append_assoc, List.drop_left']
      rw [List.length_append]; rfl
    rw [hl, hd]
    by_cases hx : x.length < K
    · rw [if_pos (by omega), if_pos hx]
    · rw [if_neg (by omega), if_neg hx]
theorem line_decide {l : List UInt8} (h : (!l.isEmpty && l.all (· != 13)) = true) : LineOk l := by
  rw [Bool.and_eq_true, List.all_eq_true] at h
  refine ⟨fun e => by rw [e] at h; simp at h, fun c hc e => by have := h.2 c hc; rw [e] at this; simp at this⟩
theorem kr1 : readR [72, 84, 84, 80, 47, 49, 46, 49, 32, 50, 48, 48, 32, 79, 75, 13, 10, 13, 10] false = .bad 8 := by
  have h := read_lines [[72, 84, 84, 80, 47, 49, 46, 49, 32, 50, 48, 48, 32, 79, 75]] (by simp) (fun l hl => line_decide (by rw [List.mem_singleton] at hl; subst hl; decide)) [] false
  have hp : partsR [[72, 84, 84, 80, 47, 49, 46, 49, 32, 50, 48, 48, 32, 79, 75]] = none := by decide +kernel
  rw [hp] at h
  exact h
theorem kp2 : partsR [[72, 84, 84, 80, 47, 49, 46, 49, 32, 50, 48, 48, 32, 79, 75], [67, 111, 110, 116, 101, 110, 116, 45, 76, 101, 110, 103, 116, 104, 58, 32, 51]] = some (200, [], false, some 3) := by decide +kernel
theorem kl2 : ∀ l ∈ [[72, 84, 84, 80, 47, 49, 46, 49, 32, 50, 48, 48, 32, 79, 75], [67, 111, 110, 116, 101, 110, 116, 45, 76, 101, 110, 103, 116, 104, 58, 32, 51]], LineOk l := fun l hl => by
  rcases List.mem_cons.1 hl with rfl | hl
  · exact line_decide (by decide)
  · rw [List.mem_singleton] at hl; subst hl; exact line_decide (by decide)
theorem kr2 : readR [72, 84, 84, 80, 47, 49, 46, 49, 32, 50, 48, 48, 32, 79, 75, 13, 10, 67, 111, 110, 116, 101, 110, 116, 45, 76, 101, 110, 103, 116, 104, 58, 32, 51, 13, 10, 13, 10, 97, 98] false = .bad 7 := by
  have h := read_lines [[72, 84, 84, 80, 47, 49, 46, 49, 32, 50, 48, 48, 32, 79, 75], [67, 111, 110, 116, 101, 110, 116, 45, 76, 101, 110, 103, 116, 104, 58, 32, 51]] (by simp) kl2 [97, 98] false
  rw [kp2] at h
  exact h
theorem kr3 : readR [72, 84, 84, 80, 47, 49, 46, 49, 32, 50, 48, 48, 32, 79, 75, 13, 10, 67, 111, 110, 116, 101, 110, 116, 45, 76, 101, 110, 103, 116, 104, 58, 32, 51, 13, 10, 13, 10, 97, 98] true = .good ⟨200, [], []⟩ false 38 := by
  have h := read_lines [[72, 84, 84, 80, 47, 49, 46, 49, 32, 50, 48, 48, 32, 79, 75], [67, 111, 110, 116, 101, 110, 116, 45, 76, 101, 110, 103, 116, 104, 58, 32, 51]] (by simp) kl2 [97, 98] true
  rw [kp2] at h
  exact h
theorem rep_get (n : Nat) : Lib.repeatL [120] n = List.replicate n 120 := by
  induction n with
  | zero => rfl
  | succ n ih => first | (rw [Lib.repeatL, ih, List.replicate_succ]; rfl) | (simp [Lib.repeatL, List.replicate_succ] at ih ⊢; exact ih)
theorem kr4 : readR (Lib.repeatL [120] 65536) false = .bad 8 := by
  rw [rep_get]
  have hno : Lib.index (List.replicate 65536 (120 : UInt8)) eol2 = -1 := by
    rcases Lib.index_spec (List.replicate 65536 (120 : UInt8)) eol2 with ⟨h, _⟩ | ⟨i, _, _, ho, _⟩
    · exact h
    · exfalso
      unfold Lib.occAt at ho
      rw [List.isPrefixOf_iff_prefix] at ho
      have hm : (13 : UInt8) ∈ (List.replicate 65536 (120 : UInt8)).drop i := ho.subset (by decide)
      have := List.eq_of_mem_replicate (List.mem_of_mem_drop hm)
      exact absurd this (by decide)
  rw [readR_none hno, List.length_replicate, if_neg (by omega)]
def kR0 : Rp := ⟨101, [([85, 112, 103, 114, 97, 100, 101], [119, 101, 98, 115, 111, 99, 107, 101, 116]), ([67, 111, 110, 110, 101, 99, 116, 105, 111, 110], [85, 112, 103, 114, 97, 100, 101])], []⟩
theorem kb0 : bytesR kR0 false false = some kS1 := by
  unfold bytesR
  rw [show rightR kR0 = true by decide +kernel]
  have e : headR kR0 false ++ kR0.b = kS1 := by decide +kernel
  exact congrArg some e
def kR1 : Rp := ⟨101, [], [120]⟩
theorem kb1 : bytesR kR1 false false = none := by unfold bytesR; rw [show rightR kR1 = false by decide +kernel]; rfl
def kR2 : Rp := ⟨200, [([67, 111, 110, 116, 101, 110, 116, 45, 76, 101, 110, 103, 116, 104], [53])], []⟩
theorem kb2 : bytesR kR2 false false = none := by unfold bytesR; rw [show rightR kR2 = false by decide +kernel]; rfl
def kR3 : Rp := ⟨101, [], []⟩
theorem kb3 : bytesR kR3 false true = none := by unfold bytesR; rw [show rightR kR3 = true by decide +kernel]; rfl
def kR4 : Rp := ⟨204, [], [120]⟩
theorem kb4 : bytesR kR4 false false = none := by unfold bytesR; rw [show rightR kR4 = false by decide +kernel]; rfl
def kR5 : Rp := ⟨204, [], []⟩
theorem kb5 : bytesR kR5 false true = some kS6 := by
  unfold bytesR
  rw [show rightR kR5 = true by decide +kernel]
  have e : headR kR5 true ++ kR5.b = kS6 := by decide +kernel
  exact congrArg some e
theorem field2 (W : World) : FieldsAt (W.alloc (.cells #[.string ⟨#[85, 112, 103, 114, 97, 100, 101]⟩, .string ⟨#[119, 101, 98, 115, 111, 99, 107, 101, 116]⟩, .string ⟨#[67, 111, 110, 110, 101, 99, 116, 105, 111, 110]⟩, .string ⟨#[85, 112, 103, 114, 97, 100, 101]⟩] 41)) (.slice (some ⟨W.heap.size, 0, none⟩) 2 2) kR0.fs := by
  refine ⟨_, 2, rfl, fun i hi => ⟨W.heap.size, 0, rfl, ?_⟩⟩
  have : i = 0 ∨ i = 1 := by simp [kR0] at hi; omega
  rcases this with rfl | rfl
  · exact ⟨by simp [go_sem, kR0], by simp [go_sem, kR0]⟩
  · exact ⟨by simp [go_sem, kR0], by simp [go_sem, kR0]⟩
theorem field1 (W : World) : FieldsAt (W.alloc (.cells #[.string ⟨#[67, 111, 110, 116, 101, 110, 116, 45, 76, 101, 110, 103, 116, 104]⟩, .string ⟨#[53]⟩] 41)) (.slice (some ⟨W.heap.size, 0, none⟩) 1 1) kR2.fs := by
  refine ⟨_, 1, rfl, fun i hi => ⟨W.heap.size, 0, rfl, ?_⟩⟩
  obtain rfl : i = 0 := by simp [kR2] at hi; omega
  exact ⟨by simp [go_sem, kR2], by simp [go_sem, kR2]⟩
set_option maxHeartbeats 16000000 in
set_option maxRecDepth 100000 in
theorem known10_any (w : World) (hG : G w) : Calls Tryz.prog 9 #[] w fun e w' => e = .returned (.bool true) ∧ Gr w w' := by
  have hG' := Lib.hid hG
  clear hG
  have h0 := Lib.hid (fun (N : Nat) W (hg : Gr w W) (hf : FieldsAt W (.slice (some ⟨N, 0, none⟩) 2 2) kR0.fs) => (show Calls Tryz.prog 12 #[.agg #[.int .i64 101, .slice (some ⟨N, 0, none⟩) 2 2, .string ⟨#[]⟩], .bool false, .bool false] W fun e w' => e = .returned (.tuple #[.string ⟨kS1.toArray⟩, .int .i64 0]) ∧ Gr W w' from
    bytes_is kR0 (.slice (some ⟨N, 0, none⟩) 2 2) false false _ kb0 W (hG'.out.gr hg) hf (by decide) (by decide) (by decide) (by decide)))
  have h1 := Lib.hid (fun (N : Nat) W (hg : Gr w W) (hf : FieldsAt W (.slice none 0 0) kR1.fs) => (show Calls Tryz.prog 12 #[.agg #[.int .i64 101, .slice none 0 0, .string ⟨#[120]⟩], .bool false, .bool false] W fun e w' => e = .returned (.tuple #[.string ⟨#[]⟩, .int .i64 1]) ∧ Gr W w' from
    bytes_is kR1 (.slice none 0 0) false false _ kb1 W (hG'.out.gr hg) hf (by decide) (by decide) (by decide) (by decide)))
  have h2 := Lib.hid (fun (N : Nat) W (hg : Gr w W) (hf : FieldsAt W (.slice (some ⟨N, 0, none⟩) 1 1) kR2.fs) => (show Calls Tryz.prog 12 #[.agg #[.int .i64 200, .slice (some ⟨N, 0, none⟩) 1 1, .string ⟨#[]⟩], .bool false, .bool false] W fun e w' => e = .returned (.tuple #[.string ⟨#[]⟩, .int .i64 1]) ∧ Gr W w' from
    bytes_is kR2 (.slice (some ⟨N, 0, none⟩) 1 1) false false _ kb2 W (hG'.out.gr hg) hf (by decide) (by decide) (by decide) (by decide)))
  have h3 := Lib.hid (fun (N : Nat) W (hg : Gr w W) (hf : FieldsAt W (.slice none 0 0) kR3.fs) => (show Calls Tryz.prog 12 #[.agg #[.int .i64 101, .slice none 0 0, .string ⟨#[]⟩], .bool false, .bool true] W fun e w' => e = .returned (.tuple #[.string ⟨#[]⟩, .int .i64 1]) ∧ Gr W w' from
    bytes_is kR3 (.slice none 0 0) false true _ kb3 W (hG'.out.gr hg) hf (by decide) (by decide) (by decide) (by decide)))
  have h4 := Lib.hid (fun (N : Nat) W (hg : Gr w W) (hf : FieldsAt W (.slice none 0 0) kR4.fs) => (show Calls Tryz.prog 12 #[.agg #[.int .i64 204, .slice none 0 0, .string ⟨#[120]⟩], .bool false, .bool false] W fun e w' => e = .returned (.tuple #[.string ⟨#[]⟩, .int .i64 1]) ∧ Gr W w' from
    bytes_is kR4 (.slice none 0 0) false false _ kb4 W (hG'.out.gr hg) hf (by decide) (by decide) (by decide) (by decide)))
  have h5 := Lib.hid (fun (N : Nat) W (hg : Gr w W) (hf : FieldsAt W (.slice none 0 0) kR5.fs) => (show Calls Tryz.prog 12 #[.agg #[.int .i64 204, .slice none 0 0, .string ⟨#[]⟩], .bool false, .bool true] W fun e w' => e = .returned (.tuple #[.string ⟨kS6.toArray⟩, .int .i64 0]) ∧ Gr W w' from
    bytes_is kR5 (.slice none 0 0) false true _ kb5 W (hG'.out.gr hg) hf (by decide) (by decide) (by decide) (by decide)))
  have r0 := Lib.hid (fun W (hg : Gr w W) => (show Calls Tryz.prog 18 #[.string ⟨#[72, 84, 84, 80, 47, 49, 46, 49, 32, 50, 48, 48, 32, 79, 75, 13, 10, 13, 10]⟩, .bool false] W (fun e w' => (∃ v, e = .returned (.tuple #[.agg #[.int .i64 0, v, .string ⟨#[]⟩], .bool false, .int .i64 0, .int .i64 8]) ∧ FieldsAt w' v []) ∧ Gr W w') from
    (read_is [72, 84, 84, 80, 47, 49, 46, 49, 32, 50, 48, 48, 32, 79, 75, 13, 10, 13, 10] false (.bad 8) kr1 W (hG'.out.gr hg) (by decide)).mono fun e w' ⟨v, h1, h2, h3⟩ => ⟨⟨v, h1, h2⟩, h3⟩))
  have r1 := Lib.hid (fun W (hg : Gr w W) => (show Calls Tryz.prog 18 #[.string ⟨#[72, 84, 84, 80, 47, 49, 46, 49, 32, 50, 48, 48, 32, 79, 75, 13, 10, 67, 111, 110, 116, 101, 110, 116, 45, 76, 101, 110, 103, 116, 104, 58, 32, 51, 13, 10, 13, 10, 97, 98]⟩, .bool false] W (fun e w' => (∃ v, e = .returned (.tuple #[.agg #[.int .i64 0, v, .string ⟨#[]⟩], .bool false, .int .i64 0, .int .i64 7]) ∧ FieldsAt w' v []) ∧ Gr W w') from
    (read_is [72, 84, 84, 80, 47, 49, 46, 49, 32, 50, 48, 48, 32, 79, 75, 13, 10, 67, 111, 110, 116, 101, 110, 116, 45, 76, 101, 110, 103, 116, 104, 58, 32, 51, 13, 10, 13, 10, 97, 98] false (.bad 7) kr2 W (hG'.out.gr hg) (by decide)).mono fun e w' ⟨v, h1, h2, h3⟩ => ⟨⟨v, h1, h2⟩, h3⟩))
  have r2 := Lib.hid (fun W (hg : Gr w W) => (show Calls Tryz.prog 18 #[.string ⟨#[72, 84, 84, 80, 47, 49, 46, 49, 32, 50, 48, 48, 32, 79, 75, 13, 10, 67, 111, 110, 116, 101, 110, 116, 45, 76, 101, 110, 103, 116, 104, 58, 32, 51, 13, 10, 13, 10, 97, 98]⟩, .bool true] W (fun e w' => (∃ v, e = .returned (.tuple #[.agg #[.int .i64 200, v, .string ⟨#[]⟩], .bool false, .int .i64 38, .int .i64 0]) ∧ FieldsAt w' v []) ∧ Gr W w') from
    (read_is [72, 84, 84, 80, 47, 49, 46, 49, 32, 50, 48, 48, 32, 79, 75, 13, 10, 67, 111, 110, 116, 101, 110, 116, 45, 76, 101, 110, 103, 116, 104, 58, 32, 51, 13, 10, 13, 10, 97, 98] true (.good ⟨200, [], []⟩ false 38) kr3 W (hG'.out.gr hg) (by decide)).mono fun e w' ⟨v, h1, h2, h3⟩ => ⟨⟨v, h1, h2⟩, h3⟩))
  obtain ⟨X, hX⟩ : ∃ X, Lib.repeatL [120] 65536 = X := ⟨_, rfl⟩
  have hXl : X.length ≤ 800000 := by rw [← hX, Lib.repeatL_length]; decide
  have r3 := Lib.hid (fun W (hg : Gr w W) => (show Calls Tryz.prog 18 #[.string ⟨X.toArray⟩, .bool false] W (fun e w' => (∃ v, e = .returned (.tuple #[.agg #[.int .i64 0, v, .string ⟨#[]⟩], .bool false, .int .i64 0, .int .i64 8]) ∧ FieldsAt w' v []) ∧ Gr W w') from
    (read_is X false (.bad 8) (by rw [← hX]; exact kr4) W (hG'.out.gr hg) hXl).mono fun e w' ⟨v, h1, h2, h3⟩ => ⟨⟨v, h1, h2⟩, h3⟩))
  have rp := Lib.hid (fun W => (show Calls Tryz.prog 21 #[.string ⟨#[120]⟩, .int .i64 65536] W fun e w' => e = .returned (.string ⟨X.toArray⟩) ∧ Gr W w' from by
    rw [← hX]
    exact Tryz.strings_Repeat_main ⟨#[120]⟩ 65536 W (by decide) (by decide) (by decide) (by decide)))
  have ra := Lib.hid (fun W (hg : Gr w W) => awake10_any W (hG'.out.gr hg))
  have rr := Lib.hid (fun W => reason_is 299 [83, 116, 97, 116, 117, 115] (by decide) W)
  clear hX hXl
  go_enter Tryz.func9, Tryz.ntmps9
  go_wp2_with fail
  refine (h0.out _ _ (Gr.alloc _ _) (field2 _)).mono ?_
  rintro e w1 ⟨rfl, hb⟩
  have g1 := Lib.hid (show Gr w w1 from Gr.trans (Gr.alloc _ _) hb)
  clear hb
  go_wp2_with fail
  refine (h1.out 0 _ g1.out (fieldsAt_none _ _)).mono ?_
  rintro e w2 ⟨rfl, hb⟩
  have g2 := Lib.hid (show Gr w w2 from Gr.trans (g1.out) hb)
  clear hb
  go_wp2_with fail
  refine (h2.out _ _ (g2.out.alloc1 _) (field1 _)).mono ?_
  rintro e w3 ⟨rfl, hb⟩
  have g3 := Lib.hid (show Gr w w3 from Gr.trans (g2.out.alloc1 _) hb)
  clear hb
  go_wp2_with fail
  refine (h3.out 0 _ g3.out (fieldsAt_none _ _)).mono ?_
  rintro e w4 ⟨rfl, hb⟩
  have g4 := Lib.hid (show Gr w w4 from Gr.trans (g3.out) hb)
  clear hb
  go_wp2_with fail
  refine (h4.out 0 _ g4.out (fieldsAt_none _ _)).mono ?_
  rintro e w5 ⟨rfl, hb⟩
  have g5 := Lib.hid (show Gr w w5 from Gr.trans (g4.out) hb)
  clear hb
  go_wp2_with fail
  refine (h5.out 0 _ g5.out (fieldsAt_none _ _)).mono ?_
  rintro e w6 ⟨rfl, hb⟩
  have g6 := Lib.hid (show Gr w w6 from Gr.trans (g5.out) hb)
  clear hb
  go_wp2_with fail
  refine (r0.out _ g6.out).mono ?_
  rintro e w7 ⟨⟨v, rfl, hF⟩, hb⟩
  obtain ⟨pv7, cv7, rfl, _⟩ := hF
  have gq := Lib.hid (show Gr w (w7.alloc (.cells #[.int .i64 0, .slice pv7 0 cv7, .string ⟨#[]⟩] 24)) from ((Gr.trans (g6.out) hb).alloc1 _))
  clear hb
  go_upto_region 8 with (fail)
  generalize (w7.alloc (.cells #[.int .i64 0, .slice pv7 0 cv7, .string ⟨#[]⟩] 24)) = y7 at gq ⊢
  have g7 := gq
  clear gq
  go_wp2_with fail
  refine (r1.out _ g7.out).mono ?_
  rintro e w8 ⟨⟨v, rfl, hF⟩, hb⟩
  obtain ⟨pv8, cv8, rfl, _⟩ := hF
  have gq := Lib.hid (show Gr w (w8.alloc (.cells #[.int .i64 0, .slice pv8 0 cv8, .string ⟨#[]⟩] 24)) from ((Gr.trans (g7.out) hb).alloc1 _))
  clear hb
  go_upto_region 9 with (fail)
  generalize (w8.alloc (.cells #[.int .i64 0, .slice pv8 0 cv8, .string ⟨#[]⟩] 24)) = y8 at gq ⊢
  have g8 := gq
  clear gq
  go_wp2_with fail
  refine (r2.out _ g8.out).mono ?_
  rintro e w9 ⟨⟨v, rfl, hF⟩, hb⟩
  obtain ⟨pv9, cv9, rfl, _⟩ := hF
  have gq := Lib.hid (show Gr w (w9.alloc (.cells #[.int .i64 200, .slice pv9 0 cv9, .string ⟨#[]⟩] 24)) from ((Gr.trans (g8.out) hb).alloc1 _))
  have b0 : (w9.alloc (.cells #[.int .i64 200, .slice pv9 0 cv9, .string ⟨#[]⟩] 24)).cell? ⟨w9.heap.size, 0, none⟩ = some (.int .i64 200) := by simp [go_sem]
  have b2 : (w9.alloc (.cells #[.int .i64 200, .slice pv9 0 cv9, .string ⟨#[]⟩] 24)).cell? ⟨w9.heap.size, 2, none⟩ = some (.string ⟨#[]⟩) := by simp [go_sem]
  clear hb
  go_upto_region 10 with (fail)
  generalize (w9.alloc (.cells #[.int .i64 200, .slice pv9 0 cv9, .string ⟨#[]⟩] 24)) = y9 at gq b0 b2 ⊢
  have g9 := gq
  clear gq
  go_wp2_with fail
  refine (rp.out _).mono ?_
  rintro e w10 ⟨rfl, hb⟩
  replace b0 := hb.cell b0
  replace b2 := hb.cell b2
  have g10 := Lib.hid (g9.out.trans hb)
  clear hb
  go_wp2_with fail
  refine (r3.out _ g10.out).mono ?_
  rintro e w11 ⟨⟨v, rfl, hF⟩, hb⟩
  obtain ⟨pv11, cv11, rfl, _⟩ := hF
  have gq := Lib.hid (show Gr w (w11.alloc (.cells #[.int .i64 0, .slice pv11 0 cv11, .string ⟨#[]⟩] 24)) from ((Gr.trans (g10.out) hb).alloc1 _))
  replace b0 := ((hb.trans (Gr.alloc w11 (.cells #[.int .i64 0, .slice pv11 0 cv11, .string ⟨#[]⟩] 24)))).cell b0
  replace b2 := ((hb.trans (Gr.alloc w11 (.cells #[.int .i64 0, .slice pv11 0 cv11, .string ⟨#[]⟩] 24)))).cell b2
  clear hb
  go_upto_region 11 with (fail)
  generalize (w11.alloc (.cells #[.int .i64 0, .slice pv11 0 cv11, .string ⟨#[]⟩] 24)) = y11 at gq b0 b2 ⊢
  have g11 := gq
  clear gq
  unfold kS1 kS6
  go_wp2_with fail
  refine (ra.out _ g11.out).mono ?_
  rintro e w12 ⟨rfl, hb⟩
  replace b0 := hb.cell b0
  replace b2 := hb.cell b2
  have g12 := Lib.hid (g11.out.trans hb)
  clear hb
  go_wp2_with fail
  refine (rr.out _).mono ?_
  rintro e w13 ⟨rfl, rfl⟩
  go_wp2
  go_ret
  exact ⟨rfl, g12.out⟩
end Go.Proofs.YtfcokldbpjkjpaaGreatDoor
