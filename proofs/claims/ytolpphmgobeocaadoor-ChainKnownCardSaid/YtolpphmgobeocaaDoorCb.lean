/-
  Walks over package chain: whether a step is right.
-/
import Derived.Test.YtolpphmgobeocaaDoorCa
import Derived.Test.YtolpphmgobeocaaDoorCc
namespace Go.Proofs.YtolpphmgobeocaaDoor
open Go.RowKit

theorem int_beq (n m : Int) : (n == m) = decide (n = m) := by rw [Bool.eq_iff_iff]; simp
theorem parse_is (l n v : List UInt8) (ok : Bool) (h : parseB l = (n, v, ok)) (w : World) (hG : G w) (hl : l.length < 4294967281) :
    Calls Tryd.prog 23 #[.string ⟨l.toArray⟩] w fun e w' => e = .returned (.tuple #[.agg #[.string ⟨n.toArray⟩, .string ⟨v.toArray⟩], .bool ok]) ∧ Gr w w' := by
  have := parse_any l w hG hl
  rwa [h] at this
theorem own_is (name : List UInt8) (b : Bool) (h : ownB name = b) (w : World) (hG : G w) (hn : name.length ≤ 9223372036854775807) :
    Calls Tryd.prog 24 #[.string ⟨name.toArray⟩] w fun e w' => e = .returned (.bool b) ∧ Gr w w' := h ▸ own_any name w hG hn

set_option maxHeartbeats 1000000 in
theorem right1_any (name value : List UInt8) (n : Int) (w : World) (hG : G w) (hn : name.length ≤ 1000) (hv : value.length ≤ 1000) :
    Calls Tryd.prog 12 #[.agg #[.int .i64 1, .string ⟨name.toArray⟩, .string ⟨value.toArray⟩, .int .i64 n]] w fun e w' => e = .returned (.bool (addB name value && !ownB name && decide (n = 0))) ∧ Gr w w' := by
  have hG' := Lib.hid hG
  clear hG
  obtain ⟨⟨pn, pv, ok⟩, hp⟩ : ∃ r, parseB (name ++ [58] ++ value) = r := ⟨_, rfl⟩
  have hadd := Lib.hid (show addB name value = (ok && (pn == name && pv == value)) by unfold addB; rw [hp])
  have hp' := Lib.hid hp
  clear hp
  have hb1 : ¬ 9223372036854775807 < name.length + 1 := by omega
  have hb2 : ¬ 9223372036854775807 < name.length + 1 + value.length := by omega
  go_enter Tryd.func12, Tryd.ntmps12
  go_wp2_with fail
  rw [show (⟨name.toArray⟩ : ByteArray) ++ ⟨#[58]⟩ ++ ⟨value.toArray⟩ = ⟨(name ++ [58] ++ value).toArray⟩ from by rw [show (⟨#[58]⟩ : ByteArray) = ⟨([58] : List UInt8).toArray⟩ from rfl, cat_mk, cat_mk]]
  refine (parse_is _ _ _ _ hp'.out _ (hG'.out.gr (Gr.alloc _ _)) (by simp; omega)).mono ?_
  rintro e w1 ⟨rfl, hb⟩
  have c0 : w1.cell? ⟨w.heap.size, 0, none⟩ = some (.int .i64 1) := hb.cell (by simp [go_sem])
  have c1 : w1.cell? ⟨w.heap.size, 1, none⟩ = some (.string ⟨name.toArray⟩) := hb.cell (by simp [go_sem])
  have c2 : w1.cell? ⟨w.heap.size, 2, none⟩ = some (.string ⟨value.toArray⟩) := hb.cell (by simp [go_sem])
  have c3 : w1.cell? ⟨w.heap.size, 3, none⟩ = some (.int .i64 n) := hb.cell (by simp [go_sem])
  have hg1 := Lib.hid ((Gr.alloc _ _).trans hb)
  have hz : w.heap.size < w1.heap.size := by have := Below.size hb; simp at this; omega
  clear hb
  cases ok
  · go_wp2
    go_ret
    exact ⟨ret_bool (by rw [hadd.out]; rfl), hg1.out.alloc1 _⟩
  · go_wp2_with fail
    · have e1 : pn = name := by assumption
      have e2 : pv = value := by assumption
      have hadd2 := Lib.hid (show addB name value = true by rw [hadd.out, e1, e2]; simp)
      clear e1 e2
      have hfin : ∀ b, ownB name = b → (addB name value && !ownB name && decide (n = 0)) = (!b && (n == 0)) := fun b h => by rw [hadd2.out, h, int_beq]; rfl
      have hfin' := Lib.hid hfin
      clear hfin
      cases ho : ownB name
      all_goals have ho' := Lib.hid ho
      all_goals clear ho
      all_goals
        refine (own_is name _ ho'.out _ (hG'.out.gr (hg1.out.alloc1 _)) (by omega)).mono ?_
        rintro e w2 ⟨rfl, hb2⟩
        have d3 := hb2.cell ((Gr.alloc w1 _).cell c3)
        have hg2 := Lib.hid ((hg1.out.alloc1 _).trans hb2)
        clear hb2
        go_wp2
        go_ret
        exact ⟨ret_bool (by rw [hfin'.out _ ho'.out]; rfl), hg2.out⟩
    · have e2 : ¬ pv = value := by assumption
      go_ret
      exact ⟨ret_bool (by rw [hadd.out, beq_eq_false_iff_ne.2 e2]; simp), hg1.out.alloc1 _⟩
    · have e2 : ¬ pn = name := by assumption
      go_ret
      exact ⟨ret_bool (by rw [hadd.out, beq_eq_false_iff_ne.2 e2]; simp), hg1.out.alloc1 _⟩

set_option maxHeartbeats 1000000 in
theorem right2_any (name value : List UInt8) (n : Int) (w : World) (hn : name.length ≤ 1000) :
    Calls Tryd.prog 12 #[.agg #[.int .i64 2, .string ⟨name.toArray⟩, .string ⟨value.toArray⟩, .int .i64 n]] w fun e w' => e = .returned (.bool (tokB name && decide (n = 0))) ∧ Gr w w' := by
  cases ht : tokB name
  all_goals have ht' := Lib.hid ht
  all_goals clear ht
  all_goals
    go_enter Tryd.func12, Tryd.ntmps12
    go_wp2_with fail
    refine (token_is name _ ht'.out _ (by omega)).mono ?_
    rintro e w1 ⟨rfl, rfl⟩
    go_wp2
    go_ret
    exact ⟨ret_bool (by first | rfl | simp), Gr.alloc _ _⟩

set_option maxHeartbeats 1000000 in
theorem right3_any (name value : List UInt8) (n : Int) (w : World) :
    Calls Tryd.prog 12 #[.agg #[.int .i64 3, .string ⟨name.toArray⟩, .string ⟨value.toArray⟩, .int .i64 n]] w fun e w' => e = .returned (.bool (decide (0 ≤ n) && name.isEmpty && value.isEmpty)) ∧ Gr w w' := by
  go_enter Tryd.func12, Tryd.ntmps12
  go_wp2
  all_goals go_ret
  all_goals exact ⟨ret_bool (by first | (simp [*]; done) | (simp; omega)), Gr.alloc _ _⟩

theorem suffix_slash (l : List UInt8) : Lib.hasSuffix l [47] = (l.getLastD 0 == 47) := by
  rw [← Lib.hasSuffix_of_drop]
  by_cases h : l = []
  · subst h; rfl
  · have hlen : 0 < l.length := List.length_pos_iff.2 h
    have hl : l.getLastD 0 = l[l.length - 1] := by
      rw [List.getLastD_eq_getLast?, List.getLast?_eq_getElem?, List.getElem?_eq_getElem (by omega)]; rfl
    rw [hl, List.length_singleton, List.drop_eq_getElem_cons (by omega), List.drop_of_length_le (by omega)]
    rw [show decide (1 ≤ l.length) = true from decide_eq_true hlen, Bool.true_and]
    show (l[l.length - 1] == 47 && true) = _
    rw [Bool.and_true]
theorem suffix_is (l : List UInt8) (b : Bool) (h : (l.getLastD 0 == 47) = b) (w : World) (hl : l.length ≤ 9223372036854775807) :
    Calls Tryd.prog 26 #[.string ⟨l.toArray⟩, .string ⟨#[47]⟩] w fun e w' => e = .returned (.bool b) ∧ w = w' :=
  (Tryd.strings_HasSuffix ⟨l.toArray⟩ ⟨#[47]⟩ w (by rw [size_mk]; exact hl)).mono fun e w' ⟨he, hw⟩ => ⟨by rw [he, ← h, ← suffix_slash], hw.symm⟩

set_option maxHeartbeats 1000000 in
theorem right4_any (name value : List UInt8) (n : Int) (w : World) (hv : value.length ≤ 1000) :
    Calls Tryd.prog 12 #[.agg #[.int .i64 4, .string ⟨name.toArray⟩, .string ⟨value.toArray⟩, .int .i64 n]] w fun e w' => e = .returned (.bool (slashB value && name.isEmpty && decide (n = 0))) ∧ Gr w w' := by
  by_cases hlt : 1 < value.length
  · obtain ⟨c, hc⟩ : ∃ c, (⟨value.toArray⟩ : ByteArray)[0]'(by rw [size_mk]; omega) = c := ⟨_, rfl⟩
    have hhd : value.headD 0 = c := by cases value with
      | nil => cases hlt
      | cons x t => exact hc
    by_cases h47 : c = 47
    · subst h47
      cases hb : (value.getLastD 0 == 47)
      · have hb' := Lib.hid hb
        have hs := Lib.hid (show slashB value = true by unfold slashB; rw [hhd, hb, decide_eq_true hlt]; rfl)
        clear hb hhd
        go_enter Tryd.func12, Tryd.ntmps12
        go_wp2_with (go_at_call 26; refine (suffix_is value _ hb'.out _ (by omega)).mono ?_; rintro e w1 ⟨rfl, rfl⟩)
        all_goals go_ret
        all_goals exact ⟨ret_bool (by first | (rw [hs.out, int_beq]; simp [*]; done) | (rw [hs.out]; simp [*]; done)), Gr.alloc _ _⟩
      · have hb' := Lib.hid hb
        have hs := Lib.hid (show slashB value = false by unfold slashB; rw [hb]; simp)
        clear hb hhd
        go_enter Tryd.func12, Tryd.ntmps12
        go_wp2_with (go_at_call 26; refine (suffix_is value _ hb'.out _ (by omega)).mono ?_; rintro e w1 ⟨rfl, rfl⟩)
        all_goals go_ret
        all_goals exact ⟨ret_bool (by rw [hs.out]; simp), Gr.alloc _ _⟩
    · have hs := Lib.hid (show slashB value = false by unfold slashB; rw [hhd, beq_eq_false_iff_ne.2 h47]; simp)
      have hne : ((c.toNat : Int) == 47) = false := beq_eq_false_iff_ne.2 (fun e => h47 (UInt8.toNat_inj.1 (by show c.toNat = 47; omega)))
      clear hhd h47
      go_enter Tryd.func12, Tryd.ntmps12
      go_wp2
      all_goals go_ret
      all_goals exact ⟨ret_bool (by rw [hs.out]; simp), Gr.alloc _ _⟩
  · have hs := Lib.hid (show slashB value = false by unfold slashB; rw [decide_eq_false hlt]; rfl)
    go_enter Tryd.func12, Tryd.ntmps12
    go_wp2
    all_goals go_ret
    all_goals exact ⟨ret_bool (by rw [hs.out]; simp), Gr.alloc _ _⟩

set_option maxHeartbeats 1000000 in
theorem right5_any (name value : List UInt8) (n : Int) (w : World) (hG : G w) (hn : name.length ≤ 1000) (hv : value.length ≤ 1000) :
    Calls Tryd.prog 12 #[.agg #[.int .i64 5, .string ⟨name.toArray⟩, .string ⟨value.toArray⟩, .int .i64 n]] w fun e w' => e = .returned (.bool (tokB name && tokB value && !ownB value && decide (n = 0))) ∧ Gr w w' := by
  have hG' := Lib.hid hG
  clear hG
  cases ht : tokB name
  · have ht' := Lib.hid ht
    clear ht
    go_enter Tryd.func12, Tryd.ntmps12
    go_wp2_with fail
    refine (token_is name _ ht'.out _ (by omega)).mono ?_
    rintro e w1 ⟨rfl, rfl⟩
    go_wp2
    go_ret
    exact ⟨ret_bool (by rfl), Gr.alloc _ _⟩
  · have ht' := Lib.hid ht
    clear ht
    cases hu : tokB value
    · have hu' := Lib.hid hu
      clear hu
      go_enter Tryd.func12, Tryd.ntmps12
      go_wp2_with fail
      refine (token_is name _ ht'.out _ (by omega)).mono ?_
      rintro e w1 ⟨rfl, rfl⟩
      go_wp2_with fail
      refine (token_is value _ hu'.out _ (by omega)).mono ?_
      rintro e w1 ⟨rfl, rfl⟩
      go_wp2
      go_ret
      exact ⟨ret_bool (by rfl), Gr.alloc _ _⟩
    · have hu' := Lib.hid hu
      clear hu
      cases ho : ownB value
      all_goals have ho' := Lib.hid ho
      all_goals clear ho
      all_goals
        go_enter Tryd.func12, Tryd.ntmps12
        go_wp2_with fail
        refine (token_is name _ ht'.out _ (by omega)).mono ?_
        rintro e w1 ⟨rfl, rfl⟩
        go_wp2_with fail
        refine (token_is value _ hu'.out _ (by omega)).mono ?_
        rintro e w1 ⟨rfl, rfl⟩
        go_wp2_with fail
        refine (own_is value _ ho'.out _ (hG'.out.gr (Gr.alloc _ _)) (by omega)).mono ?_
        rintro e w2 ⟨rfl, hb2⟩
        have d3 : w2.cell? ⟨w.heap.size, 3, none⟩ = some (.int .i64 n) := hb2.cell (by simp [go_sem])
        have hg2 := Lib.hid ((Gr.alloc _ _).trans hb2)
        clear hb2
        go_wp2
        go_ret
        exact ⟨ret_bool (by first | rfl | (rw [int_beq]; rfl)), hg2.out⟩

set_option maxHeartbeats 1000000 in
theorem right0_any (k : Int) (name value : List UInt8) (n : Int) (w : World) (h1 : (k == 1) = false) (h2 : (k == 2) = false) (h3 : (k == 3) = false) (h4 : (k == 4) = false) (h5 : (k == 5) = false) :
    Calls Tryd.prog 12 #[.agg #[.int .i64 k, .string ⟨name.toArray⟩, .string ⟨value.toArray⟩, .int .i64 n]] w fun e w' => e = .returned (.bool false) ∧ Gr w w' := by
  go_enter Tryd.func12, Tryd.ntmps12
  go_wp2
  go_ret
  exact ⟨rfl, Gr.alloc _ _⟩

/-- Right, of any step. -/
theorem right_any (s : Stp) (w : World) (hG : G w) (hn : s.name.length ≤ 1000) (hv : s.value.length ≤ 1000) :
    Calls Tryd.prog 12 #[s.V] w fun e w' => e = .returned (.bool (rightB s)) ∧ Gr w w' := by
  obtain ⟨k, name, value, n⟩ := s
  unfold Stp.V rightB
  dsimp only at hn hv ⊢
  by_cases h1 : k = 1
  · subst h1; rw [if_pos rfl, ← addB_eq]; exact right1_any name value n w hG hn hv
  by_cases h2 : k = 2
  · subst h2; exact right2_any name value n w hn
  by_cases h3 : k = 3
  · subst h3; exact right3_any name value n w
  by_cases h4 : k = 4
  · subst h4; exact right4_any name value n w hv
  by_cases h5 : k = 5
  · subst h5; exact right5_any name value n w hG hn hv
  rw [if_neg h1, if_neg h2, if_neg h3, if_neg h4, if_neg h5]
  exact right0_any k name value n w (beq_eq_false_iff_ne.2 h1) (beq_eq_false_iff_ne.2 h2) (beq_eq_false_iff_ne.2 h3) (beq_eq_false_iff_ne.2 h4) (beq_eq_false_iff_ne.2 h5)
end Go.Proofs.YtolpphmgobeocaaDoor
