/-
  Walks over package field: texts in small letters, words that are alike.
-/
import Derived.Test.YtpncfeaaffgkfaaGreatDoorA
import Derived.Test.YtpncfeaaffgkfaaGreatDoorRf
namespace Go.Proofs.YtpncfeaaffgkfaaGreatDoor
open Go.RowKit


def lowI (n : Int) : Int := if 65 ≤ n ∧ n ≤ 90 then n + 32 else n

set_option maxHeartbeats 400000 in
theorem smallc_any (n : Int) (w : World) (h0 : 0 ≤ n) (h1 : n ≤ 1114111) : Calls Tryz.prog 99 #[.int .i32 n] w fun e w' => e = .returned (.int .i32 (lowI n)) ∧ w = w' := by
  have hv := Lib.hid (show lowI n = if 65 ≤ n ∧ n ≤ 90 then n + 32 else n from rfl)
  go_enter Tryz.func99, Tryz.ntmps99
  go_wp2
  all_goals go_ret
  all_goals refine ⟨?_, rfl⟩
  all_goals rw [hv.out]
  all_goals (first | rw [if_neg (by omega)] | rw [if_pos (by omega)])
  all_goals first | rfl | go_num

theorem small_grows (w : World) : MapGrows Tryz.prog 99 #[] lowI w := fun W x hx _ =>
  (smallc_any x W (by omega) (by omega)).mono fun e w' ⟨he, hw⟩ => ⟨he, Gr.of_eq hw.symm⟩

set_option maxHeartbeats 400000 in
theorem small_any (l : List UInt8) (w : World) (hG : G w) (hl : l.length < 35184372088832) :
    Calls Tryz.prog 65 #[.string ⟨l.toArray⟩] w fun e w' => e = .returned (.string ⟨(Lib.mapD lowI l).toArray⟩) ∧ Gr w w' := by
  go_enter Tryz.func65, Tryz.ntmps65
  have hs : ByteArray.size ⟨l.toArray⟩ < 35184372088832 := by rw [size_mk]; exact hl
  have hs' := Lib.hid hs
  clear hs
  go_wp2_with fail
  refine (Tryz.strings_Map_grows _ _ (enters_of Tryz.func99 (by kernel_rfl) rfl) lowI ⟨l.toArray⟩ _ hs'.out (small_grows _) (fun x hx => by unfold lowI; split <;> omega) hG.utf).mono ?_
  rintro e w' ⟨rfl, hb⟩
  go_wp2
  go_ret
  exact ⟨rfl, hb⟩

set_option maxRecDepth 100000 in
theorem map_one (c : UInt8) (h : isLetter c = true) : Lib.mapD lowI [c] = [lower c] := by
  revert h
  refine u8_all (p := fun c => isLetter c = true → Lib.mapD lowI [c] = [lower c]) ?_ c
  decide +kernel

theorem small_one (c : UInt8) (w : World) (hG : G w) (h : isLetter c = true) :
    Calls Tryz.prog 65 #[.string ⟨#[c]⟩] w fun e w' => e = .returned (.string ⟨#[lower c]⟩) ∧ Gr w w' := by
  have := small_any [c] w hG (by simp)
  rwa [map_one c h] at this

/-- Alike at one place. -/
theorem alike_at {a b : List UInt8} {k : Nat} (ha : k < a.length) (hb : k < b.length) (h : lower a[k] ≠ lower b[k]) : alikeB a b = false := by
  unfold alikeB
  rw [beq_eq_false_iff_ne]
  intro e
  apply h
  have := congrArg (fun l => l[k]?) e
  simpa [ha, hb] using this
theorem lower_ne_of {a b : UInt8} (h : a ≠ b) (hl : isLetter a = false ∨ isLetter b = false) : lower a ≠ lower b := by
  intro e
  have ea := lower_toNat a
  have eb := lower_toNat b
  rw [e] at ea
  have hn : (a.toNat : Int) ≠ b.toNat := fun e => h (UInt8.toNat_inj.1 (by omega))
  rw [letter_eq, letter_eq] at hl
  simp at hl
  split at ea <;> split at eb <;> omega

theorem letter_later {w : World} (c : UInt8) (b : Bool) (h : isLetter c = b) (x : Later (Gr w)) : Calls Tryz.prog 61 #[.int .u8 c.toNat] x.w fun e w'' => e = .returned (.bool b) ∧ ∃ y : Later (Gr w), w'' = y.w :=
  Calls.later ((letter_any c x.w).mono fun _ _ ⟨he, hw⟩ => ⟨by rw [he, h], hw ▸ x.ok⟩)
theorem small_later {w : World} (hG : G w) (c : UInt8) (h : isLetter c = true) (x : Later (Gr w)) : Calls Tryz.prog 65 #[.string ⟨#[c]⟩] x.w fun e w'' => e = .returned (.string ⟨#[lower c]⟩) ∧ ∃ y : Later (Gr w), w'' = y.w :=
  Calls.later ((small_one c x.w (hG.gr x.ok) h).mono fun _ _ ⟨he, hw⟩ => ⟨he, x.ok.trans hw⟩)

set_option maxHeartbeats 1000000 in
theorem alike_any (a b : List UInt8) (w : World) (hG : G w) (hla : a.length ≤ 9223372036854775807) (_hlb : b.length ≤ 9223372036854775807) :
    Calls Tryz.prog 33 #[.string ⟨a.toArray⟩, .string ⟨b.toArray⟩] w fun e w' => e = .returned (.bool (alikeB a b)) ∧ Gr w w' := by
  by_cases hne : a.length = b.length
  · go_enter Tryz.func33, Tryz.ntmps33
    have hlen : ((a.length : Int) != b.length) = false := by simp [hne]
    go_wp2
    go_loopw [5, 13] (fun _ i wr => (∃ k : Nat, k ≤ a.length ∧ i = .int .i64 k ∧ (a.take k).map lower = (b.take k).map lower) ∧ Gr w wr) (fun _ i _ => a.length - (intOf i).toNat)
    case atStart => exact ⟨⟨0, Nat.zero_le _, rfl, rfl⟩, Gr.refl _⟩
    case round =>
      obtain ⟨⟨k, hk, rfl, hall⟩, hg⟩ := hrel
      have hall' := Lib.hid hall
      clear hall
      by_cases hlt : k < a.length
      · have hlt' : k < b.length := by omega
        have hG' := Lib.hid hG
        clear hG
        obtain ⟨ca, hca⟩ : ∃ c, (⟨a.toArray⟩ : ByteArray)[k]'(by rw [size_mk]; exact hlt) = c := ⟨_, rfl⟩
        obtain ⟨cb, hcb⟩ : ∃ c, (⟨b.toArray⟩ : ByteArray)[k]'(by rw [size_mk]; exact hlt') = c := ⟨_, rfl⟩
        have eca := Lib.hid (show a[k] = ca from hca)
        have ecb := Lib.hid (show b[k] = cb from hcb)
        have hxa : (⟨a.toArray⟩ : ByteArray).extract k (k + 1) = ⟨#[ca]⟩ := by rw [← hca]; exact extract_one a k hlt
        have hxb : (⟨b.toArray⟩ : ByteArray).extract k (k + 1) = ⟨#[cb]⟩ := by rw [← hcb]; exact extract_one b k hlt'
        haveI : Nonempty (Later (Gr w)) := ⟨⟨w, Gr.refl w⟩⟩
        have hg1 := hg.trans (Gr.drew' _)
        have next : lower ca = lower cb → (a.take (k + 1)).map lower = (b.take (k + 1)).map lower := fun e => by
          rw [List.take_succ_eq_append_getElem hlt, List.take_succ_eq_append_getElem hlt', List.map_append, List.map_append, hall'.out]; simp [eca.out, ecb.out, e]
        have bad : lower ca ≠ lower cb → alikeB a b = false := fun h => alike_at hlt hlt' (by rw [eca.out, ecb.out]; exact h)
        have next' := Lib.hid next
        have bad' := Lib.hid bad
        clear next bad
        by_cases hab : ca = cb
        · have h1 : ((ca.toNat : Int) != cb.toNat) = false := by rw [hab]; simp
          have hab' := Lib.hid hab
          clear hab
          go_wp2
          refine wp_region_later (C := Gr w) (by kernel_rfl) (by kernel_rfl) hg1 ?_
          repeat (go_big_quiet_step (fail))
          refine wpQuiet_nil ?_
          intro w2 hg2
          go_wp2
          go_roundw
          case rel => exact ⟨⟨k + 1, by omega, by go_num, next'.out (by rw [hab'.out])⟩, hg2⟩
          case measure => simp [intOf]; omega
        · have h1 : ((ca.toNat : Int) != cb.toNat) = true := by rw [bne_iff_ne]; intro e; exact hab (UInt8.toNat_inj.1 (by omega))
          have hab' := Lib.hid hab
          clear hab
          cases hA : isLetter ca
          · have hA' := Lib.hid hA
            clear hA
            go_wp2
            refine wp_region_later (C := Gr w) (by kernel_rfl) (by kernel_rfl) hg1 ?_
            repeat (go_big_quiet_step (exact letter_later _ false hA'.out _))
            refine wpQuiet_nil ?_
            intro w2 hg2
            go_wp2
            go_ret
            exact ⟨ret_bool (bad'.out (lower_ne_of hab'.out (.inl hA'.out))).symm, hg2⟩
          · have hA' := Lib.hid hA
            clear hA
            cases hB : isLetter cb
            · have hB' := Lib.hid hB
              clear hB
              go_wp2
              refine wp_region_later (C := Gr w) (by kernel_rfl) (by kernel_rfl) hg1 ?_
              repeat (go_big_quiet_step (first | with_reducible exact letter_later _ true hA'.out _ | with_reducible exact letter_later _ false hB'.out _))
              refine wpQuiet_nil ?_
              intro w2 hg2
              go_wp2
              go_ret
              exact ⟨ret_bool (bad'.out (lower_ne_of hab'.out (.inr hB'.out))).symm, hg2⟩
            · have hB' := Lib.hid hB
              clear hB
              go_wp2
              refine wp_region_later (C := Gr w) (by kernel_rfl) (by kernel_rfl) hg1 ?_
              repeat (go_big_quiet_step (first | with_reducible exact letter_later _ true hA'.out _ | with_reducible exact letter_later _ true hB'.out _ | with_reducible exact small_later hG'.out _ hA'.out _ | with_reducible exact small_later hG'.out _ hB'.out _))
              refine wpQuiet_nil ?_
              intro w2 hg2
              go_wp2
              · have ht : (!lower ca == lower cb) = true := by assumption
                go_ret
                exact ⟨ret_bool (bad'.out (by simpa using ht)).symm, hg2⟩
              · have ht : (!lower ca == lower cb) = false := by assumption
                go_roundw
                case rel => exact ⟨⟨k + 1, by omega, by go_num, next'.out (by simpa using ht)⟩, hg2⟩
                case measure => simp [intOf]; omega
      · go_wp2
        go_ret
        refine ⟨ret_bool ?_, hg⟩
        have h := hall'.out
        rw [List.take_of_length_le (by omega), List.take_of_length_le (by omega)] at h
        unfold alikeB
        rw [h]; simp
  · have hlen : ((a.length : Int) != b.length) = true := by rw [bne_iff_ne]; omega
    go_enter Tryz.func33, Tryz.ntmps33
    go_wp2
    go_ret
    refine ⟨ret_bool ?_, Gr.refl _⟩
    unfold alikeB
    exact (beq_eq_false_iff_ne.2 (fun e => hne (by simpa using congrArg List.length e))).symm
end Go.Proofs.YtpncfeaaffgkfaaGreatDoor
